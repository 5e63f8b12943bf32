/-
  Conditions: none. A framework for walks: abstract values, memory, and conditions that suffice; the chapters in plain terms.
-/
import Derived.Test.YtiagceoepkaeoaaGreatAb
import Derived.TacticsIn
set_option linter.unusedSectionVars false
set_option linter.unusedVariables false
set_option linter.unusedSimpArgs false
section
namespace Go.AX
theorem Fp {N:Nat→Prop}{w:World}{hp:List (Nat×aA)}{R:Real}{v:AV}{g:Fn}{a' c':List AV}{x:Value}(sJ:QS v=some (g,a',c'))(hx:ai N w hp R v x) :
  ∃fs cs:Array Value,x=.func g fs cs∧bT N w hp R a' fs.toList∧bT N w hp R c' cs.toList:=by
 unfold QS at sJ;split at sJ
 ·simp only[Option.some.injEq,Prod.mk.injEq] at sJ;obtain⟨rfl,rfl,rfl⟩:=sJ;simpa only[ai] using hx
 ·simp only[Option.some.injEq,Prod.mk.injEq] at sJ;obtain⟨rfl,rfl,rfl⟩:=sJ;simp only[ai,bE] at hx;obtain⟨fs,cs,e,h3,h4⟩:=hx;exact⟨fs,cs,e,oI _ _ h3,oI _ _ h4⟩
 cases sJ
theorem xu {N:Nat→Prop}{w:World}{hp:List (Nat×aA)}{R:Real}{vs us:List AV}{xs ys:List Value}(h:bT N w hp R vs xs)(h':bT N w hp R us ys):bT N w hp R (vs++us) (xs++ys):=by
 rw[eO] at h h' ⊢;exact h.app h'
def K2 (R:Real)(gF:Ren)(hp:List (Nat×aA))(v:AV)(x:Value):Prop:=
 match v with
 |.ptr k off=>k<999∧∃b d,lk gF k=some (b,d)∧aX R b off x (lk hp b)
 |.aB k ver=>k<999∧∃b d,lk gF k=some (b,d)∧aS R b (ver+d) x (lk hp b)
 |.bn k ver i off=>k<999∧∃b d,lk gF k=some (b,d)∧aZ R b (ver+d) i off x (lk hp b)
 |_=>False
section
variable {P:Program}{c:Ctx}{R:Real}{s:AS}{a:Act}{w:World}
def DD (R:Real)(inv:Inv)(hp:List (Nat×aA))(r:Nat):Prop:=∃b k d,lk inv b=some (k,d)∧aI R b r (lk hp b)
def Fq (g:bB c R s a w)(inv:Inv)(gF:Ren):Ctx where
 F r:=aT c R s.hp r∧¬DD R inv s.hp r
 O:=DD R inv s.hp
 w:=w
 n:=0
 hF r h:=g.Nlt h.1
 K:=K2 R gF s.hp
 hK v x h:=by
  cases v<;>simp only[K2] at h<;>have h:=h.1<;>simp only[kg,Bool.and_eq_true,Nat.blt_eq,Bool.not_eq_true']<;>first
   |omega
   |exact⟨by omega,by cases hb:Nat.beq _ 999 with|false=>rfl|true=>(have:=Nat.eq_of_beq_eq_true hb;omega)⟩
 fix _:=none
 n0:=R.Y.n0
 lo:=w.heap.size
theorem XY (g:bB c R s a w){inv:Inv}{gF:Ren}{l9:List (Nat×aA)}(h1:∀b k d,lk inv b=some (k,d)→lk gF k=some (b,d))(h1':∀b k d,lk gF k=some (b,d)→lk inv b=some (k,d))
  (h2:∀k b d,lk gF k=some (b,d)→∃box,lk s.hp b=some box∧d=om box∧lk l9 k=some (kS inv box))
  (h3:∀k box0,lk l9 k=some box0→∃b box,lk gF k=some (b,om box)∧lk s.hp b=some box∧box0=kS inv box) (h4:∀k x y z u,lk l9 k≠some (.tr x y z u)) :
  Hq (Fq g inv gF) (P5 gF R) l9 w∧(∀r,aT (Fq g inv gF) (P5 gF R) l9 r→aT c R s.hp r):=by
 have ho:∀k r,aI (P5 gF R) k r (lk l9 k)→∃b d,lk gF k=some (b,d)∧aI R b r (lk s.hp b):=by
  intro k r h;cases hk:lk l9 k with
  |none=>rw[hk] at h;exact h.elim
  | some box0=>
    obtain⟨b,box,a1,a2,rfl⟩:=h3 k box0 hk;obtain⟨e1,e2,e3⟩:=Fh (R:=R) a1;refine⟨b,_,a1,?_⟩;rw[hk] at h;rw[a2];cases box<;>simp only[aI,kS,e1,e2,e3] at h ⊢ <;> exact h
 have hod:∀r,owned (P5 gF R) l9 r→DD R inv s.hp r:=by
  rintro r ⟨k,h⟩
  obtain⟨b,d,a1,a2⟩:=ho k r h;exact⟨b,k,d,h1' b k d a1,a2⟩
 have hN:∀r,aT (Fq g inv gF) (P5 gF R) l9 r→aT c R s.hp r:=by
  rintro r (h|h)
  ·exact h.1
  obtain⟨b,k,d,_,h⟩:=hod r h;exact .inr ⟨b,h⟩
 refine⟨⟨fun k box0 hk=>?_,fun k k' r ha hb=>?_,fun r hr hF=>hF.2 (hod r hr),nI.refl _ _,fun r hr=>.inl (hod r hr),fun v x hK=>?_,uz.none,⟨rfl,by show R.Y.n0.1≤w.heap.size;rw[g.lo.1];exact Nat.le_trans g.lo.2.1 g.lo.2.2,Nat.le_refl _⟩⟩,hN⟩
 ·obtain⟨b,box,a1,a2,rfl⟩:=h3 k box0 hk;obtain⟨e1,e2,e3⟩:=Fh (R:=R) a1;have hr:=g.boxes b box a2;cases box with
  | var cells=>
    obtain⟨cur,e,b1,b2⟩:=hr;exact⟨cur,e,by rw[e1];exact b1,rE h1 h2 hN _ _ b2⟩
  | sD cells=>
    obtain⟨cur,e,fr,b1,b2,b3⟩:=hr;exact⟨cur,e,fr,by rw[e1];exact b1,by rw[e1];exact fun h=>b2 (hN _ h),bX (fun r _ h=>hN r h) (fun _ _ _=>rfl) _ _ b3⟩
  | arr e ver st rows=>
    obtain⟨xs,b1,b2⟩:=hr;exact⟨xs,by rw[KQ a1];exact b1,aV (fun r _ h=>hN r h) (fun _ _ _=>rfl) _ _ _ b2⟩
  | kE ver st rows=>
    simp only[kS,eB,KQ a1] at hr ⊢;exact dw (fun r _ h=>hN r h) (fun _ _ _=>rfl) _ _ hr
  |tr y ver rest st=>exact absurd hk (h4 _ _ _ _ _)
  | mp kk kv es=>
    obtain⟨cur,clock,b1,b2,b3⟩:=hr;exact⟨cur,clock,by rw[e1];exact b1,by rw[e2];exact b2,b3⟩
  |fP e ver st j ed sd pre row post=>exact jI (fun r _ h=>hN r h) (fun _ _ _=>rfl) e1 e2 e3 (fun _ _=>rfl) (xq _ _) (fun vs h=>rE h1 h2 hN _ _ h) hr
  | dN e ver st pre row post=>
    obtain⟨xs,b1,b2,b3,b4,b5⟩:=hr;refine⟨xs,by rw[KQ a1];exact b1,aV (fun r _ h=>hN r h) (fun _ _ _=>rfl) _ _ _ b2,by rw[xq];exact b3,rE h1 h2 hN _ _ b4,aV (fun r _ h=>hN r h) (fun _ _ _=>rfl) _ _ _ b5⟩
 ·obtain⟨b,d,a1,a2⟩:=ho k r ha;obtain⟨b',d',b1,b2⟩:=ho k' r hb;have:=g.inj b b' r a2 b2;subst this;have e1:=h1' b k d a1;have e2:=h1' b k' d' b1;rw[e1] at e2;simp only[Option.some.injEq,Prod.mk.injEq] at e2;exact e2.1
 cases v<;>simp only[Fq,K2] at hK
 ·obtain⟨_,b,d,a1,a2⟩:=hK;simp only[ai];exact Fj h1 h2 (h1' b _ d a1) a2
 ·obtain⟨_,b,d,a1,a2⟩:=hK;simp only[ai];have:=Jt h1 h2 (h1' b _ d a1) (Nat.le_add_left _ _) a2;rwa [Nat.add_sub_cancel] at this
 obtain⟨_,b,d,a1,a2⟩:=hK;simp only[ai];have:=BP h1 h2 (h1' b _ d a1) (Nat.le_add_left _ _) a2;rwa [Nat.add_sub_cancel] at this
theorem Ti (g:bB c R s a w){inv:Inv}{gF ρ:Ren}{hp':List (Nat×aA)}{R2:Real}{w':World}{id:Nat}
  (h1:∀b k d,lk inv b=some (k,d)→lk gF k=some (b,d)) (h1':∀b k d,lk gF k=some (b,d)→lk inv b=some (k,d))
  (h2:∀k b d,lk gF k=some (b,d)→∃box,lk s.hp b=some box∧d=om box) (h4:∀k b d,lk gF k=some (b,d)→∀x y z u,lk s.hp b≠some (.tr x y z u))
  (Jv:∀k p,lk gF k=some p→k<999∧∃box,lk hp' k=some box) (hnew:∀b∈vL gF id hp',lk s.hp b=none) (hkeys:y9 hp'=true)
  (hρ:ρ=BM gF id hp') (XZ:∀k x y z u,lk hp' k≠some (.tr x y z u)) (h:Hq (Fq g inv gF) R2 hp' w') :
  bB c (upR ρ R R2 hp') (s.app (iG ρ hp')) a w' ∧
   ∀v x,ai (aT (Fq g inv gF) R2 hp') w' hp' R2 v x→ai (aT c (upR ρ R R2 hp') (iG ρ hp'++s.hp)) w' (iG ρ hp'++s.hp) (upR ρ R R2 hp') (lU ρ v) x:=by
 have U9:∀k box,lk hp' k=some box→(∃b d,lk gF k=some (b,d)∧jg ρ k=b∧DV ρ k=d)∨(lk gF k=none∧jg ρ k=id+1000000*k∧DV ρ k=0∧lk s.hp (jg ρ k)=none):=by
  intro k box hk;have e:lk ρ k=some (Fe gF id k):=by rw[hρ,Js,hk];rfl
  cases hf:lk gF k with
  | some p=>
    obtain⟨b,d⟩:=p;refine .inl ⟨b,d,rfl,?_,?_⟩<;>simp[jg,DV,e,Fe,hf]
  | none=>
    have e1:jg ρ k=id+1000000*k:=by simp[jg,e,Fe,hf]
    refine .inr ⟨rfl,e1,by simp[DV,e,Fe,hf],?_⟩;rw[e1];exact hnew _ (Fg hk hf)
 have hinj:∀k k' box bD,lk hp' k=some box→lk hp' k'=some bD→jg ρ k'=jg ρ k→k'=k:=by
  intro k k' box bD hk hk' e;rcases U9 k box hk with ⟨b,d,a1,a2,a3⟩|⟨a1,a2,a3,a4⟩<;>rcases U9 k' bD hk' with ⟨b',d',b1,b2,b3⟩|⟨b1,b2,b3,b4⟩
  ·rw[a2,b2] at e;subst e;have e1:=h1' _ k d a1;have e2:=h1' _ k' d' b1;rw[e1] at e2;simp only[Option.some.injEq,Prod.mk.injEq] at e2;exact e2.1.symm
  ·obtain⟨bx,c1,_⟩:=h2 k b d a1;rw[e,a2,c1] at b4;cases b4
  ·obtain⟨bx,c1,_⟩:=h2 k' b' d' b1;rw[←e,b2,c1] at a4;cases a4
  rw[a2,b2] at e;omega
 have hit:∀k box,lk hp' k=some box→lk (hp'.map fun x=>(jg ρ x.1,x.1)) (jg ρ k)=some k:=fun k box hk=>
  Np (fun k' bD hk' e=>hinj k k' box bD hk hk' e) hkeys hk
 generalize hX:(hp'.map fun x=>(jg ρ x.1,x.1))=X at hit;let R':=upR ρ R R2 hp'
 have hRk:∀k box,lk hp' k=some box→R'.blk (jg ρ k)=R2.blk k∧R'.nil (jg ρ k)=R2.nil k∧R'.cap (jg ρ k)=R2.cap k:=by
  intro k box hk;have:=hit k box hk;rw[←hX] at this;simp only[R',upR,this];exact⟨trivial,trivial,trivial⟩
 have hRn:∀b,lk X b=none→R'.blk b=R.blk b∧R'.nil b=R.nil b∧R'.cap b=R.cap b:=by
  intro b hb;rw[←hX] at hb;simp only[R',upR,hb];exact⟨trivial,trivial,trivial⟩
 have hlk:∀k box,lk hp' k=some box→lk (iG ρ hp'++s.hp) (jg ρ k)=some (fM ρ k box):=by
  intro k box hk;have:=hit k box hk;rw[←hX] at this;obtain⟨_,bx,c1,c2⟩:=BQ hkeys this;rw[hk] at c1;cases c1;have hmem:∀{l l':List (Nat×aA)} {b:Nat} {y:aA},lk l b=some y→lk (l++l') b=some y:=by
   intro l l' b y;induction l with
   |nil=>intro h;simp[lk] at h
   | cons z l ih=>
     obtain⟨zk,zv⟩:=z;intro h;rw[List.cons_append,ax];rw[ax] at h;split at h
     ·rename_i e;rw[if_pos e];exact h
     rename_i e;rw[if_neg e];exact ih h
  exact hmem c2
 have hln:∀b,lk X b=none→lk (iG ρ hp'++s.hp) b=lk s.hp b:=by
  intro b hb;rw[←hX] at hb;have:=Ju hb;have hmem:∀{l l':List (Nat×aA)} {b:Nat},lk l b=none→lk (l++l') b=lk l' b:=by
   intro l l' b;induction l with
   |nil=>intro _;rfl
   | cons z l ih=>
     obtain⟨zk,zv⟩:=z;intro h;rw[List.cons_append,ax];rw[ax] at h;split at h
     ·cases h
     rename_i e;rw[if_neg e];exact ih h
  exact hmem this
 have hcase:∀b,lk X b=none∨∃k box,b=jg ρ k∧lk hp' k=some box:=by
  intro b;cases hb:lk X b with
  |none=>exact .inl rfl
  | some k=>
    rw[←hX] at hb;obtain⟨e,bx,c1,_⟩:=BQ hkeys hb;exact .inr ⟨k,bx,e,c1⟩
 have hXd:∀b k d,lk inv b=some (k,d)→lk X b≠none:=by
  intro b k d hb hn;have hf:=h1 b k d hb;obtain⟨_,bx,hk⟩:=Jv k _ hf;have:=hit k bx hk;rcases U9 k bx hk with ⟨b',d',a1,a2,a3⟩|⟨a1,_⟩
  ·rw[hf] at a1;simp only[Option.some.injEq,Prod.mk.injEq] at a1;rw[a2,←a1.1,hn] at this;cases this
  rw[hf] at a1;cases a1
 have Dc:∀b r,lk X b=none→aI R' b r (lk (iG ρ hp'++s.hp) b)→aI R b r (lk s.hp b):=by
  intro b r hb h';rw[hln b hb] at h';exact fU (hRn b hb) rfl h'
 have Df:∀k box r,lk hp' k=some box→aI R' (jg ρ k) r (lk (iG ρ hp'++s.hp) (jg ρ k))→aI R2 k r (lk hp' k):=by
  intro k box r hk h';rw[hlk k box hk] at h';rw[hk];obtain⟨e1,e2,e3⟩:=hRk k box hk;cases box<;>simp only[aI,fM,e1,e2,e3] at h' ⊢ <;> first
   |exact h'
   |exact absurd hk (XZ _ _ _ _ _)
 have agW:∀b r,lk X b=none→aI R b r (lk s.hp b)→¬DD R inv s.hp r:=by
  rintro b r hb ho ⟨b',k,d,hi,ho'⟩
  have:=g.inj b b' r ho ho';subst this;exact hXd b k d hi hb
 have X0:∀b r,lk X b=none→aI R b r (lk s.hp b)→(Fq g inv gF).F r:=fun b r hb ho=>⟨.inr ⟨b,ho⟩,agW b r hb ho⟩
 have agX:∀r,c.F r→(Fq g inv gF).F r:=fun r hr=>⟨.inl hr,fun⟨b,k,d,_,ho⟩=>g.free r ⟨b,ho⟩ hr⟩
 have DN:∀r,DD R inv s.hp r→owned R s.hp r:=fun r ⟨b,k,d,_,ho⟩=>⟨b,ho⟩
 have N2:∀r,aT c R' (iG ρ hp'++s.hp) r→aT (Fq g inv gF) R2 hp' r:=by
  rintro r (h'|⟨b,h'⟩)
  ·exact .inl (agX r h')
  rcases hcase b with hb|⟨k,box,rfl,hk⟩
  ·exact .inl (X0 b r hb (Dc b r hb h'))
  exact .inr ⟨k,Df k box r hk h'⟩
 have NN:∀r,r<w.heap.size→aT c R' (iG ρ hp'++s.hp) r→aT c R s.hp r:=by
  intro r hr h';rcases N2 r h' with h'|h'
  ·exact h'.1
  rcases h.iL r h' with h'|h'
  ·exact .inr (DN r h')
  exact absurd hr (Nat.not_lt.2 h')
 have WW:∀r,r<w.heap.size→¬aT c R s.hp r→w'.heap[r]? = w.heap[r]? :=fun r hr hn=>h.jE.keep r hr fun hd=>hn (.inr (DN r hd))
 have P1:∀k box,lk hp' k=some box→∀off v,aX R2 k off v (lk hp' k)→aX R' (jg ρ k) off v (lk (iG ρ hp'++s.hp) (jg ρ k)):=by
  intro k box hk off v hr;rw[hlk k box hk];rw[hk] at hr;obtain⟨e1,e2,e3⟩:=hRk k box hk;cases box<;>simp only[aX,fM,e1] at hr ⊢ <;> exact hr
 have P2:∀k box,lk hp' k=some box→∀ver v,aS R2 k ver v (lk hp' k)→aS R' (jg ρ k) (ver+DV ρ k) v (lk (iG ρ hp'++s.hp) (jg ρ k)):=by
  intro k box hk ver v hr;rw[hlk k box hk];rw[hk] at hr;obtain⟨e1,e2,e3⟩:=hRk k box hk;cases box<;>simp only[aS,fM,aev,BI e1 e2 e3] at hr ⊢ <;> first
   |exact hr
   |exact⟨Nat.zero_le _,hr.2.1,hr.2.2⟩
   |exact⟨by omega,hr.2.1,fun he=>hr.2.2 (by omega)⟩
 have P3:∀k box,lk hp' k=some box→∀ver i off v,aZ R2 k ver i off v (lk hp' k)→aZ R' (jg ρ k) (ver+DV ρ k) i off v (lk (iG ρ hp'++s.hp) (jg ρ k)):=by
  intro k box hk ver i off v hr;rw[hlk k box hk];rw[hk] at hr;obtain⟨e1,e2,e3⟩:=hRk k box hk;cases box<;>simp only[aZ,fM,e1,e2] at hr ⊢ <;> first
   |exact hr
   |exact absurd hk (XZ _ _ _ _ _)
   |exact⟨Nat.zero_le _,hr.2.1,hr.2.2⟩
   |exact⟨by omega,hr.2.1,fun he=>hr.2.2 (by omega)⟩
 have Q1:∀b off v,aX R b off v (lk s.hp b)→aX R' b off v (lk (iG ρ hp'++s.hp) b):=by
  intro b off v hr;rcases hcase b with hb|⟨k,box,rfl,hk⟩
  ·rw[hln b hb];exact jW (hRn b hb) hr
  rcases U9 k box hk with ⟨b,d,a1,a2,a3⟩|⟨a1,a2,a3,a4⟩
  ·rw[a2] at hr;have:=h.kept (.ptr k off) v ⟨(Jv k _ a1).1,b,d,a1,hr⟩;simp only[ai] at this;exact P1 k box hk off v this
  rw[a4] at hr;exact hr.elim
 have cur:∀k b d,lk gF k=some (b,d)→∀box,lk hp' k=some box→(∃ver v,aS R b ver v (lk s.hp b))→∃v',aS R b (0+d) v' (lk s.hp b):=by
  rintro k b d hk box hb ⟨ver,v,hr⟩
  obtain⟨bx,c1,c2⟩:=h2 k b d hk;rw[c1] at hr ⊢;cases bx<;>simp only[aS] at hr
  ·simp only[om] at c2;subst c2;exact⟨bY R b _,by omega,by unfold bY;split<;>rfl,fun _=>rfl⟩
  ·simp only[om] at c2;subst c2;exact⟨bY R b _,by omega,by unfold bY;split<;>rfl,fun _=>rfl⟩
  ·simp only[om] at c2;subst c2;exact⟨bY R b _,by omega,by unfold bY;split<;>rfl,fun _=>rfl⟩
  simp only[om] at c2;subst c2;exact⟨bY R b _,by omega,by unfold bY;split<;>rfl,fun _=>rfl⟩
 have Q2:∀b ver v,aS R b ver v (lk s.hp b)→aS R' b ver v (lk (iG ρ hp'++s.hp) b):=by
  intro b ver v hr;rcases hcase b with hb|⟨k,box,rfl,hk⟩
  ·rw[hln b hb];exact lu (hRn b hb) hr
  rcases U9 k box hk with ⟨b,d,a1,a2,a3⟩|⟨a1,a2,a3,a4⟩
  ·rw[a2] at hr;by_cases hd:d≤ver
   ·have:=h.kept (.aB k (ver-d)) v ⟨(Jv k _ a1).1,b,d,a1,by rw[Nat.sub_add_cancel hd];exact hr⟩;simp only[ai] at this;have:=P2 k box hk _ v this;rwa [a3,Nat.sub_add_cancel hd] at this
   obtain⟨v',hv'⟩:=cur k b d a1 box hk ⟨ver,v,hr⟩;have:=h.kept (.aB k 0) v' ⟨(Jv k _ a1).1,b,d,a1,hv'⟩;simp only[ai] at this;have:=P2 k box hk _ v' this;rw[a3] at this;have hone:v.oneCell'=true:=by
    cases hb2:lk s.hp b with
    |none=>rw[hb2] at hr;exact hr.elim
    |some bx=>rw[hb2] at hr;cases bx<;>simp only[aS] at hr<;>first|exact hr.2.1|exact hr.elim
   cases hb3:lk (iG ρ hp'++s.hp) (jg ρ k) with
   |none=>rw[hb3] at this;exact this.elim
   | some bx=>
     rw[hb3] at this;cases bx<;>simp only[aS] at this ⊢ <;> exact⟨by omega,hone,fun e=>by omega⟩
  rw[a4] at hr;exact hr.elim
 have aji:∀k b d,lk gF k=some (b,d)→∀box,lk hp' k=some box→d≠0→(∃ver i off v,aZ R b ver i off v (lk s.hp b))→∃v',aS R b (0+d) v' (lk s.hp b):=by
  rintro k b d hk box hb hd0 ⟨ver,i,off,v,hr⟩
  obtain⟨bx,c1,c2⟩:=h2 k b d hk;rw[c1] at hr ⊢;cases bx<;>simp only[aZ] at hr
  ·simp only[om] at c2;subst c2;exact⟨bY R b _,by omega,by unfold bY;split<;>rfl,fun _=>rfl⟩
  ·simp only[om] at c2;subst c2;exact⟨bY R b _,by omega,by unfold bY;split<;>rfl,fun _=>rfl⟩
  ·exact absurd c1 (h4 k b d hk _ _ _ _)
  ·simp only[om] at c2;subst c2;exact⟨bY R b _,by omega,by unfold bY;split<;>rfl,fun _=>rfl⟩
  ·exact absurd c2 hd0
  simp only[om] at c2;subst c2;exact⟨bY R b _,by omega,by unfold bY;split<;>rfl,fun _=>rfl⟩
 have Q3:∀b ver i off v,aZ R b ver i off v (lk s.hp b)→aZ R' b ver i off v (lk (iG ρ hp'++s.hp) b):=by
  intro b ver i off v hr;rcases hcase b with hb|⟨k,box,rfl,hk⟩
  ·rw[hln b hb];exact lD (hRn b hb) hr
  rcases U9 k box hk with ⟨b,d,a1,a2,a3⟩|⟨a1,a2,a3,a4⟩
  ·rw[a2] at hr;by_cases hd:d≤ver
   ·have:=h.kept (.bn k (ver-d) i off) v ⟨(Jv k _ a1).1,b,d,a1,by rw[Nat.sub_add_cancel hd];exact hr⟩;simp only[ai] at this;have:=P3 k box hk _ i off v this;rwa [a3,Nat.sub_add_cancel hd] at this
   obtain⟨v',hv'⟩:=aji k b d a1 box hk (by omega) ⟨ver,i,off,v,hr⟩;have:=h.kept (.aB k 0) v' ⟨(Jv k _ a1).1,b,d,a1,hv'⟩;simp only[ai] at this;have:=P2 k box hk _ v' this;rw[a3] at this;have hone:v.oneCell'=true:=by
    cases hb2:lk s.hp b with
    |none=>rw[hb2] at hr;exact hr.elim
    |some bx=>rw[hb2] at hr;cases bx<;>simp only[aZ] at hr<;>first|exact hr.2.1|exact hr.elim
   cases hb3:lk (iG ρ hp'++s.hp) (jg ρ k) with
   |none=>rw[hb3] at this;exact this.elim
   | some bx=>
     rw[hb3] at this;cases bx<;>simp only[aS] at this<;>simp only[aZ]<;>exact⟨by omega,hone,fun e=>by omega⟩
  rw[a4] at hr;exact hr.elim
 have Tj:∀k box,lk hp' k=some box→lk (iG ρ hp'++s.hp) (jg ρ k)=some (fM ρ k box)∧R'.blk (jg ρ k)=R2.blk k∧R'.nil (jg ρ k)=R2.nil k∧R'.cap (jg ρ k)=R2.cap k:=
  fun k box hk=>⟨hlk k box hk,hRk k box hk⟩
 have Id1:∀b off v,aX R' b off v (lk (iG ρ hp'++s.hp) b)→aX R' b off v (lk (iG ρ hp'++s.hp) b):=fun _ _ _ h=>h
 have Id2:∀b ver v,aS R' b ver v (lk (iG ρ hp'++s.hp) b)→aS R' b ver v (lk (iG ρ hp'++s.hp) b):=fun _ _ _ h=>h
 have Id3:∀b ver i off v,aZ R' b ver i off v (lk (iG ρ hp'++s.hp) b)→aZ R' b ver i off v (lk (iG ρ hp'++s.hp) b):=fun _ _ _ _ _ h=>h
 have N2':∀r,r<w'.heap.size→aT c R' (iG ρ hp'++s.hp) r→aT (Fq g inv gF) R2 hp' r:=fun r _=>N2 r
 have W2:∀r,r<w'.heap.size→¬aT (Fq g inv gF) R2 hp' r→w'.heap[r]? = w'.heap[r]? :=fun _ _ _=>rfl
 have WO:∀r,r<w.heap.size→¬owned R s.hp r→w'.heap[r]? = w.heap[r]? :=fun r hr hn=>h.jE.keep r hr fun hd=>hn (DN r hd)
 have OO:∀r,r<w.heap.size→owned R' (iG ρ hp'++s.hp) r→owned R s.hp r:=by
  rintro r hr ⟨b,h'⟩
  rcases hcase b with hb|⟨k,box,rfl,hk⟩
  ·exact⟨b,Dc b r hb h'⟩
  rcases h.iL r ⟨k,Df k box r hk h'⟩ with h'|h'
  ·exact DN r h'
  exact absurd hr (Nat.not_lt.2 h')
 refine⟨⟨fun t v hv=>?_,g.size,⟨g.lo.1,g.lo.2.1,Nat.le_trans g.lo.2.2 h.jE.size⟩,g.marks.imp fun Ds hm=>hm.kept WO OO,g.fixed.kept WO OO,fun b box hb=>?_,fun b b' r ha hb=>?_,fun r ⟨b,hr⟩ hF=>?_,?_,fun r ⟨b,hr⟩=>?_,fun v x hK=>bZ NN WW Q1 Q2 Q3 v x (g.kept v x hK)⟩,fun v x hv=>?_⟩
 ·obtain⟨x,hx,hr⟩:=g.slots t v hv;exact⟨x,hx,bZ NN WW Q1 Q2 Q3 v x hr⟩
 ·simp only[AS.app] at hb ⊢;rcases hcase b with hbn|⟨k,bx,rfl,hk⟩
  ·have hb0:=hb;rw[hln b hbn] at hb;have hr:=g.boxes b box hb;have hRb:=hRn b hbn;have hkeep:∀r,aI R b r (lk s.hp b)→w'.heap[r]? = w.heap[r]? :=fun r ho=>h.jE.keep r (g.ko ho) (agW b r hbn ho)
   rw[hb] at hkeep;cases box with
   | var cells=>
     obtain⟨cur,e',h8,h9⟩:=hr;refine⟨cur,e',?_,bI NN WW Q1 Q2 Q3 _ _ h9⟩;rw[hRb.1,hkeep _ rfl];exact h8
   | sD cells=>
     obtain⟨cur,e',fr,h8,h7,h9⟩:=hr;have hs:=size_of_getElem? h8;refine⟨cur,e',fr,?_,?_,bX NN WW _ _ h9⟩
     ·rw[hRb.1,WW _ hs h7];exact h8
     rw[hRb.1];exact fun x=>h7 (NN _ hs x)
   | arr e' ver st rows=>
     obtain⟨xs,h8,h9⟩:=hr;refine⟨xs,?_,aV NN WW _ _ _ h9⟩;rw[jo hRb];refine dD h8 fun k hk=>hkeep k ?_
     simp only[bY] at hk;cases hnil:R.nil b with
     |true=>simp[hnil,Value.ownBlock] at hk
     |false=>simp[hnil,Value.ownBlock] at hk;exact⟨hnil,hk⟩
   | kE ver st rows=>
     simp only[eB] at hr ⊢;rw[show bY (upR ρ R R2 hp') b rows.length=bY R b rows.length from jo hRb];exact dw NN WW _ _ hr
   | tr y ver rest st=>
     obtain⟨k0,kh,k1,k2,k3,k4⟩:=hr;simp only[eB,show (upR ρ R R2 hp').nil b=R.nil b from hRb.2.1];refine⟨k0,kh,k1,k2.step h.jE fun r hr ⟨b2,k,d,hi,ho⟩=>?_,k3,fun r hn=>?_⟩
     ·rcases k4 r (.inr ⟨b2,ho⟩) with hd|hz|hs
      ·exact absurd (g.inj b2 b r ho (by rw[hb];exact hd)) fun e=>hXd b2 k d hi (e▸hbn)
      ·exact hz
      omega
     by_cases hlt:r<w.heap.size
     ·exact k4 r (NN r hlt hn)
     exact .inr (.inr (by have:=k2.size;show R.Y.wy.heap.size≤r;omega))
   | mp kk kv es=>
     obtain⟨cur,clock,h8,h9,h10⟩:=hr;exact⟨cur,clock,by rw[hRb.1,hkeep _ ⟨h9,rfl⟩];exact h8,by rw[hRb.2.1];exact h9,h10⟩
   |fP e' ver st j ed sd pre row post=>exact jI NN WW hRb.1 hRb.2.1 hRb.2.2 (fun k hk=>hkeep k hk) rfl (fun vs h=>bI NN WW Q1 Q2 Q3 _ _ h) hr
   | dN e' ver st pre row post=>
     obtain⟨xs,h8,h9,h10,h11,h12⟩:=hr;refine⟨xs,?_,aV NN WW _ _ _ h9,h10,bI NN WW Q1 Q2 Q3 _ _ h11,aV NN WW _ _ _ h12⟩;rw[jo hRb];refine dD h8 fun k hk=>hkeep k ?_
     simp only[bY] at hk;cases hnil:R.nil b with
     |true=>simp[hnil,Value.ownBlock] at hk
     |false=>simp[hnil,Value.ownBlock] at hk;exact⟨hnil,hk⟩
  rw[hlk k bx hk] at hb;cases hb;have hr:=h.boxes k bx hk;obtain⟨e1,e2,e3⟩:=hRk k bx hk;cases bx with
  | var cells=>
    obtain⟨cur,e',h8,h9⟩:=hr;exact⟨cur,e',by rw[e1];exact h8,bI N2' W2 Id1 Id2 Id3 _ _ (vH Tj _ _ h9)⟩
  | sD cells=>
    obtain⟨cur,e',fr,h8,h7,h9⟩:=hr;exact⟨cur,e',fr,by rw[e1];exact h8,by rw[e1];exact fun x=>h7 (N2 _ x),bX N2' W2 _ _ h9⟩
  | arr e' ver st rows=>
    obtain⟨xs,h8,h9⟩:=hr;exact⟨xs,by rw[BI e1 e2 e3];exact h8,aV N2' W2 _ _ _ h9⟩
  | kE ver st rows=>
    simp only[fM,eB] at hr ⊢;rw[show bY (upR ρ R R2 hp') (jg ρ k) rows.length=bY R2 k rows.length from BI e1 e2 e3];exact dw N2' W2 _ _ hr
  |tr y ver rest st=>exact absurd hk (XZ _ _ _ _ _)
  | mp kk kv es=>
    obtain⟨cur,clock,h8,h9,h10⟩:=hr;exact⟨cur,clock,by rw[e1];exact h8,by rw[e2];exact h9,h10⟩
  |fP e' ver st j ed sd pre row post=>exact jI N2' W2 e1 e2 e3 (fun _ _=>rfl) (xk _ _) (fun vs h=>bI N2' W2 Id1 Id2 Id3 _ _ (vH Tj _ _ h)) hr
  | dN e' ver st pre row post=>
    obtain⟨xs,h8,h9,h10,h11,h12⟩:=hr;exact⟨xs,by rw[BI e1 e2 e3];exact h8,aV N2' W2 _ _ _ h9,by rw[xk];exact h10,bI N2' W2 Id1 Id2 Id3 _ _ (vH Tj _ _ h11),aV N2' W2 _ _ _ h12⟩
 ·simp only[AS.app] at ha hb;rcases hcase b with hbn|⟨k,bx,rfl,hk⟩<;>rcases hcase b' with aex|⟨k',bx',rfl,hk'⟩
  ·exact g.inj b b' r (Dc b r hbn ha) (Dc b' r aex hb)
  ·exact absurd (X0 b r hbn (Dc b r hbn ha)) (h.free r ⟨k',Df k' bx' r hk' hb⟩)
  ·exact absurd (X0 b' r aex (Dc b' r aex hb)) (h.free r ⟨k,Df k bx r hk ha⟩)
  rw[h.inj k k' r (Df k bx r hk ha) (Df k' bx' r hk' hb)]
 ·simp only[AS.app] at hr;rcases hcase b with hbn|⟨k,bx,rfl,hk⟩
  ·exact g.free r ⟨b,Dc b r hbn hr⟩ hF
  exact h.free r ⟨k,Df k bx r hk hr⟩ (agX r hF)
 ·exact g.jE.trans h.jE fun r hr hd=>(g.iL r (DN r hd)).resolve_right (by omega)
 ·simp only[AS.app] at hr;rcases hcase b with hbn|⟨k,bx,rfl,hk⟩
  ·exact g.iL r ⟨b,Dc b r hbn hr⟩
  rcases h.iL r ⟨k,Df k bx r hk hr⟩ with h'|h'
  ·exact g.iL r (DN r h')
  exact .inr (Nat.le_trans g.jE.size h')
 exact bZ N2' W2 Id1 Id2 Id3 _ _ (KN Tj v x hv)
theorem Xl (g:bB c R s a w){fv:AV}{args:List AV}{id:Nat}{K:AV→List (Nat×aA)→List Nat→Prop}(h:gC P s.hp id (fv::args) K)
  {u:Value} {us:List Value} (hf:ai (aT c R s.hp) w s.hp R fv u) (hv:FL (ai (aT c R s.hp) w s.hp R) args us) :
  ∃f first aM,u=.func (.func f) first aM∧Enters P f∧Calls P f (first++us.toArray++aM) w fun e w'=>∃v z ws ids R',e=.returned v∧K z ws ids∧bB c R' (s.app ws) a w' ∧
   ai (aT c R' (ws++s.hp)) w' (ws++s.hp) R' z v:=by
 unfold gC at h;simp only at h;split at h;rotate_left;cases h
 rename_i f first aM hfn
 split at h;rotate_left;cases h
 rename_i H hH;obtain⟨r,hp',Qa,h⟩:=h;split at h;rotate_left;cases h
 rename_i hok;rw[zY,zZ] at h;have hnt:=iZ _ _ h;have h:=kI _ _ _ h;simp only[gOk,Bool.and_eq_true] at hok;obtain⟨o1,o2,o3,o4,o5⟩:=hok;obtain⟨fs,cs,rfl,f1,f2⟩:=Fp hfn hf;refine⟨f,fs,cs,rfl,Qa.1,?_⟩;have h1:∀b k d,lk (lq 1 H) b=some (k,d)→lk (jH 1 H) k=some (b,d):=fun b k d hb=>(BN hb).2
 have h1':∀b k d,lk (jH 1 H) k=some (b,d)→lk (lq 1 H) b=some (k,d):=fun b k d hb=>za o4 hb
 have h2:∀k b d,lk (jH 1 H) k=some (b,d)→∃box,lk s.hp b=some box∧d=om box∧lk (uQ (lq 1 H) 1 H) k=some (kS (lq 1 H) box):=
  fun k b d hb=>BO (rD hH) hb
 have h3:∀k box0,lk (uQ (lq 1 H) 1 H) k=some box0→∃b box,lk (jH 1 H) k=some (b,om box)∧lk s.hp b=some box∧box0=kS (lq 1 H) box:=
  fun k box0 hb=>Ff (rD hH) hb
 obtain⟨hin,aey⟩:=XY g h1 h1' h2 h3 (mQ o5);have hargs:bT (aT c R s.hp) w s.hp R (first++(args++aM)) (fs.toList++(us++cs.toList)):=
  xu f1 (xu ((eO _ _ _ _ _ _).2 hv) f2)
 have QU:=oK h1 h2 aey _ _ hargs;refine (Qa.2 _ _ w (fs++us.toArray++cs) hin (by simpa using QU)).mono ?_;rintro e w' ⟨v,r',Ik,R2,rfl,⟨rfl,rfl⟩,hh,hr⟩
 obtain⟨g',hmap⟩:=Ti (id:=id) g h1 h1' (fun k b d hb=>let ⟨bx,c1,c2,_⟩:=h2 k b d hb;⟨bx,c1,c2⟩) (fun k b d hb x y z u e=>by
  obtain⟨bx,c1,_,c3⟩:=h2 k b d hb;rw[c1] at e;cases e;exact mQ o5 k _ _ _ _ c3) (fun k p hk=>vN o1 hk) (fun b hb=>tu o2 b hb) o3 rfl (mQ hnt) hh
 exact⟨v,_,_,_,_,rfl,h,g',hmap r' v hr⟩
theorem Xm (g:bB c R s a w){fv:AV}{args:List AV}{id:Nat}{K:AV→List (Nat×aA)→List Nat→Prop}(h:gI P s.hp id (fv::args) K)
  {u:Value} {us:List Value} (hf:ai (aT c R s.hp) w s.hp R fv u) (hv:FL (ai (aT c R s.hp) w s.hp R) args us) :
  ∃f first aM,u=.func (.func f) first aM∧Enters P f∧Calls P f (first++us.toArray++aM) w fun e w'=>∃v z ws ids R',e=.returned v∧K z ws ids∧bB c R' (s.app ws) a w' ∧
   ai (aT c R' (ws++s.hp)) w' (ws++s.hp) R' z v:=by
 unfold gI at h;simp only at h;split at h;rotate_left;cases h
 rename_i f first aM hfn
 split at h;rotate_left;cases h
 rename_i H hH;split at h;rotate_left;cases h
 rename_i hpre;obtain⟨Q,Qa,h⟩:=h;obtain⟨fs,cs,rfl,f1,f2⟩:=Fp hfn hf;refine⟨f,fs,cs,rfl,Qa.1,?_⟩;simp only[Bool.and_eq_true] at hpre;obtain⟨o4,o5⟩:=hpre;have h1:∀b k d,lk (lq 1 H) b=some (k,d)→lk (jH 1 H) k=some (b,d):=fun b k d hb=>(BN hb).2
 have h1':∀b k d,lk (jH 1 H) k=some (b,d)→lk (lq 1 H) b=some (k,d):=fun b k d hb=>za o4 hb
 have h2:∀k b d,lk (jH 1 H) k=some (b,d)→∃box,lk s.hp b=some box∧d=om box∧lk (uQ (lq 1 H) 1 H) k=some (kS (lq 1 H) box):=
  fun k b d hb=>BO (rD hH) hb
 have h3:∀k box0,lk (uQ (lq 1 H) 1 H) k=some box0→∃b box,lk (jH 1 H) k=some (b,om box)∧lk s.hp b=some box∧box0=kS (lq 1 H) box:=
  fun k box0 hb=>Ff (rD hH) hb
 obtain⟨hin,aey⟩:=XY g h1 h1' h2 h3 (mQ o5);have hargs:bT (aT c R s.hp) w s.hp R (first++(args++aM)) (fs.toList++(us++cs.toList)):=
  xu f1 (xu ((eO _ _ _ _ _ _).2 hv) f2)
 have QU:=oK h1 h2 aey _ _ hargs;refine (Qa.2 _ _ w (fs++us.toArray++cs) hin (by simpa using QU)).mono ?_;rintro e w' ⟨v,r',Ik,R2,rfl,hQ,hh,hr⟩
 have h:=h r' Ik hQ;split at h;rotate_left;cases h
 rename_i hok;rw[zY,zZ] at h;have hnt:=iZ _ _ h;have h:=kI _ _ _ h;simp only[gOk,Bool.and_eq_true] at hok;obtain⟨o1,o2,o3,-,-⟩:=hok;obtain⟨g',hmap⟩:=Ti (id:=id) g h1 h1' (fun k b d hb=>let ⟨bx,c1,c2,_⟩:=h2 k b d hb;⟨bx,c1,c2⟩) (fun k b d hb x y z u e=>by
  obtain⟨bx,c1,_,c3⟩:=h2 k b d hb;rw[c1] at e;cases e;exact mQ o5 k _ _ _ _ c3) (fun k p hk=>vN o1 hk) (fun b hb=>tu o2 b hb) o3 rfl (mQ hnt) hh
 exact⟨v,_,_,_,_,rfl,h,g',hmap r' v hr⟩
end
def isNone {α:Type}:Option α→Bool
 |none=>true
 |some _=>false
def ag5 (T:Tab):Bool:=
 match T with
 |(a,_)::(b,_)::_=>Nat.beq a b
 |_=>false
def QG (tw:Bool)(rows:List (List PV))(b ver:Nat)(e:TypeId)(st:Nat)(l h:Option Int)(K:AV→List (Nat×aA)→Prop):Prop:=
 match l with
 | none=>match h with
   |none=>K (.aB b ver) []
   | some h=>match tw with
     |true=>0≤h∧h≤rows.length∧K (.sub b ver st 0 h.toNat) []
     |false=>0≤h∧h≤rows.length∧K (.aB b (ver+1)) [(b,.arr e (ver+1) st (rows.take h.toNat))]
 | some l=>match h with
   |none=>0≤l∧l≤rows.length∧K (.sub b ver st l.toNat rows.length) []
   |some h=>0≤h∧h≤rows.length∧0≤l∧l≤h∧K (.sub b ver st l.toNat h.toNat) []
def og (T:Tab)(H:List (Nat×aA))(t:TypeId)(lo hi mx:Option Operand)(vs:List AV)(K:AV→List (Nat×aA)→Prop):Prop:=
 match vs with
 | .aB b ver::r=>match lk H b with
   | some (.arr e v st rows)=>match Nat.beq ver v with
     | true=>match isNone mx with
       | true=>match lk T t with
         | some i=>match i.d with
           | .slt et=>match lk T et with
             | some ei=>match Nat.beq st ei.size with
               | true=>match DY lo r with
                 | some (l,r1)=>match DY hi r1 with
                   |some (h,_)=>QG (ag5 T) rows b ver e st l h K
                   |none=>False
                 |none=>False
               |false=>False
             |none=>False
           |_=>False
         |none=>False
       |false=>ni T H t lo hi mx vs K
     |false=>False
   |_=>ni T H t lo hi mx vs K
 |_=>ni T H t lo hi mx vs K
def BA (T:Tab)(H:List (Nat×aA))(t:TypeId)(x:AV)(K:AV→List (Nat×aA)→Prop):Prop:=
 match x with
 | .sub b ver st lo hi=>match lk H b with
   | some (.arr e v st' rows)=>match Nat.beq ver v with
     | true=>match Nat.beq st st' with
       | true=>match lk T t with
         | some i=>match i.d with
           | .slt et=>match lk T et with
             | some ei=>match Nat.beq st ei.size,zPV ei.zero with
               |true,some z=>K (.pv (.dn [])) [(b,.arr e v st' (rows.take lo++(List.replicate (hi-lo) z++rows.drop hi)))]
               |_,_=>False
             |none=>False
           |_=>False
         |none=>False
       |false=>False
     |false=>False
   |_=>False
 |_=>False
section
variable {P:Program}{T:Tab}{c:Ctx}{R:Real}{s:AS}{a:Act}{w:World}
theorem qj {N:Nat→Prop}{hp:List (Nat×aA)}{b:Nat}{e:TypeId}{ver st:Nat}{rows:List (List PV)}(h:eB N w hp R b (.arr e ver st rows))(hn:R.nil b=true):rows=[]:=by
 obtain⟨xs,⟨_,h3⟩,_⟩:=h;rcases h3 with ⟨_,h3⟩|⟨g',cap,cur,e1,_⟩
 ·exact List.eq_nil_of_length_eq_zero h3
 simp[bY,hn] at e1
theorem qO (g:bB c R s a w)(hT:bO P T){H:List (Nat×aA)}(hH:∀b box,lk H b=some box→lk s.hp b=some box){t:TypeId}{x0:Operand}{lo hi mx:Option Operand}{vs:List AV}
  {K:AV→List (Nat×aA)→Prop} (h:og T H t lo hi mx vs K)
  (hv:FL (ai (aT c R s.hp) w s.hp R) vs ((x0::(lo.toList++(hi.toList++mx.toList))).map a.eval)) :
  ∃y z ws R',(Instr.sliceAt t (a.eval x0) (lo.map a.eval) (hi.map a.eval) (mx.map a.eval)).run P w=.ok y w∧K z ws∧bB c R' (s.app ws) a w∧ai (aT c R' (ws++s.hp)) w (ws++s.hp) R' z y:=by
 have old:ni T H t lo hi mx vs K→∃y z ws R',(Instr.sliceAt t (a.eval x0) (lo.map a.eval) (hi.map a.eval) (mx.map a.eval)).run P w=.ok y w∧K z ws∧bB c R' (s.app ws) a w∧ai (aT c R' (ws++s.hp)) w (ws++s.hp) R' z y:=fun h=>by
  obtain⟨y,z,ws,h1,h2,h3,h4⟩:=Hu g hT hH h hv;exact⟨y,z,ws,R,h1,h2,h3,h4⟩
 unfold og at h;split at h
 ·rename_i b ver r;split at h
  ·rename_i e v st rows hb;split at h;rotate_left;cases h
   rename_i gy;have gy:=Nat.eq_of_beq_eq_true gy;split at h
   ·rename_i hmx;have hmx:mx=none:=by cases mx<;>simp_all [isNone]
    subst hmx;split at h;rotate_left;cases h
    rename_i i hi';obtain⟨d,hd,iE⟩:=(hT t i hi').iM;split at h;rotate_left;cases h
    rename_i et hte;have hd':P.underlying t=some (.slice et):=by
     rw[hte] at iE;cases d<;>simp[di] at iE
     subst iE;exact hd
    split at h;rotate_left;cases h
    rename_i ei qZ;have jd:=hT _ _ qZ;split at h;rotate_left;cases h
    rename_i hst;have hst:=Nat.eq_of_beq_eq_true hst;split at h;rotate_left;cases h
    rename_i l r1 hl;split at h;rotate_left;cases h
    rename_i hh r2 hhi;simp only[List.map_cons] at hv;obtain⟨u,r',e1,hx,hv⟩:=hv;simp only[List.cons.injEq] at e1;obtain⟨e1,rfl⟩:=e1;obtain⟨v1,hv⟩:=iH hv hl;obtain⟨v2,hv⟩:=iH (rest:=[]) (by simpa using hv) hhi;have hb':=hH _ _ hb;have hre:=g.boxes b _ hb';have hxr:=hx;simp only[ai,hb',aS] at hx;have hu:=hx.2.2 gy;have hrun:∀(k2:∀i,hh=some i→0≤i∧i≤rows.length) (k3:∀i,l=some i→0≤i∧i≤dQ rows.length hh),
      (Instr.sliceAt t (a.eval x0) (lo.map a.eval) (hi.map a.eval) (Option.map a.eval none)).run P w=.ok (jD st ((l.map Int.toNat).getD 0) (dQ rows.length hh).toNat u) w ∧
       ((l.map Int.toNat).getD 0)≤(dQ rows.length hh).toNat∧(dQ rows.length hh).toNat≤rows.length:=by
     intro k2 k3;rw[e1,hu];cases hn:R.nil b with
     | true=>
       have hr0:=qj hre hn;subst hr0;obtain⟨hrun,q1,q2,q3⟩:=ja (P:=P) (w:=w) (Ve:=true) (len:=0) (cap:=0) (m:=none) v1 v2 (show vI none none from trivial) (Nat.le_refl _) (fun i e=>by cases e) (by simpa[dQ] using k2) (by simpa using k3);refine⟨?_,q1,q2⟩;have hz:(dQ 0 hh).toNat=0:=by omega
       have lz:(l.map Int.toNat).getD 0=0:=by omega
       simp only[Option.map_none,Option.getD_none,hz,lz] at hrun;simp only[Instr.sliceAt,Instr.slice,Sem.run_bind,run_underlying hd',Result.andThen_ok,bY,hn,if_true,Option.map_none,hrun,jd.run_sizeOf,Sem.run_pure];simp[jD]
     | false=>
       obtain⟨cur,hg,hs,hle,hm,hr,_⟩:=gU hre hn;obtain⟨hrun,q1,q2,q3⟩:=ja (P:=P) (w:=w) (Ve:=true) (len:=rows.length) (cap:=(R.cap b).1) (m:=none) v1 v2 (show vI none none from trivial) hle (fun i e=>by cases e) (by
        intro i hi;exact k2 i hi) (by simpa using k3)
       refine⟨?_,q1,q2⟩;simp only[Option.map_none,Option.getD_none] at hrun;simp only[Instr.sliceAt,Instr.slice,Sem.run_bind,run_underlying hd',Result.andThen_ok,bY,hn,Bool.false_eq_true,if_false,Option.map_none,hrun,jd.run_sizeOf,Sem.run_pure];simp only[jD,hst];congr 2
       split<;>rfl
    have YU:∀(lo' hi':Nat),lo'≤hi'→hi'≤rows.length→ai (aT c R s.hp) w s.hp R (.sub b ver st lo' hi') (jD st lo' hi' u):=by
     intro lo' hi' q1 q2;simp only[ai];refine⟨u,by simpa only[ai] using hxr,?_,rfl⟩;rw[hu];unfold bY;split
     ·rename_i hn;have:=qj hre hn;subst this;simp at q2;exact⟨by omega,by omega⟩
     exact⟨q1,q2⟩
    unfold QG at h;cases l with
    | none=>
      cases hh with
      | none=>
        obtain⟨h1,q1,q2⟩:=hrun (fun i e=>by cases e) (fun i e=>by cases e);refine⟨_,_,[],R,h1,h,g,?_⟩;have:jD st 0 rows.length u=u:=by
         rw[hu];unfold bY;split
         ·rfl
         simp only[jD,Nat.sub_zero,Nat.zero_mul];split<;>rfl
        simp only[Option.map_none,Option.getD_none,dQ,Int.toNat_natCast];rw[this];exact hxr
      | some j=>
        simp only at h;split at h
        ·obtain⟨j0,j1,hK⟩:=h;obtain⟨h1,q1,q2⟩:=hrun (fun i e=>by cases e;exact⟨j0,j1⟩) (fun i e=>by cases e);refine⟨_,_,[],R,h1,hK,g,?_⟩;simp only[Option.map_none,Option.getD_none,dQ] at q1 q2 ⊢;exact YU _ _ q1 q2
        obtain⟨j0,j1,hK⟩:=h;obtain⟨h1,q1,q2⟩:=hrun (fun i e=>by cases e;exact⟨j0,j1⟩) (fun i e=>by cases e);have hR:∀b',b'≠b→R.blk b'=R.blk b'∧R.nil b'=R.nil b'∧R.cap b'=R.cap b':=fun _ _=>⟨rfl,rfl,rfl⟩
        have hlen:(rows.take j.toNat).length=j.toNat:=by simp;omega
        obtain⟨xs,hxs,am3⟩:=hre;have hown2:∃ys,w.ownsRow 0 e st (bY R b (rows.take j.toNat).length) (rows.take j.toNat).length ys∧bK (aT c R s.hp) w st (rows.take j.toNat) ys:=by
         cases hn:R.nil b with
         | true=>
           have:=qj (g.boxes b _ hb') hn;subst this;exact⟨[],⟨by simp,.inl ⟨by simp[bY,hn],by simp⟩⟩,by simp[bK]⟩
         | false=>
           obtain⟨cur,hg,hs,hle,hm,hr,_⟩:=gU (g.boxes b _ hb') hn;have hr2:=lQ (i:=j.toNat) hr;obtain⟨t1,t2,t3⟩:=gD hr2;rw[hlen] at t1 t2;refine⟨cur.toList.take (j.toNat*st),⟨?_,.inr ⟨R.blk b,(R.cap b).1,cur,by simp[bY,hn],Nat.zero_le _,hg,?_,hm,hs,by rw[hlen]⟩⟩,t2⟩
           ·rw[List.length_take,hlen];omega
           rw[hlen];omega
        obtain⟨ys,ho,hr⟩:=hown2;obtain⟨g2,hr2⟩:=g.sH (b:=b) (e:=e) (ver:=ver+1) (st:=st) (rows:=rows.take j.toNat) (R':=R) (.inr ⟨_,_,_,_,hb',by omega⟩) hR (nI.refl _ w)
         (fun hn=>.inl (by rw[hb'];exact⟨hn,rfl⟩)) ho hr
        refine⟨_,_,_,R,h1,hK,g2,?_⟩;have:jD st 0 j.toNat u=bY R b (rows.take j.toNat).length:=by
         rw[hu,hlen];unfold bY;split
         ·rfl
         simp only[jD,Nat.sub_zero,Nat.zero_mul];split<;>rfl
        simp only[Option.map_none,Option.getD_none,dQ];rw[this];exact hr2
    | some l=>
      cases hh with
      | none=>
        simp only at h;obtain⟨l0,l1,hK⟩:=h;obtain⟨h1,q1,q2⟩:=hrun (fun i e=>by cases e) (fun i e=>by cases e;exact⟨l0,by simpa[dQ] using l1⟩);refine⟨_,_,[],R,h1,hK,g,?_⟩;simp only[Option.map_some,Option.getD_some,dQ,Int.toNat_natCast] at q1 ⊢;exact YU _ _ q1 (Nat.le_refl _)
      | some j=>
        simp only at h;obtain⟨j0,j1,l0,l1,hK⟩:=h;obtain⟨h1,q1,q2⟩:=hrun (fun i e=>by cases e;exact⟨j0,j1⟩) (fun i e=>by cases e;exact⟨l0,by simpa[dQ] using l1⟩);refine⟨_,_,[],R,h1,hK,g,?_⟩;simp only[Option.map_some,Option.getD_some,dQ] at q1 q2 ⊢;exact YU _ _ q1 q2
   exact old h
  exact old h
 exact old h
theorem x8 {b:Nat}{e:TypeId}{cur:Array Value}(vs:List Value)(off:Nat)(hg:w.heap[b]? = some (.cells cur e (0,0)))(hl:off+vs.length≤cur.size)(h1:∀u∈vs,u.oneCell'=true) :
  (storeCells ⟨b,off,none⟩ vs).run P w=.ok () (w.setRow b (cur.toList.take off++vs++cur.toList.drop (off+vs.length)).toArray):=by
 have:=run_storeCells_at P b off e vs 0 cur w hg (by simpa using hl) h1;simp only[Nat.add_zero] at this;simp[storeCells,this]
theorem bB.sameBox (g:bB c R s a w){b:Nat}{e:TypeId}{ver st:Nat}{rows:List (List PV)}(hb:lk s.hp b=some (.arr e ver st rows)):bB c R (s.app [(b,.arr e ver st rows)]) a w:=by
 have hR:∀b',b'≠b→R.blk b'=R.blk b'∧R.nil b'=R.nil b'∧R.cap b'=R.cap b':=fun _ _=>⟨rfl,rfl,rfl⟩
 have r1:∀off v,aX R b off v (lk s.hp b)→aX R b off v (some (.arr e ver st rows)):=fun off v h=>by rw[hb] at h;exact h
 have r2:∀fe v,aS R b fe v (lk s.hp b)→aS R b fe v (some (.arr e ver st rows)):=fun _ v h=>by rw[hb] at h;exact h
 have r3:∀fe i off v,aZ R b fe i off v (lk s.hp b)→aZ R b fe i off v (some (.arr e ver st rows)):=fun _ _ _ v h=>by rw[hb] at h;exact h
 have hown:∀r,aI R b r (some (.arr e ver st rows))→aI R b r (lk s.hp b)∨w.heap.size≤r:=fun r h=>by rw[hb];exact .inl h
 obtain⟨m1,m2,m3,m4,m5⟩:=g.Kk hR r1 r2 r3 hown (nI.refl _ w);refine g.upd hR r1 r2 r3 hown (nI.refl _ w) ?_;obtain⟨xs,hxs,hr⟩:=g.boxes b _ hb;exact⟨xs,hxs,aV m1 m2 _ _ _ hr⟩
theorem Kz (g:bB c R s a w)(hT:bO P T){H:List (Nat×aA)}(hH:∀b box,lk H b=some box→lk s.hp b=some box){t ty:TypeId}{x:AV}{u:Value}
  {K:AV→List (Nat×aA)→Prop} (h:BA T H t x K) (hx:ai (aT c R s.hp) w s.hp R x u) :
  ∃z w' q ws,(Builtin.clear_ #[t] ty #[u]).run P w=.ok z w'∧K q ws∧bB c R (s.app ws) a w'∧ai (aT c R (ws++s.hp)) w' (ws++s.hp) R q z:=by
 unfold BA at h;split at h;rotate_left;cases h
 rename_i b ver st lo hi;split at h;rotate_left;cases h
 rename_i e v st' rows hb;split at h;rotate_left;cases h
 rename_i gy;have gy:=Nat.eq_of_beq_eq_true gy;split at h;rotate_left;cases h
 rename_i hst;have hst:=Nat.eq_of_beq_eq_true hst;subst hst;split at h;rotate_left;cases h
 rename_i i hi';obtain⟨d,hd,iE⟩:=(hT t i hi').iM;split at h;rotate_left;cases h
 rename_i et hte;have hd':P.underlying t=some (.slice et):=by
  rw[hte] at iE;cases d<;>simp[di] at iE
  subst iE;exact hd
 split at h;rotate_left;cases h
 rename_i ei qZ;have jd:=hT _ _ qZ;split at h;rotate_left;cases h
 rename_i z hsz hz;have hsz:=Nat.eq_of_beq_eq_true hsz;have hz:=Qc hz;subst hz;have hb':=hH _ _ hb;have hre:=g.boxes b _ hb';simp only[ai,hb',aS] at hx;obtain⟨u0,hx,hok,rfl⟩:=hx;have hu:=hx.2.2 gy;subst hu;have hnone:hi-lo=0→(rows.take lo++(List.replicate (hi-lo) (ei.zero.map PV.sc)++rows.drop hi))=rows→lo≤hi →
   (∃p cap,jD st lo hi (bY R b rows.length)=.slice p 0 cap)→∃z w' q ws,(Builtin.clear_ #[t] ty #[jD st lo hi (bY R b rows.length)]).run P w=.ok z w'∧K q ws∧bB c R (s.app ws) a w'∧ai (aT c R (ws++s.hp)) w' (ws++s.hp) R q z:=by
  intro h0 hrows hle ⟨p,cap,hs⟩;rw[hrows] at h;refine⟨.tuple #[],w,_,_,?_,h,g.sameBox hb',?_⟩
  ·rw[hs];cases p<;>simp[Builtin.clear_,run_underlying hd']
  simp[ai,bE,dX]
 cases hn:R.nil b with
 | true=>
   have hr0:=qj hre hn;subst hr0;simp only[bY,hn,if_true,uw,List.length_nil] at hok;have h1:lo=0:=by omega
   have h2:hi=0:=by omega
   subst h1;subst h2;refine hnone rfl (by simp) (Nat.le_refl _) ⟨none,0,by simp[bY,hn,jD]⟩
 | false=>
   obtain⟨cur,hg,hs,hle,hm,hr,_⟩:=gU hre hn;simp only[bY,hn,Bool.false_eq_true,if_false,uw] at hok;by_cases Mq:hi=lo
   ·subst Mq;refine hnone (by omega) (by simp) (Nat.le_refl _) ⟨some (if (R.cap b).1=hi then ⟨R.blk b,0,none⟩ else (⟨R.blk b,0,none⟩:Addr).add (hi*st)),(R.cap b).1-hi,by simp[bY,hn,jD]⟩
   have hlt:lo<hi:=by omega
   obtain⟨zv,hz1,hz2,hz3⟩:=jd.q8 w;have W9:zv.cells.size=st:=by have:=jd.Xa;rw[←hz2] at this;rw[hsz];simpa using this
   have hcap:¬(R.cap b).1=lo:=by omega
   have hsub:jD st lo hi (bY R b rows.length)=.slice (some ⟨R.blk b,lo*st,none⟩) (hi-lo) ((R.cap b).1-lo):=by
    have hadd:(⟨R.blk b,0,none⟩:Addr).add (lo*st)=⟨R.blk b,lo*st,none⟩:=by by_cases h0:lo*st=0<;>simp[Addr.add,h0]
    simp only[bY,hn,jD,hcap,Bool.false_eq_true,if_false,hadd]
   have hzl:(Builtin.zeroCells zv.cells (hi-lo)).toList.length=(hi-lo)*st:=by simp[Builtin.zeroCells,W9]
   have hmul:lo*st+(hi-lo)*st=hi*st:=by rw[←Nat.add_mul];congr 1;omega
   have hcs:hi*st≤cur.size:=by rw[hs];exact Nat.mul_le_mul_right _ (by omega)
   have adR:∀j,j<(hi-lo)*st→(Builtin.zeroCells zv.cells (hi-lo)).toList[j]? = (ei.zero)[j%st]? :=by
    intro j hj;have am4:0<st:=by
     rcases Nat.eq_zero_or_pos st with h0|h0
     ·rw[h0] at hj;simp at hj
     exact h0
    have hlt2:j%zv.cells.size<zv.cells.size:=Nat.mod_lt _ (by omega);have hmc:(Builtin.zeroCells zv.cells (hi-lo))[j]? = some (zv.cells[j%zv.cells.size]!):=by
     simp[Builtin.zeroCells,W9,hj]
    rw[Array.getElem?_toList,hmc,getElem!_pos zv.cells _ hlt2,←hz2,Array.getElem?_toList,←W9];exact (Array.getElem?_eq_getElem hlt2).symm
   have hone:∀u∈(Builtin.zeroCells zv.cells (hi-lo)).toList,u.oneCell'=true:=by
    intro u hu;obtain⟨j,hj,rfl⟩:=List.getElem_of_mem hu;have h1:=adR j (by rw[←hzl];exact hj);rw[List.getElem?_eq_getElem hj] at h1;have h2:=List.mem_of_getElem? h1.symm;exact List.all_eq_true.1 jd.Uu _ h2
   have hrun:=x8 (P:=P) (w:=w) (e:=e) (cur:=cur) (Builtin.zeroCells zv.cells (hi-lo)).toList (lo*st) hg (by rw[hzl,hmul];exact hcs) hone;rw[hzl,hmul] at hrun;refine⟨.tuple #[],w.setRow (R.blk b) (cur.toList.take (lo*st)++(Builtin.zeroCells zv.cells (hi-lo)).toList++cur.toList.drop (hi*st)).toArray,_,_,?_,h,?_,by simp[ai,bE,dX]⟩
   ·rw[hsub];have hne:hi-lo≠0:=by omega
    obtain⟨k,hk⟩:∃k,hi-lo=k+1:=⟨hi-lo-1,by omega⟩;rw[hk] at hrun ⊢;simp only[Builtin.clear_,List.getElem?_toArray,List.getElem?_cons_zero,run_underlying hd',Sem.run_bind,Result.andThen_ok,hz1,hrun,Sem.run_pure]
   have hR:∀b',b'≠b→R.blk b'=R.blk b'∧R.nil b'=R.nil b'∧R.cap b'=R.cap b':=fun _ _=>⟨rfl,rfl,rfl⟩
   generalize hrows:(rows.take lo++(List.replicate (hi-lo) (ei.zero.map PV.sc)++rows.drop hi))=aP;have hll:aP.length=rows.length:=by rw[←hrows];simp;omega
   have r1:∀off v',aX R b off v' (lk s.hp b)→aX R b off v' (some (.arr e v st aP)):=fun off v h=>by rw[hb'] at h;exact h
   have r2:∀ver v',aS R b ver v' (lk s.hp b)→aS R b ver v' (some (.arr e v st aP)):=fun _ v h=>by rw[hb'] at h;simp only[aS,hll] at h ⊢;exact h
   have r3:∀ver i off v',aZ R b ver i off v' (lk s.hp b)→aZ R b ver i off v' (some (.arr e v st aP)):=fun _ _ _ v h=>by rw[hb'] at h;exact h
   have hown:∀r,aI R b r (some (.arr e v st aP))→aI R b r (lk s.hp b)∨w.heap.size≤r:=fun r h=>by rw[hb'];exact .inl h
   have hworld:nI (fun r=>aI R b r (lk s.hp b)) w (w.setRow (R.blk b) (cur.toList.take (lo*st)++(Builtin.zeroCells zv.cells (hi-lo)).toList++cur.toList.drop (hi*st)).toArray):=by
    refine (oO w _ _).mono ?_;rintro r rfl
    rw[hb'];exact⟨hn,rfl⟩
   obtain⟨m1,m2,m3,m4,m5⟩:=g.Kk hR r1 r2 r3 hown hworld;refine g.upd hR r1 r2 r3 hown hworld ?_;have hnew:bK (aT c R s.hp) w st aP (cur.toList.take (lo*st)++(Builtin.zeroCells zv.cells (hi-lo)).toList++cur.toList.drop (hi*st)):=by
    rw[←hrows,List.append_assoc];have p1:bK (aT c R s.hp) w st (rows.take lo) (cur.toList.take (lo*st)):=by
     obtain⟨_,t2,_⟩:=gD (lQ (i:=lo) hr);rw[List.length_take,Nat.min_eq_left (by omega)] at t2;exact t2
    have p2:bK (aT c R s.hp) w st (List.replicate (hi-lo) (ei.zero.map PV.sc)) (Builtin.zeroCells zv.cells (hi-lo)).toList:=
     Ez (zs:=ei.zero) (EA jd.Uu) (by rw[List.length_map,jd.Xa,hsz]) _ _ (by rw[hzl];exact Nat.le_refl _) adR
    have hlo:lo*st≤cur.size:=by have:=Nat.mul_le_mul_right st (show lo≤hi by omega);omega
    refine jF p1 (by rw[List.length_take,List.length_take,Nat.min_eq_left (by simpa using hlo),Nat.min_eq_left (by omega)]) (jF p2 (by rw[hzl];simp) (mG hi hr))
   have Yg:(cur.toList.take (lo*st)++(Builtin.zeroCells zv.cells (hi-lo)).toList++cur.toList.drop (hi*st)).length=cur.size:=by
    simp only[List.length_append,hzl,List.length_take,List.length_drop,Array.length_toList];omega
   obtain⟨t1,t2,t3⟩:=gD (aV m1 m2 _ _ _ hnew);refine⟨_,?_,t2⟩;have hsl:bY R b aP.length=.slice (some ⟨R.blk b,0,none⟩) rows.length ((R.cap b).1):=by simp[bY,hn,hll]
   rw[hsl,hll];rw[hll] at t1;refine⟨?_,.inr ⟨R.blk b,(R.cap b).1,_,rfl,Nat.zero_le _,setRow_heap w _ cur _ e _ hg,hle,hm,?_,by simp⟩⟩
   ·simp only[List.length_take];omega
   simp only[List.size_toArray,Yg,hs]
end
def vg (f:AV→Option PV):List AV→Option (List PV)
 |[]=>some []
 | x::r=>match f x with
   | some p=>match vg f r with
     |some t=>some (p::t)
     |none=>none
   |none=>none
def Yh (H:List (Nat×aA)):Nat→AV→Option PV
 |0,_=>none
 | n+1,x=>match x with
   |.pv p=>some p
   | .aB b ver=>match lk H b with
     | some (.dN e v st pre row post)=>match Nat.beq ver v with
       | true=>match vg (Yh H n) row with
         |some ps=>some (.sl false st (pre++ps::post))
         |none=>none
       |false=>none
     | some (.fP e v st j ed sd pre row post)=>match Nat.beq ver v with
       | true=>match row with
         |[]=>some (.sl false st (pre.map (·.2)++post.map (·.2)))
         | _=>match vg (Yh H n) row with
           |some ps=>some (.sl false st (pre.map (·.2)++ps::post.map (·.2)))
           |none=>none
       |false=>none
     |o=>uM o ver
   |.sub _ _ _ _ _=>some .junk
   |.bn _ _ _ _=>some .junk
   | .ptr b off=>match lk H b with
     | some (.var cells)=>match vg (Yh H n) cells with
       |some ps=>some (.bJ ps off)
       |none=>none
     |some (.sD cells)=>some (.bJ cells off)
     |_=>none
   | .agg cs=>match vg (Yh H n) cs with
     |some ps=>some (.agg ps)
     |none=>none
   | .dn cs=>match vg (Yh H n) cs with
     |some ps=>some (.dn ps)
     |none=>none
   | .fn f a c=>match vg (Yh H n) a,vg (Yh H n) c with
     |some x,some y=>some (.fn f x y)
     |_,_=>none
section
variable {P:Program}{T:Tab}{c:Ctx}{R:Real}{s:AS}{a:Act}{w:World}
def Il:Nat→Prop:=fun _=>False
theorem Ah {f:AV→Option PV}{N:Nat→Prop}{hp:List (Nat×aA)}(hf:∀x p u,f x=some p→ai N w hp R x u→bE Il w p u) :
  ∀{xs:List AV} {ps:List PV} {us:List Value},vg f xs=some ps→FL (ai N w hp R) xs us→FL (bE Il w) ps us
 |[],ps,us,h,hx=>by simp only[vg,Option.some.injEq] at h;subst h;exact hx
 | x::xs,ps,us,h,hx=>by
   simp only[vg] at h;split at h
   ·rename_i p hp;split at h
    ·rename_i t ht;simp only[Option.some.injEq] at h;subst h;obtain⟨v,r,rfl,h1,h2⟩:=hx;exact⟨v,r,rfl,hf _ _ _ hp h1,Ah hf ht h2⟩
    cases h
   cases h
theorem Ai {f:AV→Option PV}{N:Nat→Prop}{hp:List (Nat×aA)}(hf:∀x p u,f x=some p→ai N w hp R x u→bE Il w p u) :
  ∀{xs:List AV} {ps:List PV} {us:List Value},vg f xs=some ps→FC (ai N w hp R) xs us→FC (bE Il w) ps us
 |[],ps,us,h,hx=>by simp only[vg,Option.some.injEq] at h;subst h;exact hx
 | x::xs,ps,us,h,hx=>by
   simp only[vg] at h;split at h
   ·rename_i p hp;split at h
    ·rename_i t ht;simp only[Option.some.injEq] at h;subst h;obtain⟨v,r,rfl,h0,h1,h2⟩:=hx;exact⟨v,r,rfl,h0,hf _ _ _ hp h1,Ai hf ht h2⟩
    cases h
   cases h
theorem rO {N:Nat→Prop}{st j:Nat}{ed:TypeId}{sd:Nat}:∀{hs:List (Option Value)} {rs:List (Bool×List PV)} {xs:List Value},dK N w st j ed sd hs rs xs→bK Il w st (rs.map (·.2)) xs
 |[],[],xs,_=>by simp only[List.map_nil,bK]
 |[],_::_,xs,h=>by simp only[dK] at h
 |_::_,[],xs,h=>by simp only[dK] at h
 | h::hs,(fl,r)::rs,xs,hh=>by
   simp only[dK] at hh;obtain⟨h1,h2,h3⟩:=hh;simp only[List.map_cons,bK];refine⟨h1,?_,rO h3⟩;cases h with
   | none=>cases fl with
     |false=>exact bX (fun r _ h=>h.elim) (fun _ _ _=>rfl) _ _ h2
     |true=>exact h2.elim
   | some v=>cases fl with
     |false=>exact h2.elim
     | true=>
       obtain⟨rr,ys,a1,a0,a2,a3,a4⟩:=h2;have hv:bE Il w (.sl false sd rr) v:=by
        obtain⟨q1,q2⟩:=a3;simp only[bE];rcases q2 with ⟨q2,q3⟩|⟨g',cap,cur,e1,_,hg,hle,hm,hs,ht⟩
        ·exact⟨none,0,0,q2,q3.symm,⟨Nat.le_refl _,by omega⟩,fun _=>⟨by trivial,by trivial⟩,fun ad ha=>by cases ha⟩
        refine⟨_,_,_,e1,rfl,⟨hle,by unfold maxLen at hm;omega⟩,fun hp=>(by cases hp),fun ad ha=>?_⟩;cases ha;refine .inr ⟨rfl,fun h=>h.elim,cur,_,_,hg,?_⟩;have a5:=aV (N':=Il) (fun r _ h=>h.elim) (fun _ _ _=>rfl) _ _ _ a4;have:=oN (cur.toList.drop (rr.length*sd)) a5;rw[←ht,List.take_append_drop] at this;simpa using this
       have a6:=bX (N':=Il) (fun r _ h=>h.elim) (fun _ _ _=>rfl) _ _ a2;have:∀(r:List PV) (j:Nat) (xs:List Value),r[j]? = some (.sl false sd rr)→gq Il w (r.set j (.sc v)) xs→gq Il w r xs:=by
        intro r;induction r with
        |nil=>intro j xs h _;simp at h
        | cons p r ih=>
          intro j xs h h';cases j with
          | zero=>
            simp only[List.getElem?_cons_zero,Option.some.injEq] at h;subst h;simp only[List.set_cons_zero,gq] at h' ⊢;obtain⟨u,t,e,b1,b2,b3⟩:=h';simp only[bE] at b2;subst b2;exact⟨u,t,e,b1,hv,b3⟩
          | succ j=>
            simp only[List.getElem?_cons_succ] at h;simp only[List.set_cons_succ,gq] at h' ⊢;obtain⟨u,t,e,b1,b2,b3⟩:=h';exact⟨u,t,e,b1,b2,ih j _ h b3⟩
       exact this r j xs a1 a6
theorem Aj {N:Nat→Prop}{st:Nat}:∀{a b:List (List PV)} {xs:List Value},bK N w st a xs→bK N w st b (xs.drop (a.length*st))→bK N w st (a++b) xs
 |[],b,xs,_,h=>by simpa using h
 | x::a,b,xs,h,h'=>by
   simp only[List.cons_append,bK] at h ⊢;refine⟨h.1,h.2.1,Aj h.2.2 ?_⟩;rw[List.drop_drop,show st+a.length*st=(x::a).length*st by rw[List.length_cons,Nat.succ_mul];omega];exact h'
theorem BU (g:bB c R s a w){H:List (Nat×aA)}(hH:∀b box,lk H b=some box→lk s.hp b=some box) :
  ∀(n:Nat) (x:AV) (p:PV) (u:Value),Yh H n x=some p→ai (aT c R s.hp) w s.hp R x u→bE Il w p u
 |0,x,p,u,h,_=>by simp[Yh] at h
 | n+1,x,p,u,h,hx=>by
   have ih:=fun x p u=>BU g hH n x p u
   simp only[Yh] at h;split at h
   ·simp only[Option.some.injEq] at h;subst h;simp only[ai] at hx;exact dw (fun r _ h=>h.elim) (fun _ _ _=>rfl) _ _ hx
   ·rename_i b ver;simp only[ai] at hx;split at h
    ·rename_i e v st pre row post hb;have hb':=hH _ _ hb;split at h
     ·rename_i gy;split at h
      ·rename_i ps hps;simp only[Option.some.injEq] at h;subst h;rw[hb'] at hx;have hu:=hx.2.2 (Nat.eq_of_beq_eq_true gy);subst hu;obtain⟨xs,k1,k2,k3,k4,k5⟩:=g.boxes b _ hb';have hFC:=(bF _ _ _ _ _ _).1 k4;have qL:=Ai ih hps hFC;have hl:(pre++ps::post).length=pre.length+(1+post.length):=by simp[Nat.add_comm]
       have hrows:bK Il w st (pre++ps::post) xs:=by
        have mid:∀{pre:List (List PV)} {row:List PV} {post:List (List PV)} {xs:List Value},bK Il w st pre xs→row.length=st→gq Il w row (xs.drop (pre.length*st)) →
          bK Il w st post ((xs.drop (pre.length*st)).drop st)→bK Il w st (pre++row::post) xs:=by
         intro pre;induction pre with
         |nil=>intro row post xs h h1 h2 h3;simp only[List.nil_append,bK];exact⟨h1,by simpa using h2,by simpa using h3⟩
         | cons p pre ih=>
           intro row post xs h h1 h2 h3;simp only[bK] at h;obtain⟨a1,a2,a3⟩:=h;have e:xs.drop ((p::pre).length*st)=(xs.drop st).drop (pre.length*st):=by
            rw[List.drop_drop,show (p::pre).length*st=st+pre.length*st by rw[List.length_cons,Nat.add_mul];omega]
           rw[e] at h2 h3;simp only[List.cons_append,bK];exact⟨a1,a2,ih a3 h1 h2 h3⟩
        refine mid (aV (fun r _ h=>h.elim) (fun _ _ _=>rfl) _ _ _ k2) (by rw[←qL.length,hFC.length];exact k3) ?_ (aV (fun r _ h=>h.elim) (fun _ _ _=>rfl) _ _ _ k5);have:=(qL.fp).app ((xs.drop (pre.length*st)).drop st);rw[List.take_append_drop] at this;rw[dh];exact this
       obtain⟨q1,q2⟩:=k1;simp only[bE];rcases q2 with ⟨q2,q3⟩|⟨g',cap,cur,e1,_,hg,hle,hm,hs,ht⟩
       ·omega
       refine⟨_,_,_,e1,hl.symm,⟨hle,by unfold maxLen at hm;omega⟩,fun hp=>(by cases hp),fun ad ha=>?_⟩;cases ha;refine .inr ⟨rfl,fun h=>h.elim,cur,_,_,hg,?_⟩;have:=oN (cur.toList.drop ((pre.length+(1+post.length))*st)) hrows;rw[←ht,List.take_append_drop] at this;simpa using this
      cases h
     cases h
    ·rename_i e v st j ed sd pre row post hb;have hb':=hH _ _ hb;split at h
     ·rename_i gy;rw[hb'] at hx;have hu:=hx.2.2 (Nat.eq_of_beq_eq_true gy);subst hu;obtain⟨xs,hs1,hs2,a1,k1,k2,k3,k4,k5,k6⟩:=g.boxes b _ hb';have fin:∀rows:List (List PV),rows.length=pre.length+(dJ row+post.length)→bK Il w st rows xs→bE Il w (.sl false st rows) (bY R b (pre.length+(dJ row+post.length))):=by
       intro rows hl hrows;obtain⟨q1,q2⟩:=k1;simp only[bE];rcases q2 with ⟨q2,q3⟩|⟨g',cap,cur,e1,_,hg,hle,hm,hs,ht⟩
       ·refine⟨none,0,0,q2,by omega,⟨Nat.le_refl _,by omega⟩,fun _=>⟨by trivial,by trivial⟩,fun ad ha=>by cases ha⟩
       refine⟨_,_,_,e1,hl.symm,⟨hle,by unfold maxLen at hm;omega⟩,fun hp=>(by cases hp),fun ad ha=>?_⟩;cases ha;refine .inr ⟨rfl,fun h=>h.elim,cur,_,_,hg,?_⟩;have:=oN (cur.toList.drop ((pre.length+(dJ row+post.length))*st)) hrows;rw[←ht,List.take_append_drop] at this;simpa using this
      split at h
      ·simp only[Option.some.injEq] at h;subst h;refine fin _ (by simp[dJ]) (Aj (rO k2) ?_);rw[List.length_map];simpa[dJ] using rO k5
      rename_i row' hne;split at h
      ·rename_i ps hps;simp only[Option.some.injEq] at h;subst h;have hFC:=(bF _ _ _ _ _ _).1 k4;have qL:=Ai ih hps hFC;have hO:dJ row=1:=by cases row with|nil=>exact absurd rfl hne|cons _ _=>rfl
       rw[hO,Nat.one_mul] at k3 k5 qL hFC;refine fin _ (by rw[hO];simp[Nat.add_comm]) (Aj (rO k2) ?_);simp only[bK,List.length_map];refine⟨by rw[←qL.length,hFC.length];exact k3,?_,rO k5⟩;have:=(qL.fp).app ((xs.drop (pre.length*st)).drop st);rw[List.take_append_drop] at this;rw[dh];exact this
      cases h
     cases h
    rename_i o _ _;cases hb:lk H b with
    |none=>rw[hb] at h;cases h
    | some box=>
      rw[hb,←hH _ _ hb] at h;exact pu g h (fun r h=>h.elim) (fun r _ h=>h.elim) hx
   ·simp only[Option.some.injEq] at h;subst h;simp only[bE]
   ·simp only[Option.some.injEq] at h;subst h;simp only[bE]
   ·rename_i b off;simp only[ai] at hx;split at h
    ·rename_i cells hb;split at h
     ·rename_i ps hps;simp only[Option.some.injEq] at h;subst h;have hb':=hH _ _ hb;rw[hb'] at hx;simp only[aX] at hx;subst hx;obtain⟨cur,e,hg,hc⟩:=g.boxes b _ hb';rw[bF] at hc;have hc':=Ai ih hps hc;simp only[bE];refine⟨R.blk b,0,cur,e,(0,0),by simp,fun h=>h.elim,hg,?_⟩;rw[dh];simpa using hc'.fp
     cases h
    ·rename_i cells hb;simp only[Option.some.injEq] at h;subst h;have hb':=hH _ _ hb;rw[hb'] at hx;exact Di (N':=Il) g (b:=b) (off:=off) (by rw[hb'];rfl) (fun r h=>h.elim) (fun r _ h=>h.elim) (by rw[hb'];exact hx)
    cases h
   ·split at h
    ·rename_i ps hps;simp only[Option.some.injEq] at h;subst h;simp only[ai] at hx;obtain⟨vs,rfl,hx⟩:=hx;rw[bF] at hx;simp only[bE];refine⟨vs,rfl,?_⟩;rw[gM];exact Ai ih hps hx
    cases h
   ·split at h
    ·rename_i ps hps;simp only[Option.some.injEq] at h;subst h;simp only[ai] at hx;obtain⟨vs,rfl,hx⟩:=hx;rw[eO] at hx;simp only[bE];refine⟨vs,rfl,?_⟩;rw[jf];exact Ah ih hps hx
    cases h
   split at h
   ·rename_i x y hx' hy';simp only[Option.some.injEq] at h;subst h;simp only[ai] at hx;obtain⟨fs,cs,rfl,h1,h2⟩:=hx;rw[eO] at h1 h2;simp only[bE];refine⟨fs,cs,rfl,?_,?_⟩
    ·rw[jf];exact Ah ih hx' h1
    rw[jf];exact Ah ih hy' h2
   cases h
def SK (hp:List (Nat×aA))(vs:List AV):Bool:=
 match vs with
 | .pv _::args=>match j5 hp (dY args) with
   | some H=>match I6 H args with
     |some _=>false
     |none=>true
   |none=>true
 |_=>true
def dC (P:Program)(hp:List (Nat×aA))(vs:List AV)(K:AV→List (Nat×aA)→List Nat→Prop):Prop:=
 match zX hp 100 (dY vs) [] with
 | ids=>match j5 hp ids with
   | some H=>match vg (Yh H 9) vs with
     | some (.fn (.func f) first aM::ps)=>∃r,bC P f (first++(ps++aM)) r∧match DT r with
       |true=>K (.pv r) [] (dY vs++ids)
       |false=>False
     |_=>False
   |none=>False
theorem Ak {hp:List (Nat×aA)}:∀{ids:List Nat} {H:List (Nat×aA)},j5 hp ids=some H→∀b box,lk H b=some box→lk hp b=some box
 |[],H,h=>by simp only[j5,Option.some.injEq] at h;subst h;intro b box hb;simp[lk] at hb
 | i::r,H,h=>by
   simp only[j5] at h;split at h
   ·rename_i bx hbx;split at h
    ·rename_i t ht;simp only[Option.some.injEq] at h;subst h;intro b box hb;rw[ax] at hb;split at hb
     ·rename_i e;simp only[Option.some.injEq] at hb;subst hb;first|(rw[←e];exact hbx)|(subst e;exact hbx)|simp_all
     exact Ak ht b box hb
    cases h
   cases h
theorem Xn (g:bB c R s a w){fv:AV}{args:List AV}{K:AV→List (Nat×aA)→List Nat→Prop}(h:dC P s.hp (fv::args) K)
  {u:Value} {us:List Value} (hf:ai (aT c R s.hp) w s.hp R fv u) (hv:FL (ai (aT c R s.hp) w s.hp R) args us) :
  ∃f first aM,u=.func (.func f) first aM∧Enters P f∧Calls P f (first++us.toArray++aM) w fun e w'=>∃v z ws ids R',e=.returned v∧K z ws ids∧bB c R' (s.app ws) a w' ∧
   ai (aT c R' (ws++s.hp)) w' (ws++s.hp) R' z v:=by
 unfold dC at h;simp only at h;split at h;rotate_left;cases h
 rename_i H hH;have hH:=Ak hH;split at h;rotate_left;cases h
 rename_i f first aM ps hm
 obtain⟨r,hpc,h⟩:=h;simp only[vg] at hm;split at hm
 ·rename_i p hp;split at hm
  ·rename_i t ht;simp only[Option.some.injEq,List.cons.injEq] at hm;obtain⟨rfl,rfl⟩:=hm;have h1:=BU g hH 9 _ _ _ hp hf;simp only[bE] at h1;obtain⟨fs,cs,rfl,hf1,hf2⟩:=h1;have h2:=Ah (BU g hH 9) ht hv;refine⟨f,fs,cs,rfl,hpc.1,?_⟩;have hargs:dX Il w (first++(t++aM)) (fs++us.toArray++cs).toList:=by
    rw[jf] at hf1 hf2 ⊢;have e:(fs++us.toArray++cs).toList=fs.toList++(us++cs.toList):=by simp
    rw[e];exact hf1.app (h2.app hf2)
   refine (hpc.2 Il w _ (fun r h=>h.elim) hargs).mono ?_;rintro e w' ⟨v,r',rfl,rfl,hr,hsame⟩
   have g2:=g.grow hsame;split at h;rotate_left;cases h
   rename_i hs;refine⟨v,_,[],_,R,rfl,h,g2,?_⟩;simp only[ai];exact zQ _ _ hs hr
  cases hm
 cases hm
end
def W1 (ro:Option Nat):Fence:={ Fence.wide with round:=ro }
theorem Gc {ro:Option Nat}{n:Nat}{P:Program}{f:FuncId}{args:Array Value}{w:World}{R:Ending→World→Prop}(h:Calls P f args w R):CallsIn (W1 ro) n P f args w R:=
 (callsIn_wide (n:=n)).2 h
theorem VB {n:Nat}{P:Program}{row:String}{args:Array Value}{w:World}{R:Value→World→Prop}(h:Rows P row args w R):RowsIn Fence.wide n P row args w R:=
 fun c cs _=>let ⟨v,w',r,s⟩:=h c cs;⟨v,w',r,stepsIn_wide.2 s⟩
theorem VD {ro:Option Nat}{n:Nat}{P:Program}{row:String}{args:Array Value}{w:World}{R:Value→World→Prop}(h:Rows P row args w R):RowsIn (W1 ro) n P row args w R:=
 VB (n:=n) h
theorem mM {P:Program}{o:Oper}{a:Act}{w:World}{next:Act→World→Prop}{Q:Exit→Act→World→Prop}(ro:Option Nat)(hnd:∀c,o.op ≠ .defer c)(h:o.wp P a w next Q) :
  o.wpIn (W1 ro) 0 P a w next Q:=by
 have he:Oper.semAt ro a.eval o=execOp a.eval o:=by
  cases ro with
  |none=>rfl
  |some l=>exact Oper.semAt_some l _ _ hnd
 refine⟨fun _ _=>trivial,?_⟩;show o.uponIn (W1 ro) 0 P a next Q ((Oper.semAt ro a.eval o).run P w)
 rw[he];unfold Oper.wp at h;generalize (execOp a.eval o).run P w=res at h;cases res with
 | ok x w'=>
   cases x<;>simp only[Oper.upon] at h<;>simp only[Oper.uponIn]<;>first
    |exact h
    |exact⟨fun e=>(by cases e),Gc h⟩
    |exact⟨fun e=>(by cases e),VD h⟩
    |exact h.elim
 |halt x w'=>cases x<;>simp only[Oper.upon] at h<;>simp only[Oper.uponIn]<;>exact h
theorem BF:∀{vs:List AV} {ps:List PV},je vs=some ps→vs=ps.map .pv
 |[],ps,h=>by simp only[je,Option.some.injEq] at h;subst h;rfl
 | v::r,ps,h=>by
   cases v<;>simp only[je] at h<;>try (cases h;done)
   split at h
   ·rename_i t ht;simp only[Option.some.injEq] at h;subst h;rw[BF ht];rfl
   cases h
theorem vk {N:Nat→Prop}{w:World}{hp:List (Nat×aA)}{R:Real}:∀(ps:List PV) (xs:List Value),bT N w hp R (ps.map .pv) xs→dX N w ps xs
 |[],xs,h=>by simpa only[List.map,bT,dX] using h
 | p::ps,xs,h=>by
   simp only[List.map_cons,bT,ai] at h;simp only[dX];obtain⟨v,r,e,h1,h2⟩:=h;exact⟨v,r,e,h1,vk ps r h2⟩
def isY (vs:List AV):Bool:=
 match vs with
 | v::_=>match v with
   | .pv p=>match p with
     | .fn f _ _=>match f with
       |.yield _=>true
       |_=>false
     |_=>false
   |_=>false
 |[]=>false
def yC (P:Program)(hp:List (Nat×aA))(vs:List AV)(K:AV→List (Nat×aA)→List Nat→Prop):Prop:=
 match vs with
 | .pv (.fn (.yield l) [] [])::args=>match lk hp 999 with
   | some (.tr y ver rest st)=>match st with
     | some b=>match b with
       | false=>match je args with
         |some ps=>y=(P,l)∧∃x r,rest=x::r∧jA x ps∧K (.bn 999 (ver+1) 0 0) [(999,.tr y (ver+1) r none)] [999]
         |none=>False
       |true=>False
     |none=>False
   |_=>False
 |_=>False
section
variable {P:Program}{c:Ctx}{R:Real}{s:AS}{a:Act}{w:World}
def lm (c:Ctx)(R:Real)(hp:List (Nat×aA))(r:Nat):Prop:=aT c R hp r∧¬R.Y.D r
def yR (R:Real)(b:Bool)(Z D:Nat→Prop)(w:World):Real:=
 { R with nil:=fun b'=>if b'=999 then b else R.nil b',Y:={ R.Y with Z:=Z,D:=D,wy:=w } }
theorem bB.yielded (g:bB c R s a w){y:Program×Nat}{ver:Nat}{rest r:List (List PV)}{w':World}{D':Nat→Prop}{b:Bool}
  (h9:lk s.hp 999=some (.tr y ver rest (some false))) (hE:nI R.Y.D w w') (hD1:∀r,D' r→R.Y.D r∨w.heap.size≤r) (hD2:∀r,D' r→r<w'.heap.size)
  (hJ:R.Y.n0.2 r (!b) (lm c R s.hp) D' w') :
  bB c (yR R b (lm c R s.hp) D' w') (s.app [(999,.tr y (ver+1) r none)]) a w' ∧
   ai (aT c (yR R b (lm c R s.hp) D' w') ((999,.tr y (ver+1) r none)::s.hp)) w' ((999,.tr y (ver+1) r none)::s.hp) (yR R b (lm c R s.hp) D' w') (.bn 999 (ver+1) 0 0) (.bool b):=by
 generalize hbx:aA.tr y (ver+1) r none=bD;obtain⟨R',hR'⟩:∃R',R'=yR R b (lm c R s.hp) D' w':=⟨_,rfl⟩;rw[←hR'];have k:=g.boxes 999 _ h9;obtain⟨-,kh,k1,k2,k3,k4⟩:=k;have uW:lk ((999,bD)::s.hp) 999=some bD:=by rw[ax,if_pos rfl]
 have sU:∀b',b'≠999→lk ((999,bD)::s.hp) b'=lk s.hp b':=fun b' h=>by rw[ax,if_neg (fun e=>h e.symm)]
 have hR:∀b',b'≠999→R'.blk b'=R.blk b'∧R'.nil b'=R.nil b'∧R'.cap b'=R.cap b':=fun b' h=>by subst hR';simp[yR,h]
 have hRY:R'.Y={ R.Y with Z:=lm c R s.hp,D:=D',wy:=w' }:=by subst hR';rfl
 have ahN:∀r,aI R 999 r (lk s.hp 999)=R.Y.D r:=fun r=>by rw[h9];rfl
 have adU:∀r,aI R' 999 r (some bD)=D' r:=fun r=>by subst hbx;simp only[aI,hRY]
 have ntr:∀b' box,b'≠999→lk s.hp b'=some box→∀x1 x2 x3 x4,box ≠ .tr x1 x2 x3 x4:=by
  rintro b' box hne hb x1 x2 x3 x4 rfl
  exact hne (g.boxes b' _ hb).1
 have VE:∀b' r,b'≠999→aI R' b' r (lk s.hp b')→aI R b' r (lk s.hp b'):=by
  intro b' q hne h;cases hb:lk s.hp b' with
  |none=>rw[hb] at h;exact h.elim
  | some box=>
    rw[hb] at h;have hn:=ntr b' box hne hb;obtain⟨e1,e2,e3⟩:=hR b' hne;cases box<;>simp only[aI,e1,e2,e3] at h ⊢ <;> first
     |exact h
     |exact absurd rfl (hn _ _ _ _)
 have am9:∀b' r,b'≠999→aI R b' r (lk s.hp b')→aI R' b' r (lk s.hp b'):=by
  intro b' q hne h;cases hb:lk s.hp b' with
  |none=>rw[hb] at h;exact h.elim
  | some box=>
    rw[hb] at h;have hn:=ntr b' box hne hb;obtain⟨e1,e2,e3⟩:=hR b' hne;cases box<;>simp only[aI,e1,e2,e3] at h ⊢ <;> first
     |exact h
     |exact absurd rfl (hn _ _ _ _)
 have hworld:nI (fun r=>aI R 999 r (lk s.hp 999)) w w':=hE.mono fun r h=>by rw[ahN];exact h
 have hown:∀r,aI R' 999 r (some bD)→aI R 999 r (lk s.hp 999)∨w.heap.size≤r:=fun r h=>by rw[adU] at h;rw[ahN];exact hD1 r h
 have KM:∀r,owned R' ((999,bD)::s.hp) r→owned R s.hp r∨w.heap.size≤r:=by
  rintro r ⟨b',h⟩
  by_cases e:b'=999
  ·subst e;rw[uW] at h;exact (hown r h).imp (fun x=>⟨999,x⟩) id
  rw[sU b' e] at h;exact .inl ⟨b',VE b' r e h⟩
 have hN:∀r,r<w.heap.size→aT c R' ((999,bD)::s.hp) r→aT c R s.hp r:=by
  rintro r hr (h|h)
  ·exact .inl h
  exact .inr ((KM r h).resolve_right (by omega))
 have hw:∀r,r<w.heap.size→¬aT c R s.hp r→w'.heap[r]? = w.heap[r]? :=fun r hr hn=>hworld.keep r hr fun x=>hn (.inr ⟨999,x⟩)
 have p1:∀b' off v,aX R b' off v (lk s.hp b')→aX R' b' off v (lk ((999,bD)::s.hp) b'):=fun b' off v h=>by
  by_cases e:b'=999
  ·subst e;rw[h9] at h;exact h.elim
  rw[sU b' e];exact jW (hR b' e) h
 have p2:∀b' ver v,aS R b' ver v (lk s.hp b')→aS R' b' ver v (lk ((999,bD)::s.hp) b'):=fun b' ver v h=>by
  by_cases e:b'=999
  ·subst e;rw[h9] at h;exact h.elim
  rw[sU b' e];exact lu (hR b' e) h
 have p3:∀b' ver i off v,aZ R b' ver i off v (lk s.hp b')→aZ R' b' ver i off v (lk ((999,bD)::s.hp) b'):=fun b' ver i off v h=>by
  by_cases e:b'=999
  ·subst e;rw[h9] at h;rw[uW];subst hbx;simp only[aZ] at h ⊢;exact⟨by omega,h.2.1,fun e=>by omega⟩
  rw[sU b' e];exact lD (hR b' e) h
 have hwo:∀r,r<w.heap.size→¬owned R s.hp r→w'.heap[r]? = w.heap[r]? :=fun r hr hn=>hworld.keep r hr fun x=>hn ⟨999,x⟩
 have hoo:∀r,r<w.heap.size→owned R' ((999,bD)::s.hp) r→owned R s.hp r:=fun r hr h=>(KM r h).resolve_right (by omega)
 refine⟨⟨?_,g.size,⟨by rw[hRY];exact g.lo.1,g.lo.2.1,Nat.le_trans g.lo.2.2 hE.size⟩,g.marks.imp fun Ds h=>h.kept hwo hoo,g.fixed.kept hwo hoo,?_,?_,?_,?_,?_,fun v x h=>bZ hN hw p1 p2 p3 v x (g.kept v x h)⟩,?_⟩
 ·intro t v h;obtain⟨x,hx,hv⟩:=g.slots t v h;exact⟨x,hx,bZ hN hw p1 p2 p3 v x hv⟩
 ·intro b' box h;by_cases e:b'=999
  ·subst e;simp only[AS.app,List.singleton_append,uW,Option.some.injEq] at h;subst h;subst hbx;simp only[eB,hRY];refine⟨trivial,kh,?_,DK.refl _ _ _ _,hD2,fun q hn=>?_⟩
   ·have:R'.nil 999=b:=by subst hR';simp[yR]
    rw[this];exact hJ
   rcases hn with hn|⟨b2,ho⟩
   ·refine .inr (.inl ⟨.inl hn,fun hd=>?_⟩);exact g.free q ⟨999,by rw[h9];exact hd⟩ hn
   simp only[AS.app,List.singleton_append] at ho;by_cases e2:b2=999
   ·subst e2;rw[uW,adU] at ho;exact .inl ho
   rw[sU b2 e2] at ho;have ho':=VE b2 q e2 ho;exact .inr (.inl ⟨.inr ⟨b2,ho'⟩,fun hd=>e2 (g.inj b2 999 q ho' (by rw[h9];exact hd))⟩)
  simp only[AS.app,List.singleton_append,sU b' e] at h;have hr:=g.boxes b' box h;have hRb:=hR b' e;have hkeep:∀r,aI R b' r (lk s.hp b')→w'.heap[r]? = w.heap[r]? :=fun r ho=>
   hworld.keep r (g.ko ho) fun x=>e (g.inj b' 999 r ho x)
  rw[h] at hkeep;cases box with
  | var cells=>
    obtain⟨cur,e',h8,h9⟩:=hr;refine⟨cur,e',?_,bI hN hw p1 p2 p3 _ _ h9⟩;rw[hRb.1,hkeep _ rfl];exact h8
  | sD cells=>
    obtain⟨cur,e',fr,h8,h7,h9⟩:=hr;have hs:=size_of_getElem? h8;refine⟨cur,e',fr,?_,?_,bX hN hw _ _ h9⟩
    ·rw[hRb.1,hw _ hs h7];exact h8
    rw[hRb.1];exact fun x=>h7 (hN _ hs x)
  | arr e' ver st rows=>
    obtain⟨xs,h8,h9⟩:=hr;refine⟨xs,?_,aV hN hw _ _ _ h9⟩;rw[jo hRb];refine dD h8 fun k hk=>hkeep k ?_
    simp only[bY] at hk;cases hnil:R.nil b' with
    |true=>simp[hnil,Value.ownBlock] at hk
    |false=>simp[hnil,Value.ownBlock] at hk;exact⟨hnil,hk⟩
  | kE ver st rows=>
    simp only[eB,jo hRb] at hr ⊢;exact dw hN hw _ _ hr
  |tr _ _ _ _=>exact absurd rfl (ntr b' _ e h _ _ _ _)
  | mp kk kv es=>
    obtain⟨cur,clock,h8,h9,h10⟩:=hr;exact⟨cur,clock,by rw[hRb.1,hkeep _ ⟨h9,rfl⟩];exact h8,by rw[hRb.2.1];exact h9,h10⟩
  |fP e' ver st j ed sd pre row post=>exact jI hN hw hRb.1 hRb.2.1 hRb.2.2 (fun k hk=>hkeep k hk) rfl (fun vs h=>bI hN hw p1 p2 p3 _ _ h) hr
  | dN e' ver st pre row post=>
    obtain⟨xs,h8,h9,h10,h11,h12⟩:=hr;refine⟨xs,?_,aV hN hw _ _ _ h9,h10,bI hN hw p1 p2 p3 _ _ h11,aV hN hw _ _ _ h12⟩;rw[jo hRb];refine dD h8 fun k hk=>hkeep k ?_
    simp only[bY] at hk;cases hnil:R.nil b' with
    |true=>simp[hnil,Value.ownBlock] at hk
    |false=>simp[hnil,Value.ownBlock] at hk;exact⟨hnil,hk⟩
 ·intro b1 b2 q h1 h2;simp only[AS.app,List.singleton_append] at h1 h2;by_cases e1:b1=999
  ·by_cases e2:b2=999
   ·rw[e1,e2]
   subst e1;simp only[uW,sU b2 e2] at h1 h2;have h2':=VE b2 q e2 h2;have hlt:=g.ko h2';exact g.inj _ _ q ((hown q h1).resolve_right (by omega)) h2'
  by_cases e2:b2=999
  ·subst e2;simp only[uW,sU b1 e1] at h1 h2;have h1':=VE b1 q e1 h1;have hlt:=g.ko h1';exact g.inj _ _ q h1' ((hown q h2).resolve_right (by omega))
  simp only[sU b1 e1,sU b2 e2] at h1 h2;exact g.inj _ _ q (VE b1 q e1 h1) (VE b2 q e2 h2)
 ·intro q h hF;rcases KM q h with h|h
  ·exact g.free q h hF
  have:=c.hF q hF;have:=g.jE.size;omega
 ·refine g.jE.trans hworld fun q hr ho=>?_
  exact (g.iL q ⟨999,ho⟩).resolve_right (by omega)
 ·intro q h;rcases KM q h with h|h
  ·exact g.iL q h
  exact .inr (Nat.le_trans g.jE.size h)
 simp only[ai,uW];subst hbx;simp only[aZ];have:R'.nil 999=b:=by subst hR';simp[yR]
 exact⟨Nat.le_refl _,rfl,fun _ _=>by rw[this];cases b<;>rfl⟩
end
section
variable {P:Program}{T:Tab}{c:Ctx}
theorem bB.congr {R:Real}{tm tm':List (Nat×AV)}{nx:Nat}{hp hp':List (Nat×aA)}{a:Act}{w:World}(g:bB c R ⟨tm,nx,hp⟩ a w)
  (ht:∀t,lk tm' t=lk tm t) (hh:∀b,lk hp' b=lk hp b):bB c R ⟨tm',nx,hp'⟩ a w:=by
 have ho:∀r,owned R hp' r↔owned R hp r:=fun r=>by simp only[owned,hh]
 have hN:∀r,r<w.heap.size→aT c R hp' r→aT c R hp r:=fun r _ h=>h.imp id (ho r).1
 have YV:∀r,¬aT c R hp r→¬aT c R hp' r:=fun r h h'=>h (h'.imp id (ho r).1)
 have hw:∀r,r<w.heap.size→¬aT c R hp r→w.heap[r]? = w.heap[r]? :=fun _ _ _=>rfl
 have h1:∀b off v,aX R b off v (lk hp b)→aX R b off v (lk hp' b):=fun b off v h=>by rw[hh];exact h
 have h2:∀b ver v,aS R b ver v (lk hp b)→aS R b ver v (lk hp' b):=fun b ver v h=>by rw[hh];exact h
 have h3:∀b ver i off v,aZ R b ver i off v (lk hp b)→aZ R b ver i off v (lk hp' b):=fun b ver i off v h=>by rw[hh];exact h
 refine⟨fun t v hv=>?_,g.size,g.lo,g.marks.imp fun Ds hm=>hm.kept (fun _ _ _=>rfl) (fun r _ h=>(ho r).1 h),g.fixed.kept (fun _ _ _=>rfl) (fun r _ h=>(ho r).1 h),fun b box hb=>?_,fun b b' r hb hb'=>?_,fun r hr=>g.free r ((ho r).1 hr),g.jE,fun r hr=>g.iL r ((ho r).1 hr),fun v x h=>bZ hN hw h1 h2 h3 v x (g.kept v x h)⟩
 ·obtain⟨x,hx,hr⟩:=g.slots t v (by rw[←ht];exact hv);exact⟨x,hx,bZ hN hw h1 h2 h3 v x hr⟩
 ·have hr:=g.boxes b box (by rw[←hh];exact hb);cases box with
  | var cells=>
    simp only[eB] at hr ⊢;obtain⟨cur,e,ha,hb⟩:=hr;exact⟨cur,e,ha,bI hN hw h1 h2 h3 cells _ hb⟩
  | sD cells=>
    simp only[eB] at hr ⊢;obtain⟨cur,e,fr,ha,hn,hb⟩:=hr;exact⟨cur,e,fr,ha,YV _ hn,bX hN hw cells _ hb⟩
  | arr e ver st rows=>
    simp only[eB] at hr ⊢;obtain⟨xs,ha,hb⟩:=hr;exact⟨xs,ha,aV hN hw st rows xs hb⟩
  | kE ver st rows=>
    simp only[eB] at hr ⊢;exact dw hN hw _ _ hr
  | tr y ver rest st=>
    obtain⟨k0,kh,k1,k2,k3,k4⟩:=hr;exact⟨k0,kh,k1,k2,k3,fun r hn=>k4 r (hn.imp id (ho r).1)⟩
  |fP e' ver st j ed sd pre row post=>exact jI hN hw rfl rfl rfl (fun k _=>rfl) rfl (fun vs h=>bI hN hw h1 h2 h3 _ _ h) hr
  |mp kk kv es=>exact hr
  | dN e' ver st pre row post=>
    obtain⟨xs,h8,h9,h10,h11,h12⟩:=hr;exact⟨xs,h8,aV hN hw _ _ _ h9,h10,bI hN hw h1 h2 h3 _ _ h11,aV hN hw _ _ _ h12⟩
 simp only[hh] at hb hb';exact g.inj b b' r hb hb'
end
def OA (ids:List Nat)(hp:List (Nat×aA)):List (Nat×aA)→Prop→Prop
 |[],X=>X
 |(b,box)::r,X=>EM b ids=true∧(lk hp b=some box∧OA ids hp r X)
theorem yV {ids:List Nat}{hp:List (Nat×aA)}:∀{ws:List (Nat×aA)} {X:Prop},OA ids hp ws X→X∧∀b,lk (ws++hp) b=lk hp b
 |[],X,h=>⟨h,fun _=>rfl⟩
 | (b,box)::r,X,h=>by
   obtain⟨h1,h2,h3⟩:=h;obtain⟨h4,h5⟩:=yV h3;refine⟨h4,fun k=>?_⟩;rw[List.cons_append,ax];split
   ·rename_i e;rw[←e];exact h2.symm
   exact h5 k
theorem OB {x:Nat}:∀{l:List Nat},EM x l=true→x∈l
 |[],h=>by simp[EM] at h
 | y::r,h=>by
   unfold EM at h;split at h
   ·rename_i e;have e:=Nat.eq_of_beq_eq_true e;simp[e]
   exact List.mem_cons_of_mem _ (OB h)
theorem C8 {ids:List Nat}{hp hp':List (Nat×aA)}(hb:∀b∈ids,lk hp' b=lk hp b):∀{ws:List (Nat×aA)} {X Y:Prop},OA ids hp ws X→Y→OA ids hp' ws Y
 |[],X,Y,h,hy=>hy
 |(b,box)::r,X,Y,h,hy=>⟨h.1,(hb b (OB h.1)).trans h.2.1,C8 hb h.2.2 hy⟩
def gV (P:Program)(hp:List (Nat×aA))(id:Nat)(vs:List AV)(K:AV→List (Nat×aA)→List Nat→Prop):Prop:=
 gC P hp id vs fun r ws ids=>OA ids hp ws (K r [] ids)
def uD (T:Tab)(H:List (Nat×aA))(t:TypeId)(vs:List AV)(id:Nat)(K:AV→List (Nat×aA)→Prop):Prop:=
 match vs with
 | [.sub b ver st lo hi,x]=>match lk T t with
   | some i=>match i.d with
     | .slt e=>match lk T e with
       | some ei=>match lN H st x with
         | some aP=>match lk H b with
           | some (.arr e' v st' rows)=>match Nat.beq ver v,Nat.beq st st',Nat.beq st ei.size,Nat.beq e' e,Nat.beq lo 0 with
             |true,true,true,true,true=>hi+aP.length≤rows.length∧K (.sub b ver st 0 (hi+aP.length)) [(b,.arr e' v st' (rows.take hi++(aP++rows.drop (hi+aP.length))))]
             |_,_,_,_,_=>False
           |_=>False
         |none=>False
       |none=>False
     |_=>False
   |none=>False
 |_=>uN T H t vs id K
section
variable {P:Program}{T:Tab}{c:Ctx}{R:Real}{s:AS}{a:Act}{w:World}
theorem qi (g:bB c R s a w)(hT:bO P T){H:List (Nat×aA)}(hH:∀b box,lk H b=some box→lk s.hp b=some box){id:Nat}(hf:lk s.hp id=none)
  {t ty:TypeId} {d x:AV} {K:AV→List (Nat×aA)→Prop} (h:uD T H t [d,x] id K) {u v:Value} (hd:ai (aT c R s.hp) w s.hp R d u) (hx:ai (aT c R s.hp) w s.hp R x v) :
  ∃y w' R' z ws,(Builtin.append_ #[t,t] ty #[u,v]).run P w=.ok y w'∧K z ws∧bB c R' (s.app ws) a w'∧ai (aT c R' (ws++s.hp)) w' (ws++s.hp) R' z y:=by
 unfold uD at h;split at h
 ·rename_i b ver st lo hi x' heq;simp only[List.cons.injEq,and_true] at heq;obtain⟨rfl,rfl⟩:=heq;split at h;rotate_left;cases h
  rename_i i hi';obtain⟨dd,hdd,iE⟩:=(hT t i hi').iM;split at h;rotate_left;cases h
  rename_i e hte;have ht:P.underlying t=some (.slice e):=by
   rw[hte] at iE;cases dd<;>simp[di] at iE
   subst iE;exact hdd
  split at h;rotate_left;cases h
  rename_i ei qZ;have jd:=hT _ _ qZ;obtain⟨ti,zv,hinfo,hsz,hby,hzero,hzc⟩:=jd.Eu;split at h;rotate_left;cases h
  rename_i aP hsrc;obtain⟨p,len,cap,rfl,rfl,hlc,hpn,hps⟩:=IZ g hH hsrc hx;split at h;rotate_left;cases h
  rename_i e' vr st' rows hb;have hb':=hH _ _ hb;split at h;rotate_left;cases h
  rename_i gy hst KV he hlo;have gy:=Nat.eq_of_beq_eq_true gy;have hst:=Nat.eq_of_beq_eq_true hst;have KV:=Nat.eq_of_beq_eq_true KV;have he:=Nat.eq_of_beq_eq_true he;have hlo:=Nat.eq_of_beq_eq_true hlo;subst gy;subst hst;subst he;subst hlo;obtain⟨hbd,hK⟩:=h;have hre:=g.boxes b _ hb';simp only[ai,hb',aS] at hd;obtain⟨u0,hu0,hok,rfl⟩:=hd;have hu:=hu0.2.2 (by trivial);subst hu;by_cases hz:aP.length=0
  ·have he:aP=[]:=List.eq_nil_of_length_eq_zero hz;subst he;have ad3:∃p0 l0 c0,jD st 0 hi (bY R b rows.length)=.slice p0 l0 c0∧l0≤c0:=by
    cases hn:R.nil b with
    |true=>exact⟨none,0,0,by simp[bY,hn,jD],Nat.le_refl _⟩
    | false=>
      obtain⟨cur,hg,hs,hle,hm,hr,_⟩:=gU hre hn;simp only[bY,hn,Bool.false_eq_true,if_false,uw] at hok;have hsv:jD st 0 hi (bY R b rows.length)=.slice (some (if (R.cap b).1=0 then ⟨R.blk b,0,none⟩ else (⟨R.blk b,0,none⟩:Addr).add (0*st))) (hi-0) ((R.cap b).1-0):=by simp only[bY,hn,Bool.false_eq_true,if_false,jD]
      exact⟨_,_,_,hsv,by omega⟩
   obtain⟨p0,l0,c0,e1,e2⟩:=ad3;have hrun:=mH (P:=P) (w:=w) (ty:=ty) ht jd p0 p l0 c0 cap e2;rw[←e1] at hrun;simp only[List.length_nil,Nat.add_zero,List.nil_append,List.take_append_drop] at hK;refine⟨_,w,R,_,_,hrun,hK,g.sameBox hb',?_⟩;simp only[ai,List.cons_append,List.nil_append,ax,if_true,aS];exact⟨_,hu0,hok,rfl⟩
  cases p with
  |none=>exact absurd (by rw[hpn rfl];rfl) hz
  | some ad=>
    obtain⟨news,n1,n2,n3,n4⟩:=hps ad rfl;have hn:R.nil b=false:=by
     cases hn:R.nil b with
     |false=>rfl
     | true=>
       have:=qj hre hn;subst this;simp only[List.length_nil] at hbd;omega
    obtain⟨cur,hg,hs,hle,hm,hr,_⟩:=gU hre hn;simp only[bY,hn,Bool.false_eq_true,if_false,uw] at hok;have hadd:(⟨R.blk b,0,none⟩:Addr).add (0*st)=⟨R.blk b,0,none⟩:=by simp[Addr.add]
    have hsub:∀k,jD st 0 k (bY R b rows.length)=.slice (some ⟨R.blk b,0,none⟩) k ((R.cap b).1):=by
     intro k;simp only[bY,hn,jD,Bool.false_eq_true,if_false,hadd,Nat.sub_zero];split<;>rfl
    have hroom:hi+aP.length≤(R.cap b).1:=by omega
    have hmul:hi*st+aP.length*st=(hi+aP.length)*st:=by rw[Nat.add_mul]
    have hcs:(hi+aP.length)*st≤cur.size:=by rw[hs];exact Nat.mul_le_mul_right _ hroom
    have hfit:hi*st+news.length≤cur.size:=by rw[n1,hmul];exact hcs
    have hrun:=run_append_room (P:=P) w t ty e' ti ht hinfo (R.blk b) hi ((R.cap b).1) cur hg ad aP.length cap news (by rw[hsz,n1,KV]) n2 n3 hroom (by rw[hsz,←KV];exact hfit);rw[hsz,←KV] at hrun;have hR:∀b',b'≠b→R.blk b'=R.blk b'∧R.nil b'=R.nil b'∧R.cap b'=R.cap b':=fun _ _=>⟨rfl,rfl,rfl⟩
    generalize hrows:(rows.take hi++(aP++rows.drop (hi+aP.length)))=Fy at hK;have hll:Fy.length=rows.length:=by rw[←hrows];simp;omega
    have r1:∀off v',aX R b off v' (lk s.hp b)→aX R b off v' (some (.arr e' ver st Fy)):=fun off v h=>by rw[hb'] at h;exact h
    have r2:∀pz v',aS R b pz v' (lk s.hp b)→aS R b pz v' (some (.arr e' ver st Fy)):=fun _ v h=>by rw[hb'] at h;simp only[aS,hll] at h ⊢;exact h
    have r3:∀pz i off v',aZ R b pz i off v' (lk s.hp b)→aZ R b pz i off v' (some (.arr e' ver st Fy)):=fun _ _ _ v h=>by rw[hb'] at h;exact h
    have hown:∀r,aI R b r (some (.arr e' ver st Fy))→aI R b r (lk s.hp b)∨w.heap.size≤r:=fun r h=>by rw[hb'];exact .inl h
    have hworld:nI (fun r=>aI R b r (lk s.hp b)) w (w.setRow (R.blk b) (cur.toList.take (hi*st)++news++cur.toList.drop (hi*st+news.length)).toArray):=by
     refine (oO w _ _).mono ?_;rintro r rfl
     rw[hb'];exact⟨hn,rfl⟩
    obtain⟨m1,m2,m3,m4,m5⟩:=g.Kk hR r1 r2 r3 hown hworld;refine⟨_,_,R,_,_,by rw[hsub];exact hrun,hK,g.upd hR r1 r2 r3 hown hworld ?_,?_⟩
    ·have hnew:bK (aT c R s.hp) w st Fy (cur.toList.take (hi*st)++news++cur.toList.drop (hi*st+news.length)):=by
      rw[←hrows,List.append_assoc];have p1:bK (aT c R s.hp) w st (rows.take hi) (cur.toList.take (hi*st)):=by
       obtain⟨_,t2,_⟩:=gD (lQ (i:=hi) hr);rw[List.length_take,Nat.min_eq_left (by omega)] at t2;exact t2
      refine jF p1 (by rw[List.length_take,List.length_take,Nat.min_eq_left (by simp;omega),Nat.min_eq_left (by omega)]) (jF n4 n1 ?_);rw[n1,hmul];exact mG (hi+aP.length) hr
     have Yg:(cur.toList.take (hi*st)++news++cur.toList.drop (hi*st+news.length)).length=cur.size:=by
      simp only[List.length_append,List.length_take,List.length_drop,Array.length_toList];omega
     obtain⟨t1,t2,t3⟩:=gD (aV m1 m2 _ _ _ hnew);refine⟨_,?_,t2⟩;have hsl:bY R b Fy.length=.slice (some ⟨R.blk b,0,none⟩) rows.length ((R.cap b).1):=by simp[bY,hn,hll]
     rw[hsl,hll];rw[hll] at t1;refine⟨?_,.inr ⟨R.blk b,(R.cap b).1,_,rfl,Nat.zero_le _,setRow_heap w _ cur _ e' _ hg,hle,hm,?_,by simp⟩⟩
     ·simp only[List.length_take];omega
     simp only[List.size_toArray,Yg,hs]
    simp only[ai,List.cons_append,List.nil_append,ax,if_true,aS];refine⟨bY R b rows.length,⟨Nat.le_refl _,hu0.2.1,fun _=>by rw[hll]⟩,?_,by rw[hsub]⟩;simp only[bY,hn,Bool.false_eq_true,if_false,uw];omega
 exact sI g hT hH hf h hd hx
def Jd (T:Tab)(H:List (Nat×aA))(t:TypeId)(lo hi mx:Option Operand)(b ver st l0:Nat)(r:List AV)(K:AV→List (Nat×aA)→Prop):Prop:=
 match lk H b with
 | some (.arr e v st' rows)=>match Nat.beq ver v,Nat.beq l0 0,isNone mx with
   | true,true,true=>match lk T t with
     | some i=>match i.d with
       | .slt et=>match lk T et with
         | some ei=>match Nat.beq st ei.size,Nat.beq st st' with
           | true,true=>match DY lo r with
             | some (some l,r1)=>match DY hi r1 with
               |some (some h,_)=>0≤h∧h≤rows.length∧0≤l∧l≤h∧K (.sub b ver st l.toNat h.toNat) []
               |_=>False
             |_=>False
           |_,_=>False
         |none=>False
       |_=>False
     |none=>False
   |_,_,_=>False
 |_=>False
def Je (T:Tab)(H:List (Nat×aA))(t:TypeId)(lo hi mx:Option Operand)(b ver:Nat)(r:List AV)(K:AV→List (Nat×aA)→Prop):Prop:=
 match lk H b with
 | some (.arr e v st rows)=>match Nat.beq ver v with
   | true=>match lk T t with
     | some i=>match i.d with
       | .slt et=>match lk T et with
         | some ei=>match DY lo r with
           | some (some l,r1)=>match DY hi r1 with
             | some (some h,r2)=>match DY mx r2 with
               |some (some m,_)=>0≤m∧m≤rows.length∧0≤h∧h≤m∧0≤l∧l≤h∧K (.pv .junk) []
               |_=>False
             |_=>False
           |_=>False
         |none=>False
       |_=>False
     |none=>False
   |false=>False
 |_=>False
def qd (T:Tab)(H:List (Nat×aA))(t:TypeId)(lo hi mx:Option Operand)(vs:List AV)(K:AV→List (Nat×aA)→Prop):Prop:=
 match ag5 T with
 |false=>og T H t lo hi mx vs K
 | true=>match vs with
   |.sub b ver st l0 _::r=>Jd T H t lo hi mx b ver st l0 r K
   | .aB b ver::r=>match isNone mx with
     |true=>og T H t lo hi mx vs K
     |false=>Je T H t lo hi mx b ver r K
   |_=>og T H t lo hi mx vs K
theorem Q0 {P:Program}{w:World}{len len' cap:Nat}{lo hi mx:Option Value}(h:hi.isSome=true):(Instr.sliceBounds true len cap lo hi mx).run P w=(Instr.sliceBounds true len' cap lo hi mx).run P w:=by
 cases hi with
 |none=>cases h
 |some v=>cases mx<;>simp[Instr.sliceBounds]
theorem abb {o:Option Value}{j:Int}(h:vI o (some j)):o.isSome=true:=by
 cases o with
 |none=>exact h.elim
 |some v=>rfl
theorem NC (g:bB c R s a w)(hT:bO P T){H:List (Nat×aA)}(hH:∀b box,lk H b=some box→lk s.hp b=some box){t:TypeId}{x0:Operand}{lo hi mx:Option Operand}{b ver st l0 h0:Nat}{r:List AV}
  {K:AV→List (Nat×aA)→Prop} (h:Jd T H t lo hi mx b ver st l0 r K)
  (hv:FL (ai (aT c R s.hp) w s.hp R) (.sub b ver st l0 h0::r) ((x0::(lo.toList++(hi.toList++mx.toList))).map a.eval)) :
  ∃y z,(Instr.sliceAt t (a.eval x0) (lo.map a.eval) (hi.map a.eval) (mx.map a.eval)).run P w=.ok y w∧K z []∧ai (aT c R s.hp) w s.hp R z y:=by
 unfold Jd at h;split at h;rotate_left;cases h
 rename_i e v st' rows hb;split at h;rotate_left;cases h
 rename_i gy hl0 hmx;have gy:=Nat.eq_of_beq_eq_true gy;have hl0:=Nat.eq_of_beq_eq_true hl0;have hmx:mx=none:=by cases mx<;>simp_all [isNone]
 subst hmx;subst hl0;split at h;rotate_left;cases h
 rename_i i hi';obtain⟨d,hd,iE⟩:=(hT t i hi').iM;split at h;rotate_left;cases h
 rename_i et hte;have hd':P.underlying t=some (.slice et):=by
  rw[hte] at iE;cases d<;>simp[di] at iE
  subst iE;exact hd
 split at h;rotate_left;cases h
 rename_i ei qZ;have jd:=hT _ _ qZ;split at h;rotate_left;cases h
 rename_i hst KV;have hst:=Nat.eq_of_beq_eq_true hst;have KV:=Nat.eq_of_beq_eq_true KV;subst KV;split at h;rotate_left;cases h
 rename_i l r1 hl;split at h;rotate_left;cases h
 rename_i hh r2 hhi;obtain⟨k1,k2,k3,k4,hK⟩:=h;simp only[List.map_cons] at hv;obtain⟨u,r',e1,hx,hv⟩:=hv;simp only[List.cons.injEq] at e1;obtain⟨e1,rfl⟩:=e1;obtain⟨v1,hv⟩:=iH hv hl;obtain⟨v2,hv⟩:=iH (rest:=[]) (by simpa using hv) hhi;have hb':=hH _ _ hb;have hre:=g.boxes b _ hb';simp only[ai,hb',aS] at hx;obtain⟨u0,hu0,hok,rfl⟩:=hx;have hu:=hu0.2.2 gy;subst hu;have hhs:=abb v2;cases hn:R.nil b with
 | true=>
   have hr0:=qj hre hn;subst hr0;simp only[bY,hn,if_true,uw,List.length_nil] at hok;obtain⟨hrun,q1,q2,q3⟩:=ja (P:=P) (w:=w) (Ve:=true) (len:=0) (cap:=0) (m:=none) v1 v2 (show vI none none from trivial) (Nat.le_refl _) (fun i e=>by cases e) (by simpa[dQ] using ⟨k1,k2⟩) (by simpa[dQ] using ⟨k3,k4⟩);have hz:hh.toNat=0:=by simp at k2;omega
   have lz:l.toNat=0:=by omega
   refine⟨.slice none 0 0,_,?_,hK,?_⟩
   ·rw[e1];simp only[Option.map_none,Option.map_some,Option.getD_none,Option.getD_some,dQ,hz,lz] at hrun;simp only[Instr.sliceAt,Instr.slice,Sem.run_bind,run_underlying hd',Result.andThen_ok,bY,hn,if_true,jD,Option.map_none,hrun,jd.run_sizeOf,Sem.run_pure]
   simp only[ai,hb',aS];refine⟨_,hu0,?_,by simp[bY,hn,jD]⟩;simp only[bY,hn,if_true,uw];omega
 | false=>
   obtain⟨cur,hg,hs,hle,hm,hr,_⟩:=gU hre hn;obtain⟨hrun,q1,q2,q3⟩:=ja (P:=P) (w:=w) (Ve:=true) (len:=rows.length) (cap:=(R.cap b).1) (m:=none) v1 v2 (show vI none none from trivial) hle (fun i e=>by cases e) (by
    intro i hi;cases hi;exact⟨k1,k2⟩) (by intro i hi;cases hi;exact⟨k3,k4⟩)
   rw[Q0 (len':=h0) hhs] at hrun;simp only[Option.map_none,Option.map_some,Option.getD_none,Option.getD_some,dQ] at hrun;have hadd:(⟨R.blk b,0,none⟩:Addr).add (0*st)=⟨R.blk b,0,none⟩:=by simp[Addr.add]
   have hsub:jD st 0 h0 (bY R b rows.length)=.slice (some ⟨R.blk b,0,none⟩) h0 ((R.cap b).1):=by
    simp only[bY,hn,jD,Bool.false_eq_true,if_false,hadd,Nat.sub_zero];split<;>rfl
   refine⟨jD st l.toNat hh.toNat (bY R b rows.length),_,?_,hK,?_⟩
   ·rw[e1,hsub];simp only[Instr.sliceAt,Instr.slice,Sem.run_bind,run_underlying hd',Result.andThen_ok,Option.map_none,hrun,jd.run_sizeOf,Sem.run_pure];simp only[bY,hn,Bool.false_eq_true,if_false,jD,hst];congr 2
    split<;>rfl
   simp only[ai,hb',aS];refine⟨_,hu0,?_,rfl⟩;simp only[bY,hn,Bool.false_eq_true,if_false,uw];omega
theorem ND (g:bB c R s a w)(hT:bO P T){H:List (Nat×aA)}(hH:∀b box,lk H b=some box→lk s.hp b=some box){t:TypeId}{x0:Operand}{lo hi mx:Option Operand}{b ver:Nat}{r:List AV}
  {K:AV→List (Nat×aA)→Prop} (h:Je T H t lo hi mx b ver r K)
  (hv:FL (ai (aT c R s.hp) w s.hp R) (.aB b ver::r) ((x0::(lo.toList++(hi.toList++mx.toList))).map a.eval)) :
  ∃y z,(Instr.sliceAt t (a.eval x0) (lo.map a.eval) (hi.map a.eval) (mx.map a.eval)).run P w=.ok y w∧K z []∧ai (aT c R s.hp) w s.hp R z y:=by
 unfold Je at h;split at h;rotate_left;cases h
 rename_i e v st rows hb;split at h;rotate_left;cases h
 rename_i gy;have gy:=Nat.eq_of_beq_eq_true gy;split at h;rotate_left;cases h
 rename_i i hi';obtain⟨d,hd,iE⟩:=(hT t i hi').iM;split at h;rotate_left;cases h
 rename_i et hte;have hd':P.underlying t=some (.slice et):=by
  rw[hte] at iE;cases d<;>simp[di] at iE
  subst iE;exact hd
 split at h;rotate_left;cases h
 rename_i ei qZ;have jd:=hT _ _ qZ;split at h;rotate_left;cases h
 rename_i l r1 hl;split at h;rotate_left;cases h
 rename_i hh r2 hhi;split at h;rotate_left;cases h
 rename_i m r3 hmx;obtain⟨k5,k6,k1,k2,k3,k4,hK⟩:=h;simp only[List.map_cons] at hv;obtain⟨u,r',e1,hx,hv⟩:=hv;simp only[List.cons.injEq] at e1;obtain⟨e1,rfl⟩:=e1;obtain⟨v1,hv⟩:=iH hv hl;obtain⟨v2,hv⟩:=iH hv hhi;obtain⟨v3,hv⟩:=iH (rest:=[]) (by simpa using hv) hmx;have hb':=hH _ _ hb;have hre:=g.boxes b _ hb';simp only[ai,hb',aS] at hx;have hu:=hx.2.2 gy;subst hu;obtain⟨p0,l0,c0,hsl,hlc,hl0⟩:∃p0 l0 c0,bY R b rows.length=.slice p0 l0 c0∧l0≤c0∧l0=rows.length:=by
  cases hn:R.nil b with
  | true=>
    have hr0:=qj hre hn;subst hr0;exact⟨none,0,0,by simp[bY,hn],Nat.le_refl _,rfl⟩
  | false=>
    obtain⟨cur,hg,hs,hle,hm,hr,_⟩:=gU hre hn;exact⟨some ⟨R.blk b,0,none⟩,rows.length,(R.cap b).1,by simp only[bY,hn,Bool.false_eq_true,if_false],hle,rfl⟩
 subst hl0;obtain⟨hrun,q1,q2,q3⟩:=ja (P:=P) (w:=w) (Ve:=true) v1 v2 v3 hlc (fun i e=>by cases e;exact⟨k5,k6,rfl⟩) (by
  intro i hi;cases hi;exact⟨k1,by simpa[dQ] using k2⟩) (by intro i hi;cases hi;exact⟨k3,by simpa[dQ] using k4⟩)
 rw[hsl] at e1;obtain⟨y,hy⟩:∃y,(Instr.sliceAt t (a.eval x0) (lo.map a.eval) (hi.map a.eval) (mx.map a.eval)).run P w=.ok y w:=by
  rw[e1];simp only[Instr.sliceAt,Instr.slice,Sem.run_bind,run_underlying hd',Result.andThen_ok,hrun,jd.run_sizeOf,Sem.run_pure];exact⟨_,rfl⟩
 exact⟨y,_,hy,hK,by simp only[ai,bE]⟩
theorem HZ (g:bB c R s a w)(hT:bO P T){H:List (Nat×aA)}(hH:∀b box,lk H b=some box→lk s.hp b=some box){t:TypeId}{x0:Operand}{lo hi mx:Option Operand}{vs:List AV}
  {K:AV→List (Nat×aA)→Prop} (h:qd T H t lo hi mx vs K)
  (hv:FL (ai (aT c R s.hp) w s.hp R) vs ((x0::(lo.toList++(hi.toList++mx.toList))).map a.eval)) :
  ∃y z ws R',(Instr.sliceAt t (a.eval x0) (lo.map a.eval) (hi.map a.eval) (mx.map a.eval)).run P w=.ok y w∧K z ws∧bB c R' (s.app ws) a w∧ai (aT c R' (ws++s.hp)) w (ws++s.hp) R' z y:=by
 unfold qd at h;split at h
 ·exact qO g hT hH h hv
 split at h
 ·obtain⟨y,z,h1,h2,h3⟩:=NC g hT hH h hv;exact⟨y,z,[],R,h1,h2,g,h3⟩
 ·split at h
  ·exact qO g hT hH h hv
  obtain⟨y,z,h1,h2,h3⟩:=ND g hT hH h hv;exact⟨y,z,[],R,h1,h2,g,h3⟩
 exact qO g hT hH h hv
end
def fH (vs:List Value):List PV:=vs.map .sc
theorem F4 {N:Nat→Prop}{w:World}:∀(vs xs:List Value),(∀v∈vs,v.oneCell'=true)→(gq N w (fH vs) (vs++xs))
 |[],_,_=>by simp[fH,gq]
 | v::vs,xs,h=>by
   simp only[fH,List.map_cons,gq,List.cons_append];refine⟨v,vs++xs,rfl,h v (by simp),by simp only[bE],F4 vs xs fun u hu=>h u (by simp[hu])⟩
theorem F5 {N:Nat→Prop}{w:World}:∀(vs xs:List Value),gq N w (fH vs) xs→∃r,xs=vs++r
 |[],xs,_=>⟨xs,rfl⟩
 | v::vs,xs,h=>by
   simp only[fH,List.map_cons,gq] at h;obtain⟨x,r,rfl,_,h1,h2⟩:=h;simp only[bE] at h1;subst h1;obtain⟨r',rfl⟩:=F5 vs r h2;exact⟨r',rfl⟩
theorem oz (vs:List Value):(fH vs).length=vs.length:=by simp[fH]
section
variable {c:Ctx}{R:Real}{s:AS}{a:Act}{w:World}
theorem bB.JS (g:bB c R s a w){b:Nat}{box bD:aA}(hb:lk s.hp b=some box)
  (r1:∀off v,aX R b off v (some box)→aX R b off v (some bD))
  (r2:∀ver v,aS R b ver v (some box)→aS R b ver v (some bD))
  (r3:∀ver i off v,aZ R b ver i off v (some box)→aZ R b ver i off v (some bD))
  (hown:∀r,aI R b r (some bD)→aI R b r (some box))
  (EZ:(∀v x,ai (aT c R s.hp) w s.hp R v x→ai (aT c R ((b,bD)::s.hp)) w ((b,bD)::s.hp) R v x) →
   (∀r,aT c R ((b,bD)::s.hp) r→aT c R s.hp r)→eB (aT c R ((b,bD)::s.hp)) w ((b,bD)::s.hp) R b bD) :
  bB c R (s.app [(b,bD)]) a w∧(∀v x,ai (aT c R s.hp) w s.hp R v x→ai (aT c R ((b,bD)::s.hp)) w ((b,bD)::s.hp) R v x):=by
 have q1:∀off v,aX R b off v (lk s.hp b)→aX R b off v (some bD):=fun off v h=>r1 off v (by rw[hb] at h;exact h)
 have q2:∀ver v,aS R b ver v (lk s.hp b)→aS R b ver v (some bD):=fun ver v h=>r2 ver v (by rw[hb] at h;exact h)
 have q3:∀ver i off v,aZ R b ver i off v (lk s.hp b)→aZ R b ver i off v (some bD):=fun ver i off v h=>r3 ver i off v (by rw[hb] at h;exact h)
 have ho:∀r,aI R b r (some bD)→aI R b r (lk s.hp b)∨w.heap.size≤r:=fun r h=>.inl (by rw[hb];exact hown r h)
 have hR:∀b',b'≠b→R.blk b'=R.blk b'∧R.nil b'=R.nil b'∧R.cap b'=R.cap b':=fun _ _=>⟨rfl,rfl,rfl⟩
 obtain⟨m1,m2,m3,m4,m5⟩:=g.Kk (b:=b) (bD:=bD) hR q1 q2 q3 ho (nI.refl _ w) rfl;have hm:=fun v x h=>bZ (p:=v) m1 m2 m3 m4 m5 x h
 refine⟨g.upd (nx':=s.nx) hR q1 q2 q3 ho (nI.refl _ w) (EZ hm fun r hr=>?_) rfl,hm⟩;rcases hr with h|⟨b',h⟩
 ·exact .inl h
 refine .inr ⟨b',?_⟩;rw[ax] at h;split at h
 ·rename_i e;subst e;rw[hb];exact hown r h
 exact h
theorem wD {N:Nat→Prop}{w:World}{st:Nat}:∀{pre:List (List PV)} {row:List PV} {post:List (List PV)} {xs:List Value},bK N w st (pre++row::post) xs→bK N w st pre xs∧row.length=st∧gq N w row (xs.drop (pre.length*st))∧bK N w st post ((xs.drop (pre.length*st)).drop st)
 | [],row,post,xs,h=>by
   simp only[List.nil_append,bK] at h;exact⟨trivial,h.1,by simpa using h.2.1,by simpa using h.2.2⟩
 | p::pre,row,post,xs,h=>by
   simp only[List.cons_append,bK] at h;obtain⟨h1,h2,h3⟩:=h;obtain⟨a1,a2,a3,a4⟩:=wD h3;have e:xs.drop ((p::pre).length*st)=(xs.drop st).drop (pre.length*st):=by
    rw[List.drop_drop,show (p::pre).length*st=st+pre.length*st by rw[List.length_cons,Nat.add_mul];omega]
   rw[e];exact⟨⟨h1,h2,a1⟩,a2,a3,a4⟩
theorem Ci {N:Nat→Prop}{w:World}{st:Nat}:∀{pre:List (List PV)} {row:List PV} {post:List (List PV)} {xs:List Value},bK N w st pre xs→row.length=st→gq N w row (xs.drop (pre.length*st)) →
  bK N w st post ((xs.drop (pre.length*st)).drop st)→bK N w st (pre++row::post) xs
 | [],row,post,xs,h,h1,h2,h3=>by
   simp only[List.nil_append,bK];exact⟨h1,by simpa using h2,by simpa using h3⟩
 | p::pre,row,post,xs,h,h1,h2,h3=>by
   simp only[bK] at h;obtain⟨a1,a2,a3⟩:=h;simp only[List.cons_append,bK];have e:xs.drop ((p::pre).length*st)=(xs.drop st).drop (pre.length*st):=by
    rw[List.drop_drop,show (p::pre).length*st=st+pre.length*st by rw[List.length_cons,Nat.add_mul];omega]
   rw[e] at h2 h3;exact⟨a1,a2,Ci a3 h1 h2 h3⟩
theorem bB.JU (g:bB c R s a w){b:Nat}{e:TypeId}{v st:Nat}{pre post:List (List PV)}{vs:List Value}{row:List AV}(hb:lk s.hp b=some (.arr e v st (pre++fH vs::post)))
  (hrow:bN (aT c R s.hp) w s.hp R row vs) :
  bB c R (s.app [(b,.dN e v st pre row post)]) a w∧(∀u x,ai (aT c R s.hp) w s.hp R u x→ai (aT c R ((b,.dN e v st pre row post)::s.hp)) w ((b,.dN e v st pre row post)::s.hp) R u x):=by
 have hl:(pre++fH vs::post).length=pre.length+(1+post.length):=by simp[Nat.add_comm]
 refine g.JS hb (fun off v h=>h.elim) (fun ver u h=>?_) (fun ver i off u h=>h) (fun r h=>h) (fun hm hN=>?_)
 ·simpa only[aS,hl] using h
 obtain⟨xs,h1,h2⟩:=g.boxes b _ hb;obtain⟨a1,a2,a3,a4⟩:=wD h2;obtain⟨r,hr⟩:=F5 _ _ a3;rw[oz] at a2;have hrl:row.length=vs.length:=by
  have:=(bF _ _ _ _ _ _).1 hrow;exact this.length.symm
 refine⟨xs,by rw[←hl];exact h1,aV (fun r _ h=>hN r h) (fun _ _ _=>rfl) _ _ _ a1,by rw[hrl];exact a2,?_,aV (fun r _ h=>hN r h) (fun _ _ _=>rfl) _ _ _ a4⟩;rw[hr,show (vs++r).take st=vs by rw[←a2];exact List.take_left];rw[bF] at hrow ⊢;exact hrow.imp hm
theorem bB.uf (g:bB c R s a w){b:Nat}{e:TypeId}{v st:Nat}{pre post:List (List PV)}{row:List AV}(hb:lk s.hp b=some (.dN e v st pre row post)) :
  ∃vs:List Value,bN (aT c R s.hp) w s.hp R row vs∧vs.length=st∧bB c R (s.app [(b,.arr e v st (pre++fH vs::post))]) a w ∧
   (∀u x,ai (aT c R s.hp) w s.hp R u x→ai (aT c R ((b,.arr e v st (pre++fH vs::post))::s.hp)) w ((b,.arr e v st (pre++fH vs::post))::s.hp) R u x):=by
 obtain⟨xs,h1,h2,h3,h4,h5⟩:=g.boxes b _ hb;have h4':=(bF _ _ _ _ _ _).1 h4;refine⟨(xs.drop (pre.length*st)).take st,h4,h4'.length.trans h3,g.JS hb (fun off v h=>h.elim) (fun ver u h=>?_) (fun ver i off u h=>h) (fun r h=>h) (fun hm hN=>?_)⟩
 ·have hl:(pre++fH ((xs.drop (pre.length*st)).take st)::post).length=pre.length+(1+post.length):=by simp[Nat.add_comm]
  simpa only[aS,hl] using h
 have hl:(pre++fH ((xs.drop (pre.length*st)).take st)::post).length=pre.length+(1+post.length):=by simp[Nat.add_comm]
 refine⟨xs,by rw[hl];exact h1,?_⟩;refine Ci (aV (fun r _ h=>hN r h) (fun _ _ _=>rfl) _ _ _ h2) (by rw[oz,h4'.length];exact h3) ?_ (aV (fun r _ h=>hN r h) (fun _ _ _=>rfl) _ _ _ h5);have:=F4 (N:=aT c R ((b,aA.arr e v st (pre++fH ((xs.drop (pre.length*st)).take st)::post))::s.hp)) (w:=w) ((xs.drop (pre.length*st)).take st) ((xs.drop (pre.length*st)).drop st) (fun u hu=>h4'.one u hu);rwa [List.take_append_drop] at this
def K9 (c:Ctx):Ctx:={ c with n:=c.n+1 }
theorem bB.Og (g:bB c R s a w){v:AV}{x:Value}(hx:ai (aT c R s.hp) w s.hp R v x) :
  bB (K9 c) R ⟨(c.n,v)::s.tm,s.nx,s.hp⟩ { a with tmps:=a.tmps.push x } w:=by
 refine⟨fun t u hu=>?_,by simp[K9,g.size],g.lo,g.marks,g.fixed,g.boxes,g.inj,g.free,g.jE,g.iL,g.kept⟩;rw[ax] at hu;split at hu
 ·rename_i e;simp only[Option.some.injEq] at hu;subst e;subst hu;refine⟨x,?_,hx⟩;show (a.tmps.push x)[c.n]? = some x
  rw[←g.size];exact Array.getElem?_push_size
 obtain⟨y,hy,hr⟩:=g.slots t u hu;refine⟨y,?_,hr⟩;rw[Array.getElem?_push];have:=size_of_getElem? hy;rw[if_neg (by omega)];exact hy
theorem bB.AU {v:AV}{x:Value}{tm:List (Nat×AV)}{nx:Nat}{hp:List (Nat×aA)}(ha:a.tmps.size=c.n)(SX:∀t u,lk tm t=some u→t≠c.n)(g:bB (K9 c) R ⟨(c.n,v)::tm,nx,hp⟩ { a with tmps:=a.tmps.push x } w) :
  bB c R ⟨tm,nx,hp⟩ a w∧ai (aT c R hp) w hp R v x:=by
 refine⟨⟨fun t u hu=>?_,ha,g.lo,g.marks,g.fixed,g.boxes,g.inj,g.free,g.jE,g.iL,g.kept⟩,?_⟩
 ·have hne:=SX t u hu;obtain⟨y,hy,hr⟩:=g.slots t u (by rw[ax,if_neg (fun e=>hne e.symm)];exact hu);refine⟨y,?_,hr⟩;rw[Array.getElem?_push] at hy;split at hy
  ·rename_i e;omega
  exact hy
 obtain⟨y,hy,hr⟩:=g.slots c.n v (by rw[ax,if_pos rfl]);rw[Array.getElem?_push,if_pos ha.symm] at hy;simp only[Option.some.injEq] at hy;subst hy;exact hr
end
def adM (a:Nat):Tab→Bool
 | (b,_)::r=>match Nat.beq a b with
   |true=>adM a r
   | false=>match r with
     |(c,_)::_=>Nat.beq b c
     |[]=>false
 |[]=>false
def ajM (T:Tab):Bool:=
 match T with
 |(a,_)::r=>adM a r
 |[]=>false
def vE (T:Tab)(H:List (Nat×aA))(t:TypeId)(x:AV)(K:AV→Prop):Prop:=
 match x with
 | .bn b ver k off=>match lk H b with
   | some (.dN e v st pre row post)=>match lk T t with
     | some i=>match Nat.beq ver v,Nat.beq i.size 0 with
       | true,false=>match part off i.size row with
         |some cs=>k=pre.length∧sQ i cs K
         |none=>False
       |_,_=>False
     |none=>False
   |_=>vB T H t (.bn b ver k off) K
 |x=>vB T H t x K
def nk (T:Tab)(H:List (Nat×aA))(t:TypeId)(x y:AV)(K:AV→List (Nat×aA)→Prop):Prop:=
 match x with
 | .bn b ver k off=>match lk H b with
   | some (.dN e v st pre row post)=>match lk T t with
     | some i=>match Nat.beq ver v with
       | true=>match cellsOf i y with
         | some cs=>match Nat.beq cs.length i.size with
           | true=>match jU off row cs with
             |some row'=>k=pre.length∧K (.pv (.sc undef)) [(b,.dN e v st pre row' post)]
             |none=>False
           |false=>False
         |none=>False
       |false=>False
     |none=>False
   |_=>qN T H t (.bn b ver k off) y K
 |x=>qN T H t x y K
def MZ (T:Tab)(H:List (Nat×aA))(t:TypeId)(x ix:AV)(K:AV→Prop):Prop:=
 match x with
 | .aB b ver=>match lk H b with
   | some (.dN e v st pre row post)=>match ix with
     | .pv (.sc (.int _ i))=>match lk T t with
       | some ti=>match ti.d with
         | .slt e=>match lk T e with
           | some ei=>match Nat.beq ver v,Nat.beq st ei.size with
             |true,true=>0≤i∧i.toNat<pre.length+(1+post.length)∧K (.bn b ver i.toNat 0)
             |_,_=>False
           |none=>False
         |_=>False
       |none=>False
     |_=>False
   |_=>dS T H t (.aB b ver) ix K
 |x=>dS T H t x ix K
def CX (T:Tab)(H:List (Nat×aA))(t:TypeId)(x:AV)(K:AV→Prop):Prop:=
 match x with
 | .aB b ver=>match lk H b with
   | some (.dN e v st pre row post)=>match lk T t with
     | some i=>match i.d with
       | .slt _=>match Nat.beq ver v with
         |true=>K (.pv (.sc (.int .i64 (pre.length+(1+post.length):Nat))))
         |false=>False
       |_=>False
     |none=>False
   |_=>ES T H t (.aB b ver) K
 |x=>ES T H t x K
section
variable {P:Program}{T:Tab}{N:Nat→Prop}{w:World}{hp:List (Nat×aA)}{R:Real}
theorem Dn (i:TI){t:TypeId}(hi:cu P t i){g off:Nat}{cur:Array Value}{e:TypeId}{fr:Nat×Nat}{cs:List AV}{K:AV→Prop}
  (hg:w.heap[g]? = some (.cells cur e fr)) (hl:off+i.size≤cur.size) (hcs:FC (ai N w hp R) cs ((cur.toList.drop off).take i.size))
  (h:sQ i cs K) :
  ∃x v,(loadVar t ⟨g,off,none⟩).run P w=.ok x w∧K v∧ai N w hp R v x:=by
 have hrun:=lW (w:=w) hi hg hl;cases ha:i.d.isAgg with
 | true=>
   simp only[sQ,ha] at h;simp only[ha] at hrun;unfold zM at h;split at h;rotate_left;cases h
   rename_i v hv;refine⟨_,v,hrun,h,?_⟩;split at hv
   ·rename_i ps hps;simp only[Option.some.injEq] at hv;subst hv;simp only[ai,bE,if_true];refine⟨_,rfl,?_⟩;rw[gM];have:∀(cs:List AV) (ps:List PV) (vs:List Value),je cs=some ps→FC (ai N w hp R) cs vs→FC (bE N w) ps vs:=by
     intro cs;induction cs with
     |nil=>intro ps vs h h';simp only[je,Option.some.injEq] at h;subst h;exact h'
     | cons c cs ih=>
       intro ps vs h h';obtain⟨v,r,rfl,h1,h2,h3⟩:=h';cases c<;>simp only[je] at h<;>try (cases h;done)
       split at h
       ·rename_i ps' qL;simp only[Option.some.injEq] at h;subst h;exact⟨v,r,rfl,h1,by simpa only[ai] using h2,ih _ _ qL h3⟩
       cases h
    exact this cs ps _ hps (by simpa using hcs)
   simp only[Option.some.injEq] at hv;subst hv;simp only[ai,if_true];refine⟨_,rfl,?_⟩;rw[bF];simpa using hcs
 | false=>
   have h1:=hi.agg ha;simp only[sQ,ha] at h;simp only[ha,Bool.false_eq_true,if_false] at hrun;split at h;rotate_left;cases h
   rename_i v;obtain⟨u,r,e1,e2,e3,e4⟩:=hcs;refine⟨_,_,hrun,h,?_⟩;have:cur[off]! = u:=by
    have hlt:off<cur.size:=by omega
    rw[getElem!_pos cur off hlt];have hh:((cur.toList.drop off).take i.size)[0]? = some u:=by rw[e1];rfl
    rw[h1] at hh;simp only[List.getElem?_take,Nat.zero_lt_one,if_true,List.getElem?_drop,Nat.add_zero] at hh;have h3:cur[off]? = some u:=by simpa using hh
    rw[Array.getElem?_eq_getElem hlt] at h3;exact Option.some.inj h3
   rw[this];exact e3
end
section
variable {P:Program}{T:Tab}{c:Ctx}{R:Real}{s:AS}{a:Act}{w:World}
theorem Vv (g:bB c R s a w){b:Nat}{e:TypeId}{v st:Nat}{pre post:List (List PV)}{row:List AV}(hb:lk s.hp b=some (.dN e v st pre row post))(hn:R.nil b=false) :
  ∃(cur:Array Value) (vs r:List Value),w.heap[R.blk b]? = some (.cells cur e (0,0))∧cur.toList.drop (pre.length*st)=vs++r∧vs.length=st∧FC (ai (aT c R s.hp) w s.hp R) row vs:=by
 obtain⟨vs,hrow,hvl,g1,m1⟩:=g.uf hb;have hb1:lk (s.app [(b,.arr e v st (pre++fH vs::post))]).hp b=some (.arr e v st (pre++fH vs::post)):=by
  simp only[AS.app,List.singleton_append,ax,if_true]
 obtain⟨cur,hg,hs,hle,hm,hr,_⟩:=gU (g1.boxes b _ hb1) hn;obtain⟨a1,a2,a3,a4⟩:=wD hr;obtain⟨r,hr'⟩:=F5 _ _ a3;exact⟨cur,vs,r,hg,hr',hvl,(bF _ _ _ _ _ _).1 hrow⟩
theorem AY (g:bB c R s a w)(hT:bO P T){H:List (Nat×aA)}(hH:∀b box,lk H b=some box→lk s.hp b=some box){t:TypeId}{x:AV}{K:AV→Prop}
  (h:vE T H t x K) {u:Value} (hx:ai (aT c R s.hp) w s.hp R x u) :
  ∃y v,(Instr.loadAt t u).run P w=.ok y w∧K v∧ai (aT c R s.hp) w s.hp R v y:=by
 unfold vE at h;split at h
 ·rename_i b ver k off;split at h
  ·rename_i e v st pre row post hb;have hb':=hH _ _ hb;split at h;rotate_left;cases h
   rename_i i hi;have hi':=hT t i hi;split at h;rotate_left;cases h
   rename_i gy hsz0;split at h;rotate_left;cases h
   rename_i cs hcs;obtain⟨rfl,h⟩:=h;simp only[ai,hb',aZ] at hx;obtain⟨hn,rfl⟩:=hx.2.2 (Nat.eq_of_beq_eq_true gy);obtain⟨cur,vs,r,hg,hd,hvl,hrow⟩:=Vv g hb' hn;obtain⟨h1,h2⟩:=hrow.fp.part hcs;have hlen:cur.size=pre.length*st+(vs.length+r.length)∨(vs++r=[]∧cur.size≤pre.length*st):=by
    have:=congrArg List.length hd;simp only[List.length_drop,Array.length_toList,List.length_append] at this;by_cases hz:cur.size≤pre.length*st
    ·refine .inr ⟨List.eq_nil_of_length_eq_zero (by simp only[List.length_append];omega),hz⟩
    left;omega
   have hdd:(cur.toList.drop (pre.length*st+off)).take i.size=(vs.drop off).take i.size:=by
    rw[←List.drop_drop,hd,List.drop_append_of_le_length (by omega),List.take_append_of_le_length (by simp only[List.length_drop];omega)]
   by_cases hz:pre.length*st+off+i.size≤cur.size
   ·obtain⟨y,z,k1,k2,k3⟩:=Dn i hi' hg hz (by rw[hdd];exact h2) h;exact⟨y,z,by simpa[Instr.loadAt,Instr.sureAddr] using k1,k2,k3⟩
   exfalso;rcases hlen with hlen|⟨hnil,hlen⟩
   ·omega
   have:vs=[]:=(List.append_eq_nil_iff.1 hnil).1;subst this;simp only[List.length_nil] at h1 hvl;exact Nat.ne_of_beq_eq_false hsz0 (by omega)
  exact vC g hT hH h hx
 exact vC g hT hH h hx
theorem Oh {α:Type}:∀{off:Nat} {vs xs:List α},off+xs.length≤vs.length→jU off vs xs=some (vs.take off++xs++vs.drop (off+xs.length))
 | 0,vs,xs,h=>by
   simp only[jU,List.take_zero,List.nil_append,Nat.zero_add];have:∀(xs vs:List α),xs.length≤vs.length→j6 vs xs=some (xs++vs.drop xs.length):=by
    intro xs;induction xs with
    |nil=>intro vs _;cases vs<;>simp[j6]
    | cons x xs ih=>
      intro vs h;cases vs with
      |nil=>simp at h
      |cons v vs=>simp only[j6,ih vs (by simpa using h)];simp
   exact this xs vs (by simpa using h)
 |off+1,[],xs,h=>by simp at h
 | off+1,v::vs,xs,h=>by
   have h':off+xs.length≤vs.length:=by simp only[List.length_cons] at h;omega
   simp only[jU,Oh h'];rw[show off+1+xs.length=(off+xs.length)+1 by omega];simp
theorem abK (a b:List Value):fH (a++b)=fH a++fH b:=by simp[fH]
theorem abL {off:Nat}{vs xs:List Value}(h:off+xs.length≤vs.length):jU off (fH vs) (fH xs)=some (fH (vs.take off++xs++vs.drop (off+xs.length))):=by
 rw[Oh (by rw[oz,oz];exact h)];simp only[abK,oz];simp[fH,List.map_take,List.map_drop]
def exV (i:TI)(v:Value):PV:=match i.d.isAgg with
 |true=>.agg (fH v.cells.toList)
 |false=>.sc v
theorem F6 {N:Nat→Prop}:∀(vs:List Value),(∀v∈vs,v.oneCell'=true)→iR N w (fH vs) vs
 |[],_=>by simp[fH,iR]
 | v::vs,h=>by
   simp only[fH,List.map_cons,iR];exact⟨v,vs,rfl,h v (by simp),by simp only[bE],F6 vs fun u hu=>h u (by simp[hu])⟩
theorem ae3 {N N':Nat→Prop}{w w':World}{hp:List (Nat×aA)}{i:TI}{y:AV}{cs:List AV}(h:cellsOf i y=some cs){v:Value}(hy:ai N w hp R y v):bE N' w' (exV i v) v∧lS i (exV i v)=some (fH v.cells.toList):=by
 have hc:=jl h hy;unfold exV;cases ha:i.d.isAgg with
 | true=>
   simp only[cellsOf,ha] at h;have:∃us:Array Value,v=.agg us:=by
    split at h
    ·simp only[ai,bE] at hy;obtain⟨us,e,_⟩:=hy;exact⟨us,e⟩
    ·simp only[ai] at hy;obtain⟨us,e,_⟩:=hy;exact⟨us,e⟩
    cases h
   obtain⟨us,rfl⟩:=this;refine⟨?_,by simp[lS,ha]⟩;simp only[bE];exact⟨us,rfl,F6 us.toList hc.one⟩
 | false=>
   simp only[cellsOf,ha] at h;split at h
   ·rename_i hcell;have h1:=JE hcell hy;have e:=BS h1;refine⟨by simp only[bE],?_⟩;simp only[lS,ha,cellP,h1];have:v.cells.toList=[v]:=by rw[e]
    rw[this];rfl
   cases h
theorem Oi (g:bB c R s a w):∀t u,lk s.tm t=some u→t≠c.n:=by
 intro t u h e;obtain⟨x,hx,_⟩:=g.slots t u h;have:=size_of_getElem? hx;rw[g.size] at this;omega
theorem xO {hp hp':List (Nat×aA)}(h:∀b,lk hp' b=lk hp b){v:AV}{x:Value}(hx:ai (aT c R hp) w hp R v x):ai (aT c R hp') w hp' R v x:=by
 refine bZ (fun r _ hr=>?_) (fun _ _ _=>rfl) (fun b off u hu=>by rw[h];exact hu) (fun b ver u hu=>by rw[h];exact hu) (fun b ver i off u hu=>by rw[h];exact hu) v x hx;rcases hr with hr|⟨b,hr⟩
 ·exact .inl hr
 exact .inr ⟨b,by rw[←h];exact hr⟩
theorem qR (g:bB c R s a w)(hT:bO P T){H:List (Nat×aA)}(hH:∀b box,lk H b=some box→lk s.hp b=some box){t:TypeId}{x y:AV}
  {K:AV→List (Nat×aA)→Prop} (h:nk T H t x y K) {u v:Value} (hx:ai (aT c R s.hp) w s.hp R x u) (hy:ai (aT c R s.hp) w s.hp R y v) :
  ∃w' ws,(Instr.storeAt t u v).run P w=.ok () w'∧K (.pv (.sc undef)) ws∧bB c R (s.app ws) a w':=by
 unfold nk at h;split at h
 ·rename_i b ver k off;split at h
  ·rename_i e vr st pre row post hb;have hb':=hH _ _ hb;split at h;rotate_left;cases h
   rename_i i hi;split at h;rotate_left;cases h
   rename_i gy;split at h;rotate_left;cases h
   rename_i cs hcs;split at h;rotate_left;cases h
   rename_i hlen;split at h;rotate_left;cases h
   rename_i row' hset;obtain⟨rfl,hK⟩:=h;obtain⟨vs,hrow,hvl,g1,m1⟩:=g.uf hb';have hcv:=jl hcs hy;have hrow':=(bF _ _ _ _ _ _).1 hrow;obtain⟨hsl,_⟩:=FC.jU hrow' hcv hset;have hA:ai (aT c R (s.app [(b,.arr e vr st (pre++fH vs::post))]).hp) w (s.app [(b,.arr e vr st (pre++fH vs::post))]).hp R (.agg row) (.agg vs.toArray):=
    m1 _ _ (by simp only[ai];exact⟨_,rfl,by simpa using hrow⟩)
   have hB:ai (aT c R (s.app [(b,.arr e vr st (pre++fH vs::post))]).hp) w (s.app [(b,.arr e vr st (pre++fH vs::post))]).hp R (.agg cs) (.agg v.cells):=
    m1 _ _ (by simp only[ai];exact⟨_,rfl,by rw[bF];exact hcv⟩)
   have g2:=g1.Og hA;have g3:=g2.Og hB;have w9:lk (s.app [(b,.arr e vr st (pre++fH vs::post))]).hp b=some (.arr e vr st (pre++fH vs::post)):=by
    simp only[AS.app,List.singleton_append,ax,if_true]
   obtain⟨hrep,hpc⟩:=ae3 (N':=aT c R (s.app [(b,.arr e vr st (pre++fH vs::post))]).hp) (w':=w) hcs hy;have hst:qN T (s.app [(b,.arr e vr st (pre++fH vs::post))]).hp t (.bn b ver pre.length off) (.pv (exV i v))
     (fun z ws=>ws=[(b,.arr e vr st (pre++fH (vs.take off++v.cells.toList++vs.drop (off+v.cells.toList.length))::post))]):=by
    have e1:Nat.beq (fH v.cells.toList).length i.size=true:=by rw[oz,hcv.length];exact hlen
    unfold qN;simp only[hi,w9,gy,hpc,e1];refine⟨fH vs,by simp,?_⟩;rw[abL hsl];simp
   obtain⟨w',ws,hrun,rfl,g4⟩:=tH g3 hT (fun _ _ h=>h) hst (u:=u) (v:=v) (m1 _ _ hx) (by simp only[ai];exact hrep);have hsz2:({ a with tmps:=a.tmps.push (.agg vs.toArray) }:Act).tmps.size=(K9 c).n:=by simp[K9,g.size]
   obtain⟨g5,hB'⟩:=bB.AU (c:=K9 c) (a:={ a with tmps:=a.tmps.push (.agg vs.toArray) }) hsz2 (Oi g2) g4;obtain⟨g6,hA'⟩:=bB.AU (c:=c) g.size (Oi g) g5;simp only[ai] at hA' hB';obtain⟨us,e1,hA'⟩:=hA';cases e1;obtain⟨us,e1,hB'⟩:=hB';cases e1;rw[bF] at hA' hB';obtain⟨_,hnew⟩:=FC.jU hA' hB' hset;have hb6:lk ([(b,aA.arr e vr st (pre++fH (vs.take off++v.cells.toList++vs.drop (off+v.cells.toList.length))::post))]++(s.app [(b,.arr e vr st (pre++fH vs::post))]).hp) b =
     some (.arr e vr st (pre++fH (vs.take off++v.cells.toList++vs.drop (off+v.cells.toList.length))::post)):=by
    rw[List.singleton_append,ax,if_pos rfl]
   obtain⟨g7,m7⟩:=bB.JU (row:=row') g6 hb6 (by rw[bF];exact hnew);refine⟨w',_,hrun,hK,bB.congr g7 (fun _=>rfl) fun j=>?_⟩;simp only[AS.app,List.singleton_append,ax];split<;>rfl
  exact tH g hT hH h hx hy
 exact tH g hT hH h hx hy
theorem F7 (g:bB c R s a w)(hT:bO P T){H:List (Nat×aA)}(hH:∀b box,lk H b=some box→lk s.hp b=some box){t:TypeId}{x ix:AV}{K:AV→Prop}
  (h:MZ T H t x ix K) {u v:Value} (hx:ai (aT c R s.hp) w s.hp R x u) (hv:ai (aT c R s.hp) w s.hp R ix v) :
  ∃y z,(Instr.indexAt t u v).run P w=.ok y w∧K z∧ai (aT c R s.hp) w s.hp R z y:=by
 unfold MZ at h;split at h
 ·rename_i b ver;split at h
  ·rename_i e vr st pre row post hb;have hb':=hH _ _ hb;split at h;rotate_left;cases h
   rename_i kk i;split at h;rotate_left;cases h
   rename_i ti hti;split at h;rotate_left;cases h
   rename_i e2 hte;split at h;rotate_left;cases h
   rename_i ei qZ;split at h;rotate_left;cases h
   rename_i h1 h2;obtain⟨h0,hlt,hK⟩:=h;obtain⟨vs,hrow,hvl,g1,m1⟩:=g.uf hb';have w9:lk (s.app [(b,.arr e vr st (pre++fH vs::post))]).hp b=some (.arr e vr st (pre++fH vs::post)):=by
    simp only[AS.app,List.singleton_append,ax,if_true]
   have hl:(pre++fH vs::post).length=pre.length+(1+post.length):=by simp[Nat.add_comm]
   have hi:dS T (s.app [(b,.arr e vr st (pre++fH vs::post))]).hp t (.aB b ver) (.pv (.sc (.int kk i))) (fun z=>z=.bn b ver i.toNat 0):=by
    unfold dS;simp only[hti,hte,qZ,w9,h1,h2];exact⟨h0,by rw[hl];exact hlt,trivial⟩
   obtain⟨y,z,hrun,rfl,hz⟩:=jX g1 hT (fun _ _ h=>h) hi (m1 _ _ hx) (m1 _ _ hv);refine⟨y,_,hrun,hK,?_⟩;simp only[ai,w9,aZ] at hz;simp only[ai,hb',aZ];exact hz
  exact jX g hT hH h hx hv
 exact jX g hT hH h hx hv
theorem Dp (g:bB c R s a w)(hT:bO P T){H:List (Nat×aA)}(hH:∀b box,lk H b=some box→lk s.hp b=some box){t ty:TypeId}{x:AV}{K:AV→Prop}
  (h:CX T H t x K) {u:Value} (hx:ai (aT c R s.hp) w s.hp R x u) :
  ∃y z,(Builtin.len_ #[t] ty #[u]).run P w=.ok y w∧K z∧ai (aT c R s.hp) w s.hp R z y:=by
 unfold CX at h;split at h
 ·rename_i b ver;split at h
  ·rename_i e vr st pre row post hb;have hb':=hH _ _ hb;split at h;rotate_left;cases h
   rename_i i hi;split at h;rotate_left;cases h
   rename_i e2 hte;split at h;rotate_left;cases h
   rename_i h1;obtain⟨vs,hrow,hvl,g1,m1⟩:=g.uf hb';have w9:lk (s.app [(b,.arr e vr st (pre++fH vs::post))]).hp b=some (.arr e vr st (pre++fH vs::post)):=by
    simp only[AS.app,List.singleton_append,ax,if_true]
   have hl:(pre++fH vs::post).length=pre.length+(1+post.length):=by simp[Nat.add_comm]
   have hi:ES T (s.app [(b,.arr e vr st (pre++fH vs::post))]).hp t (.aB b ver) (fun z=>z=.pv (.sc (.int .i64 (pre.length+(1+post.length):Nat)))):=by
    unfold ES;simp only[hi,hte,vw,w9,uM,h1,hl]
   obtain⟨y,z,hrun,rfl,hz⟩:=tF (ty:=ty) g1 hT (fun _ _ h=>h) hi (m1 _ _ hx);refine⟨y,_,hrun,h,?_⟩;simp only[ai,bE] at hz ⊢;exact hz
  exact tF g hT hH h hx
 exact tF g hT hH h hx
end
def xh (T:Tab)(t:TypeId)(len:Nat)(ks:List Nat)(cs:List AV)(id:Nat)(K:AV→List (Nat×aA)→Prop):Prop:=
 match lk T t with
 | some i=>match i.d with
   | .slt e=>match lk T e with
     | some ei=>match ei.d.isAgg with
       | true=>tiF ei fun qb Mj=>match Nat.beq qb 0,Xc 0 ks,Nat.beq ks.length len,Nat.beq len 1,Nat.beq cs.length qb,Nat.ble qb 16777216 with
         |false,true,true,true,true,true=>K (.aB id 0) [(id,.dN e 0 qb [] cs [])]
         |_,_,_,_,_,_=>False
       |false=>False
     |none=>False
   |_=>False
 |none=>False
def qc (T:Tab)(H:List (Nat×aA))(t:TypeId)(len:Nat)(ks:List Nat)(vs:List AV)(id:Nat)(K:AV→List (Nat×aA)→Prop):Prop:=
 match ajM T with
 | true=>match vs with
   |[.agg cs]=>xh T t len ks cs id K
   |vs=>lT T H t len ks vs id K
 |false=>lT T H t len ks vs id K
def CY (T:Tab)(H:List (Nat×aA))(t:TypeId)(d:AV)(k kv id:Nat)(K:AV→List (Nat×aA)→Prop):Prop:=
 match lk H k with
 | some (.dN e0 v0 P9 [] row [])=>match Nat.beq kv v0 with
   | true=>match lk T t with
     | some i=>match i.d with
       | .slt e=>match lk T e with
         | some ei=>tiF ei fun qb Mj=>match Nat.beq Mj 0,Nat.beq qb 0,Nat.beq P9 qb with
           | false,false,true=>match d with
             |.pv (.sc (.slice none 0 0))=>1*Mj≤140737488355328∧K (.aB id 0) [(id,.dN e 0 qb [] row [])]
             | .aB b ver=>match Nat.beq b k with
               |true=>False
               | false=>match lk H b with
                 | some (.arr e' v st rows)=>match Nat.beq ver v,Nat.beq st qb,Nat.beq e' e with
                   |true,true,true=>(rows.length+1)*Mj≤140737488355328∧K (.aB b (v+1)) [(b,.dN e (v+1) qb rows row [])]
                   |_,_,_=>False
                 |_=>False
             |_=>False
           |_,_,_=>False
         |none=>False
       |_=>False
     |none=>False
   |false=>False
 |_=>False
def y5 (T:Tab)(t:TypeId)(ver:Nat)(o:Option aA)(src:Nat→Option (List (List PV)))(b:Nat)(K:AV→List (Nat×aA)→Prop):Prop:=
 match o with
 | some (.dN e' v st pre row post)=>match lk T t with
   | some i=>match i.d with
     | .slt e=>match lk T e with
       | some ei=>tiF ei fun qb Mj=>match Nat.beq Mj 0,Nat.beq qb 0 with
         | false,false=>match src qb with
           | some aP=>match Nat.beq ver v,Nat.beq st qb,Nat.beq e' e with
             |true,true,true=>(pre.length+(1+post.length)+aP.length)*Mj≤140737488355328∧K (.aB b (v+1)) [(b,.dN e (v+1) qb pre row (post++aP))]
             |_,_,_=>False
           |none=>False
         |_,_=>False
       |none=>False
     |_=>False
   |none=>False
 |_=>False
def CZ (T:Tab)(H:List (Nat×aA))(t:TypeId)(b ver:Nat)(x:AV)(K:AV→List (Nat×aA)→Prop):Prop:=
 match x with
 |.pv p=>y5 T t ver (lk H b) (fun qb=>lN H qb (.pv p)) b K
 | .aB k kv=>match Nat.beq b k with
   |true=>False
   |false=>y5 T t ver (lk H b) (fun qb=>lN H qb (.aB k kv)) b K
 |_=>False
def YK (o:Option aA):Bool:=
 match o with
 |some (.dN _ _ _ _ _ _)=>true
 |_=>false
def yw (T:Tab)(H:List (Nat×aA))(t:TypeId)(vs:List AV)(id:Nat)(K:AV→List (Nat×aA)→Prop):Prop:=
 match vs with
 | [d,x]=>match x with
   | .aB k kv=>match YK (lk H k) with
     |true=>CY T H t d k kv id K
     | false=>match d with
       | .aB b ver=>match YK (lk H b) with
         |true=>CZ T H t b ver (.aB k kv) K
         |false=>uD T H t [.aB b ver,.aB k kv] id K
       |d=>uD T H t [d,.aB k kv] id K
   | x=>match d with
     | .aB b ver=>match YK (lk H b) with
       |true=>CZ T H t b ver x K
       |false=>uD T H t [.aB b ver,x] id K
     |d=>uD T H t [d,x] id K
 |vs=>uD T H t vs id K
section
variable {P:Program}{T:Tab}{c:Ctx}{R:Real}{s:AS}{a:Act}{w:World}
theorem Iw (g:bB c R s a w)(hT:bO P T){id:Nat}(hf:lk s.hp id=none){t:TypeId}{len:Nat}{ks:List Nat}{cs:List AV}{K:AV→List (Nat×aA)→Prop}
  (h:xh T t len ks cs id K) {u:Value} (hv:ai (aT c R s.hp) w s.hp R (.agg cs) u) :
  ∃y w' R' z ws,(Instr.buildSlice t len (ks.zip [u]).toArray).run P w=.ok y w'∧K z ws∧bB c R' (s.app ws) a w'∧ai (aT c R' (ws++s.hp)) w' (ws++s.hp) R' z y:=by
 unfold xh at h;simp only[dH] at h;split at h;rotate_left;cases h
 rename_i i hi;split at h;rotate_left;cases h
 rename_i e hte;split at h;rotate_left;cases h
 rename_i ei qZ;split at h;rotate_left;cases h
 rename_i hagg;split at h;rotate_left;cases h
 rename_i h0 h1 h2 h3 h4 h5;have hv0:=hv;simp only[ai] at hv;obtain⟨us,rfl,sJ⟩:=hv;have hl:us.toList.length=cs.length:=by rw[bF] at sJ;exact sJ.length
 have h3:=Nat.eq_of_beq_eq_true h3;subst h3;have h4':=Nat.eq_of_beq_eq_true h4;have g1:=g.Og hv0;have hp:ai (aT (K9 c) R s.hp) w s.hp R (.pv (.agg (fH us.toList))) (.agg us):=by
  simp only[ai,bE];exact⟨us,rfl,F6 _ ((bF _ _ _ _ _ _).1 sJ).one⟩
 have hb:lT T [] t 1 ks [.pv (.agg (fH us.toList))] id (fun z ws=>z=.aB id 0∧ws=[(id,.arr e 0 ei.size ([]++fH us.toList::[]))]):=by
  unfold lT;simp only[dH,hi,hte,qZ,h0,h1,h2];have e1:Nat.ble (1*ei.size) 16777216=true:=by rw[Nat.one_mul];exact h5
  have e2:lS ei (.agg (fH us.toList))=some (fH us.toList):=by simp[lS,hagg]
  have e3:Nat.beq (fH us.toList).length ei.size=true:=by rw[oz,hl];exact h4
  simp only[e1,I6,vw,I7,e2,e3,dY,refs,List.append_nil,Km,List.length_singleton];exact⟨trivial,by simp⟩
 obtain⟨y,w',R',z,ws,hrun,⟨rfl,rfl⟩,g2,hz⟩:=oP (s:=⟨(c.n,.agg cs)::s.tm,s.nx,s.hp⟩) g1 hT (H:=[]) (fun b box hb=>by simp[lk] at hb) hf hb (us:=[.agg us]) ⟨_,_,rfl,hp,rfl⟩;obtain⟨g3,hr⟩:=bB.AU (tm:=s.tm) (nx:=s.nx) g.size (Oi g) g2;simp only[ai] at hr;obtain⟨us',e1,hr⟩:=hr;cases e1;have ajN:lk ([(id,aA.arr e 0 ei.size ([]++fH us.toList::[]))]++s.hp) id=some (.arr e 0 ei.size ([]++fH us.toList::[])):=by
  rw[List.singleton_append,ax,if_pos rfl]
 obtain⟨g4,m4⟩:=g3.JU ajN hr;have hc:∀j,lk ([(id,aA.dN e 0 ei.size [] cs [])]++s.hp) j=lk ((id,aA.dN e 0 ei.size [] cs [])::([(id,aA.arr e 0 ei.size ([]++fH us.toList::[]))]++s.hp)) j:=by
  intro j;simp only[List.singleton_append,ax];split<;>rfl
 exact⟨y,w',R',_,_,hrun,h,bB.congr g4 (fun _=>rfl) hc,xO hc (m4 _ _ hz)⟩
theorem Dq (g:bB c R s a w)(hT:bO P T){H:List (Nat×aA)}(hH:∀b box,lk H b=some box→lk s.hp b=some box){id:Nat}(hf:lk s.hp id=none)
  {t ty:TypeId} {d:AV} {k kv:Nat} {K:AV→List (Nat×aA)→Prop} (h:CY T H t d k kv id K) {u v:Value} (hd:ai (aT c R s.hp) w s.hp R d u) (hx:ai (aT c R s.hp) w s.hp R (.aB k kv) v) :
  ∃y w' R' z ws,(Builtin.append_ #[t,t] ty #[u,v]).run P w=.ok y w'∧K z ws∧bB c R' (s.app ws) a w'∧ai (aT c R' (ws++s.hp)) w' (ws++s.hp) R' z y:=by
 unfold CY at h;simp only[dH] at h;split at h;rotate_left;cases h
 rename_i e0 v0 P9 row hk;have hk':=hH _ _ hk;split at h;rotate_left;cases h
 rename_i hkv;have hkv:=Nat.eq_of_beq_eq_true hkv;subst hkv;split at h;rotate_left;cases h
 rename_i i hi;split at h;rotate_left;cases h
 rename_i e hte;split at h;rotate_left;cases h
 rename_i ei qZ;split at h;rotate_left;cases h
 rename_i h1 h2 h3;have h3':=Nat.eq_of_beq_eq_true h3;subst h3';obtain⟨vs,hrow,hvl,g1,m1⟩:=g.uf hk';have hg:ai (aT c R (s.app [(k,.arr e0 kv ei.size ([]++fH vs::[]))]).hp) w (s.app [(k,.arr e0 kv ei.size ([]++fH vs::[]))]).hp R (.agg row) (.agg vs.toArray):=
  m1 _ _ (by simp only[ai];exact⟨_,rfl,by simpa using hrow⟩)
 have g2:=g1.Og hg;have hkk:lk (s.app [(k,.arr e0 kv ei.size ([]++fH vs::[]))]).hp k=some (.arr e0 kv ei.size ([]++fH vs::[])):=by
  simp only[AS.app,List.singleton_append,ax,if_true]
 have hko:∀j,j≠k→lk (s.app [(k,.arr e0 kv ei.size ([]++fH vs::[]))]).hp j=lk s.hp j:=by
  intro j hj;simp only[AS.app,List.singleton_append,ax,if_neg (show ¬k=j from fun e=>hj e.symm)]
 have ae4:id≠k:=fun e=>by rw[e,hk'] at hf;cases hf
 have hsrc:lN (s.app [(k,.arr e0 kv ei.size ([]++fH vs::[]))]).hp ei.size (.aB k kv)=some [fH vs]:=by
  simp only[lN,hkk,uM,Nat.beq_refl];simp
 have fin:∀(b:Nat) (nv:Nat) (rows:List (List PV)) (y:Value) (w':World) (R':Real),b≠k →
   bB (K9 c) R' (AS.app ⟨(c.n,.agg row)::s.tm,s.nx,(s.app [(k,.arr e0 kv ei.size ([]++fH vs::[]))]).hp⟩ [(b,.arr e nv ei.size (rows++fH vs::[]))]) { a with tmps:=a.tmps.push (.agg vs.toArray) } w' →
   ai (aT (K9 c) R' ([(b,.arr e nv ei.size (rows++fH vs::[]))]++(s.app [(k,.arr e0 kv ei.size ([]++fH vs::[]))]).hp)) w' ([(b,.arr e nv ei.size (rows++fH vs::[]))]++(s.app [(k,.arr e0 kv ei.size ([]++fH vs::[]))]).hp) R' (.aB b nv) y →
   bB c R' (s.app [(b,.dN e nv ei.size rows row [])]) a w'∧ai (aT c R' ([(b,.dN e nv ei.size rows row [])]++s.hp)) w' ([(b,.dN e nv ei.size rows row [])]++s.hp) R' (.aB b nv) y:=by
  intro b nv rows y w' R' hbk g3 hz;obtain⟨g4,hr⟩:=bB.AU (tm:=s.tm) (nx:=s.nx) g.size (Oi g) g3;simp only[ai] at hr;obtain⟨us',e1,hr⟩:=hr;cases e1;have hr:bN (aT c R' ([(b,aA.arr e nv ei.size (rows++fH vs::[]))]++(s.app [(k,.arr e0 kv ei.size ([]++fH vs::[]))]).hp)) w' ([(b,aA.arr e nv ei.size (rows++fH vs::[]))]++(s.app [(k,.arr e0 kv ei.size ([]++fH vs::[]))]).hp) R' row vs:=by simpa using hr
  have hb4:lk ([(b,aA.arr e nv ei.size (rows++fH vs::[]))]++(s.app [(k,.arr e0 kv ei.size ([]++fH vs::[]))]).hp) b=some (.arr e nv ei.size (rows++fH vs::[])):=by
   rw[List.singleton_append,ax,if_pos rfl]
  obtain⟨g5,m5⟩:=g4.JU hb4 hr;have hr5:=m5 (.agg row) (.agg vs.toArray) (by simp only[ai];exact⟨_,rfl,by simpa using hr⟩);simp only[ai] at hr5;obtain⟨us5,e5,hr5⟩:=hr5;cases e5;have hk5:lk ((b,aA.dN e nv ei.size rows row [])::([(b,aA.arr e nv ei.size (rows++fH vs::[]))]++(s.app [(k,.arr e0 kv ei.size ([]++fH vs::[]))]).hp)) k=some (.arr e0 kv ei.size ([]++fH vs::[])):=by
   rw[ax,if_neg hbk,List.singleton_append,ax,if_neg hbk];exact hkk
  obtain⟨g6,m6⟩:=bB.JU (s:=⟨s.tm,s.nx,(b,aA.dN e nv ei.size rows row [])::([(b,aA.arr e nv ei.size (rows++fH vs::[]))]++(s.app [(k,.arr e0 kv ei.size ([]++fH vs::[]))]).hp)⟩) g5 hk5 hr5;have hc:∀j,lk ([(b,aA.dN e nv ei.size rows row [])]++s.hp) j=lk ((k,aA.dN e0 kv ei.size [] row [])::(b,aA.dN e nv ei.size rows row [])::([(b,aA.arr e nv ei.size (rows++fH vs::[]))]++(s.app [(k,.arr e0 kv ei.size ([]++fH vs::[]))]).hp)) j:=by
   intro j;simp only[List.singleton_append,ax];by_cases e1:k=j
   ·subst e1;rw[if_neg hbk,if_pos rfl];exact hk'
   rw[if_neg e1];split
   ·rfl
   exact (hko j (fun e=>e1 e.symm)).symm
  exact⟨bB.congr g6 (fun _=>rfl) hc,xO hc (m6 _ _ (m5 _ _ hz))⟩
 split at h
 ·obtain⟨hbd,hK⟩:=h;have Rv:uN T (s.app [(k,.arr e0 kv ei.size ([]++fH vs::[]))]).hp t [.pv (.sc (.slice none 0 0)),.aB k kv] id (fun z ws=>z=.aB id 0∧ws=[(id,.arr e 0 ei.size ([]++fH vs::[]))]):=by
   unfold uN;simp only[dH,hi,hte,qZ,h1,h2,hsrc];exact⟨by simpa using hbd,trivial,by simp⟩
  obtain⟨y,w',R',z,ws,hrun,⟨rfl,rfl⟩,g3,hz⟩:=sI (s:=⟨(c.n,.agg row)::s.tm,s.nx,(s.app [(k,.arr e0 kv ei.size ([]++fH vs::[]))]).hp⟩) g2 hT (fun _ _ h=>h) (by rw[hko id ae4];exact hf) (ty:=ty) Rv (m1 _ _ hd) (m1 _ _ hx);obtain⟨g4,hz4⟩:=fin id 0 [] y w' R' ae4 g3 hz;exact⟨y,w',R',_,_,hrun,hK,g4,hz4⟩
 ·rename_i b ver;split at h
  ·exact h.elim
  rename_i hbk;have hbk:=Nat.ne_of_beq_eq_false hbk;split at h;rotate_left;cases h
  rename_i e' vr st rows hb;have hb':=hH _ _ hb;split at h;rotate_left;cases h
  rename_i k1 k2 k3;obtain⟨hbd,hK⟩:=h;have k1':=Nat.eq_of_beq_eq_true k1;have k2':=Nat.eq_of_beq_eq_true k2;have k3':=Nat.eq_of_beq_eq_true k3;subst k1';subst k2';subst k3';have w9:lk (s.app [(k,.arr e0 kv ei.size ([]++fH vs::[]))]).hp b=some (.arr e' ver ei.size rows):=by rw[hko b hbk];exact hb'
  have Rv:uN T (s.app [(k,.arr e0 kv ei.size ([]++fH vs::[]))]).hp t [.aB b ver,.aB k kv] id (fun z ws=>z=.aB b (ver+1)∧ws=[(b,.arr e' (ver+1) ei.size (rows++fH vs::[]))]):=by
   unfold uN;simp only[dH,hi,hte,qZ,h1,h2,hsrc,w9,Nat.beq_refl];exact⟨by simpa using hbd,trivial,by simp⟩
  obtain⟨y,w',R',z,ws,hrun,⟨rfl,rfl⟩,g3,hz⟩:=sI (s:=⟨(c.n,.agg row)::s.tm,s.nx,(s.app [(k,.arr e0 kv ei.size ([]++fH vs::[]))]).hp⟩) g2 hT (fun _ _ h=>h) (by rw[hko id ae4];exact hf) (ty:=ty) Rv (m1 _ _ hd) (m1 _ _ hx);obtain⟨g4,hz4⟩:=fin b (ver+1) rows y w' R' hbk g3 hz;exact⟨y,w',R',_,_,hrun,hK,g4,hz4⟩
 exact h.elim
theorem HV (g:bB c R s a w)(hT:bO P T){H:List (Nat×aA)}(hH:∀b box,lk H b=some box→lk s.hp b=some box){id:Nat}(hf:lk s.hp id=none)
  {t:TypeId} {len:Nat} {ks:List Nat} {vs:List AV} {K:AV→List (Nat×aA)→Prop} (h:qc T H t len ks vs id K) {us:List Value} (hv:FL (ai (aT c R s.hp) w s.hp R) vs us) :
  ∃y w' R' z ws,(Instr.buildSlice t len (ks.zip us).toArray).run P w=.ok y w'∧K z ws∧bB c R' (s.app ws) a w'∧ai (aT c R' (ws++s.hp)) w' (ws++s.hp) R' z y:=by
 unfold qc at h;split at h
 ·split at h
  ·obtain⟨u,r,rfl,h1,h2⟩:=hv;simp only[FL] at h2;subst h2;exact Iw g hT hf h h1
  exact oP g hT hH hf h hv
 exact oP g hT hH hf h hv
theorem Dr (g:bB c R s a w)(hT:bO P T){H:List (Nat×aA)}(hH:∀b box,lk H b=some box→lk s.hp b=some box){id:Nat}(hf:lk s.hp id=none)
  {t ty:TypeId} {b ver:Nat} {x:AV} {K:AV→List (Nat×aA)→Prop} (h:CZ T H t b ver x K) {u v:Value} (hd:ai (aT c R s.hp) w s.hp R (.aB b ver) u) (hx:ai (aT c R s.hp) w s.hp R x v) :
  ∃y w' R' z ws,(Builtin.append_ #[t,t] ty #[u,v]).run P w=.ok y w'∧K z ws∧bB c R' (s.app ws) a w'∧ai (aT c R' (ws++s.hp)) w' (ws++s.hp) R' z y:=by
 have key:∀(src:Nat→Option (List (List PV))),y5 T t ver (lk H b) src b K →
   (∀(H':List (Nat×aA)) qb rows,(∀j,j≠b→∀box,lk H j=some box→lk H' j=some box)→src qb=some rows→lN H' qb x=some rows) →
   ∃y w' R' z ws,(Builtin.append_ #[t,t] ty #[u,v]).run P w=.ok y w'∧K z ws∧bB c R' (s.app ws) a w'∧ai (aT c R' (ws++s.hp)) w' (ws++s.hp) R' z y:=by
  intro src h hsrc;unfold y5 at h;simp only[dH] at h;split at h;rotate_left;cases h
  rename_i e' vr st pre row post hb;have hb':=hH _ _ hb;split at h;rotate_left;cases h
  rename_i i hi;split at h;rotate_left;cases h
  rename_i e hte;split at h;rotate_left;cases h
  rename_i ei qZ;split at h;rotate_left;cases h
  rename_i h1 h2;split at h;rotate_left;cases h
  rename_i aP hrows;split at h;rotate_left;cases h
  rename_i k1 k2 k3;obtain⟨hbd,hK⟩:=h;have k1':=Nat.eq_of_beq_eq_true k1;have k2':=Nat.eq_of_beq_eq_true k2;have k3':=Nat.eq_of_beq_eq_true k3;subst k1';subst k2';subst k3';obtain⟨vs,hrow,hvl,g1,m1⟩:=g.uf hb';have hA:ai (aT c R (s.app [(b,.arr e' ver ei.size (pre++fH vs::post))]).hp) w (s.app [(b,.arr e' ver ei.size (pre++fH vs::post))]).hp R (.agg row) (.agg vs.toArray):=
   m1 _ _ (by simp only[ai];exact⟨_,rfl,by simpa using hrow⟩)
  have g2:=g1.Og hA;have w9:lk (s.app [(b,.arr e' ver ei.size (pre++fH vs::post))]).hp b=some (.arr e' ver ei.size (pre++fH vs::post)):=by
   simp only[AS.app,List.singleton_append,ax,if_true]
  have hsr:=hsrc (s.app [(b,.arr e' ver ei.size (pre++fH vs::post))]).hp ei.size aP (fun j hj box hbx=>by
   simp only[AS.app,List.singleton_append,ax,if_neg (show ¬b=j from fun e=>hj e.symm)];exact hH _ _ hbx) hrows
  have hl:(pre++fH vs::post).length=pre.length+(1+post.length):=by simp[Nat.add_comm]
  have ae5:id≠b:=fun e=>by rw[e,hb'] at hf;cases hf
  have Rv:uN T (s.app [(b,.arr e' ver ei.size (pre++fH vs::post))]).hp t [.aB b ver,x] id (fun z ws=>z=.aB b (ver+1)∧ws=[(b,.arr e' (ver+1) ei.size ((pre++fH vs::post)++aP))]):=by
   unfold uN;simp only[dH,hi,hte,qZ,h1,h2,hsr,w9,Nat.beq_refl];exact⟨by rw[hl];exact hbd,trivial,trivial⟩
  obtain⟨y,w',R',z,ws,hrun,⟨rfl,rfl⟩,g3,hz⟩:=sI (s:=⟨(c.n,.agg row)::s.tm,s.nx,(s.app [(b,.arr e' ver ei.size (pre++fH vs::post))]).hp⟩) g2 hT (fun _ _ h=>h) (by
   simp only[AS.app,List.singleton_append,ax,if_neg (show ¬b=id from fun e=>ae5 e.symm)];exact hf) (ty:=ty) Rv (m1 _ _ hd) (m1 _ _ hx)
  obtain⟨g4,hr⟩:=bB.AU (tm:=s.tm) (nx:=s.nx) g.size (Oi g) g3;simp only[ai] at hr;obtain⟨us',e1,hr⟩:=hr;cases e1;have hb4:lk ([(b,aA.arr e' (ver+1) ei.size ((pre++fH vs::post)++aP))]++(s.app [(b,.arr e' ver ei.size (pre++fH vs::post))]).hp) b=some (.arr e' (ver+1) ei.size (pre++fH vs::(post++aP))):=by
   rw[List.singleton_append,ax,if_pos rfl,List.append_assoc,List.cons_append]
  obtain⟨g5,m5⟩:=g4.JU hb4 hr;have hc:∀j,lk ([(b,aA.dN e' (ver+1) ei.size pre row (post++aP))]++s.hp) j =
    lk ((b,aA.dN e' (ver+1) ei.size pre row (post++aP))::([(b,aA.arr e' (ver+1) ei.size ((pre++fH vs::post)++aP))]++(s.app [(b,.arr e' ver ei.size (pre++fH vs::post))]).hp)) j:=by
   intro j;simp only[AS.app,List.singleton_append,ax];split<;>rfl
  exact⟨y,w',R',_,_,hrun,hK,bB.congr g5 (fun _=>rfl) hc,xO hc (m5 _ _ hz)⟩
 unfold CZ at h;split at h
 ·refine key _ h fun H' qb rows _ hr=>?_
  unfold lN at hr ⊢;split at hr
  ·rename_i e;cases e;exact hr
  ·rename_i e;cases e;exact hr
  ·rename_i e;cases e
  ·rename_i e;cases e
  cases hr
 ·rename_i k kv;split at h
  ·exact h.elim
  rename_i hbk;have hbk:=Nat.ne_of_beq_eq_false hbk;refine key _ h fun H' qb rows hH' hr=>?_
  simp only[lN] at hr ⊢;cases hk:lk H k with
  |none=>rw[hk] at hr;simp[uM] at hr
  |some bx=>rw[hH' k (fun e=>hbk e.symm) bx hk,←hk];exact hr
 exact h.elim
theorem Dt (g:bB c R s a w)(hT:bO P T){H:List (Nat×aA)}(hH:∀b box,lk H b=some box→lk s.hp b=some box){id:Nat}(hf:lk s.hp id=none)
  {t ty:TypeId} {d x:AV} {K:AV→List (Nat×aA)→Prop} (h:yw T H t [d,x] id K) {u v:Value} (hd:ai (aT c R s.hp) w s.hp R d u) (hx:ai (aT c R s.hp) w s.hp R x v) :
  ∃y w' R' z ws,(Builtin.append_ #[t,t] ty #[u,v]).run P w=.ok y w'∧K z ws∧bB c R' (s.app ws) a w'∧ai (aT c R' (ws++s.hp)) w' (ws++s.hp) R' z y:=by
 unfold yw at h;simp only at h;split at h
 ·split at h
  ·exact Dq g hT hH hf h hd hx
  split at h
  ·split at h
   ·exact Dr g hT hH hf h hd hx
   exact qi g hT hH hf h hd hx
  exact qi g hT hH hf h hd hx
 split at h
 ·split at h
  ·exact Dr g hT hH hf h hd hx
  exact qi g hT hH hf h hd hx
 exact qi g hT hH hf h hd hx
end
def ug (R:Real)(b r:Nat):Prop:=∃v,some v∈(R.cap b).2∧v.ownBlock=some r
def bA (st:Nat):Nat→List Value→List (List PV)
 |0,_=>[]
 |n+1,xs=>fH (xs.take st)::bA st n (xs.drop st)
theorem jR (st:Nat):∀(n:Nat) (xs:List Value),(bA st n xs).length=n
 |0,_=>rfl
 |n+1,xs=>by simp[bA,jR st n]
theorem Gd {N:Nat→Prop}{w:World}{st:Nat}:∀{n:Nat} {xs:List Value},n*st≤xs.length→(∀v∈xs.take (n*st),v.oneCell'=true)→bK N w st (bA st n xs) xs
 |0,_,_,_=>by simp only[bA,bK]
 | n+1,xs,hl,h1=>by
   rw[Nat.succ_mul] at hl h1;simp only[bA,bK,oz,List.length_take];refine⟨by omega,?_,Gd (by rw[List.length_drop];omega) fun v hv=>h1 v ?_⟩
   ·have:=F4 (N:=N) (w:=w) (xs.take st) (xs.drop st) fun v hv=>h1 v (by
     refine List.mem_of_mem_take (i:=st) ?_;rw[List.take_take,Nat.min_eq_left (by omega)];exact hv)
    rwa [List.take_append_drop] at this
   rw[show n*st+st=st+n*st by omega,List.take_add];exact List.mem_append_right _ hv
theorem Ck {N:Nat→Prop}{w:World}{st:Nat}:∀{n:Nat} {xs ys:List Value},n*st≤xs.length→bK N w st (bA st n xs) ys→ys.take (n*st)=xs.take (n*st)
 |0,_,_,_,_=>by simp
 | n+1,xs,ys,hl,h=>by
   rw[Nat.succ_mul] at hl ⊢;simp only[bA,bK,oz,List.length_take] at h;obtain⟨h1,h2,h3⟩:=h;obtain⟨r,hr⟩:=F5 _ _ h2;have ih:=Ck (by rw[List.length_drop];omega) h3;rw[show n*st+st=st+n*st by omega,List.take_add,List.take_add,ih];congr 1
   rw[hr,List.take_append_of_le_length (by rw[List.length_take];omega),List.take_take,Nat.min_self]
section
variable {N:Nat→Prop}{w:World}{st j:Nat}{ed:TypeId}{sd:Nat}
theorem Ov {ps:List PV}{xs:List Value}(h:gq N w ps xs):ps.length≤xs.length∧∀v∈xs.take ps.length,v.oneCell'=true:=by
 rw[dh] at h;exact⟨h.length,h.take.one⟩
theorem Ow {ps:List PV}{xs ys:List Value}(h:gq N w ps xs)(e:ys.take ps.length=xs.take ps.length):gq N w ps ys:=by
 have h':=h;rw[dh] at h;have h2:=h.take;rw[←e] at h2;have h3:=FP.app (ys.drop ps.length) h2.fp;rw[List.take_append_drop] at h3;rw[dh];exact h3
theorem wF:∀{hs:List (Option Value)} {rs:List (Bool×List PV)} {xs:List Value},dK N w st j ed sd hs rs xs→hs.length=rs.length∧rs.length*st≤xs.length∧∀v∈xs.take (rs.length*st),v.oneCell'=true
 |[],[],xs,_=>by simp
 |[],_::_,xs,h=>by simp only[dK] at h
 |_::_,[],xs,h=>by simp only[dK] at h
 | h::hs,(fl,r)::rs,xs,hh=>by
   simp only[dK] at hh;obtain⟨h1,h2,h3⟩:=hh;obtain⟨i1,i2,i3⟩:=wF h3;have hp:st≤xs.length∧∀v∈xs.take st,v.oneCell'=true:=by
    cases h with
    | none=>cases fl with
      |false=>have:=Ov h2;rw[h1] at this;exact this
      |true=>exact h2.elim
    | some v=>cases fl with
      |false=>exact h2.elim
      | true=>
        obtain⟨rr,ys,a1,a0,a2,a3,a4⟩:=h2;have:=Ov a2;rw[List.length_set,h1] at this;exact this
   rw[List.length_drop] at i2;refine⟨by simp[i1],by rw[List.length_cons,Nat.succ_mul];omega,fun v hv=>?_⟩;rw[List.length_cons,Nat.succ_mul,Nat.add_comm,List.take_add] at hv;rcases List.mem_append.1 hv with hv|hv
   ·exact hp.2 v hv
   exact i3 v hv
theorem A7:∀{hs:List (Option Value)} {rs:List (Bool×List PV)} {xs ys:List Value},dK N w st j ed sd hs rs xs→ys.take (rs.length*st)=xs.take (rs.length*st)→dK N w st j ed sd hs rs ys
 |[],[],xs,ys,_,_=>by simp only[dK]
 |[],_::_,xs,ys,h,_=>by simp only[dK] at h
 |_::_,[],xs,ys,h,_=>by simp only[dK] at h
 | h::hs,(fl,r)::rs,xs,ys,hh,e=>by
   simp only[dK] at hh ⊢;obtain⟨h1,h2,h3⟩:=hh;rw[List.length_cons,Nat.succ_mul] at e;have e1:ys.take st=xs.take st:=by
    have:=congrArg (List.take st) e;rwa [List.take_take,List.take_take,Nat.min_eq_left (by omega)] at this
   have e2:(ys.drop st).take (rs.length*st)=(xs.drop st).take (rs.length*st):=by
    rw[List.take_drop,List.take_drop,Nat.add_comm st,e]
   refine⟨h1,?_,A7 h3 e2⟩;cases h with
   | none=>cases fl with
     |false=>exact Ow h2 (by rw[h1];exact e1)
     |true=>exact h2.elim
   | some v=>cases fl with
     |false=>exact h2.elim
     | true=>
       obtain⟨rr,zs,a1,a0,a2,a3,a4⟩:=h2;exact⟨rr,zs,a1,a0,Ow a2 (by rw[List.length_set,h1];exact e1),a3,a4⟩
theorem zo:∀{hs:List (Option Value)} {rs:List (Bool×List PV)} {xs:List Value},dK N w st j ed sd hs rs xs→∀v,some v∈hs→∀r,v.ownBlock=some r→∃cur,w.heap[r]? = some (.cells cur ed (0,0))
 |[],_,_,_,v,hv=>by simp at hv
 |_::_,[],xs,h,_,_=>by simp only[dK] at h
 | h::hs,(fl,r)::rs,xs,hh,v,hv=>by
   intro k hk;simp only[dK] at hh;obtain⟨h1,h2,h3⟩:=hh;rcases List.mem_cons.1 hv with e|hv
   ·subst e;cases fl with
    |false=>exact h2.elim
    | true=>
      obtain⟨rr,ys,a1,a0,a2,⟨_,a3⟩,a4⟩:=h2;rcases a3 with ⟨e,_⟩|⟨g,cap,cur,e,_,hg,_⟩
      ·subst e;simp[Value.ownBlock] at hk
      subst e;simp only[Value.ownBlock,Option.some.injEq] at hk;subst hk;exact⟨cur,hg⟩
   exact zo h3 v hv k hk
end
section
variable {N N':Nat→Prop}{w:World}{hp hp':List (Nat×aA)}{R R':Real}
theorem zq (hN:∀r,N' r→N r)(h1:∀b off v,aX R b off v (lk hp b)→aX R' b off v (lk hp' b))(h2:∀b ver v,aS R b ver v (lk hp b)→aS R' b ver v (lk hp' b))
  (h3:∀b ver i off v,aZ R b ver i off v (lk hp b)→aZ R' b ver i off v (lk hp' b)) (hY:R'.Y=R.Y) {b:Nat} (e1:R'.blk b=R.blk b) (e2:R'.nil b=R.nil b) (e3:R'.cap b=R.cap b) {box:aA}
  (h:eB N w hp R b box):eB N' w hp' R' b box:=by
 have YV:∀r,r<w.heap.size→N' r→N r:=fun r _=>hN r
 have hw:∀r,r<w.heap.size→¬N r→w.heap[r]? = w.heap[r]? :=fun _ _ _=>rfl
 have es:∀n,bY R' b n=bY R b n:=fun n=>by simp only[bY,e1,e2,e3]
 cases box with
 | var cells=>
   obtain⟨cur,e,a1,a2⟩:=h;exact⟨cur,e,by rw[e1];exact a1,bI YV hw h1 h2 h3 _ _ a2⟩
 | sD cells=>
   obtain⟨cur,e,fr,a1,a2,a3⟩:=h;exact⟨cur,e,fr,by rw[e1];exact a1,by rw[e1];exact fun x=>a2 (hN _ x),bX YV hw _ _ a3⟩
 | arr e ver st rows=>
   obtain⟨xs,a1,a2⟩:=h;exact⟨xs,by rw[es];exact a1,aV YV hw _ _ _ a2⟩
 | kE ver st rows=>
   simp only[eB,es] at h ⊢;exact dw YV hw _ _ h
 | tr y ver rest st=>
   obtain⟨k0,kh,k1,k2,k3,k4⟩:=h;refine⟨k0,by rw[hY];exact kh,by rw[hY,e2];exact k1,by rw[hY];exact k2,by rw[hY];exact k3,fun r hn=>by rw[hY];exact k4 r (hN r hn)⟩
 | mp kk kv es=>
   obtain⟨cur,clock,a1,a2,a3⟩:=h;exact⟨cur,clock,by rw[e1];exact a1,by rw[e2];exact a2,a3⟩
 | dN e ver st pre row post=>
   obtain⟨xs,a1,a2,a3,a4,a5⟩:=h;exact⟨xs,by rw[es];exact a1,aV YV hw _ _ _ a2,a3,bI YV hw h1 h2 h3 _ _ a4,aV YV hw _ _ _ a5⟩
 | fP e ver st j ed sd pre row post=>
   exact jI YV hw e1 e2 e3 (fun _ _=>rfl) rfl (fun vs h=>bI YV hw h1 h2 h3 _ _ h) h
end
end Go.AX
end
