/-
  Conditions: none. A framework for walks: abstract values, memory, and conditions that suffice; the chapters in plain terms.
-/
import Derived.Test.YtiagceoepkaeoaaGreatAb
import Derived.TacticsIn
set_option linter.unusedSectionVars false
set_option linter.unusedVariables false
set_option linter.unusedSimpArgs false
section
namespace Go.AX
theorem Fa {N:Nat→Prop}{w:World}{hp:List (Nat×aD)}{R:Real}{v:AV}{g:Fn}{a' c':List AV}{x:Value}(sJ:Qk v=some (g,a',c'))(hx:aj N w hp R v x) :
  ∃fs cs:Array Value,x=.func g fs cs∧bQ N w hp R a' fs.toList∧bQ N w hp R c' cs.toList:=by
 unfold Qk at sJ;split at sJ
 ·simp only[Option.some.injEq,Prod.mk.injEq] at sJ;obtain⟨rfl,rfl,rfl⟩:=sJ;simpa only[aj] using hx
 ·simp only[Option.some.injEq,Prod.mk.injEq] at sJ;obtain⟨rfl,rfl,rfl⟩:=sJ;simp only[aj,bG] at hx;obtain⟨fs,cs,e,h3,h4⟩:=hx;exact⟨fs,cs,e,oN _ _ h3,oN _ _ h4⟩
 cases sJ
theorem xA {N:Nat→Prop}{w:World}{hp:List (Nat×aD)}{R:Real}{vs us:List AV}{xs ys:List Value}(h:bQ N w hp R vs xs)(h':bQ N w hp R us ys):bQ N w hp R (vs++us) (xs++ys):=by
 rw[eZ] at h h' ⊢;exact h.app h'
def K2 (R:Real)(fZ:Ren)(hp:List (Nat×aD))(v:AV)(x:Value):Prop:=
 match v with
 |.ptr k off=>k<999∧∃b d,lk fZ k=some (b,d)∧aX R b off x (lk hp b)
 |.aF k ver=>k<999∧∃b d,lk fZ k=some (b,d)∧aT R b (ver+d) x (lk hp b)
 |.bn k ver i off=>k<999∧∃b d,lk fZ k=some (b,d)∧aZ R b (ver+d) i off x (lk hp b)
 |_=>False
section
variable {P:Program}{c:Ctx}{R:Real}{s:AS}{a:Act}{w:World}
def DD (R:Real)(inv:Inv)(hp:List (Nat×aD))(r:Nat):Prop:=∃b k d,lk inv b=some (k,d)∧aN R b r (lk hp b)
def Fb (g:bD c R s a w)(inv:Inv)(fZ:Ren):Ctx where
 F r:=aU c R s.hp r∧¬DD R inv s.hp r
 O:=DD R inv s.hp
 w:=w
 n:=0
 hF r h:=g.Nlt h.1
 K:=K2 R fZ s.hp
 hK v x h:=by
  cases v<;>simp only[K2] at h<;>have h:=h.1<;>simp only[ku,Bool.and_eq_true,Nat.blt_eq,Bool.not_eq_true']<;>first
   |omega
   |exact⟨by omega,by cases hb:Nat.beq _ 999 with|false=>rfl|true=>(have:=Nat.eq_of_beq_eq_true hb;omega)⟩
 fix _:=none
 n0:=R.Y.n0
 lo:=w.heap.size
theorem Xl (g:bD c R s a w){inv:Inv}{fZ:Ren}{nT:List (Nat×aD)}(h1:∀b k d,lk inv b=some (k,d)→lk fZ k=some (b,d))(h1':∀b k d,lk fZ k=some (b,d)→lk inv b=some (k,d))
  (h2:∀k b d,lk fZ k=some (b,d)→∃box,lk s.hp b=some box∧d=oz box∧lk nT k=some (kU inv box))
  (h3:∀k box0,lk nT k=some box0→∃b box,lk fZ k=some (b,oz box)∧lk s.hp b=some box∧box0=kU inv box) (h4:∀k x y z u,lk nT k≠some (.tr x y z u)) :
  GK (Fb g inv fZ) (Pf fZ R) nT w∧(∀r,aU (Fb g inv fZ) (Pf fZ R) nT r→aU c R s.hp r):=by
 have ho:∀k r,aN (Pf fZ R) k r (lk nT k)→∃b d,lk fZ k=some (b,d)∧aN R b r (lk s.hp b):=by
  intro k r h;cases hk:lk nT k with
  |none=>rw[hk] at h;exact h.elim
  | some box0=>
    obtain⟨b,box,a1,a2,rfl⟩:=h3 k box0 hk;obtain⟨e1,e2,e3⟩:=E8 (R:=R) a1;refine⟨b,_,a1,?_⟩;rw[hk] at h;rw[a2];cases box<;>simp only[aN,kU,e1,e2,e3] at h ⊢ <;> exact h
 have hod:∀r,owned (Pf fZ R) nT r→DD R inv s.hp r:=by
  rintro r ⟨k,h⟩
  obtain⟨b,d,a1,a2⟩:=ho k r h;exact⟨b,k,d,h1' b k d a1,a2⟩
 have hN:∀r,aU (Fb g inv fZ) (Pf fZ R) nT r→aU c R s.hp r:=by
  rintro r (h|h)
  ·exact h.1
  obtain⟨b,k,d,_,h⟩:=hod r h;exact .inr ⟨b,h⟩
 refine⟨⟨fun k box0 hk=>?_,fun k k' r ha hb=>?_,fun r hr hF=>hF.2 (hod r hr),nR.refl _ _,fun r hr=>.inl (hod r hr),fun v x hK=>?_,uV.none,⟨rfl,by show R.Y.n0.1≤w.heap.size;rw[g.lo.1];exact Nat.le_trans g.lo.2.1 g.lo.2.2,Nat.le_refl _⟩⟩,hN⟩
 ·obtain⟨b,box,a1,a2,rfl⟩:=h3 k box0 hk;obtain⟨e1,e2,e3⟩:=E8 (R:=R) a1;have hr:=g.boxes b box a2;cases box with
  | var cells=>
    obtain⟨cur,e,b1,b2⟩:=hr;exact⟨cur,e,by rw[e1];exact b1,rG h1 h2 hN _ _ b2⟩
  | sF cells=>
    obtain⟨cur,e,fr,b1,b2,b3⟩:=hr;exact⟨cur,e,fr,by rw[e1];exact b1,by rw[e1];exact fun h=>b2 (hN _ h),bV (fun r _ h=>hN r h) (fun _ _ _=>rfl) _ _ b3⟩
  | arr e ver st rows=>
    obtain⟨xs,b1,b2⟩:=hr;exact⟨xs,by rw[Kt a1];exact b1,aW (fun r _ h=>hN r h) (fun _ _ _=>rfl) _ _ _ b2⟩
  | kG ver st rows=>
    simp only[kU,eG,Kt a1] at hr ⊢;exact dA (fun r _ h=>hN r h) (fun _ _ _=>rfl) _ _ hr
  |tr y ver rest st=>exact absurd hk (h4 _ _ _ _ _)
  | mp kk kv es=>
    obtain⟨cur,clock,b1,b2,b3⟩:=hr;exact⟨cur,clock,by rw[e1];exact b1,by rw[e2];exact b2,b3⟩
  |fK e ver st j ed sd pre row post=>exact jJ (fun r _ h=>hN r h) (fun _ _ _=>rfl) e1 e2 e3 (fun _ _=>rfl) (xu _ _) (fun vs h=>rG h1 h2 hN _ _ h) hr
  | dM e ver st pre row post=>
    obtain⟨xs,b1,b2,b3,b4,b5⟩:=hr;refine⟨xs,by rw[Kt a1];exact b1,aW (fun r _ h=>hN r h) (fun _ _ _=>rfl) _ _ _ b2,by rw[xu];exact b3,rG h1 h2 hN _ _ b4,aW (fun r _ h=>hN r h) (fun _ _ _=>rfl) _ _ _ b5⟩
 ·obtain⟨b,d,a1,a2⟩:=ho k r ha;obtain⟨b',d',b1,b2⟩:=ho k' r hb;have:=g.inj b b' r a2 b2;subst this;have e1:=h1' b k d a1;have e2:=h1' b k' d' b1;rw[e1] at e2;simp only[Option.some.injEq,Prod.mk.injEq] at e2;exact e2.1
 cases v<;>simp only[Fb,K2] at hK
 ·obtain⟨_,b,d,a1,a2⟩:=hK;simp only[aj];exact E9 h1 h2 (h1' b _ d a1) a2
 ·obtain⟨_,b,d,a1,a2⟩:=hK;simp only[aj];have:=Jd h1 h2 (h1' b _ d a1) (Nat.le_add_left _ _) a2;rwa [Nat.add_sub_cancel] at this
 obtain⟨_,b,d,a1,a2⟩:=hK;simp only[aj];have:=BI h1 h2 (h1' b _ d a1) (Nat.le_add_left _ _) a2;rwa [Nat.add_sub_cancel] at this
theorem Sk (g:bD c R s a w){inv:Inv}{fZ ρ:Ren}{hp':List (Nat×aD)}{R2:Real}{w':World}{id:Nat}
  (h1:∀b k d,lk inv b=some (k,d)→lk fZ k=some (b,d)) (h1':∀b k d,lk fZ k=some (b,d)→lk inv b=some (k,d))
  (h2:∀k b d,lk fZ k=some (b,d)→∃box,lk s.hp b=some box∧d=oz box) (h4:∀k b d,lk fZ k=some (b,d)→∀x y z u,lk s.hp b≠some (.tr x y z u))
  (Jf:∀k p,lk fZ k=some p→k<999∧∃box,lk hp' k=some box) (hnew:∀b∈vK fZ id hp',lk s.hp b=none) (hkeys:yZ hp'=true)
  (hρ:ρ=BF fZ id hp') (Xm:∀k x y z u,lk hp' k≠some (.tr x y z u)) (h:GK (Fb g inv fZ) R2 hp' w') :
  bD c (upR ρ R R2 hp') (s.app (iH ρ hp')) a w' ∧
   ∀v x,aj (aU (Fb g inv fZ) R2 hp') w' hp' R2 v x→aj (aU c (upR ρ R R2 hp') (iH ρ hp'++s.hp)) w' (iH ρ hp'++s.hp) (upR ρ R R2 hp') (lW ρ v) x:=by
 have Uw:∀k box,lk hp' k=some box→(∃b d,lk fZ k=some (b,d)∧jg ρ k=b∧DK ρ k=d)∨(lk fZ k=none∧jg ρ k=id+1000000*k∧DK ρ k=0∧lk s.hp (jg ρ k)=none):=by
  intro k box hk;have e:lk ρ k=some (EY fZ id k):=by rw[hρ,Jc,hk];rfl
  cases hf:lk fZ k with
  | some p=>
    obtain⟨b,d⟩:=p;refine .inl ⟨b,d,rfl,?_,?_⟩<;>simp[jg,DK,e,EY,hf]
  | none=>
    have e1:jg ρ k=id+1000000*k:=by simp[jg,e,EY,hf]
    refine .inr ⟨rfl,e1,by simp[DK,e,EY,hf],?_⟩;rw[e1];exact hnew _ (E5 hk hf)
 have hinj:∀k k' box bH,lk hp' k=some box→lk hp' k'=some bH→jg ρ k'=jg ρ k→k'=k:=by
  intro k k' box bH hk hk' e;rcases Uw k box hk with ⟨b,d,a1,a2,a3⟩|⟨a1,a2,a3,a4⟩<;>rcases Uw k' bH hk' with ⟨b',d',b1,b2,b3⟩|⟨b1,b2,b3,b4⟩
  ·rw[a2,b2] at e;subst e;have e1:=h1' _ k d a1;have e2:=h1' _ k' d' b1;rw[e1] at e2;simp only[Option.some.injEq,Prod.mk.injEq] at e2;exact e2.1.symm
  ·obtain⟨bx,c1,_⟩:=h2 k b d a1;rw[e,a2,c1] at b4;cases b4
  ·obtain⟨bx,c1,_⟩:=h2 k' b' d' b1;rw[←e,b2,c1] at a4;cases a4
  rw[a2,b2] at e;omega
 have hit:∀k box,lk hp' k=some box→lk (hp'.map fun x=>(jg ρ x.1,x.1)) (jg ρ k)=some k:=fun k box hk=>
  MS (fun k' bH hk' e=>hinj k k' box bH hk hk' e) hkeys hk
 generalize hX:(hp'.map fun x=>(jg ρ x.1,x.1))=X at hit;let R':=upR ρ R R2 hp'
 have hRk:∀k box,lk hp' k=some box→R'.blk (jg ρ k)=R2.blk k∧R'.nil (jg ρ k)=R2.nil k∧R'.cap (jg ρ k)=R2.cap k:=by
  intro k box hk;have:=hit k box hk;rw[←hX] at this;simp only[R',upR,this];exact⟨trivial,trivial,trivial⟩
 have hRn:∀b,lk X b=none→R'.blk b=R.blk b∧R'.nil b=R.nil b∧R'.cap b=R.cap b:=by
  intro b hb;rw[←hX] at hb;simp only[R',upR,hb];exact⟨trivial,trivial,trivial⟩
 have hlk:∀k box,lk hp' k=some box→lk (iH ρ hp'++s.hp) (jg ρ k)=some (fI ρ k box):=by
  intro k box hk;have:=hit k box hk;rw[←hX] at this;obtain⟨_,bx,c1,c2⟩:=BJ hkeys this;rw[hk] at c1;cases c1;have hmem:∀{l l':List (Nat×aD)} {b:Nat} {y:aD},lk l b=some y→lk (l++l') b=some y:=by
   intro l l' b y;induction l with
   |nil=>intro h;simp[lk] at h
   | cons z l ih=>
     obtain⟨zk,zv⟩:=z;intro h;rw[List.cons_append,aB];rw[aB] at h;split at h
     ·rename_i e;rw[if_pos e];exact h
     rename_i e;rw[if_neg e];exact ih h
  exact hmem c2
 have hln:∀b,lk X b=none→lk (iH ρ hp'++s.hp) b=lk s.hp b:=by
  intro b hb;rw[←hX] at hb;have:=Je hb;have hmem:∀{l l':List (Nat×aD)} {b:Nat},lk l b=none→lk (l++l') b=lk l' b:=by
   intro l l' b;induction l with
   |nil=>intro _;rfl
   | cons z l ih=>
     obtain⟨zk,zv⟩:=z;intro h;rw[List.cons_append,aB];rw[aB] at h;split at h
     ·cases h
     rename_i e;rw[if_neg e];exact ih h
  exact hmem this
 have hcase:∀b,lk X b=none∨∃k box,b=jg ρ k∧lk hp' k=some box:=by
  intro b;cases hb:lk X b with
  |none=>exact .inl rfl
  | some k=>
    rw[←hX] at hb;obtain⟨e,bx,c1,_⟩:=BJ hkeys hb;exact .inr ⟨k,bx,e,c1⟩
 have hXd:∀b k d,lk inv b=some (k,d)→lk X b≠none:=by
  intro b k d hb hn;have hf:=h1 b k d hb;obtain⟨_,bx,hk⟩:=Jf k _ hf;have:=hit k bx hk;rcases Uw k bx hk with ⟨b',d',a1,a2,a3⟩|⟨a1,_⟩
  ·rw[hf] at a1;simp only[Option.some.injEq,Prod.mk.injEq] at a1;rw[a2,←a1.1,hn] at this;cases this
  rw[hf] at a1;cases a1
 have CV:∀b r,lk X b=none→aN R' b r (lk (iH ρ hp'++s.hp) b)→aN R b r (lk s.hp b):=by
  intro b r hb h';rw[hln b hb] at h';exact fO (hRn b hb) rfl h'
 have CW:∀k box r,lk hp' k=some box→aN R' (jg ρ k) r (lk (iH ρ hp'++s.hp) (jg ρ k))→aN R2 k r (lk hp' k):=by
  intro k box r hk h';rw[hlk k box hk] at h';rw[hk];obtain⟨e1,e2,e3⟩:=hRk k box hk;cases box<;>simp only[aN,fI,e1,e2,e3] at h' ⊢ <;> first
   |exact h'
   |exact absurd hk (Xm _ _ _ _ _)
 have afL:∀b r,lk X b=none→aN R b r (lk s.hp b)→¬DD R inv s.hp r:=by
  rintro b r hb ho ⟨b',k,d,hi,ho'⟩
  have:=g.inj b b' r ho ho';subst this;exact hXd b k d hi hb
 have Xn:∀b r,lk X b=none→aN R b r (lk s.hp b)→(Fb g inv fZ).F r:=fun b r hb ho=>⟨.inr ⟨b,ho⟩,afL b r hb ho⟩
 have afM:∀r,c.F r→(Fb g inv fZ).F r:=fun r hr=>⟨.inl hr,fun⟨b,k,d,_,ho⟩=>g.free r ⟨b,ho⟩ hr⟩
 have DN:∀r,DD R inv s.hp r→owned R s.hp r:=fun r ⟨b,k,d,_,ho⟩=>⟨b,ho⟩
 have N2:∀r,aU c R' (iH ρ hp'++s.hp) r→aU (Fb g inv fZ) R2 hp' r:=by
  rintro r (h'|⟨b,h'⟩)
  ·exact .inl (afM r h')
  rcases hcase b with hb|⟨k,box,rfl,hk⟩
  ·exact .inl (Xn b r hb (CV b r hb h'))
  exact .inr ⟨k,CW k box r hk h'⟩
 have NN:∀r,r<w.heap.size→aU c R' (iH ρ hp'++s.hp) r→aU c R s.hp r:=by
  intro r hr h';rcases N2 r h' with h'|h'
  ·exact h'.1
  rcases h.iN r h' with h'|h'
  ·exact .inr (DN r h')
  exact absurd hr (Nat.not_lt.2 h')
 have WW:∀r,r<w.heap.size→¬aU c R s.hp r→w'.heap[r]? = w.heap[r]? :=fun r hr hn=>h.jE.keep r hr fun hd=>hn (.inr (DN r hd))
 have P1:∀k box,lk hp' k=some box→∀off v,aX R2 k off v (lk hp' k)→aX R' (jg ρ k) off v (lk (iH ρ hp'++s.hp) (jg ρ k)):=by
  intro k box hk off v hr;rw[hlk k box hk];rw[hk] at hr;obtain⟨e1,e2,e3⟩:=hRk k box hk;cases box<;>simp only[aX,fI,e1] at hr ⊢ <;> exact hr
 have P2:∀k box,lk hp' k=some box→∀ver v,aT R2 k ver v (lk hp' k)→aT R' (jg ρ k) (ver+DK ρ k) v (lk (iH ρ hp'++s.hp) (jg ρ k)):=by
  intro k box hk ver v hr;rw[hlk k box hk];rw[hk] at hr;obtain⟨e1,e2,e3⟩:=hRk k box hk;cases box<;>simp only[aT,fI,ads,Bz e1 e2 e3] at hr ⊢ <;> first
   |exact hr
   |exact⟨Nat.zero_le _,hr.2.1,hr.2.2⟩
   |exact⟨by omega,hr.2.1,fun he=>hr.2.2 (by omega)⟩
 have P3:∀k box,lk hp' k=some box→∀ver i off v,aZ R2 k ver i off v (lk hp' k)→aZ R' (jg ρ k) (ver+DK ρ k) i off v (lk (iH ρ hp'++s.hp) (jg ρ k)):=by
  intro k box hk ver i off v hr;rw[hlk k box hk];rw[hk] at hr;obtain⟨e1,e2,e3⟩:=hRk k box hk;cases box<;>simp only[aZ,fI,e1,e2] at hr ⊢ <;> first
   |exact hr
   |exact absurd hk (Xm _ _ _ _ _)
   |exact⟨Nat.zero_le _,hr.2.1,hr.2.2⟩
   |exact⟨by omega,hr.2.1,fun he=>hr.2.2 (by omega)⟩
 have Q1:∀b off v,aX R b off v (lk s.hp b)→aX R' b off v (lk (iH ρ hp'++s.hp) b):=by
  intro b off v hr;rcases hcase b with hb|⟨k,box,rfl,hk⟩
  ·rw[hln b hb];exact jT (hRn b hb) hr
  rcases Uw k box hk with ⟨b,d,a1,a2,a3⟩|⟨a1,a2,a3,a4⟩
  ·rw[a2] at hr;have:=h.kept (.ptr k off) v ⟨(Jf k _ a1).1,b,d,a1,hr⟩;simp only[aj] at this;exact P1 k box hk off v this
  rw[a4] at hr;exact hr.elim
 have cur:∀k b d,lk fZ k=some (b,d)→∀box,lk hp' k=some box→(∃ver v,aT R b ver v (lk s.hp b))→∃v',aT R b (0+d) v' (lk s.hp b):=by
  rintro k b d hk box hb ⟨ver,v,hr⟩
  obtain⟨bx,c1,c2⟩:=h2 k b d hk;rw[c1] at hr ⊢;cases bx<;>simp only[aT] at hr
  ·simp only[oz] at c2;subst c2;exact⟨bW R b _,by omega,by unfold bW;split<;>rfl,fun _=>rfl⟩
  ·simp only[oz] at c2;subst c2;exact⟨bW R b _,by omega,by unfold bW;split<;>rfl,fun _=>rfl⟩
  ·simp only[oz] at c2;subst c2;exact⟨bW R b _,by omega,by unfold bW;split<;>rfl,fun _=>rfl⟩
  simp only[oz] at c2;subst c2;exact⟨bW R b _,by omega,by unfold bW;split<;>rfl,fun _=>rfl⟩
 have Q2:∀b ver v,aT R b ver v (lk s.hp b)→aT R' b ver v (lk (iH ρ hp'++s.hp) b):=by
  intro b ver v hr;rcases hcase b with hb|⟨k,box,rfl,hk⟩
  ·rw[hln b hb];exact lF (hRn b hb) hr
  rcases Uw k box hk with ⟨b,d,a1,a2,a3⟩|⟨a1,a2,a3,a4⟩
  ·rw[a2] at hr;by_cases hd:d≤ver
   ·have:=h.kept (.aF k (ver-d)) v ⟨(Jf k _ a1).1,b,d,a1,by rw[Nat.sub_add_cancel hd];exact hr⟩;simp only[aj] at this;have:=P2 k box hk _ v this;rwa [a3,Nat.sub_add_cancel hd] at this
   obtain⟨v',hv'⟩:=cur k b d a1 box hk ⟨ver,v,hr⟩;have:=h.kept (.aF k 0) v' ⟨(Jf k _ a1).1,b,d,a1,hv'⟩;simp only[aj] at this;have:=P2 k box hk _ v' this;rw[a3] at this;have hone:v.oneCell'=true:=by
    cases hb2:lk s.hp b with
    |none=>rw[hb2] at hr;exact hr.elim
    |some bx=>rw[hb2] at hr;cases bx<;>simp only[aT] at hr<;>first|exact hr.2.1|exact hr.elim
   cases hb3:lk (iH ρ hp'++s.hp) (jg ρ k) with
   |none=>rw[hb3] at this;exact this.elim
   | some bx=>
     rw[hb3] at this;cases bx<;>simp only[aT] at this ⊢ <;> exact⟨by omega,hone,fun e=>by omega⟩
  rw[a4] at hr;exact hr.elim
 have aii:∀k b d,lk fZ k=some (b,d)→∀box,lk hp' k=some box→d≠0→(∃ver i off v,aZ R b ver i off v (lk s.hp b))→∃v',aT R b (0+d) v' (lk s.hp b):=by
  rintro k b d hk box hb hd0 ⟨ver,i,off,v,hr⟩
  obtain⟨bx,c1,c2⟩:=h2 k b d hk;rw[c1] at hr ⊢;cases bx<;>simp only[aZ] at hr
  ·simp only[oz] at c2;subst c2;exact⟨bW R b _,by omega,by unfold bW;split<;>rfl,fun _=>rfl⟩
  ·simp only[oz] at c2;subst c2;exact⟨bW R b _,by omega,by unfold bW;split<;>rfl,fun _=>rfl⟩
  ·exact absurd c1 (h4 k b d hk _ _ _ _)
  ·simp only[oz] at c2;subst c2;exact⟨bW R b _,by omega,by unfold bW;split<;>rfl,fun _=>rfl⟩
  ·exact absurd c2 hd0
  simp only[oz] at c2;subst c2;exact⟨bW R b _,by omega,by unfold bW;split<;>rfl,fun _=>rfl⟩
 have Q3:∀b ver i off v,aZ R b ver i off v (lk s.hp b)→aZ R' b ver i off v (lk (iH ρ hp'++s.hp) b):=by
  intro b ver i off v hr;rcases hcase b with hb|⟨k,box,rfl,hk⟩
  ·rw[hln b hb];exact lG (hRn b hb) hr
  rcases Uw k box hk with ⟨b,d,a1,a2,a3⟩|⟨a1,a2,a3,a4⟩
  ·rw[a2] at hr;by_cases hd:d≤ver
   ·have:=h.kept (.bn k (ver-d) i off) v ⟨(Jf k _ a1).1,b,d,a1,by rw[Nat.sub_add_cancel hd];exact hr⟩;simp only[aj] at this;have:=P3 k box hk _ i off v this;rwa [a3,Nat.sub_add_cancel hd] at this
   obtain⟨v',hv'⟩:=aii k b d a1 box hk (by omega) ⟨ver,i,off,v,hr⟩;have:=h.kept (.aF k 0) v' ⟨(Jf k _ a1).1,b,d,a1,hv'⟩;simp only[aj] at this;have:=P2 k box hk _ v' this;rw[a3] at this;have hone:v.oneCell'=true:=by
    cases hb2:lk s.hp b with
    |none=>rw[hb2] at hr;exact hr.elim
    |some bx=>rw[hb2] at hr;cases bx<;>simp only[aZ] at hr<;>first|exact hr.2.1|exact hr.elim
   cases hb3:lk (iH ρ hp'++s.hp) (jg ρ k) with
   |none=>rw[hb3] at this;exact this.elim
   | some bx=>
     rw[hb3] at this;cases bx<;>simp only[aT] at this<;>simp only[aZ]<;>exact⟨by omega,hone,fun e=>by omega⟩
  rw[a4] at hr;exact hr.elim
 have Sl:∀k box,lk hp' k=some box→lk (iH ρ hp'++s.hp) (jg ρ k)=some (fI ρ k box)∧R'.blk (jg ρ k)=R2.blk k∧R'.nil (jg ρ k)=R2.nil k∧R'.cap (jg ρ k)=R2.cap k:=
  fun k box hk=>⟨hlk k box hk,hRk k box hk⟩
 have Id1:∀b off v,aX R' b off v (lk (iH ρ hp'++s.hp) b)→aX R' b off v (lk (iH ρ hp'++s.hp) b):=fun _ _ _ h=>h
 have Id2:∀b ver v,aT R' b ver v (lk (iH ρ hp'++s.hp) b)→aT R' b ver v (lk (iH ρ hp'++s.hp) b):=fun _ _ _ h=>h
 have Id3:∀b ver i off v,aZ R' b ver i off v (lk (iH ρ hp'++s.hp) b)→aZ R' b ver i off v (lk (iH ρ hp'++s.hp) b):=fun _ _ _ _ _ h=>h
 have ZF:∀r,r<w'.heap.size→aU c R' (iH ρ hp'++s.hp) r→aU (Fb g inv fZ) R2 hp' r:=fun r _=>N2 r
 have W2:∀r,r<w'.heap.size→¬aU (Fb g inv fZ) R2 hp' r→w'.heap[r]? = w'.heap[r]? :=fun _ _ _=>rfl
 have WO:∀r,r<w.heap.size→¬owned R s.hp r→w'.heap[r]? = w.heap[r]? :=fun r hr hn=>h.jE.keep r hr fun hd=>hn (DN r hd)
 have OO:∀r,r<w.heap.size→owned R' (iH ρ hp'++s.hp) r→owned R s.hp r:=by
  rintro r hr ⟨b,h'⟩
  rcases hcase b with hb|⟨k,box,rfl,hk⟩
  ·exact⟨b,CV b r hb h'⟩
  rcases h.iN r ⟨k,CW k box r hk h'⟩ with h'|h'
  ·exact DN r h'
  exact absurd hr (Nat.not_lt.2 h')
 refine⟨⟨fun t v hv=>?_,g.size,⟨g.lo.1,g.lo.2.1,Nat.le_trans g.lo.2.2 h.jE.size⟩,g.marks.imp fun Ds hm=>hm.kept WO OO,g.fixed.kept WO OO,fun b box hb=>?_,fun b b' r ha hb=>?_,fun r ⟨b,hr⟩ hF=>?_,?_,fun r ⟨b,hr⟩=>?_,fun v x hK=>bX NN WW Q1 Q2 Q3 v x (g.kept v x hK)⟩,fun v x hv=>?_⟩
 ·obtain⟨x,hx,hr⟩:=g.slots t v hv;exact⟨x,hx,bX NN WW Q1 Q2 Q3 v x hr⟩
 ·simp only[AS.app] at hb ⊢;rcases hcase b with hbn|⟨k,bx,rfl,hk⟩
  ·have hb0:=hb;rw[hln b hbn] at hb;have hr:=g.boxes b box hb;have hRb:=hRn b hbn;have hkeep:∀r,aN R b r (lk s.hp b)→w'.heap[r]? = w.heap[r]? :=fun r ho=>h.jE.keep r (g.kz ho) (afL b r hbn ho)
   rw[hb] at hkeep;cases box with
   | var cells=>
     obtain⟨cur,e',h8,h9⟩:=hr;refine⟨cur,e',?_,bK NN WW Q1 Q2 Q3 _ _ h9⟩;rw[hRb.1,hkeep _ rfl];exact h8
   | sF cells=>
     obtain⟨cur,e',fr,h8,h7,h9⟩:=hr;have hs:=size_of_getElem? h8;refine⟨cur,e',fr,?_,?_,bV NN WW _ _ h9⟩
     ·rw[hRb.1,WW _ hs h7];exact h8
     rw[hRb.1];exact fun x=>h7 (NN _ hs x)
   | arr e' ver st rows=>
     obtain⟨xs,h8,h9⟩:=hr;refine⟨xs,?_,aW NN WW _ _ _ h9⟩;rw[jo hRb];refine dD h8 fun k hk=>hkeep k ?_
     simp only[bW] at hk;cases hnil:R.nil b with
     |true=>simp[hnil,Value.ownBlock] at hk
     |false=>simp[hnil,Value.ownBlock] at hk;exact⟨hnil,hk⟩
   | kG ver st rows=>
     simp only[eG] at hr ⊢;rw[show bW (upR ρ R R2 hp') b rows.length=bW R b rows.length from jo hRb];exact dA NN WW _ _ hr
   | tr y ver rest st=>
     obtain⟨k0,kh,k1,k2,k3,k4⟩:=hr;simp only[eG,show (upR ρ R R2 hp').nil b=R.nil b from hRb.2.1];refine⟨k0,kh,k1,k2.step h.jE fun r hr ⟨b2,k,d,hi,ho⟩=>?_,k3,fun r hn=>?_⟩
     ·rcases k4 r (.inr ⟨b2,ho⟩) with hd|hz|hs
      ·exact absurd (g.inj b2 b r ho (by rw[hb];exact hd)) fun e=>hXd b2 k d hi (e▸hbn)
      ·exact hz
      omega
     by_cases hlt:r<w.heap.size
     ·exact k4 r (NN r hlt hn)
     exact .inr (.inr (by have:=k2.size;show R.Y.wy.heap.size≤r;omega))
   | mp kk kv es=>
     obtain⟨cur,clock,h8,h9,h10⟩:=hr;exact⟨cur,clock,by rw[hRb.1,hkeep _ ⟨h9,rfl⟩];exact h8,by rw[hRb.2.1];exact h9,h10⟩
   |fK e' ver st j ed sd pre row post=>exact jJ NN WW hRb.1 hRb.2.1 hRb.2.2 (fun k hk=>hkeep k hk) rfl (fun vs h=>bK NN WW Q1 Q2 Q3 _ _ h) hr
   | dM e' ver st pre row post=>
     obtain⟨xs,h8,h9,h10,h11,h12⟩:=hr;refine⟨xs,?_,aW NN WW _ _ _ h9,h10,bK NN WW Q1 Q2 Q3 _ _ h11,aW NN WW _ _ _ h12⟩;rw[jo hRb];refine dD h8 fun k hk=>hkeep k ?_
     simp only[bW] at hk;cases hnil:R.nil b with
     |true=>simp[hnil,Value.ownBlock] at hk
     |false=>simp[hnil,Value.ownBlock] at hk;exact⟨hnil,hk⟩
  rw[hlk k bx hk] at hb;cases hb;have hr:=h.boxes k bx hk;obtain⟨e1,e2,e3⟩:=hRk k bx hk;cases bx with
  | var cells=>
    obtain⟨cur,e',h8,h9⟩:=hr;exact⟨cur,e',by rw[e1];exact h8,bK ZF W2 Id1 Id2 Id3 _ _ (vG Sl _ _ h9)⟩
  | sF cells=>
    obtain⟨cur,e',fr,h8,h7,h9⟩:=hr;exact⟨cur,e',fr,by rw[e1];exact h8,by rw[e1];exact fun x=>h7 (N2 _ x),bV ZF W2 _ _ h9⟩
  | arr e' ver st rows=>
    obtain⟨xs,h8,h9⟩:=hr;exact⟨xs,by rw[Bz e1 e2 e3];exact h8,aW ZF W2 _ _ _ h9⟩
  | kG ver st rows=>
    simp only[fI,eG] at hr ⊢;rw[show bW (upR ρ R R2 hp') (jg ρ k) rows.length=bW R2 k rows.length from Bz e1 e2 e3];exact dA ZF W2 _ _ hr
  |tr y ver rest st=>exact absurd hk (Xm _ _ _ _ _)
  | mp kk kv es=>
    obtain⟨cur,clock,h8,h9,h10⟩:=hr;exact⟨cur,clock,by rw[e1];exact h8,by rw[e2];exact h9,h10⟩
  |fK e' ver st j ed sd pre row post=>exact jJ ZF W2 e1 e2 e3 (fun _ _=>rfl) (xq _ _) (fun vs h=>bK ZF W2 Id1 Id2 Id3 _ _ (vG Sl _ _ h)) hr
  | dM e' ver st pre row post=>
    obtain⟨xs,h8,h9,h10,h11,h12⟩:=hr;exact⟨xs,by rw[Bz e1 e2 e3];exact h8,aW ZF W2 _ _ _ h9,by rw[xq];exact h10,bK ZF W2 Id1 Id2 Id3 _ _ (vG Sl _ _ h11),aW ZF W2 _ _ _ h12⟩
 ·simp only[AS.app] at ha hb;rcases hcase b with hbn|⟨k,bx,rfl,hk⟩<;>rcases hcase b' with adu|⟨k',bx',rfl,hk'⟩
  ·exact g.inj b b' r (CV b r hbn ha) (CV b' r adu hb)
  ·exact absurd (Xn b r hbn (CV b r hbn ha)) (h.free r ⟨k',CW k' bx' r hk' hb⟩)
  ·exact absurd (Xn b' r adu (CV b' r adu hb)) (h.free r ⟨k,CW k bx r hk ha⟩)
  rw[h.inj k k' r (CW k bx r hk ha) (CW k' bx' r hk' hb)]
 ·simp only[AS.app] at hr;rcases hcase b with hbn|⟨k,bx,rfl,hk⟩
  ·exact g.free r ⟨b,CV b r hbn hr⟩ hF
  exact h.free r ⟨k,CW k bx r hk hr⟩ (afM r hF)
 ·exact g.jE.trans h.jE fun r hr hd=>(g.iN r (DN r hd)).resolve_right (by omega)
 ·simp only[AS.app] at hr;rcases hcase b with hbn|⟨k,bx,rfl,hk⟩
  ·exact g.iN r ⟨b,CV b r hbn hr⟩
  rcases h.iN r ⟨k,CW k bx r hk hr⟩ with h'|h'
  ·exact g.iN r (DN r h')
  exact .inr (Nat.le_trans g.jE.size h')
 exact bX ZF W2 Id1 Id2 Id3 _ _ (Ko Sl v x hv)
theorem Wz (g:bD c R s a w){fv:AV}{args:List AV}{id:Nat}{K:AV→List (Nat×aD)→List Nat→Prop}(h:gC P s.hp id (fv::args) K)
  {u:Value} {us:List Value} (hf:aj (aU c R s.hp) w s.hp R fv u) (hv:FL (aj (aU c R s.hp) w s.hp R) args us) :
  ∃f first aR,u=.func (.func f) first aR∧Enters P f∧Calls P f (first++us.toArray++aR) w fun e w'=>∃v z ws ids R',e=.returned v∧K z ws ids∧bD c R' (s.app ws) a w' ∧
   aj (aU c R' (ws++s.hp)) w' (ws++s.hp) R' z v:=by
 unfold gC at h;simp only at h;split at h;rotate_left;exact h.elim
 rename_i f first aR hfn
 split at h;rotate_left;exact h.elim
 rename_i H hH;obtain⟨r,hp',Pm,h⟩:=h;split at h;rotate_left;exact h.elim
 rename_i hok;rw[zY,zZ] at h;have hnt:=jb _ _ h;have h:=kJ _ _ _ h;simp only[gOk,Bool.and_eq_true] at hok;obtain⟨o1,o2,o3,o4,o5⟩:=hok;obtain⟨fs,cs,rfl,f1,f2⟩:=Fa hfn hf;refine⟨f,fs,cs,rfl,Pm.1,?_⟩;have h1:∀b k d,lk (lD 1 H) b=some (k,d)→lk (jI 1 H) k=some (b,d):=fun b k d hb=>(BG hb).2
 have h1':∀b k d,lk (jI 1 H) k=some (b,d)→lk (lD 1 H) b=some (k,d):=fun b k d hb=>y5 o4 hb
 have h2:∀k b d,lk (jI 1 H) k=some (b,d)→∃box,lk s.hp b=some box∧d=oz box∧lk (uP (lD 1 H) 1 H) k=some (kU (lD 1 H) box):=
  fun k b d hb=>BH (rF hH) hb
 have h3:∀k box0,lk (uP (lD 1 H) 1 H) k=some box0→∃b box,lk (jI 1 H) k=some (b,oz box)∧lk s.hp b=some box∧box0=kU (lD 1 H) box:=
  fun k box0 hb=>EZ (rF hH) hb
 obtain⟨hin,adv⟩:=Xl g h1 h1' h2 h3 (mP o5);have hargs:bQ (aU c R s.hp) w s.hp R (first++(args++aR)) (fs.toList++(us++cs.toList)):=
  xA f1 (xA ((eZ _ _ _ _ _ _).2 hv) f2)
 have Qm:=oQ h1 h2 adv _ _ hargs;refine (Pm.2 _ _ w (fs++us.toArray++cs) hin (by simpa using Qm)).mono ?_;rintro e w' ⟨v,r',HZ,R2,rfl,⟨rfl,rfl⟩,hh,hr⟩
 obtain⟨g',hmap⟩:=Sk (id:=id) g h1 h1' (fun k b d hb=>let ⟨bx,c1,c2,_⟩:=h2 k b d hb;⟨bx,c1,c2⟩) (fun k b d hb x y z u e=>by
  obtain⟨bx,c1,_,c3⟩:=h2 k b d hb;rw[c1] at e;cases e;exact mP o5 k _ _ _ _ c3) (fun k p hk=>vM o1 hk) (fun b hb=>sZ o2 b hb) o3 rfl (mP hnt) hh
 exact⟨v,_,_,_,_,rfl,h,g',hmap r' v hr⟩
theorem WA (g:bD c R s a w){fv:AV}{args:List AV}{id:Nat}{K:AV→List (Nat×aD)→List Nat→Prop}(h:gI P s.hp id (fv::args) K)
  {u:Value} {us:List Value} (hf:aj (aU c R s.hp) w s.hp R fv u) (hv:FL (aj (aU c R s.hp) w s.hp R) args us) :
  ∃f first aR,u=.func (.func f) first aR∧Enters P f∧Calls P f (first++us.toArray++aR) w fun e w'=>∃v z ws ids R',e=.returned v∧K z ws ids∧bD c R' (s.app ws) a w' ∧
   aj (aU c R' (ws++s.hp)) w' (ws++s.hp) R' z v:=by
 unfold gI at h;simp only at h;split at h;rotate_left;exact h.elim
 rename_i f first aR hfn
 split at h;rotate_left;exact h.elim
 rename_i H hH;split at h;rotate_left;exact h.elim
 rename_i hpre;obtain⟨Q,Pm,h⟩:=h;obtain⟨fs,cs,rfl,f1,f2⟩:=Fa hfn hf;refine⟨f,fs,cs,rfl,Pm.1,?_⟩;simp only[Bool.and_eq_true] at hpre;obtain⟨o4,o5⟩:=hpre;have h1:∀b k d,lk (lD 1 H) b=some (k,d)→lk (jI 1 H) k=some (b,d):=fun b k d hb=>(BG hb).2
 have h1':∀b k d,lk (jI 1 H) k=some (b,d)→lk (lD 1 H) b=some (k,d):=fun b k d hb=>y5 o4 hb
 have h2:∀k b d,lk (jI 1 H) k=some (b,d)→∃box,lk s.hp b=some box∧d=oz box∧lk (uP (lD 1 H) 1 H) k=some (kU (lD 1 H) box):=
  fun k b d hb=>BH (rF hH) hb
 have h3:∀k box0,lk (uP (lD 1 H) 1 H) k=some box0→∃b box,lk (jI 1 H) k=some (b,oz box)∧lk s.hp b=some box∧box0=kU (lD 1 H) box:=
  fun k box0 hb=>EZ (rF hH) hb
 obtain⟨hin,adv⟩:=Xl g h1 h1' h2 h3 (mP o5);have hargs:bQ (aU c R s.hp) w s.hp R (first++(args++aR)) (fs.toList++(us++cs.toList)):=
  xA f1 (xA ((eZ _ _ _ _ _ _).2 hv) f2)
 have Qm:=oQ h1 h2 adv _ _ hargs;refine (Pm.2 _ _ w (fs++us.toArray++cs) hin (by simpa using Qm)).mono ?_;rintro e w' ⟨v,r',HZ,R2,rfl,hQ,hh,hr⟩
 have h:=h r' HZ hQ;split at h;rotate_left;exact h.elim
 rename_i hok;rw[zY,zZ] at h;have hnt:=jb _ _ h;have h:=kJ _ _ _ h;simp only[gOk,Bool.and_eq_true] at hok;obtain⟨o1,o2,o3,-,-⟩:=hok;obtain⟨g',hmap⟩:=Sk (id:=id) g h1 h1' (fun k b d hb=>let ⟨bx,c1,c2,_⟩:=h2 k b d hb;⟨bx,c1,c2⟩) (fun k b d hb x y z u e=>by
  obtain⟨bx,c1,_,c3⟩:=h2 k b d hb;rw[c1] at e;cases e;exact mP o5 k _ _ _ _ c3) (fun k p hk=>vM o1 hk) (fun b hb=>sZ o2 b hb) o3 rfl (mP hnt) hh
 exact⟨v,_,_,_,_,rfl,h,g',hmap r' v hr⟩
end
def isNone {α:Type}:Option α→Bool
 |none=>true
 |some _=>false
def afV (T:Tab):Bool:=
 match T with
 |(a,_)::(b,_)::_=>Nat.beq a b
 |_=>false
def Qa (tw:Bool)(rows:List (List PV))(b ver:Nat)(e:TypeId)(st:Nat)(l h:Option Int)(K:AV→List (Nat×aD)→Prop):Prop:=
 match l with
 | none=>match h with
   |none=>K (.aF b ver) []
   | some h=>match tw with
     |true=>0≤h∧h≤rows.length∧K (.sub b ver st 0 h.toNat) []
     |false=>0≤h∧h≤rows.length∧K (.aF b (ver+1)) [(b,.arr e (ver+1) st (rows.take h.toNat))]
 | some l=>match h with
   |none=>0≤l∧l≤rows.length∧K (.sub b ver st l.toNat rows.length) []
   |some h=>0≤h∧h≤rows.length∧0≤l∧l≤h∧K (.sub b ver st l.toNat h.toNat) []
def oq (T:Tab)(H:List (Nat×aD))(t:TypeId)(lo hi mx:Option Operand)(vs:List AV)(K:AV→List (Nat×aD)→Prop):Prop:=
 match vs with
 | .aF b ver::r=>match lk H b with
   | some (.arr e v st rows)=>match Nat.beq ver v with
     | true=>match isNone mx with
       | true=>match lk T t with
         | some i=>match i.d with
           | .slt et=>match lk T et with
             | some ei=>match Nat.beq st ei.size with
               | true=>match DT lo r with
                 | some (l,r1)=>match DT hi r1 with
                   |some (h,_)=>Qa (afV T) rows b ver e st l h K
                   |none=>False
                 |none=>False
               |false=>False
             |none=>False
           |_=>False
         |none=>False
       |false=>nk T H t lo hi mx vs K
     |false=>False
   |_=>nk T H t lo hi mx vs K
 |_=>nk T H t lo hi mx vs K
def Bq (T:Tab)(H:List (Nat×aD))(t:TypeId)(x:AV)(K:AV→List (Nat×aD)→Prop):Prop:=
 match x with
 | .sub b ver st lo hi=>match lk H b with
   | some (.arr e v st' rows)=>match Nat.beq ver v with
     | true=>match Nat.beq st st' with
       | true=>match lk T t with
         | some i=>match i.d with
           | .slt et=>match lk T et with
             | some ei=>match Nat.beq st ei.size,zPV ei.zero with
               |true,some z=>K (.pv (.dn [])) [(b,.arr e v st' (rows.take lo++(List.replicate (hi-lo) z++rows.drop hi)))]
               |_,_=>False
             |none=>False
           |_=>False
         |none=>False
       |false=>False
     |false=>False
   |_=>False
 |_=>False
section
variable {P:Program}{T:Tab}{c:Ctx}{R:Real}{s:AS}{a:Act}{w:World}
theorem qm {N:Nat→Prop}{hp:List (Nat×aD)}{b:Nat}{e:TypeId}{ver st:Nat}{rows:List (List PV)}(h:eG N w hp R b (.arr e ver st rows))(hn:R.nil b=true):rows=[]:=by
 obtain⟨xs,⟨_,h3⟩,_⟩:=h;rcases h3 with ⟨_,h3⟩|⟨g',cap,cur,e1,_⟩
 ·exact List.eq_nil_of_length_eq_zero h3
 simp[bW,hn] at e1
theorem qO (g:bD c R s a w)(hT:bP P T){H:List (Nat×aD)}(hH:∀b box,lk H b=some box→lk s.hp b=some box){t:TypeId}{x0:Operand}{lo hi mx:Option Operand}{vs:List AV}
  {K:AV→List (Nat×aD)→Prop} (h:oq T H t lo hi mx vs K)
  (hv:FL (aj (aU c R s.hp) w s.hp R) vs ((x0::(lo.toList++(hi.toList++mx.toList))).map a.eval)) :
  ∃y z ws R',(Instr.sliceAt t (a.eval x0) (lo.map a.eval) (hi.map a.eval) (mx.map a.eval)).run P w=.ok y w∧K z ws∧bD c R' (s.app ws) a w∧aj (aU c R' (ws++s.hp)) w (ws++s.hp) R' z y:=by
 have old:nk T H t lo hi mx vs K→∃y z ws R',(Instr.sliceAt t (a.eval x0) (lo.map a.eval) (hi.map a.eval) (mx.map a.eval)).run P w=.ok y w∧K z ws∧bD c R' (s.app ws) a w∧aj (aU c R' (ws++s.hp)) w (ws++s.hp) R' z y:=fun h=>by
  obtain⟨y,z,ws,h1,h2,h3,h4⟩:=GR g hT hH h hv;exact⟨y,z,ws,R,h1,h2,h3,h4⟩
 unfold oq at h;split at h
 ·rename_i b ver r;split at h
  ·rename_i e v st rows hb;split at h;rotate_left;exact h.elim
   rename_i fT;have fT:=Nat.eq_of_beq_eq_true fT;split at h
   ·rename_i hmx;have hmx:mx=none:=by cases mx<;>simp_all [isNone]
    subst hmx;split at h;rotate_left;exact h.elim
    rename_i i hi';obtain⟨d,hd,iE⟩:=(hT t i hi').iO;split at h;rotate_left;exact h.elim
    rename_i et hte;have hd':P.underlying t=some (.slice et):=by
     rw[hte] at iE;cases d<;>simp[di] at iE
     subst iE;exact hd
    split at h;rotate_left;exact h.elim
    rename_i ei q9;have je:=hT _ _ q9;split at h;rotate_left;exact h.elim
    rename_i hst;have hst:=Nat.eq_of_beq_eq_true hst;split at h;rotate_left;exact h.elim
    rename_i l r1 hl;split at h;rotate_left;exact h.elim
    rename_i hh r2 hhi;simp only[List.map_cons] at hv;obtain⟨u,r',e1,hx,hv⟩:=hv;simp only[List.cons.injEq] at e1;obtain⟨e1,rfl⟩:=e1;obtain⟨v1,hv⟩:=iI hv hl;obtain⟨v2,hv⟩:=iI (rest:=[]) (by simpa using hv) hhi;have hb':=hH _ _ hb;have hre:=g.boxes b _ hb';have hxr:=hx;simp only[aj,hb',aT] at hx;have hu:=hx.2.2 fT;have hrun:∀(k2:∀i,hh=some i→0≤i∧i≤rows.length) (k3:∀i,l=some i→0≤i∧i≤dX rows.length hh),
      (Instr.sliceAt t (a.eval x0) (lo.map a.eval) (hi.map a.eval) (Option.map a.eval none)).run P w=.ok (jD st ((l.map Int.toNat).getD 0) (dX rows.length hh).toNat u) w ∧
       ((l.map Int.toNat).getD 0)≤(dX rows.length hh).toNat∧(dX rows.length hh).toNat≤rows.length:=by
     intro k2 k3;rw[e1,hu];cases hn:R.nil b with
     | true=>
       have hr0:=qm hre hn;subst hr0;obtain⟨hrun,q1,q2,q3⟩:=jc (P:=P) (w:=w) (UA:=true) (len:=0) (cap:=0) (m:=none) v1 v2 (show vI none none from trivial) (Nat.le_refl _) (fun i e=>by cases e) (by simpa[dX] using k2) (by simpa using k3);refine⟨?_,q1,q2⟩;have hz:(dX 0 hh).toNat=0:=by omega
       have lz:(l.map Int.toNat).getD 0=0:=by omega
       simp only[Option.map_none,Option.getD_none,hz,lz] at hrun;simp only[Instr.sliceAt,Instr.slice,Sem.run_bind,run_underlying hd',Result.andThen_ok,bW,hn,if_true,Option.map_none,hrun,je.run_sizeOf,Sem.run_pure];simp[jD]
     | false=>
       obtain⟨cur,hg,hs,hle,hm,hr,_⟩:=gM hre hn;obtain⟨hrun,q1,q2,q3⟩:=jc (P:=P) (w:=w) (UA:=true) (len:=rows.length) (cap:=(R.cap b).1) (m:=none) v1 v2 (show vI none none from trivial) hle (fun i e=>by cases e) (by
        intro i hi;exact k2 i hi) (by simpa using k3)
       refine⟨?_,q1,q2⟩;simp only[Option.map_none,Option.getD_none] at hrun;simp only[Instr.sliceAt,Instr.slice,Sem.run_bind,run_underlying hd',Result.andThen_ok,bW,hn,Bool.false_eq_true,if_false,Option.map_none,hrun,je.run_sizeOf,Sem.run_pure];simp only[jD,hst];congr 2
       split<;>rfl
    have Ye:∀(lo' hi':Nat),lo'≤hi'→hi'≤rows.length→aj (aU c R s.hp) w s.hp R (.sub b ver st lo' hi') (jD st lo' hi' u):=by
     intro lo' hi' q1 q2;simp only[aj];refine⟨u,by simpa only[aj] using hxr,?_,rfl⟩;rw[hu];unfold bW;split
     ·rename_i hn;have:=qm hre hn;subst this;simp at q2;exact⟨by omega,by omega⟩
     exact⟨q1,q2⟩
    unfold Qa at h;cases l with
    | none=>
      cases hh with
      | none=>
        obtain⟨h1,q1,q2⟩:=hrun (fun i e=>by cases e) (fun i e=>by cases e);refine⟨_,_,[],R,h1,h,g,?_⟩;have:jD st 0 rows.length u=u:=by
         rw[hu];unfold bW;split
         ·rfl
         simp only[jD,Nat.sub_zero,Nat.zero_mul];split<;>rfl
        simp only[Option.map_none,Option.getD_none,dX,Int.toNat_natCast];rw[this];exact hxr
      | some j=>
        simp only at h;split at h
        ·obtain⟨j0,j1,hK⟩:=h;obtain⟨h1,q1,q2⟩:=hrun (fun i e=>by cases e;exact⟨j0,j1⟩) (fun i e=>by cases e);refine⟨_,_,[],R,h1,hK,g,?_⟩;simp only[Option.map_none,Option.getD_none,dX] at q1 q2 ⊢;exact Ye _ _ q1 q2
        obtain⟨j0,j1,hK⟩:=h;obtain⟨h1,q1,q2⟩:=hrun (fun i e=>by cases e;exact⟨j0,j1⟩) (fun i e=>by cases e);have hR:∀b',b'≠b→R.blk b'=R.blk b'∧R.nil b'=R.nil b'∧R.cap b'=R.cap b':=fun _ _=>⟨rfl,rfl,rfl⟩
        have hlen:(rows.take j.toNat).length=j.toNat:=by simp;omega
        obtain⟨xs,hxs,al4⟩:=hre;have hown2:∃ys,w.ownsRow 0 e st (bW R b (rows.take j.toNat).length) (rows.take j.toNat).length ys∧bL (aU c R s.hp) w st (rows.take j.toNat) ys:=by
         cases hn:R.nil b with
         | true=>
           have:=qm (g.boxes b _ hb') hn;subst this;exact⟨[],⟨by simp,.inl ⟨by simp[bW,hn],by simp⟩⟩,by simp[bL]⟩
         | false=>
           obtain⟨cur,hg,hs,hle,hm,hr,_⟩:=gM (g.boxes b _ hb') hn;have hr2:=lS (i:=j.toNat) hr;obtain⟨t1,t2,t3⟩:=fV hr2;rw[hlen] at t1 t2;refine⟨cur.toList.take (j.toNat*st),⟨?_,.inr ⟨R.blk b,(R.cap b).1,cur,by simp[bW,hn],Nat.zero_le _,hg,?_,hm,hs,by rw[hlen]⟩⟩,t2⟩
           ·rw[List.length_take,hlen];omega
           rw[hlen];omega
        obtain⟨ys,ho,hr⟩:=hown2;obtain⟨g2,hr2⟩:=g.sH (b:=b) (e:=e) (ver:=ver+1) (st:=st) (rows:=rows.take j.toNat) (R':=R) (.inr ⟨_,_,_,_,hb',by omega⟩) hR (nR.refl _ w)
         (fun hn=>.inl (by rw[hb'];exact⟨hn,rfl⟩)) ho hr
        refine⟨_,_,_,R,h1,hK,g2,?_⟩;have:jD st 0 j.toNat u=bW R b (rows.take j.toNat).length:=by
         rw[hu,hlen];unfold bW;split
         ·rfl
         simp only[jD,Nat.sub_zero,Nat.zero_mul];split<;>rfl
        simp only[Option.map_none,Option.getD_none,dX];rw[this];exact hr2
    | some l=>
      cases hh with
      | none=>
        simp only at h;obtain⟨l0,l1,hK⟩:=h;obtain⟨h1,q1,q2⟩:=hrun (fun i e=>by cases e) (fun i e=>by cases e;exact⟨l0,by simpa[dX] using l1⟩);refine⟨_,_,[],R,h1,hK,g,?_⟩;simp only[Option.map_some,Option.getD_some,dX,Int.toNat_natCast] at q1 ⊢;exact Ye _ _ q1 (Nat.le_refl _)
      | some j=>
        simp only at h;obtain⟨j0,j1,l0,l1,hK⟩:=h;obtain⟨h1,q1,q2⟩:=hrun (fun i e=>by cases e;exact⟨j0,j1⟩) (fun i e=>by cases e;exact⟨l0,by simpa[dX] using l1⟩);refine⟨_,_,[],R,h1,hK,g,?_⟩;simp only[Option.map_some,Option.getD_some,dX] at q1 q2 ⊢;exact Ye _ _ q1 q2
   exact old h
  exact old h
 exact old h
theorem xV {b:Nat}{e:TypeId}{cur:Array Value}(vs:List Value)(off:Nat)(hg:w.heap[b]? = some (.cells cur e (0,0)))(hl:off+vs.length≤cur.size)(h1:∀u∈vs,u.oneCell'=true) :
  (storeCells ⟨b,off,none⟩ vs).run P w=.ok () (w.setRow b (cur.toList.take off++vs++cur.toList.drop (off+vs.length)).toArray):=by
 have:=run_storeCells_at P b off e vs 0 cur w hg (by simpa using hl) h1;simp only[Nat.add_zero] at this;simp[storeCells,this]
theorem bD.sameBox (g:bD c R s a w){b:Nat}{e:TypeId}{ver st:Nat}{rows:List (List PV)}(hb:lk s.hp b=some (.arr e ver st rows)):bD c R (s.app [(b,.arr e ver st rows)]) a w:=by
 have hR:∀b',b'≠b→R.blk b'=R.blk b'∧R.nil b'=R.nil b'∧R.cap b'=R.cap b':=fun _ _=>⟨rfl,rfl,rfl⟩
 have r1:∀off v,aX R b off v (lk s.hp b)→aX R b off v (some (.arr e ver st rows)):=fun off v h=>by rw[hb] at h;exact h
 have r2:∀fe v,aT R b fe v (lk s.hp b)→aT R b fe v (some (.arr e ver st rows)):=fun _ v h=>by rw[hb] at h;exact h
 have r3:∀fe i off v,aZ R b fe i off v (lk s.hp b)→aZ R b fe i off v (some (.arr e ver st rows)):=fun _ _ _ v h=>by rw[hb] at h;exact h
 have hown:∀r,aN R b r (some (.arr e ver st rows))→aN R b r (lk s.hp b)∨w.heap.size≤r:=fun r h=>by rw[hb];exact .inl h
 obtain⟨m1,m2,m3,m4,m5⟩:=g.JY hR r1 r2 r3 hown (nR.refl _ w);refine g.upd hR r1 r2 r3 hown (nR.refl _ w) ?_;obtain⟨xs,hxs,hr⟩:=g.boxes b _ hb;exact⟨xs,hxs,aW m1 m2 _ _ _ hr⟩
theorem Ke (g:bD c R s a w)(hT:bP P T){H:List (Nat×aD)}(hH:∀b box,lk H b=some box→lk s.hp b=some box){t ty:TypeId}{x:AV}{u:Value}
  {K:AV→List (Nat×aD)→Prop} (h:Bq T H t x K) (hx:aj (aU c R s.hp) w s.hp R x u) :
  ∃z w' q ws,(Builtin.clear_ #[t] ty #[u]).run P w=.ok z w'∧K q ws∧bD c R (s.app ws) a w'∧aj (aU c R (ws++s.hp)) w' (ws++s.hp) R q z:=by
 unfold Bq at h;split at h;rotate_left;exact h.elim
 rename_i b ver st lo hi;split at h;rotate_left;exact h.elim
 rename_i e v st' rows hb;split at h;rotate_left;exact h.elim
 rename_i fT;have fT:=Nat.eq_of_beq_eq_true fT;split at h;rotate_left;exact h.elim
 rename_i hst;have hst:=Nat.eq_of_beq_eq_true hst;subst hst;split at h;rotate_left;exact h.elim
 rename_i i hi';obtain⟨d,hd,iE⟩:=(hT t i hi').iO;split at h;rotate_left;exact h.elim
 rename_i et hte;have hd':P.underlying t=some (.slice et):=by
  rw[hte] at iE;cases d<;>simp[di] at iE
  subst iE;exact hd
 split at h;rotate_left;exact h.elim
 rename_i ei q9;have je:=hT _ _ q9;split at h;rotate_left;exact h.elim
 rename_i z hsz hz;have hsz:=Nat.eq_of_beq_eq_true hsz;have hz:=Pp hz;subst hz;have hb':=hH _ _ hb;have hre:=g.boxes b _ hb';simp only[aj,hb',aT] at hx;obtain⟨u0,hx,hok,rfl⟩:=hx;have hu:=hx.2.2 fT;subst hu;have hnone:hi-lo=0→(rows.take lo++(List.replicate (hi-lo) (ei.zero.map PV.sc)++rows.drop hi))=rows→lo≤hi →
   (∃p cap,jD st lo hi (bW R b rows.length)=.slice p 0 cap)→∃z w' q ws,(Builtin.clear_ #[t] ty #[jD st lo hi (bW R b rows.length)]).run P w=.ok z w'∧K q ws∧bD c R (s.app ws) a w'∧aj (aU c R (ws++s.hp)) w' (ws++s.hp) R q z:=by
  intro h0 hrows hle ⟨p,cap,hs⟩;rw[hrows] at h;refine⟨.tuple #[],w,_,_,?_,h,g.sameBox hb',?_⟩
  ·rw[hs];cases p<;>simp[Builtin.clear_,run_underlying hd']
  simp[aj,bG,eu]
 cases hn:R.nil b with
 | true=>
   have hr0:=qm hre hn;subst hr0;simp only[bW,hn,if_true,uq,List.length_nil] at hok;have h1:lo=0:=by omega
   have h2:hi=0:=by omega
   subst h1;subst h2;refine hnone rfl (by simp) (Nat.le_refl _) ⟨none,0,by simp[bW,hn,jD]⟩
 | false=>
   obtain⟨cur,hg,hs,hle,hm,hr,_⟩:=gM hre hn;simp only[bW,hn,Bool.false_eq_true,if_false,uq] at hok;by_cases hlh:hi=lo
   ·subst hlh;refine hnone (by omega) (by simp) (Nat.le_refl _) ⟨some (if (R.cap b).1=hi then ⟨R.blk b,0,none⟩ else (⟨R.blk b,0,none⟩:Addr).add (hi*st)),(R.cap b).1-hi,by simp[bW,hn,jD]⟩
   have hlt:lo<hi:=by omega
   obtain⟨zv,hz1,hz2,hz3⟩:=je.rf w;have Wm:zv.cells.size=st:=by have:=je.Wn;rw[←hz2] at this;rw[hsz];simpa using this
   have hcap:¬(R.cap b).1=lo:=by omega
   have hsub:jD st lo hi (bW R b rows.length)=.slice (some ⟨R.blk b,lo*st,none⟩) (hi-lo) ((R.cap b).1-lo):=by
    have hadd:(⟨R.blk b,0,none⟩:Addr).add (lo*st)=⟨R.blk b,lo*st,none⟩:=by by_cases h0:lo*st=0<;>simp[Addr.add,h0]
    simp only[bW,hn,jD,hcap,Bool.false_eq_true,if_false,hadd]
   have hzl:(Builtin.zeroCells zv.cells (hi-lo)).toList.length=(hi-lo)*st:=by simp[Builtin.zeroCells,Wm]
   have hmul:lo*st+(hi-lo)*st=hi*st:=by rw[←Nat.add_mul];congr 1;omega
   have hcs:hi*st≤cur.size:=by rw[hs];exact Nat.mul_le_mul_right _ (by omega)
   have acK:∀j,j<(hi-lo)*st→(Builtin.zeroCells zv.cells (hi-lo)).toList[j]? = (ei.zero)[j%st]? :=by
    intro j hj;have al5:0<st:=by
     rcases Nat.eq_zero_or_pos st with h0|h0
     ·rw[h0] at hj;simp at hj
     exact h0
    have hlt2:j%zv.cells.size<zv.cells.size:=Nat.mod_lt _ (by omega);have hmc:(Builtin.zeroCells zv.cells (hi-lo))[j]? = some (zv.cells[j%zv.cells.size]!):=by
     simp[Builtin.zeroCells,Wm,hj]
    rw[Array.getElem?_toList,hmc,getElem!_pos zv.cells _ hlt2,←hz2,Array.getElem?_toList,←Wm];exact (Array.getElem?_eq_getElem hlt2).symm
   have hone:∀u∈(Builtin.zeroCells zv.cells (hi-lo)).toList,u.oneCell'=true:=by
    intro u hu;obtain⟨j,hj,rfl⟩:=List.getElem_of_mem hu;have h1:=acK j (by rw[←hzl];exact hj);rw[List.getElem?_eq_getElem hj] at h1;have h2:=List.mem_of_getElem? h1.symm;exact List.all_eq_true.1 je.TG _ h2
   have hrun:=xV (P:=P) (w:=w) (e:=e) (cur:=cur) (Builtin.zeroCells zv.cells (hi-lo)).toList (lo*st) hg (by rw[hzl,hmul];exact hcs) hone;rw[hzl,hmul] at hrun;refine⟨.tuple #[],w.setRow (R.blk b) (cur.toList.take (lo*st)++(Builtin.zeroCells zv.cells (hi-lo)).toList++cur.toList.drop (hi*st)).toArray,_,_,?_,h,?_,by simp[aj,bG,eu]⟩
   ·rw[hsub];have hne:hi-lo≠0:=by omega
    obtain⟨k,hk⟩:∃k,hi-lo=k+1:=⟨hi-lo-1,by omega⟩;rw[hk] at hrun ⊢;simp only[Builtin.clear_,List.getElem?_toArray,List.getElem?_cons_zero,run_underlying hd',Sem.run_bind,Result.andThen_ok,hz1,hrun,Sem.run_pure]
   have hR:∀b',b'≠b→R.blk b'=R.blk b'∧R.nil b'=R.nil b'∧R.cap b'=R.cap b':=fun _ _=>⟨rfl,rfl,rfl⟩
   generalize hrows:(rows.take lo++(List.replicate (hi-lo) (ei.zero.map PV.sc)++rows.drop hi))=aQ;have hll:aQ.length=rows.length:=by rw[←hrows];simp;omega
   have r1:∀off v',aX R b off v' (lk s.hp b)→aX R b off v' (some (.arr e v st aQ)):=fun off v h=>by rw[hb'] at h;exact h
   have r2:∀ver v',aT R b ver v' (lk s.hp b)→aT R b ver v' (some (.arr e v st aQ)):=fun _ v h=>by rw[hb'] at h;simp only[aT,hll] at h ⊢;exact h
   have r3:∀ver i off v',aZ R b ver i off v' (lk s.hp b)→aZ R b ver i off v' (some (.arr e v st aQ)):=fun _ _ _ v h=>by rw[hb'] at h;exact h
   have hown:∀r,aN R b r (some (.arr e v st aQ))→aN R b r (lk s.hp b)∨w.heap.size≤r:=fun r h=>by rw[hb'];exact .inl h
   have hworld:nR (fun r=>aN R b r (lk s.hp b)) w (w.setRow (R.blk b) (cur.toList.take (lo*st)++(Builtin.zeroCells zv.cells (hi-lo)).toList++cur.toList.drop (hi*st)).toArray):=by
    refine (oZ w _ _).mono ?_;rintro r rfl
    rw[hb'];exact⟨hn,rfl⟩
   obtain⟨m1,m2,m3,m4,m5⟩:=g.JY hR r1 r2 r3 hown hworld;refine g.upd hR r1 r2 r3 hown hworld ?_;have hnew:bL (aU c R s.hp) w st aQ (cur.toList.take (lo*st)++(Builtin.zeroCells zv.cells (hi-lo)).toList++cur.toList.drop (hi*st)):=by
    rw[←hrows,List.append_assoc];have p1:bL (aU c R s.hp) w st (rows.take lo) (cur.toList.take (lo*st)):=by
     obtain⟨_,t2,_⟩:=fV (lS (i:=lo) hr);rw[List.length_take,Nat.min_eq_left (by omega)] at t2;exact t2
    have p2:bL (aU c R s.hp) w st (List.replicate (hi-lo) (ei.zero.map PV.sc)) (Builtin.zeroCells zv.cells (hi-lo)).toList:=
     Er (zs:=ei.zero) (Es je.TG) (by rw[List.length_map,je.Wn,hsz]) _ _ (by rw[hzl];exact Nat.le_refl _) acK
    have hlo:lo*st≤cur.size:=by have:=Nat.mul_le_mul_right st (show lo≤hi by omega);omega
    refine jF p1 (by rw[List.length_take,List.length_take,Nat.min_eq_left (by simpa using hlo),Nat.min_eq_left (by omega)]) (jF p2 (by rw[hzl];simp) (mF hi hr))
   have XC:(cur.toList.take (lo*st)++(Builtin.zeroCells zv.cells (hi-lo)).toList++cur.toList.drop (hi*st)).length=cur.size:=by
    simp only[List.length_append,hzl,List.length_take,List.length_drop,Array.length_toList];omega
   obtain⟨t1,t2,t3⟩:=fV (aW m1 m2 _ _ _ hnew);refine⟨_,?_,t2⟩;have hsl:bW R b aQ.length=.slice (some ⟨R.blk b,0,none⟩) rows.length ((R.cap b).1):=by simp[bW,hn,hll]
   rw[hsl,hll];rw[hll] at t1;refine⟨?_,.inr ⟨R.blk b,(R.cap b).1,_,rfl,Nat.zero_le _,setRow_heap w _ cur _ e _ hg,hle,hm,?_,by simp⟩⟩
   ·simp only[List.length_take];omega
   simp only[List.size_toArray,XC,hs]
end
def ve (f:AV→Option PV):List AV→Option (List PV)
 |[]=>some []
 | x::r=>match f x with
   | some p=>match ve f r with
     |some t=>some (p::t)
     |none=>none
   |none=>none
def XD (H:List (Nat×aD)):Nat→AV→Option PV
 |0,_=>none
 | n+1,x=>match x with
   |.pv p=>some p
   | .aF b ver=>match lk H b with
     | some (.dM e v st pre row post)=>match Nat.beq ver v with
       | true=>match ve (XD H n) row with
         |some ps=>some (.sl false st (pre++ps::post))
         |none=>none
       |false=>none
     | some (.fK e v st j ed sd pre row post)=>match Nat.beq ver v with
       | true=>match row with
         |[]=>some (.sl false st (pre.map (·.2)++post.map (·.2)))
         | _=>match ve (XD H n) row with
           |some ps=>some (.sl false st (pre.map (·.2)++ps::post.map (·.2)))
           |none=>none
       |false=>none
     |o=>uK o ver
   |.sub _ _ _ _ _=>some .junk
   |.bn _ _ _ _=>some .junk
   | .ptr b off=>match lk H b with
     | some (.var cells)=>match ve (XD H n) cells with
       |some ps=>some (.bU ps off)
       |none=>none
     |some (.sF cells)=>some (.bU cells off)
     |_=>none
   | .agg cs=>match ve (XD H n) cs with
     |some ps=>some (.agg ps)
     |none=>none
   | .dn cs=>match ve (XD H n) cs with
     |some ps=>some (.dn ps)
     |none=>none
   | .fn f a c=>match ve (XD H n) a,ve (XD H n) c with
     |some x,some y=>some (.fn f x y)
     |_,_=>none
section
variable {P:Program}{T:Tab}{c:Ctx}{R:Real}{s:AS}{a:Act}{w:World}
def H6:Nat→Prop:=fun _=>False
theorem Aj {f:AV→Option PV}{N:Nat→Prop}{hp:List (Nat×aD)}(hf:∀x p u,f x=some p→aj N w hp R x u→bG H6 w p u) :
  ∀{xs:List AV} {ps:List PV} {us:List Value},ve f xs=some ps→FL (aj N w hp R) xs us→FL (bG H6 w) ps us
 |[],ps,us,h,hx=>by simp only[ve,Option.some.injEq] at h;subst h;exact hx
 | x::xs,ps,us,h,hx=>by
   simp only[ve] at h;split at h
   ·rename_i p hp;split at h
    ·rename_i t ht;simp only[Option.some.injEq] at h;subst h;obtain⟨v,r,rfl,h1,h2⟩:=hx;exact⟨v,r,rfl,hf _ _ _ hp h1,Aj hf ht h2⟩
    cases h
   cases h
theorem Ak {f:AV→Option PV}{N:Nat→Prop}{hp:List (Nat×aD)}(hf:∀x p u,f x=some p→aj N w hp R x u→bG H6 w p u) :
  ∀{xs:List AV} {ps:List PV} {us:List Value},ve f xs=some ps→FC (aj N w hp R) xs us→FC (bG H6 w) ps us
 |[],ps,us,h,hx=>by simp only[ve,Option.some.injEq] at h;subst h;exact hx
 | x::xs,ps,us,h,hx=>by
   simp only[ve] at h;split at h
   ·rename_i p hp;split at h
    ·rename_i t ht;simp only[Option.some.injEq] at h;subst h;obtain⟨v,r,rfl,h0,h1,h2⟩:=hx;exact⟨v,r,rfl,h0,hf _ _ _ hp h1,Ak hf ht h2⟩
    cases h
   cases h
theorem rO {N:Nat→Prop}{st j:Nat}{ed:TypeId}{sd:Nat}:∀{hs:List (Option Value)} {rs:List (Bool×List PV)} {xs:List Value},dI N w st j ed sd hs rs xs→bL H6 w st (rs.map (·.2)) xs
 |[],[],xs,_=>by simp only[List.map_nil,bL]
 |[],_::_,xs,h=>by simp only[dI] at h
 |_::_,[],xs,h=>by simp only[dI] at h
 | h::hs,(fl,r)::rs,xs,hh=>by
   simp only[dI] at hh;obtain⟨h1,h2,h3⟩:=hh;simp only[List.map_cons,bL];refine⟨h1,?_,rO h3⟩;cases h with
   | none=>cases fl with
     |false=>exact bV (fun r _ h=>h.elim) (fun _ _ _=>rfl) _ _ h2
     |true=>exact h2.elim
   | some v=>cases fl with
     |false=>exact h2.elim
     | true=>
       obtain⟨rr,ys,a1,a0,a2,a3,a4⟩:=h2;have hv:bG H6 w (.sl false sd rr) v:=by
        obtain⟨q1,q2⟩:=a3;simp only[bG];rcases q2 with ⟨q2,q3⟩|⟨g',cap,cur,e1,_,hg,hle,hm,hs,ht⟩
        ·exact⟨none,0,0,q2,q3.symm,⟨Nat.le_refl _,by omega⟩,fun _=>⟨by trivial,by trivial⟩,fun ad ha=>by cases ha⟩
        refine⟨_,_,_,e1,rfl,⟨hle,by unfold maxLen at hm;omega⟩,fun hp=>(by cases hp),fun ad ha=>?_⟩;cases ha;refine .inr ⟨rfl,fun h=>h.elim,cur,_,_,hg,?_⟩;have a5:=aW (N':=H6) (fun r _ h=>h.elim) (fun _ _ _=>rfl) _ _ _ a4;have:=oW (cur.toList.drop (rr.length*sd)) a5;rw[←ht,List.take_append_drop] at this;simpa using this
       have a6:=bV (N':=H6) (fun r _ h=>h.elim) (fun _ _ _=>rfl) _ _ a2;have:∀(r:List PV) (j:Nat) (xs:List Value),r[j]? = some (.sl false sd rr)→fP H6 w (r.set j (.sc v)) xs→fP H6 w r xs:=by
        intro r;induction r with
        |nil=>intro j xs h _;simp at h
        | cons p r ih=>
          intro j xs h h';cases j with
          | zero=>
            simp only[List.getElem?_cons_zero,Option.some.injEq] at h;subst h;simp only[List.set_cons_zero,fP] at h' ⊢;obtain⟨u,t,e,b1,b2,b3⟩:=h';simp only[bG] at b2;subst b2;exact⟨u,t,e,b1,hv,b3⟩
          | succ j=>
            simp only[List.getElem?_cons_succ] at h;simp only[List.set_cons_succ,fP] at h' ⊢;obtain⟨u,t,e,b1,b2,b3⟩:=h';exact⟨u,t,e,b1,b2,ih j _ h b3⟩
       exact this r j xs a1 a6
theorem Al {N:Nat→Prop}{st:Nat}:∀{a b:List (List PV)} {xs:List Value},bL N w st a xs→bL N w st b (xs.drop (a.length*st))→bL N w st (a++b) xs
 |[],b,xs,_,h=>by simpa using h
 | x::a,b,xs,h,h'=>by
   simp only[List.cons_append,bL] at h ⊢;refine⟨h.1,h.2.1,Al h.2.2 ?_⟩;rw[List.drop_drop,show st+a.length*st=(x::a).length*st by rw[List.length_cons,Nat.succ_mul];omega];exact h'
theorem BM (g:bD c R s a w){H:List (Nat×aD)}(hH:∀b box,lk H b=some box→lk s.hp b=some box) :
  ∀(n:Nat) (x:AV) (p:PV) (u:Value),XD H n x=some p→aj (aU c R s.hp) w s.hp R x u→bG H6 w p u
 |0,x,p,u,h,_=>by simp[XD] at h
 | n+1,x,p,u,h,hx=>by
   have ih:=fun x p u=>BM g hH n x p u
   simp only[XD] at h;split at h
   ·simp only[Option.some.injEq] at h;subst h;simp only[aj] at hx;exact dA (fun r _ h=>h.elim) (fun _ _ _=>rfl) _ _ hx
   ·rename_i b ver;simp only[aj] at hx;split at h
    ·rename_i e v st pre row post hb;have hb':=hH _ _ hb;split at h
     ·rename_i fT;split at h
      ·rename_i ps hps;simp only[Option.some.injEq] at h;subst h;rw[hb'] at hx;have hu:=hx.2.2 (Nat.eq_of_beq_eq_true fT);subst hu;obtain⟨xs,k1,k2,k3,k4,k5⟩:=g.boxes b _ hb';have hFC:=(bI _ _ _ _ _ _).1 k4;have qL:=Ak ih hps hFC;have hl:(pre++ps::post).length=pre.length+(1+post.length):=by simp[Nat.add_comm]
       have hrows:bL H6 w st (pre++ps::post) xs:=by
        have mid:∀{pre:List (List PV)} {row:List PV} {post:List (List PV)} {xs:List Value},bL H6 w st pre xs→row.length=st→fP H6 w row (xs.drop (pre.length*st)) →
          bL H6 w st post ((xs.drop (pre.length*st)).drop st)→bL H6 w st (pre++row::post) xs:=by
         intro pre;induction pre with
         |nil=>intro row post xs h h1 h2 h3;simp only[List.nil_append,bL];exact⟨h1,by simpa using h2,by simpa using h3⟩
         | cons p pre ih=>
           intro row post xs h h1 h2 h3;simp only[bL] at h;obtain⟨a1,a2,a3⟩:=h;have e:xs.drop ((p::pre).length*st)=(xs.drop st).drop (pre.length*st):=by
            rw[List.drop_drop,show (p::pre).length*st=st+pre.length*st by rw[List.length_cons,Nat.add_mul];omega]
           rw[e] at h2 h3;simp only[List.cons_append,bL];exact⟨a1,a2,ih a3 h1 h2 h3⟩
        refine mid (aW (fun r _ h=>h.elim) (fun _ _ _=>rfl) _ _ _ k2) (by rw[←qL.length,hFC.length];exact k3) ?_ (aW (fun r _ h=>h.elim) (fun _ _ _=>rfl) _ _ _ k5);have:=(qL.fp).app ((xs.drop (pre.length*st)).drop st);rw[List.take_append_drop] at this;rw[cZ];exact this
       obtain⟨q1,q2⟩:=k1;simp only[bG];rcases q2 with ⟨q2,q3⟩|⟨g',cap,cur,e1,_,hg,hle,hm,hs,ht⟩
       ·omega
       refine⟨_,_,_,e1,hl.symm,⟨hle,by unfold maxLen at hm;omega⟩,fun hp=>(by cases hp),fun ad ha=>?_⟩;cases ha;refine .inr ⟨rfl,fun h=>h.elim,cur,_,_,hg,?_⟩;have:=oW (cur.toList.drop ((pre.length+(1+post.length))*st)) hrows;rw[←ht,List.take_append_drop] at this;simpa using this
      cases h
     cases h
    ·rename_i e v st j ed sd pre row post hb;have hb':=hH _ _ hb;split at h
     ·rename_i fT;rw[hb'] at hx;have hu:=hx.2.2 (Nat.eq_of_beq_eq_true fT);subst hu;obtain⟨xs,hs1,hs2,a1,k1,k2,k3,k4,k5,k6⟩:=g.boxes b _ hb';have fin:∀rows:List (List PV),rows.length=pre.length+(dH row+post.length)→bL H6 w st rows xs→bG H6 w (.sl false st rows) (bW R b (pre.length+(dH row+post.length))):=by
       intro rows hl hrows;obtain⟨q1,q2⟩:=k1;simp only[bG];rcases q2 with ⟨q2,q3⟩|⟨g',cap,cur,e1,_,hg,hle,hm,hs,ht⟩
       ·refine⟨none,0,0,q2,by omega,⟨Nat.le_refl _,by omega⟩,fun _=>⟨by trivial,by trivial⟩,fun ad ha=>by cases ha⟩
       refine⟨_,_,_,e1,hl.symm,⟨hle,by unfold maxLen at hm;omega⟩,fun hp=>(by cases hp),fun ad ha=>?_⟩;cases ha;refine .inr ⟨rfl,fun h=>h.elim,cur,_,_,hg,?_⟩;have:=oW (cur.toList.drop ((pre.length+(dH row+post.length))*st)) hrows;rw[←ht,List.take_append_drop] at this;simpa using this
      split at h
      ·simp only[Option.some.injEq] at h;subst h;refine fin _ (by simp[dH]) (Al (rO k2) ?_);rw[List.length_map];simpa[dH] using rO k5
      rename_i row' hne;split at h
      ·rename_i ps hps;simp only[Option.some.injEq] at h;subst h;have hFC:=(bI _ _ _ _ _ _).1 k4;have qL:=Ak ih hps hFC;have hO:dH row=1:=by cases row with|nil=>exact absurd rfl hne|cons _ _=>rfl
       rw[hO,Nat.one_mul] at k3 k5 qL hFC;refine fin _ (by rw[hO];simp[Nat.add_comm]) (Al (rO k2) ?_);simp only[bL,List.length_map];refine⟨by rw[←qL.length,hFC.length];exact k3,?_,rO k5⟩;have:=(qL.fp).app ((xs.drop (pre.length*st)).drop st);rw[List.take_append_drop] at this;rw[cZ];exact this
      cases h
     cases h
    rename_i o _ _;cases hb:lk H b with
    |none=>rw[hb] at h;cases h
    | some box=>
      rw[hb,←hH _ _ hb] at h;exact pG g h (fun r h=>h.elim) (fun r _ h=>h.elim) hx
   ·simp only[Option.some.injEq] at h;subst h;simp only[bG]
   ·simp only[Option.some.injEq] at h;subst h;simp only[bG]
   ·rename_i b off;simp only[aj] at hx;split at h
    ·rename_i cells hb;split at h
     ·rename_i ps hps;simp only[Option.some.injEq] at h;subst h;have hb':=hH _ _ hb;rw[hb'] at hx;simp only[aX] at hx;subst hx;obtain⟨cur,e,hg,hc⟩:=g.boxes b _ hb';rw[bI] at hc;have hc':=Ak ih hps hc;simp only[bG];refine⟨R.blk b,0,cur,e,(0,0),by simp,fun h=>h.elim,hg,?_⟩;rw[cZ];simpa using hc'.fp
     cases h
    ·rename_i cells hb;simp only[Option.some.injEq] at h;subst h;have hb':=hH _ _ hb;rw[hb'] at hx;exact CZ (N':=H6) g (b:=b) (off:=off) (by rw[hb'];rfl) (fun r h=>h.elim) (fun r _ h=>h.elim) (by rw[hb'];exact hx)
    cases h
   ·split at h
    ·rename_i ps hps;simp only[Option.some.injEq] at h;subst h;simp only[aj] at hx;obtain⟨vs,rfl,hx⟩:=hx;rw[bI] at hx;simp only[bG];refine⟨vs,rfl,?_⟩;rw[gG];exact Ak ih hps hx
    cases h
   ·split at h
    ·rename_i ps hps;simp only[Option.some.injEq] at h;subst h;simp only[aj] at hx;obtain⟨vs,rfl,hx⟩:=hx;rw[eZ] at hx;simp only[bG];refine⟨vs,rfl,?_⟩;rw[jG];exact Aj ih hps hx
    cases h
   split at h
   ·rename_i x y hx' hy';simp only[Option.some.injEq] at h;subst h;simp only[aj] at hx;obtain⟨fs,cs,rfl,h1,h2⟩:=hx;rw[eZ] at h1 h2;simp only[bG];refine⟨fs,cs,rfl,?_,?_⟩
    ·rw[jG];exact Aj ih hx' h1
    rw[jG];exact Aj ih hy' h2
   cases h
def RP (hp:List (Nat×aD))(vs:List AV):Bool:=
 match vs with
 | .pv _::args=>match j3 hp (dY args) with
   | some H=>match IC H args with
     |some _=>false
     |none=>true
   |none=>true
 |_=>true
def dC (P:Program)(hp:List (Nat×aD))(vs:List AV)(K:AV→List (Nat×aD)→List Nat→Prop):Prop:=
 match zX hp 100 (dY vs) [] with
 | ids=>match j3 hp ids with
   | some H=>match ve (XD H 9) vs with
     | some (.fn (.func f) first aR::ps)=>∃r,bE P f (first++(ps++aR)) r∧match DF r with
       |true=>K (.pv r) [] (dY vs++ids)
       |false=>False
     |_=>False
   |none=>False
theorem Am {hp:List (Nat×aD)}:∀{ids:List Nat} {H:List (Nat×aD)},j3 hp ids=some H→∀b box,lk H b=some box→lk hp b=some box
 |[],H,h=>by simp only[j3,Option.some.injEq] at h;subst h;intro b box hb;simp[lk] at hb
 | i::r,H,h=>by
   simp only[j3] at h;split at h
   ·rename_i bx hbx;split at h
    ·rename_i t ht;simp only[Option.some.injEq] at h;subst h;intro b box hb;rw[aB] at hb;split at hb
     ·rename_i e;simp only[Option.some.injEq] at hb;subst hb;first|(rw[←e];exact hbx)|(subst e;exact hbx)|simp_all
     exact Am ht b box hb
    cases h
   cases h
theorem WB (g:bD c R s a w){fv:AV}{args:List AV}{K:AV→List (Nat×aD)→List Nat→Prop}(h:dC P s.hp (fv::args) K)
  {u:Value} {us:List Value} (hf:aj (aU c R s.hp) w s.hp R fv u) (hv:FL (aj (aU c R s.hp) w s.hp R) args us) :
  ∃f first aR,u=.func (.func f) first aR∧Enters P f∧Calls P f (first++us.toArray++aR) w fun e w'=>∃v z ws ids R',e=.returned v∧K z ws ids∧bD c R' (s.app ws) a w' ∧
   aj (aU c R' (ws++s.hp)) w' (ws++s.hp) R' z v:=by
 unfold dC at h;simp only at h;split at h;rotate_left;exact h.elim
 rename_i H hH;have hH:=Am hH;split at h;rotate_left;exact h.elim
 rename_i f first aR ps hm
 obtain⟨r,hpc,h⟩:=h;simp only[ve] at hm;split at hm
 ·rename_i p hp;split at hm
  ·rename_i t ht;simp only[Option.some.injEq,List.cons.injEq] at hm;obtain⟨rfl,rfl⟩:=hm;have h1:=BM g hH 9 _ _ _ hp hf;simp only[bG] at h1;obtain⟨fs,cs,rfl,hf1,hf2⟩:=h1;have h2:=Aj (BM g hH 9) ht hv;refine⟨f,fs,cs,rfl,hpc.1,?_⟩;have hargs:eu H6 w (first++(t++aR)) (fs++us.toArray++cs).toList:=by
    rw[jG] at hf1 hf2 ⊢;have e:(fs++us.toArray++cs).toList=fs.toList++(us++cs.toList):=by simp
    rw[e];exact hf1.app (h2.app hf2)
   refine (hpc.2 H6 w _ (fun r h=>h.elim) hargs).mono ?_;rintro e w' ⟨v,r',rfl,rfl,hr,hsame⟩
   have g2:=g.grow hsame;split at h;rotate_left;exact h.elim
   rename_i hs;refine⟨v,_,[],_,R,rfl,h,g2,?_⟩;simp only[aj];exact zQ _ _ hs hr
  cases hm
 cases hm
end
def W1 (ro:Option Nat):Fence:={ Fence.wide with round:=ro }
theorem FO {ro:Option Nat}{n:Nat}{P:Program}{f:FuncId}{args:Array Value}{w:World}{R:Ending→World→Prop}(h:Calls P f args w R):CallsIn (W1 ro) n P f args w R:=
 (callsIn_wide (n:=n)).2 h
theorem U3 {n:Nat}{P:Program}{row:String}{args:Array Value}{w:World}{R:Value→World→Prop}(h:Rows P row args w R):RowsIn Fence.wide n P row args w R:=
 fun c cs _=>let ⟨v,w',r,s⟩:=h c cs;⟨v,w',r,stepsIn_wide.2 s⟩
theorem U4 {ro:Option Nat}{n:Nat}{P:Program}{row:String}{args:Array Value}{w:World}{R:Value→World→Prop}(h:Rows P row args w R):RowsIn (W1 ro) n P row args w R:=
 U3 (n:=n) h
theorem mK {P:Program}{o:Oper}{a:Act}{w:World}{next:Act→World→Prop}{Q:Exit→Act→World→Prop}(ro:Option Nat)(hnd:∀c,o.op ≠ .defer c)(h:o.wp P a w next Q) :
  o.wpIn (W1 ro) 0 P a w next Q:=by
 have he:Oper.semAt ro a.eval o=execOp a.eval o:=by
  cases ro with
  |none=>rfl
  |some l=>exact Oper.semAt_some l _ _ hnd
 refine⟨fun _ _=>trivial,?_⟩;show o.uponIn (W1 ro) 0 P a next Q ((Oper.semAt ro a.eval o).run P w)
 rw[he];unfold Oper.wp at h;generalize (execOp a.eval o).run P w=res at h;cases res with
 | ok x w'=>
   cases x<;>simp only[Oper.upon] at h<;>simp only[Oper.uponIn]<;>first
    |exact h
    |exact⟨fun e=>(by cases e),FO h⟩
    |exact⟨fun e=>(by cases e),U4 h⟩
    |exact h.elim
 |halt x w'=>cases x<;>simp only[Oper.upon] at h<;>simp only[Oper.uponIn]<;>exact h
theorem Bu:∀{vs:List AV} {ps:List PV},jf vs=some ps→vs=ps.map .pv
 |[],ps,h=>by simp only[jf,Option.some.injEq] at h;subst h;rfl
 | v::r,ps,h=>by
   cases v<;>simp only[jf] at h<;>try (cases h;done)
   split at h
   ·rename_i t ht;simp only[Option.some.injEq] at h;subst h;rw[Bu ht];rfl
   cases h
theorem vg {N:Nat→Prop}{w:World}{hp:List (Nat×aD)}{R:Real}:∀(ps:List PV) (xs:List Value),bQ N w hp R (ps.map .pv) xs→eu N w ps xs
 |[],xs,h=>by simpa only[List.map,bQ,eu] using h
 | p::ps,xs,h=>by
   simp only[List.map_cons,bQ,aj] at h;simp only[eu];obtain⟨v,r,e,h1,h2⟩:=h;exact⟨v,r,e,h1,vg ps r h2⟩
def isY (vs:List AV):Bool:=
 match vs with
 | v::_=>match v with
   | .pv p=>match p with
     | .fn f _ _=>match f with
       |.yield _=>true
       |_=>false
     |_=>false
   |_=>false
 |[]=>false
def yC (P:Program)(hp:List (Nat×aD))(vs:List AV)(K:AV→List (Nat×aD)→List Nat→Prop):Prop:=
 match vs with
 | .pv (.fn (.yield l) [] [])::args=>match lk hp 999 with
   | some (.tr y ver rest st)=>match st with
     | some b=>match b with
       | false=>match jf args with
         |some ps=>y=(P,l)∧∃x r,rest=x::r∧jB x ps∧K (.bn 999 (ver+1) 0 0) [(999,.tr y (ver+1) r none)] [999]
         |none=>False
       |true=>False
     |none=>False
   |_=>False
 |_=>False
section
variable {P:Program}{c:Ctx}{R:Real}{s:AS}{a:Act}{w:World}
def lu (c:Ctx)(R:Real)(hp:List (Nat×aD))(r:Nat):Prop:=aU c R hp r∧¬R.Y.D r
def yR (R:Real)(b:Bool)(Z D:Nat→Prop)(w:World):Real:=
 { R with nil:=fun b'=>if b'=999 then b else R.nil b',Y:={ R.Y with Z:=Z,D:=D,wy:=w } }
theorem bD.yielded (g:bD c R s a w){y:Program×Nat}{ver:Nat}{rest r:List (List PV)}{w':World}{D':Nat→Prop}{b:Bool}
  (h9:lk s.hp 999=some (.tr y ver rest (some false))) (hE:nR R.Y.D w w') (hD1:∀r,D' r→R.Y.D r∨w.heap.size≤r) (hD2:∀r,D' r→r<w'.heap.size)
  (hJ:R.Y.n0.2 r (!b) (lu c R s.hp) D' w') :
  bD c (yR R b (lu c R s.hp) D' w') (s.app [(999,.tr y (ver+1) r none)]) a w' ∧
   aj (aU c (yR R b (lu c R s.hp) D' w') ((999,.tr y (ver+1) r none)::s.hp)) w' ((999,.tr y (ver+1) r none)::s.hp) (yR R b (lu c R s.hp) D' w') (.bn 999 (ver+1) 0 0) (.bool b):=by
 generalize hbx:aD.tr y (ver+1) r none=bH;obtain⟨R',hR'⟩:∃R',R'=yR R b (lu c R s.hp) D' w':=⟨_,rfl⟩;rw[←hR'];have k:=g.boxes 999 _ h9;obtain⟨-,kh,k1,k2,k3,k4⟩:=k;have uU:lk ((999,bH)::s.hp) 999=some bH:=by rw[aB,if_pos rfl]
 have sS:∀b',b'≠999→lk ((999,bH)::s.hp) b'=lk s.hp b':=fun b' h=>by rw[aB,if_neg (fun e=>h e.symm)]
 have hR:∀b',b'≠999→R'.blk b'=R.blk b'∧R'.nil b'=R.nil b'∧R'.cap b'=R.cap b':=fun b' h=>by subst hR';simp[yR,h]
 have hRY:R'.Y={ R.Y with Z:=lu c R s.hp,D:=D',wy:=w' }:=by subst hR';rfl
 have agE:∀r,aN R 999 r (lk s.hp 999)=R.Y.D r:=fun r=>by rw[h9];rfl
 have acN:∀r,aN R' 999 r (some bH)=D' r:=fun r=>by subst hbx;simp only[aN,hRY]
 have ntr:∀b' box,b'≠999→lk s.hp b'=some box→∀x1 x2 x3 x4,box ≠ .tr x1 x2 x3 x4:=by
  rintro b' box hne hb x1 x2 x3 x4 rfl
  exact hne (g.boxes b' _ hb).1
 have U5:∀b' r,b'≠999→aN R' b' r (lk s.hp b')→aN R b' r (lk s.hp b'):=by
  intro b' q hne h;cases hb:lk s.hp b' with
  |none=>rw[hb] at h;exact h.elim
  | some box=>
    rw[hb] at h;have hn:=ntr b' box hne hb;obtain⟨e1,e2,e3⟩:=hR b' hne;cases box<;>simp only[aN,e1,e2,e3] at h ⊢ <;> first
     |exact h
     |exact absurd rfl (hn _ _ _ _)
 have ama:∀b' r,b'≠999→aN R b' r (lk s.hp b')→aN R' b' r (lk s.hp b'):=by
  intro b' q hne h;cases hb:lk s.hp b' with
  |none=>rw[hb] at h;exact h.elim
  | some box=>
    rw[hb] at h;have hn:=ntr b' box hne hb;obtain⟨e1,e2,e3⟩:=hR b' hne;cases box<;>simp only[aN,e1,e2,e3] at h ⊢ <;> first
     |exact h
     |exact absurd rfl (hn _ _ _ _)
 have hworld:nR (fun r=>aN R 999 r (lk s.hp 999)) w w':=hE.mono fun r h=>by rw[agE];exact h
 have hown:∀r,aN R' 999 r (some bH)→aN R 999 r (lk s.hp 999)∨w.heap.size≤r:=fun r h=>by rw[acN] at h;rw[agE];exact hD1 r h
 have Kn:∀r,owned R' ((999,bH)::s.hp) r→owned R s.hp r∨w.heap.size≤r:=by
  rintro r ⟨b',h⟩
  by_cases e:b'=999
  ·subst e;rw[uU] at h;exact (hown r h).imp (fun x=>⟨999,x⟩) id
  rw[sS b' e] at h;exact .inl ⟨b',U5 b' r e h⟩
 have hN:∀r,r<w.heap.size→aU c R' ((999,bH)::s.hp) r→aU c R s.hp r:=by
  rintro r hr (h|h)
  ·exact .inl h
  exact .inr ((Kn r h).resolve_right (by omega))
 have hw:∀r,r<w.heap.size→¬aU c R s.hp r→w'.heap[r]? = w.heap[r]? :=fun r hr hn=>hworld.keep r hr fun x=>hn (.inr ⟨999,x⟩)
 have p1:∀b' off v,aX R b' off v (lk s.hp b')→aX R' b' off v (lk ((999,bH)::s.hp) b'):=fun b' off v h=>by
  by_cases e:b'=999
  ·subst e;rw[h9] at h;exact h.elim
  rw[sS b' e];exact jT (hR b' e) h
 have p2:∀b' ver v,aT R b' ver v (lk s.hp b')→aT R' b' ver v (lk ((999,bH)::s.hp) b'):=fun b' ver v h=>by
  by_cases e:b'=999
  ·subst e;rw[h9] at h;exact h.elim
  rw[sS b' e];exact lF (hR b' e) h
 have p3:∀b' ver i off v,aZ R b' ver i off v (lk s.hp b')→aZ R' b' ver i off v (lk ((999,bH)::s.hp) b'):=fun b' ver i off v h=>by
  by_cases e:b'=999
  ·subst e;rw[h9] at h;rw[uU];subst hbx;simp only[aZ] at h ⊢;exact⟨by omega,h.2.1,fun e=>by omega⟩
  rw[sS b' e];exact lG (hR b' e) h
 have hwo:∀r,r<w.heap.size→¬owned R s.hp r→w'.heap[r]? = w.heap[r]? :=fun r hr hn=>hworld.keep r hr fun x=>hn ⟨999,x⟩
 have IW:∀r,r<w.heap.size→owned R' ((999,bH)::s.hp) r→owned R s.hp r:=fun r hr h=>(Kn r h).resolve_right (by omega)
 refine⟨⟨?_,g.size,⟨by rw[hRY];exact g.lo.1,g.lo.2.1,Nat.le_trans g.lo.2.2 hE.size⟩,g.marks.imp fun Ds h=>h.kept hwo IW,g.fixed.kept hwo IW,?_,?_,?_,?_,?_,fun v x h=>bX hN hw p1 p2 p3 v x (g.kept v x h)⟩,?_⟩
 ·intro t v h;obtain⟨x,hx,hv⟩:=g.slots t v h;exact⟨x,hx,bX hN hw p1 p2 p3 v x hv⟩
 ·intro b' box h;by_cases e:b'=999
  ·subst e;simp only[AS.app,List.singleton_append,uU,Option.some.injEq] at h;subst h;subst hbx;simp only[eG,hRY];refine⟨trivial,kh,?_,JX.refl _ _ _ _,hD2,fun q hn=>?_⟩
   ·have:R'.nil 999=b:=by subst hR';simp[yR]
    rw[this];exact hJ
   rcases hn with hn|⟨b2,ho⟩
   ·refine .inr (.inl ⟨.inl hn,fun hd=>?_⟩);exact g.free q ⟨999,by rw[h9];exact hd⟩ hn
   simp only[AS.app,List.singleton_append] at ho;by_cases e2:b2=999
   ·subst e2;rw[uU,acN] at ho;exact .inl ho
   rw[sS b2 e2] at ho;have ho':=U5 b2 q e2 ho;exact .inr (.inl ⟨.inr ⟨b2,ho'⟩,fun hd=>e2 (g.inj b2 999 q ho' (by rw[h9];exact hd))⟩)
  simp only[AS.app,List.singleton_append,sS b' e] at h;have hr:=g.boxes b' box h;have hRb:=hR b' e;have hkeep:∀r,aN R b' r (lk s.hp b')→w'.heap[r]? = w.heap[r]? :=fun r ho=>
   hworld.keep r (g.kz ho) fun x=>e (g.inj b' 999 r ho x)
  rw[h] at hkeep;cases box with
  | var cells=>
    obtain⟨cur,e',h8,h9⟩:=hr;refine⟨cur,e',?_,bK hN hw p1 p2 p3 _ _ h9⟩;rw[hRb.1,hkeep _ rfl];exact h8
  | sF cells=>
    obtain⟨cur,e',fr,h8,h7,h9⟩:=hr;have hs:=size_of_getElem? h8;refine⟨cur,e',fr,?_,?_,bV hN hw _ _ h9⟩
    ·rw[hRb.1,hw _ hs h7];exact h8
    rw[hRb.1];exact fun x=>h7 (hN _ hs x)
  | arr e' ver st rows=>
    obtain⟨xs,h8,h9⟩:=hr;refine⟨xs,?_,aW hN hw _ _ _ h9⟩;rw[jo hRb];refine dD h8 fun k hk=>hkeep k ?_
    simp only[bW] at hk;cases hnil:R.nil b' with
    |true=>simp[hnil,Value.ownBlock] at hk
    |false=>simp[hnil,Value.ownBlock] at hk;exact⟨hnil,hk⟩
  | kG ver st rows=>
    simp only[eG,jo hRb] at hr ⊢;exact dA hN hw _ _ hr
  |tr _ _ _ _=>exact absurd rfl (ntr b' _ e h _ _ _ _)
  | mp kk kv es=>
    obtain⟨cur,clock,h8,h9,h10⟩:=hr;exact⟨cur,clock,by rw[hRb.1,hkeep _ ⟨h9,rfl⟩];exact h8,by rw[hRb.2.1];exact h9,h10⟩
  |fK e' ver st j ed sd pre row post=>exact jJ hN hw hRb.1 hRb.2.1 hRb.2.2 (fun k hk=>hkeep k hk) rfl (fun vs h=>bK hN hw p1 p2 p3 _ _ h) hr
  | dM e' ver st pre row post=>
    obtain⟨xs,h8,h9,h10,h11,h12⟩:=hr;refine⟨xs,?_,aW hN hw _ _ _ h9,h10,bK hN hw p1 p2 p3 _ _ h11,aW hN hw _ _ _ h12⟩;rw[jo hRb];refine dD h8 fun k hk=>hkeep k ?_
    simp only[bW] at hk;cases hnil:R.nil b' with
    |true=>simp[hnil,Value.ownBlock] at hk
    |false=>simp[hnil,Value.ownBlock] at hk;exact⟨hnil,hk⟩
 ·intro b1 b2 q h1 h2;simp only[AS.app,List.singleton_append] at h1 h2;by_cases e1:b1=999
  ·by_cases e2:b2=999
   ·rw[e1,e2]
   subst e1;simp only[uU,sS b2 e2] at h1 h2;have h2':=U5 b2 q e2 h2;have hlt:=g.kz h2';exact g.inj _ _ q ((hown q h1).resolve_right (by omega)) h2'
  by_cases e2:b2=999
  ·subst e2;simp only[uU,sS b1 e1] at h1 h2;have h1':=U5 b1 q e1 h1;have hlt:=g.kz h1';exact g.inj _ _ q h1' ((hown q h2).resolve_right (by omega))
  simp only[sS b1 e1,sS b2 e2] at h1 h2;exact g.inj _ _ q (U5 b1 q e1 h1) (U5 b2 q e2 h2)
 ·intro q h hF;rcases Kn q h with h|h
  ·exact g.free q h hF
  have:=c.hF q hF;have:=g.jE.size;omega
 ·refine g.jE.trans hworld fun q hr ho=>?_
  exact (g.iN q ⟨999,ho⟩).resolve_right (by omega)
 ·intro q h;rcases Kn q h with h|h
  ·exact g.iN q h
  exact .inr (Nat.le_trans g.jE.size h)
 simp only[aj,uU];subst hbx;simp only[aZ];have:R'.nil 999=b:=by subst hR';simp[yR]
 exact⟨Nat.le_refl _,rfl,fun _ _=>by rw[this];cases b<;>rfl⟩
end
section
variable {P:Program}{T:Tab}{c:Ctx}
theorem bD.congr {R:Real}{tm tm':List (Nat×AV)}{nx:Nat}{hp hp':List (Nat×aD)}{a:Act}{w:World}(g:bD c R ⟨tm,nx,hp⟩ a w)
  (ht:∀t,lk tm' t=lk tm t) (hh:∀b,lk hp' b=lk hp b):bD c R ⟨tm',nx,hp'⟩ a w:=by
 have ho:∀r,owned R hp' r↔owned R hp r:=fun r=>by simp only[owned,hh]
 have hN:∀r,r<w.heap.size→aU c R hp' r→aU c R hp r:=fun r _ h=>h.imp id (ho r).1
 have Yf:∀r,¬aU c R hp r→¬aU c R hp' r:=fun r h h'=>h (h'.imp id (ho r).1)
 have hw:∀r,r<w.heap.size→¬aU c R hp r→w.heap[r]? = w.heap[r]? :=fun _ _ _=>rfl
 have h1:∀b off v,aX R b off v (lk hp b)→aX R b off v (lk hp' b):=fun b off v h=>by rw[hh];exact h
 have h2:∀b ver v,aT R b ver v (lk hp b)→aT R b ver v (lk hp' b):=fun b ver v h=>by rw[hh];exact h
 have h3:∀b ver i off v,aZ R b ver i off v (lk hp b)→aZ R b ver i off v (lk hp' b):=fun b ver i off v h=>by rw[hh];exact h
 refine⟨fun t v hv=>?_,g.size,g.lo,g.marks.imp fun Ds hm=>hm.kept (fun _ _ _=>rfl) (fun r _ h=>(ho r).1 h),g.fixed.kept (fun _ _ _=>rfl) (fun r _ h=>(ho r).1 h),fun b box hb=>?_,fun b b' r hb hb'=>?_,fun r hr=>g.free r ((ho r).1 hr),g.jE,fun r hr=>g.iN r ((ho r).1 hr),fun v x h=>bX hN hw h1 h2 h3 v x (g.kept v x h)⟩
 ·obtain⟨x,hx,hr⟩:=g.slots t v (by rw[←ht];exact hv);exact⟨x,hx,bX hN hw h1 h2 h3 v x hr⟩
 ·have hr:=g.boxes b box (by rw[←hh];exact hb);cases box with
  | var cells=>
    simp only[eG] at hr ⊢;obtain⟨cur,e,ha,hb⟩:=hr;exact⟨cur,e,ha,bK hN hw h1 h2 h3 cells _ hb⟩
  | sF cells=>
    simp only[eG] at hr ⊢;obtain⟨cur,e,fr,ha,hn,hb⟩:=hr;exact⟨cur,e,fr,ha,Yf _ hn,bV hN hw cells _ hb⟩
  | arr e ver st rows=>
    simp only[eG] at hr ⊢;obtain⟨xs,ha,hb⟩:=hr;exact⟨xs,ha,aW hN hw st rows xs hb⟩
  | kG ver st rows=>
    simp only[eG] at hr ⊢;exact dA hN hw _ _ hr
  | tr y ver rest st=>
    obtain⟨k0,kh,k1,k2,k3,k4⟩:=hr;exact⟨k0,kh,k1,k2,k3,fun r hn=>k4 r (hn.imp id (ho r).1)⟩
  |fK e' ver st j ed sd pre row post=>exact jJ hN hw rfl rfl rfl (fun k _=>rfl) rfl (fun vs h=>bK hN hw h1 h2 h3 _ _ h) hr
  |mp kk kv es=>exact hr
  | dM e' ver st pre row post=>
    obtain⟨xs,h8,h9,h10,h11,h12⟩:=hr;exact⟨xs,h8,aW hN hw _ _ _ h9,h10,bK hN hw h1 h2 h3 _ _ h11,aW hN hw _ _ _ h12⟩
 simp only[hh] at hb hb';exact g.inj b b' r hb hb'
end
def NU (ids:List Nat)(hp:List (Nat×aD)):List (Nat×aD)→Prop→Prop
 |[],X=>X
 |(b,box)::r,X=>EF b ids=true∧(lk hp b=some box∧NU ids hp r X)
theorem yP {ids:List Nat}{hp:List (Nat×aD)}:∀{ws:List (Nat×aD)} {X:Prop},NU ids hp ws X→X∧∀b,lk (ws++hp) b=lk hp b
 |[],X,h=>⟨h,fun _=>rfl⟩
 | (b,box)::r,X,h=>by
   obtain⟨h1,h2,h3⟩:=h;obtain⟨h4,h5⟩:=yP h3;refine⟨h4,fun k=>?_⟩;rw[List.cons_append,aB];split
   ·rename_i e;rw[←e];exact h2.symm
   exact h5 k
theorem NV {x:Nat}:∀{l:List Nat},EF x l=true→x∈l
 |[],h=>by simp[EF] at h
 | y::r,h=>by
   unfold EF at h;split at h
   ·rename_i e;have e:=Nat.eq_of_beq_eq_true e;simp[e]
   exact List.mem_cons_of_mem _ (NV h)
theorem CQ {ids:List Nat}{hp hp':List (Nat×aD)}(hb:∀b∈ids,lk hp' b=lk hp b):∀{ws:List (Nat×aD)} {X Y:Prop},NU ids hp ws X→Y→NU ids hp' ws Y
 |[],X,Y,h,hy=>hy
 |(b,box)::r,X,Y,h,hy=>⟨h.1,(hb b (NV h.1)).trans h.2.1,CQ hb h.2.2 hy⟩
def gV (P:Program)(hp:List (Nat×aD))(id:Nat)(vs:List AV)(K:AV→List (Nat×aD)→List Nat→Prop):Prop:=
 gC P hp id vs fun r ws ids=>NU ids hp ws (K r [] ids)
def uw (T:Tab)(H:List (Nat×aD))(t:TypeId)(vs:List AV)(id:Nat)(K:AV→List (Nat×aD)→Prop):Prop:=
 match vs with
 | [.sub b ver st lo hi,x]=>match lk T t with
   | some i=>match i.d with
     | .slt e=>match lk T e with
       | some ei=>match lQ H st x with
         | some aQ=>match lk H b with
           | some (.arr e' v st' rows)=>match Nat.beq ver v,Nat.beq st st',Nat.beq st ei.size,Nat.beq e' e,Nat.beq lo 0 with
             |true,true,true,true,true=>hi+aQ.length≤rows.length∧K (.sub b ver st 0 (hi+aQ.length)) [(b,.arr e' v st' (rows.take hi++(aQ++rows.drop (hi+aQ.length))))]
             |_,_,_,_,_=>False
           |_=>False
         |none=>False
       |none=>False
     |_=>False
   |none=>False
 |_=>uL T H t vs id K
section
variable {P:Program}{T:Tab}{c:Ctx}{R:Real}{s:AS}{a:Act}{w:World}
theorem ql (g:bD c R s a w)(hT:bP P T){H:List (Nat×aD)}(hH:∀b box,lk H b=some box→lk s.hp b=some box){id:Nat}(hf:lk s.hp id=none)
  {t ty:TypeId} {d x:AV} {K:AV→List (Nat×aD)→Prop} (h:uw T H t [d,x] id K) {u v:Value} (hd:aj (aU c R s.hp) w s.hp R d u) (hx:aj (aU c R s.hp) w s.hp R x v) :
  ∃y w' R' z ws,(Builtin.append_ #[t,t] ty #[u,v]).run P w=.ok y w'∧K z ws∧bD c R' (s.app ws) a w'∧aj (aU c R' (ws++s.hp)) w' (ws++s.hp) R' z y:=by
 unfold uw at h;split at h
 ·rename_i b ver st lo hi x' heq;simp only[List.cons.injEq,and_true] at heq;obtain⟨rfl,rfl⟩:=heq;split at h;rotate_left;exact h.elim
  rename_i i hi';obtain⟨dd,hdd,iE⟩:=(hT t i hi').iO;split at h;rotate_left;exact h.elim
  rename_i e hte;have ht:P.underlying t=some (.slice e):=by
   rw[hte] at iE;cases dd<;>simp[di] at iE
   subst iE;exact hdd
  split at h;rotate_left;exact h.elim
  rename_i ei q9;have je:=hT _ _ q9;obtain⟨ti,zv,hinfo,hsz,hby,hzero,hzc⟩:=je.Em;split at h;rotate_left;exact h.elim
  rename_i aQ hsrc;obtain⟨p,len,cap,rfl,rfl,hlc,hpn,hps⟩:=Iz g hH hsrc hx;split at h;rotate_left;exact h.elim
  rename_i e' vr st' rows hb;have hb':=hH _ _ hb;split at h;rotate_left;exact h.elim
  rename_i fT hst Kz he hlo;have fT:=Nat.eq_of_beq_eq_true fT;have hst:=Nat.eq_of_beq_eq_true hst;have Kz:=Nat.eq_of_beq_eq_true Kz;have he:=Nat.eq_of_beq_eq_true he;have hlo:=Nat.eq_of_beq_eq_true hlo;subst fT;subst hst;subst he;subst hlo;obtain⟨hbd,hK⟩:=h;have hre:=g.boxes b _ hb';simp only[aj,hb',aT] at hd;obtain⟨u0,hu0,hok,rfl⟩:=hd;have hu:=hu0.2.2 (by trivial);subst hu;by_cases hz:aQ.length=0
  ·have he:aQ=[]:=List.eq_nil_of_length_eq_zero hz;subst he;have acY:∃p0 l0 c0,jD st 0 hi (bW R b rows.length)=.slice p0 l0 c0∧l0≤c0:=by
    cases hn:R.nil b with
    |true=>exact⟨none,0,0,by simp[bW,hn,jD],Nat.le_refl _⟩
    | false=>
      obtain⟨cur,hg,hs,hle,hm,hr,_⟩:=gM hre hn;simp only[bW,hn,Bool.false_eq_true,if_false,uq] at hok;have hsv:jD st 0 hi (bW R b rows.length)=.slice (some (if (R.cap b).1=0 then ⟨R.blk b,0,none⟩ else (⟨R.blk b,0,none⟩:Addr).add (0*st))) (hi-0) ((R.cap b).1-0):=by simp only[bW,hn,Bool.false_eq_true,if_false,jD]
      exact⟨_,_,_,hsv,by omega⟩
   obtain⟨p0,l0,c0,e1,e2⟩:=acY;have hrun:=mG (P:=P) (w:=w) (ty:=ty) ht je p0 p l0 c0 cap e2;rw[←e1] at hrun;simp only[List.length_nil,Nat.add_zero,List.nil_append,List.take_append_drop] at hK;refine⟨_,w,R,_,_,hrun,hK,g.sameBox hb',?_⟩;simp only[aj,List.cons_append,List.nil_append,aB,if_true,aT];exact⟨_,hu0,hok,rfl⟩
  cases p with
  |none=>exact absurd (by rw[hpn rfl];rfl) hz
  | some ad=>
    obtain⟨news,n1,n2,n3,n4⟩:=hps ad rfl;have hn:R.nil b=false:=by
     cases hn:R.nil b with
     |false=>rfl
     | true=>
       have:=qm hre hn;subst this;simp only[List.length_nil] at hbd;omega
    obtain⟨cur,hg,hs,hle,hm,hr,_⟩:=gM hre hn;simp only[bW,hn,Bool.false_eq_true,if_false,uq] at hok;have hadd:(⟨R.blk b,0,none⟩:Addr).add (0*st)=⟨R.blk b,0,none⟩:=by simp[Addr.add]
    have hsub:∀k,jD st 0 k (bW R b rows.length)=.slice (some ⟨R.blk b,0,none⟩) k ((R.cap b).1):=by
     intro k;simp only[bW,hn,jD,Bool.false_eq_true,if_false,hadd,Nat.sub_zero];split<;>rfl
    have hroom:hi+aQ.length≤(R.cap b).1:=by omega
    have hmul:hi*st+aQ.length*st=(hi+aQ.length)*st:=by rw[Nat.add_mul]
    have hcs:(hi+aQ.length)*st≤cur.size:=by rw[hs];exact Nat.mul_le_mul_right _ hroom
    have hfit:hi*st+news.length≤cur.size:=by rw[n1,hmul];exact hcs
    have hrun:=run_append_room (P:=P) w t ty e' ti ht hinfo (R.blk b) hi ((R.cap b).1) cur hg ad aQ.length cap news (by rw[hsz,n1,Kz]) n2 n3 hroom (by rw[hsz,←Kz];exact hfit);rw[hsz,←Kz] at hrun;have hR:∀b',b'≠b→R.blk b'=R.blk b'∧R.nil b'=R.nil b'∧R.cap b'=R.cap b':=fun _ _=>⟨rfl,rfl,rfl⟩
    generalize hrows:(rows.take hi++(aQ++rows.drop (hi+aQ.length)))=Fj at hK;have hll:Fj.length=rows.length:=by rw[←hrows];simp;omega
    have r1:∀off v',aX R b off v' (lk s.hp b)→aX R b off v' (some (.arr e' ver st Fj)):=fun off v h=>by rw[hb'] at h;exact h
    have r2:∀pI v',aT R b pI v' (lk s.hp b)→aT R b pI v' (some (.arr e' ver st Fj)):=fun _ v h=>by rw[hb'] at h;simp only[aT,hll] at h ⊢;exact h
    have r3:∀pI i off v',aZ R b pI i off v' (lk s.hp b)→aZ R b pI i off v' (some (.arr e' ver st Fj)):=fun _ _ _ v h=>by rw[hb'] at h;exact h
    have hown:∀r,aN R b r (some (.arr e' ver st Fj))→aN R b r (lk s.hp b)∨w.heap.size≤r:=fun r h=>by rw[hb'];exact .inl h
    have hworld:nR (fun r=>aN R b r (lk s.hp b)) w (w.setRow (R.blk b) (cur.toList.take (hi*st)++news++cur.toList.drop (hi*st+news.length)).toArray):=by
     refine (oZ w _ _).mono ?_;rintro r rfl
     rw[hb'];exact⟨hn,rfl⟩
    obtain⟨m1,m2,m3,m4,m5⟩:=g.JY hR r1 r2 r3 hown hworld;refine⟨_,_,R,_,_,by rw[hsub];exact hrun,hK,g.upd hR r1 r2 r3 hown hworld ?_,?_⟩
    ·have hnew:bL (aU c R s.hp) w st Fj (cur.toList.take (hi*st)++news++cur.toList.drop (hi*st+news.length)):=by
      rw[←hrows,List.append_assoc];have p1:bL (aU c R s.hp) w st (rows.take hi) (cur.toList.take (hi*st)):=by
       obtain⟨_,t2,_⟩:=fV (lS (i:=hi) hr);rw[List.length_take,Nat.min_eq_left (by omega)] at t2;exact t2
      refine jF p1 (by rw[List.length_take,List.length_take,Nat.min_eq_left (by simp;omega),Nat.min_eq_left (by omega)]) (jF n4 n1 ?_);rw[n1,hmul];exact mF (hi+aQ.length) hr
     have XC:(cur.toList.take (hi*st)++news++cur.toList.drop (hi*st+news.length)).length=cur.size:=by
      simp only[List.length_append,List.length_take,List.length_drop,Array.length_toList];omega
     obtain⟨t1,t2,t3⟩:=fV (aW m1 m2 _ _ _ hnew);refine⟨_,?_,t2⟩;have hsl:bW R b Fj.length=.slice (some ⟨R.blk b,0,none⟩) rows.length ((R.cap b).1):=by simp[bW,hn,hll]
     rw[hsl,hll];rw[hll] at t1;refine⟨?_,.inr ⟨R.blk b,(R.cap b).1,_,rfl,Nat.zero_le _,setRow_heap w _ cur _ e' _ hg,hle,hm,?_,by simp⟩⟩
     ·simp only[List.length_take];omega
     simp only[List.size_toArray,XC,hs]
    simp only[aj,List.cons_append,List.nil_append,aB,if_true,aT];refine⟨bW R b rows.length,⟨Nat.le_refl _,hu0.2.1,fun _=>by rw[hll]⟩,?_,by rw[hsub]⟩;simp only[bW,hn,Bool.false_eq_true,if_false,uq];omega
 exact sI g hT hH hf h hd hx
def IQ (T:Tab)(H:List (Nat×aD))(t:TypeId)(lo hi mx:Option Operand)(b ver st l0:Nat)(r:List AV)(K:AV→List (Nat×aD)→Prop):Prop:=
 match lk H b with
 | some (.arr e v st' rows)=>match Nat.beq ver v,Nat.beq l0 0,isNone mx with
   | true,true,true=>match lk T t with
     | some i=>match i.d with
       | .slt et=>match lk T et with
         | some ei=>match Nat.beq st ei.size,Nat.beq st st' with
           | true,true=>match DT lo r with
             | some (some l,r1)=>match DT hi r1 with
               |some (some h,_)=>0≤h∧h≤rows.length∧0≤l∧l≤h∧K (.sub b ver st l.toNat h.toNat) []
               |_=>False
             |_=>False
           |_,_=>False
         |none=>False
       |_=>False
     |none=>False
   |_,_,_=>False
 |_=>False
def IU (T:Tab)(H:List (Nat×aD))(t:TypeId)(lo hi mx:Option Operand)(b ver:Nat)(r:List AV)(K:AV→List (Nat×aD)→Prop):Prop:=
 match lk H b with
 | some (.arr e v st rows)=>match Nat.beq ver v with
   | true=>match lk T t with
     | some i=>match i.d with
       | .slt et=>match lk T et with
         | some ei=>match DT lo r with
           | some (some l,r1)=>match DT hi r1 with
             | some (some h,r2)=>match DT mx r2 with
               |some (some m,_)=>0≤m∧m≤rows.length∧0≤h∧h≤m∧0≤l∧l≤h∧K (.pv .junk) []
               |_=>False
             |_=>False
           |_=>False
         |none=>False
       |_=>False
     |none=>False
   |false=>False
 |_=>False
def qd (T:Tab)(H:List (Nat×aD))(t:TypeId)(lo hi mx:Option Operand)(vs:List AV)(K:AV→List (Nat×aD)→Prop):Prop:=
 match afV T with
 |false=>oq T H t lo hi mx vs K
 | true=>match vs with
   |.sub b ver st l0 _::r=>IQ T H t lo hi mx b ver st l0 r K
   | .aF b ver::r=>match isNone mx with
     |true=>oq T H t lo hi mx vs K
     |false=>IU T H t lo hi mx b ver r K
   |_=>oq T H t lo hi mx vs K
theorem Qs {P:Program}{w:World}{len len' cap:Nat}{lo hi mx:Option Value}(h:hi.isSome=true):(Instr.sliceBounds true len cap lo hi mx).run P w=(Instr.sliceBounds true len' cap lo hi mx).run P w:=by
 cases hi with
 |none=>cases h
 |some v=>cases mx<;>simp[Instr.sliceBounds]
theorem aao {o:Option Value}{j:Int}(h:vI o (some j)):o.isSome=true:=by
 cases o with
 |none=>exact h.elim
 |some v=>rfl
theorem M7 (g:bD c R s a w)(hT:bP P T){H:List (Nat×aD)}(hH:∀b box,lk H b=some box→lk s.hp b=some box){t:TypeId}{x0:Operand}{lo hi mx:Option Operand}{b ver st l0 h0:Nat}{r:List AV}
  {K:AV→List (Nat×aD)→Prop} (h:IQ T H t lo hi mx b ver st l0 r K)
  (hv:FL (aj (aU c R s.hp) w s.hp R) (.sub b ver st l0 h0::r) ((x0::(lo.toList++(hi.toList++mx.toList))).map a.eval)) :
  ∃y z,(Instr.sliceAt t (a.eval x0) (lo.map a.eval) (hi.map a.eval) (mx.map a.eval)).run P w=.ok y w∧K z []∧aj (aU c R s.hp) w s.hp R z y:=by
 unfold IQ at h;split at h;rotate_left;exact h.elim
 rename_i e v st' rows hb;split at h;rotate_left;exact h.elim
 rename_i fT hl0 hmx;have fT:=Nat.eq_of_beq_eq_true fT;have hl0:=Nat.eq_of_beq_eq_true hl0;have hmx:mx=none:=by cases mx<;>simp_all [isNone]
 subst hmx;subst hl0;split at h;rotate_left;exact h.elim
 rename_i i hi';obtain⟨d,hd,iE⟩:=(hT t i hi').iO;split at h;rotate_left;exact h.elim
 rename_i et hte;have hd':P.underlying t=some (.slice et):=by
  rw[hte] at iE;cases d<;>simp[di] at iE
  subst iE;exact hd
 split at h;rotate_left;exact h.elim
 rename_i ei q9;have je:=hT _ _ q9;split at h;rotate_left;exact h.elim
 rename_i hst Kz;have hst:=Nat.eq_of_beq_eq_true hst;have Kz:=Nat.eq_of_beq_eq_true Kz;subst Kz;split at h;rotate_left;exact h.elim
 rename_i l r1 hl;split at h;rotate_left;exact h.elim
 rename_i hh r2 hhi;obtain⟨k1,k2,k3,k4,hK⟩:=h;simp only[List.map_cons] at hv;obtain⟨u,r',e1,hx,hv⟩:=hv;simp only[List.cons.injEq] at e1;obtain⟨e1,rfl⟩:=e1;obtain⟨v1,hv⟩:=iI hv hl;obtain⟨v2,hv⟩:=iI (rest:=[]) (by simpa using hv) hhi;have hb':=hH _ _ hb;have hre:=g.boxes b _ hb';simp only[aj,hb',aT] at hx;obtain⟨u0,hu0,hok,rfl⟩:=hx;have hu:=hu0.2.2 fT;subst hu;have hhs:=aao v2;cases hn:R.nil b with
 | true=>
   have hr0:=qm hre hn;subst hr0;simp only[bW,hn,if_true,uq,List.length_nil] at hok;obtain⟨hrun,q1,q2,q3⟩:=jc (P:=P) (w:=w) (UA:=true) (len:=0) (cap:=0) (m:=none) v1 v2 (show vI none none from trivial) (Nat.le_refl _) (fun i e=>by cases e) (by simpa[dX] using ⟨k1,k2⟩) (by simpa[dX] using ⟨k3,k4⟩);have hz:hh.toNat=0:=by simp at k2;omega
   have lz:l.toNat=0:=by omega
   refine⟨.slice none 0 0,_,?_,hK,?_⟩
   ·rw[e1];simp only[Option.map_none,Option.map_some,Option.getD_none,Option.getD_some,dX,hz,lz] at hrun;simp only[Instr.sliceAt,Instr.slice,Sem.run_bind,run_underlying hd',Result.andThen_ok,bW,hn,if_true,jD,Option.map_none,hrun,je.run_sizeOf,Sem.run_pure]
   simp only[aj,hb',aT];refine⟨_,hu0,?_,by simp[bW,hn,jD]⟩;simp only[bW,hn,if_true,uq];omega
 | false=>
   obtain⟨cur,hg,hs,hle,hm,hr,_⟩:=gM hre hn;obtain⟨hrun,q1,q2,q3⟩:=jc (P:=P) (w:=w) (UA:=true) (len:=rows.length) (cap:=(R.cap b).1) (m:=none) v1 v2 (show vI none none from trivial) hle (fun i e=>by cases e) (by
    intro i hi;cases hi;exact⟨k1,k2⟩) (by intro i hi;cases hi;exact⟨k3,k4⟩)
   rw[Qs (len':=h0) hhs] at hrun;simp only[Option.map_none,Option.map_some,Option.getD_none,Option.getD_some,dX] at hrun;have hadd:(⟨R.blk b,0,none⟩:Addr).add (0*st)=⟨R.blk b,0,none⟩:=by simp[Addr.add]
   have hsub:jD st 0 h0 (bW R b rows.length)=.slice (some ⟨R.blk b,0,none⟩) h0 ((R.cap b).1):=by
    simp only[bW,hn,jD,Bool.false_eq_true,if_false,hadd,Nat.sub_zero];split<;>rfl
   refine⟨jD st l.toNat hh.toNat (bW R b rows.length),_,?_,hK,?_⟩
   ·rw[e1,hsub];simp only[Instr.sliceAt,Instr.slice,Sem.run_bind,run_underlying hd',Result.andThen_ok,Option.map_none,hrun,je.run_sizeOf,Sem.run_pure];simp only[bW,hn,Bool.false_eq_true,if_false,jD,hst];congr 2
    split<;>rfl
   simp only[aj,hb',aT];refine⟨_,hu0,?_,rfl⟩;simp only[bW,hn,Bool.false_eq_true,if_false,uq];omega
theorem M8 (g:bD c R s a w)(hT:bP P T){H:List (Nat×aD)}(hH:∀b box,lk H b=some box→lk s.hp b=some box){t:TypeId}{x0:Operand}{lo hi mx:Option Operand}{b ver:Nat}{r:List AV}
  {K:AV→List (Nat×aD)→Prop} (h:IU T H t lo hi mx b ver r K)
  (hv:FL (aj (aU c R s.hp) w s.hp R) (.aF b ver::r) ((x0::(lo.toList++(hi.toList++mx.toList))).map a.eval)) :
  ∃y z,(Instr.sliceAt t (a.eval x0) (lo.map a.eval) (hi.map a.eval) (mx.map a.eval)).run P w=.ok y w∧K z []∧aj (aU c R s.hp) w s.hp R z y:=by
 unfold IU at h;split at h;rotate_left;exact h.elim
 rename_i e v st rows hb;split at h;rotate_left;exact h.elim
 rename_i fT;have fT:=Nat.eq_of_beq_eq_true fT;split at h;rotate_left;exact h.elim
 rename_i i hi';obtain⟨d,hd,iE⟩:=(hT t i hi').iO;split at h;rotate_left;exact h.elim
 rename_i et hte;have hd':P.underlying t=some (.slice et):=by
  rw[hte] at iE;cases d<;>simp[di] at iE
  subst iE;exact hd
 split at h;rotate_left;exact h.elim
 rename_i ei q9;have je:=hT _ _ q9;split at h;rotate_left;exact h.elim
 rename_i l r1 hl;split at h;rotate_left;exact h.elim
 rename_i hh r2 hhi;split at h;rotate_left;exact h.elim
 rename_i m r3 hmx;obtain⟨k5,k6,k1,k2,k3,k4,hK⟩:=h;simp only[List.map_cons] at hv;obtain⟨u,r',e1,hx,hv⟩:=hv;simp only[List.cons.injEq] at e1;obtain⟨e1,rfl⟩:=e1;obtain⟨v1,hv⟩:=iI hv hl;obtain⟨v2,hv⟩:=iI hv hhi;obtain⟨v3,hv⟩:=iI (rest:=[]) (by simpa using hv) hmx;have hb':=hH _ _ hb;have hre:=g.boxes b _ hb';simp only[aj,hb',aT] at hx;have hu:=hx.2.2 fT;subst hu;obtain⟨p0,l0,c0,hsl,hlc,hl0⟩:∃p0 l0 c0,bW R b rows.length=.slice p0 l0 c0∧l0≤c0∧l0=rows.length:=by
  cases hn:R.nil b with
  | true=>
    have hr0:=qm hre hn;subst hr0;exact⟨none,0,0,by simp[bW,hn],Nat.le_refl _,rfl⟩
  | false=>
    obtain⟨cur,hg,hs,hle,hm,hr,_⟩:=gM hre hn;exact⟨some ⟨R.blk b,0,none⟩,rows.length,(R.cap b).1,by simp only[bW,hn,Bool.false_eq_true,if_false],hle,rfl⟩
 subst hl0;obtain⟨hrun,q1,q2,q3⟩:=jc (P:=P) (w:=w) (UA:=true) v1 v2 v3 hlc (fun i e=>by cases e;exact⟨k5,k6,rfl⟩) (by
  intro i hi;cases hi;exact⟨k1,by simpa[dX] using k2⟩) (by intro i hi;cases hi;exact⟨k3,by simpa[dX] using k4⟩)
 rw[hsl] at e1;obtain⟨y,hy⟩:∃y,(Instr.sliceAt t (a.eval x0) (lo.map a.eval) (hi.map a.eval) (mx.map a.eval)).run P w=.ok y w:=by
  rw[e1];simp only[Instr.sliceAt,Instr.slice,Sem.run_bind,run_underlying hd',Result.andThen_ok,hrun,je.run_sizeOf,Sem.run_pure];exact⟨_,rfl⟩
 exact⟨y,_,hy,hK,by simp only[aj,bG]⟩
theorem G8 (g:bD c R s a w)(hT:bP P T){H:List (Nat×aD)}(hH:∀b box,lk H b=some box→lk s.hp b=some box){t:TypeId}{x0:Operand}{lo hi mx:Option Operand}{vs:List AV}
  {K:AV→List (Nat×aD)→Prop} (h:qd T H t lo hi mx vs K)
  (hv:FL (aj (aU c R s.hp) w s.hp R) vs ((x0::(lo.toList++(hi.toList++mx.toList))).map a.eval)) :
  ∃y z ws R',(Instr.sliceAt t (a.eval x0) (lo.map a.eval) (hi.map a.eval) (mx.map a.eval)).run P w=.ok y w∧K z ws∧bD c R' (s.app ws) a w∧aj (aU c R' (ws++s.hp)) w (ws++s.hp) R' z y:=by
 unfold qd at h;split at h
 ·exact qO g hT hH h hv
 split at h
 ·obtain⟨y,z,h1,h2,h3⟩:=M7 g hT hH h hv;exact⟨y,z,[],R,h1,h2,g,h3⟩
 ·split at h
  ·exact qO g hT hH h hv
  obtain⟨y,z,h1,h2,h3⟩:=M8 g hT hH h hv;exact⟨y,z,[],R,h1,h2,g,h3⟩
 exact qO g hT hH h hv
end
def fF (vs:List Value):List PV:=vs.map .sc
theorem FD {N:Nat→Prop}{w:World}:∀(vs xs:List Value),(∀v∈vs,v.oneCell'=true)→(fP N w (fF vs) (vs++xs))
 |[],_,_=>by simp[fF,fP]
 | v::vs,xs,h=>by
   simp only[fF,List.map_cons,fP,List.cons_append];refine⟨v,vs++xs,rfl,h v (by simp),by simp only[bG],FD vs xs fun u hu=>h u (by simp[hu])⟩
theorem FE {N:Nat→Prop}{w:World}:∀(vs xs:List Value),fP N w (fF vs) xs→∃r,xs=vs++r
 |[],xs,_=>⟨xs,rfl⟩
 | v::vs,xs,h=>by
   simp only[fF,List.map_cons,fP] at h;obtain⟨x,r,rfl,_,h1,h2⟩:=h;simp only[bG] at h1;subst h1;obtain⟨r',rfl⟩:=FE vs r h2;exact⟨r',rfl⟩
theorem oG (vs:List Value):(fF vs).length=vs.length:=by simp[fF]
section
variable {c:Ctx}{R:Real}{s:AS}{a:Act}{w:World}
theorem bD.JA (g:bD c R s a w){b:Nat}{box bH:aD}(hb:lk s.hp b=some box)
  (r1:∀off v,aX R b off v (some box)→aX R b off v (some bH))
  (r2:∀ver v,aT R b ver v (some box)→aT R b ver v (some bH))
  (r3:∀ver i off v,aZ R b ver i off v (some box)→aZ R b ver i off v (some bH))
  (hown:∀r,aN R b r (some bH)→aN R b r (some box))
  (ER:(∀v x,aj (aU c R s.hp) w s.hp R v x→aj (aU c R ((b,bH)::s.hp)) w ((b,bH)::s.hp) R v x) →
   (∀r,aU c R ((b,bH)::s.hp) r→aU c R s.hp r)→eG (aU c R ((b,bH)::s.hp)) w ((b,bH)::s.hp) R b bH) :
  bD c R (s.app [(b,bH)]) a w∧(∀v x,aj (aU c R s.hp) w s.hp R v x→aj (aU c R ((b,bH)::s.hp)) w ((b,bH)::s.hp) R v x):=by
 have q1:∀off v,aX R b off v (lk s.hp b)→aX R b off v (some bH):=fun off v h=>r1 off v (by rw[hb] at h;exact h)
 have q2:∀ver v,aT R b ver v (lk s.hp b)→aT R b ver v (some bH):=fun ver v h=>r2 ver v (by rw[hb] at h;exact h)
 have q3:∀ver i off v,aZ R b ver i off v (lk s.hp b)→aZ R b ver i off v (some bH):=fun ver i off v h=>r3 ver i off v (by rw[hb] at h;exact h)
 have ho:∀r,aN R b r (some bH)→aN R b r (lk s.hp b)∨w.heap.size≤r:=fun r h=>.inl (by rw[hb];exact hown r h)
 have hR:∀b',b'≠b→R.blk b'=R.blk b'∧R.nil b'=R.nil b'∧R.cap b'=R.cap b':=fun _ _=>⟨rfl,rfl,rfl⟩
 obtain⟨m1,m2,m3,m4,m5⟩:=g.JY (b:=b) (bH:=bH) hR q1 q2 q3 ho (nR.refl _ w) rfl;have hm:=fun v x h=>bX (p:=v) m1 m2 m3 m4 m5 x h
 refine⟨g.upd (nx':=s.nx) hR q1 q2 q3 ho (nR.refl _ w) (ER hm fun r hr=>?_) rfl,hm⟩;rcases hr with h|⟨b',h⟩
 ·exact .inl h
 refine .inr ⟨b',?_⟩;rw[aB] at h;split at h
 ·rename_i e;subst e;rw[hb];exact hown r h
 exact h
theorem vZ {N:Nat→Prop}{w:World}{st:Nat}:∀{pre:List (List PV)} {row:List PV} {post:List (List PV)} {xs:List Value},bL N w st (pre++row::post) xs→bL N w st pre xs∧row.length=st∧fP N w row (xs.drop (pre.length*st))∧bL N w st post ((xs.drop (pre.length*st)).drop st)
 | [],row,post,xs,h=>by
   simp only[List.nil_append,bL] at h;exact⟨trivial,h.1,by simpa using h.2.1,by simpa using h.2.2⟩
 | p::pre,row,post,xs,h=>by
   simp only[List.cons_append,bL] at h;obtain⟨h1,h2,h3⟩:=h;obtain⟨a1,a2,a3,a4⟩:=vZ h3;have e:xs.drop ((p::pre).length*st)=(xs.drop st).drop (pre.length*st):=by
    rw[List.drop_drop,show (p::pre).length*st=st+pre.length*st by rw[List.length_cons,Nat.add_mul];omega]
   rw[e];exact⟨⟨h1,h2,a1⟩,a2,a3,a4⟩
theorem BX {N:Nat→Prop}{w:World}{st:Nat}:∀{pre:List (List PV)} {row:List PV} {post:List (List PV)} {xs:List Value},bL N w st pre xs→row.length=st→fP N w row (xs.drop (pre.length*st)) →
  bL N w st post ((xs.drop (pre.length*st)).drop st)→bL N w st (pre++row::post) xs
 | [],row,post,xs,h,h1,h2,h3=>by
   simp only[List.nil_append,bL];exact⟨h1,by simpa using h2,by simpa using h3⟩
 | p::pre,row,post,xs,h,h1,h2,h3=>by
   simp only[bL] at h;obtain⟨a1,a2,a3⟩:=h;simp only[List.cons_append,bL];have e:xs.drop ((p::pre).length*st)=(xs.drop st).drop (pre.length*st):=by
    rw[List.drop_drop,show (p::pre).length*st=st+pre.length*st by rw[List.length_cons,Nat.add_mul];omega]
   rw[e] at h2 h3;exact⟨a1,a2,BX a3 h1 h2 h3⟩
theorem bD.JB (g:bD c R s a w){b:Nat}{e:TypeId}{v st:Nat}{pre post:List (List PV)}{vs:List Value}{row:List AV}(hb:lk s.hp b=some (.arr e v st (pre++fF vs::post)))
  (hrow:bO (aU c R s.hp) w s.hp R row vs) :
  bD c R (s.app [(b,.dM e v st pre row post)]) a w∧(∀u x,aj (aU c R s.hp) w s.hp R u x→aj (aU c R ((b,.dM e v st pre row post)::s.hp)) w ((b,.dM e v st pre row post)::s.hp) R u x):=by
 have hl:(pre++fF vs::post).length=pre.length+(1+post.length):=by simp[Nat.add_comm]
 refine g.JA hb (fun off v h=>h.elim) (fun ver u h=>?_) (fun ver i off u h=>h) (fun r h=>h) (fun hm hN=>?_)
 ·simpa only[aT,hl] using h
 obtain⟨xs,h1,h2⟩:=g.boxes b _ hb;obtain⟨a1,a2,a3,a4⟩:=vZ h2;obtain⟨r,hr⟩:=FE _ _ a3;rw[oG] at a2;have hrl:row.length=vs.length:=by
  have:=(bI _ _ _ _ _ _).1 hrow;exact this.length.symm
 refine⟨xs,by rw[←hl];exact h1,aW (fun r _ h=>hN r h) (fun _ _ _=>rfl) _ _ _ a1,by rw[hrl];exact a2,?_,aW (fun r _ h=>hN r h) (fun _ _ _=>rfl) _ _ _ a4⟩;rw[hr,show (vs++r).take st=vs by rw[←a2];exact List.take_left];rw[bI] at hrow ⊢;exact hrow.imp hm
theorem bD.tV (g:bD c R s a w){b:Nat}{e:TypeId}{v st:Nat}{pre post:List (List PV)}{row:List AV}(hb:lk s.hp b=some (.dM e v st pre row post)) :
  ∃vs:List Value,bO (aU c R s.hp) w s.hp R row vs∧vs.length=st∧bD c R (s.app [(b,.arr e v st (pre++fF vs::post))]) a w ∧
   (∀u x,aj (aU c R s.hp) w s.hp R u x→aj (aU c R ((b,.arr e v st (pre++fF vs::post))::s.hp)) w ((b,.arr e v st (pre++fF vs::post))::s.hp) R u x):=by
 obtain⟨xs,h1,h2,h3,h4,h5⟩:=g.boxes b _ hb;have h4':=(bI _ _ _ _ _ _).1 h4;refine⟨(xs.drop (pre.length*st)).take st,h4,h4'.length.trans h3,g.JA hb (fun off v h=>h.elim) (fun ver u h=>?_) (fun ver i off u h=>h) (fun r h=>h) (fun hm hN=>?_)⟩
 ·have hl:(pre++fF ((xs.drop (pre.length*st)).take st)::post).length=pre.length+(1+post.length):=by simp[Nat.add_comm]
  simpa only[aT,hl] using h
 have hl:(pre++fF ((xs.drop (pre.length*st)).take st)::post).length=pre.length+(1+post.length):=by simp[Nat.add_comm]
 refine⟨xs,by rw[hl];exact h1,?_⟩;refine BX (aW (fun r _ h=>hN r h) (fun _ _ _=>rfl) _ _ _ h2) (by rw[oG,h4'.length];exact h3) ?_ (aW (fun r _ h=>hN r h) (fun _ _ _=>rfl) _ _ _ h5);have:=FD (N:=aU c R ((b,aD.arr e v st (pre++fF ((xs.drop (pre.length*st)).take st)::post))::s.hp)) (w:=w) ((xs.drop (pre.length*st)).take st) ((xs.drop (pre.length*st)).drop st) (fun u hu=>h4'.one u hu);rwa [List.take_append_drop] at this
def KM (c:Ctx):Ctx:={ c with n:=c.n+1 }
theorem bD.NC (g:bD c R s a w){v:AV}{x:Value}(hx:aj (aU c R s.hp) w s.hp R v x) :
  bD (KM c) R ⟨(c.n,v)::s.tm,s.nx,s.hp⟩ { a with tmps:=a.tmps.push x } w:=by
 refine⟨fun t u hu=>?_,by simp[KM,g.size],g.lo,g.marks,g.fixed,g.boxes,g.inj,g.free,g.jE,g.iN,g.kept⟩;rw[aB] at hu;split at hu
 ·rename_i e;simp only[Option.some.injEq] at hu;subst e;subst hu;refine⟨x,?_,hx⟩;show (a.tmps.push x)[c.n]? = some x
  rw[←g.size];exact Array.getElem?_push_size
 obtain⟨y,hy,hr⟩:=g.slots t u hu;refine⟨y,?_,hr⟩;rw[Array.getElem?_push];have:=size_of_getElem? hy;rw[if_neg (by omega)];exact hy
theorem bD.AB {v:AV}{x:Value}{tm:List (Nat×AV)}{nx:Nat}{hp:List (Nat×aD)}(ha:a.tmps.size=c.n)(RY:∀t u,lk tm t=some u→t≠c.n)(g:bD (KM c) R ⟨(c.n,v)::tm,nx,hp⟩ { a with tmps:=a.tmps.push x } w) :
  bD c R ⟨tm,nx,hp⟩ a w∧aj (aU c R hp) w hp R v x:=by
 refine⟨⟨fun t u hu=>?_,ha,g.lo,g.marks,g.fixed,g.boxes,g.inj,g.free,g.jE,g.iN,g.kept⟩,?_⟩
 ·have hne:=RY t u hu;obtain⟨y,hy,hr⟩:=g.slots t u (by rw[aB,if_neg (fun e=>hne e.symm)];exact hu);refine⟨y,?_,hr⟩;rw[Array.getElem?_push] at hy;split at hy
  ·rename_i e;omega
  exact hy
 obtain⟨y,hy,hr⟩:=g.slots c.n v (by rw[aB,if_pos rfl]);rw[Array.getElem?_push,if_pos ha.symm] at hy;simp only[Option.some.injEq] at hy;subst hy;exact hr
end
def acG (a:Nat):Tab→Bool
 | (b,_)::r=>match Nat.beq a b with
   |true=>acG a r
   | false=>match r with
     |(c,_)::_=>Nat.beq b c
     |[]=>false
 |[]=>false
def aiN (T:Tab):Bool:=
 match T with
 |(a,_)::r=>acG a r
 |[]=>false
def vD (T:Tab)(H:List (Nat×aD))(t:TypeId)(x:AV)(K:AV→Prop):Prop:=
 match x with
 | .bn b ver k off=>match lk H b with
   | some (.dM e v st pre row post)=>match lk T t with
     | some i=>match Nat.beq ver v,Nat.beq i.size 0 with
       | true,false=>match part off i.size row with
         |some cs=>k=pre.length∧sP i cs K
         |none=>False
       |_,_=>False
     |none=>False
   |_=>vz T H t (.bn b ver k off) K
 |x=>vz T H t x K
def nu (T:Tab)(H:List (Nat×aD))(t:TypeId)(x y:AV)(K:AV→List (Nat×aD)→Prop):Prop:=
 match x with
 | .bn b ver k off=>match lk H b with
   | some (.dM e v st pre row post)=>match lk T t with
     | some i=>match Nat.beq ver v with
       | true=>match cellsOf i y with
         | some cs=>match Nat.beq cs.length i.size with
           | true=>match jR off row cs with
             |some row'=>k=pre.length∧K (.pv (.sc undef)) [(b,.dM e v st pre row' post)]
             |none=>False
           |false=>False
         |none=>False
       |false=>False
     |none=>False
   |_=>qN T H t (.bn b ver k off) y K
 |x=>qN T H t x y K
def Mt (T:Tab)(H:List (Nat×aD))(t:TypeId)(x ix:AV)(K:AV→Prop):Prop:=
 match x with
 | .aF b ver=>match lk H b with
   | some (.dM e v st pre row post)=>match ix with
     | .pv (.sc (.int _ i))=>match lk T t with
       | some ti=>match ti.d with
         | .slt e=>match lk T e with
           | some ei=>match Nat.beq ver v,Nat.beq st ei.size with
             |true,true=>0≤i∧i.toNat<pre.length+(1+post.length)∧K (.bn b ver i.toNat 0)
             |_,_=>False
           |none=>False
         |_=>False
       |none=>False
     |_=>False
   |_=>dP T H t (.aF b ver) ix K
 |x=>dP T H t x ix K
def CK (T:Tab)(H:List (Nat×aD))(t:TypeId)(x:AV)(K:AV→Prop):Prop:=
 match x with
 | .aF b ver=>match lk H b with
   | some (.dM e v st pre row post)=>match lk T t with
     | some i=>match i.d with
       | .slt _=>match Nat.beq ver v with
         |true=>K (.pv (.sc (.int .i64 (pre.length+(1+post.length):Nat))))
         |false=>False
       |_=>False
     |none=>False
   |_=>EL T H t (.aF b ver) K
 |x=>EL T H t x K
section
variable {P:Program}{T:Tab}{N:Nat→Prop}{w:World}{hp:List (Nat×aD)}{R:Real}
theorem Dh (i:TI){t:TypeId}(hi:bY P t i){g off:Nat}{cur:Array Value}{e:TypeId}{fr:Nat×Nat}{cs:List AV}{K:AV→Prop}
  (hg:w.heap[g]? = some (.cells cur e fr)) (hl:off+i.size≤cur.size) (hcs:FC (aj N w hp R) cs ((cur.toList.drop off).take i.size))
  (h:sP i cs K) :
  ∃x v,(loadVar t ⟨g,off,none⟩).run P w=.ok x w∧K v∧aj N w hp R v x:=by
 have hrun:=lY (w:=w) hi hg hl;cases ha:i.d.isAgg with
 | true=>
   simp only[sP,ha] at h;simp only[ha] at hrun;unfold zM at h;split at h;rotate_left;exact h.elim
   rename_i v hv;refine⟨_,v,hrun,h,?_⟩;split at hv
   ·rename_i ps hps;simp only[Option.some.injEq] at hv;subst hv;simp only[aj,bG,if_true];refine⟨_,rfl,?_⟩;rw[gG];have:∀(cs:List AV) (ps:List PV) (vs:List Value),jf cs=some ps→FC (aj N w hp R) cs vs→FC (bG N w) ps vs:=by
     intro cs;induction cs with
     |nil=>intro ps vs h h';simp only[jf,Option.some.injEq] at h;subst h;exact h'
     | cons c cs ih=>
       intro ps vs h h';obtain⟨v,r,rfl,h1,h2,h3⟩:=h';cases c<;>simp only[jf] at h<;>try (cases h;done)
       split at h
       ·rename_i ps' qL;simp only[Option.some.injEq] at h;subst h;exact⟨v,r,rfl,h1,by simpa only[aj] using h2,ih _ _ qL h3⟩
       cases h
    exact this cs ps _ hps (by simpa using hcs)
   simp only[Option.some.injEq] at hv;subst hv;simp only[aj,if_true];refine⟨_,rfl,?_⟩;rw[bI];simpa using hcs
 | false=>
   have h1:=hi.agg ha;simp only[sP,ha] at h;simp only[ha,Bool.false_eq_true,if_false] at hrun;split at h;rotate_left;exact h.elim
   rename_i v;obtain⟨u,r,e1,e2,e3,e4⟩:=hcs;refine⟨_,_,hrun,h,?_⟩;have:cur[off]! = u:=by
    have hlt:off<cur.size:=by omega
    rw[getElem!_pos cur off hlt];have hh:((cur.toList.drop off).take i.size)[0]? = some u:=by rw[e1];rfl
    rw[h1] at hh;simp only[List.getElem?_take,Nat.zero_lt_one,if_true,List.getElem?_drop,Nat.add_zero] at hh;have h3:cur[off]? = some u:=by simpa using hh
    rw[Array.getElem?_eq_getElem hlt] at h3;exact Option.some.inj h3
   rw[this];exact e3
end
section
variable {P:Program}{T:Tab}{c:Ctx}{R:Real}{s:AS}{a:Act}{w:World}
theorem UX (g:bD c R s a w){b:Nat}{e:TypeId}{v st:Nat}{pre post:List (List PV)}{row:List AV}(hb:lk s.hp b=some (.dM e v st pre row post))(hn:R.nil b=false) :
  ∃(cur:Array Value) (vs r:List Value),w.heap[R.blk b]? = some (.cells cur e (0,0))∧cur.toList.drop (pre.length*st)=vs++r∧vs.length=st∧FC (aj (aU c R s.hp) w s.hp R) row vs:=by
 obtain⟨vs,hrow,hvl,g1,m1⟩:=g.tV hb;have hb1:lk (s.app [(b,.arr e v st (pre++fF vs::post))]).hp b=some (.arr e v st (pre++fF vs::post)):=by
  simp only[AS.app,List.singleton_append,aB,if_true]
 obtain⟨cur,hg,hs,hle,hm,hr,_⟩:=gM (g1.boxes b _ hb1) hn;obtain⟨a1,a2,a3,a4⟩:=vZ hr;obtain⟨r,hr'⟩:=FE _ _ a3;exact⟨cur,vs,r,hg,hr',hvl,(bI _ _ _ _ _ _).1 hrow⟩
theorem AJ (g:bD c R s a w)(hT:bP P T){H:List (Nat×aD)}(hH:∀b box,lk H b=some box→lk s.hp b=some box){t:TypeId}{x:AV}{K:AV→Prop}
  (h:vD T H t x K) {u:Value} (hx:aj (aU c R s.hp) w s.hp R x u) :
  ∃y v,(Instr.loadAt t u).run P w=.ok y w∧K v∧aj (aU c R s.hp) w s.hp R v y:=by
 unfold vD at h;split at h
 ·rename_i b ver k off;split at h
  ·rename_i e v st pre row post hb;have hb':=hH _ _ hb;split at h;rotate_left;exact h.elim
   rename_i i hi;have hi':=hT t i hi;split at h;rotate_left;exact h.elim
   rename_i fT hsz0;split at h;rotate_left;exact h.elim
   rename_i cs hcs;obtain⟨rfl,h⟩:=h;simp only[aj,hb',aZ] at hx;obtain⟨hn,rfl⟩:=hx.2.2 (Nat.eq_of_beq_eq_true fT);obtain⟨cur,vs,r,hg,hd,hvl,hrow⟩:=UX g hb' hn;obtain⟨h1,h2⟩:=hrow.fp.part hcs;have hlen:cur.size=pre.length*st+(vs.length+r.length)∨(vs++r=[]∧cur.size≤pre.length*st):=by
    have:=congrArg List.length hd;simp only[List.length_drop,Array.length_toList,List.length_append] at this;by_cases hz:cur.size≤pre.length*st
    ·refine .inr ⟨List.eq_nil_of_length_eq_zero (by simp only[List.length_append];omega),hz⟩
    left;omega
   have hdd:(cur.toList.drop (pre.length*st+off)).take i.size=(vs.drop off).take i.size:=by
    rw[←List.drop_drop,hd,List.drop_append_of_le_length (by omega),List.take_append_of_le_length (by simp only[List.length_drop];omega)]
   by_cases hz:pre.length*st+off+i.size≤cur.size
   ·obtain⟨y,z,k1,k2,k3⟩:=Dh i hi' hg hz (by rw[hdd];exact h2) h;exact⟨y,z,by simpa[Instr.loadAt,Instr.sureAddr] using k1,k2,k3⟩
   exfalso;rcases hlen with hlen|⟨hnil,hlen⟩
   ·omega
   have:vs=[]:=(List.append_eq_nil_iff.1 hnil).1;subst this;simp only[List.length_nil] at h1 hvl;exact Nat.ne_of_beq_eq_false hsz0 (by omega)
  exact vB g hT hH h hx
 exact vB g hT hH h hx
theorem ND {α:Type}:∀{off:Nat} {vs xs:List α},off+xs.length≤vs.length→jR off vs xs=some (vs.take off++xs++vs.drop (off+xs.length))
 | 0,vs,xs,h=>by
   simp only[jR,List.take_zero,List.nil_append,Nat.zero_add];have:∀(xs vs:List α),xs.length≤vs.length→j4 vs xs=some (xs++vs.drop xs.length):=by
    intro xs;induction xs with
    |nil=>intro vs _;cases vs<;>simp[j4]
    | cons x xs ih=>
      intro vs h;cases vs with
      |nil=>simp at h
      |cons v vs=>simp only[j4,ih vs (by simpa using h)];simp
   exact this xs vs (by simpa using h)
 |off+1,[],xs,h=>by simp at h
 | off+1,v::vs,xs,h=>by
   have h':off+xs.length≤vs.length:=by simp only[List.length_cons] at h;omega
   simp only[jR,ND h'];rw[show off+1+xs.length=(off+xs.length)+1 by omega];simp
theorem aaM (a b:List Value):fF (a++b)=fF a++fF b:=by simp[fF]
theorem aaN {off:Nat}{vs xs:List Value}(h:off+xs.length≤vs.length):jR off (fF vs) (fF xs)=some (fF (vs.take off++xs++vs.drop (off+xs.length))):=by
 rw[ND (by rw[oG,oG];exact h)];simp only[aaM,oG];simp[fF,List.map_take,List.map_drop]
def exV (i:TI)(v:Value):PV:=match i.d.isAgg with
 |true=>.agg (fF v.cells.toList)
 |false=>.sc v
theorem FH {N:Nat→Prop}:∀(vs:List Value),(∀v∈vs,v.oneCell'=true)→iU N w (fF vs) vs
 |[],_=>by simp[fF,iU]
 | v::vs,h=>by
   simp only[fF,List.map_cons,iU];exact⟨v,vs,rfl,h v (by simp),by simp only[bG],FH vs fun u hu=>h u (by simp[hu])⟩
theorem adY {N N':Nat→Prop}{w w':World}{hp:List (Nat×aD)}{i:TI}{y:AV}{cs:List AV}(h:cellsOf i y=some cs){v:Value}(hy:aj N w hp R y v):bG N' w' (exV i v) v∧lT i (exV i v)=some (fF v.cells.toList):=by
 have hc:=jl h hy;unfold exV;cases ha:i.d.isAgg with
 | true=>
   simp only[cellsOf,ha] at h;have:∃us:Array Value,v=.agg us:=by
    split at h
    ·simp only[aj,bG] at hy;obtain⟨us,e,_⟩:=hy;exact⟨us,e⟩
    ·simp only[aj] at hy;obtain⟨us,e,_⟩:=hy;exact⟨us,e⟩
    cases h
   obtain⟨us,rfl⟩:=this;refine⟨?_,by simp[lT,ha]⟩;simp only[bG];exact⟨us,rfl,FH us.toList hc.one⟩
 | false=>
   simp only[cellsOf,ha] at h;split at h
   ·rename_i hcell;have h1:=Jo hcell hy;have e:=BL h1;refine⟨by simp only[bG],?_⟩;simp only[lT,ha,cellP,h1];have:v.cells.toList=[v]:=by rw[e]
    rw[this];rfl
   cases h
theorem NE (g:bD c R s a w):∀t u,lk s.tm t=some u→t≠c.n:=by
 intro t u h e;obtain⟨x,hx,_⟩:=g.slots t u h;have:=size_of_getElem? hx;rw[g.size] at this;omega
theorem xK {hp hp':List (Nat×aD)}(h:∀b,lk hp' b=lk hp b){v:AV}{x:Value}(hx:aj (aU c R hp) w hp R v x):aj (aU c R hp') w hp' R v x:=by
 refine bX (fun r _ hr=>?_) (fun _ _ _=>rfl) (fun b off u hu=>by rw[h];exact hu) (fun b ver u hu=>by rw[h];exact hu) (fun b ver i off u hu=>by rw[h];exact hu) v x hx;rcases hr with hr|⟨b,hr⟩
 ·exact .inl hr
 exact .inr ⟨b,by rw[←h];exact hr⟩
theorem qV (g:bD c R s a w)(hT:bP P T){H:List (Nat×aD)}(hH:∀b box,lk H b=some box→lk s.hp b=some box){t:TypeId}{x y:AV}
  {K:AV→List (Nat×aD)→Prop} (h:nu T H t x y K) {u v:Value} (hx:aj (aU c R s.hp) w s.hp R x u) (hy:aj (aU c R s.hp) w s.hp R y v) :
  ∃w' ws,(Instr.storeAt t u v).run P w=.ok () w'∧K (.pv (.sc undef)) ws∧bD c R (s.app ws) a w':=by
 unfold nu at h;split at h
 ·rename_i b ver k off;split at h
  ·rename_i e vr st pre row post hb;have hb':=hH _ _ hb;split at h;rotate_left;exact h.elim
   rename_i i hi;split at h;rotate_left;exact h.elim
   rename_i fT;split at h;rotate_left;exact h.elim
   rename_i cs hcs;split at h;rotate_left;exact h.elim
   rename_i hlen;split at h;rotate_left;exact h.elim
   rename_i row' hset;obtain⟨rfl,hK⟩:=h;obtain⟨vs,hrow,hvl,g1,m1⟩:=g.tV hb';have hcv:=jl hcs hy;have hrow':=(bI _ _ _ _ _ _).1 hrow;obtain⟨hsl,_⟩:=FC.jR hrow' hcv hset;have hA:aj (aU c R (s.app [(b,.arr e vr st (pre++fF vs::post))]).hp) w (s.app [(b,.arr e vr st (pre++fF vs::post))]).hp R (.agg row) (.agg vs.toArray):=
    m1 _ _ (by simp only[aj];exact⟨_,rfl,by simpa using hrow⟩)
   have hB:aj (aU c R (s.app [(b,.arr e vr st (pre++fF vs::post))]).hp) w (s.app [(b,.arr e vr st (pre++fF vs::post))]).hp R (.agg cs) (.agg v.cells):=
    m1 _ _ (by simp only[aj];exact⟨_,rfl,by rw[bI];exact hcv⟩)
   have g2:=g1.NC hA;have g3:=g2.NC hB;have uM:lk (s.app [(b,.arr e vr st (pre++fF vs::post))]).hp b=some (.arr e vr st (pre++fF vs::post)):=by
    simp only[AS.app,List.singleton_append,aB,if_true]
   obtain⟨hrep,hpc⟩:=adY (N':=aU c R (s.app [(b,.arr e vr st (pre++fF vs::post))]).hp) (w':=w) hcs hy;have hst:qN T (s.app [(b,.arr e vr st (pre++fF vs::post))]).hp t (.bn b ver pre.length off) (.pv (exV i v))
     (fun z ws=>ws=[(b,.arr e vr st (pre++fF (vs.take off++v.cells.toList++vs.drop (off+v.cells.toList.length))::post))]):=by
    have e1:Nat.beq (fF v.cells.toList).length i.size=true:=by rw[oG,hcv.length];exact hlen
    unfold qN;simp only[hi,uM,fT,hpc,e1];refine⟨fF vs,by simp,?_⟩;rw[aaN hsl];simp
   obtain⟨w',ws,hrun,rfl,g4⟩:=tC g3 hT (fun _ _ h=>h) hst (u:=u) (v:=v) (m1 _ _ hx) (by simp only[aj];exact hrep);have hsz2:({ a with tmps:=a.tmps.push (.agg vs.toArray) }:Act).tmps.size=(KM c).n:=by simp[KM,g.size]
   obtain⟨g5,V7⟩:=bD.AB (c:=KM c) (a:={ a with tmps:=a.tmps.push (.agg vs.toArray) }) hsz2 (NE g2) g4;obtain⟨g6,hA'⟩:=bD.AB (c:=c) g.size (NE g) g5;simp only[aj] at hA' V7;obtain⟨us,e1,hA'⟩:=hA';cases e1;obtain⟨us,e1,V7⟩:=V7;cases e1;rw[bI] at hA' V7;obtain⟨_,hnew⟩:=FC.jR hA' V7 hset;have hb6:lk ([(b,aD.arr e vr st (pre++fF (vs.take off++v.cells.toList++vs.drop (off+v.cells.toList.length))::post))]++(s.app [(b,.arr e vr st (pre++fF vs::post))]).hp) b =
     some (.arr e vr st (pre++fF (vs.take off++v.cells.toList++vs.drop (off+v.cells.toList.length))::post)):=by
    rw[List.singleton_append,aB,if_pos rfl]
   obtain⟨g7,m7⟩:=bD.JB (row:=row') g6 hb6 (by rw[bI];exact hnew);refine⟨w',_,hrun,hK,bD.congr g7 (fun _=>rfl) fun j=>?_⟩;simp only[AS.app,List.singleton_append,aB];split<;>rfl
  exact tC g hT hH h hx hy
 exact tC g hT hH h hx hy
theorem FI (g:bD c R s a w)(hT:bP P T){H:List (Nat×aD)}(hH:∀b box,lk H b=some box→lk s.hp b=some box){t:TypeId}{x ix:AV}{K:AV→Prop}
  (h:Mt T H t x ix K) {u v:Value} (hx:aj (aU c R s.hp) w s.hp R x u) (hv:aj (aU c R s.hp) w s.hp R ix v) :
  ∃y z,(Instr.indexAt t u v).run P w=.ok y w∧K z∧aj (aU c R s.hp) w s.hp R z y:=by
 unfold Mt at h;split at h
 ·rename_i b ver;split at h
  ·rename_i e vr st pre row post hb;have hb':=hH _ _ hb;split at h;rotate_left;exact h.elim
   rename_i kk i;split at h;rotate_left;exact h.elim
   rename_i ti hti;split at h;rotate_left;exact h.elim
   rename_i e2 hte;split at h;rotate_left;exact h.elim
   rename_i ei q9;split at h;rotate_left;exact h.elim
   rename_i h1 h2;obtain⟨h0,hlt,hK⟩:=h;obtain⟨vs,hrow,hvl,g1,m1⟩:=g.tV hb';have uM:lk (s.app [(b,.arr e vr st (pre++fF vs::post))]).hp b=some (.arr e vr st (pre++fF vs::post)):=by
    simp only[AS.app,List.singleton_append,aB,if_true]
   have hl:(pre++fF vs::post).length=pre.length+(1+post.length):=by simp[Nat.add_comm]
   have hi:dP T (s.app [(b,.arr e vr st (pre++fF vs::post))]).hp t (.aF b ver) (.pv (.sc (.int kk i))) (fun z=>z=.bn b ver i.toNat 0):=by
    unfold dP;simp only[hti,hte,q9,uM,h1,h2];exact⟨h0,by rw[hl];exact hlt,trivial⟩
   obtain⟨y,z,hrun,rfl,hz⟩:=jU g1 hT (fun _ _ h=>h) hi (m1 _ _ hx) (m1 _ _ hv);refine⟨y,_,hrun,hK,?_⟩;simp only[aj,uM,aZ] at hz;simp only[aj,hb',aZ];exact hz
  exact jU g hT hH h hx hv
 exact jU g hT hH h hx hv
theorem Di (g:bD c R s a w)(hT:bP P T){H:List (Nat×aD)}(hH:∀b box,lk H b=some box→lk s.hp b=some box){t ty:TypeId}{x:AV}{K:AV→Prop}
  (h:CK T H t x K) {u:Value} (hx:aj (aU c R s.hp) w s.hp R x u) :
  ∃y z,(Builtin.len_ #[t] ty #[u]).run P w=.ok y w∧K z∧aj (aU c R s.hp) w s.hp R z y:=by
 unfold CK at h;split at h
 ·rename_i b ver;split at h
  ·rename_i e vr st pre row post hb;have hb':=hH _ _ hb;split at h;rotate_left;exact h.elim
   rename_i i hi;split at h;rotate_left;exact h.elim
   rename_i e2 hte;split at h;rotate_left;exact h.elim
   rename_i h1;obtain⟨vs,hrow,hvl,g1,m1⟩:=g.tV hb';have uM:lk (s.app [(b,.arr e vr st (pre++fF vs::post))]).hp b=some (.arr e vr st (pre++fF vs::post)):=by
    simp only[AS.app,List.singleton_append,aB,if_true]
   have hl:(pre++fF vs::post).length=pre.length+(1+post.length):=by simp[Nat.add_comm]
   have hi:EL T (s.app [(b,.arr e vr st (pre++fF vs::post))]).hp t (.aF b ver) (fun z=>z=.pv (.sc (.int .i64 (pre.length+(1+post.length):Nat)))):=by
    unfold EL;simp only[hi,hte,vw,uM,uK,h1,hl]
   obtain⟨y,z,hrun,rfl,hz⟩:=tu (ty:=ty) g1 hT (fun _ _ h=>h) hi (m1 _ _ hx);refine⟨y,_,hrun,h,?_⟩;simp only[aj,bG] at hz ⊢;exact hz
  exact tu g hT hH h hx
 exact tu g hT hH h hx
end
def xk (T:Tab)(t:TypeId)(len:Nat)(ks:List Nat)(cs:List AV)(id:Nat)(K:AV→List (Nat×aD)→Prop):Prop:=
 match lk T t with
 | some i=>match i.d with
   | .slt e=>match lk T e with
     | some ei=>match ei.d.isAgg with
       | true=>tiF ei fun qb LH=>match Nat.beq qb 0,Wp 0 ks,Nat.beq ks.length len,Nat.beq len 1,Nat.beq cs.length qb,Nat.ble qb 16777216 with
         |false,true,true,true,true,true=>K (.aF id 0) [(id,.dM e 0 qb [] cs [])]
         |_,_,_,_,_,_=>False
       |false=>False
     |none=>False
   |_=>False
 |none=>False
def qc (T:Tab)(H:List (Nat×aD))(t:TypeId)(len:Nat)(ks:List Nat)(vs:List AV)(id:Nat)(K:AV→List (Nat×aD)→Prop):Prop:=
 match aiN T with
 | true=>match vs with
   |[.agg cs]=>xk T t len ks cs id K
   |vs=>lU T H t len ks vs id K
 |false=>lU T H t len ks vs id K
def CO (T:Tab)(H:List (Nat×aD))(t:TypeId)(d:AV)(k kv id:Nat)(K:AV→List (Nat×aD)→Prop):Prop:=
 match lk H k with
 | some (.dM e0 v0 Pk [] row [])=>match Nat.beq kv v0 with
   | true=>match lk T t with
     | some i=>match i.d with
       | .slt e=>match lk T e with
         | some ei=>tiF ei fun qb LH=>match Nat.beq LH 0,Nat.beq qb 0,Nat.beq Pk qb with
           | false,false,true=>match d with
             |.pv (.sc (.slice none 0 0))=>1*LH≤140737488355328∧K (.aF id 0) [(id,.dM e 0 qb [] row [])]
             | .aF b ver=>match Nat.beq b k with
               |true=>False
               | false=>match lk H b with
                 | some (.arr e' v st rows)=>match Nat.beq ver v,Nat.beq st qb,Nat.beq e' e with
                   |true,true,true=>(rows.length+1)*LH≤140737488355328∧K (.aF b (v+1)) [(b,.dM e (v+1) qb rows row [])]
                   |_,_,_=>False
                 |_=>False
             |_=>False
           |_,_,_=>False
         |none=>False
       |_=>False
     |none=>False
   |false=>False
 |_=>False
def yV (T:Tab)(t:TypeId)(ver:Nat)(o:Option aD)(src:Nat→Option (List (List PV)))(b:Nat)(K:AV→List (Nat×aD)→Prop):Prop:=
 match o with
 | some (.dM e' v st pre row post)=>match lk T t with
   | some i=>match i.d with
     | .slt e=>match lk T e with
       | some ei=>tiF ei fun qb LH=>match Nat.beq LH 0,Nat.beq qb 0 with
         | false,false=>match src qb with
           | some aQ=>match Nat.beq ver v,Nat.beq st qb,Nat.beq e' e with
             |true,true,true=>(pre.length+(1+post.length)+aQ.length)*LH≤140737488355328∧K (.aF b (v+1)) [(b,.dM e (v+1) qb pre row (post++aQ))]
             |_,_,_=>False
           |none=>False
         |_,_=>False
       |none=>False
     |_=>False
   |none=>False
 |_=>False
def CP (T:Tab)(H:List (Nat×aD))(t:TypeId)(b ver:Nat)(x:AV)(K:AV→List (Nat×aD)→Prop):Prop:=
 match x with
 |.pv p=>yV T t ver (lk H b) (fun qb=>lQ H qb (.pv p)) b K
 | .aF k kv=>match Nat.beq b k with
   |true=>False
   |false=>yV T t ver (lk H b) (fun qb=>lQ H qb (.aF k kv)) b K
 |_=>False
def X5 (o:Option aD):Bool:=
 match o with
 |some (.dM _ _ _ _ _ _)=>true
 |_=>false
def yc (T:Tab)(H:List (Nat×aD))(t:TypeId)(vs:List AV)(id:Nat)(K:AV→List (Nat×aD)→Prop):Prop:=
 match vs with
 | [d,x]=>match x with
   | .aF k kv=>match X5 (lk H k) with
     |true=>CO T H t d k kv id K
     | false=>match d with
       | .aF b ver=>match X5 (lk H b) with
         |true=>CP T H t b ver (.aF k kv) K
         |false=>uw T H t [.aF b ver,.aF k kv] id K
       |d=>uw T H t [d,.aF k kv] id K
   | x=>match d with
     | .aF b ver=>match X5 (lk H b) with
       |true=>CP T H t b ver x K
       |false=>uw T H t [.aF b ver,x] id K
     |d=>uw T H t [d,x] id K
 |vs=>uw T H t vs id K
section
variable {P:Program}{T:Tab}{c:Ctx}{R:Real}{s:AS}{a:Act}{w:World}
theorem Ic (g:bD c R s a w)(hT:bP P T){id:Nat}(hf:lk s.hp id=none){t:TypeId}{len:Nat}{ks:List Nat}{cs:List AV}{K:AV→List (Nat×aD)→Prop}
  (h:xk T t len ks cs id K) {u:Value} (hv:aj (aU c R s.hp) w s.hp R (.agg cs) u) :
  ∃y w' R' z ws,(Instr.buildSlice t len (ks.zip [u]).toArray).run P w=.ok y w'∧K z ws∧bD c R' (s.app ws) a w'∧aj (aU c R' (ws++s.hp)) w' (ws++s.hp) R' z y:=by
 unfold xk at h;simp only[dG] at h;split at h;rotate_left;exact h.elim
 rename_i i hi;split at h;rotate_left;exact h.elim
 rename_i e hte;split at h;rotate_left;exact h.elim
 rename_i ei q9;split at h;rotate_left;exact h.elim
 rename_i hagg;split at h;rotate_left;exact h.elim
 rename_i h0 h1 h2 h3 h4 h5;have hv0:=hv;simp only[aj] at hv;obtain⟨us,rfl,sJ⟩:=hv;have hl:us.toList.length=cs.length:=by rw[bI] at sJ;exact sJ.length
 have h3:=Nat.eq_of_beq_eq_true h3;subst h3;have h4':=Nat.eq_of_beq_eq_true h4;have g1:=g.NC hv0;have hp:aj (aU (KM c) R s.hp) w s.hp R (.pv (.agg (fF us.toList))) (.agg us):=by
  simp only[aj,bG];exact⟨us,rfl,FH _ ((bI _ _ _ _ _ _).1 sJ).one⟩
 have hb:lU T [] t 1 ks [.pv (.agg (fF us.toList))] id (fun z ws=>z=.aF id 0∧ws=[(id,.arr e 0 ei.size ([]++fF us.toList::[]))]):=by
  unfold lU;simp only[dG,hi,hte,q9,h0,h1,h2];have e1:Nat.ble (1*ei.size) 16777216=true:=by rw[Nat.one_mul];exact h5
  have e2:lT ei (.agg (fF us.toList))=some (fF us.toList):=by simp[lT,hagg]
  have e3:Nat.beq (fF us.toList).length ei.size=true:=by rw[oG,hl];exact h4
  simp only[e1,IC,vw,IE,e2,e3,dY,refs,List.append_nil,J2,List.length_singleton];exact⟨trivial,by simp⟩
 obtain⟨y,w',R',z,ws,hrun,⟨rfl,rfl⟩,g2,hz⟩:=o6 (s:=⟨(c.n,.agg cs)::s.tm,s.nx,s.hp⟩) g1 hT (H:=[]) (fun b box hb=>by simp[lk] at hb) hf hb (us:=[.agg us]) ⟨_,_,rfl,hp,rfl⟩;obtain⟨g3,hr⟩:=bD.AB (tm:=s.tm) (nx:=s.nx) g.size (NE g) g2;simp only[aj] at hr;obtain⟨us',e1,hr⟩:=hr;cases e1;have aiO:lk ([(id,aD.arr e 0 ei.size ([]++fF us.toList::[]))]++s.hp) id=some (.arr e 0 ei.size ([]++fF us.toList::[])):=by
  rw[List.singleton_append,aB,if_pos rfl]
 obtain⟨g4,m4⟩:=g3.JB aiO hr;have hc:∀j,lk ([(id,aD.dM e 0 ei.size [] cs [])]++s.hp) j=lk ((id,aD.dM e 0 ei.size [] cs [])::([(id,aD.arr e 0 ei.size ([]++fF us.toList::[]))]++s.hp)) j:=by
  intro j;simp only[List.singleton_append,aB];split<;>rfl
 exact⟨y,w',R',_,_,hrun,h,bD.congr g4 (fun _=>rfl) hc,xK hc (m4 _ _ hz)⟩
theorem Dj (g:bD c R s a w)(hT:bP P T){H:List (Nat×aD)}(hH:∀b box,lk H b=some box→lk s.hp b=some box){id:Nat}(hf:lk s.hp id=none)
  {t ty:TypeId} {d:AV} {k kv:Nat} {K:AV→List (Nat×aD)→Prop} (h:CO T H t d k kv id K) {u v:Value} (hd:aj (aU c R s.hp) w s.hp R d u) (hx:aj (aU c R s.hp) w s.hp R (.aF k kv) v) :
  ∃y w' R' z ws,(Builtin.append_ #[t,t] ty #[u,v]).run P w=.ok y w'∧K z ws∧bD c R' (s.app ws) a w'∧aj (aU c R' (ws++s.hp)) w' (ws++s.hp) R' z y:=by
 unfold CO at h;simp only[dG] at h;split at h;rotate_left;exact h.elim
 rename_i e0 v0 Pk row hk;have hk':=hH _ _ hk;split at h;rotate_left;exact h.elim
 rename_i hkv;have hkv:=Nat.eq_of_beq_eq_true hkv;subst hkv;split at h;rotate_left;exact h.elim
 rename_i i hi;split at h;rotate_left;exact h.elim
 rename_i e hte;split at h;rotate_left;exact h.elim
 rename_i ei q9;split at h;rotate_left;exact h.elim
 rename_i h1 h2 h3;have h3':=Nat.eq_of_beq_eq_true h3;subst h3';obtain⟨vs,hrow,hvl,g1,m1⟩:=g.tV hk';have hg:aj (aU c R (s.app [(k,.arr e0 kv ei.size ([]++fF vs::[]))]).hp) w (s.app [(k,.arr e0 kv ei.size ([]++fF vs::[]))]).hp R (.agg row) (.agg vs.toArray):=
  m1 _ _ (by simp only[aj];exact⟨_,rfl,by simpa using hrow⟩)
 have g2:=g1.NC hg;have hkk:lk (s.app [(k,.arr e0 kv ei.size ([]++fF vs::[]))]).hp k=some (.arr e0 kv ei.size ([]++fF vs::[])):=by
  simp only[AS.app,List.singleton_append,aB,if_true]
 have hko:∀j,j≠k→lk (s.app [(k,.arr e0 kv ei.size ([]++fF vs::[]))]).hp j=lk s.hp j:=by
  intro j hj;simp only[AS.app,List.singleton_append,aB,if_neg (show ¬k=j from fun e=>hj e.symm)]
 have adZ:id≠k:=fun e=>by rw[e,hk'] at hf;cases hf
 have hsrc:lQ (s.app [(k,.arr e0 kv ei.size ([]++fF vs::[]))]).hp ei.size (.aF k kv)=some [fF vs]:=by
  simp only[lQ,hkk,uK,Nat.beq_refl];simp
 have fin:∀(b:Nat) (nv:Nat) (rows:List (List PV)) (y:Value) (w':World) (R':Real),b≠k →
   bD (KM c) R' (AS.app ⟨(c.n,.agg row)::s.tm,s.nx,(s.app [(k,.arr e0 kv ei.size ([]++fF vs::[]))]).hp⟩ [(b,.arr e nv ei.size (rows++fF vs::[]))]) { a with tmps:=a.tmps.push (.agg vs.toArray) } w' →
   aj (aU (KM c) R' ([(b,.arr e nv ei.size (rows++fF vs::[]))]++(s.app [(k,.arr e0 kv ei.size ([]++fF vs::[]))]).hp)) w' ([(b,.arr e nv ei.size (rows++fF vs::[]))]++(s.app [(k,.arr e0 kv ei.size ([]++fF vs::[]))]).hp) R' (.aF b nv) y →
   bD c R' (s.app [(b,.dM e nv ei.size rows row [])]) a w'∧aj (aU c R' ([(b,.dM e nv ei.size rows row [])]++s.hp)) w' ([(b,.dM e nv ei.size rows row [])]++s.hp) R' (.aF b nv) y:=by
  intro b nv rows y w' R' hbk g3 hz;obtain⟨g4,hr⟩:=bD.AB (tm:=s.tm) (nx:=s.nx) g.size (NE g) g3;simp only[aj] at hr;obtain⟨us',e1,hr⟩:=hr;cases e1;have hr:bO (aU c R' ([(b,aD.arr e nv ei.size (rows++fF vs::[]))]++(s.app [(k,.arr e0 kv ei.size ([]++fF vs::[]))]).hp)) w' ([(b,aD.arr e nv ei.size (rows++fF vs::[]))]++(s.app [(k,.arr e0 kv ei.size ([]++fF vs::[]))]).hp) R' row vs:=by simpa using hr
  have hb4:lk ([(b,aD.arr e nv ei.size (rows++fF vs::[]))]++(s.app [(k,.arr e0 kv ei.size ([]++fF vs::[]))]).hp) b=some (.arr e nv ei.size (rows++fF vs::[])):=by
   rw[List.singleton_append,aB,if_pos rfl]
  obtain⟨g5,m5⟩:=g4.JB hb4 hr;have hr5:=m5 (.agg row) (.agg vs.toArray) (by simp only[aj];exact⟨_,rfl,by simpa using hr⟩);simp only[aj] at hr5;obtain⟨us5,e5,hr5⟩:=hr5;cases e5;have hk5:lk ((b,aD.dM e nv ei.size rows row [])::([(b,aD.arr e nv ei.size (rows++fF vs::[]))]++(s.app [(k,.arr e0 kv ei.size ([]++fF vs::[]))]).hp)) k=some (.arr e0 kv ei.size ([]++fF vs::[])):=by
   rw[aB,if_neg hbk,List.singleton_append,aB,if_neg hbk];exact hkk
  obtain⟨g6,m6⟩:=bD.JB (s:=⟨s.tm,s.nx,(b,aD.dM e nv ei.size rows row [])::([(b,aD.arr e nv ei.size (rows++fF vs::[]))]++(s.app [(k,.arr e0 kv ei.size ([]++fF vs::[]))]).hp)⟩) g5 hk5 hr5;have hc:∀j,lk ([(b,aD.dM e nv ei.size rows row [])]++s.hp) j=lk ((k,aD.dM e0 kv ei.size [] row [])::(b,aD.dM e nv ei.size rows row [])::([(b,aD.arr e nv ei.size (rows++fF vs::[]))]++(s.app [(k,.arr e0 kv ei.size ([]++fF vs::[]))]).hp)) j:=by
   intro j;simp only[List.singleton_append,aB];by_cases e1:k=j
   ·subst e1;rw[if_neg hbk,if_pos rfl];exact hk'
   rw[if_neg e1];split
   ·rfl
   exact (hko j (fun e=>e1 e.symm)).symm
  exact⟨bD.congr g6 (fun _=>rfl) hc,xK hc (m6 _ _ (m5 _ _ hz))⟩
 split at h
 ·obtain⟨hbd,hK⟩:=h;have QK:uL T (s.app [(k,.arr e0 kv ei.size ([]++fF vs::[]))]).hp t [.pv (.sc (.slice none 0 0)),.aF k kv] id (fun z ws=>z=.aF id 0∧ws=[(id,.arr e 0 ei.size ([]++fF vs::[]))]):=by
   unfold uL;simp only[dG,hi,hte,q9,h1,h2,hsrc];exact⟨by simpa using hbd,trivial,by simp⟩
  obtain⟨y,w',R',z,ws,hrun,⟨rfl,rfl⟩,g3,hz⟩:=sI (s:=⟨(c.n,.agg row)::s.tm,s.nx,(s.app [(k,.arr e0 kv ei.size ([]++fF vs::[]))]).hp⟩) g2 hT (fun _ _ h=>h) (by rw[hko id adZ];exact hf) (ty:=ty) QK (m1 _ _ hd) (m1 _ _ hx);obtain⟨g4,hz4⟩:=fin id 0 [] y w' R' adZ g3 hz;exact⟨y,w',R',_,_,hrun,hK,g4,hz4⟩
 ·rename_i b ver;split at h
  ·exact h.elim
  rename_i hbk;have hbk:=Nat.ne_of_beq_eq_false hbk;split at h;rotate_left;exact h.elim
  rename_i e' vr st rows hb;have hb':=hH _ _ hb;split at h;rotate_left;exact h.elim
  rename_i k1 k2 k3;obtain⟨hbd,hK⟩:=h;have k1':=Nat.eq_of_beq_eq_true k1;have k2':=Nat.eq_of_beq_eq_true k2;have k3':=Nat.eq_of_beq_eq_true k3;subst k1';subst k2';subst k3';have uM:lk (s.app [(k,.arr e0 kv ei.size ([]++fF vs::[]))]).hp b=some (.arr e' ver ei.size rows):=by rw[hko b hbk];exact hb'
  have QK:uL T (s.app [(k,.arr e0 kv ei.size ([]++fF vs::[]))]).hp t [.aF b ver,.aF k kv] id (fun z ws=>z=.aF b (ver+1)∧ws=[(b,.arr e' (ver+1) ei.size (rows++fF vs::[]))]):=by
   unfold uL;simp only[dG,hi,hte,q9,h1,h2,hsrc,uM,Nat.beq_refl];exact⟨by simpa using hbd,trivial,by simp⟩
  obtain⟨y,w',R',z,ws,hrun,⟨rfl,rfl⟩,g3,hz⟩:=sI (s:=⟨(c.n,.agg row)::s.tm,s.nx,(s.app [(k,.arr e0 kv ei.size ([]++fF vs::[]))]).hp⟩) g2 hT (fun _ _ h=>h) (by rw[hko id adZ];exact hf) (ty:=ty) QK (m1 _ _ hd) (m1 _ _ hx);obtain⟨g4,hz4⟩:=fin b (ver+1) rows y w' R' hbk g3 hz;exact⟨y,w',R',_,_,hrun,hK,g4,hz4⟩
 exact h.elim
theorem GY (g:bD c R s a w)(hT:bP P T){H:List (Nat×aD)}(hH:∀b box,lk H b=some box→lk s.hp b=some box){id:Nat}(hf:lk s.hp id=none)
  {t:TypeId} {len:Nat} {ks:List Nat} {vs:List AV} {K:AV→List (Nat×aD)→Prop} (h:qc T H t len ks vs id K) {us:List Value} (hv:FL (aj (aU c R s.hp) w s.hp R) vs us) :
  ∃y w' R' z ws,(Instr.buildSlice t len (ks.zip us).toArray).run P w=.ok y w'∧K z ws∧bD c R' (s.app ws) a w'∧aj (aU c R' (ws++s.hp)) w' (ws++s.hp) R' z y:=by
 unfold qc at h;split at h
 ·split at h
  ·obtain⟨u,r,rfl,h1,h2⟩:=hv;simp only[FL] at h2;subst h2;exact Ic g hT hf h h1
  exact o6 g hT hH hf h hv
 exact o6 g hT hH hf h hv
theorem Dk (g:bD c R s a w)(hT:bP P T){H:List (Nat×aD)}(hH:∀b box,lk H b=some box→lk s.hp b=some box){id:Nat}(hf:lk s.hp id=none)
  {t ty:TypeId} {b ver:Nat} {x:AV} {K:AV→List (Nat×aD)→Prop} (h:CP T H t b ver x K) {u v:Value} (hd:aj (aU c R s.hp) w s.hp R (.aF b ver) u) (hx:aj (aU c R s.hp) w s.hp R x v) :
  ∃y w' R' z ws,(Builtin.append_ #[t,t] ty #[u,v]).run P w=.ok y w'∧K z ws∧bD c R' (s.app ws) a w'∧aj (aU c R' (ws++s.hp)) w' (ws++s.hp) R' z y:=by
 have key:∀(src:Nat→Option (List (List PV))),yV T t ver (lk H b) src b K →
   (∀(H':List (Nat×aD)) qb rows,(∀j,j≠b→∀box,lk H j=some box→lk H' j=some box)→src qb=some rows→lQ H' qb x=some rows) →
   ∃y w' R' z ws,(Builtin.append_ #[t,t] ty #[u,v]).run P w=.ok y w'∧K z ws∧bD c R' (s.app ws) a w'∧aj (aU c R' (ws++s.hp)) w' (ws++s.hp) R' z y:=by
  intro src h hsrc;unfold yV at h;simp only[dG] at h;split at h;rotate_left;exact h.elim
  rename_i e' vr st pre row post hb;have hb':=hH _ _ hb;split at h;rotate_left;exact h.elim
  rename_i i hi;split at h;rotate_left;exact h.elim
  rename_i e hte;split at h;rotate_left;exact h.elim
  rename_i ei q9;split at h;rotate_left;exact h.elim
  rename_i h1 h2;split at h;rotate_left;exact h.elim
  rename_i aQ hrows;split at h;rotate_left;exact h.elim
  rename_i k1 k2 k3;obtain⟨hbd,hK⟩:=h;have k1':=Nat.eq_of_beq_eq_true k1;have k2':=Nat.eq_of_beq_eq_true k2;have k3':=Nat.eq_of_beq_eq_true k3;subst k1';subst k2';subst k3';obtain⟨vs,hrow,hvl,g1,m1⟩:=g.tV hb';have hA:aj (aU c R (s.app [(b,.arr e' ver ei.size (pre++fF vs::post))]).hp) w (s.app [(b,.arr e' ver ei.size (pre++fF vs::post))]).hp R (.agg row) (.agg vs.toArray):=
   m1 _ _ (by simp only[aj];exact⟨_,rfl,by simpa using hrow⟩)
  have g2:=g1.NC hA;have uM:lk (s.app [(b,.arr e' ver ei.size (pre++fF vs::post))]).hp b=some (.arr e' ver ei.size (pre++fF vs::post)):=by
   simp only[AS.app,List.singleton_append,aB,if_true]
  have hsr:=hsrc (s.app [(b,.arr e' ver ei.size (pre++fF vs::post))]).hp ei.size aQ (fun j hj box hbx=>by
   simp only[AS.app,List.singleton_append,aB,if_neg (show ¬b=j from fun e=>hj e.symm)];exact hH _ _ hbx) hrows
  have hl:(pre++fF vs::post).length=pre.length+(1+post.length):=by simp[Nat.add_comm]
  have ad1:id≠b:=fun e=>by rw[e,hb'] at hf;cases hf
  have QK:uL T (s.app [(b,.arr e' ver ei.size (pre++fF vs::post))]).hp t [.aF b ver,x] id (fun z ws=>z=.aF b (ver+1)∧ws=[(b,.arr e' (ver+1) ei.size ((pre++fF vs::post)++aQ))]):=by
   unfold uL;simp only[dG,hi,hte,q9,h1,h2,hsr,uM,Nat.beq_refl];exact⟨by rw[hl];exact hbd,trivial,trivial⟩
  obtain⟨y,w',R',z,ws,hrun,⟨rfl,rfl⟩,g3,hz⟩:=sI (s:=⟨(c.n,.agg row)::s.tm,s.nx,(s.app [(b,.arr e' ver ei.size (pre++fF vs::post))]).hp⟩) g2 hT (fun _ _ h=>h) (by
   simp only[AS.app,List.singleton_append,aB,if_neg (show ¬b=id from fun e=>ad1 e.symm)];exact hf) (ty:=ty) QK (m1 _ _ hd) (m1 _ _ hx)
  obtain⟨g4,hr⟩:=bD.AB (tm:=s.tm) (nx:=s.nx) g.size (NE g) g3;simp only[aj] at hr;obtain⟨us',e1,hr⟩:=hr;cases e1;have hb4:lk ([(b,aD.arr e' (ver+1) ei.size ((pre++fF vs::post)++aQ))]++(s.app [(b,.arr e' ver ei.size (pre++fF vs::post))]).hp) b=some (.arr e' (ver+1) ei.size (pre++fF vs::(post++aQ))):=by
   rw[List.singleton_append,aB,if_pos rfl,List.append_assoc,List.cons_append]
  obtain⟨g5,m5⟩:=g4.JB hb4 hr;have hc:∀j,lk ([(b,aD.dM e' (ver+1) ei.size pre row (post++aQ))]++s.hp) j =
    lk ((b,aD.dM e' (ver+1) ei.size pre row (post++aQ))::([(b,aD.arr e' (ver+1) ei.size ((pre++fF vs::post)++aQ))]++(s.app [(b,.arr e' ver ei.size (pre++fF vs::post))]).hp)) j:=by
   intro j;simp only[AS.app,List.singleton_append,aB];split<;>rfl
  exact⟨y,w',R',_,_,hrun,hK,bD.congr g5 (fun _=>rfl) hc,xK hc (m5 _ _ hz)⟩
 unfold CP at h;split at h
 ·refine key _ h fun H' qb rows _ hr=>?_
  unfold lQ at hr ⊢;split at hr
  ·rename_i e;cases e;exact hr
  ·rename_i e;cases e;exact hr
  ·rename_i e;cases e
  ·rename_i e;cases e
  cases hr
 ·rename_i k kv;split at h
  ·exact h.elim
  rename_i hbk;have hbk:=Nat.ne_of_beq_eq_false hbk;refine key _ h fun H' qb rows hH' hr=>?_
  simp only[lQ] at hr ⊢;cases hk:lk H k with
  |none=>rw[hk] at hr;simp[uK] at hr
  |some bx=>rw[hH' k (fun e=>hbk e.symm) bx hk,←hk];exact hr
 exact h.elim
theorem Dn (g:bD c R s a w)(hT:bP P T){H:List (Nat×aD)}(hH:∀b box,lk H b=some box→lk s.hp b=some box){id:Nat}(hf:lk s.hp id=none)
  {t ty:TypeId} {d x:AV} {K:AV→List (Nat×aD)→Prop} (h:yc T H t [d,x] id K) {u v:Value} (hd:aj (aU c R s.hp) w s.hp R d u) (hx:aj (aU c R s.hp) w s.hp R x v) :
  ∃y w' R' z ws,(Builtin.append_ #[t,t] ty #[u,v]).run P w=.ok y w'∧K z ws∧bD c R' (s.app ws) a w'∧aj (aU c R' (ws++s.hp)) w' (ws++s.hp) R' z y:=by
 unfold yc at h;simp only at h;split at h
 ·split at h
  ·exact Dj g hT hH hf h hd hx
  split at h
  ·split at h
   ·exact Dk g hT hH hf h hd hx
   exact ql g hT hH hf h hd hx
  exact ql g hT hH hf h hd hx
 split at h
 ·split at h
  ·exact Dk g hT hH hf h hd hx
  exact ql g hT hH hf h hd hx
 exact ql g hT hH hf h hd hx
end
def tX (R:Real)(b r:Nat):Prop:=∃v,some v∈(R.cap b).2∧v.ownBlock=some r
def bC (st:Nat):Nat→List Value→List (List PV)
 |0,_=>[]
 |n+1,xs=>fF (xs.take st)::bC st n (xs.drop st)
theorem jP (st:Nat):∀(n:Nat) (xs:List Value),(bC st n xs).length=n
 |0,_=>rfl
 |n+1,xs=>by simp[bC,jP st n]
theorem FQ {N:Nat→Prop}{w:World}{st:Nat}:∀{n:Nat} {xs:List Value},n*st≤xs.length→(∀v∈xs.take (n*st),v.oneCell'=true)→bL N w st (bC st n xs) xs
 |0,_,_,_=>by simp only[bC,bL]
 | n+1,xs,hl,h1=>by
   rw[Nat.succ_mul] at hl h1;simp only[bC,bL,oG,List.length_take];refine⟨by omega,?_,FQ (by rw[List.length_drop];omega) fun v hv=>h1 v ?_⟩
   ·have:=FD (N:=N) (w:=w) (xs.take st) (xs.drop st) fun v hv=>h1 v (by
     refine List.mem_of_mem_take (i:=st) ?_;rw[List.take_take,Nat.min_eq_left (by omega)];exact hv)
    rwa [List.take_append_drop] at this
   rw[show n*st+st=st+n*st by omega,List.take_add];exact List.mem_append_right _ hv
theorem Ca {N:Nat→Prop}{w:World}{st:Nat}:∀{n:Nat} {xs ys:List Value},n*st≤xs.length→bL N w st (bC st n xs) ys→ys.take (n*st)=xs.take (n*st)
 |0,_,_,_,_=>by simp
 | n+1,xs,ys,hl,h=>by
   rw[Nat.succ_mul] at hl ⊢;simp only[bC,bL,oG,List.length_take] at h;obtain⟨h1,h2,h3⟩:=h;obtain⟨r,hr⟩:=FE _ _ h2;have ih:=Ca (by rw[List.length_drop];omega) h3;rw[show n*st+st=st+n*st by omega,List.take_add,List.take_add,ih];congr 1
   rw[hr,List.take_append_of_le_length (by rw[List.length_take];omega),List.take_take,Nat.min_self]
section
variable {N:Nat→Prop}{w:World}{st j:Nat}{ed:TypeId}{sd:Nat}
theorem NP {ps:List PV}{xs:List Value}(h:fP N w ps xs):ps.length≤xs.length∧∀v∈xs.take ps.length,v.oneCell'=true:=by
 rw[cZ] at h;exact⟨h.length,h.take.one⟩
theorem NQ {ps:List PV}{xs ys:List Value}(h:fP N w ps xs)(e:ys.take ps.length=xs.take ps.length):fP N w ps ys:=by
 have h':=h;rw[cZ] at h;have h2:=h.take;rw[←e] at h2;have h3:=FP.app (ys.drop ps.length) h2.fp;rw[List.take_append_drop] at h3;rw[cZ];exact h3
theorem wD:∀{hs:List (Option Value)} {rs:List (Bool×List PV)} {xs:List Value},dI N w st j ed sd hs rs xs→hs.length=rs.length∧rs.length*st≤xs.length∧∀v∈xs.take (rs.length*st),v.oneCell'=true
 |[],[],xs,_=>by simp
 |[],_::_,xs,h=>by simp only[dI] at h
 |_::_,[],xs,h=>by simp only[dI] at h
 | h::hs,(fl,r)::rs,xs,hh=>by
   simp only[dI] at hh;obtain⟨h1,h2,h3⟩:=hh;obtain⟨i1,i2,i3⟩:=wD h3;have hp:st≤xs.length∧∀v∈xs.take st,v.oneCell'=true:=by
    cases h with
    | none=>cases fl with
      |false=>have:=NP h2;rw[h1] at this;exact this
      |true=>exact h2.elim
    | some v=>cases fl with
      |false=>exact h2.elim
      | true=>
        obtain⟨rr,ys,a1,a0,a2,a3,a4⟩:=h2;have:=NP a2;rw[List.length_set,h1] at this;exact this
   rw[List.length_drop] at i2;refine⟨by simp[i1],by rw[List.length_cons,Nat.succ_mul];omega,fun v hv=>?_⟩;rw[List.length_cons,Nat.succ_mul,Nat.add_comm,List.take_add] at hv;rcases List.mem_append.1 hv with hv|hv
   ·exact hp.2 v hv
   exact i3 v hv
theorem AO:∀{hs:List (Option Value)} {rs:List (Bool×List PV)} {xs ys:List Value},dI N w st j ed sd hs rs xs→ys.take (rs.length*st)=xs.take (rs.length*st)→dI N w st j ed sd hs rs ys
 |[],[],xs,ys,_,_=>by simp only[dI]
 |[],_::_,xs,ys,h,_=>by simp only[dI] at h
 |_::_,[],xs,ys,h,_=>by simp only[dI] at h
 | h::hs,(fl,r)::rs,xs,ys,hh,e=>by
   simp only[dI] at hh ⊢;obtain⟨h1,h2,h3⟩:=hh;rw[List.length_cons,Nat.succ_mul] at e;have e1:ys.take st=xs.take st:=by
    have:=congrArg (List.take st) e;rwa [List.take_take,List.take_take,Nat.min_eq_left (by omega)] at this
   have e2:(ys.drop st).take (rs.length*st)=(xs.drop st).take (rs.length*st):=by
    rw[List.take_drop,List.take_drop,Nat.add_comm st,e]
   refine⟨h1,?_,AO h3 e2⟩;cases h with
   | none=>cases fl with
     |false=>exact NQ h2 (by rw[h1];exact e1)
     |true=>exact h2.elim
   | some v=>cases fl with
     |false=>exact h2.elim
     | true=>
       obtain⟨rr,zs,a1,a0,a2,a3,a4⟩:=h2;exact⟨rr,zs,a1,a0,NQ a2 (by rw[List.length_set,h1];exact e1),a3,a4⟩
theorem zo:∀{hs:List (Option Value)} {rs:List (Bool×List PV)} {xs:List Value},dI N w st j ed sd hs rs xs→∀v,some v∈hs→∀r,v.ownBlock=some r→∃cur,w.heap[r]? = some (.cells cur ed (0,0))
 |[],_,_,_,v,hv=>by simp at hv
 |_::_,[],xs,h,_,_=>by simp only[dI] at h
 | h::hs,(fl,r)::rs,xs,hh,v,hv=>by
   intro k hk;simp only[dI] at hh;obtain⟨h1,h2,h3⟩:=hh;rcases List.mem_cons.1 hv with e|hv
   ·subst e;cases fl with
    |false=>exact h2.elim
    | true=>
      obtain⟨rr,ys,a1,a0,a2,⟨_,a3⟩,a4⟩:=h2;rcases a3 with ⟨e,_⟩|⟨g,cap,cur,e,_,hg,_⟩
      ·subst e;simp[Value.ownBlock] at hk
      subst e;simp only[Value.ownBlock,Option.some.injEq] at hk;subst hk;exact⟨cur,hg⟩
   exact zo h3 v hv k hk
end
section
variable {N N':Nat→Prop}{w:World}{hp hp':List (Nat×aD)}{R R':Real}
theorem zq (hN:∀r,N' r→N r)(h1:∀b off v,aX R b off v (lk hp b)→aX R' b off v (lk hp' b))(h2:∀b ver v,aT R b ver v (lk hp b)→aT R' b ver v (lk hp' b))
  (h3:∀b ver i off v,aZ R b ver i off v (lk hp b)→aZ R' b ver i off v (lk hp' b)) (hY:R'.Y=R.Y) {b:Nat} (e1:R'.blk b=R.blk b) (e2:R'.nil b=R.nil b) (e3:R'.cap b=R.cap b) {box:aD}
  (h:eG N w hp R b box):eG N' w hp' R' b box:=by
 have Yf:∀r,r<w.heap.size→N' r→N r:=fun r _=>hN r
 have hw:∀r,r<w.heap.size→¬N r→w.heap[r]? = w.heap[r]? :=fun _ _ _=>rfl
 have es:∀n,bW R' b n=bW R b n:=fun n=>by simp only[bW,e1,e2,e3]
 cases box with
 | var cells=>
   obtain⟨cur,e,a1,a2⟩:=h;exact⟨cur,e,by rw[e1];exact a1,bK Yf hw h1 h2 h3 _ _ a2⟩
 | sF cells=>
   obtain⟨cur,e,fr,a1,a2,a3⟩:=h;exact⟨cur,e,fr,by rw[e1];exact a1,by rw[e1];exact fun x=>a2 (hN _ x),bV Yf hw _ _ a3⟩
 | arr e ver st rows=>
   obtain⟨xs,a1,a2⟩:=h;exact⟨xs,by rw[es];exact a1,aW Yf hw _ _ _ a2⟩
 | kG ver st rows=>
   simp only[eG,es] at h ⊢;exact dA Yf hw _ _ h
 | tr y ver rest st=>
   obtain⟨k0,kh,k1,k2,k3,k4⟩:=h;refine⟨k0,by rw[hY];exact kh,by rw[hY,e2];exact k1,by rw[hY];exact k2,by rw[hY];exact k3,fun r hn=>by rw[hY];exact k4 r (hN r hn)⟩
 | mp kk kv es=>
   obtain⟨cur,clock,a1,a2,a3⟩:=h;exact⟨cur,clock,by rw[e1];exact a1,by rw[e2];exact a2,a3⟩
 | dM e ver st pre row post=>
   obtain⟨xs,a1,a2,a3,a4,a5⟩:=h;exact⟨xs,by rw[es];exact a1,aW Yf hw _ _ _ a2,a3,bK Yf hw h1 h2 h3 _ _ a4,aW Yf hw _ _ _ a5⟩
 | fK e ver st j ed sd pre row post=>
   exact jJ Yf hw e1 e2 e3 (fun _ _=>rfl) rfl (fun vs h=>bK Yf hw h1 h2 h3 _ _ h) h
end
end Go.AX
end
