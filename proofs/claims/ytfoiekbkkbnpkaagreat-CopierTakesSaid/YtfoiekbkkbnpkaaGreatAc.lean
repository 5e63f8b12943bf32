/-
  Conditions: none. A framework for walks: abstract values, memory, and conditions that suffice; the chapters in plain terms.
-/
import Derived.Test.YtfoiekbkkbnpkaaGreatAb
import Derived.TacticsIn
set_option linter.unusedSectionVars false
set_option linter.unusedVariables false
set_option linter.unusedSimpArgs false
section
namespace Go.AX
theorem yP {N:Nat→Prop}{w:World}{hp:List (Nat×av)}{R:Real}{v:AV}{g:Fn}{a' c':List AV}{x:Value}(nD:Ig v=some (g,a',c'))(hx:ah N w hp R v x) :
  ∃fs cs:Array Value,x=.func g fs cs∧bB N w hp R a' fs.toList∧bB N w hp R c' cs.toList:=by
 unfold Ig at nD;split at nD
 ·simp only[Option.some.injEq,Prod.mk.injEq] at nD;obtain⟨rfl,rfl,rfl⟩:=nD;simpa only[ah] using hx
 ·simp only[Option.some.injEq,Prod.mk.injEq] at nD;obtain⟨rfl,rfl,rfl⟩:=nD;simp only[ah,aU] at hx;obtain⟨fs,cs,e,h3,h4⟩:=hx;exact⟨fs,cs,e,kz _ _ h3,kz _ _ h4⟩
 cases nD
theorem qm {N:Nat→Prop}{w:World}{hp:List (Nat×av)}{R:Real}{vs us:List AV}{xs ys:List Value}(h:bB N w hp R vs xs)(h':bB N w hp R us ys):bB N w hp R (vs++us) (xs++ys):=by
 rw[bZ] at h h' ⊢;exact h.app h'
def K2 (R:Real)(dU:Ren)(hp:List (Nat×av))(v:AV)(x:Value):Prop:=
 match v with
 |.ptr k off=>k<999∧∃b d,lk dU k=some (b,d)∧aI R b off x (lk hp b)
 |.aG k ver=>k<999∧∃b d,lk dU k=some (b,d)∧aD R b (ver+d) x (lk hp b)
 |.cB k ver i off=>k<999∧∃b d,lk dU k=some (b,d)∧aK R b (ver+d) i off x (lk hp b)
 |_=>False
section
variable {P:Program}{c:Ctx}{R:Real}{s:AS}{a:Act}{w:World}
def DD (R:Real)(inv:Inv)(hp:List (Nat×av))(r:Nat):Prop:=∃b k d,lk inv b=some (k,d)∧ax R b r (lk hp b)
def yQ (g:aR c R s a w)(inv:Inv)(dU:Ren):Ctx where
 F r:=aH c R s.hp r∧¬DD R inv s.hp r
 O:=DD R inv s.hp
 w:=w
 n:=0
 hF r h:=g.UD h.1
 K:=K2 R dU s.hp
 hK v x h:=by
  cases v<;>simp only[K2] at h<;>have h:=h.1<;>simp only[fQ,Bool.and_eq_true,Nat.blt_eq,Bool.not_eq_true']<;>first
   |omega
   |exact⟨by omega,by cases hb:Nat.beq _ 999 with|false=>rfl|true=>(have:=Nat.eq_of_beq_eq_true hb;omega)⟩
 fix _:=none
 n0:=R.Y.n0
 lo:=w.heap.size
theorem Nu (g:aR c R s a w){inv:Inv}{dU:Ren}{dY:List (Nat×av)}(h1:∀b k d,lk inv b=some (k,d)→lk dU k=some (b,d))(h1':∀b k d,lk dU k=some (b,d)→lk inv b=some (k,d))
  (h2:∀k b d,lk dU k=some (b,d)→∃box,lk s.hp b=some box∧d=j4 box∧lk dY k=some (iN inv box))
  (h3:∀k box0,lk dY k=some box0→∃b box,lk dU k=some (b,j4 box)∧lk s.hp b=some box∧box0=iN inv box) (h4:∀k x y z u,lk dY k≠some (.tr x y z u)) :
  xk (yQ g inv dU) (Gt dU R) dY w∧(∀r,aH (yQ g inv dU) (Gt dU R) dY r→aH c R s.hp r):=by
 have ho:∀k r,ax (Gt dU R) k r (lk dY k)→∃b d,lk dU k=some (b,d)∧ax R b r (lk s.hp b):=by
  intro k r h;cases hk:lk dY k with
  |none=>rw[hk] at h;exact h.elim
  | some box0=>
    obtain⟨b,box,a1,a2,rfl⟩:=h3 k box0 hk;obtain⟨e1,e2,e3⟩:=yN (R:=R) a1;refine⟨b,_,a1,?_⟩;rw[hk] at h;rw[a2];cases box<;>simp only[ax,iN,e1,e2,e3] at h ⊢ <;> exact h
 have hod:∀r,owned (Gt dU R) dY r→DD R inv s.hp r:=by
  rintro r ⟨k,h⟩
  obtain⟨b,d,a1,a2⟩:=ho k r h;exact⟨b,k,d,h1' b k d a1,a2⟩
 have hN:∀r,aH (yQ g inv dU) (Gt dU R) dY r→aH c R s.hp r:=by
  rintro r (h|h)
  ·exact h.1
  obtain⟨b,k,d,_,h⟩:=hod r h;exact .inr ⟨b,h⟩
 refine⟨⟨fun k box0 hk=>?_,fun k k' r ha hb=>?_,fun r hr hF=>hF.2 (hod r hr),iZ.refl _ _,fun r hr=>.inl (hod r hr),fun v x hK=>?_,ou.none,⟨rfl,by show R.Y.n0.1≤w.heap.size;rw[g.lo.1];exact Nat.le_trans g.lo.2.1 g.lo.2.2,Nat.le_refl _⟩⟩,hN⟩
 ·obtain⟨b,box,a1,a2,rfl⟩:=h3 k box0 hk;obtain⟨e1,e2,e3⟩:=yN (R:=R) a1;have hr:=g.boxes b box a2;cases box with
  | var cells=>
    obtain⟨cur,e,b1,b2⟩:=hr;exact⟨cur,e,by rw[e1];exact b1,mQ h1 h2 hN _ _ b2⟩
  | ny cells=>
    obtain⟨cur,e,fr,b1,b2,b3⟩:=hr;exact⟨cur,e,fr,by rw[e1];exact b1,by rw[e1];exact fun h=>b2 (hN _ h),bL (fun r _ h=>hN r h) (fun _ _ _=>rfl) _ _ b3⟩
  | arr e ver st rows=>
    obtain⟨xs,b1,b2⟩:=hr;exact⟨xs,by rw[CX a1];exact b1,aN (fun r _ h=>hN r h) (fun _ _ _=>rfl) _ _ _ b2⟩
  | bX ver st rows=>
    simp only[iN,dm,CX a1] at hr ⊢;exact bN (fun r _ h=>hN r h) (fun _ _ _=>rfl) _ _ hr
  |tr y ver rest st=>exact absurd hk (h4 _ _ _ _ _)
  | mp kk kv es=>
    obtain⟨cur,clock,b1,b2,b3⟩:=hr;exact⟨cur,clock,by rw[e1];exact b1,by rw[e2];exact b2,b3⟩
  |bR e ver st j ed sd pre row post=>exact gQ (fun r _ h=>hN r h) (fun _ _ _=>rfl) e1 e2 e3 (fun _ _=>rfl) (ql _ _) (fun vs h=>mQ h1 h2 hN _ _ h) hr
  | dL e ver st pre row post=>
    obtain⟨xs,b1,b2,b3,b4,b5⟩:=hr;refine⟨xs,by rw[CX a1];exact b1,aN (fun r _ h=>hN r h) (fun _ _ _=>rfl) _ _ _ b2,by rw[ql];exact b3,mQ h1 h2 hN _ _ b4,aN (fun r _ h=>hN r h) (fun _ _ _=>rfl) _ _ _ b5⟩
 ·obtain⟨b,d,a1,a2⟩:=ho k r ha;obtain⟨b',d',b1,b2⟩:=ho k' r hb;have:=g.inj b b' r a2 b2;subst this;have e1:=h1' b k d a1;have e2:=h1' b k' d' b1;rw[e1] at e2;simp only[Option.some.injEq,Prod.mk.injEq] at e2;exact e2.1
 cases v<;>simp only[yQ,K2] at hK
 ·obtain⟨_,b,d,a1,a2⟩:=hK;simp only[ah];exact yO h1 h2 (h1' b _ d a1) a2
 ·obtain⟨_,b,d,a1,a2⟩:=hK;simp only[ah];have:=Bo h1 h2 (h1' b _ d a1) (Nat.le_add_left _ _) a2;rwa [Nat.add_sub_cancel] at this
 obtain⟨_,b,d,a1,a2⟩:=hK;simp only[ah];have:=uV h1 h2 (h1' b _ d a1) (Nat.le_add_left _ _) a2;rwa [Nat.add_sub_cancel] at this
theorem JI (g:aR c R s a w){inv:Inv}{dU ρ:Ren}{hp':List (Nat×av)}{R2:Real}{w':World}{id:Nat}
  (h1:∀b k d,lk inv b=some (k,d)→lk dU k=some (b,d)) (h1':∀b k d,lk dU k=some (b,d)→lk inv b=some (k,d))
  (h2:∀k b d,lk dU k=some (b,d)→∃box,lk s.hp b=some box∧d=j4 box) (h4:∀k b d,lk dU k=some (b,d)→∀x y z u,lk s.hp b≠some (.tr x y z u))
  (Bq:∀k p,lk dU k=some p→k<999∧∃box,lk hp' k=some box) (hnew:∀b∈pJ dU id hp',lk s.hp b=none) (hkeys:rH hp'=true)
  (hρ:ρ=uS dU id hp') (Nv:∀k x y z u,lk hp' k≠some (.tr x y z u)) (h:xk (yQ g inv dU) R2 hp' w') :
  aR c (Qe ρ R R2 hp') (s.app (fe ρ hp')) a w' ∧
   ∀v x,ah (aH (yQ g inv dU) R2 hp') w' hp' R2 v x→ah (aH c (Qe ρ R R2 hp') (fe ρ hp'++s.hp)) w' (fe ρ hp'++s.hp) (Qe ρ R R2 hp') (je ρ v) x:=by
 have K9:∀k box,lk hp' k=some box→(∃b d,lk dU k=some (b,d)∧gy ρ k=b∧wS ρ k=d)∨(lk dU k=none∧gy ρ k=id+1000000*k∧wS ρ k=0∧lk s.hp (gy ρ k)=none):=by
  intro k box hk;have e:lk ρ k=some (yK dU id k):=by rw[hρ,Bn,hk];rfl
  cases hf:lk dU k with
  | some p=>
    obtain⟨b,d⟩:=p;refine .inl ⟨b,d,rfl,?_,?_⟩<;>simp[gy,wS,e,yK,hf]
  | none=>
    have e1:gy ρ k=id+1000000*k:=by simp[gy,e,yK,hf]
    refine .inr ⟨rfl,e1,by simp[wS,e,yK,hf],?_⟩;rw[e1];exact hnew _ (yM hk hf)
 have hinj:∀k k' box aV,lk hp' k=some box→lk hp' k'=some aV→gy ρ k'=gy ρ k→k'=k:=by
  intro k k' box aV hk hk' e;rcases K9 k box hk with ⟨b,d,a1,a2,a3⟩|⟨a1,a2,a3,a4⟩<;>rcases K9 k' aV hk' with ⟨b',d',b1,b2,b3⟩|⟨b1,b2,b3,b4⟩
  ·rw[a2,b2] at e;subst e;have e1:=h1' _ k d a1;have e2:=h1' _ k' d' b1;rw[e1] at e2;simp only[Option.some.injEq,Prod.mk.injEq] at e2;exact e2.1.symm
  ·obtain⟨bx,c1,_⟩:=h2 k b d a1;rw[e,a2,c1] at b4;cases b4
  ·obtain⟨bx,c1,_⟩:=h2 k' b' d' b1;rw[←e,b2,c1] at a4;cases a4
  rw[a2,b2] at e;omega
 have hit:∀k box,lk hp' k=some box→lk (hp'.map fun x=>(gy ρ x.1,x.1)) (gy ρ k)=some k:=fun k box hk=>
  ET (fun k' aV hk' e=>hinj k k' box aV hk hk' e) hkeys hk
 generalize hX:(hp'.map fun x=>(gy ρ x.1,x.1))=X at hit;let R':=Qe ρ R R2 hp'
 have hRk:∀k box,lk hp' k=some box→R'.blk (gy ρ k)=R2.blk k∧R'.nil (gy ρ k)=R2.nil k∧R'.cap (gy ρ k)=R2.cap k:=by
  intro k box hk;have:=hit k box hk;rw[←hX] at this;simp only[R',Qe,this];exact⟨trivial,trivial,trivial⟩
 have Vw:∀b,lk X b=none→R'.blk b=R.blk b∧R'.nil b=R.nil b∧R'.cap b=R.cap b:=by
  intro b hb;rw[←hX] at hb;simp only[R',Qe,hb];exact⟨trivial,trivial,trivial⟩
 have hlk:∀k box,lk hp' k=some box→lk (fe ρ hp'++s.hp) (gy ρ k)=some (dI ρ k box):=by
  intro k box hk;have:=hit k box hk;rw[←hX] at this;obtain⟨_,bx,c1,c2⟩:=uW hkeys this;rw[hk] at c1;cases c1;have hmem:∀{l l':List (Nat×av)} {b:Nat} {y:av},lk l b=some y→lk (l++l') b=some y:=by
   intro l l' b y;induction l with
   |nil=>intro h;simp[lk] at h
   | cons z l ih=>
     obtain⟨zk,zv⟩:=z;intro h;rw[List.cons_append,aj];rw[aj] at h;split at h
     ·rename_i e;rw[if_pos e];exact h
     rename_i e;rw[if_neg e];exact ih h
  exact hmem c2
 have hln:∀b,lk X b=none→lk (fe ρ hp'++s.hp) b=lk s.hp b:=by
  intro b hb;rw[←hX] at hb;have:=Bp hb;have hmem:∀{l l':List (Nat×av)} {b:Nat},lk l b=none→lk (l++l') b=lk l' b:=by
   intro l l' b;induction l with
   |nil=>intro _;rfl
   | cons z l ih=>
     obtain⟨zk,zv⟩:=z;intro h;rw[List.cons_append,aj];rw[aj] at h;split at h
     ·cases h
     rename_i e;rw[if_neg e];exact ih h
  exact hmem this
 have hcase:∀b,lk X b=none∨∃k box,b=gy ρ k∧lk hp' k=some box:=by
  intro b;cases hb:lk X b with
  |none=>exact .inl rfl
  | some k=>
    rw[←hX] at hb;obtain⟨e,bx,c1,_⟩:=uW hkeys hb;exact .inr ⟨k,bx,e,c1⟩
 have hXd:∀b k d,lk inv b=some (k,d)→lk X b≠none:=by
  intro b k d hb hn;have hf:=h1 b k d hb;obtain⟨_,bx,hk⟩:=Bq k _ hf;have:=hit k bx hk;rcases K9 k bx hk with ⟨b',d',a1,a2,a3⟩|⟨a1,_⟩
  ·rw[hf] at a1;simp only[Option.some.injEq,Prod.mk.injEq] at a1;rw[a2,←a1.1,hn] at this;cases this
  rw[hf] at a1;cases a1
 have vT:∀b r,lk X b=none→ax R' b r (lk (fe ρ hp'++s.hp) b)→ax R b r (lk s.hp b):=by
  intro b r hb h';rw[hln b hb] at h';exact bU (Vw b hb) rfl h'
 have vU:∀k box r,lk hp' k=some box→ax R' (gy ρ k) r (lk (fe ρ hp'++s.hp) (gy ρ k))→ax R2 k r (lk hp' k):=by
  intro k box r hk h';rw[hlk k box hk] at h';rw[hk];obtain⟨e1,e2,e3⟩:=hRk k box hk;cases box<;>simp only[ax,dI,e1,e2,e3] at h' ⊢ <;> first
   |exact h'
   |exact absurd hk (Nv _ _ _ _ _)
 have Vx:∀b r,lk X b=none→ax R b r (lk s.hp b)→¬DD R inv s.hp r:=by
  rintro b r hb ho ⟨b',k,d,hi,ho'⟩
  have:=g.inj b b' r ho ho';subst this;exact hXd b k d hi hb
 have Nw:∀b r,lk X b=none→ax R b r (lk s.hp b)→(yQ g inv dU).F r:=fun b r hb ho=>⟨.inr ⟨b,ho⟩,Vx b r hb ho⟩
 have Vy:∀r,c.F r→(yQ g inv dU).F r:=fun r hr=>⟨.inl hr,fun⟨b,k,d,_,ho⟩=>g.free r ⟨b,ho⟩ hr⟩
 have DN:∀r,DD R inv s.hp r→owned R s.hp r:=fun r ⟨b,k,d,_,ho⟩=>⟨b,ho⟩
 have N2:∀r,aH c R' (fe ρ hp'++s.hp) r→aH (yQ g inv dU) R2 hp' r:=by
  rintro r (h'|⟨b,h'⟩)
  ·exact .inl (Vy r h')
  rcases hcase b with hb|⟨k,box,rfl,hk⟩
  ·exact .inl (Nw b r hb (vT b r hb h'))
  exact .inr ⟨k,vU k box r hk h'⟩
 have NN:∀r,r<w.heap.size→aH c R' (fe ρ hp'++s.hp) r→aH c R s.hp r:=by
  intro r hr h';rcases N2 r h' with h'|h'
  ·exact h'.1
  rcases h.eG r h' with h'|h'
  ·exact .inr (DN r h')
  exact absurd hr (Nat.not_lt.2 h')
 have WW:∀r,r<w.heap.size→¬aH c R s.hp r→w'.heap[r]? = w.heap[r]? :=fun r hr hn=>h.gq.keep r hr fun hd=>hn (.inr (DN r hd))
 have P1:∀k box,lk hp' k=some box→∀off v,aI R2 k off v (lk hp' k)→aI R' (gy ρ k) off v (lk (fe ρ hp'++s.hp) (gy ρ k)):=by
  intro k box hk off v hr;rw[hlk k box hk];rw[hk] at hr;obtain⟨e1,e2,e3⟩:=hRk k box hk;cases box<;>simp only[aI,dI,e1] at hr ⊢ <;> exact hr
 have P2:∀k box,lk hp' k=some box→∀ver v,aD R2 k ver v (lk hp' k)→aD R' (gy ρ k) (ver+wS ρ k) v (lk (fe ρ hp'++s.hp) (gy ρ k)):=by
  intro k box hk ver v hr;rw[hlk k box hk];rw[hk] at hr;obtain⟨e1,e2,e3⟩:=hRk k box hk;cases box<;>simp only[aD,dI,Ta,uO e1 e2 e3] at hr ⊢ <;> first
   |exact hr
   |exact⟨Nat.zero_le _,hr.2.1,hr.2.2⟩
   |exact⟨by omega,hr.2.1,fun he=>hr.2.2 (by omega)⟩
 have P3:∀k box,lk hp' k=some box→∀ver i off v,aK R2 k ver i off v (lk hp' k)→aK R' (gy ρ k) (ver+wS ρ k) i off v (lk (fe ρ hp'++s.hp) (gy ρ k)):=by
  intro k box hk ver i off v hr;rw[hlk k box hk];rw[hk] at hr;obtain⟨e1,e2,e3⟩:=hRk k box hk;cases box<;>simp only[aK,dI,e1,e2] at hr ⊢ <;> first
   |exact hr
   |exact absurd hk (Nv _ _ _ _ _)
   |exact⟨Nat.zero_le _,hr.2.1,hr.2.2⟩
   |exact⟨by omega,hr.2.1,fun he=>hr.2.2 (by omega)⟩
 have Q1:∀b off v,aI R b off v (lk s.hp b)→aI R' b off v (lk (fe ρ hp'++s.hp) b):=by
  intro b off v hr;rcases hcase b with hb|⟨k,box,rfl,hk⟩
  ·rw[hln b hb];exact eP (Vw b hb) hr
  rcases K9 k box hk with ⟨b,d,a1,a2,a3⟩|⟨a1,a2,a3,a4⟩
  ·rw[a2] at hr;have:=h.kept (.ptr k off) v ⟨(Bq k _ a1).1,b,d,a1,hr⟩;simp only[ah] at this;exact P1 k box hk off v this
  rw[a4] at hr;exact hr.elim
 have cur:∀k b d,lk dU k=some (b,d)→∀box,lk hp' k=some box→(∃ver v,aD R b ver v (lk s.hp b))→∃v',aD R b (0+d) v' (lk s.hp b):=by
  rintro k b d hk box hb ⟨ver,v,hr⟩
  obtain⟨bx,c1,c2⟩:=h2 k b d hk;rw[c1] at hr ⊢;cases bx<;>simp only[aD] at hr
  ·simp only[j4] at c2;subst c2;exact⟨bA R b _,by omega,by unfold bA;split<;>rfl,fun _=>rfl⟩
  ·simp only[j4] at c2;subst c2;exact⟨bA R b _,by omega,by unfold bA;split<;>rfl,fun _=>rfl⟩
  ·simp only[j4] at c2;subst c2;exact⟨bA R b _,by omega,by unfold bA;split<;>rfl,fun _=>rfl⟩
  simp only[j4] at c2;subst c2;exact⟨bA R b _,by omega,by unfold bA;split<;>rfl,fun _=>rfl⟩
 have Q2:∀b ver v,aD R b ver v (lk s.hp b)→aD R' b ver v (lk (fe ρ hp'++s.hp) b):=by
  intro b ver v hr;rcases hcase b with hb|⟨k,box,rfl,hk⟩
  ·rw[hln b hb];exact fM (Vw b hb) hr
  rcases K9 k box hk with ⟨b,d,a1,a2,a3⟩|⟨a1,a2,a3,a4⟩
  ·rw[a2] at hr;by_cases hd:d≤ver
   ·have:=h.kept (.aG k (ver-d)) v ⟨(Bq k _ a1).1,b,d,a1,by rw[Nat.sub_add_cancel hd];exact hr⟩;simp only[ah] at this;have:=P2 k box hk _ v this;rwa [a3,Nat.sub_add_cancel hd] at this
   obtain⟨v',hv'⟩:=cur k b d a1 box hk ⟨ver,v,hr⟩;have:=h.kept (.aG k 0) v' ⟨(Bq k _ a1).1,b,d,a1,hv'⟩;simp only[ah] at this;have:=P2 k box hk _ v' this;rw[a3] at this;have hone:v.oneCell'=true:=by
    cases hb2:lk s.hp b with
    |none=>rw[hb2] at hr;exact hr.elim
    |some bx=>rw[hb2] at hr;cases bx<;>simp only[aD] at hr<;>first|exact hr.2.1|exact hr.elim
   cases hb3:lk (fe ρ hp'++s.hp) (gy ρ k) with
   |none=>rw[hb3] at this;exact this.elim
   | some bx=>
     rw[hb3] at this;cases bx<;>simp only[aD] at this ⊢ <;> exact⟨by omega,hone,fun e=>by omega⟩
  rw[a4] at hr;exact hr.elim
 have Yk:∀k b d,lk dU k=some (b,d)→∀box,lk hp' k=some box→d≠0→(∃ver i off v,aK R b ver i off v (lk s.hp b))→∃v',aD R b (0+d) v' (lk s.hp b):=by
  rintro k b d hk box hb hd0 ⟨ver,i,off,v,hr⟩
  obtain⟨bx,c1,c2⟩:=h2 k b d hk;rw[c1] at hr ⊢;cases bx<;>simp only[aK] at hr
  ·simp only[j4] at c2;subst c2;exact⟨bA R b _,by omega,by unfold bA;split<;>rfl,fun _=>rfl⟩
  ·simp only[j4] at c2;subst c2;exact⟨bA R b _,by omega,by unfold bA;split<;>rfl,fun _=>rfl⟩
  ·exact absurd c1 (h4 k b d hk _ _ _ _)
  ·simp only[j4] at c2;subst c2;exact⟨bA R b _,by omega,by unfold bA;split<;>rfl,fun _=>rfl⟩
  ·exact absurd c2 hd0
  simp only[j4] at c2;subst c2;exact⟨bA R b _,by omega,by unfold bA;split<;>rfl,fun _=>rfl⟩
 have Q3:∀b ver i off v,aK R b ver i off v (lk s.hp b)→aK R' b ver i off v (lk (fe ρ hp'++s.hp) b):=by
  intro b ver i off v hr;rcases hcase b with hb|⟨k,box,rfl,hk⟩
  ·rw[hln b hb];exact fO (Vw b hb) hr
  rcases K9 k box hk with ⟨b,d,a1,a2,a3⟩|⟨a1,a2,a3,a4⟩
  ·rw[a2] at hr;by_cases hd:d≤ver
   ·have:=h.kept (.cB k (ver-d) i off) v ⟨(Bq k _ a1).1,b,d,a1,by rw[Nat.sub_add_cancel hd];exact hr⟩;simp only[ah] at this;have:=P3 k box hk _ i off v this;rwa [a3,Nat.sub_add_cancel hd] at this
   obtain⟨v',hv'⟩:=Yk k b d a1 box hk (by omega) ⟨ver,i,off,v,hr⟩;have:=h.kept (.aG k 0) v' ⟨(Bq k _ a1).1,b,d,a1,hv'⟩;simp only[ah] at this;have:=P2 k box hk _ v' this;rw[a3] at this;have hone:v.oneCell'=true:=by
    cases hb2:lk s.hp b with
    |none=>rw[hb2] at hr;exact hr.elim
    |some bx=>rw[hb2] at hr;cases bx<;>simp only[aK] at hr<;>first|exact hr.2.1|exact hr.elim
   cases hb3:lk (fe ρ hp'++s.hp) (gy ρ k) with
   |none=>rw[hb3] at this;exact this.elim
   | some bx=>
     rw[hb3] at this;cases bx<;>simp only[aD] at this<;>simp only[aK]<;>exact⟨by omega,hone,fun e=>by omega⟩
  rw[a4] at hr;exact hr.elim
 have JJ:∀k box,lk hp' k=some box→lk (fe ρ hp'++s.hp) (gy ρ k)=some (dI ρ k box)∧R'.blk (gy ρ k)=R2.blk k∧R'.nil (gy ρ k)=R2.nil k∧R'.cap (gy ρ k)=R2.cap k:=
  fun k box hk=>⟨hlk k box hk,hRk k box hk⟩
 have XJ:∀b off v,aI R' b off v (lk (fe ρ hp'++s.hp) b)→aI R' b off v (lk (fe ρ hp'++s.hp) b):=fun _ _ _ h=>h
 have XK:∀b ver v,aD R' b ver v (lk (fe ρ hp'++s.hp) b)→aD R' b ver v (lk (fe ρ hp'++s.hp) b):=fun _ _ _ h=>h
 have XL:∀b ver i off v,aK R' b ver i off v (lk (fe ρ hp'++s.hp) b)→aK R' b ver i off v (lk (fe ρ hp'++s.hp) b):=fun _ _ _ _ _ h=>h
 have Py:∀r,r<w'.heap.size→aH c R' (fe ρ hp'++s.hp) r→aH (yQ g inv dU) R2 hp' r:=fun r _=>N2 r
 have W2:∀r,r<w'.heap.size→¬aH (yQ g inv dU) R2 hp' r→w'.heap[r]? = w'.heap[r]? :=fun _ _ _=>rfl
 have WO:∀r,r<w.heap.size→¬owned R s.hp r→w'.heap[r]? = w.heap[r]? :=fun r hr hn=>h.gq.keep r hr fun hd=>hn (DN r hd)
 have OO:∀r,r<w.heap.size→owned R' (fe ρ hp'++s.hp) r→owned R s.hp r:=by
  rintro r hr ⟨b,h'⟩
  rcases hcase b with hb|⟨k,box,rfl,hk⟩
  ·exact⟨b,vT b r hb h'⟩
  rcases h.eG r ⟨k,vU k box r hk h'⟩ with h'|h'
  ·exact DN r h'
  exact absurd hr (Nat.not_lt.2 h')
 refine⟨⟨fun t v hv=>?_,g.size,⟨g.lo.1,g.lo.2.1,Nat.le_trans g.lo.2.2 h.gq.size⟩,g.marks.imp fun Ds hm=>hm.kept WO OO,g.fixed.kept WO OO,fun b box hb=>?_,fun b b' r ha hb=>?_,fun r ⟨b,hr⟩ hF=>?_,?_,fun r ⟨b,hr⟩=>?_,fun v x hK=>bF NN WW Q1 Q2 Q3 v x (g.kept v x hK)⟩,fun v x hv=>?_⟩
 ·obtain⟨x,hx,hr⟩:=g.slots t v hv;exact⟨x,hx,bF NN WW Q1 Q2 Q3 v x hr⟩
 ·simp only[AS.app] at hb ⊢;rcases hcase b with hbn|⟨k,bx,rfl,hk⟩
  ·have hb0:=hb;rw[hln b hbn] at hb;have hr:=g.boxes b box hb;have hRb:=Vw b hbn;have hkeep:∀r,ax R b r (lk s.hp b)→w'.heap[r]? = w.heap[r]? :=fun r ho=>h.gq.keep r (g.iB ho) (Vx b r hbn ho)
   rw[hb] at hkeep;cases box with
   | var cells=>
     obtain⟨cur,e',h8,h9⟩:=hr;refine⟨cur,e',?_,bg NN WW Q1 Q2 Q3 _ _ h9⟩;rw[hRb.1,hkeep _ rfl];exact h8
   | ny cells=>
     obtain⟨cur,e',fr,h8,h7,h9⟩:=hr;have hs:=size_of_getElem? h8;refine⟨cur,e',fr,?_,?_,bL NN WW _ _ h9⟩
     ·rw[hRb.1,WW _ hs h7];exact h8
     rw[hRb.1];exact fun x=>h7 (NN _ hs x)
   | arr e' ver st rows=>
     obtain⟨xs,h8,h9⟩:=hr;refine⟨xs,?_,aN NN WW _ _ _ h9⟩;rw[gF hRb];refine bV h8 fun k hk=>hkeep k ?_
     simp only[bA] at hk;cases hnil:R.nil b with
     |true=>simp[hnil,Value.ownBlock] at hk
     |false=>simp[hnil,Value.ownBlock] at hk;exact⟨hnil,hk⟩
   | bX ver st rows=>
     simp only[dm] at hr ⊢;rw[show bA (Qe ρ R R2 hp') b rows.length=bA R b rows.length from gF hRb];exact bN NN WW _ _ hr
   | tr y ver rest st=>
     obtain⟨k0,kh,k1,k2,k3,k4⟩:=hr;simp only[dm,show (Qe ρ R R2 hp').nil b=R.nil b from hRb.2.1];refine⟨k0,kh,k1,k2.step h.gq fun r hr ⟨b2,k,d,hi,ho⟩=>?_,k3,fun r hn=>?_⟩
     ·rcases k4 r (.inr ⟨b2,ho⟩) with hd|hz|hs
      ·exact absurd (g.inj b2 b r ho (by rw[hb];exact hd)) fun e=>hXd b2 k d hi (e▸hbn)
      ·exact hz
      omega
     by_cases hlt:r<w.heap.size
     ·exact k4 r (NN r hlt hn)
     exact .inr (.inr (by have:=k2.size;show R.Y.wy.heap.size≤r;omega))
   | mp kk kv es=>
     obtain⟨cur,clock,h8,h9,h10⟩:=hr;exact⟨cur,clock,by rw[hRb.1,hkeep _ ⟨h9,rfl⟩];exact h8,by rw[hRb.2.1];exact h9,h10⟩
   |bR e' ver st j ed sd pre row post=>exact gQ NN WW hRb.1 hRb.2.1 hRb.2.2 (fun k hk=>hkeep k hk) rfl (fun vs h=>bg NN WW Q1 Q2 Q3 _ _ h) hr
   | dL e' ver st pre row post=>
     obtain⟨xs,h8,h9,h10,h11,h12⟩:=hr;refine⟨xs,?_,aN NN WW _ _ _ h9,h10,bg NN WW Q1 Q2 Q3 _ _ h11,aN NN WW _ _ _ h12⟩;rw[gF hRb];refine bV h8 fun k hk=>hkeep k ?_
     simp only[bA] at hk;cases hnil:R.nil b with
     |true=>simp[hnil,Value.ownBlock] at hk
     |false=>simp[hnil,Value.ownBlock] at hk;exact⟨hnil,hk⟩
  rw[hlk k bx hk] at hb;cases hb;have hr:=h.boxes k bx hk;obtain⟨e1,e2,e3⟩:=hRk k bx hk;cases bx with
  | var cells=>
    obtain⟨cur,e',h8,h9⟩:=hr;exact⟨cur,e',by rw[e1];exact h8,bg Py W2 XJ XK XL _ _ (pF JJ _ _ h9)⟩
  | ny cells=>
    obtain⟨cur,e',fr,h8,h7,h9⟩:=hr;exact⟨cur,e',fr,by rw[e1];exact h8,by rw[e1];exact fun x=>h7 (N2 _ x),bL Py W2 _ _ h9⟩
  | arr e' ver st rows=>
    obtain⟨xs,h8,h9⟩:=hr;exact⟨xs,by rw[uO e1 e2 e3];exact h8,aN Py W2 _ _ _ h9⟩
  | bX ver st rows=>
    simp only[dI,dm] at hr ⊢;rw[show bA (Qe ρ R R2 hp') (gy ρ k) rows.length=bA R2 k rows.length from uO e1 e2 e3];exact bN Py W2 _ _ hr
  |tr y ver rest st=>exact absurd hk (Nv _ _ _ _ _)
  | mp kk kv es=>
    obtain⟨cur,clock,h8,h9,h10⟩:=hr;exact⟨cur,clock,by rw[e1];exact h8,by rw[e2];exact h9,h10⟩
  |bR e' ver st j ed sd pre row post=>exact gQ Py W2 e1 e2 e3 (fun _ _=>rfl) (qj _ _) (fun vs h=>bg Py W2 XJ XK XL _ _ (pF JJ _ _ h)) hr
  | dL e' ver st pre row post=>
    obtain⟨xs,h8,h9,h10,h11,h12⟩:=hr;exact⟨xs,by rw[uO e1 e2 e3];exact h8,aN Py W2 _ _ _ h9,by rw[qj];exact h10,bg Py W2 XJ XK XL _ _ (pF JJ _ _ h11),aN Py W2 _ _ _ h12⟩
 ·simp only[AS.app] at ha hb;rcases hcase b with hbn|⟨k,bx,rfl,hk⟩<;>rcases hcase b' with Te|⟨k',bx',rfl,hk'⟩
  ·exact g.inj b b' r (vT b r hbn ha) (vT b' r Te hb)
  ·exact absurd (Nw b r hbn (vT b r hbn ha)) (h.free r ⟨k',vU k' bx' r hk' hb⟩)
  ·exact absurd (Nw b' r Te (vT b' r Te hb)) (h.free r ⟨k,vU k bx r hk ha⟩)
  rw[h.inj k k' r (vU k bx r hk ha) (vU k' bx' r hk' hb)]
 ·simp only[AS.app] at hr;rcases hcase b with hbn|⟨k,bx,rfl,hk⟩
  ·exact g.free r ⟨b,vT b r hbn hr⟩ hF
  exact h.free r ⟨k,vU k bx r hk hr⟩ (Vy r hF)
 ·exact g.gq.trans h.gq fun r hr hd=>(g.eG r (DN r hd)).resolve_right (by omega)
 ·simp only[AS.app] at hr;rcases hcase b with hbn|⟨k,bx,rfl,hk⟩
  ·exact g.eG r ⟨b,vT b r hbn hr⟩
  rcases h.eG r ⟨k,vU k bx r hk hr⟩ with h'|h'
  ·exact g.eG r (DN r h')
  exact .inr (Nat.le_trans g.gq.size h')
 exact bF Py W2 XJ XK XL _ _ (CU JJ v x hv)
theorem MJ (g:aR c R s a w){fv:AV}{args:List AV}{id:Nat}{K:AV→List (Nat×av)→List Nat→Prop}(h:gC P s.hp id (fv::args) K)
  {u:Value} {us:List Value} (hf:ah (aH c R s.hp) w s.hp R fv u) (hv:FL (ah (aH c R s.hp) w s.hp R) args us) :
  ∃f first aT,u=.func (.func f) first aT∧Enters P f∧Calls P f (first++us.toArray++aT) w fun e w'=>∃v z ws ids R',e=.returned v∧K z ws ids∧aR c R' (s.app ws) a w' ∧
   ah (aH c R' (ws++s.hp)) w' (ws++s.hp) R' z v:=by
 unfold gC at h;simp only at h;split at h;rotate_left;cases h
 rename_i f first aT hfn
 split at h;rotate_left;cases h
 rename_i H hH;obtain⟨r,hp',Gy,h⟩:=h;split at h;rotate_left;cases h
 rename_i hok;rw[sU,sV] at h;have hnt:=fU _ _ h;have h:=iI _ _ _ h;simp only[SQ,Bool.and_eq_true] at hok;obtain⟨o1,o2,o3,o4,o5⟩:=hok;obtain⟨fs,cs,rfl,f1,f2⟩:=yP hfn hf;refine⟨f,fs,cs,rfl,Gy.1,?_⟩;have h1:∀b k d,lk (iV 1 H) b=some (k,d)→lk (gP 1 H) k=some (b,d):=fun b k d hb=>(uT hb).2
 have h1':∀b k d,lk (gP 1 H) k=some (b,d)→lk (iV 1 H) b=some (k,d):=fun b k d hb=>rJ o4 hb
 have h2:∀k b d,lk (gP 1 H) k=some (b,d)→∃box,lk s.hp b=some box∧d=j4 box∧lk (oM (iV 1 H) 1 H) k=some (iN (iV 1 H) box):=
  fun k b d hb=>uU (mP hH) hb
 have h3:∀k box0,lk (oM (iV 1 H) 1 H) k=some box0→∃b box,lk (gP 1 H) k=some (b,j4 box)∧lk s.hp b=some box∧box0=iN (iV 1 H) box:=
  fun k box0 hb=>yL (mP hH) hb
 obtain⟨hin,Tf⟩:=Nu g h1 h1' h2 h3 (jA o5);have hargs:bB (aH c R s.hp) w s.hp R (first++(args++aT)) (fs.toList++(us++cs.toList)):=
  qm f1 (qm ((bZ _ _ _ _ _ _).2 hv) f2)
 have Ii:=kD h1 h2 Tf _ _ hargs;refine (Gy.2 _ _ w (fs++us.toArray++cs) hin (by simpa using Ii)).mono ?_;rintro e w' ⟨v,r',EU,R2,rfl,⟨rfl,rfl⟩,hh,hr⟩
 obtain⟨g',hmap⟩:=JI (id:=id) g h1 h1' (fun k b d hb=>let ⟨bx,c1,c2,_⟩:=h2 k b d hb;⟨bx,c1,c2⟩) (fun k b d hb x y z u e=>by
  obtain⟨bx,c1,_,c3⟩:=h2 k b d hb;rw[c1] at e;cases e;exact jA o5 k _ _ _ _ c3) (fun k p hk=>pM o1 hk) (fun b hb=>nS o2 b hb) o3 rfl (jA hnt) hh
 exact⟨v,_,_,_,_,rfl,h,g',hmap r' v hr⟩
theorem MK (g:aR c R s a w){fv:AV}{args:List AV}{id:Nat}{K:AV→List (Nat×av)→List Nat→Prop}(h:gI P s.hp id (fv::args) K)
  {u:Value} {us:List Value} (hf:ah (aH c R s.hp) w s.hp R fv u) (hv:FL (ah (aH c R s.hp) w s.hp R) args us) :
  ∃f first aT,u=.func (.func f) first aT∧Enters P f∧Calls P f (first++us.toArray++aT) w fun e w'=>∃v z ws ids R',e=.returned v∧K z ws ids∧aR c R' (s.app ws) a w' ∧
   ah (aH c R' (ws++s.hp)) w' (ws++s.hp) R' z v:=by
 unfold gI at h;simp only at h;split at h;rotate_left;cases h
 rename_i f first aT hfn
 split at h;rotate_left;cases h
 rename_i H hH;split at h;rotate_left;cases h
 rename_i hpre;obtain⟨Q,Gy,h⟩:=h;obtain⟨fs,cs,rfl,f1,f2⟩:=yP hfn hf;refine⟨f,fs,cs,rfl,Gy.1,?_⟩;simp only[Bool.and_eq_true] at hpre;obtain⟨o4,o5⟩:=hpre;have h1:∀b k d,lk (iV 1 H) b=some (k,d)→lk (gP 1 H) k=some (b,d):=fun b k d hb=>(uT hb).2
 have h1':∀b k d,lk (gP 1 H) k=some (b,d)→lk (iV 1 H) b=some (k,d):=fun b k d hb=>rJ o4 hb
 have h2:∀k b d,lk (gP 1 H) k=some (b,d)→∃box,lk s.hp b=some box∧d=j4 box∧lk (oM (iV 1 H) 1 H) k=some (iN (iV 1 H) box):=
  fun k b d hb=>uU (mP hH) hb
 have h3:∀k box0,lk (oM (iV 1 H) 1 H) k=some box0→∃b box,lk (gP 1 H) k=some (b,j4 box)∧lk s.hp b=some box∧box0=iN (iV 1 H) box:=
  fun k box0 hb=>yL (mP hH) hb
 obtain⟨hin,Tf⟩:=Nu g h1 h1' h2 h3 (jA o5);have hargs:bB (aH c R s.hp) w s.hp R (first++(args++aT)) (fs.toList++(us++cs.toList)):=
  qm f1 (qm ((bZ _ _ _ _ _ _).2 hv) f2)
 have Ii:=kD h1 h2 Tf _ _ hargs;refine (Gy.2 _ _ w (fs++us.toArray++cs) hin (by simpa using Ii)).mono ?_;rintro e w' ⟨v,r',EU,R2,rfl,hQ,hh,hr⟩
 have h:=h r' EU hQ;split at h;rotate_left;cases h
 rename_i hok;rw[sU,sV] at h;have hnt:=fU _ _ h;have h:=iI _ _ _ h;simp only[SQ,Bool.and_eq_true] at hok;obtain⟨o1,o2,o3,-,-⟩:=hok;obtain⟨g',hmap⟩:=JI (id:=id) g h1 h1' (fun k b d hb=>let ⟨bx,c1,c2,_⟩:=h2 k b d hb;⟨bx,c1,c2⟩) (fun k b d hb x y z u e=>by
  obtain⟨bx,c1,_,c3⟩:=h2 k b d hb;rw[c1] at e;cases e;exact jA o5 k _ _ _ _ c3) (fun k p hk=>pM o1 hk) (fun b hb=>nS o2 b hb) o3 rfl (jA hnt) hh
 exact⟨v,_,_,_,_,rfl,h,g',hmap r' v hr⟩
end
def isNone {α:Type}:Option α→Bool
 |none=>true
 |some _=>false
def VK (T:Tab):Bool:=
 match T with
 |(a,_)::(b,_)::_=>Nat.beq a b
 |_=>false
def Hz (tw:Bool)(rows:List (List PV))(b ver:Nat)(e:TypeId)(st:Nat)(l h:Option Int)(K:AV→List (Nat×av)→Prop):Prop:=
 match l with
 | none=>match h with
   |none=>K (.aG b ver) []
   | some h=>match tw with
     |true=>0≤h∧h≤rows.length∧K (.sub b ver st 0 h.toNat) []
     |false=>0≤h∧h≤rows.length∧K (.aG b (ver+1)) [(b,.arr e (ver+1) st (rows.take h.toNat))]
 | some l=>match h with
   |none=>0≤l∧l≤rows.length∧K (.sub b ver st l.toNat rows.length) []
   |some h=>0≤h∧h≤rows.length∧0≤l∧l≤h∧K (.sub b ver st l.toNat h.toNat) []
def jZ (T:Tab)(H:List (Nat×av))(t:TypeId)(lo hi mx:Option Operand)(vs:List AV)(K:AV→List (Nat×av)→Prop):Prop:=
 match vs with
 | .aG b ver::r=>match lk H b with
   | some (.arr e v st rows)=>match Nat.beq ver v with
     | true=>match isNone mx with
       | true=>match lk T t with
         | some i=>match i.d with
           | .slt et=>match lk T et with
             | some ei=>match Nat.beq st ei.size with
               | true=>match wX lo r with
                 | some (l,r1)=>match wX hi r1 with
                   |some (h,_)=>Hz (VK T) rows b ver e st l h K
                   |none=>False
                 |none=>False
               |false=>False
             |none=>False
           |_=>False
         |none=>False
       |false=>jG T H t lo hi mx vs K
     |false=>False
   |_=>jG T H t lo hi mx vs K
 |_=>jG T H t lo hi mx vs K
def uI (T:Tab)(H:List (Nat×av))(t:TypeId)(x:AV)(K:AV→List (Nat×av)→Prop):Prop:=
 match x with
 | .sub b ver st lo hi=>match lk H b with
   | some (.arr e v st' rows)=>match Nat.beq ver v with
     | true=>match Nat.beq st st' with
       | true=>match lk T t with
         | some i=>match i.d with
           | .slt et=>match lk T et with
             | some ei=>match Nat.beq st ei.size,UC ei.zero with
               |true,some z=>K (.pv (.fF [])) [(b,.arr e v st' (rows.take lo++(List.replicate (hi-lo) z++rows.drop hi)))]
               |_,_=>False
             |none=>False
           |_=>False
         |none=>False
       |false=>False
     |false=>False
   |_=>False
 |_=>False
section
variable {P:Program}{T:Tab}{c:Ctx}{R:Real}{s:AS}{a:Act}{w:World}
theorem lX {N:Nat→Prop}{hp:List (Nat×av)}{b:Nat}{e:TypeId}{ver st:Nat}{rows:List (List PV)}(h:dm N w hp R b (.arr e ver st rows))(hn:R.nil b=true):rows=[]:=by
 obtain⟨xs,⟨_,h3⟩,_⟩:=h;rcases h3 with ⟨_,h3⟩|⟨g',cap,cur,e1,_⟩
 ·exact List.eq_nil_of_length_eq_zero h3
 simp[bA,hn] at e1
theorem mg (g:aR c R s a w)(hT:bC P T){H:List (Nat×av)}(hH:∀b box,lk H b=some box→lk s.hp b=some box){t:TypeId}{x0:Operand}{lo hi mx:Option Operand}{vs:List AV}
  {K:AV→List (Nat×av)→Prop} (h:jZ T H t lo hi mx vs K)
  (hv:FL (ah (aH c R s.hp) w s.hp R) vs ((x0::(lo.toList++(hi.toList++mx.toList))).map a.eval)) :
  ∃y z ws R',(Instr.sliceAt t (a.eval x0) (lo.map a.eval) (hi.map a.eval) (mx.map a.eval)).run P w=.ok y w∧K z ws∧aR c R' (s.app ws) a w∧ah (aH c R' (ws++s.hp)) w (ws++s.hp) R' z y:=by
 have old:jG T H t lo hi mx vs K→∃y z ws R',(Instr.sliceAt t (a.eval x0) (lo.map a.eval) (hi.map a.eval) (mx.map a.eval)).run P w=.ok y w∧K z ws∧aR c R' (s.app ws) a w∧ah (aH c R' (ws++s.hp)) w (ws++s.hp) R' z y:=fun h=>by
  obtain⟨y,z,ws,h1,h2,h3,h4⟩:=zU g hT hH h hv;exact⟨y,z,ws,R,h1,h2,h3,h4⟩
 unfold jZ at h;split at h
 ·rename_i b ver r;split at h
  ·rename_i e v st rows hb;split at h;rotate_left;cases h
   rename_i dD;have dD:=Nat.eq_of_beq_eq_true dD;split at h
   ·rename_i hmx;have hmx:mx=none:=by cases mx<;>simp_all [isNone]
    subst hmx;split at h;rotate_left;cases h
    rename_i i hi';obtain⟨d,hd,eH⟩:=(hT t i hi').eF;split at h;rotate_left;cases h
    rename_i et hte;have hd':P.underlying t=some (.slice et):=by
     rw[hte] at eH;cases d<;>simp[di] at eH
     subst eH;exact hd
    split at h;rotate_left;cases h
    rename_i ei lJ;have fH:=hT _ _ lJ;split at h;rotate_left;cases h
    rename_i hst;have hst:=Nat.eq_of_beq_eq_true hst;split at h;rotate_left;cases h
    rename_i l r1 hl;split at h;rotate_left;cases h
    rename_i hh r2 hhi;simp only[List.map_cons] at hv;obtain⟨u,r',e1,hx,hv⟩:=hv;simp only[List.cons.injEq] at e1;obtain⟨e1,rfl⟩:=e1;obtain⟨v1,hv⟩:=fq hv hl;obtain⟨v2,hv⟩:=fq (rest:=[]) (by simpa using hv) hhi;have hb':=hH _ _ hb;have hre:=g.boxes b _ hb';have hxr:=hx;simp only[ah,hb',aD] at hx;have hu:=hx.2.2 dD;have hrun:∀(k2:∀i,hh=some i→0≤i∧i≤rows.length) (k3:∀i,l=some i→0≤i∧i≤dJ rows.length hh),
      (Instr.sliceAt t (a.eval x0) (lo.map a.eval) (hi.map a.eval) (Option.map a.eval none)).run P w=.ok (gK st ((l.map Int.toNat).getD 0) (dJ rows.length hh).toNat u) w ∧
       ((l.map Int.toNat).getD 0)≤(dJ rows.length hh).toNat∧(dJ rows.length hh).toNat≤rows.length:=by
     intro k2 k3;rw[e1,hu];cases hn:R.nil b with
     | true=>
       have hr0:=lX hre hn;subst hr0;obtain⟨hrun,q1,q2,q3⟩:=fV (P:=P) (w:=w) (Lh:=true) (len:=0) (cap:=0) (m:=none) v1 v2 (show vI none none from trivial) (Nat.le_refl _) (fun i e=>by cases e) (by simpa[dJ] using k2) (by simpa using k3);refine⟨?_,q1,q2⟩;have hz:(dJ 0 hh).toNat=0:=by omega
       have lz:(l.map Int.toNat).getD 0=0:=by omega
       simp only[Option.map_none,Option.getD_none,hz,lz] at hrun;simp only[Instr.sliceAt,Instr.slice,Sem.run_bind,run_underlying hd',Result.andThen_ok,bA,hn,if_true,Option.map_none,hrun,fH.run_sizeOf,Sem.run_pure];simp[gK]
     | false=>
       obtain⟨cur,hg,hs,hle,hm,hr,_⟩:=d9 hre hn;obtain⟨hrun,q1,q2,q3⟩:=fV (P:=P) (w:=w) (Lh:=true) (len:=rows.length) (cap:=(R.cap b).1) (m:=none) v1 v2 (show vI none none from trivial) hle (fun i e=>by cases e) (by
        intro i hi;exact k2 i hi) (by simpa using k3)
       refine⟨?_,q1,q2⟩;simp only[Option.map_none,Option.getD_none] at hrun;simp only[Instr.sliceAt,Instr.slice,Sem.run_bind,run_underlying hd',Result.andThen_ok,bA,hn,Bool.false_eq_true,if_false,Option.map_none,hrun,fH.run_sizeOf,Sem.run_pure];simp only[gK,hst];congr 2
       split<;>rfl
    have Ow:∀(X4 hi':Nat),X4≤hi'→hi'≤rows.length→ah (aH c R s.hp) w s.hp R (.sub b ver st X4 hi') (gK st X4 hi' u):=by
     intro X4 hi' q1 q2;simp only[ah];refine⟨u,by simpa only[ah] using hxr,?_,rfl⟩;rw[hu];unfold bA;split
     ·rename_i hn;have:=lX hre hn;subst this;simp at q2;exact⟨by omega,by omega⟩
     exact⟨q1,q2⟩
    unfold Hz at h;cases l with
    | none=>
      cases hh with
      | none=>
        obtain⟨h1,q1,q2⟩:=hrun (fun i e=>by cases e) (fun i e=>by cases e);refine⟨_,_,[],R,h1,h,g,?_⟩;have:gK st 0 rows.length u=u:=by
         rw[hu];unfold bA;split
         ·rfl
         simp only[gK,Nat.sub_zero,Nat.zero_mul];split<;>rfl
        simp only[Option.map_none,Option.getD_none,dJ,Int.toNat_natCast];rw[this];exact hxr
      | some j=>
        simp only at h;split at h
        ·obtain⟨j0,j1,hK⟩:=h;obtain⟨h1,q1,q2⟩:=hrun (fun i e=>by cases e;exact⟨j0,j1⟩) (fun i e=>by cases e);refine⟨_,_,[],R,h1,hK,g,?_⟩;simp only[Option.map_none,Option.getD_none,dJ] at q1 q2 ⊢;exact Ow _ _ q1 q2
        obtain⟨j0,j1,hK⟩:=h;obtain⟨h1,q1,q2⟩:=hrun (fun i e=>by cases e;exact⟨j0,j1⟩) (fun i e=>by cases e);have hR:∀b',b'≠b→R.blk b'=R.blk b'∧R.nil b'=R.nil b'∧R.cap b'=R.cap b':=fun _ _=>⟨rfl,rfl,rfl⟩
        have hlen:(rows.take j.toNat).length=j.toNat:=by simp;omega
        obtain⟨xs,hxs,abB⟩:=hre;have hown2:∃ys,w.ownsRow 0 e st (bA R b (rows.take j.toNat).length) (rows.take j.toNat).length ys∧bf (aH c R s.hp) w st (rows.take j.toNat) ys:=by
         cases hn:R.nil b with
         | true=>
           have:=lX (g.boxes b _ hb') hn;subst this;exact⟨[],⟨by simp,.inl ⟨by simp[bA,hn],by simp⟩⟩,by simp[bf]⟩
         | false=>
           obtain⟨cur,hg,hs,hle,hm,hr,_⟩:=d9 (g.boxes b _ hb') hn;have hr2:=jb (i:=j.toNat) hr;obtain⟨t1,t2,t3⟩:=dR hr2;rw[hlen] at t1 t2;refine⟨cur.toList.take (j.toNat*st),⟨?_,.inr ⟨R.blk b,(R.cap b).1,cur,by simp[bA,hn],Nat.zero_le _,hg,?_,hm,hs,by rw[hlen]⟩⟩,t2⟩
           ·rw[List.length_take,hlen];omega
           rw[hlen];omega
        obtain⟨ys,ho,hr⟩:=hown2;obtain⟨g2,hr2⟩:=g.nA (b:=b) (e:=e) (ver:=ver+1) (st:=st) (rows:=rows.take j.toNat) (R':=R) (.inr ⟨_,_,_,_,hb',by omega⟩) hR (iZ.refl _ w)
         (fun hn=>.inl (by rw[hb'];exact⟨hn,rfl⟩)) ho hr
        refine⟨_,_,_,R,h1,hK,g2,?_⟩;have:gK st 0 j.toNat u=bA R b (rows.take j.toNat).length:=by
         rw[hu,hlen];unfold bA;split
         ·rfl
         simp only[gK,Nat.sub_zero,Nat.zero_mul];split<;>rfl
        simp only[Option.map_none,Option.getD_none,dJ];rw[this];exact hr2
    | some l=>
      cases hh with
      | none=>
        simp only at h;obtain⟨l0,l1,hK⟩:=h;obtain⟨h1,q1,q2⟩:=hrun (fun i e=>by cases e) (fun i e=>by cases e;exact⟨l0,by simpa[dJ] using l1⟩);refine⟨_,_,[],R,h1,hK,g,?_⟩;simp only[Option.map_some,Option.getD_some,dJ,Int.toNat_natCast] at q1 ⊢;exact Ow _ _ q1 (Nat.le_refl _)
      | some j=>
        simp only at h;obtain⟨j0,j1,l0,l1,hK⟩:=h;obtain⟨h1,q1,q2⟩:=hrun (fun i e=>by cases e;exact⟨j0,j1⟩) (fun i e=>by cases e;exact⟨l0,by simpa[dJ] using l1⟩);refine⟨_,_,[],R,h1,hK,g,?_⟩;simp only[Option.map_some,Option.getD_some,dJ] at q1 q2 ⊢;exact Ow _ _ q1 q2
   exact old h
  exact old h
 exact old h
theorem qG {b:Nat}{e:TypeId}{cur:Array Value}(vs:List Value)(off:Nat)(hg:w.heap[b]? = some (.cells cur e (0,0)))(hl:off+vs.length≤cur.size)(h1:∀u∈vs,u.oneCell'=true) :
  (storeCells ⟨b,off,none⟩ vs).run P w=.ok () (w.setRow b (cur.toList.take off++vs++cur.toList.drop (off+vs.length)).toArray):=by
 have:=run_storeCells_at P b off e vs 0 cur w hg (by simpa using hl) h1;simp only[Nat.add_zero] at this;simp[storeCells,this]
theorem aR.sameBox (g:aR c R s a w){b:Nat}{e:TypeId}{ver st:Nat}{rows:List (List PV)}(hb:lk s.hp b=some (.arr e ver st rows)):aR c R (s.app [(b,.arr e ver st rows)]) a w:=by
 have hR:∀b',b'≠b→R.blk b'=R.blk b'∧R.nil b'=R.nil b'∧R.cap b'=R.cap b':=fun _ _=>⟨rfl,rfl,rfl⟩
 have r1:∀off v,aI R b off v (lk s.hp b)→aI R b off v (some (.arr e ver st rows)):=fun off v h=>by rw[hb] at h;exact h
 have r2:∀dh v,aD R b dh v (lk s.hp b)→aD R b dh v (some (.arr e ver st rows)):=fun _ v h=>by rw[hb] at h;exact h
 have r3:∀dh i off v,aK R b dh i off v (lk s.hp b)→aK R b dh i off v (some (.arr e ver st rows)):=fun _ _ _ v h=>by rw[hb] at h;exact h
 have hown:∀r,ax R b r (some (.arr e ver st rows))→ax R b r (lk s.hp b)∨w.heap.size≤r:=fun r h=>by rw[hb];exact .inl h
 obtain⟨m1,m2,m3,m4,m5⟩:=g.zS hR r1 r2 r3 hown (iZ.refl _ w);refine g.upd hR r1 r2 r3 hown (iZ.refl _ w) ?_;obtain⟨xs,hxs,hr⟩:=g.boxes b _ hb;exact⟨xs,hxs,aN m1 m2 _ _ _ hr⟩
theorem Cx (g:aR c R s a w)(hT:bC P T){H:List (Nat×av)}(hH:∀b box,lk H b=some box→lk s.hp b=some box){t ty:TypeId}{x:AV}{u:Value}
  {K:AV→List (Nat×av)→Prop} (h:uI T H t x K) (hx:ah (aH c R s.hp) w s.hp R x u) :
  ∃z w' q ws,(Builtin.clear_ #[t] ty #[u]).run P w=.ok z w'∧K q ws∧aR c R (s.app ws) a w'∧ah (aH c R (ws++s.hp)) w' (ws++s.hp) R q z:=by
 unfold uI at h;split at h;rotate_left;cases h
 rename_i b ver st lo hi;split at h;rotate_left;cases h
 rename_i e v st' rows hb;split at h;rotate_left;cases h
 rename_i dD;have dD:=Nat.eq_of_beq_eq_true dD;split at h;rotate_left;cases h
 rename_i hst;have hst:=Nat.eq_of_beq_eq_true hst;subst hst;split at h;rotate_left;cases h
 rename_i i hi';obtain⟨d,hd,eH⟩:=(hT t i hi').eF;split at h;rotate_left;cases h
 rename_i et hte;have hd':P.underlying t=some (.slice et):=by
  rw[hte] at eH;cases d<;>simp[di] at eH
  subst eH;exact hd
 split at h;rotate_left;cases h
 rename_i ei lJ;have fH:=hT _ _ lJ;split at h;rotate_left;cases h
 rename_i z hsz hz;have hsz:=Nat.eq_of_beq_eq_true hsz;have hz:=GA hz;subst hz;have hb':=hH _ _ hb;have hre:=g.boxes b _ hb';simp only[ah,hb',aD] at hx;obtain⟨u0,hx,hok,rfl⟩:=hx;have hu:=hx.2.2 dD;subst hu;have hnone:hi-lo=0→(rows.take lo++(List.replicate (hi-lo) (ei.zero.map PV.sc)++rows.drop hi))=rows→lo≤hi →
   (∃p cap,gK st lo hi (bA R b rows.length)=.slice p 0 cap)→∃z w' q ws,(Builtin.clear_ #[t] ty #[gK st lo hi (bA R b rows.length)]).run P w=.ok z w'∧K q ws∧aR c R (s.app ws) a w'∧ah (aH c R (ws++s.hp)) w' (ws++s.hp) R q z:=by
  intro h0 hrows hle ⟨p,cap,hs⟩;rw[hrows] at h;refine⟨.tuple #[],w,_,_,?_,h,g.sameBox hb',?_⟩
  ·rw[hs];cases p<;>simp[Builtin.clear_,run_underlying hd']
  simp[ah,aU,cZ]
 cases hn:R.nil b with
 | true=>
   have hr0:=lX hre hn;subst hr0;simp only[bA,hn,if_true,kG,List.length_nil] at hok;have h1:lo=0:=by omega
   have h2:hi=0:=by omega
   subst h1;subst h2;refine hnone rfl (by simp) (Nat.le_refl _) ⟨none,0,by simp[bA,hn,gK]⟩
 | false=>
   obtain⟨cur,hg,hs,hle,hm,hr,_⟩:=d9 hre hn;simp only[bA,hn,Bool.false_eq_true,if_false,kG] at hok;by_cases hlh:hi=lo
   ·subst hlh;refine hnone (by omega) (by simp) (Nat.le_refl _) ⟨some (if (R.cap b).1=hi then ⟨R.blk b,0,none⟩ else (⟨R.blk b,0,none⟩:Addr).add (hi*st)),(R.cap b).1-hi,by simp[bA,hn,gK]⟩
   have hlt:lo<hi:=by omega
   obtain⟨zv,hz1,hz2,hz3⟩:=fH.mE w;have Mr:zv.cells.size=st:=by have:=fH.Ms;rw[←hz2] at this;rw[hsz];simpa using this
   have hcap:¬(R.cap b).1=lo:=by omega
   have hsub:gK st lo hi (bA R b rows.length)=.slice (some ⟨R.blk b,lo*st,none⟩) (hi-lo) ((R.cap b).1-lo):=by
    have hadd:(⟨R.blk b,0,none⟩:Addr).add (lo*st)=⟨R.blk b,lo*st,none⟩:=by by_cases h0:lo*st=0<;>simp[Addr.add,h0]
    simp only[bA,hn,gK,hcap,Bool.false_eq_true,if_false,hadd]
   have hzl:(Builtin.zeroCells zv.cells (hi-lo)).toList.length=(hi-lo)*st:=by simp[Builtin.zeroCells,Mr]
   have hmul:lo*st+(hi-lo)*st=hi*st:=by rw[←Nat.add_mul];congr 1;omega
   have hcs:hi*st≤cur.size:=by rw[hs];exact Nat.mul_le_mul_right _ (by omega)
   have RZ:∀j,j<(hi-lo)*st→(Builtin.zeroCells zv.cells (hi-lo)).toList[j]? = (ei.zero)[j%st]? :=by
    intro j hj;have abD:0<st:=by
     rcases Nat.eq_zero_or_pos st with h0|h0
     ·rw[h0] at hj;simp at hj
     exact h0
    have hlt2:j%zv.cells.size<zv.cells.size:=Nat.mod_lt _ (by omega);have hmc:(Builtin.zeroCells zv.cells (hi-lo))[j]? = some (zv.cells[j%zv.cells.size]!):=by
     simp[Builtin.zeroCells,Mr,hj]
    rw[Array.getElem?_toList,hmc,getElem!_pos zv.cells _ hlt2,←hz2,Array.getElem?_toList,←Mr];exact (Array.getElem?_eq_getElem hlt2).symm
   have hone:∀u∈(Builtin.zeroCells zv.cells (hi-lo)).toList,u.oneCell'=true:=by
    intro u hu;obtain⟨j,hj,rfl⟩:=List.getElem_of_mem hu;have h1:=RZ j (by rw[←hzl];exact hj);rw[List.getElem?_eq_getElem hj] at h1;have h2:=List.mem_of_getElem? h1.symm;exact List.all_eq_true.1 fH.Kl _ h2
   have hrun:=qG (P:=P) (w:=w) (e:=e) (cur:=cur) (Builtin.zeroCells zv.cells (hi-lo)).toList (lo*st) hg (by rw[hzl,hmul];exact hcs) hone;rw[hzl,hmul] at hrun;refine⟨.tuple #[],w.setRow (R.blk b) (cur.toList.take (lo*st)++(Builtin.zeroCells zv.cells (hi-lo)).toList++cur.toList.drop (hi*st)).toArray,_,_,?_,h,?_,by simp[ah,aU,cZ]⟩
   ·rw[hsub];have hne:hi-lo≠0:=by omega
    obtain⟨k,hk⟩:∃k,hi-lo=k+1:=⟨hi-lo-1,by omega⟩;rw[hk] at hrun ⊢;simp only[Builtin.clear_,List.getElem?_toArray,List.getElem?_cons_zero,run_underlying hd',Sem.run_bind,Result.andThen_ok,hz1,hrun,Sem.run_pure]
   have hR:∀b',b'≠b→R.blk b'=R.blk b'∧R.nil b'=R.nil b'∧R.cap b'=R.cap b':=fun _ _=>⟨rfl,rfl,rfl⟩
   generalize hrows:(rows.take lo++(List.replicate (hi-lo) (ei.zero.map PV.sc)++rows.drop hi))=aF;have hll:aF.length=rows.length:=by rw[←hrows];simp;omega
   have r1:∀off v',aI R b off v' (lk s.hp b)→aI R b off v' (some (.arr e v st aF)):=fun off v h=>by rw[hb'] at h;exact h
   have r2:∀ver v',aD R b ver v' (lk s.hp b)→aD R b ver v' (some (.arr e v st aF)):=fun _ v h=>by rw[hb'] at h;simp only[aD,hll] at h ⊢;exact h
   have r3:∀ver i off v',aK R b ver i off v' (lk s.hp b)→aK R b ver i off v' (some (.arr e v st aF)):=fun _ _ _ v h=>by rw[hb'] at h;exact h
   have hown:∀r,ax R b r (some (.arr e v st aF))→ax R b r (lk s.hp b)∨w.heap.size≤r:=fun r h=>by rw[hb'];exact .inl h
   have hworld:iZ (fun r=>ax R b r (lk s.hp b)) w (w.setRow (R.blk b) (cur.toList.take (lo*st)++(Builtin.zeroCells zv.cells (hi-lo)).toList++cur.toList.drop (hi*st)).toArray):=by
    refine (kI w _ _).mono ?_;rintro r rfl
    rw[hb'];exact⟨hn,rfl⟩
   obtain⟨m1,m2,m3,m4,m5⟩:=g.zS hR r1 r2 r3 hown hworld;refine g.upd hR r1 r2 r3 hown hworld ?_;have hnew:bf (aH c R s.hp) w st aF (cur.toList.take (lo*st)++(Builtin.zeroCells zv.cells (hi-lo)).toList++cur.toList.drop (hi*st)):=by
    rw[←hrows,List.append_assoc];have p1:bf (aH c R s.hp) w st (rows.take lo) (cur.toList.take (lo*st)):=by
     obtain⟨_,t2,_⟩:=dR (jb (i:=lo) hr);rw[List.length_take,Nat.min_eq_left (by omega)] at t2;exact t2
    have p2:bf (aH c R s.hp) w st (List.replicate (hi-lo) (ei.zero.map PV.sc)) (Builtin.zeroCells zv.cells (hi-lo)).toList:=
     xO (zs:=ei.zero) (xP fH.Kl) (by rw[List.length_map,fH.Ms,hsz]) _ _ (by rw[hzl];exact Nat.le_refl _) RZ
    have hlo:lo*st≤cur.size:=by have:=Nat.mul_le_mul_right st (show lo≤hi by omega);omega
    refine gM p1 (by rw[List.length_take,List.length_take,Nat.min_eq_left (by simpa using hlo),Nat.min_eq_left (by omega)]) (gM p2 (by rw[hzl];simp) (jk hi hr))
   have NR:(cur.toList.take (lo*st)++(Builtin.zeroCells zv.cells (hi-lo)).toList++cur.toList.drop (hi*st)).length=cur.size:=by
    simp only[List.length_append,hzl,List.length_take,List.length_drop,Array.length_toList];omega
   obtain⟨t1,t2,t3⟩:=dR (aN m1 m2 _ _ _ hnew);refine⟨_,?_,t2⟩;have hsl:bA R b aF.length=.slice (some ⟨R.blk b,0,none⟩) rows.length ((R.cap b).1):=by simp[bA,hn,hll]
   rw[hsl,hll];rw[hll] at t1;refine⟨?_,.inr ⟨R.blk b,(R.cap b).1,_,rfl,Nat.zero_le _,setRow_heap w _ cur _ e _ hg,hle,hm,?_,by simp⟩⟩
   ·simp only[List.length_take];omega
   simp only[List.size_toArray,NR,hs]
end
def oV (f:AV→Option PV):List AV→Option (List PV)
 |[]=>some []
 | x::r=>match f x with
   | some p=>match oV f r with
     |some t=>some (p::t)
     |none=>none
   |none=>none
def NS (H:List (Nat×av)):Nat→AV→Option PV
 |0,_=>none
 | n+1,x=>match x with
   |.pv p=>some p
   | .aG b ver=>match lk H b with
     | some (.dL e v st pre row post)=>match Nat.beq ver v with
       | true=>match oV (NS H n) row with
         |some ps=>some (.sl false st (pre++ps::post))
         |none=>none
       |false=>none
     | some (.bR e v st j ed sd pre row post)=>match Nat.beq ver v with
       | true=>match row with
         |[]=>some (.sl false st (pre.map (·.2)++post.map (·.2)))
         | _=>match oV (NS H n) row with
           |some ps=>some (.sl false st (pre.map (·.2)++ps::post.map (·.2)))
           |none=>none
       |false=>none
     |o=>oJ o ver
   |.sub _ _ _ _ _=>some .junk
   |.cB _ _ _ _=>some .junk
   | .ptr b off=>match lk H b with
     | some (.var cells)=>match oV (NS H n) cells with
       |some ps=>some (.bT ps off)
       |none=>none
     |some (.ny cells)=>some (.bT cells off)
     |_=>none
   | .agg cs=>match oV (NS H n) cs with
     |some ps=>some (.agg ps)
     |none=>none
   | .fF cs=>match oV (NS H n) cs with
     |some ps=>some (.fF ps)
     |none=>none
   | .fn f a c=>match oV (NS H n) a,oV (NS H n) c with
     |some x,some y=>some (.fn f x y)
     |_,_=>none
section
variable {P:Program}{T:Tab}{c:Ctx}{R:Real}{s:AS}{a:Act}{w:World}
def Ao:Nat→Prop:=fun _=>False
theorem tJ {f:AV→Option PV}{N:Nat→Prop}{hp:List (Nat×av)}(hf:∀x p u,f x=some p→ah N w hp R x u→aU Ao w p u) :
  ∀{xs:List AV} {ps:List PV} {us:List Value},oV f xs=some ps→FL (ah N w hp R) xs us→FL (aU Ao w) ps us
 |[],ps,us,h,hx=>by simp only[oV,Option.some.injEq] at h;subst h;exact hx
 | x::xs,ps,us,h,hx=>by
   simp only[oV] at h;split at h
   ·rename_i p hp;split at h
    ·rename_i t ht;simp only[Option.some.injEq] at h;subst h;obtain⟨v,r,rfl,h1,h2⟩:=hx;exact⟨v,r,rfl,hf _ _ _ hp h1,tJ hf ht h2⟩
    cases h
   cases h
theorem tK {f:AV→Option PV}{N:Nat→Prop}{hp:List (Nat×av)}(hf:∀x p u,f x=some p→ah N w hp R x u→aU Ao w p u) :
  ∀{xs:List AV} {ps:List PV} {us:List Value},oV f xs=some ps→FC (ah N w hp R) xs us→FC (aU Ao w) ps us
 |[],ps,us,h,hx=>by simp only[oV,Option.some.injEq] at h;subst h;exact hx
 | x::xs,ps,us,h,hx=>by
   simp only[oV] at h;split at h
   ·rename_i p hp;split at h
    ·rename_i t ht;simp only[Option.some.injEq] at h;subst h;obtain⟨v,r,rfl,h0,h1,h2⟩:=hx;exact⟨v,r,rfl,h0,hf _ _ _ hp h1,tK hf ht h2⟩
    cases h
   cases h
theorem mX {N:Nat→Prop}{st j:Nat}{ed:TypeId}{sd:Nat}:∀{hs:List (Option Value)} {rs:List (Bool×List PV)} {xs:List Value},bS N w st j ed sd hs rs xs→bf Ao w st (rs.map (·.2)) xs
 |[],[],xs,_=>by simp only[List.map_nil,bf]
 |[],_::_,xs,h=>by simp only[bS] at h
 |_::_,[],xs,h=>by simp only[bS] at h
 | h::hs,(fl,r)::rs,xs,hh=>by
   simp only[bS] at hh;obtain⟨h1,h2,h3⟩:=hh;simp only[List.map_cons,bf];refine⟨h1,?_,mX h3⟩;cases h with
   | none=>cases fl with
     |false=>exact bL (fun r _ h=>h.elim) (fun _ _ _=>rfl) _ _ h2
     |true=>exact h2.elim
   | some v=>cases fl with
     |false=>exact h2.elim
     | true=>
       obtain⟨rr,ys,a1,a0,a2,a3,a4⟩:=h2;have hv:aU Ao w (.sl false sd rr) v:=by
        obtain⟨q1,q2⟩:=a3;simp only[aU];rcases q2 with ⟨q2,q3⟩|⟨g',cap,cur,e1,_,hg,hle,hm,hs,ht⟩
        ·exact⟨none,0,0,q2,q3.symm,⟨Nat.le_refl _,by omega⟩,fun _=>⟨by trivial,by trivial⟩,fun ad ha=>by cases ha⟩
        refine⟨_,_,_,e1,rfl,⟨hle,by unfold maxLen at hm;omega⟩,fun hp=>(by cases hp),fun ad ha=>?_⟩;cases ha;refine .inr ⟨rfl,fun h=>h.elim,cur,_,_,hg,?_⟩;have a5:=aN (N':=Ao) (fun r _ h=>h.elim) (fun _ _ _=>rfl) _ _ _ a4;have:=jK (cur.toList.drop (rr.length*sd)) a5;rw[←ht,List.take_append_drop] at this;simpa using this
       have a6:=bL (N':=Ao) (fun r _ h=>h.elim) (fun _ _ _=>rfl) _ _ a2;have:∀(r:List PV) (j:Nat) (xs:List Value),r[j]? = some (.sl false sd rr)→dM Ao w (r.set j (.sc v)) xs→dM Ao w r xs:=by
        intro r;induction r with
        |nil=>intro j xs h _;simp at h
        | cons p r ih=>
          intro j xs h h';cases j with
          | zero=>
            simp only[List.getElem?_cons_zero,Option.some.injEq] at h;subst h;simp only[List.set_cons_zero,dM] at h' ⊢;obtain⟨u,t,e,b1,b2,b3⟩:=h';simp only[aU] at b2;subst b2;exact⟨u,t,e,b1,hv,b3⟩
          | succ j=>
            simp only[List.getElem?_cons_succ] at h;simp only[List.set_cons_succ,dM] at h' ⊢;obtain⟨u,t,e,b1,b2,b3⟩:=h';exact⟨u,t,e,b1,b2,ih j _ h b3⟩
       exact this r j xs a1 a6
theorem pO {N:Nat→Prop}{st:Nat}:∀{a b:List (List PV)} {xs:List Value},bf N w st a xs→bf N w st b (xs.drop (a.length*st))→bf N w st (a++b) xs
 |[],b,xs,_,h=>by simpa using h
 | x::a,b,xs,h,h'=>by
   simp only[List.cons_append,bf] at h ⊢;refine⟨h.1,h.2.1,pO h.2.2 ?_⟩;rw[List.drop_drop,show st+a.length*st=(x::a).length*st by rw[List.length_cons,Nat.succ_mul];omega];exact h'
theorem u6 (g:aR c R s a w){H:List (Nat×av)}(hH:∀b box,lk H b=some box→lk s.hp b=some box) :
  ∀(n:Nat) (x:AV) (p:PV) (u:Value),NS H n x=some p→ah (aH c R s.hp) w s.hp R x u→aU Ao w p u
 |0,x,p,u,h,_=>by simp[NS] at h
 | n+1,x,p,u,h,hx=>by
   have ih:=fun x p u=>u6 g hH n x p u
   simp only[NS] at h;split at h
   ·simp only[Option.some.injEq] at h;subst h;simp only[ah] at hx;exact bN (fun r _ h=>h.elim) (fun _ _ _=>rfl) _ _ hx
   ·rename_i b ver;simp only[ah] at hx;split at h
    ·rename_i e v st pre row post hb;have hb':=hH _ _ hb;split at h
     ·rename_i dD;split at h
      ·rename_i ps hps;simp only[Option.some.injEq] at h;subst h;rw[hb'] at hx;have hu:=hx.2.2 (Nat.eq_of_beq_eq_true dD);subst hu;obtain⟨xs,k1,k2,k3,k4,k5⟩:=g.boxes b _ hb';have UM:=(aY _ _ _ _ _ _).1 k4;have l6:=tK ih hps UM;have hl:(pre++ps::post).length=pre.length+(1+post.length):=by simp[Nat.add_comm]
       have hrows:bf Ao w st (pre++ps::post) xs:=by
        have mid:∀{pre:List (List PV)} {row:List PV} {post:List (List PV)} {xs:List Value},bf Ao w st pre xs→row.length=st→dM Ao w row (xs.drop (pre.length*st)) →
          bf Ao w st post ((xs.drop (pre.length*st)).drop st)→bf Ao w st (pre++row::post) xs:=by
         intro pre;induction pre with
         |nil=>intro row post xs h h1 h2 h3;simp only[List.nil_append,bf];exact⟨h1,by simpa using h2,by simpa using h3⟩
         | cons p pre ih=>
           intro row post xs h h1 h2 h3;simp only[bf] at h;obtain⟨a1,a2,a3⟩:=h;have e:xs.drop ((p::pre).length*st)=(xs.drop st).drop (pre.length*st):=by
            rw[List.drop_drop,show (p::pre).length*st=st+pre.length*st by rw[List.length_cons,Nat.add_mul];omega]
           rw[e] at h2 h3;simp only[List.cons_append,bf];exact⟨a1,a2,ih a3 h1 h2 h3⟩
        refine mid (aN (fun r _ h=>h.elim) (fun _ _ _=>rfl) _ _ _ k2) (by rw[←l6.length,UM.length];exact k3) ?_ (aN (fun r _ h=>h.elim) (fun _ _ _=>rfl) _ _ _ k5);have:=(l6.fp).app ((xs.drop (pre.length*st)).drop st);rw[List.take_append_drop] at this;rw[bM];exact this
       obtain⟨q1,q2⟩:=k1;simp only[aU];rcases q2 with ⟨q2,q3⟩|⟨g',cap,cur,e1,_,hg,hle,hm,hs,ht⟩
       ·omega
       refine⟨_,_,_,e1,hl.symm,⟨hle,by unfold maxLen at hm;omega⟩,fun hp=>(by cases hp),fun ad ha=>?_⟩;cases ha;refine .inr ⟨rfl,fun h=>h.elim,cur,_,_,hg,?_⟩;have:=jK (cur.toList.drop ((pre.length+(1+post.length))*st)) hrows;rw[←ht,List.take_append_drop] at this;simpa using this
      cases h
     cases h
    ·rename_i e v st j ed sd pre row post hb;have hb':=hH _ _ hb;split at h
     ·rename_i dD;rw[hb'] at hx;have hu:=hx.2.2 (Nat.eq_of_beq_eq_true dD);subst hu;obtain⟨xs,hs1,hs2,a1,k1,k2,k3,k4,k5,k6⟩:=g.boxes b _ hb';have fin:∀rows:List (List PV),rows.length=pre.length+(bJ row+post.length)→bf Ao w st rows xs→aU Ao w (.sl false st rows) (bA R b (pre.length+(bJ row+post.length))):=by
       intro rows hl hrows;obtain⟨q1,q2⟩:=k1;simp only[aU];rcases q2 with ⟨q2,q3⟩|⟨g',cap,cur,e1,_,hg,hle,hm,hs,ht⟩
       ·refine⟨none,0,0,q2,by omega,⟨Nat.le_refl _,by omega⟩,fun _=>⟨by trivial,by trivial⟩,fun ad ha=>by cases ha⟩
       refine⟨_,_,_,e1,hl.symm,⟨hle,by unfold maxLen at hm;omega⟩,fun hp=>(by cases hp),fun ad ha=>?_⟩;cases ha;refine .inr ⟨rfl,fun h=>h.elim,cur,_,_,hg,?_⟩;have:=jK (cur.toList.drop ((pre.length+(bJ row+post.length))*st)) hrows;rw[←ht,List.take_append_drop] at this;simpa using this
      split at h
      ·simp only[Option.some.injEq] at h;subst h;refine fin _ (by simp[bJ]) (pO (mX k2) ?_);rw[List.length_map];simpa[bJ] using mX k5
      rename_i row' hne;split at h
      ·rename_i ps hps;simp only[Option.some.injEq] at h;subst h;have UM:=(aY _ _ _ _ _ _).1 k4;have l6:=tK ih hps UM;have hO:bJ row=1:=by cases row with|nil=>exact absurd rfl hne|cons _ _=>rfl
       rw[hO,Nat.one_mul] at k3 k5 l6 UM;refine fin _ (by rw[hO];simp[Nat.add_comm]) (pO (mX k2) ?_);simp only[bf,List.length_map];refine⟨by rw[←l6.length,UM.length];exact k3,?_,mX k5⟩;have:=(l6.fp).app ((xs.drop (pre.length*st)).drop st);rw[List.take_append_drop] at this;rw[bM];exact this
      cases h
     cases h
    rename_i o _ _;cases hb:lk H b with
    |none=>rw[hb] at h;cases h
    | some box=>
      rw[hb,←hH _ _ hb] at h;exact kV g h (fun r h=>h.elim) (fun r _ h=>h.elim) hx
   ·simp only[Option.some.injEq] at h;subst h;simp only[aU]
   ·simp only[Option.some.injEq] at h;subst h;simp only[aU]
   ·rename_i b off;simp only[ah] at hx;split at h
    ·rename_i cells hb;split at h
     ·rename_i ps hps;simp only[Option.some.injEq] at h;subst h;have hb':=hH _ _ hb;rw[hb'] at hx;simp only[aI] at hx;subst hx;obtain⟨cur,e,hg,hc⟩:=g.boxes b _ hb';rw[aY] at hc;have hc':=tK ih hps hc;simp only[aU];refine⟨R.blk b,0,cur,e,(0,0),by simp,fun h=>h.elim,hg,?_⟩;rw[bM];simpa using hc'.fp
     cases h
    ·rename_i cells hb;simp only[Option.some.injEq] at h;subst h;have hb':=hH _ _ hb;rw[hb'] at hx;exact vX (N':=Ao) g (b:=b) (off:=off) (by rw[hb'];rfl) (fun r h=>h.elim) (fun r _ h=>h.elim) (by rw[hb'];exact hx)
    cases h
   ·split at h
    ·rename_i ps hps;simp only[Option.some.injEq] at h;subst h;simp only[ah] at hx;obtain⟨vs,rfl,hx⟩:=hx;rw[aY] at hx;simp only[aU];refine⟨vs,rfl,?_⟩;rw[dX];exact tK ih hps hx
    cases h
   ·split at h
    ·rename_i ps hps;simp only[Option.some.injEq] at h;subst h;simp only[ah] at hx;obtain⟨vs,rfl,hx⟩:=hx;rw[bZ] at hx;simp only[aU];refine⟨vs,rfl,?_⟩;rw[iF];exact tJ ih hps hx
    cases h
   split at h
   ·rename_i x y hx' hy';simp only[Option.some.injEq] at h;subst h;simp only[ah] at hx;obtain⟨fs,cs,rfl,h1,h2⟩:=hx;rw[bZ] at h1 h2;simp only[aU];refine⟨fs,cs,rfl,?_,?_⟩
    ·rw[iF];exact tJ ih hx' h1
    rw[iF];exact tJ ih hy' h2
   cases h
def Jt (hp:List (Nat×av))(vs:List AV):Bool:=
 match vs with
 | .pv _::args=>match iw hp (dx args) with
   | some H=>match D5 H args with
     |some _=>false
     |none=>true
   |none=>true
 |_=>true
def dC (P:Program)(hp:List (Nat×av))(vs:List AV)(K:AV→List (Nat×av)→List Nat→Prop):Prop:=
 match sS hp 100 (dx vs) [] with
 | ids=>match iw hp ids with
   | some H=>match oV (NS H 9) vs with
     | some (.fn (.func f) first aT::ps)=>∃r,dH P f (first++(ps++aT)) r∧match wQ r with
       |true=>K (.pv r) [] (dx vs++ids)
       |false=>False
     |_=>False
   |none=>False
theorem tL {hp:List (Nat×av)}:∀{ids:List Nat} {H:List (Nat×av)},iw hp ids=some H→∀b box,lk H b=some box→lk hp b=some box
 |[],H,h=>by simp only[iw,Option.some.injEq] at h;subst h;intro b box hb;simp[lk] at hb
 | i::r,H,h=>by
   simp only[iw] at h;split at h
   ·rename_i bx hbx;split at h
    ·rename_i t ht;simp only[Option.some.injEq] at h;subst h;intro b box hb;rw[aj] at hb;split at hb
     ·rename_i e;simp only[Option.some.injEq] at hb;subst hb;first|(rw[←e];exact hbx)|(subst e;exact hbx)|simp_all
     exact tL ht b box hb
    cases h
   cases h
theorem ML (g:aR c R s a w){fv:AV}{args:List AV}{K:AV→List (Nat×av)→List Nat→Prop}(h:dC P s.hp (fv::args) K)
  {u:Value} {us:List Value} (hf:ah (aH c R s.hp) w s.hp R fv u) (hv:FL (ah (aH c R s.hp) w s.hp R) args us) :
  ∃f first aT,u=.func (.func f) first aT∧Enters P f∧Calls P f (first++us.toArray++aT) w fun e w'=>∃v z ws ids R',e=.returned v∧K z ws ids∧aR c R' (s.app ws) a w' ∧
   ah (aH c R' (ws++s.hp)) w' (ws++s.hp) R' z v:=by
 unfold dC at h;simp only at h;split at h;rotate_left;cases h
 rename_i H hH;have hH:=tL hH;split at h;rotate_left;cases h
 rename_i f first aT ps hm
 obtain⟨r,hpc,h⟩:=h;simp only[oV] at hm;split at hm
 ·rename_i p hp;split at hm
  ·rename_i t ht;simp only[Option.some.injEq,List.cons.injEq] at hm;obtain⟨rfl,rfl⟩:=hm;have h1:=u6 g hH 9 _ _ _ hp hf;simp only[aU] at h1;obtain⟨fs,cs,rfl,hf1,hf2⟩:=h1;have h2:=tJ (u6 g hH 9) ht hv;refine⟨f,fs,cs,rfl,hpc.1,?_⟩;have hargs:cZ Ao w (first++(t++aT)) (fs++us.toArray++cs).toList:=by
    rw[iF] at hf1 hf2 ⊢;have e:(fs++us.toArray++cs).toList=fs.toList++(us++cs.toList):=by simp
    rw[e];exact hf1.app (h2.app hf2)
   refine (hpc.2 Ao w _ (fun r h=>h.elim) hargs).mono ?_;rintro e w' ⟨v,r',rfl,rfl,hr,hsame⟩
   have g2:=g.grow hsame;split at h;rotate_left;cases h
   rename_i hs;refine⟨v,_,[],_,R,rfl,h,g2,?_⟩;simp only[ah];exact sK _ _ hs hr
  cases hm
 cases hm
end
def W1 (ro:Option Nat):Fence:={ Fence.wide with round:=ro }
theorem zl {ro:Option Nat}{n:Nat}{P:Program}{f:FuncId}{args:Array Value}{w:World}{R:Ending→World→Prop}(h:Calls P f args w R):CallsIn (W1 ro) n P f args w R:=
 (callsIn_wide (n:=n)).2 h
theorem LB {n:Nat}{P:Program}{row:String}{args:Array Value}{w:World}{R:Value→World→Prop}(h:Rows P row args w R):RowsIn Fence.wide n P row args w R:=
 fun c cs _=>let ⟨v,w',r,s⟩:=h c cs;⟨v,w',r,stepsIn_wide.2 s⟩
theorem LC {ro:Option Nat}{n:Nat}{P:Program}{row:String}{args:Array Value}{w:World}{R:Value→World→Prop}(h:Rows P row args w R):RowsIn (W1 ro) n P row args w R:=
 LB (n:=n) h
theorem jv {P:Program}{o:Oper}{a:Act}{w:World}{next:Act→World→Prop}{Q:Exit→Act→World→Prop}(ro:Option Nat)(hnd:∀c,o.op ≠ .defer c)(h:o.wp P a w next Q) :
  o.wpIn (W1 ro) 0 P a w next Q:=by
 have he:Oper.semAt ro a.eval o=execOp a.eval o:=by
  cases ro with
  |none=>rfl
  |some l=>exact Oper.semAt_some l _ _ hnd
 refine⟨fun _ _=>trivial,?_⟩;show o.uponIn (W1 ro) 0 P a next Q ((Oper.semAt ro a.eval o).run P w)
 rw[he];unfold Oper.wp at h;generalize (execOp a.eval o).run P w=res at h;cases res with
 | ok x w'=>
   cases x<;>simp only[Oper.upon] at h<;>simp only[Oper.uponIn]<;>first
    |exact h
    |exact⟨fun e=>(by cases e),zl h⟩
    |exact⟨fun e=>(by cases e),LC h⟩
    |exact h.elim
 |halt x w'=>cases x<;>simp only[Oper.upon] at h<;>simp only[Oper.uponIn]<;>exact h
theorem uL:∀{vs:List AV} {ps:List PV},gu vs=some ps→vs=ps.map .pv
 |[],ps,h=>by simp only[gu,Option.some.injEq] at h;subst h;rfl
 | v::r,ps,h=>by
   cases v<;>simp only[gu] at h<;>try (cases h;done)
   split at h
   ·rename_i t ht;simp only[Option.some.injEq] at h;subst h;rw[uL ht];rfl
   cases h
theorem oW {N:Nat→Prop}{w:World}{hp:List (Nat×av)}{R:Real}:∀(ps:List PV) (xs:List Value),bB N w hp R (ps.map .pv) xs→cZ N w ps xs
 |[],xs,h=>by simpa only[List.map,bB,cZ] using h
 | p::ps,xs,h=>by
   simp only[List.map_cons,bB,ah] at h;simp only[cZ];obtain⟨v,r,e,h1,h2⟩:=h;exact⟨v,r,e,h1,oW ps r h2⟩
def isY (vs:List AV):Bool:=
 match vs with
 | v::_=>match v with
   | .pv p=>match p with
     | .fn f _ _=>match f with
       |.yield _=>true
       |_=>false
     |_=>false
   |_=>false
 |[]=>false
def yC (P:Program)(hp:List (Nat×av))(vs:List AV)(K:AV→List (Nat×av)→List Nat→Prop):Prop:=
 match vs with
 | .pv (.fn (.yield l) [] [])::args=>match lk hp 999 with
   | some (.tr y ver rest st)=>match st with
     | some b=>match b with
       | false=>match gu args with
         |some ps=>y=(P,l)∧∃x r,rest=x::r∧iy x ps∧K (.cB 999 (ver+1) 0 0) [(999,.tr y (ver+1) r none)] [999]
         |none=>False
       |true=>False
     |none=>False
   |_=>False
 |_=>False
section
variable {P:Program}{c:Ctx}{R:Real}{s:AS}{a:Act}{w:World}
def iU (c:Ctx)(R:Real)(hp:List (Nat×av))(r:Nat):Prop:=aH c R hp r∧¬R.Y.D r
def yR (R:Real)(b:Bool)(Z D:Nat→Prop)(w:World):Real:=
 { R with nil:=fun b'=>if b'=999 then b else R.nil b',Y:={ R.Y with Z:=Z,D:=D,wy:=w } }
theorem aR.yielded (g:aR c R s a w){y:Program×Nat}{ver:Nat}{rest r:List (List PV)}{w':World}{D':Nat→Prop}{b:Bool}
  (h9:lk s.hp 999=some (.tr y ver rest (some false))) (hE:iZ R.Y.D w w') (hD1:∀r,D' r→R.Y.D r∨w.heap.size≤r) (hD2:∀r,D' r→r<w'.heap.size)
  (hJ:R.Y.n0.2 r (!b) (iU c R s.hp) D' w') :
  aR c (yR R b (iU c R s.hp) D' w') (s.app [(999,.tr y (ver+1) r none)]) a w' ∧
   ah (aH c (yR R b (iU c R s.hp) D' w') ((999,.tr y (ver+1) r none)::s.hp)) w' ((999,.tr y (ver+1) r none)::s.hp) (yR R b (iU c R s.hp) D' w') (.cB 999 (ver+1) 0 0) (.bool b):=by
 generalize hbx:av.tr y (ver+1) r none=aV;obtain⟨R',hR'⟩:∃R',R'=yR R b (iU c R s.hp) D' w':=⟨_,rfl⟩;rw[←hR'];have k:=g.boxes 999 _ h9;obtain⟨-,kh,k1,k2,k3,k4⟩:=k;have oF:lk ((999,aV)::s.hp) 999=some aV:=by rw[aj,if_pos rfl]
 have nN:∀b',b'≠999→lk ((999,aV)::s.hp) b'=lk s.hp b':=fun b' h=>by rw[aj,if_neg (fun e=>h e.symm)]
 have hR:∀b',b'≠999→R'.blk b'=R.blk b'∧R'.nil b'=R.nil b'∧R'.cap b'=R.cap b':=fun b' h=>by subst hR';simp[yR,h]
 have Y5:R'.Y={ R.Y with Z:=iU c R s.hp,D:=D',wy:=w' }:=by subst hR';rfl
 have WI:∀r,ax R 999 r (lk s.hp 999)=R.Y.D r:=fun r=>by rw[h9];rfl
 have R9:∀r,ax R' 999 r (some aV)=D' r:=fun r=>by subst hbx;simp only[ax,Y5]
 have Y6:∀b' box,b'≠999→lk s.hp b'=some box→∀x1 x2 x3 x4,box ≠ .tr x1 x2 x3 x4:=by
  rintro b' box hne hb x1 x2 x3 x4 rfl
  exact hne (g.boxes b' _ hb).1
 have LD:∀b' r,b'≠999→ax R' b' r (lk s.hp b')→ax R b' r (lk s.hp b'):=by
  intro b' q hne h;cases hb:lk s.hp b' with
  |none=>rw[hb] at h;exact h.elim
  | some box=>
    rw[hb] at h;have hn:=Y6 b' box hne hb;obtain⟨e1,e2,e3⟩:=hR b' hne;cases box<;>simp only[ax,e1,e2,e3] at h ⊢ <;> first
     |exact h
     |exact absurd rfl (hn _ _ _ _)
 have abJ:∀b' r,b'≠999→ax R b' r (lk s.hp b')→ax R' b' r (lk s.hp b'):=by
  intro b' q hne h;cases hb:lk s.hp b' with
  |none=>rw[hb] at h;exact h.elim
  | some box=>
    rw[hb] at h;have hn:=Y6 b' box hne hb;obtain⟨e1,e2,e3⟩:=hR b' hne;cases box<;>simp only[ax,e1,e2,e3] at h ⊢ <;> first
     |exact h
     |exact absurd rfl (hn _ _ _ _)
 have hworld:iZ (fun r=>ax R 999 r (lk s.hp 999)) w w':=hE.mono fun r h=>by rw[WI];exact h
 have hown:∀r,ax R' 999 r (some aV)→ax R 999 r (lk s.hp 999)∨w.heap.size≤r:=fun r h=>by rw[R9] at h;rw[WI];exact hD1 r h
 have CR:∀r,owned R' ((999,aV)::s.hp) r→owned R s.hp r∨w.heap.size≤r:=by
  rintro r ⟨b',h⟩
  by_cases e:b'=999
  ·subst e;rw[oF] at h;exact (hown r h).imp (fun x=>⟨999,x⟩) id
  rw[nN b' e] at h;exact .inl ⟨b',LD b' r e h⟩
 have hN:∀r,r<w.heap.size→aH c R' ((999,aV)::s.hp) r→aH c R s.hp r:=by
  rintro r hr (h|h)
  ·exact .inl h
  exact .inr ((CR r h).resolve_right (by omega))
 have hw:∀r,r<w.heap.size→¬aH c R s.hp r→w'.heap[r]? = w.heap[r]? :=fun r hr hn=>hworld.keep r hr fun x=>hn (.inr ⟨999,x⟩)
 have p1:∀b' off v,aI R b' off v (lk s.hp b')→aI R' b' off v (lk ((999,aV)::s.hp) b'):=fun b' off v h=>by
  by_cases e:b'=999
  ·subst e;rw[h9] at h;exact h.elim
  rw[nN b' e];exact eP (hR b' e) h
 have p2:∀b' ver v,aD R b' ver v (lk s.hp b')→aD R' b' ver v (lk ((999,aV)::s.hp) b'):=fun b' ver v h=>by
  by_cases e:b'=999
  ·subst e;rw[h9] at h;exact h.elim
  rw[nN b' e];exact fM (hR b' e) h
 have p3:∀b' ver i off v,aK R b' ver i off v (lk s.hp b')→aK R' b' ver i off v (lk ((999,aV)::s.hp) b'):=fun b' ver i off v h=>by
  by_cases e:b'=999
  ·subst e;rw[h9] at h;rw[oF];subst hbx;simp only[aK] at h ⊢;exact⟨by omega,h.2.1,fun e=>by omega⟩
  rw[nN b' e];exact fO (hR b' e) h
 have hwo:∀r,r<w.heap.size→¬owned R s.hp r→w'.heap[r]? = w.heap[r]? :=fun r hr hn=>hworld.keep r hr fun x=>hn ⟨999,x⟩
 have Vo:∀r,r<w.heap.size→owned R' ((999,aV)::s.hp) r→owned R s.hp r:=fun r hr h=>(CR r h).resolve_right (by omega)
 refine⟨⟨?_,g.size,⟨by rw[Y5];exact g.lo.1,g.lo.2.1,Nat.le_trans g.lo.2.2 hE.size⟩,g.marks.imp fun Ds h=>h.kept hwo Vo,g.fixed.kept hwo Vo,?_,?_,?_,?_,?_,fun v x h=>bF hN hw p1 p2 p3 v x (g.kept v x h)⟩,?_⟩
 ·intro t v h;obtain⟨x,hx,hv⟩:=g.slots t v h;exact⟨x,hx,bF hN hw p1 p2 p3 v x hv⟩
 ·intro b' box h;by_cases e:b'=999
  ·subst e;simp only[AS.app,List.singleton_append,oF,Option.some.injEq] at h;subst h;subst hbx;simp only[dm,Y5];refine⟨trivial,kh,?_,wN.refl _ _ _ _,hD2,fun q hn=>?_⟩
   ·have:R'.nil 999=b:=by subst hR';simp[yR]
    rw[this];exact hJ
   rcases hn with hn|⟨b2,ho⟩
   ·refine .inr (.inl ⟨.inl hn,fun hd=>?_⟩);exact g.free q ⟨999,by rw[h9];exact hd⟩ hn
   simp only[AS.app,List.singleton_append] at ho;by_cases e2:b2=999
   ·subst e2;rw[oF,R9] at ho;exact .inl ho
   rw[nN b2 e2] at ho;have ho':=LD b2 q e2 ho;exact .inr (.inl ⟨.inr ⟨b2,ho'⟩,fun hd=>e2 (g.inj b2 999 q ho' (by rw[h9];exact hd))⟩)
  simp only[AS.app,List.singleton_append,nN b' e] at h;have hr:=g.boxes b' box h;have hRb:=hR b' e;have hkeep:∀r,ax R b' r (lk s.hp b')→w'.heap[r]? = w.heap[r]? :=fun r ho=>
   hworld.keep r (g.iB ho) fun x=>e (g.inj b' 999 r ho x)
  rw[h] at hkeep;cases box with
  | var cells=>
    obtain⟨cur,e',h8,h9⟩:=hr;refine⟨cur,e',?_,bg hN hw p1 p2 p3 _ _ h9⟩;rw[hRb.1,hkeep _ rfl];exact h8
  | ny cells=>
    obtain⟨cur,e',fr,h8,h7,h9⟩:=hr;have hs:=size_of_getElem? h8;refine⟨cur,e',fr,?_,?_,bL hN hw _ _ h9⟩
    ·rw[hRb.1,hw _ hs h7];exact h8
    rw[hRb.1];exact fun x=>h7 (hN _ hs x)
  | arr e' ver st rows=>
    obtain⟨xs,h8,h9⟩:=hr;refine⟨xs,?_,aN hN hw _ _ _ h9⟩;rw[gF hRb];refine bV h8 fun k hk=>hkeep k ?_
    simp only[bA] at hk;cases hnil:R.nil b' with
    |true=>simp[hnil,Value.ownBlock] at hk
    |false=>simp[hnil,Value.ownBlock] at hk;exact⟨hnil,hk⟩
  | bX ver st rows=>
    simp only[dm,gF hRb] at hr ⊢;exact bN hN hw _ _ hr
  |tr _ _ _ _=>exact absurd rfl (Y6 b' _ e h _ _ _ _)
  | mp kk kv es=>
    obtain⟨cur,clock,h8,h9,h10⟩:=hr;exact⟨cur,clock,by rw[hRb.1,hkeep _ ⟨h9,rfl⟩];exact h8,by rw[hRb.2.1];exact h9,h10⟩
  |bR e' ver st j ed sd pre row post=>exact gQ hN hw hRb.1 hRb.2.1 hRb.2.2 (fun k hk=>hkeep k hk) rfl (fun vs h=>bg hN hw p1 p2 p3 _ _ h) hr
  | dL e' ver st pre row post=>
    obtain⟨xs,h8,h9,h10,h11,h12⟩:=hr;refine⟨xs,?_,aN hN hw _ _ _ h9,h10,bg hN hw p1 p2 p3 _ _ h11,aN hN hw _ _ _ h12⟩;rw[gF hRb];refine bV h8 fun k hk=>hkeep k ?_
    simp only[bA] at hk;cases hnil:R.nil b' with
    |true=>simp[hnil,Value.ownBlock] at hk
    |false=>simp[hnil,Value.ownBlock] at hk;exact⟨hnil,hk⟩
 ·intro b1 b2 q h1 h2;simp only[AS.app,List.singleton_append] at h1 h2;by_cases e1:b1=999
  ·by_cases e2:b2=999
   ·rw[e1,e2]
   subst e1;simp only[oF,nN b2 e2] at h1 h2;have h2':=LD b2 q e2 h2;have hlt:=g.iB h2';exact g.inj _ _ q ((hown q h1).resolve_right (by omega)) h2'
  by_cases e2:b2=999
  ·subst e2;simp only[oF,nN b1 e1] at h1 h2;have h1':=LD b1 q e1 h1;have hlt:=g.iB h1';exact g.inj _ _ q h1' ((hown q h2).resolve_right (by omega))
  simp only[nN b1 e1,nN b2 e2] at h1 h2;exact g.inj _ _ q (LD b1 q e1 h1) (LD b2 q e2 h2)
 ·intro q h hF;rcases CR q h with h|h
  ·exact g.free q h hF
  have:=c.hF q hF;have:=g.gq.size;omega
 ·refine g.gq.trans hworld fun q hr ho=>?_
  exact (g.eG q ⟨999,ho⟩).resolve_right (by omega)
 ·intro q h;rcases CR q h with h|h
  ·exact g.eG q h
  exact .inr (Nat.le_trans g.gq.size h)
 simp only[ah,oF];subst hbx;simp only[aK];have:R'.nil 999=b:=by subst hR';simp[yR]
 exact⟨Nat.le_refl _,rfl,fun _ _=>by rw[this];cases b<;>rfl⟩
end
section
variable {P:Program}{T:Tab}{c:Ctx}
theorem aR.congr {R:Real}{tm tm':List (Nat×AV)}{nx:Nat}{hp hp':List (Nat×av)}{a:Act}{w:World}(g:aR c R ⟨tm,nx,hp⟩ a w)
  (ht:∀t,lk tm' t=lk tm t) (hh:∀b,lk hp' b=lk hp b):aR c R ⟨tm',nx,hp'⟩ a w:=by
 have ho:∀r,owned R hp' r↔owned R hp r:=fun r=>by simp only[owned,hh]
 have hN:∀r,r<w.heap.size→aH c R hp' r→aH c R hp r:=fun r _ h=>h.imp id (ho r).1
 have JX:∀r,¬aH c R hp r→¬aH c R hp' r:=fun r h h'=>h (h'.imp id (ho r).1)
 have hw:∀r,r<w.heap.size→¬aH c R hp r→w.heap[r]? = w.heap[r]? :=fun _ _ _=>rfl
 have h1:∀b off v,aI R b off v (lk hp b)→aI R b off v (lk hp' b):=fun b off v h=>by rw[hh];exact h
 have h2:∀b ver v,aD R b ver v (lk hp b)→aD R b ver v (lk hp' b):=fun b ver v h=>by rw[hh];exact h
 have h3:∀b ver i off v,aK R b ver i off v (lk hp b)→aK R b ver i off v (lk hp' b):=fun b ver i off v h=>by rw[hh];exact h
 refine⟨fun t v hv=>?_,g.size,g.lo,g.marks.imp fun Ds hm=>hm.kept (fun _ _ _=>rfl) (fun r _ h=>(ho r).1 h),g.fixed.kept (fun _ _ _=>rfl) (fun r _ h=>(ho r).1 h),fun b box hb=>?_,fun b b' r hb hb'=>?_,fun r hr=>g.free r ((ho r).1 hr),g.gq,fun r hr=>g.eG r ((ho r).1 hr),fun v x h=>bF hN hw h1 h2 h3 v x (g.kept v x h)⟩
 ·obtain⟨x,hx,hr⟩:=g.slots t v (by rw[←ht];exact hv);exact⟨x,hx,bF hN hw h1 h2 h3 v x hr⟩
 ·have hr:=g.boxes b box (by rw[←hh];exact hb);cases box with
  | var cells=>
    simp only[dm] at hr ⊢;obtain⟨cur,e,ha,hb⟩:=hr;exact⟨cur,e,ha,bg hN hw h1 h2 h3 cells _ hb⟩
  | ny cells=>
    simp only[dm] at hr ⊢;obtain⟨cur,e,fr,ha,hn,hb⟩:=hr;exact⟨cur,e,fr,ha,JX _ hn,bL hN hw cells _ hb⟩
  | arr e ver st rows=>
    simp only[dm] at hr ⊢;obtain⟨xs,ha,hb⟩:=hr;exact⟨xs,ha,aN hN hw st rows xs hb⟩
  | bX ver st rows=>
    simp only[dm] at hr ⊢;exact bN hN hw _ _ hr
  | tr y ver rest st=>
    obtain⟨k0,kh,k1,k2,k3,k4⟩:=hr;exact⟨k0,kh,k1,k2,k3,fun r hn=>k4 r (hn.imp id (ho r).1)⟩
  |bR e' ver st j ed sd pre row post=>exact gQ hN hw rfl rfl rfl (fun k _=>rfl) rfl (fun vs h=>bg hN hw h1 h2 h3 _ _ h) hr
  |mp kk kv es=>exact hr
  | dL e' ver st pre row post=>
    obtain⟨xs,h8,h9,h10,h11,h12⟩:=hr;exact⟨xs,h8,aN hN hw _ _ _ h9,h10,bg hN hw h1 h2 h3 _ _ h11,aN hN hw _ _ _ h12⟩
 simp only[hh] at hb hb';exact g.inj b b' r hb hb'
end
def FO (ids:List Nat)(hp:List (Nat×av)):List (Nat×av)→Prop→Prop
 |[],X=>X
 |(b,box)::r,X=>x9 b ids=true∧(lk hp b=some box∧FO ids hp r X)
theorem rz {ids:List Nat}{hp:List (Nat×av)}:∀{ws:List (Nat×av)} {X:Prop},FO ids hp ws X→X∧∀b,lk (ws++hp) b=lk hp b
 |[],X,h=>⟨h,fun _=>rfl⟩
 | (b,box)::r,X,h=>by
   obtain⟨h1,h2,h3⟩:=h;obtain⟨h4,h5⟩:=rz h3;refine⟨h4,fun k=>?_⟩;rw[List.cons_append,aj];split
   ·rename_i e;rw[←e];exact h2.symm
   exact h5 k
theorem FQ {x:Nat}:∀{l:List Nat},x9 x l=true→x∈l
 |[],h=>by simp[x9] at h
 | y::r,h=>by
   unfold x9 at h;split at h
   ·rename_i e;have e:=Nat.eq_of_beq_eq_true e;simp[e]
   exact List.mem_cons_of_mem _ (FQ h)
theorem vP {ids:List Nat}{hp hp':List (Nat×av)}(hb:∀b∈ids,lk hp' b=lk hp b):∀{ws:List (Nat×av)} {X Y:Prop},FO ids hp ws X→Y→FO ids hp' ws Y
 |[],X,Y,h,hy=>hy
 |(b,box)::r,X,Y,h,hy=>⟨h.1,(hb b (FQ h.1)).trans h.2.1,vP hb h.2.2 hy⟩
def gV (P:Program)(hp:List (Nat×av))(id:Nat)(vs:List AV)(K:AV→List (Nat×av)→List Nat→Prop):Prop:=
 gC P hp id vs fun r ws ids=>FO ids hp ws (K r [] ids)
def oC (T:Tab)(H:List (Nat×av))(t:TypeId)(vs:List AV)(id:Nat)(K:AV→List (Nat×av)→Prop):Prop:=
 match vs with
 | [.sub b ver st lo hi,x]=>match lk T t with
   | some i=>match i.d with
     | .slt e=>match lk T e with
       | some ei=>match ja H st x with
         | some aF=>match lk H b with
           | some (.arr e' v st' rows)=>match Nat.beq ver v,Nat.beq st st',Nat.beq st ei.size,Nat.beq e' e,Nat.beq lo 0 with
             |true,true,true,true,true=>hi+aF.length≤rows.length∧K (.sub b ver st 0 (hi+aF.length)) [(b,.arr e' v st' (rows.take hi++(aF++rows.drop (hi+aF.length))))]
             |_,_,_,_,_=>False
           |_=>False
         |none=>False
       |none=>False
     |_=>False
   |none=>False
 |_=>oK T H t vs id K
section
variable {P:Program}{T:Tab}{c:Ctx}{R:Real}{s:AS}{a:Act}{w:World}
theorem lW (g:aR c R s a w)(hT:bC P T){H:List (Nat×av)}(hH:∀b box,lk H b=some box→lk s.hp b=some box){id:Nat}(hf:lk s.hp id=none)
  {t ty:TypeId} {d x:AV} {K:AV→List (Nat×av)→Prop} (h:oC T H t [d,x] id K) {u v:Value} (hd:ah (aH c R s.hp) w s.hp R d u) (hx:ah (aH c R s.hp) w s.hp R x v) :
  ∃y w' R' z ws,(Builtin.append_ #[t,t] ty #[u,v]).run P w=.ok y w'∧K z ws∧aR c R' (s.app ws) a w'∧ah (aH c R' (ws++s.hp)) w' (ws++s.hp) R' z y:=by
 unfold oC at h;split at h
 ·rename_i b ver st lo hi x' heq;simp only[List.cons.injEq,and_true] at heq;obtain⟨rfl,rfl⟩:=heq;split at h;rotate_left;cases h
  rename_i i hi';obtain⟨dd,hdd,eH⟩:=(hT t i hi').eF;split at h;rotate_left;cases h
  rename_i e hte;have ht:P.underlying t=some (.slice e):=by
   rw[hte] at eH;cases dd<;>simp[di] at eH
   subst eH;exact hdd
  split at h;rotate_left;cases h
  rename_i ei lJ;have fH:=hT _ _ lJ;obtain⟨ti,zv,hinfo,hsz,hby,hzero,hzc⟩:=fH.xK;split at h;rotate_left;cases h
  rename_i aF hsrc;obtain⟨p,len,cap,rfl,rfl,hlc,U0,hps⟩:=AB g hH hsrc hx;split at h;rotate_left;cases h
  rename_i e' vr st' rows hb;have hb':=hH _ _ hb;split at h;rotate_left;cases h
  rename_i dD hst uZ he hlo;have dD:=Nat.eq_of_beq_eq_true dD;have hst:=Nat.eq_of_beq_eq_true hst;have uZ:=Nat.eq_of_beq_eq_true uZ;have he:=Nat.eq_of_beq_eq_true he;have hlo:=Nat.eq_of_beq_eq_true hlo;subst dD;subst hst;subst he;subst hlo;obtain⟨hbd,hK⟩:=h;have hre:=g.boxes b _ hb';simp only[ah,hb',aD] at hd;obtain⟨u0,Tv,hok,rfl⟩:=hd;have hu:=Tv.2.2 (by trivial);subst hu;by_cases hz:aF.length=0
  ·have he:aF=[]:=List.eq_nil_of_length_eq_zero hz;subst he;have Sk:∃p0 l0 c0,gK st 0 hi (bA R b rows.length)=.slice p0 l0 c0∧l0≤c0:=by
    cases hn:R.nil b with
    |true=>exact⟨none,0,0,by simp[bA,hn,gK],Nat.le_refl _⟩
    | false=>
      obtain⟨cur,hg,hs,hle,hm,hr,_⟩:=d9 hre hn;simp only[bA,hn,Bool.false_eq_true,if_false,kG] at hok;have hsv:gK st 0 hi (bA R b rows.length)=.slice (some (if (R.cap b).1=0 then ⟨R.blk b,0,none⟩ else (⟨R.blk b,0,none⟩:Addr).add (0*st))) (hi-0) ((R.cap b).1-0):=by simp only[bA,hn,Bool.false_eq_true,if_false,gK]
      exact⟨_,_,_,hsv,by omega⟩
   obtain⟨p0,l0,c0,e1,e2⟩:=Sk;have hrun:=jl (P:=P) (w:=w) (ty:=ty) ht fH p0 p l0 c0 cap e2;rw[←e1] at hrun;simp only[List.length_nil,Nat.add_zero,List.nil_append,List.take_append_drop] at hK;refine⟨_,w,R,_,_,hrun,hK,g.sameBox hb',?_⟩;simp only[ah,List.cons_append,List.nil_append,aj,if_true,aD];exact⟨_,Tv,hok,rfl⟩
  cases p with
  |none=>exact absurd (by rw[U0 rfl];rfl) hz
  | some ad=>
    obtain⟨news,n1,n2,n3,n4⟩:=hps ad rfl;have hn:R.nil b=false:=by
     cases hn:R.nil b with
     |false=>rfl
     | true=>
       have:=lX hre hn;subst this;simp only[List.length_nil] at hbd;omega
    obtain⟨cur,hg,hs,hle,hm,hr,_⟩:=d9 hre hn;simp only[bA,hn,Bool.false_eq_true,if_false,kG] at hok;have hadd:(⟨R.blk b,0,none⟩:Addr).add (0*st)=⟨R.blk b,0,none⟩:=by simp[Addr.add]
    have hsub:∀k,gK st 0 k (bA R b rows.length)=.slice (some ⟨R.blk b,0,none⟩) k ((R.cap b).1):=by
     intro k;simp only[bA,hn,gK,Bool.false_eq_true,if_false,hadd,Nat.sub_zero];split<;>rfl
    have hroom:hi+aF.length≤(R.cap b).1:=by omega
    have hmul:hi*st+aF.length*st=(hi+aF.length)*st:=by rw[Nat.add_mul]
    have hcs:(hi+aF.length)*st≤cur.size:=by rw[hs];exact Nat.mul_le_mul_right _ hroom
    have hfit:hi*st+news.length≤cur.size:=by rw[n1,hmul];exact hcs
    have hrun:=run_append_room (P:=P) w t ty e' ti ht hinfo (R.blk b) hi ((R.cap b).1) cur hg ad aF.length cap news (by rw[hsz,n1,uZ]) n2 n3 hroom (by rw[hsz,←uZ];exact hfit);rw[hsz,←uZ] at hrun;have hR:∀b',b'≠b→R.blk b'=R.blk b'∧R.nil b'=R.nil b'∧R.cap b'=R.cap b':=fun _ _=>⟨rfl,rfl,rfl⟩
    generalize hrows:(rows.take hi++(aF++rows.drop (hi+aF.length)))=yX at hK;have hll:yX.length=rows.length:=by rw[←hrows];simp;omega
    have r1:∀off v',aI R b off v' (lk s.hp b)→aI R b off v' (some (.arr e' ver st yX)):=fun off v h=>by rw[hb'] at h;exact h
    have r2:∀kW v',aD R b kW v' (lk s.hp b)→aD R b kW v' (some (.arr e' ver st yX)):=fun _ v h=>by rw[hb'] at h;simp only[aD,hll] at h ⊢;exact h
    have r3:∀kW i off v',aK R b kW i off v' (lk s.hp b)→aK R b kW i off v' (some (.arr e' ver st yX)):=fun _ _ _ v h=>by rw[hb'] at h;exact h
    have hown:∀r,ax R b r (some (.arr e' ver st yX))→ax R b r (lk s.hp b)∨w.heap.size≤r:=fun r h=>by rw[hb'];exact .inl h
    have hworld:iZ (fun r=>ax R b r (lk s.hp b)) w (w.setRow (R.blk b) (cur.toList.take (hi*st)++news++cur.toList.drop (hi*st+news.length)).toArray):=by
     refine (kI w _ _).mono ?_;rintro r rfl
     rw[hb'];exact⟨hn,rfl⟩
    obtain⟨m1,m2,m3,m4,m5⟩:=g.zS hR r1 r2 r3 hown hworld;refine⟨_,_,R,_,_,by rw[hsub];exact hrun,hK,g.upd hR r1 r2 r3 hown hworld ?_,?_⟩
    ·have hnew:bf (aH c R s.hp) w st yX (cur.toList.take (hi*st)++news++cur.toList.drop (hi*st+news.length)):=by
      rw[←hrows,List.append_assoc];have p1:bf (aH c R s.hp) w st (rows.take hi) (cur.toList.take (hi*st)):=by
       obtain⟨_,t2,_⟩:=dR (jb (i:=hi) hr);rw[List.length_take,Nat.min_eq_left (by omega)] at t2;exact t2
      refine gM p1 (by rw[List.length_take,List.length_take,Nat.min_eq_left (by simp;omega),Nat.min_eq_left (by omega)]) (gM n4 n1 ?_);rw[n1,hmul];exact jk (hi+aF.length) hr
     have NR:(cur.toList.take (hi*st)++news++cur.toList.drop (hi*st+news.length)).length=cur.size:=by
      simp only[List.length_append,List.length_take,List.length_drop,Array.length_toList];omega
     obtain⟨t1,t2,t3⟩:=dR (aN m1 m2 _ _ _ hnew);refine⟨_,?_,t2⟩;have hsl:bA R b yX.length=.slice (some ⟨R.blk b,0,none⟩) rows.length ((R.cap b).1):=by simp[bA,hn,hll]
     rw[hsl,hll];rw[hll] at t1;refine⟨?_,.inr ⟨R.blk b,(R.cap b).1,_,rfl,Nat.zero_le _,setRow_heap w _ cur _ e' _ hg,hle,hm,?_,by simp⟩⟩
     ·simp only[List.length_take];omega
     simp only[List.size_toArray,NR,hs]
    simp only[ah,List.cons_append,List.nil_append,aj,if_true,aD];refine⟨bA R b rows.length,⟨Nat.le_refl _,Tv.2.1,fun _=>by rw[hll]⟩,?_,by rw[hsub]⟩;simp only[bA,hn,Bool.false_eq_true,if_false,kG];omega
 exact nC g hT hH hf h hd hx
def AZ (T:Tab)(H:List (Nat×av))(t:TypeId)(lo hi mx:Option Operand)(b ver st l0:Nat)(r:List AV)(K:AV→List (Nat×av)→Prop):Prop:=
 match lk H b with
 | some (.arr e v st' rows)=>match Nat.beq ver v,Nat.beq l0 0,isNone mx with
   | true,true,true=>match lk T t with
     | some i=>match i.d with
       | .slt et=>match lk T et with
         | some ei=>match Nat.beq st ei.size,Nat.beq st st' with
           | true,true=>match wX lo r with
             | some (some l,r1)=>match wX hi r1 with
               |some (some h,_)=>0≤h∧h≤rows.length∧0≤l∧l≤h∧K (.sub b ver st l.toNat h.toNat) []
               |_=>False
             |_=>False
           |_,_=>False
         |none=>False
       |_=>False
     |none=>False
   |_,_,_=>False
 |_=>False
def A7 (T:Tab)(H:List (Nat×av))(t:TypeId)(lo hi mx:Option Operand)(b ver:Nat)(r:List AV)(K:AV→List (Nat×av)→Prop):Prop:=
 match lk H b with
 | some (.arr e v st rows)=>match Nat.beq ver v with
   | true=>match lk T t with
     | some i=>match i.d with
       | .slt et=>match lk T et with
         | some ei=>match wX lo r with
           | some (some l,r1)=>match wX hi r1 with
             | some (some h,r2)=>match wX mx r2 with
               |some (some m,_)=>0≤m∧m≤rows.length∧0≤h∧h≤m∧0≤l∧l≤h∧K (.pv .junk) []
               |_=>False
             |_=>False
           |_=>False
         |none=>False
       |_=>False
     |none=>False
   |false=>False
 |_=>False
def lQ (T:Tab)(H:List (Nat×av))(t:TypeId)(lo hi mx:Option Operand)(vs:List AV)(K:AV→List (Nat×av)→Prop):Prop:=
 match VK T with
 |false=>jZ T H t lo hi mx vs K
 | true=>match vs with
   |.sub b ver st l0 _::r=>AZ T H t lo hi mx b ver st l0 r K
   | .aG b ver::r=>match isNone mx with
     |true=>jZ T H t lo hi mx vs K
     |false=>A7 T H t lo hi mx b ver r K
   |_=>jZ T H t lo hi mx vs K
theorem Ip {P:Program}{w:World}{len len' cap:Nat}{lo hi mx:Option Value}(h:hi.isSome=true):(Instr.sliceBounds true len cap lo hi mx).run P w=(Instr.sliceBounds true len' cap lo hi mx).run P w:=by
 cases hi with
 |none=>cases h
 |some v=>cases mx<;>simp[Instr.sliceBounds]
theorem Ql {o:Option Value}{j:Int}(h:vI o (some j)):o.isSome=true:=by
 cases o with
 |none=>exact h.elim
 |some v=>rfl
theorem Fa (g:aR c R s a w)(hT:bC P T){H:List (Nat×av)}(hH:∀b box,lk H b=some box→lk s.hp b=some box){t:TypeId}{x0:Operand}{lo hi mx:Option Operand}{b ver st l0 h0:Nat}{r:List AV}
  {K:AV→List (Nat×av)→Prop} (h:AZ T H t lo hi mx b ver st l0 r K)
  (hv:FL (ah (aH c R s.hp) w s.hp R) (.sub b ver st l0 h0::r) ((x0::(lo.toList++(hi.toList++mx.toList))).map a.eval)) :
  ∃y z,(Instr.sliceAt t (a.eval x0) (lo.map a.eval) (hi.map a.eval) (mx.map a.eval)).run P w=.ok y w∧K z []∧ah (aH c R s.hp) w s.hp R z y:=by
 unfold AZ at h;split at h;rotate_left;cases h
 rename_i e v st' rows hb;split at h;rotate_left;cases h
 rename_i dD hl0 hmx;have dD:=Nat.eq_of_beq_eq_true dD;have hl0:=Nat.eq_of_beq_eq_true hl0;have hmx:mx=none:=by cases mx<;>simp_all [isNone]
 subst hmx;subst hl0;split at h;rotate_left;cases h
 rename_i i hi';obtain⟨d,hd,eH⟩:=(hT t i hi').eF;split at h;rotate_left;cases h
 rename_i et hte;have hd':P.underlying t=some (.slice et):=by
  rw[hte] at eH;cases d<;>simp[di] at eH
  subst eH;exact hd
 split at h;rotate_left;cases h
 rename_i ei lJ;have fH:=hT _ _ lJ;split at h;rotate_left;cases h
 rename_i hst uZ;have hst:=Nat.eq_of_beq_eq_true hst;have uZ:=Nat.eq_of_beq_eq_true uZ;subst uZ;split at h;rotate_left;cases h
 rename_i l r1 hl;split at h;rotate_left;cases h
 rename_i hh r2 hhi;obtain⟨k1,k2,k3,k4,hK⟩:=h;simp only[List.map_cons] at hv;obtain⟨u,r',e1,hx,hv⟩:=hv;simp only[List.cons.injEq] at e1;obtain⟨e1,rfl⟩:=e1;obtain⟨v1,hv⟩:=fq hv hl;obtain⟨v2,hv⟩:=fq (rest:=[]) (by simpa using hv) hhi;have hb':=hH _ _ hb;have hre:=g.boxes b _ hb';simp only[ah,hb',aD] at hx;obtain⟨u0,Tv,hok,rfl⟩:=hx;have hu:=Tv.2.2 dD;subst hu;have Tw:=Ql v2;cases hn:R.nil b with
 | true=>
   have hr0:=lX hre hn;subst hr0;simp only[bA,hn,if_true,kG,List.length_nil] at hok;obtain⟨hrun,q1,q2,q3⟩:=fV (P:=P) (w:=w) (Lh:=true) (len:=0) (cap:=0) (m:=none) v1 v2 (show vI none none from trivial) (Nat.le_refl _) (fun i e=>by cases e) (by simpa[dJ] using ⟨k1,k2⟩) (by simpa[dJ] using ⟨k3,k4⟩);have hz:hh.toNat=0:=by simp at k2;omega
   have lz:l.toNat=0:=by omega
   refine⟨.slice none 0 0,_,?_,hK,?_⟩
   ·rw[e1];simp only[Option.map_none,Option.map_some,Option.getD_none,Option.getD_some,dJ,hz,lz] at hrun;simp only[Instr.sliceAt,Instr.slice,Sem.run_bind,run_underlying hd',Result.andThen_ok,bA,hn,if_true,gK,Option.map_none,hrun,fH.run_sizeOf,Sem.run_pure]
   simp only[ah,hb',aD];refine⟨_,Tv,?_,by simp[bA,hn,gK]⟩;simp only[bA,hn,if_true,kG];omega
 | false=>
   obtain⟨cur,hg,hs,hle,hm,hr,_⟩:=d9 hre hn;obtain⟨hrun,q1,q2,q3⟩:=fV (P:=P) (w:=w) (Lh:=true) (len:=rows.length) (cap:=(R.cap b).1) (m:=none) v1 v2 (show vI none none from trivial) hle (fun i e=>by cases e) (by
    intro i hi;cases hi;exact⟨k1,k2⟩) (by intro i hi;cases hi;exact⟨k3,k4⟩)
   rw[Ip (len':=h0) Tw] at hrun;simp only[Option.map_none,Option.map_some,Option.getD_none,Option.getD_some,dJ] at hrun;have hadd:(⟨R.blk b,0,none⟩:Addr).add (0*st)=⟨R.blk b,0,none⟩:=by simp[Addr.add]
   have hsub:gK st 0 h0 (bA R b rows.length)=.slice (some ⟨R.blk b,0,none⟩) h0 ((R.cap b).1):=by
    simp only[bA,hn,gK,Bool.false_eq_true,if_false,hadd,Nat.sub_zero];split<;>rfl
   refine⟨gK st l.toNat hh.toNat (bA R b rows.length),_,?_,hK,?_⟩
   ·rw[e1,hsub];simp only[Instr.sliceAt,Instr.slice,Sem.run_bind,run_underlying hd',Result.andThen_ok,Option.map_none,hrun,fH.run_sizeOf,Sem.run_pure];simp only[bA,hn,Bool.false_eq_true,if_false,gK,hst];congr 2
    split<;>rfl
   simp only[ah,hb',aD];refine⟨_,Tv,?_,rfl⟩;simp only[bA,hn,Bool.false_eq_true,if_false,kG];omega
theorem Fb (g:aR c R s a w)(hT:bC P T){H:List (Nat×av)}(hH:∀b box,lk H b=some box→lk s.hp b=some box){t:TypeId}{x0:Operand}{lo hi mx:Option Operand}{b ver:Nat}{r:List AV}
  {K:AV→List (Nat×av)→Prop} (h:A7 T H t lo hi mx b ver r K)
  (hv:FL (ah (aH c R s.hp) w s.hp R) (.aG b ver::r) ((x0::(lo.toList++(hi.toList++mx.toList))).map a.eval)) :
  ∃y z,(Instr.sliceAt t (a.eval x0) (lo.map a.eval) (hi.map a.eval) (mx.map a.eval)).run P w=.ok y w∧K z []∧ah (aH c R s.hp) w s.hp R z y:=by
 unfold A7 at h;split at h;rotate_left;cases h
 rename_i e v st rows hb;split at h;rotate_left;cases h
 rename_i dD;have dD:=Nat.eq_of_beq_eq_true dD;split at h;rotate_left;cases h
 rename_i i hi';obtain⟨d,hd,eH⟩:=(hT t i hi').eF;split at h;rotate_left;cases h
 rename_i et hte;have hd':P.underlying t=some (.slice et):=by
  rw[hte] at eH;cases d<;>simp[di] at eH
  subst eH;exact hd
 split at h;rotate_left;cases h
 rename_i ei lJ;have fH:=hT _ _ lJ;split at h;rotate_left;cases h
 rename_i l r1 hl;split at h;rotate_left;cases h
 rename_i hh r2 hhi;split at h;rotate_left;cases h
 rename_i m r3 hmx;obtain⟨k5,k6,k1,k2,k3,k4,hK⟩:=h;simp only[List.map_cons] at hv;obtain⟨u,r',e1,hx,hv⟩:=hv;simp only[List.cons.injEq] at e1;obtain⟨e1,rfl⟩:=e1;obtain⟨v1,hv⟩:=fq hv hl;obtain⟨v2,hv⟩:=fq hv hhi;obtain⟨v3,hv⟩:=fq (rest:=[]) (by simpa using hv) hmx;have hb':=hH _ _ hb;have hre:=g.boxes b _ hb';simp only[ah,hb',aD] at hx;have hu:=hx.2.2 dD;subst hu;obtain⟨p0,l0,c0,hsl,hlc,hl0⟩:∃p0 l0 c0,bA R b rows.length=.slice p0 l0 c0∧l0≤c0∧l0=rows.length:=by
  cases hn:R.nil b with
  | true=>
    have hr0:=lX hre hn;subst hr0;exact⟨none,0,0,by simp[bA,hn],Nat.le_refl _,rfl⟩
  | false=>
    obtain⟨cur,hg,hs,hle,hm,hr,_⟩:=d9 hre hn;exact⟨some ⟨R.blk b,0,none⟩,rows.length,(R.cap b).1,by simp only[bA,hn,Bool.false_eq_true,if_false],hle,rfl⟩
 subst hl0;obtain⟨hrun,q1,q2,q3⟩:=fV (P:=P) (w:=w) (Lh:=true) v1 v2 v3 hlc (fun i e=>by cases e;exact⟨k5,k6,rfl⟩) (by
  intro i hi;cases hi;exact⟨k1,by simpa[dJ] using k2⟩) (by intro i hi;cases hi;exact⟨k3,by simpa[dJ] using k4⟩)
 rw[hsl] at e1;obtain⟨y,hy⟩:∃y,(Instr.sliceAt t (a.eval x0) (lo.map a.eval) (hi.map a.eval) (mx.map a.eval)).run P w=.ok y w:=by
  rw[e1];simp only[Instr.sliceAt,Instr.slice,Sem.run_bind,run_underlying hd',Result.andThen_ok,hrun,fH.run_sizeOf,Sem.run_pure];exact⟨_,rfl⟩
 exact⟨y,_,hy,hK,by simp only[ah,aU]⟩
theorem z8 (g:aR c R s a w)(hT:bC P T){H:List (Nat×av)}(hH:∀b box,lk H b=some box→lk s.hp b=some box){t:TypeId}{x0:Operand}{lo hi mx:Option Operand}{vs:List AV}
  {K:AV→List (Nat×av)→Prop} (h:lQ T H t lo hi mx vs K)
  (hv:FL (ah (aH c R s.hp) w s.hp R) vs ((x0::(lo.toList++(hi.toList++mx.toList))).map a.eval)) :
  ∃y z ws R',(Instr.sliceAt t (a.eval x0) (lo.map a.eval) (hi.map a.eval) (mx.map a.eval)).run P w=.ok y w∧K z ws∧aR c R' (s.app ws) a w∧ah (aH c R' (ws++s.hp)) w (ws++s.hp) R' z y:=by
 unfold lQ at h;split at h
 ·exact mg g hT hH h hv
 split at h
 ·obtain⟨y,z,h1,h2,h3⟩:=Fa g hT hH h hv;exact⟨y,z,[],R,h1,h2,g,h3⟩
 ·split at h
  ·exact mg g hT hH h hv
  obtain⟨y,z,h1,h2,h3⟩:=Fb g hT hH h hv;exact⟨y,z,[],R,h1,h2,g,h3⟩
 exact mg g hT hH h hv
end
def dG (vs:List Value):List PV:=vs.map .sc
theorem y9 {N:Nat→Prop}{w:World}:∀(vs xs:List Value),(∀v∈vs,v.oneCell'=true)→(dM N w (dG vs) (vs++xs))
 |[],_,_=>by simp[dG,dM]
 | v::vs,xs,h=>by
   simp only[dG,List.map_cons,dM,List.cons_append];refine⟨v,vs++xs,rfl,h v (by simp),by simp only[aU],y9 vs xs fun u hu=>h u (by simp[hu])⟩
theorem za {N:Nat→Prop}{w:World}:∀(vs xs:List Value),dM N w (dG vs) xs→∃r,xs=vs++r
 |[],xs,_=>⟨xs,rfl⟩
 | v::vs,xs,h=>by
   simp only[dG,List.map_cons,dM] at h;obtain⟨x,r,rfl,_,h1,h2⟩:=h;simp only[aU] at h1;subst h1;obtain⟨r',rfl⟩:=za vs r h2;exact⟨r',rfl⟩
theorem j6 (vs:List Value):(dG vs).length=vs.length:=by simp[dG]
section
variable {c:Ctx}{R:Real}{s:AS}{a:Act}{w:World}
theorem aR.JU (g:aR c R s a w){b:Nat}{box aV:av}(hb:lk s.hp b=some box)
  (r1:∀off v,aI R b off v (some box)→aI R b off v (some aV))
  (r2:∀ver v,aD R b ver v (some box)→aD R b ver v (some aV))
  (r3:∀ver i off v,aK R b ver i off v (some box)→aK R b ver i off v (some aV))
  (hown:∀r,ax R b r (some aV)→ax R b r (some box))
  (yE:(∀v x,ah (aH c R s.hp) w s.hp R v x→ah (aH c R ((b,aV)::s.hp)) w ((b,aV)::s.hp) R v x) →
   (∀r,aH c R ((b,aV)::s.hp) r→aH c R s.hp r)→dm (aH c R ((b,aV)::s.hp)) w ((b,aV)::s.hp) R b aV) :
  aR c R (s.app [(b,aV)]) a w∧(∀v x,ah (aH c R s.hp) w s.hp R v x→ah (aH c R ((b,aV)::s.hp)) w ((b,aV)::s.hp) R v x):=by
 have q1:∀off v,aI R b off v (lk s.hp b)→aI R b off v (some aV):=fun off v h=>r1 off v (by rw[hb] at h;exact h)
 have q2:∀ver v,aD R b ver v (lk s.hp b)→aD R b ver v (some aV):=fun ver v h=>r2 ver v (by rw[hb] at h;exact h)
 have q3:∀ver i off v,aK R b ver i off v (lk s.hp b)→aK R b ver i off v (some aV):=fun ver i off v h=>r3 ver i off v (by rw[hb] at h;exact h)
 have ho:∀r,ax R b r (some aV)→ax R b r (lk s.hp b)∨w.heap.size≤r:=fun r h=>.inl (by rw[hb];exact hown r h)
 have hR:∀b',b'≠b→R.blk b'=R.blk b'∧R.nil b'=R.nil b'∧R.cap b'=R.cap b':=fun _ _=>⟨rfl,rfl,rfl⟩
 obtain⟨m1,m2,m3,m4,m5⟩:=g.zS (b:=b) (aV:=aV) hR q1 q2 q3 ho (iZ.refl _ w) rfl;have hm:=fun v x h=>bF (p:=v) m1 m2 m3 m4 m5 x h
 refine⟨g.upd (nx':=s.nx) hR q1 q2 q3 ho (iZ.refl _ w) (yE hm fun r hr=>?_) rfl,hm⟩;rcases hr with h|⟨b',h⟩
 ·exact .inl h
 refine .inr ⟨b',?_⟩;rw[aj] at h;split at h
 ·rename_i e;subst e;rw[hb];exact hown r h
 exact h
theorem tV {N:Nat→Prop}{w:World}{st:Nat}:∀{pre:List (List PV)} {row:List PV} {post:List (List PV)} {xs:List Value},bf N w st (pre++row::post) xs→bf N w st pre xs∧row.length=st∧dM N w row (xs.drop (pre.length*st))∧bf N w st post ((xs.drop (pre.length*st)).drop st)
 | [],row,post,xs,h=>by
   simp only[List.nil_append,bf] at h;exact⟨trivial,h.1,by simpa using h.2.1,by simpa using h.2.2⟩
 | p::pre,row,post,xs,h=>by
   simp only[List.cons_append,bf] at h;obtain⟨h1,h2,h3⟩:=h;obtain⟨a1,a2,a3,a4⟩:=tV h3;have e:xs.drop ((p::pre).length*st)=(xs.drop st).drop (pre.length*st):=by
    rw[List.drop_drop,show (p::pre).length*st=st+pre.length*st by rw[List.length_cons,Nat.add_mul];omega]
   rw[e];exact⟨⟨h1,h2,a1⟩,a2,a3,a4⟩
theorem BK {N:Nat→Prop}{w:World}{st:Nat}:∀{pre:List (List PV)} {row:List PV} {post:List (List PV)} {xs:List Value},bf N w st pre xs→row.length=st→dM N w row (xs.drop (pre.length*st)) →
  bf N w st post ((xs.drop (pre.length*st)).drop st)→bf N w st (pre++row::post) xs
 | [],row,post,xs,h,h1,h2,h3=>by
   simp only[List.nil_append,bf];exact⟨h1,by simpa using h2,by simpa using h3⟩
 | p::pre,row,post,xs,h,h1,h2,h3=>by
   simp only[bf] at h;obtain⟨a1,a2,a3⟩:=h;simp only[List.cons_append,bf];have e:xs.drop ((p::pre).length*st)=(xs.drop st).drop (pre.length*st):=by
    rw[List.drop_drop,show (p::pre).length*st=st+pre.length*st by rw[List.length_cons,Nat.add_mul];omega]
   rw[e] at h2 h3;exact⟨a1,a2,BK a3 h1 h2 h3⟩
theorem aR.BL (g:aR c R s a w){b:Nat}{e:TypeId}{v st:Nat}{pre post:List (List PV)}{vs:List Value}{row:List AV}(hb:lk s.hp b=some (.arr e v st (pre++dG vs::post)))
  (hrow:bq (aH c R s.hp) w s.hp R row vs) :
  aR c R (s.app [(b,.dL e v st pre row post)]) a w∧(∀u x,ah (aH c R s.hp) w s.hp R u x→ah (aH c R ((b,.dL e v st pre row post)::s.hp)) w ((b,.dL e v st pre row post)::s.hp) R u x):=by
 have hl:(pre++dG vs::post).length=pre.length+(1+post.length):=by simp[Nat.add_comm]
 refine g.JU hb (fun off v h=>h.elim) (fun ver u h=>?_) (fun ver i off u h=>h) (fun r h=>h) (fun hm hN=>?_)
 ·simpa only[aD,hl] using h
 obtain⟨xs,h1,h2⟩:=g.boxes b _ hb;obtain⟨a1,a2,a3,a4⟩:=tV h2;obtain⟨r,hr⟩:=za _ _ a3;rw[j6] at a2;have hrl:row.length=vs.length:=by
  have:=(aY _ _ _ _ _ _).1 hrow;exact this.length.symm
 refine⟨xs,by rw[←hl];exact h1,aN (fun r _ h=>hN r h) (fun _ _ _=>rfl) _ _ _ a1,by rw[hrl];exact a2,?_,aN (fun r _ h=>hN r h) (fun _ _ _=>rfl) _ _ _ a4⟩;rw[hr,show (vs++r).take st=vs by rw[←a2];exact List.take_left];rw[aY] at hrow ⊢;exact hrow.imp hm
theorem aR.nW (g:aR c R s a w){b:Nat}{e:TypeId}{v st:Nat}{pre post:List (List PV)}{row:List AV}(hb:lk s.hp b=some (.dL e v st pre row post)) :
  ∃vs:List Value,bq (aH c R s.hp) w s.hp R row vs∧vs.length=st∧aR c R (s.app [(b,.arr e v st (pre++dG vs::post))]) a w ∧
   (∀u x,ah (aH c R s.hp) w s.hp R u x→ah (aH c R ((b,.arr e v st (pre++dG vs::post))::s.hp)) w ((b,.arr e v st (pre++dG vs::post))::s.hp) R u x):=by
 obtain⟨xs,h1,h2,h3,h4,h5⟩:=g.boxes b _ hb;have h4':=(aY _ _ _ _ _ _).1 h4;refine⟨(xs.drop (pre.length*st)).take st,h4,h4'.length.trans h3,g.JU hb (fun off v h=>h.elim) (fun ver u h=>?_) (fun ver i off u h=>h) (fun r h=>h) (fun hm hN=>?_)⟩
 ·have hl:(pre++dG ((xs.drop (pre.length*st)).take st)::post).length=pre.length+(1+post.length):=by simp[Nat.add_comm]
  simpa only[aD,hl] using h
 have hl:(pre++dG ((xs.drop (pre.length*st)).take st)::post).length=pre.length+(1+post.length):=by simp[Nat.add_comm]
 refine⟨xs,by rw[hl];exact h1,?_⟩;refine BK (aN (fun r _ h=>hN r h) (fun _ _ _=>rfl) _ _ _ h2) (by rw[j6,h4'.length];exact h3) ?_ (aN (fun r _ h=>hN r h) (fun _ _ _=>rfl) _ _ _ h5);have:=y9 (N:=aH c R ((b,av.arr e v st (pre++dG ((xs.drop (pre.length*st)).take st)::post))::s.hp)) (w:=w) ((xs.drop (pre.length*st)).take st) ((xs.drop (pre.length*st)).drop st) (fun u hu=>h4'.one u hu);rwa [List.take_append_drop] at this
def Dh (c:Ctx):Ctx:={ c with n:=c.n+1 }
theorem aR.Fs (g:aR c R s a w){v:AV}{x:Value}(hx:ah (aH c R s.hp) w s.hp R v x) :
  aR (Dh c) R ⟨(c.n,v)::s.tm,s.nx,s.hp⟩ { a with tmps:=a.tmps.push x } w:=by
 refine⟨fun t u hu=>?_,by simp[Dh,g.size],g.lo,g.marks,g.fixed,g.boxes,g.inj,g.free,g.gq,g.eG,g.kept⟩;rw[aj] at hu;split at hu
 ·rename_i e;simp only[Option.some.injEq] at hu;subst e;subst hu;refine⟨x,?_,hx⟩;show (a.tmps.push x)[c.n]? = some x
  rw[←g.size];exact Array.getElem?_push_size
 obtain⟨y,hy,hr⟩:=g.slots t u hu;refine⟨y,?_,hr⟩;rw[Array.getElem?_push];have:=size_of_getElem? hy;rw[if_neg (by omega)];exact hy
theorem aR.tX {v:AV}{x:Value}{tm:List (Nat×AV)}{nx:Nat}{hp:List (Nat×av)}(ha:a.tmps.size=c.n)(Ky:∀t u,lk tm t=some u→t≠c.n)(g:aR (Dh c) R ⟨(c.n,v)::tm,nx,hp⟩ { a with tmps:=a.tmps.push x } w) :
  aR c R ⟨tm,nx,hp⟩ a w∧ah (aH c R hp) w hp R v x:=by
 refine⟨⟨fun t u hu=>?_,ha,g.lo,g.marks,g.fixed,g.boxes,g.inj,g.free,g.gq,g.eG,g.kept⟩,?_⟩
 ·have hne:=Ky t u hu;obtain⟨y,hy,hr⟩:=g.slots t u (by rw[aj,if_neg (fun e=>hne e.symm)];exact hu);refine⟨y,?_,hr⟩;rw[Array.getElem?_push] at hy;split at hy
  ·rename_i e;omega
  exact hy
 obtain⟨y,hy,hr⟩:=g.slots c.n v (by rw[aj,if_pos rfl]);rw[Array.getElem?_push,if_pos ha.symm] at hy;simp only[Option.some.injEq] at hy;subst hy;exact hr
end
def RS (a:Nat):Tab→Bool
 | (b,_)::r=>match Nat.beq a b with
   |true=>RS a r
   | false=>match r with
     |(c,_)::_=>Nat.beq b c
     |[]=>false
 |[]=>false
def YF (T:Tab):Bool:=
 match T with
 |(a,_)::r=>RS a r
 |[]=>false
def pu (T:Tab)(H:List (Nat×av))(t:TypeId)(x:AV)(K:AV→Prop):Prop:=
 match x with
 | .cB b ver k off=>match lk H b with
   | some (.dL e v st pre row post)=>match lk T t with
     | some i=>match Nat.beq ver v,Nat.beq i.size 0 with
       | true,false=>match part off i.size row with
         |some cs=>k=pre.length∧nL i cs K
         |none=>False
       |_,_=>False
     |none=>False
   |_=>o7 T H t (.cB b ver k off) K
 |x=>o7 T H t x K
def jH (T:Tab)(H:List (Nat×av))(t:TypeId)(x y:AV)(K:AV→List (Nat×av)→Prop):Prop:=
 match x with
 | .cB b ver k off=>match lk H b with
   | some (.dL e v st pre row post)=>match lk T t with
     | some i=>match Nat.beq ver v with
       | true=>match cellsOf i y with
         | some cs=>match Nat.beq cs.length i.size with
           | true=>match gZ off row cs with
             |some row'=>k=pre.length∧K (.pv (.sc undef)) [(b,.dL e v st pre row' post)]
             |none=>False
           |false=>False
         |none=>False
       |false=>False
     |none=>False
   |_=>l8 T H t (.cB b ver k off) y K
 |x=>l8 T H t x y K
def Ez (T:Tab)(H:List (Nat×av))(t:TypeId)(x ix:AV)(K:AV→Prop):Prop:=
 match x with
 | .aG b ver=>match lk H b with
   | some (.dL e v st pre row post)=>match ix with
     | .pv (.sc (.int _ i))=>match lk T t with
       | some ti=>match ti.d with
         | .slt e=>match lk T e with
           | some ei=>match Nat.beq ver v,Nat.beq st ei.size with
             |true,true=>0≤i∧i.toNat<pre.length+(1+post.length)∧K (.cB b ver i.toNat 0)
             |_,_=>False
           |none=>False
         |_=>False
       |none=>False
     |_=>False
   |_=>cK T H t (.aG b ver) ix K
 |x=>cK T H t x ix K
def vM (T:Tab)(H:List (Nat×av))(t:TypeId)(x:AV)(K:AV→Prop):Prop:=
 match x with
 | .aG b ver=>match lk H b with
   | some (.dL e v st pre row post)=>match lk T t with
     | some i=>match i.d with
       | .slt _=>match Nat.beq ver v with
         |true=>K (.pv (.sc (.int .i64 (pre.length+(1+post.length):Nat))))
         |false=>False
       |_=>False
     |none=>False
   |_=>yu T H t (.aG b ver) K
 |x=>yu T H t x K
section
variable {P:Program}{T:Tab}{N:Nat→Prop}{w:World}{hp:List (Nat×av)}{R:Real}
theorem wu (i:TI){t:TypeId}(hi:bD P t i){g off:Nat}{cur:Array Value}{e:TypeId}{fr:Nat×Nat}{cs:List AV}{K:AV→Prop}
  (hg:w.heap[g]? = some (.cells cur e fr)) (hl:off+i.size≤cur.size) (hcs:FC (ah N w hp R) cs ((cur.toList.drop off).take i.size))
  (h:nL i cs K) :
  ∃x v,(loadVar t ⟨g,off,none⟩).run P w=.ok x w∧K v∧ah N w hp R v x:=by
 have hrun:=jh (w:=w) hi hg hl;cases ha:i.d.isAgg with
 | true=>
   simp only[nL,ha] at h;simp only[ha] at hrun;unfold sH at h;split at h;rotate_left;cases h
   rename_i v hv;refine⟨_,v,hrun,h,?_⟩;split at hv
   ·rename_i ps hps;simp only[Option.some.injEq] at hv;subst hv;simp only[ah,aU,if_true];refine⟨_,rfl,?_⟩;rw[dX];have:∀(cs:List AV) (ps:List PV) (vs:List Value),gu cs=some ps→FC (ah N w hp R) cs vs→FC (aU N w) ps vs:=by
     intro cs;induction cs with
     |nil=>intro ps vs h h';simp only[gu,Option.some.injEq] at h;subst h;exact h'
     | cons c cs ih=>
       intro ps vs h h';obtain⟨v,r,rfl,h1,h2,h3⟩:=h';cases c<;>simp only[gu] at h<;>try (cases h;done)
       split at h
       ·rename_i Yr l6;simp only[Option.some.injEq] at h;subst h;exact⟨v,r,rfl,h1,by simpa only[ah] using h2,ih _ _ l6 h3⟩
       cases h
    exact this cs ps _ hps (by simpa using hcs)
   simp only[Option.some.injEq] at hv;subst hv;simp only[ah,if_true];refine⟨_,rfl,?_⟩;rw[aY];simpa using hcs
 | false=>
   have h1:=hi.agg ha;simp only[nL,ha] at h;simp only[ha,Bool.false_eq_true,if_false] at hrun;split at h;rotate_left;cases h
   rename_i v;obtain⟨u,r,e1,e2,e3,e4⟩:=hcs;refine⟨_,_,hrun,h,?_⟩;have:cur[off]! = u:=by
    have hlt:off<cur.size:=by omega
    rw[getElem!_pos cur off hlt];have hh:((cur.toList.drop off).take i.size)[0]? = some u:=by rw[e1];rfl
    rw[h1] at hh;simp only[List.getElem?_take,Nat.zero_lt_one,if_true,List.getElem?_drop,Nat.add_zero] at hh;have h3:cur[off]? = some u:=by simpa using hh
    rw[Array.getElem?_eq_getElem hlt] at h3;exact Option.some.inj h3
   rw[this];exact e3
end
section
variable {P:Program}{T:Tab}{c:Ctx}{R:Real}{s:AS}{a:Act}{w:World}
theorem Lm (g:aR c R s a w){b:Nat}{e:TypeId}{v st:Nat}{pre post:List (List PV)}{row:List AV}(hb:lk s.hp b=some (.dL e v st pre row post))(hn:R.nil b=false) :
  ∃(cur:Array Value) (vs r:List Value),w.heap[R.blk b]? = some (.cells cur e (0,0))∧cur.toList.drop (pre.length*st)=vs++r∧vs.length=st∧FC (ah (aH c R s.hp) w s.hp R) row vs:=by
 obtain⟨vs,hrow,hvl,g1,m1⟩:=g.nW hb;have hb1:lk (s.app [(b,.arr e v st (pre++dG vs::post))]).hp b=some (.arr e v st (pre++dG vs::post)):=by
  simp only[AS.app,List.singleton_append,aj,if_true]
 obtain⟨cur,hg,hs,hle,hm,hr,_⟩:=d9 (g1.boxes b _ hb1) hn;obtain⟨a1,a2,a3,a4⟩:=tV hr;obtain⟨r,hr'⟩:=za _ _ a3;exact⟨cur,vs,r,hg,hr',hvl,(aY _ _ _ _ _ _).1 hrow⟩
theorem tY (g:aR c R s a w)(hT:bC P T){H:List (Nat×av)}(hH:∀b box,lk H b=some box→lk s.hp b=some box){t:TypeId}{x:AV}{K:AV→Prop}
  (h:pu T H t x K) {u:Value} (hx:ah (aH c R s.hp) w s.hp R x u) :
  ∃y v,(Instr.loadAt t u).run P w=.ok y w∧K v∧ah (aH c R s.hp) w s.hp R v y:=by
 unfold pu at h;split at h
 ·rename_i b ver k off;split at h
  ·rename_i e v st pre row post hb;have hb':=hH _ _ hb;split at h;rotate_left;cases h
   rename_i i hi;have hi':=hT t i hi;split at h;rotate_left;cases h
   rename_i dD hsz0;split at h;rotate_left;cases h
   rename_i cs hcs;obtain⟨rfl,h⟩:=h;simp only[ah,hb',aK] at hx;obtain⟨hn,rfl⟩:=hx.2.2 (Nat.eq_of_beq_eq_true dD);obtain⟨cur,vs,r,hg,hd,hvl,hrow⟩:=Lm g hb' hn;obtain⟨h1,h2⟩:=hrow.fp.part hcs;have hlen:cur.size=pre.length*st+(vs.length+r.length)∨(vs++r=[]∧cur.size≤pre.length*st):=by
    have:=congrArg List.length hd;simp only[List.length_drop,Array.length_toList,List.length_append] at this;by_cases hz:cur.size≤pre.length*st
    ·refine .inr ⟨List.eq_nil_of_length_eq_zero (by simp only[List.length_append];omega),hz⟩
    left;omega
   have hdd:(cur.toList.drop (pre.length*st+off)).take i.size=(vs.drop off).take i.size:=by
    rw[←List.drop_drop,hd,List.drop_append_of_le_length (by omega),List.take_append_of_le_length (by simp only[List.length_drop];omega)]
   by_cases hz:pre.length*st+off+i.size≤cur.size
   ·obtain⟨y,z,k1,k2,k3⟩:=wu i hi' hg hz (by rw[hdd];exact h2) h;exact⟨y,z,by simpa[Instr.loadAt,Instr.sureAddr] using k1,k2,k3⟩
   exfalso;rcases hlen with hlen|⟨hnil,hlen⟩
   ·omega
   have:vs=[]:=(List.append_eq_nil_iff.1 hnil).1;subst this;simp only[List.length_nil] at h1 hvl;exact Nat.ne_of_beq_eq_false hsz0 (by omega)
  exact o8 g hT hH h hx
 exact o8 g hT hH h hx
theorem Fu {α:Type}:∀{off:Nat} {vs xs:List α},off+xs.length≤vs.length→gZ off vs xs=some (vs.take off++xs++vs.drop (off+xs.length))
 | 0,vs,xs,h=>by
   simp only[gZ,List.take_zero,List.nil_append,Nat.zero_add];have:∀(xs vs:List α),xs.length≤vs.length→iA vs xs=some (xs++vs.drop xs.length):=by
    intro xs;induction xs with
    |nil=>intro vs _;cases vs<;>simp[iA]
    | cons x xs ih=>
      intro vs h;cases vs with
      |nil=>simp at h
      |cons v vs=>simp only[iA,ih vs (by simpa using h)];simp
   exact this xs vs (by simpa using h)
 |off+1,[],xs,h=>by simp at h
 | off+1,v::vs,xs,h=>by
   have h':off+xs.length≤vs.length:=by simp only[List.length_cons] at h;omega
   simp only[gZ,Fu h'];rw[show off+1+xs.length=(off+xs.length)+1 by omega];simp
theorem Qt (a b:List Value):dG (a++b)=dG a++dG b:=by simp[dG]
theorem Qu {off:Nat}{vs xs:List Value}(h:off+xs.length≤vs.length):gZ off (dG vs) (dG xs)=some (dG (vs.take off++xs++vs.drop (off+xs.length))):=by
 rw[Fu (by rw[j6,j6];exact h)];simp only[Qt,j6];simp[dG,List.map_take,List.map_drop]
def exV (i:TI)(v:Value):PV:=match i.d.isAgg with
 |true=>.agg (dG v.cells.toList)
 |false=>.sc v
theorem zb {N:Nat→Prop}:∀(vs:List Value),(∀v∈vs,v.oneCell'=true)→fG N w (dG vs) vs
 |[],_=>by simp[dG,fG]
 | v::vs,h=>by
   simp only[dG,List.map_cons,fG];exact⟨v,vs,rfl,h v (by simp),by simp only[aU],zb vs fun u hu=>h u (by simp[hu])⟩
theorem TL {N N':Nat→Prop}{w w':World}{hp:List (Nat×av)}{i:TI}{y:AV}{cs:List AV}(h:cellsOf i y=some cs){v:Value}(hy:ah N w hp R y v):aU N' w' (exV i v) v∧jc i (exV i v)=some (dG v.cells.toList):=by
 have hc:=gD h hy;unfold exV;cases ha:i.d.isAgg with
 | true=>
   simp only[cellsOf,ha] at h;have:∃us:Array Value,v=.agg us:=by
    split at h
    ·simp only[ah,aU] at hy;obtain⟨us,e,_⟩:=hy;exact⟨us,e⟩
    ·simp only[ah] at hy;obtain⟨us,e,_⟩:=hy;exact⟨us,e⟩
    cases h
   obtain⟨us,rfl⟩:=this;refine⟨?_,by simp[jc,ha]⟩;simp only[aU];exact⟨us,rfl,zb us.toList hc.one⟩
 | false=>
   simp only[cellsOf,ha] at h;split at h
   ·rename_i hcell;have h1:=BF hcell hy;have e:=uY h1;refine⟨by simp only[aU],?_⟩;simp only[jc,ha,cellP,h1];have:v.cells.toList=[v]:=by rw[e]
    rw[this];rfl
   cases h
theorem Fv (g:aR c R s a w):∀t u,lk s.tm t=some u→t≠c.n:=by
 intro t u h e;obtain⟨x,hx,_⟩:=g.slots t u h;have:=size_of_getElem? hx;rw[g.size] at this;omega
theorem jI {hp hp':List (Nat×av)}(h:∀b,lk hp' b=lk hp b){v:AV}{x:Value}(hx:ah (aH c R hp) w hp R v x):ah (aH c R hp') w hp' R v x:=by
 refine bF (fun r _ hr=>?_) (fun _ _ _=>rfl) (fun b off u hu=>by rw[h];exact hu) (fun b ver u hu=>by rw[h];exact hu) (fun b ver i off u hu=>by rw[h];exact hu) v x hx;rcases hr with hr|⟨b,hr⟩
 ·exact .inl hr
 exact .inr ⟨b,by rw[←h];exact hr⟩
theorem mh (g:aR c R s a w)(hT:bC P T){H:List (Nat×av)}(hH:∀b box,lk H b=some box→lk s.hp b=some box){t:TypeId}{x y:AV}
  {K:AV→List (Nat×av)→Prop} (h:jH T H t x y K) {u v:Value} (hx:ah (aH c R s.hp) w s.hp R x u) (hy:ah (aH c R s.hp) w s.hp R y v) :
  ∃w' ws,(Instr.storeAt t u v).run P w=.ok () w'∧K (.pv (.sc undef)) ws∧aR c R (s.app ws) a w':=by
 unfold jH at h;split at h
 ·rename_i b ver k off;split at h
  ·rename_i e vr st pre row post hb;have hb':=hH _ _ hb;split at h;rotate_left;cases h
   rename_i i hi;split at h;rotate_left;cases h
   rename_i dD;split at h;rotate_left;cases h
   rename_i cs hcs;split at h;rotate_left;cases h
   rename_i hlen;split at h;rotate_left;cases h
   rename_i row' hset;obtain⟨rfl,hK⟩:=h;obtain⟨vs,hrow,hvl,g1,m1⟩:=g.nW hb';have hcv:=gD hcs hy;have hrow':=(aY _ _ _ _ _ _).1 hrow;obtain⟨hsl,_⟩:=FC.gZ hrow' hcv hset;have hA:ah (aH c R (s.app [(b,.arr e vr st (pre++dG vs::post))]).hp) w (s.app [(b,.arr e vr st (pre++dG vs::post))]).hp R (.agg row) (.agg vs.toArray):=
    m1 _ _ (by simp only[ah];exact⟨_,rfl,by simpa using hrow⟩)
   have hB:ah (aH c R (s.app [(b,.arr e vr st (pre++dG vs::post))]).hp) w (s.app [(b,.arr e vr st (pre++dG vs::post))]).hp R (.agg cs) (.agg v.cells):=
    m1 _ _ (by simp only[ah];exact⟨_,rfl,by rw[aY];exact hcv⟩)
   have g2:=g1.Fs hA;have g3:=g2.Fs hB;have oz:lk (s.app [(b,.arr e vr st (pre++dG vs::post))]).hp b=some (.arr e vr st (pre++dG vs::post)):=by
    simp only[AS.app,List.singleton_append,aj,if_true]
   obtain⟨hrep,hpc⟩:=TL (N':=aH c R (s.app [(b,.arr e vr st (pre++dG vs::post))]).hp) (w':=w) hcs hy;have hst:l8 T (s.app [(b,.arr e vr st (pre++dG vs::post))]).hp t (.cB b ver pre.length off) (.pv (exV i v))
     (fun z ws=>ws=[(b,.arr e vr st (pre++dG (vs.take off++v.cells.toList++vs.drop (off+v.cells.toList.length))::post))]):=by
    have e1:Nat.beq (dG v.cells.toList).length i.size=true:=by rw[j6,hcv.length];exact hlen
    unfold l8;simp only[hi,oz,dD,hpc,e1];refine⟨dG vs,by simp,?_⟩;rw[Qu hsl];simp
   obtain⟨w',ws,hrun,rfl,g4⟩:=nU g3 hT (fun _ _ h=>h) hst (u:=u) (v:=v) (m1 _ _ hx) (by simp only[ah];exact hrep);have hsz2:({ a with tmps:=a.tmps.push (.agg vs.toArray) }:Act).tmps.size=(Dh c).n:=by simp[Dh,g.size]
   obtain⟨g5,V6⟩:=aR.tX (c:=Dh c) (a:={ a with tmps:=a.tmps.push (.agg vs.toArray) }) hsz2 (Fv g2) g4;obtain⟨g6,hA'⟩:=aR.tX (c:=c) g.size (Fv g) g5;simp only[ah] at hA' V6;obtain⟨us,e1,hA'⟩:=hA';cases e1;obtain⟨us,e1,V6⟩:=V6;cases e1;rw[aY] at hA' V6;obtain⟨_,hnew⟩:=FC.gZ hA' V6 hset;have hb6:lk ([(b,av.arr e vr st (pre++dG (vs.take off++v.cells.toList++vs.drop (off+v.cells.toList.length))::post))]++(s.app [(b,.arr e vr st (pre++dG vs::post))]).hp) b =
     some (.arr e vr st (pre++dG (vs.take off++v.cells.toList++vs.drop (off+v.cells.toList.length))::post)):=by
    rw[List.singleton_append,aj,if_pos rfl]
   obtain⟨g7,m7⟩:=aR.BL (row:=row') g6 hb6 (by rw[aY];exact hnew);refine⟨w',_,hrun,hK,aR.congr g7 (fun _=>rfl) fun j=>?_⟩;simp only[AS.app,List.singleton_append,aj];split<;>rfl
  exact nU g hT hH h hx hy
 exact nU g hT hH h hx hy
theorem ze (g:aR c R s a w)(hT:bC P T){H:List (Nat×av)}(hH:∀b box,lk H b=some box→lk s.hp b=some box){t:TypeId}{x ix:AV}{K:AV→Prop}
  (h:Ez T H t x ix K) {u v:Value} (hx:ah (aH c R s.hp) w s.hp R x u) (hv:ah (aH c R s.hp) w s.hp R ix v) :
  ∃y z,(Instr.indexAt t u v).run P w=.ok y w∧K z∧ah (aH c R s.hp) w s.hp R z y:=by
 unfold Ez at h;split at h
 ·rename_i b ver;split at h
  ·rename_i e vr st pre row post hb;have hb':=hH _ _ hb;split at h;rotate_left;cases h
   rename_i kk i;split at h;rotate_left;cases h
   rename_i ti Gv;split at h;rotate_left;cases h
   rename_i e2 hte;split at h;rotate_left;cases h
   rename_i ei lJ;split at h;rotate_left;cases h
   rename_i h1 h2;obtain⟨h0,hlt,hK⟩:=h;obtain⟨vs,hrow,hvl,g1,m1⟩:=g.nW hb';have oz:lk (s.app [(b,.arr e vr st (pre++dG vs::post))]).hp b=some (.arr e vr st (pre++dG vs::post)):=by
    simp only[AS.app,List.singleton_append,aj,if_true]
   have hl:(pre++dG vs::post).length=pre.length+(1+post.length):=by simp[Nat.add_comm]
   have hi:cK T (s.app [(b,.arr e vr st (pre++dG vs::post))]).hp t (.aG b ver) (.pv (.sc (.int kk i))) (fun z=>z=.cB b ver i.toNat 0):=by
    unfold cK;simp only[Gv,hte,lJ,oz,h1,h2];exact⟨h0,by rw[hl];exact hlt,trivial⟩
   obtain⟨y,z,hrun,rfl,hz⟩:=ig g1 hT (fun _ _ h=>h) hi (m1 _ _ hx) (m1 _ _ hv);refine⟨y,_,hrun,hK,?_⟩;simp only[ah,oz,aK] at hz;simp only[ah,hb',aK];exact hz
  exact ig g hT hH h hx hv
 exact ig g hT hH h hx hv
theorem wB (g:aR c R s a w)(hT:bC P T){H:List (Nat×av)}(hH:∀b box,lk H b=some box→lk s.hp b=some box){t ty:TypeId}{x:AV}{K:AV→Prop}
  (h:vM T H t x K) {u:Value} (hx:ah (aH c R s.hp) w s.hp R x u) :
  ∃y z,(Builtin.len_ #[t] ty #[u]).run P w=.ok y w∧K z∧ah (aH c R s.hp) w s.hp R z y:=by
 unfold vM at h;split at h
 ·rename_i b ver;split at h
  ·rename_i e vr st pre row post hb;have hb':=hH _ _ hb;split at h;rotate_left;cases h
   rename_i i hi;split at h;rotate_left;cases h
   rename_i e2 hte;split at h;rotate_left;cases h
   rename_i h1;obtain⟨vs,hrow,hvl,g1,m1⟩:=g.nW hb';have oz:lk (s.app [(b,.arr e vr st (pre++dG vs::post))]).hp b=some (.arr e vr st (pre++dG vs::post)):=by
    simp only[AS.app,List.singleton_append,aj,if_true]
   have hl:(pre++dG vs::post).length=pre.length+(1+post.length):=by simp[Nat.add_comm]
   have hi:yu T (s.app [(b,.arr e vr st (pre++dG vs::post))]).hp t (.aG b ver) (fun z=>z=.pv (.sc (.int .i64 (pre.length+(1+post.length):Nat)))):=by
    unfold yu;simp only[hi,hte,vw,oz,oJ,h1,hl]
   obtain⟨y,z,hrun,rfl,hz⟩:=nT (ty:=ty) g1 hT (fun _ _ h=>h) hi (m1 _ _ hx);refine⟨y,_,hrun,h,?_⟩;simp only[ah,aU] at hz ⊢;exact hz
  exact nT g hT hH h hx
 exact nT g hT hH h hx
end
def qi (T:Tab)(t:TypeId)(len:Nat)(ks:List Nat)(cs:List AV)(id:Nat)(K:AV→List (Nat×av)→Prop):Prop:=
 match lk T t with
 | some i=>match i.d with
   | .slt e=>match lk T e with
     | some ei=>match ei.d.isAgg with
       | true=>Rk ei fun lM DZ=>match Nat.beq lM 0,Mw 0 ks,Nat.beq ks.length len,Nat.beq len 1,Nat.beq cs.length lM,Nat.ble lM 16777216 with
         |false,true,true,true,true,true=>K (.aG id 0) [(id,.dL e 0 lM [] cs [])]
         |_,_,_,_,_,_=>False
       |false=>False
     |none=>False
   |_=>False
 |none=>False
def lN (T:Tab)(H:List (Nat×av))(t:TypeId)(len:Nat)(ks:List Nat)(vs:List AV)(id:Nat)(K:AV→List (Nat×av)→Prop):Prop:=
 match YF T with
 | true=>match vs with
   |[.agg cs]=>qi T t len ks cs id K
   |vs=>jd T H t len ks vs id K
 |false=>jd T H t len ks vs id K
def vN (T:Tab)(H:List (Nat×av))(t:TypeId)(d:AV)(k kv id:Nat)(K:AV→List (Nat×av)→Prop):Prop:=
 match lk H k with
 | some (.dL e0 v0 Gx [] row [])=>match Nat.beq kv v0 with
   | true=>match lk T t with
     | some i=>match i.d with
       | .slt e=>match lk T e with
         | some ei=>Rk ei fun lM DZ=>match Nat.beq DZ 0,Nat.beq lM 0,Nat.beq Gx lM with
           | false,false,true=>match d with
             |.pv (.sc (.slice none 0 0))=>1*DZ≤140737488355328∧K (.aG id 0) [(id,.dL e 0 lM [] row [])]
             | .aG b ver=>match Nat.beq b k with
               |true=>False
               | false=>match lk H b with
                 | some (.arr e' v st rows)=>match Nat.beq ver v,Nat.beq st lM,Nat.beq e' e with
                   |true,true,true=>(rows.length+1)*DZ≤140737488355328∧K (.aG b (v+1)) [(b,.dL e (v+1) lM rows row [])]
                   |_,_,_=>False
                 |_=>False
             |_=>False
           |_,_,_=>False
         |none=>False
       |_=>False
     |none=>False
   |false=>False
 |_=>False
def rE (T:Tab)(t:TypeId)(ver:Nat)(o:Option av)(src:Nat→Option (List (List PV)))(b:Nat)(K:AV→List (Nat×av)→Prop):Prop:=
 match o with
 | some (.dL e' v st pre row post)=>match lk T t with
   | some i=>match i.d with
     | .slt e=>match lk T e with
       | some ei=>Rk ei fun lM DZ=>match Nat.beq DZ 0,Nat.beq lM 0 with
         | false,false=>match src lM with
           | some aF=>match Nat.beq ver v,Nat.beq st lM,Nat.beq e' e with
             |true,true,true=>(pre.length+(1+post.length)+aF.length)*DZ≤140737488355328∧K (.aG b (v+1)) [(b,.dL e (v+1) lM pre row (post++aF))]
             |_,_,_=>False
           |none=>False
         |_,_=>False
       |none=>False
     |_=>False
   |none=>False
 |_=>False
def vO (T:Tab)(H:List (Nat×av))(t:TypeId)(b ver:Nat)(x:AV)(K:AV→List (Nat×av)→Prop):Prop:=
 match x with
 |.pv p=>rE T t ver (lk H b) (fun lM=>ja H lM (.pv p)) b K
 | .aG k kv=>match Nat.beq b k with
   |true=>False
   |false=>rE T t ver (lk H b) (fun lM=>ja H lM (.aG k kv)) b K
 |_=>False
def Oe (o:Option av):Bool:=
 match o with
 |some (.dL _ _ _ _ _ _)=>true
 |_=>false
def qK (T:Tab)(H:List (Nat×av))(t:TypeId)(vs:List AV)(id:Nat)(K:AV→List (Nat×av)→Prop):Prop:=
 match vs with
 | [d,x]=>match x with
   | .aG k kv=>match Oe (lk H k) with
     |true=>vN T H t d k kv id K
     | false=>match d with
       | .aG b ver=>match Oe (lk H b) with
         |true=>vO T H t b ver (.aG k kv) K
         |false=>oC T H t [.aG b ver,.aG k kv] id K
       |d=>oC T H t [d,.aG k kv] id K
   | x=>match d with
     | .aG b ver=>match Oe (lk H b) with
       |true=>vO T H t b ver x K
       |false=>oC T H t [.aG b ver,x] id K
     |d=>oC T H t [d,x] id K
 |vs=>oC T H t vs id K
section
variable {P:Program}{T:Tab}{c:Ctx}{R:Real}{s:AS}{a:Act}{w:World}
theorem Aq (g:aR c R s a w)(hT:bC P T){id:Nat}(hf:lk s.hp id=none){t:TypeId}{len:Nat}{ks:List Nat}{cs:List AV}{K:AV→List (Nat×av)→Prop}
  (h:qi T t len ks cs id K) {u:Value} (hv:ah (aH c R s.hp) w s.hp R (.agg cs) u) :
  ∃y w' R' z ws,(Instr.buildSlice t len (ks.zip [u]).toArray).run P w=.ok y w'∧K z ws∧aR c R' (s.app ws) a w'∧ah (aH c R' (ws++s.hp)) w' (ws++s.hp) R' z y:=by
 unfold qi at h;simp only[bW] at h;split at h;rotate_left;cases h
 rename_i i hi;split at h;rotate_left;cases h
 rename_i e hte;split at h;rotate_left;cases h
 rename_i ei lJ;split at h;rotate_left;cases h
 rename_i hagg;split at h;rotate_left;cases h
 rename_i h0 h1 h2 h3 h4 h5;have hv0:=hv;simp only[ah] at hv;obtain⟨us,rfl,nD⟩:=hv;have hl:us.toList.length=cs.length:=by rw[aY] at nD;exact nD.length
 have h3:=Nat.eq_of_beq_eq_true h3;subst h3;have h4':=Nat.eq_of_beq_eq_true h4;have g1:=g.Fs hv0;have hp:ah (aH (Dh c) R s.hp) w s.hp R (.pv (.agg (dG us.toList))) (.agg us):=by
  simp only[ah,aU];exact⟨us,rfl,zb _ ((aY _ _ _ _ _ _).1 nD).one⟩
 have hb:jd T [] t 1 ks [.pv (.agg (dG us.toList))] id (fun z ws=>z=.aG id 0∧ws=[(id,.arr e 0 ei.size ([]++dG us.toList::[]))]):=by
  unfold jd;simp only[bW,hi,hte,lJ,h0,h1,h2];have e1:Nat.ble (1*ei.size) 16777216=true:=by rw[Nat.one_mul];exact h5
  have e2:jc ei (.agg (dG us.toList))=some (dG us.toList):=by simp[jc,hagg]
  have e3:Nat.beq (dG us.toList).length ei.size=true:=by rw[j6,hl];exact h4
  simp only[e1,D5,vw,AO,e2,e3,dx,refs,List.append_nil,D7,List.length_singleton];exact⟨trivial,by simp⟩
 obtain⟨y,w',R',z,ws,hrun,⟨rfl,rfl⟩,g2,hz⟩:=kJ (s:=⟨(c.n,.agg cs)::s.tm,s.nx,s.hp⟩) g1 hT (H:=[]) (fun b box hb=>by simp[lk] at hb) hf hb (us:=[.agg us]) ⟨_,_,rfl,hp,rfl⟩;obtain⟨g3,hr⟩:=aR.tX (tm:=s.tm) (nx:=s.nx) g.size (Fv g) g2;simp only[ah] at hr;obtain⟨XV,e1,hr⟩:=hr;cases e1;have YG:lk ([(id,av.arr e 0 ei.size ([]++dG us.toList::[]))]++s.hp) id=some (.arr e 0 ei.size ([]++dG us.toList::[])):=by
  rw[List.singleton_append,aj,if_pos rfl]
 obtain⟨g4,m4⟩:=g3.BL YG hr;have hc:∀j,lk ([(id,av.dL e 0 ei.size [] cs [])]++s.hp) j=lk ((id,av.dL e 0 ei.size [] cs [])::([(id,av.arr e 0 ei.size ([]++dG us.toList::[]))]++s.hp)) j:=by
  intro j;simp only[List.singleton_append,aj];split<;>rfl
 exact⟨y,w',R',_,_,hrun,h,aR.congr g4 (fun _=>rfl) hc,jI hc (m4 _ _ hz)⟩
theorem wC (g:aR c R s a w)(hT:bC P T){H:List (Nat×av)}(hH:∀b box,lk H b=some box→lk s.hp b=some box){id:Nat}(hf:lk s.hp id=none)
  {t ty:TypeId} {d:AV} {k kv:Nat} {K:AV→List (Nat×av)→Prop} (h:vN T H t d k kv id K) {u v:Value} (hd:ah (aH c R s.hp) w s.hp R d u) (hx:ah (aH c R s.hp) w s.hp R (.aG k kv) v) :
  ∃y w' R' z ws,(Builtin.append_ #[t,t] ty #[u,v]).run P w=.ok y w'∧K z ws∧aR c R' (s.app ws) a w'∧ah (aH c R' (ws++s.hp)) w' (ws++s.hp) R' z y:=by
 unfold vN at h;simp only[bW] at h;split at h;rotate_left;cases h
 rename_i e0 v0 Gx row hk;have hk':=hH _ _ hk;split at h;rotate_left;cases h
 rename_i hkv;have hkv:=Nat.eq_of_beq_eq_true hkv;subst hkv;split at h;rotate_left;cases h
 rename_i i hi;split at h;rotate_left;cases h
 rename_i e hte;split at h;rotate_left;cases h
 rename_i ei lJ;split at h;rotate_left;cases h
 rename_i h1 h2 h3;have h3':=Nat.eq_of_beq_eq_true h3;subst h3';obtain⟨vs,hrow,hvl,g1,m1⟩:=g.nW hk';have hg:ah (aH c R (s.app [(k,.arr e0 kv ei.size ([]++dG vs::[]))]).hp) w (s.app [(k,.arr e0 kv ei.size ([]++dG vs::[]))]).hp R (.agg row) (.agg vs.toArray):=
  m1 _ _ (by simp only[ah];exact⟨_,rfl,by simpa using hrow⟩)
 have g2:=g1.Fs hg;have hkk:lk (s.app [(k,.arr e0 kv ei.size ([]++dG vs::[]))]).hp k=some (.arr e0 kv ei.size ([]++dG vs::[])):=by
  simp only[AS.app,List.singleton_append,aj,if_true]
 have XW:∀j,j≠k→lk (s.app [(k,.arr e0 kv ei.size ([]++dG vs::[]))]).hp j=lk s.hp j:=by
  intro j hj;simp only[AS.app,List.singleton_append,aj,if_neg (show ¬k=j from fun e=>hj e.symm)]
 have TM:id≠k:=fun e=>by rw[e,hk'] at hf;cases hf
 have hsrc:ja (s.app [(k,.arr e0 kv ei.size ([]++dG vs::[]))]).hp ei.size (.aG k kv)=some [dG vs]:=by
  simp only[ja,hkk,oJ,Nat.beq_refl];simp
 have fin:∀(b:Nat) (nv:Nat) (rows:List (List PV)) (y:Value) (w':World) (R':Real),b≠k →
   aR (Dh c) R' (AS.app ⟨(c.n,.agg row)::s.tm,s.nx,(s.app [(k,.arr e0 kv ei.size ([]++dG vs::[]))]).hp⟩ [(b,.arr e nv ei.size (rows++dG vs::[]))]) { a with tmps:=a.tmps.push (.agg vs.toArray) } w' →
   ah (aH (Dh c) R' ([(b,.arr e nv ei.size (rows++dG vs::[]))]++(s.app [(k,.arr e0 kv ei.size ([]++dG vs::[]))]).hp)) w' ([(b,.arr e nv ei.size (rows++dG vs::[]))]++(s.app [(k,.arr e0 kv ei.size ([]++dG vs::[]))]).hp) R' (.aG b nv) y →
   aR c R' (s.app [(b,.dL e nv ei.size rows row [])]) a w'∧ah (aH c R' ([(b,.dL e nv ei.size rows row [])]++s.hp)) w' ([(b,.dL e nv ei.size rows row [])]++s.hp) R' (.aG b nv) y:=by
  intro b nv rows y w' R' hbk g3 hz;obtain⟨g4,hr⟩:=aR.tX (tm:=s.tm) (nx:=s.nx) g.size (Fv g) g3;simp only[ah] at hr;obtain⟨XV,e1,hr⟩:=hr;cases e1;have hr:bq (aH c R' ([(b,av.arr e nv ei.size (rows++dG vs::[]))]++(s.app [(k,.arr e0 kv ei.size ([]++dG vs::[]))]).hp)) w' ([(b,av.arr e nv ei.size (rows++dG vs::[]))]++(s.app [(k,.arr e0 kv ei.size ([]++dG vs::[]))]).hp) R' row vs:=by simpa using hr
  have hb4:lk ([(b,av.arr e nv ei.size (rows++dG vs::[]))]++(s.app [(k,.arr e0 kv ei.size ([]++dG vs::[]))]).hp) b=some (.arr e nv ei.size (rows++dG vs::[])):=by
   rw[List.singleton_append,aj,if_pos rfl]
  obtain⟨g5,m5⟩:=g4.BL hb4 hr;have XY:=m5 (.agg row) (.agg vs.toArray) (by simp only[ah];exact⟨_,rfl,by simpa using hr⟩);simp only[ah] at XY;obtain⟨us5,e5,XY⟩:=XY;cases e5;have hk5:lk ((b,av.dL e nv ei.size rows row [])::([(b,av.arr e nv ei.size (rows++dG vs::[]))]++(s.app [(k,.arr e0 kv ei.size ([]++dG vs::[]))]).hp)) k=some (.arr e0 kv ei.size ([]++dG vs::[])):=by
   rw[aj,if_neg hbk,List.singleton_append,aj,if_neg hbk];exact hkk
  obtain⟨g6,m6⟩:=aR.BL (s:=⟨s.tm,s.nx,(b,av.dL e nv ei.size rows row [])::([(b,av.arr e nv ei.size (rows++dG vs::[]))]++(s.app [(k,.arr e0 kv ei.size ([]++dG vs::[]))]).hp)⟩) g5 hk5 XY;have hc:∀j,lk ([(b,av.dL e nv ei.size rows row [])]++s.hp) j=lk ((k,av.dL e0 kv ei.size [] row [])::(b,av.dL e nv ei.size rows row [])::([(b,av.arr e nv ei.size (rows++dG vs::[]))]++(s.app [(k,.arr e0 kv ei.size ([]++dG vs::[]))]).hp)) j:=by
   intro j;simp only[List.singleton_append,aj];by_cases e1:k=j
   ·subst e1;rw[if_neg hbk,if_pos rfl];exact hk'
   rw[if_neg e1];split
   ·rfl
   exact (XW j (fun e=>e1 e.symm)).symm
  exact⟨aR.congr g6 (fun _=>rfl) hc,jI hc (m6 _ _ (m5 _ _ hz))⟩
 split at h
 ·obtain⟨hbd,hK⟩:=h;have IG:oK T (s.app [(k,.arr e0 kv ei.size ([]++dG vs::[]))]).hp t [.pv (.sc (.slice none 0 0)),.aG k kv] id (fun z ws=>z=.aG id 0∧ws=[(id,.arr e 0 ei.size ([]++dG vs::[]))]):=by
   unfold oK;simp only[bW,hi,hte,lJ,h1,h2,hsrc];exact⟨by simpa using hbd,trivial,by simp⟩
  obtain⟨y,w',R',z,ws,hrun,⟨rfl,rfl⟩,g3,hz⟩:=nC (s:=⟨(c.n,.agg row)::s.tm,s.nx,(s.app [(k,.arr e0 kv ei.size ([]++dG vs::[]))]).hp⟩) g2 hT (fun _ _ h=>h) (by rw[XW id TM];exact hf) (ty:=ty) IG (m1 _ _ hd) (m1 _ _ hx);obtain⟨g4,YI⟩:=fin id 0 [] y w' R' TM g3 hz;exact⟨y,w',R',_,_,hrun,hK,g4,YI⟩
 ·rename_i b ver;split at h
  ·exact h.elim
  rename_i hbk;have hbk:=Nat.ne_of_beq_eq_false hbk;split at h;rotate_left;cases h
  rename_i e' vr st rows hb;have hb':=hH _ _ hb;split at h;rotate_left;cases h
  rename_i k1 k2 k3;obtain⟨hbd,hK⟩:=h;have V7:=Nat.eq_of_beq_eq_true k1;have V8:=Nat.eq_of_beq_eq_true k2;have V9:=Nat.eq_of_beq_eq_true k3;subst V7;subst V8;subst V9;have oz:lk (s.app [(k,.arr e0 kv ei.size ([]++dG vs::[]))]).hp b=some (.arr e' ver ei.size rows):=by rw[XW b hbk];exact hb'
  have IG:oK T (s.app [(k,.arr e0 kv ei.size ([]++dG vs::[]))]).hp t [.aG b ver,.aG k kv] id (fun z ws=>z=.aG b (ver+1)∧ws=[(b,.arr e' (ver+1) ei.size (rows++dG vs::[]))]):=by
   unfold oK;simp only[bW,hi,hte,lJ,h1,h2,hsrc,oz,Nat.beq_refl];exact⟨by simpa using hbd,trivial,by simp⟩
  obtain⟨y,w',R',z,ws,hrun,⟨rfl,rfl⟩,g3,hz⟩:=nC (s:=⟨(c.n,.agg row)::s.tm,s.nx,(s.app [(k,.arr e0 kv ei.size ([]++dG vs::[]))]).hp⟩) g2 hT (fun _ _ h=>h) (by rw[XW id TM];exact hf) (ty:=ty) IG (m1 _ _ hd) (m1 _ _ hx);obtain⟨g4,YI⟩:=fin b (ver+1) rows y w' R' hbk g3 hz;exact⟨y,w',R',_,_,hrun,hK,g4,YI⟩
 exact h.elim
theorem zY (g:aR c R s a w)(hT:bC P T){H:List (Nat×av)}(hH:∀b box,lk H b=some box→lk s.hp b=some box){id:Nat}(hf:lk s.hp id=none)
  {t:TypeId} {len:Nat} {ks:List Nat} {vs:List AV} {K:AV→List (Nat×av)→Prop} (h:lN T H t len ks vs id K) {us:List Value} (hv:FL (ah (aH c R s.hp) w s.hp R) vs us) :
  ∃y w' R' z ws,(Instr.buildSlice t len (ks.zip us).toArray).run P w=.ok y w'∧K z ws∧aR c R' (s.app ws) a w'∧ah (aH c R' (ws++s.hp)) w' (ws++s.hp) R' z y:=by
 unfold lN at h;split at h
 ·split at h
  ·obtain⟨u,r,rfl,h1,h2⟩:=hv;simp only[FL] at h2;subst h2;exact Aq g hT hf h h1
  exact kJ g hT hH hf h hv
 exact kJ g hT hH hf h hv
theorem wD (g:aR c R s a w)(hT:bC P T){H:List (Nat×av)}(hH:∀b box,lk H b=some box→lk s.hp b=some box){id:Nat}(hf:lk s.hp id=none)
  {t ty:TypeId} {b ver:Nat} {x:AV} {K:AV→List (Nat×av)→Prop} (h:vO T H t b ver x K) {u v:Value} (hd:ah (aH c R s.hp) w s.hp R (.aG b ver) u) (hx:ah (aH c R s.hp) w s.hp R x v) :
  ∃y w' R' z ws,(Builtin.append_ #[t,t] ty #[u,v]).run P w=.ok y w'∧K z ws∧aR c R' (s.app ws) a w'∧ah (aH c R' (ws++s.hp)) w' (ws++s.hp) R' z y:=by
 have key:∀(src:Nat→Option (List (List PV))),rE T t ver (lk H b) src b K →
   (∀(H':List (Nat×av)) lM rows,(∀j,j≠b→∀box,lk H j=some box→lk H' j=some box)→src lM=some rows→ja H' lM x=some rows) →
   ∃y w' R' z ws,(Builtin.append_ #[t,t] ty #[u,v]).run P w=.ok y w'∧K z ws∧aR c R' (s.app ws) a w'∧ah (aH c R' (ws++s.hp)) w' (ws++s.hp) R' z y:=by
  intro src h hsrc;unfold rE at h;simp only[bW] at h;split at h;rotate_left;cases h
  rename_i e' vr st pre row post hb;have hb':=hH _ _ hb;split at h;rotate_left;cases h
  rename_i i hi;split at h;rotate_left;cases h
  rename_i e hte;split at h;rotate_left;cases h
  rename_i ei lJ;split at h;rotate_left;cases h
  rename_i h1 h2;split at h;rotate_left;cases h
  rename_i aF hrows;split at h;rotate_left;cases h
  rename_i k1 k2 k3;obtain⟨hbd,hK⟩:=h;have V7:=Nat.eq_of_beq_eq_true k1;have V8:=Nat.eq_of_beq_eq_true k2;have V9:=Nat.eq_of_beq_eq_true k3;subst V7;subst V8;subst V9;obtain⟨vs,hrow,hvl,g1,m1⟩:=g.nW hb';have hA:ah (aH c R (s.app [(b,.arr e' ver ei.size (pre++dG vs::post))]).hp) w (s.app [(b,.arr e' ver ei.size (pre++dG vs::post))]).hp R (.agg row) (.agg vs.toArray):=
   m1 _ _ (by simp only[ah];exact⟨_,rfl,by simpa using hrow⟩)
  have g2:=g1.Fs hA;have oz:lk (s.app [(b,.arr e' ver ei.size (pre++dG vs::post))]).hp b=some (.arr e' ver ei.size (pre++dG vs::post)):=by
   simp only[AS.app,List.singleton_append,aj,if_true]
  have hsr:=hsrc (s.app [(b,.arr e' ver ei.size (pre++dG vs::post))]).hp ei.size aF (fun j hj box hbx=>by
   simp only[AS.app,List.singleton_append,aj,if_neg (show ¬b=j from fun e=>hj e.symm)];exact hH _ _ hbx) hrows
  have hl:(pre++dG vs::post).length=pre.length+(1+post.length):=by simp[Nat.add_comm]
  have TN:id≠b:=fun e=>by rw[e,hb'] at hf;cases hf
  have IG:oK T (s.app [(b,.arr e' ver ei.size (pre++dG vs::post))]).hp t [.aG b ver,x] id (fun z ws=>z=.aG b (ver+1)∧ws=[(b,.arr e' (ver+1) ei.size ((pre++dG vs::post)++aF))]):=by
   unfold oK;simp only[bW,hi,hte,lJ,h1,h2,hsr,oz,Nat.beq_refl];exact⟨by rw[hl];exact hbd,trivial,trivial⟩
  obtain⟨y,w',R',z,ws,hrun,⟨rfl,rfl⟩,g3,hz⟩:=nC (s:=⟨(c.n,.agg row)::s.tm,s.nx,(s.app [(b,.arr e' ver ei.size (pre++dG vs::post))]).hp⟩) g2 hT (fun _ _ h=>h) (by
   simp only[AS.app,List.singleton_append,aj,if_neg (show ¬b=id from fun e=>TN e.symm)];exact hf) (ty:=ty) IG (m1 _ _ hd) (m1 _ _ hx)
  obtain⟨g4,hr⟩:=aR.tX (tm:=s.tm) (nx:=s.nx) g.size (Fv g) g3;simp only[ah] at hr;obtain⟨XV,e1,hr⟩:=hr;cases e1;have hb4:lk ([(b,av.arr e' (ver+1) ei.size ((pre++dG vs::post)++aF))]++(s.app [(b,.arr e' ver ei.size (pre++dG vs::post))]).hp) b=some (.arr e' (ver+1) ei.size (pre++dG vs::(post++aF))):=by
   rw[List.singleton_append,aj,if_pos rfl,List.append_assoc,List.cons_append]
  obtain⟨g5,m5⟩:=g4.BL hb4 hr;have hc:∀j,lk ([(b,av.dL e' (ver+1) ei.size pre row (post++aF))]++s.hp) j =
    lk ((b,av.dL e' (ver+1) ei.size pre row (post++aF))::([(b,av.arr e' (ver+1) ei.size ((pre++dG vs::post)++aF))]++(s.app [(b,.arr e' ver ei.size (pre++dG vs::post))]).hp)) j:=by
   intro j;simp only[AS.app,List.singleton_append,aj];split<;>rfl
  exact⟨y,w',R',_,_,hrun,hK,aR.congr g5 (fun _=>rfl) hc,jI hc (m5 _ _ hz)⟩
 unfold vO at h;split at h
 ·refine key _ h fun H' lM rows _ hr=>?_
  unfold ja at hr ⊢;split at hr
  ·rename_i e;cases e;exact hr
  ·rename_i e;cases e;exact hr
  ·rename_i e;cases e
  ·rename_i e;cases e
  cases hr
 ·rename_i k kv;split at h
  ·exact h.elim
  rename_i hbk;have hbk:=Nat.ne_of_beq_eq_false hbk;refine key _ h fun H' lM rows hH' hr=>?_
  simp only[ja] at hr ⊢;cases hk:lk H k with
  |none=>rw[hk] at hr;simp[oJ] at hr
  |some bx=>rw[hH' k (fun e=>hbk e.symm) bx hk,←hk];exact hr
 exact h.elim
theorem wE (g:aR c R s a w)(hT:bC P T){H:List (Nat×av)}(hH:∀b box,lk H b=some box→lk s.hp b=some box){id:Nat}(hf:lk s.hp id=none)
  {t ty:TypeId} {d x:AV} {K:AV→List (Nat×av)→Prop} (h:qK T H t [d,x] id K) {u v:Value} (hd:ah (aH c R s.hp) w s.hp R d u) (hx:ah (aH c R s.hp) w s.hp R x v) :
  ∃y w' R' z ws,(Builtin.append_ #[t,t] ty #[u,v]).run P w=.ok y w'∧K z ws∧aR c R' (s.app ws) a w'∧ah (aH c R' (ws++s.hp)) w' (ws++s.hp) R' z y:=by
 unfold qK at h;simp only at h;split at h
 ·split at h
  ·exact wC g hT hH hf h hd hx
  split at h
  ·split at h
   ·exact wD g hT hH hf h hd hx
   exact lW g hT hH hf h hd hx
  exact lW g hT hH hf h hd hx
 split at h
 ·split at h
  ·exact wD g hT hH hf h hd hx
  exact lW g hT hH hf h hd hx
 exact lW g hT hH hf h hd hx
end
def nY (R:Real)(b r:Nat):Prop:=∃v,some v∈(R.cap b).2∧v.ownBlock=some r
def aS (st:Nat):Nat→List Value→List (List PV)
 |0,_=>[]
 |n+1,xs=>dG (xs.take st)::aS st n (xs.drop st)
theorem gX (st:Nat):∀(n:Nat) (xs:List Value),(aS st n xs).length=n
 |0,_=>rfl
 |n+1,xs=>by simp[aS,gX st n]
theorem zm {N:Nat→Prop}{w:World}{st:Nat}:∀{n:Nat} {xs:List Value},n*st≤xs.length→(∀v∈xs.take (n*st),v.oneCell'=true)→bf N w st (aS st n xs) xs
 |0,_,_,_=>by simp only[aS,bf]
 | n+1,xs,hl,h1=>by
   rw[Nat.succ_mul] at hl h1;simp only[aS,bf,j6,List.length_take];refine⟨by omega,?_,zm (by rw[List.length_drop];omega) fun v hv=>h1 v ?_⟩
   ·have:=y9 (N:=N) (w:=w) (xs.take st) (xs.drop st) fun v hv=>h1 v (by
     refine List.mem_of_mem_take (i:=st) ?_;rw[List.take_take,Nat.min_eq_left (by omega)];exact hv)
    rwa [List.take_append_drop] at this
   rw[show n*st+st=st+n*st by omega,List.take_add];exact List.mem_append_right _ hv
theorem vg {N:Nat→Prop}{w:World}{st:Nat}:∀{n:Nat} {xs ys:List Value},n*st≤xs.length→bf N w st (aS st n xs) ys→ys.take (n*st)=xs.take (n*st)
 |0,_,_,_,_=>by simp
 | n+1,xs,ys,hl,h=>by
   rw[Nat.succ_mul] at hl ⊢;simp only[aS,bf,j6,List.length_take] at h;obtain⟨h1,h2,h3⟩:=h;obtain⟨r,hr⟩:=za _ _ h2;have ih:=vg (by rw[List.length_drop];omega) h3;rw[show n*st+st=st+n*st by omega,List.take_add,List.take_add,ih];congr 1
   rw[hr,List.take_append_of_le_length (by rw[List.length_take];omega),List.take_take,Nat.min_self]
section
variable {N:Nat→Prop}{w:World}{st j:Nat}{ed:TypeId}{sd:Nat}
theorem FJ {ps:List PV}{xs:List Value}(h:dM N w ps xs):ps.length≤xs.length∧∀v∈xs.take ps.length,v.oneCell'=true:=by
 rw[bM] at h;exact⟨h.length,h.take.one⟩
theorem FK {ps:List PV}{xs ys:List Value}(h:dM N w ps xs)(e:ys.take ps.length=xs.take ps.length):dM N w ps ys:=by
 have h':=h;rw[bM] at h;have h2:=h.take;rw[←e] at h2;have h3:=FP.app (ys.drop ps.length) h2.fp;rw[List.take_append_drop] at h3;rw[bM];exact h3
theorem pY:∀{hs:List (Option Value)} {rs:List (Bool×List PV)} {xs:List Value},bS N w st j ed sd hs rs xs→hs.length=rs.length∧rs.length*st≤xs.length∧∀v∈xs.take (rs.length*st),v.oneCell'=true
 |[],[],xs,_=>by simp
 |[],_::_,xs,h=>by simp only[bS] at h
 |_::_,[],xs,h=>by simp only[bS] at h
 | h::hs,(fl,r)::rs,xs,hh=>by
   simp only[bS] at hh;obtain⟨h1,h2,h3⟩:=hh;obtain⟨i1,i2,i3⟩:=pY h3;have hp:st≤xs.length∧∀v∈xs.take st,v.oneCell'=true:=by
    cases h with
    | none=>cases fl with
      |false=>have:=FJ h2;rw[h1] at this;exact this
      |true=>exact h2.elim
    | some v=>cases fl with
      |false=>exact h2.elim
      | true=>
        obtain⟨rr,ys,a1,a0,a2,a3,a4⟩:=h2;have:=FJ a2;rw[List.length_set,h1] at this;exact this
   rw[List.length_drop] at i2;refine⟨by simp[i1],by rw[List.length_cons,Nat.succ_mul];omega,fun v hv=>?_⟩;rw[List.length_cons,Nat.succ_mul,Nat.add_comm,List.take_add] at hv;rcases List.mem_append.1 hv with hv|hv
   ·exact hp.2 v hv
   exact i3 v hv
theorem ug:∀{hs:List (Option Value)} {rs:List (Bool×List PV)} {xs ys:List Value},bS N w st j ed sd hs rs xs→ys.take (rs.length*st)=xs.take (rs.length*st)→bS N w st j ed sd hs rs ys
 |[],[],xs,ys,_,_=>by simp only[bS]
 |[],_::_,xs,ys,h,_=>by simp only[bS] at h
 |_::_,[],xs,ys,h,_=>by simp only[bS] at h
 | h::hs,(fl,r)::rs,xs,ys,hh,e=>by
   simp only[bS] at hh ⊢;obtain⟨h1,h2,h3⟩:=hh;rw[List.length_cons,Nat.succ_mul] at e;have e1:ys.take st=xs.take st:=by
    have:=congrArg (List.take st) e;rwa [List.take_take,List.take_take,Nat.min_eq_left (by omega)] at this
   have e2:(ys.drop st).take (rs.length*st)=(xs.drop st).take (rs.length*st):=by
    rw[List.take_drop,List.take_drop,Nat.add_comm st,e]
   refine⟨h1,?_,ug h3 e2⟩;cases h with
   | none=>cases fl with
     |false=>exact FK h2 (by rw[h1];exact e1)
     |true=>exact h2.elim
   | some v=>cases fl with
     |false=>exact h2.elim
     | true=>
       obtain⟨rr,zs,a1,a0,a2,a3,a4⟩:=h2;exact⟨rr,zs,a1,a0,FK a2 (by rw[List.length_set,h1];exact e1),a3,a4⟩
theorem lu:∀{hs:List (Option Value)} {rs:List (Bool×List PV)} {xs:List Value},bS N w st j ed sd hs rs xs→∀v,some v∈hs→∀r,v.ownBlock=some r→∃cur,w.heap[r]? = some (.cells cur ed (0,0))
 |[],_,_,_,v,hv=>by simp at hv
 |_::_,[],xs,h,_,_=>by simp only[bS] at h
 | h::hs,(fl,r)::rs,xs,hh,v,hv=>by
   intro k hk;simp only[bS] at hh;obtain⟨h1,h2,h3⟩:=hh;rcases List.mem_cons.1 hv with e|hv
   ·subst e;cases fl with
    |false=>exact h2.elim
    | true=>
      obtain⟨rr,ys,a1,a0,a2,⟨_,a3⟩,a4⟩:=h2;rcases a3 with ⟨e,_⟩|⟨g,cap,cur,e,_,hg,_⟩
      ·subst e;simp[Value.ownBlock] at hk
      subst e;simp only[Value.ownBlock,Option.some.injEq] at hk;subst hk;exact⟨cur,hg⟩
   exact lu h3 v hv k hk
end
section
variable {N N':Nat→Prop}{w:World}{hp hp':List (Nat×av)}{R R':Real}
theorem lF (hN:∀r,N' r→N r)(h1:∀b off v,aI R b off v (lk hp b)→aI R' b off v (lk hp' b))(h2:∀b ver v,aD R b ver v (lk hp b)→aD R' b ver v (lk hp' b))
  (h3:∀b ver i off v,aK R b ver i off v (lk hp b)→aK R' b ver i off v (lk hp' b)) (hY:R'.Y=R.Y) {b:Nat} (e1:R'.blk b=R.blk b) (e2:R'.nil b=R.nil b) (e3:R'.cap b=R.cap b) {box:av}
  (h:dm N w hp R b box):dm N' w hp' R' b box:=by
 have JX:∀r,r<w.heap.size→N' r→N r:=fun r _=>hN r
 have hw:∀r,r<w.heap.size→¬N r→w.heap[r]? = w.heap[r]? :=fun _ _ _=>rfl
 have es:∀n,bA R' b n=bA R b n:=fun n=>by simp only[bA,e1,e2,e3]
 cases box with
 | var cells=>
   obtain⟨cur,e,a1,a2⟩:=h;exact⟨cur,e,by rw[e1];exact a1,bg JX hw h1 h2 h3 _ _ a2⟩
 | ny cells=>
   obtain⟨cur,e,fr,a1,a2,a3⟩:=h;exact⟨cur,e,fr,by rw[e1];exact a1,by rw[e1];exact fun x=>a2 (hN _ x),bL JX hw _ _ a3⟩
 | arr e ver st rows=>
   obtain⟨xs,a1,a2⟩:=h;exact⟨xs,by rw[es];exact a1,aN JX hw _ _ _ a2⟩
 | bX ver st rows=>
   simp only[dm,es] at h ⊢;exact bN JX hw _ _ h
 | tr y ver rest st=>
   obtain⟨k0,kh,k1,k2,k3,k4⟩:=h;refine⟨k0,by rw[hY];exact kh,by rw[hY,e2];exact k1,by rw[hY];exact k2,by rw[hY];exact k3,fun r hn=>by rw[hY];exact k4 r (hN r hn)⟩
 | mp kk kv es=>
   obtain⟨cur,clock,a1,a2,a3⟩:=h;exact⟨cur,clock,by rw[e1];exact a1,by rw[e2];exact a2,a3⟩
 | dL e ver st pre row post=>
   obtain⟨xs,a1,a2,a3,a4,a5⟩:=h;exact⟨xs,by rw[es];exact a1,aN JX hw _ _ _ a2,a3,bg JX hw h1 h2 h3 _ _ a4,aN JX hw _ _ _ a5⟩
 | bR e ver st j ed sd pre row post=>
   exact gQ JX hw e1 e2 e3 (fun _ _=>rfl) rfl (fun vs h=>bg JX hw h1 h2 h3 _ _ h) h
end
end Go.AX
end
