/-
  Contracts of functions of the program and of the document, each for every input that its premises name.
-/
import Derived.Test.YtfoiekbkkbnpkaaGreatBf
import Derived.Test.YtfoiekbkkbnpkaaGreatAg
import Derived.Test.YtfoiekbkkbnpkaaGreatProg
set_option linter.unusedSectionVars false
set_option linter.unusedVariables false
set_option linter.unusedSimpArgs false
set_option maxRecDepth 100000
set_option maxHeartbeats 4000000
section
open Go Go.Proofs.Tryz Go.AX
namespace Go.Proofs.YtfoiekbkkbnpkaaGreat.Tb
theorem JL {l:Lg}{x:Rv}{k:Nat}(h:RInv l k x):∀{k':Nat},k≤k'→RInv l k' x:=by
 intro k' G;induction k' with
 | zero=>
   have:k=0:=by omega
   subst this;exact h
 | succ k' ih=>
   rcases Nat.lt_or_ge k (k'+1) with g|g
   ·exact (ih (by omega)).up
   have:k=k'+1:=by omega
   subst this;exact h
structure sI (s:Sk)(i:Nat):Prop where
 ws:xE s.w i (200*i)
 bH:s.bH.length≤90
 br:∀m∈s.bH,m.r.body.length≤3000∧0≤m.r.sure
 st:∀b∈s.bS,b.length≤3000
 has:s.has.length≤i
 told:s.told.length≤i
 Dp:s.aF.length≤i∧∀f∈s.aF,0≤f.sure
 now:gU s.now
 ep:s.ak≤s.first+i∧s.first≤1152921504606846976
 rv:s.first<s.ak→RInv s.x i s.r
 r0:s.ak=s.first→s.r.phase=0∧s.r.af=[]
 pl:dh s.x.w s.x.af=true
theorem GA {G:List (List UInt8)}{n:Int}{b:List UInt8}(h:jw G n b)(hs:∀b∈G,b.length≤3000):b.length≤3000:=by
 obtain⟨K,Q,J⟩:=h;have hi:(n-1).toNat<G.length:=by omega
 rw[J,getElem!_pos G _ hi];exact hs _ (List.getElem_mem hi)
theorem sI.skB {s:Sk}{i:Nat}(h:sI s i)(H:fB s)(hi:i≤400):Ls s:=by
 have X:s.w.next=s.bS.length+1:=H.S.nx;have h2:=h.ws.nx;have h3:=h.ws.su;have h4:=h.ep;have J:=H.f0;have K:=H.ep;have Q:=h.bH;have h8:=h.has;have h9:=h.told;have ha:=h.Dp.1;exact⟨h.ws.wrB (by omega) (by omega),h.ws.lf,h.ws.Ug,h.ws.ajZ,Q,by omega,by omega,by omega,H.ln,fun y V=>GA (H.hb y V) h.st,h.now,⟨by omega,by omega⟩,by omega,⟨J,K,by omega⟩,fun G=>(h.rv G).big (H.rv G).may (by omega),h.pl⟩
theorem sI.alW {s:Sk}{i:Nat}(h:sI s i)(H:fB s)(hi:i≤100000)(V:xE s.w 400 80000):Ls s:=by
 have h1:s.w.next=s.bS.length+1:=H.S.nx;have h2:=h.ws.nx;have h3:=h.ws.su;have h4:=h.ep;have J:=H.f0;have K:=H.ep;have Q:=h.bH;have h8:=h.has;have h9:=h.told;have ha:=h.Dp.1;exact⟨V.wrB (by omega) (by omega),h.ws.lf,h.ws.Ug,h.ws.ajZ,Q,by omega,by omega,by omega,H.ln,fun y X=>GA (H.hb y X) h.st,h.now,⟨by omega,by omega⟩,by omega,⟨J,K,by omega⟩,fun G=>(h.rv G).big (H.rv G).may (by omega),h.pl⟩
theorem sI.mono {s:Sk}{i j:Nat}(h:sI s i)(G:i≤j):sI s j:=
 ⟨h.ws.mono G (by omega),h.bH,h.br,h.st,by have:=h.has;omega,by have:=h.told;omega,⟨by have:=h.Dp.1;omega,h.Dp.2⟩,h.now,⟨by have:=h.ep.1;omega,h.ep.2⟩,fun J=>JL (h.rv J) G,h.r0,h.pl⟩
theorem pu {s:Sk}{i:Nat}(h:sI s i)(to:Int)(l:List Rq):sI (iq s to l) i:=by
 refine⟨h.ws,?_,fun m G=>?_,h.st,h.has,h.told,h.Dp,h.now,h.ep,h.rv,h.r0,h.pl⟩
 ·have:=h.bH;unfold iq;simp only[rP,fG,List.length_take];omega
 rcases List.mem_append.1 G with G|G
 ·exact h.br m G
 obtain⟨q,J,rfl⟩:=List.mem_map.1 G;exact⟨Nat.zero_le _,Int.le_refl _⟩
theorem Og (s:Sk)(q:Rq)(o:Bool):(bQ s q o).1.w=s.w∧(bQ s q o).1.x=s.x∧(bQ s q o).1.r=s.r∧(bQ s q o).1.ak=s.ak∧(bQ s q o).1.first=s.first∧(bQ s q o).1.bH=s.bH∧(bQ s q o).1.bS=s.bS∧(bQ s q o).1.now=s.now:=by
 unfold bQ;dsimp only
 split
 ·split<;>exact⟨rfl,rfl,rfl,rfl,rfl,rfl,rfl,rfl⟩
 split
 ·exact⟨rfl,rfl,rfl,rfl,rfl,rfl,rfl,rfl⟩
 split<;>exact⟨rfl,rfl,rfl,rfl,rfl,rfl,rfl,rfl⟩
theorem Lc {s:Sk}{i:Nat}(h:sI s i)(p:Pl):∀f∈iD s.aF p,0≤f.sure:=fun f G=>by
 rcases Ni G with G|G
 ·exact h.Dp.2 f G
 rw[G];exact Int.le_refl _
theorem aaB {s:Sk}{i:Nat}(h:sI s i)(p:Pl):0≤(eO s.aF p).sure:=by
 obtain⟨hi,e⟩:=TV s.aF p;rw[←e];exact Lc h p _ (List.getElem_mem hi)
theorem Rw {s:Sk}{i:Nat}(h:sI s i)(H:fB s)(q:Rq)(o:Bool):sI (bQ s q o).1 (i+1)∧((bQ s q o).2.body.length≤3000∧0≤(bQ s q o).2.sure):=by
 obtain⟨e1,e2,e3,Q,S,e6,e7,e8⟩:=Og s q o;have X:=h.mono (Nat.le_succ i);have hF:=Np s.aF q.to;have aa:=h.Dp.1;have G:=aaB h q.to;have J:∀(k:Nat) (g:Fk),0≤g.sure→((iD s.aF q.to).set k g).length≤i+1∧∀f∈(iD s.aF q.to).set k g,0≤f.sure:=fun k g hg=>by
  refine⟨by rw[List.length_set];omega,fun f K=>?_⟩;rcases TJ K with K|K
  ·exact Lc h q.to f K
  rw[K];exact hg
 have key:((bQ s q o).1.has.length≤i+1∧(bQ s q o).1.told.length≤i+1∧((bQ s q o).1.aF.length≤i+1∧∀f∈(bQ s q o).1.aF,0≤f.sure))∧((bQ s q o).2.body.length≤3000∧0≤(bQ s q o).2.sure):=by
  have hh:=h.has;have ht:=h.told;have V:(iD s.aF q.to).length≤i+1∧∀f∈iD s.aF q.to,0≤f.sure:=⟨by omega,Lc h q.to⟩;unfold bQ;dsimp only
  split
  ·split
   ·exact⟨⟨by show s.has.length≤i+1;omega,by show s.told.length≤i+1;omega,V⟩,Nat.zero_le _,Int.le_refl _⟩
   refine⟨⟨?_,?_,J _ _ (by show 0≤max _ _;omega)⟩,Nat.zero_le _,Int.le_refl _⟩
   ·show (if (mK s.has q.to q.n).isNone=true then s.has++[⟨q.to,q.n,q.body⟩] else s.has).length≤i+1
    split
    ·simp only[rP,List.length_singleton];omega
    omega
   show (if o=true then s.told++[⟨q.to,q.n,q.body⟩] else s.told).length≤i+1
   split
   ·simp only[rP,List.length_singleton];omega
   omega
  split
  ·exact⟨⟨by show s.has.length≤i+1;omega,by show s.told.length≤i+1;omega,J _ _ G⟩,Nat.zero_le _,G⟩
  split
  ·refine⟨⟨by show s.has.length≤i+1;omega,by show s.told.length≤i+1;omega,V⟩,?_⟩;cases hx:mK s.has q.to q.n with
   | some e=>
     obtain⟨g1,g2,g3⟩:=yQ hx;exact⟨GA (H.hb e g1) h.st,G⟩
   |none=>exact⟨Nat.zero_le _,G⟩
  exact⟨⟨by show s.has.length≤i+1;omega,by show s.told.length≤i+1;omega,V⟩,Nat.zero_le _,Int.le_refl _⟩
 obtain⟨⟨k1,k2,k3⟩,k4⟩:=key;exact⟨⟨by rw[e1];exact X.ws,by rw[e6];exact h.bH,by rw[e6];exact h.br,by rw[e7];exact h.st,k1,k2,k3,by rw[e8];exact h.now,by rw[Q,S];exact X.ep,by rw[e2,e3,Q,S];exact X.rv,by rw[e3,Q,S];exact h.r0,by rw[e2];exact h.pl⟩,k4⟩
theorem V4 {s:Sk}{i:Nat}(h:sI s i)(H:fB s)(to:Int){r:Rs}(S:r.body.length≤3000)(hs:0≤r.sure):sI (gy s to r) (i+1):=by
 have G:=h.mono (Nat.le_succ i);unfold gy;split
 ·exact⟨(aaC h.ws r).mono (Nat.le_refl _) (by omega),G.bH,G.br,G.st,G.has,G.told,G.Dp,G.now,G.ep,G.rv,G.r0,G.pl⟩
 split
 ·rename_i Q J;refine pu (s:={ s with r:=(bJ s.r s.now r).1 }) ?_ _ _;have K:=adL (H.rv J.2).may (h.rv J.2) h.now hs (by omega:r.body.length≤5000);exact⟨G.ws,G.bH,G.br,G.st,G.has,G.told,G.Dp,G.now,G.ep,fun _=>K.inv,fun e=>absurd e (by have:=J.2;show ¬s.ak=s.first;omega),G.pl⟩
 exact G
theorem V5 {s:Sk}{i:Nat}(h:sI s i)(H:fB s){x:Lk}(J:x.r.body.length≤3000∧0≤x.r.sure):sI (gQ s x) (i+1):=by
 unfold gQ;split
 ·exact V4 h H _ J.1 J.2
 obtain⟨a,b⟩:=Rw h H x.q (x.to==0);dsimp only
 split
 ·rename_i K;refine⟨a.ws,?_,fun m G=>?_,a.st,a.has,a.told,a.Dp,a.now,a.ep,a.rv,a.r0,a.pl⟩
  ·simp only[rP,List.length_singleton];omega
  rcases List.mem_append.1 G with G|G
  ·exact a.br m G
  rw[List.mem_singleton] at G;subst G;exact b
 exact a
theorem Oh {s:Sk}{i:Nat}(h:sI s i)(k:Nat):sI (ny s k) i:=by
 refine⟨h.ws,?_,fun m G=>h.br m ?_,h.st,h.has,h.told,h.Dp,h.now,h.ep,h.rv,h.r0,h.pl⟩
 ·have:=h.bH;unfold ny;simp only[rP,List.length_take,List.length_drop];omega
 rcases List.mem_append.1 G with G|G
 ·exact List.mem_of_mem_take G
 exact List.mem_of_mem_drop G
theorem aaD {s:Sk}{i:Nat}(h:sI s i){b:List UInt8}(G:b.length≤3000):sI (vL s b) i:=by
 unfold vL;dsimp only
 split
 ·refine pu (s:={ s with w:=(iC s.w s.now b).1,bS:=s.bS++[b] }) ⟨aaE h.ws h.now G,h.bH,h.br,fun c hc=>?_,h.has,h.told,h.Dp,h.now,h.ep,h.rv,h.r0,h.pl⟩ _ _;rcases List.mem_append.1 hc with hc|hc
  ·exact h.st c hc
  rw[List.mem_singleton] at hc;subst hc;exact G
 exact h
theorem aaF {s:Sk}{i:Nat}(h:sI s i){now:Int}(J:gU now):sI (FE s now) (i+1):=by
 have G:=h.mono (Nat.le_succ i);exact pu (s:={ s with now:=now,w:=(jJ s.w now).1 }) ⟨(aaG h.ws J).mono (Nat.le_succ i) (by omega),G.bH,G.br,G.st,G.has,G.told,G.Dp,J,G.ep,G.rv,G.r0,G.pl⟩ _ _
theorem aaH {s:Sk}{i:Nat}(h:sI s i)(H:fB s):sI (vM s) i:=by
 unfold vM;split
 ·rename_i X;have J:=Oi h.ws h.now s.taken (fun V G=>by
   have K:s.x.af=if s.ask.first≠0∧(if s.taken then (1:Int) else 2)=1 then dS s.w.l.af s.ask else s.w.l.af:=H.S.pl
   have Q:s.ask=s.w.change:=H.S.ask;rw[←Q] at G ⊢;rw[if_pos ⟨G,by rw[V];rfl⟩] at K;rw[←K,H.wl.1];exact h.pl)
  exact pu (s:={ s with w:=(dP s.w s.now s.taken).1,ask:=kT }) ⟨J,h.bH,h.br,h.st,h.has,h.told,h.Dp,h.now,h.ep,h.rv,h.r0,h.pl⟩ _ _
 exact h
theorem Rx {s:Sk}{i:Nat}(h:sI s i)(H:fB s)(e:Int)(known:List Pl):sI (kF s e known) i:=by
 have G:=aek h.ws e known;unfold kF;dsimp only
 split
 ·exact⟨G,h.bH,h.br,h.st,h.has,h.told,h.Dp,h.now,h.ep,h.rv,h.r0,h.pl⟩
 split
 ·rename_i Q K;exact⟨G,h.bH,h.br,h.st,h.has,h.told,h.Dp,h.now,h.ep,fun J=>absurd J (by have:=K.1;show ¬s.first<s.ak;omega),h.r0,K.2⟩
 exact⟨G,h.bH,h.br,h.st,h.has,h.told,h.Dp,h.now,h.ep,h.rv,h.r0,h.pl⟩
theorem Oj {s:Sk}{i:Nat}(h:sI s i)(H:fB s):sI (jv s) (i+1):=by
 have G:=h.mono (Nat.le_succ i);unfold jv;dsimp only
 split
 ·rename_i hc;obtain⟨a,b⟩:=agP h.now hc;have K:=H.ep;have J:=h.ep;exact pu (s:={ s with ak:=s.ak+1,r:=(oq s.x (s.ak+1) s.now).1 }) ⟨G.ws,G.bH,G.br,G.st,G.has,G.told,G.Dp,G.now,⟨by show s.ak+1≤s.first+((i+1:Nat):Int);omega,J.2⟩,fun _=>JL b (Nat.zero_le _),fun e=>absurd e (by show ¬s.ak+1=s.first;omega),G.pl⟩ _ _
 exact G
theorem V6 {s:Sk}{i:Nat}(h:sI s i)(H:fB s){now:Int}(K:gU now)(known:List Pl):sI (bU s now known) (i+1):=by
 have G:=h.mono (Nat.le_succ i);unfold bU;split
 ·rename_i J;have Q:=adM (H.rv J).may (h.rv J) K known;exact pu (s:={ s with now:=now,r:=(dJ s.r now known).1 }) ⟨G.ws,G.bH,G.br,G.st,G.has,G.told,G.Dp,K,G.ep,fun _=>Q.inv,fun e=>absurd e (by show ¬s.ak=s.first;omega),G.pl⟩ _ _
 exact⟨G.ws,G.bH,G.br,G.st,G.has,G.told,G.Dp,K,G.ep,G.rv,G.r0,G.pl⟩
def qp (s:Sk)(x:sP):Sk:=
 if eD x.what=0∨eD x.what=1 then vL s x.body
 else if eD x.what=7 then FE s (qo s x.GX)
 else if eD x.what=8 then kF s x.e x.known
 else if eD x.what=9 then vM s
 else if eD x.what=10 then jv s
 else if eD x.what=11 then bU s (qo s x.GX) x.known
 else yV s x
theorem Uh {s:Sk}{i:Nat}(h:sI s i)(H:fB s)(x:sP):sI (yV s x) (i+1)∧fB (yV s x):=by
 unfold yV;split
 ·exact⟨h.mono (Nat.le_succ i),H⟩
 rename_i Q;have G:0<s.bH.length:=List.length_pos_iff.2 Q;have hd:sI (ji s x) i∧fB (ji s x)∧xO s (ji s x)∧(ji s x).told=s.told:=by
  unfold ji;split
  ·exact⟨Oh h _,BL H _,xO.rfl' rfl rfl (Int.le_refl _) rfl rfl rfl rfl,rfl⟩
  exact⟨h,H,xO.rfl' rfl rfl (Int.le_refl _) rfl rfl rfl rfl,rfl⟩
 obtain⟨V,J,d3,d4⟩:=hd;split
 ·exact⟨V.mono (Nat.le_succ i),J⟩
 have X:=(Cb s x.which G).1;rw[getElem!_pos s.bH _ X];have K:=List.getElem_mem X;refine⟨V5 V J (h.br _ K),Jj J (kG d3 (H.lt _ K)) fun ha h0 hc=>?_⟩;rw[d4];exact H.S.br ⟨s.bH[mP s x.which].ask,s.bH[mP s x.which].q,s.bH[mP s x.which].r⟩ (List.mem_map.2 ⟨_,List.mem_filter.2 ⟨K,by simp[h0]⟩,rfl⟩) ha hc
theorem Ol {s:Sk}{i:Nat}(h:sI s i)(H:fB s)(x:sP)(G:x.body.length≤3000)(J:pY x.known):sI (qp s x) (i+1)∧fB (qp s x):=by
 unfold qp;split
 ·exact⟨(aaD h G).mono (Nat.le_succ i),ZP H _⟩
 split
 ·exact⟨aaF h (Eu _),ZR H _⟩
 split
 ·exact⟨(Rx h H _ _).mono (Nat.le_succ i),QU H _ _⟩
 split
 ·exact⟨(aaH h H).mono (Nat.le_succ i),ZT H⟩
 split
 ·exact⟨Oj h H,FJ H⟩
 split
 ·exact⟨V6 h H (Eu _) _,Jk H _ J⟩
 exact Uh h H x
theorem JM {l:Lg}{k:Nat}{x:Rv}(G:dN l=true)(h:RInv l k x)(now:Int)(known:List Pl):(dJ x now known).2.length≤100:=by
 obtain⟨m1,m2,m3,m4,m5,m6⟩:=mM G;have hw:x.l.w≤5:=by rw[h.hl];exact m6
 have s5:∀(f:List Fr) (n:Int),(setOf f x.l.w n).length≤5:=fun f n=>qm hw
 have gN:(aS x).ah.length≤5:=by
  have Q:=rX (x:=x) (by rw[h.hl];exact m1);rw[h.hl] at Q;exact (m3 _ Q).2.2
 have J:(iX x now).l=x.l∧(iX x now).af=x.af:=by unfold iX;split<;>exact⟨rfl,rfl⟩
 have V:∀y:Rv,(dH y known).1.l=y.l:=fun y=>by unfold dH;split<;>rfl
 have X:∀y:Rv,y.l=x.l→(qz y now).2.length≤100:=fun y e=>by
  unfold qz;dsimp only
  have hy:aS y=aS x:=by unfold aS;rw[e]
  split
  ·have:=Di y (aS y).ah;rw[hy] at this ⊢;omega
  split
  ·have:=rW y (aC y);unfold aC at this ⊢;rw[e] at this ⊢;have:=s5 x.l.af y.n;omega
  split
  ·have:=lY y (aj y);unfold aj at this ⊢;rw[e] at this ⊢;have:=s5 y.af y.n;omega
  exact Nat.zero_le _
 unfold dJ;dsimp only
 split
 ·split
  ·rw[List.length_append];have e1:(dH (iX x now) known).1.l=x.l:=by rw[V];exact J.1
   obtain⟨z,S⟩:∃z:Rv,z={ (dH (iX x now) known).1 with phase:=3,born:=now,since:=now }:=⟨_,rfl⟩;have K:z.l=x.l:=by rw[S];exact e1
   rw[←S];have a1:=lY z (aj z);have a2:(aj z).length≤5:=by unfold aj;rw[K];exact s5 _ _
   have a3:=tX (y:=z) (k:=5) (fun n=>by rw[K];exact s5 _ _) now;omega
  split
  ·exact X _ (by rw[V];exact J.1)
  exact Nat.zero_le _
 split
 ·exact X _ J.1
 exact Nat.zero_le _
theorem aaI (s:Sk)(x:sP){i:Nat}(h:sI s i)(H:fB s)(hi:i≤400)(S:x.body.length≤3000)(K:x.known.length≤1000) :
  dX prog 33 [.ptr 1 0,.pv (.agg x.c)] (zi s) (.pv (.cK [])) (Lr (qp s x)):=by
 have J:=h.skB H hi;unfold qp;split
 ·exact K7 s x J S (by assumption)
 split
 ·exact K8 s x J (by assumption)
 split
 ·exact Gx s x J K (by assumption)
 split
 ·exact La s x J (by assumption)
 split
 ·exact K9 s x J (by assumption)
 split
 ·refine JJ s x J (k:=i) (fun G=>⟨(H.rv G).may,h.rv G⟩) (by omega) K (fun now=>?_) (by assumption);by_cases G:s.first<s.ak
  ·exact .inl (JM (H.rv G).may (h.rv G) now x.known)
  exact .inr G
 rename_i Q X n8 n9 na nb;refine Dy s x J (fun m V=>by have:=(h.br m V).1;omega) ⟨?_,?_,?_,?_,?_,?_,?_⟩<;>rw[beq_eq_false_iff_ne]
 ·exact fun e=>Q (.inl e)
 ·exact fun e=>Q (.inr e)
 ·exact X
 ·exact n8
 ·exact n9
 ·exact na
 exact nb
theorem GD:bM prog 30 f30:=fO func30
def uK (x:sP):Bool:=decide (((List.map lD x.body).length:Int)>3000)||(decide (((List.map Pl.c x.known).length:Int)>30) || !dh 0 [⟨1,x.known⟩])
def GH (l:List sP):Bool:=decide (((List.map sP.c l).length:Int)>300)||l.any uK
theorem V7 (l:List sP):dF prog 30 [Nn l] (bl (GH l)):=by
 refine PC.le ?_;unfold GH;cases h0:decide (((List.map sP.c l).length:Int)>300) with
 | true=>
   refine dQ GD ?_;repeat' ((conv=>whnf);first|(with_reducible first|apply aM|apply fk<;>intro hc<;>try exact iA)|refine aK ?_|fail)
   all_goals exact aJ
 |false=>
 rw[Bool.false_or];have hl:l.length≤300:=by simp only[uS,fG] at h0;omega
 refine dQ GD ?_;repeat' ((conv=>whnf);first|(with_reducible first|apply aM|apply fk<;>intro hc<;>try exact iA)|refine aK ?_|fail)
 refine⟨{k:Nat // k≤l.length∧∀j (V:j<l.length),j<k→uK l[j]=false},fun⟨k,_⟩=>⟨[(0,.pv (Nn l)),(3,.pv (ii k))],1000000000,[]⟩,fun⟨k,_⟩=>l.length-k,⟨⟨0,Nat.zero_le _,fun j V h=>absurd h (by omega)⟩,aD ?_⟩,?_⟩
 ·all_goals exact aJ
 rintro⟨k,hk,hn⟩
 dsimp only
 by_cases Q:k<l.length
 rotate_left
 ·have aa:k=l.length:=by omega
  subst aa;have d0:decide ((l.length:Int)<((List.map sP.c l).length:Int))=false:=by rw[List.length_map];simp
  have e:l.any uK=false:=List.any_eq_false.2 fun x hx=>by
   obtain⟨j,V,rfl⟩:=List.getElem_of_mem hx;rw[hn j V V];decide
  rw[e];clear hn e;repeat' ((conv=>whnf);first|(with_reducible first|apply aM|apply fk<;>intro hc<;>try exact iA)|refine aK ?_|fail)
  all_goals exact aJ
 have d0:decide ((k:Int)<((List.map sP.c l).length:Int))=true:=by rw[List.length_map];simp only[iG];omega
 have eW:IntKind.i64.wrap ((k:Int)+1)=((k+1:Nat):Int):=by rw[bF (by omega) (by omega)];omega
 have K:=dR sP.c l k Q;have J:uK l[k]=true→l.any uK=true:=fun e=>List.any_eq_true.2 ⟨_,List.getElem_mem Q,e⟩
 have G:uK l[k]=false→∀j (V:j<l.length),j<k+1→uK l[j]=false:=fun e=>lF hn fun _=>e
 clear hn;generalize l[k]=x at *;have S:=ql 0 [⟨1,x.known⟩];cases X:decide (((List.map lD x.body).length:Int)>3000) with
 | true=>
   rw[J (by unfold uK;rw[X];rfl)];clear J G S;repeat' ((conv=>whnf);first|(with_reducible first|apply aM|apply fk<;>intro hc<;>try exact iA)|((refine⟨_,K,?_⟩))|refine aK ?_|fail)
   all_goals exact aJ
 |false=>
 cases e2:decide (((List.map Pl.c x.known).length:Int)>30) with
 | true=>
   rw[J (by unfold uK;rw[X,e2];rfl)];clear J G S;repeat' ((conv=>whnf);first|(with_reducible first|apply aM|apply fk<;>intro hc<;>try exact iA)|((refine⟨_,K,?_⟩))|refine aK ?_|fail)
   all_goals exact aJ
 |false=>
 cases e3:dh 0 [⟨1,x.known⟩] with
 | false=>
   rw[J (by unfold uK;rw[X,e2,e3];rfl)];rw[e3] at S;clear J G;repeat' ((conv=>whnf);first|(with_reducible first|apply aM|apply fk<;>intro hc<;>try exact iA)|((refine⟨_,K,?_⟩))|refine eT S ?_|refine aK ?_|fail)
   all_goals exact aJ
 | true=>
   have G:=G (by unfold uK;rw[X,e2,e3];rfl);rw[e3] at S;clear J;replace G:=Hd.mk G;repeat' ((conv=>whnf);first|(with_reducible first|apply aM|apply fk<;>intro hc<;>try exact iA)|((refine⟨_,K,?_⟩))|refine eT S ?_|refine aK ?_|fail)
   refine⟨⟨k+1,Q,G.out⟩,dec_lt Q,aD ?_⟩;repeat' first|apply And.intro|exact aJ|fail
   all_goals try (conv=>whnf)
   all_goals exact eW
theorem l8:bM prog 32 f32:=fO func32
def uy (x:Lg)(G:Int):Option Sk:=
 if CU x.af||(!dN x||(decide (((List.map Fr.c x.af).length:Int)>1)||decide (G>1152921504606846976))) then none
 else (Bz x G).map fun w=>FD x w G
theorem aaJ (x:Lg)(X:Int)(V:lgR x)(h:uy x X=none):dF prog 32 [.agg x.c,uu X] (.sc (.pointer none)):=by
 refine PC.le ?_;have K:=Du x.af;have J:=Dw x ⟨V.2.2.2.1.1,V.2.2.2.1.2,V.2.2.2.2.1.1⟩;unfold uy at h;cases e1:CU x.af with
 | true=>
   rw[e1] at K;clear h J;refine dQ l8 ?_;repeat' ((conv=>whnf);first|(with_reducible first|apply aM|apply fk<;>intro hc<;>try exact oG)|refine eT K ?_|refine aK ?_|fail)
   all_goals exact aJ
 |false=>
 obtain⟨Q,S⟩:=M5 V e1;rw[e1] at K;cases e2:dN x with
 | false=>
   rw[e2] at J;clear h;refine dQ l8 ?_;repeat' ((conv=>whnf);first|(with_reducible first|apply aM|apply fk<;>intro hc<;>try exact oG)|refine eT K ?_|refine eT J ?_|refine aK ?_|fail)
   all_goals exact aJ
 |true=>
 have G:=aaK x X S (fun hm=>by
  obtain⟨m1,m2,m3,m4,m5,m6⟩:=mM hm;exact⟨by omega,fun f hf=>by have:=m3 f hf;omega,Q⟩)
 rw[e2] at J;cases e3:decide (((List.map Fr.c x.af).length:Int)>1) with
 | true=>
   clear h G;refine dQ l8 ?_;repeat' ((conv=>whnf);first|(with_reducible first|apply aM|apply fk<;>intro hc<;>try exact oG)|refine eT K ?_|refine eT J ?_|refine aK ?_|fail)
   all_goals exact aJ
 |false=>
 cases e4:decide (X>1152921504606846976) with
 | true=>
   clear h G;refine dQ l8 ?_;repeat' ((conv=>whnf);first|(with_reducible first|apply aM|apply fk<;>intro hc<;>try exact oG)|refine eT K ?_|refine eT J ?_|refine aK ?_|fail)
   all_goals exact aJ
 | false=>
   rw[e1,e2,e3,e4] at h;simp only[Bool.not_true,Bool.or_self,Bool.false_eq_true,↓reduceIte,Option.map_eq_none_iff] at h;rw[h] at G;simp only[Option.getD_none,Option.isSome_none,Bool.false_eq_true,↓reduceIte] at G;clear S Q V h;refine dQ l8 ?_;repeat' ((conv=>whnf);first|(with_reducible first|apply aM|apply fk<;>intro hc<;>try exact oG)|refine eT K ?_|refine eT J ?_|refine eT G ?_|refine aK ?_|fail)
   all_goals exact aJ
def alX (s:Sk):List (Nat×aI):=[(1001,.var (skA s (.aO 1002 0) (.aO 1003 0) (.aO 1004 0) (.aO 1005 0) (.aO 1006 0))),(1002,.arr 95 0 21 (s.bH.map Lk.c)),(1003,.arr 202 0 4 (s.has.map Hp.c)),(1004,.arr 202 0 4 (s.told.map Hp.c)),(1005,.arr 221 0 4 (s.aF.map Fk.c)),(1006,.arr 9 0 1 (s.bS.map Ap))]
theorem aaL (x:Lg)(J:Int)(V:lgR x)(s:Sk)(h:uy x J=some s):dX prog 32 [.pv (.agg x.c),.pv (uu J)] [] (.ptr 1001 0) (alX s):=by
 have gN:=Du x.af;have A8:=Dw x ⟨V.2.2.2.1.1,V.2.2.2.1.2,V.2.2.2.2.1.1⟩;unfold uy at h;split at h
 ·cases h
 rename_i hc;simp only[Bool.or_eq_true,not_or,Bool.not_eq_true,Bool.not_eq_false'] at hc;obtain⟨X,e2,e3,e4⟩:=hc;obtain⟨w,hw,rfl⟩:=Option.map_eq_some_iff.1 h;obtain⟨K,Q⟩:=M5 V X;obtain⟨m1,m2,m3,m4,m5,m6⟩:=mM e2;have G:=aaK x J Q (fun hm=>⟨by omega,fun f hf=>by have:=m3 f hf;omega,K⟩);rw[hw] at G;simp only[Option.getD_some,Option.isSome_some,↓reduceIte] at G;have aa:=Dx x.af (by omega) (fun f hf=>by have:=m3 f hf;omega);rw[X] at gN;rw[e2] at A8;have S:dX prog 32 [.pv (.agg x.c),.pv (uu J)] [] (.ptr 1001 0) [(1001,.var ((skA (FD x w J) (.aO 1002 0) (.aO 1003 0) (.aO 1004 0) (.aO 1005 0) (.aO 1006 0)).set 3 (.aO 1007 0))),(1002,.arr 95 0 21 ([])),(1003,.arr 202 0 4 ([])),(1004,.arr 202 0 4 ([])),(1005,.arr 221 0 4 ([])),(1006,.arr 9 0 1 ([])),(1007,.arr 48 0 2 (x.af.map Fr.c))]:=by
  clear Q K V h m1 m2 m3 m4 m5 m6 hw X e2;refine fw l8 ?_;repeat' ((conv=>whnf);first|(with_reducible first|apply aM|apply fk<;>intro hc<;>try exact oG)|refine eT gN ?_|refine eT A8 ?_|refine eT G ?_|refine eF aa ?_|refine aK ?_|fail)
  refine⟨_,_,⟨rfl,rfl⟩,?_⟩;all_goals exact aJ
 refine gL S [1007] ?_
 (conv=>whnf)
 refine⟨_,_,⟨rfl,rfl⟩,?_⟩;all_goals exact aJ
theorem V8 {x:Lg}{G:Int}{s:Sk}(h:uy x G=some s):sI s 0∧fB s:=by
 unfold uy at h;split at h
 ·cases h
 rename_i hc;simp only[Bool.or_eq_true,not_or,Bool.not_eq_true,Bool.not_eq_false',uS,fG] at hc;obtain⟨e1,V,e3,e4⟩:=hc;obtain⟨w,S,rfl⟩:=Option.map_eq_some_iff.1 h;have Q:=ZW (by omega) S;have J:=Q.f0;change 0≤G at J
 refine⟨⟨ael S,Nat.zero_le _,(fun m hm=>by cases hm),(fun b X=>by cases X),Nat.le_refl _,Nat.le_refl _,⟨Nat.le_refl _,fun f J=>by cases J⟩,⟨Int.le_refl _,by show (0:Int)≤18446744073709551615;omega⟩,⟨by show G≤G+((0:Nat):Int);omega,by show G≤1152921504606846976;omega⟩,(fun K=>absurd K (by show ¬G<G;omega)),(fun _=>⟨rfl,rfl⟩),(lX V).1⟩,Q⟩
def skL (s:Sk):List (Nat×aI):=[(1020,.var (skA s (.aO 1021 0) (.aO 1022 0) (.aO 1023 0) (.aO 1024 0) (.aO 1025 0))),(1021,.arr 95 0 21 (s.bH.map Lk.c)),(1022,.arr 202 0 4 (s.has.map Hp.c)),(1023,.arr 202 0 4 (s.told.map Hp.c)),(1024,.arr 221 0 4 (s.aF.map Fk.c)),(1025,.arr 9 0 1 (s.bS.map Ap))]
theorem aaM {l:List sP}(h:GH l=false):l.length≤300∧∀x∈l,x.body.length≤3000∧x.known.length≤30∧pY x.known:=by
 simp only[GH,Bool.or_eq_false_iff,uS,fG,List.any_eq_false] at h;refine⟨by omega,fun x J=>?_⟩;have:=h.2 x J;simp only[uK,Bool.not_eq_true,Bool.or_eq_false_iff,uS,fG,Bool.not_eq_false'] at this;obtain⟨a,b,c⟩:=this;refine⟨by omega,by omega,fun p G=>?_⟩;have:=(dO c).2 _ (List.mem_singleton.2 rfl);simp only[iK,Bool.and_eq_true,List.all_eq_true] at this;exact this.2.2.1 p G
theorem aem {s:Sk}(H:fB s)(h:IB s)(x:sP):IB (yV s x):=by
 unfold yV;split
 ·exact h
 rename_i J;have G:0<s.bH.length:=List.length_pos_iff.2 J;have X:fB (ji s x)∧xO s (ji s x)∧IB (ji s x):=by
  unfold ji;split
  ·exact⟨BL H _,xO.rfl' rfl rfl (Int.le_refl _) rfl rfl rfl rfl,Qo h _⟩
  exact⟨H,xO.rfl' rfl rfl (Int.le_refl _) rfl rfl rfl rfl,h⟩
 obtain⟨S,V,K⟩:=X;split
 ·exact K
 have Q:=(Cb s x.which G).1;rw[getElem!_pos s.bH _ Q];exact YW S K (kG V (H.lt _ (List.getElem_mem Q)))
theorem aaN {s:Sk}(H:fB s)(h:IB s)(x:sP):IB (qp s x):=by
 unfold qp;split
 ·exact adp h _
 split
 ·exact adq h _
 split
 ·exact Vd h _ _
 split
 ·exact adr h
 split
 ·exact ads h
 split
 ·exact YV h _ _
 exact aem H h x
theorem aen {s:Sk}(b:Int)(K:0≤s.now)(Q:s.now≤1000000):0≤qo s b∧qo s b≤s.now+15:=by
 unfold qo;obtain⟨G,J⟩:=agy b;rw[gX (n:=xB b 15) G (by omega),gX (by omega) (by omega)];omega
theorem aaO {s:Sk}(G:0≤s.now)(J:s.now≤1000000):qo s 1=s.now+1:=by
 unfold qo;have:xB 1 15=1:=by decide
 rw[this,gX (n:=1) (by omega) (by omega),gX (by omega) (by omega)]
theorem V9 {s:Sk}(K:0≤s.now)(Q:s.now≤1000000)(x:sP):0≤(qp s x).now∧(qp s x).now≤s.now+15:=by
 have same:∀t:Sk,t.now=s.now→0≤t.now∧t.now≤s.now+15:=fun t e=>by rw[e];omega
 have G:=aen x.GX K Q;unfold qp;split
 ·refine same _ ?_;unfold vL;dsimp only
  split<;>rfl
 split
 ·exact G
 split
 ·refine same _ ?_;unfold kF;dsimp only
  split
  ·rfl
  split<;>rfl
 split
 ·refine same _ ?_;unfold vM;split<;>rfl
 split
 ·refine same _ ?_;unfold jv;dsimp only
  split<;>rfl
 split
 ·unfold bU;split<;>exact G
 refine same _ ?_;have J:(ji s x).now=s.now:=by unfold ji;split<;>rfl
 unfold yV;split
 ·rfl
 split
 ·exact J
 rw[Vh];exact J
structure O7 (s:Sk)(i:Nat):Prop where
 t:sI s i
 v:fB s
 wi:WI s
 ws:xE s.w 400 80000
 n0:0≤s.now
theorem O7.mono {s:Sk}{i j:Nat}(h:O7 s i)(G:i≤j):O7 s j:=⟨h.t.mono G,h.v,h.wi,h.ws,h.n0⟩
theorem O7.skB {s:Sk}{i:Nat}(h:O7 s i)(hi:i≤100000):Ls s:=h.t.alW h.v hi h.ws
def aaP:sP:=⟨2,0,0,0,0,[],[]⟩
def Ui (known:List Pl):sP:=⟨11,0,0,1,0,[],known⟩
theorem Om {s:Sk}(up:List Pl){m:Lk}{r:List Lk}(G:s.bH=m::r)(hc:(m.ask && !aW up m.q.to)=false):yV s aaP=iw up s:=by
 unfold yV iw;rw[if_neg (by rw[G];exact List.cons_ne_nil _ _),G];simp only[hc,Bool.false_eq_true,↓reduceIte];have J:mP s 0=0:=by unfold mP;simp
 have K:ji s aaP={ s with bH:=r }:=by
  unfold ji;show (if ((eD 2==6)||decide ((0:Int)≤0))=true then ny s (mP s 0) else s)=_
  rw[if_pos (by decide),J];unfold ny;rw[G];rfl
 rw[K];show (if (eD 2==6)=true then _ else gQ { s with bH:=r } (m::r)[mP s 0]!)=_
 rw[if_neg (by decide),J];rfl
theorem JN {s:Sk}{i:Nat}(h:O7 s i)(up:List Pl){m:Lk}{r:List Lk}(G:s.bH=m::r)(hc:(m.ask && !aW up m.q.to)=false):O7 (iw up s) (i+1):=by
 obtain⟨a,b⟩:=Uh h.t h.v aaP;rw[Om up G hc] at a b;obtain⟨J,K,Q⟩:=KC up h.wi;exact⟨a,b,J,by rw[K];exact h.ws,by rw[Q];exact h.n0⟩
theorem aaQ {s:Sk}{i:Nat}(h:O7 s i)(up:List Pl){m:Lk}{r:List Lk}(J:s.bH=m::r)(hc:(m.ask && !aW up m.q.to)=true):O7 (iw up s) (i+1)∧iw up s={ s with bH:=r }:=by
 have e:iw up s={ s with bH:=r }:=by
  unfold iw;rw[J];simp only[hc,↓reduceIte]
 have G:ny s 0={ s with bH:=r }:=by unfold ny;rw[J];rfl
 obtain⟨K,Q,S⟩:=KC up h.wi;refine⟨⟨?_,?_,K,by rw[Q];exact h.ws,by rw[S];exact h.n0⟩,e⟩
 ·rw[e,←G];exact (Oh h.t 0).mono (Nat.le_succ i)
 rw[e,←G];exact BL h.v 0
theorem aaR {s:Sk}{i:Nat}(h:O7 s i)(G:s.now≤1000000){known:List Pl}(J:pY known):O7 (bU s (s.now+1) known) (i+1):=by
 obtain⟨a,b⟩:=Ol h.t h.v (Ui known) (Nat.zero_le _) J;have e:qp s (Ui known)=bU s (s.now+1) known:=by
  show (if eD 11=0∨eD 11=1 then _ else if eD 11=7 then _ else if eD 11=8 then _ else if eD 11=9 then _ else if eD 11=10 then _ else if eD 11=11 then bU s (qo s 1) known else _)=_
  rw[if_neg (by decide),if_neg (by decide),if_neg (by decide),if_neg (by decide),if_neg (by decide),if_pos (by decide),aaO h.n0 G]
 rw[e] at a b;obtain⟨K,Q,S⟩:=MQ h.wi (s.now+1) known;have:=h.n0;exact⟨a,b,K,by rw[Q];exact h.ws,by rw[S];omega⟩
theorem JO (s:Sk){i:Nat}(h:O7 s i)(hi:i≤100000)(up:List Pl){m:Lk}{r:List Lk}(G:s.bH=m::r)(hc:(m.ask && !aW up m.q.to)=false) :
  dX prog 33 [.ptr 1 0,.pv (.agg aaP.c)] (zi s) (.pv (.cK [])) (Lr (iw up s)):=by
 rw[←Om up G hc];exact Dy s aaP (h.skB hi) (fun m J=>by have:=(h.t.br m J).1;omega) ⟨by decide,by decide,by decide,by decide,by decide,by decide,by decide⟩
theorem Ry (s:Sk){i:Nat}(h:O7 s i)(hi:i≤100000)(J:s.now≤1000000)(known:List Pl)(K:known.length≤1000) :
  dX prog 33 [.ptr 1 0,.pv (.agg (Ui known).c)] (zi s) (.pv (.cK [])) (Lr (bU s (s.now+1) known)):=by
 rw[←aaO h.n0 J];refine JJ s (Ui known) (h.skB hi) (k:=i) (fun G=>⟨(h.v.rv G).may,h.t.rv G⟩) (by omega) K (fun now=>?_) (by show eD 11=11;decide);by_cases G:s.first<s.ak
 ·exact .inl (JM (h.v.rv G).may (h.t.rv G) now known)
 exact .inr G
theorem nJ:bM prog 7 f7:=fO func7
def alY:Tab:=frn tab
theorem aaS:dB prog alY:=Vg bV
def Ay (down:Int)(i:Nat):Bool:=xB (down.fdiv (2 ^ (min ((i:Nat):Int).toNat IntKind.i64.bits))) 1==1
structure BeG (s:Sk)(k:Nat)(W:Int):Prop where
 t:sI s k
 v:fB s
 b:IB s
 n0:0≤s.now
 n1:s.now≤15*(k:Int)
 w:s.x.w=W
theorem Wd {x:Lg}{G:Int}{s:Sk}(h:uy x G=some s):BeG s 0 x.w:=by
 obtain⟨a,b⟩:=V8 h;unfold uy at h;split at h
 ·cases h
 obtain⟨w,J,rfl⟩:=Option.map_eq_some_iff.1 h;exact⟨a,b,YU J,Int.le_refl _,Int.le_refl _,rfl⟩
theorem aeo (s:Sk)(m:Lk):(gQ s m).x=s.x:=by
 unfold gQ;split
 ·unfold gy;split
  ·rfl
  split<;>rfl
 obtain⟨G,J,K,Q,S,V⟩:=lW s m.q (m.to==0);dsimp only
 split<;>exact G
theorem aaT (s:Sk):(jv s).x=s.x:=by
 unfold jv;dsimp only
 split<;>rfl
theorem aaU (s:Sk)(x:sP):(qp s x).x.w=s.x.w:=by
 unfold qp;split
 ·unfold vL;dsimp only
  split<;>rfl
 split
 ·rfl
 split
 ·unfold kF;dsimp only
  split
  ·rfl
  split<;>rfl
 split
 ·unfold vM;split<;>rfl
 split
 ·rw[aaT]
 split
 ·unfold bU;split<;>rfl
 have G:(ji s x).x=s.x:=by unfold ji;split<;>rfl
 unfold yV;split
 ·rfl
 split
 ·rw[G]
 rw[aeo,G]
theorem aaV {s:Sk}{k:Nat}{W:Int}(h:BeG s k W)(K:k≤400)(x:sP)(J:x.body.length≤3000)(G:pY x.known):BeG (qp s x) (k+1) W:=by
 have Q:=h.n1;obtain⟨a,b⟩:=Ol h.t h.v x J G;obtain⟨c,d⟩:=V9 h.n0 (by omega) x;exact⟨a,b,aaN h.v h.b x,c,by omega,by rw[aaU];exact h.w⟩
theorem aep {s:Sk}(h:Ls s):Ls { s with bH:=[] }:=⟨h.w,h.lf,h.ww,h.ch,Nat.zero_le _,h.has,h.told,h.Dp,h.bS,h.hb,h.now,h.nx,h.su,h.ep,h.rv,h.pl⟩
theorem aaW {s:Sk}{k:Nat}{W:Int}(h:BeG s k W)(hk:k≤300)(S:s.x.af.length≤4){down:Int}{known:List Pl}(V:W≤(known.length:Int))(G:dh 0 [⟨1,known⟩]=true) :
  O7 (jv { s with bH:=[] }) 301∧(jv { s with bH:=[] }).now≤4500∧mJ (rV (Ay down) s.x.a known (aL s.x.af).ah 0 0 known) known 150 (jv { s with bH:=[] })=true:=by
 have n1:=h.n1;have hi:=h.v;have K:=hi.f0;have Q:=hi.ep;have h3:=h.t.ep;have iv:fB { s with bH:=[] }:=FW hi (fun m G=>by cases G);have X:sI { s with bH:=[] } k:=⟨h.t.ws,Nat.zero_le _,(fun m G=>by cases G),h.t.st,h.t.has,h.t.told,h.t.Dp,h.t.now,h.t.ep,h.t.rv,h.t.r0,h.t.pl⟩;obtain⟨w1,w2,J⟩:=adu (s:={ s with bH:=[] }) K Q rfl;refine⟨⟨(Oj X iv).mono (by omega),FJ iv,w1,?_,?_⟩,?_,?_⟩
 ·rw[w2];exact h.t.ws.mono (by omega) (by omega)
 ·rw[J];exact h.n0
 ·rw[J];show s.now≤4500
  omega
 exact Vf iv (Qo h.b []) rfl (by show s.ak+1≤_;omega) (by show 0≤s.ak;omega) S (ai0 (x:=s.x) h.b.may (by rw[h.w];exact V) G)
theorem Wh (b:Nat→Bool)(a:Int)(known:List Pl)(p:Pl)(r:List Pl)(i:Nat)(g:Int)(up:List Pl):rV b a known (p::r) i g up=if b i&&(decide (g+1<a) && !aW known p) then rV b a known r (i+1) (g+1) up else rV b a known r (i+1) g (up++[p]):=rfl
theorem Ld (up known:List Pl)(n:Nat)(s:Sk):mJ up known (n+1) s=if (dD up 400 s).r.phase=4 then MO (dD up 400 s) else mJ up known n (bU (dD up 400 s) ((dD up 400 s).now+1) known):=rfl
theorem Rz (up:List Pl)(n:Nat)(s:Sk):dD up (n+1) s=dD up n (iw up s):=rfl
theorem Wi (x:Lg)(ak:Int)(l:List sP)(down:Int)(known:List Pl)(hx:lgR x) :
  dF prog 7 [.agg x.c,uu ak,Nn l,ii down,av known] (bl true):=by
 refine PC.le ?_;have aa:=V7 l;have zf:=ql 0 [⟨1,known⟩];cases e0:GH l with
 | true=>
   rw[e0] at aa;clear zf;refine dQ nJ ?_;repeat' ((conv=>whnf);first|(with_reducible first|apply aM|apply fk<;>intro hc<;>try exact oG)|refine eT aa ?_|(apply bX;refine⟨_,lM,?_⟩)|refine aK ?_|fail)
   all_goals exact aJ
 |false=>
 rw[e0] at aa;cases e1:decide (((List.map Pl.c known).length:Int)>5) with
 | true=>
   clear zf hx;refine dQ nJ ?_;repeat' ((conv=>whnf);first|(with_reducible first|apply aM|apply fk<;>intro hc<;>try exact oG)|refine eT aa ?_|(apply bX;refine⟨_,lM,?_⟩)|refine aK ?_|fail)
   all_goals exact aJ
 |false=>
 cases e2:decide (((List.map Pl.c known).length:Int)<x.w) with
 | true=>
   clear zf hx;refine dQ nJ ?_;repeat' ((conv=>whnf);first|(with_reducible first|apply aM|apply fk<;>intro hc<;>try exact oG)|refine eT aa ?_|(apply bX;refine⟨_,lM,?_⟩)|refine aK ?_|fail)
   all_goals exact aJ
 |false=>
 cases e3:dh 0 [⟨1,known⟩] with
 | false=>
   rw[e3] at zf;clear hx;refine dQ nJ ?_;repeat' ((conv=>whnf);first|(with_reducible first|apply aM|apply fk<;>intro hc<;>try exact oG)|refine eT aa ?_|refine eT zf ?_|(apply bX;refine⟨_,lM,?_⟩)|refine aK ?_|fail)
   all_goals exact aJ
 |true=>
 rw[e3] at zf;cases eb:uy x ak with
 | none=>
   have bp:=aaJ x ak hx eb;clear eb e0 hx e3;refine dQ nJ ?_;repeat' ((conv=>whnf);first|(with_reducible first|apply aM|apply fk<;>intro hc<;>try exact oG)|refine eT aa ?_|refine eT zf ?_|refine eT bp ?_|(apply bX;refine⟨_,lM,?_⟩)|refine aK ?_|fail)
   all_goals exact aJ
 |some s0=>
 have bb:=aaL x ak hx s0 eb;have b0:=Wd eb;obtain⟨bh,a7⟩:=aaM e0;have br:known.length≤5:=by simp only[uS,fG] at e1;omega
 have zX:x.w≤(known.length:Int):=by simp only[uS,fG] at e2;omega
 have bt:pY known:=fun p hp=>by
  have:=(dO e3).2 _ (List.mem_singleton.2 rfl);simp only[iK,Bool.and_eq_true,List.all_eq_true] at this;exact this.2.2.1 p hp
 replace e3:=Hd.mk e3;replace zX:=Hd.mk zX;clear eb e0 hx;refine LX aaS (bZ mixed aaS) nJ rfl ?_;repeat' ((conv=>whnf);first|(with_reducible first|apply aM|apply fk<;>intro hc<;>try exact oG)|rewrite[nE]|rewrite[nG]|refine eT aa ?_|refine eT zf ?_|refine eF bb ?_|refine aK ?_|fail)
 clear aa bb zf e1 e2;refine⟨{p:Nat×Sk // p.1≤l.length∧BeG p.2 p.1 x.w},fun⟨(k,s),_⟩=>⟨[(2,.pv (Nn l)),(3,.pv (ii down)),(4,.pv (av known)),(11,.ptr 1020 0),(12,.pv (ii k))],1000000000,skL s⟩,fun⟨(k,_),_⟩=>l.length-k,⟨⟨(0,s0),Nat.zero_le _,b0⟩,aD ?_⟩,?_⟩
 ·all_goals exact aJ
 clear b0;rintro⟨⟨k,s⟩,hk,hs⟩
 simp only at hk hs;by_cases a0:k<l.length
 case' pos=>
  have d0:decide ((k:Int)<((List.map sP.c l).length:Int))=true:=by rw[List.length_map];simp only[iG];omega
  have eW:IntKind.i64.wrap ((k:Int)+1)=((k+1:Nat):Int):=by rw[bF (by omega) (by omega)];omega
  have G:=dR sP.c l k a0;obtain⟨b3,ba,bk⟩:=a7 _ (List.getElem_mem a0);obtain⟨y,bd⟩:∃y,l[k]=y:=⟨_,rfl⟩;rw[bd] at G b3 ba bk;clear bd a7;have ad:=aaI s y hs.t hs.v (by omega) b3 (by omega);have a2:=aaV hs (by omega) y b3 bk;obtain⟨s',he⟩:∃s',qp s y=s':=⟨_,rfl⟩;rw[he] at ad a2;clear he b3 ba bk;replace a2:=Hd.mk a2;replace hs:=Hd.mk hs;repeat' ((conv=>whnf);first|(with_reducible first|apply aM|apply fk<;>intro hc<;>try exact oG)|rewrite[nE]|rewrite[nG]|((refine⟨_,G,?_⟩))|refine eF ad ?_|refine aK ?_|fail)
  refine⟨⟨(k+1,s'),a0,a2.out⟩,dec_lt a0,aD ?_⟩;repeat' first|apply And.intro|exact aJ|fail
  all_goals try (conv=>whnf)
  all_goals exact eW
 have az:k=l.length:=by omega
 subst az;have d0:decide ((l.length:Int)<((List.map sP.c l).length:Int))=false:=by rw[List.length_map];simp
 clear a7;cases d4:decide (((List.map Fr.c s.x.af).length:Int)>4) with
 | true=>
   repeat' ((conv=>whnf);first|(with_reducible first|apply aM|apply fk<;>intro hc<;>try exact oG)|(apply bX;refine⟨_,lM,?_⟩)|refine aK ?_|fail)
   all_goals exact aJ
 |false=>
 have h4:s.x.af.length≤4:=by simp only[uS,fG] at d4;omega
 obtain⟨r1,r2,r3⟩:=aaW hs bh h4 (down:=down) zX.out e3.out;have a1:=Ob { s with bH:=[] } (aep (hs.t.skB hs.v (by omega)));have p0:0<s.x.af.length:=(dO hs.t.pl).1.1;have RA:(aL s.x.af).ah.length≤5:=by
  have:=(dO hs.t.pl).2 _ (iU p0);simp only[iK,Bool.and_eq_true,dA,iG] at this;omega
 obtain⟨kf,bu,eI,G⟩:=nI s.x.af p0 (by omega);have a9:(jv { s with bH:=[] }).x=s.x:=aaT _;obtain⟨t,ht⟩:∃t,jv { s with bH:=[] }=t:=⟨_,rfl⟩;rw[ht] at r1 r2 r3 a1 a9;rw[←a9] at r3 eI G RA;clear a9 ht p0 bu h4 zX e3;obtain⟨⟨b4,last⟩,gN⟩:∃f,aL t.x.af=f:=⟨_,rfl⟩;rw[gN] at r3 G RA;simp only at r3 RA;clear gN;replace r1:=Hd.mk r1;replace r2:=Hd.mk r2;replace r3:=Hd.mk r3;replace RA:=Hd.mk RA;repeat' ((conv=>whnf);first|fail|((with_reducible apply fk)<;>intro hc<;>try exact oG)|refine aK ?_|fail)
 refine Or.inl ?_;repeat' ((conv=>whnf);first|fail|((with_reducible apply fk)<;>intro hc<;>try exact oG)|refine aK ?_|fail)
 refine Or.inr ⟨Unit,fun _=>⟨[(3,.pv (ii down)),(4,.pv (av known)),(11,.ptr 1020 0)],1000000000,skL { s with bH:=[] }⟩,?_,fun _=>?_⟩
 ·clear a1 G eI;repeat' ((conv=>whnf);first|(with_reducible first|apply aM|apply fk<;>intro hc<;>try exact oG)|refine aK ?_|fail)
  refine⟨(),aD ?_⟩;all_goals exact aJ
 repeat' ((conv=>whnf);first|(with_reducible first|apply aM|apply fk<;>intro hc<;>try exact oG)|rewrite[nE]|rewrite[nG]|rewrite[eI]|refine eF a1 ?_|((refine⟨_,G,?_⟩))|(((with_reducible apply And.intro);focus (simp only[fG,jo,jq,Int.toNat_natCast];omega)))|refine aK ?_|fail)
 clear a1 G eI;refine⟨{p:Nat×Nat×List Pl // p.1≤last.length∧p.2.1≤p.1∧p.2.2.length≤5+p.1∧Hd (rV (Ay down) t.x.a known (last.drop p.1) p.1 (p.2.1:Int) p.2.2=rV (Ay down) t.x.a known last 0 0 known)},fun⟨(i,g,up),_⟩=>⟨[(3,.pv (ii down)),(4,.pv (av known)),(11,.ptr 1020 0),(13,.aO 1030 0),(14,.pv (ii g)),(15,.pv (av last)),(16,.pv (ii i))],1000000000,(1030,.arr 27 0 2 (up.map Pl.c))::skL t⟩,fun⟨(i,_,_),_⟩=>last.length-i,⟨⟨(0,0,known),Nat.zero_le _,Nat.zero_le _,br,Hd.mk rfl⟩,aD ?_⟩,?_⟩
 ·all_goals exact aJ
 rintro⟨⟨i,g,up⟩,hi,hg,hu,he⟩
 simp only at hi hg hu he;by_cases J:i<last.length
 case' pos=>
  have d5:decide ((i:Int)<((List.map Pl.c last).length:Int))=true:=by rw[List.length_map];simp only[iG];omega
  have bw:=RA.out;have eW:IntKind.i64.wrap ((i:Int)+1)=((i+1:Nat):Int):=by rw[bF (by omega) (by omega)];omega
  have eG:IntKind.i64.wrap ((g:Int)+1)=((g+1:Nat):Int):=by rw[bF (by omega) (by omega)];omega
  have ax:(0:Int)≤(i:Int):=by omega
  have G:=dR Pl.c last i J;have X:=List.drop_eq_getElem_cons J;obtain⟨⟨pn,ps⟩,hp⟩:∃p,last[i]=p:=⟨_,rfl⟩;rw[hp] at G X;have he:=he.out;rw[X,Wh] at he;clear X hp;have hh:=Oo known pn ps;have ai:(Ay down i&&(decide ((g:Int)+1<t.x.a) && !aW known ⟨pn,ps⟩))=false→rV (Ay down) t.x.a known (last.drop (i+1)) (i+1) (g:Int) (up++[⟨pn,ps⟩])=rV (Ay down) t.x.a known last 0 0 known:=fun e=>by
   rw[e] at he;exact he
  have aw:(Ay down i&&(decide ((g:Int)+1<t.x.a) && !aW known ⟨pn,ps⟩))=true→rV (Ay down) t.x.a known (last.drop (i+1)) (i+1) ((g+1:Nat):Int) up=rV (Ay down) t.x.a known last 0 0 known:=fun e=>by
   rw[e] at he;exact he
  clear he;have XD:(up++[(⟨pn,ps⟩:Pl)]).length≤5+(i+1):=by rw[List.length_append,List.length_singleton];omega
  have a5:up.length≤5+(i+1):=by omega
  have aq:(up++[(⟨pn,ps⟩:Pl)]).map Pl.c=up.map Pl.c++[[ii pn,uu ps]]:=by rw[List.map_append];rfl
  replace XD:=Hd.mk XD;replace a5:=Hd.mk a5;cases b1:Ay down i with
  | false=>
    have nx:=Hd.mk (ai (by rw[b1];rfl));clear ai aw;unfold Ay xB at b1;clear hh;repeat' ((conv=>whnf);first|(with_reducible first|apply aM|apply fk<;>intro hc<;>try exact oG)|rewrite[nE]|rewrite[nG]|((refine⟨ax,?_⟩))|((refine⟨_,G,?_⟩))|(((with_reducible apply And.intro);focus (simp only[fG,jo,jq,Int.toNat_natCast];omega)))|refine aK ?_|fail)
    refine⟨⟨(i+1,g,up++[⟨pn,ps⟩]),J,Nat.le_succ_of_le hg,XD.out,nx⟩,dec_lt J,aD ?_⟩;repeat' first|apply And.intro|exact aJ|fail
    all_goals try (conv=>whnf)
    all_goals first
     |exact eW
     |(rw[aq];exact ay _)
  |true=>
  cases b2:decide ((g:Int)+1<t.x.a) with
  | false=>
    have nx:=Hd.mk (ai (by rw[b1,b2];rfl));clear ai aw;unfold Ay xB at b1;rw[←Int.natCast_succ] at b2;clear hh;repeat' ((conv=>whnf);first|(with_reducible first|apply aM|apply fk<;>intro hc<;>try exact oG)|rewrite[nE]|rewrite[nG]|((refine⟨ax,?_⟩))|((refine⟨_,G,?_⟩))|(((with_reducible apply And.intro);focus (simp only[fG,jo,jq,Int.toNat_natCast];omega)))|rewrite[eG]|refine aK ?_|fail)
    refine⟨⟨(i+1,g,up++[⟨pn,ps⟩]),J,Nat.le_succ_of_le hg,XD.out,nx⟩,dec_lt J,aD ?_⟩;repeat' first|apply And.intro|exact aJ|fail
    all_goals try (conv=>whnf)
    all_goals first
     |exact eW
     |(rw[aq];exact ay _)
  |true=>
  cases b3:aW known ⟨pn,ps⟩ with
  | true=>
    have nx:=Hd.mk (ai (by rw[b1,b2,b3];rfl));clear ai aw;unfold Ay xB at b1;rw[←Int.natCast_succ] at b2;unfold aW at b3;rw[b3] at hh;repeat' ((conv=>whnf);first|(with_reducible first|apply aM|apply fk<;>intro hc<;>try exact oG)|rewrite[nE]|rewrite[nG]|((refine⟨ax,?_⟩))|((refine⟨_,G,?_⟩))|(((with_reducible apply And.intro);focus (simp only[fG,jo,jq,Int.toNat_natCast];omega)))|rewrite[eG]|refine eT hh ?_|refine aK ?_|fail)
    refine⟨⟨(i+1,g,up++[⟨pn,ps⟩]),J,Nat.le_succ_of_le hg,XD.out,nx⟩,dec_lt J,aD ?_⟩;repeat' first|apply And.intro|exact aJ|fail
    all_goals try (conv=>whnf)
    all_goals first
     |exact eW
     |(rw[aq];exact ay _)
  | false=>
    have nx:=Hd.mk (aw (by rw[b1,b2,b3];rfl));clear ai aw;unfold Ay xB at b1;rw[←Int.natCast_succ] at b2;unfold aW at b3;rw[b3] at hh;repeat' ((conv=>whnf);first|(with_reducible first|apply aM|apply fk<;>intro hc<;>try exact oG)|rewrite[nE]|rewrite[nG]|((refine⟨ax,?_⟩))|((refine⟨_,G,?_⟩))|(((with_reducible apply And.intro);focus (simp only[fG,jo,jq,Int.toNat_natCast];omega)))|rewrite[eG]|refine eT hh ?_|refine aK ?_|fail)
    refine⟨⟨(i+1,g+1,up),J,Nat.succ_le_succ hg,a5.out,nx⟩,dec_lt J,aD ?_⟩;repeat' first|apply And.intro|exact aJ|fail
    all_goals try (conv=>whnf)
    all_goals first
     |exact eW
     |exact eG
 have a6:i=last.length:=by omega
 have d5:decide ((i:Int)<((List.map Pl.c last).length:Int))=false:=by rw[List.length_map,a6];simp
 have a8:mJ up known 150 t=true:=by
  have e:=r3.out;have he:=he.out;rw[a6,List.drop_length] at he;rw[←he] at e;exact e
 have XD:up.length≤1000:=by have:=RA.out;omega
 clear a6;replace a8:=Hd.mk a8;repeat' ((conv=>whnf);first|(with_reducible first|apply aM|apply fk<;>intro hc<;>try exact oG)|refine aK ?_|fail)
 refine⟨{p:Nat×Sk // p.1≤150∧O7 p.2 (400+401*p.1)∧p.2.now≤4500+(p.1:Int)∧Hd (mJ up known (150-p.1) p.2=true)},fun⟨(r,z),_⟩=>⟨[(4,.pv (av known)),(11,.ptr 1020 0),(13,.aO 1030 0),(17,.pv (ii r))],1000000000,(1030,.arr 27 0 2 (up.map Pl.c))::skL z⟩,fun⟨(r,_),_⟩=>150-r,⟨⟨(0,t),Nat.zero_le _,r1.out.mono (by omega),(by have:=r2.out;show t.now≤4500+((0:Nat):Int);omega),a8⟩,aD ?_⟩,?_⟩
 ·all_goals exact aJ
 rintro⟨⟨r,z⟩,hr,hz,hn,ho⟩
 simp only at hr hz hn ho;by_cases Cf:r<150
 rotate_left
 ·have bv:r=150:=by omega
  subst bv;exact absurd ho.out (by show ¬false=true;decide)
 have d6:decide ((r:Int)<150)=true:=by simp only[iG];omega
 have eR:IntKind.i64.wrap ((r:Int)+1)=((r+1:Nat):Int):=by rw[bF (by omega) (by omega)];omega
 have ho:=ho.out;rw[show 150-r=(150-(r+1))+1 by omega,Ld] at ho;obtain⟨y,hy⟩:∃y,dD up 400 z=y:=⟨_,rfl⟩;rw[hy] at ho;replace ho:=Hd.mk ho;repeat' ((conv=>whnf);first|(with_reducible first|apply aM|apply fk<;>intro hc<;>try exact oG)|refine aK ?_|fail)
 refine⟨{p:Nat×Sk // p.1≤400∧O7 p.2 (400+401*r+p.1)∧Hd (p.2.now=z.now∧dD up (400-p.1) p.2=y)},fun⟨(k,q),_⟩=>⟨[(4,.pv (av known)),(11,.ptr 1020 0),(13,.aO 1030 0),(17,.pv (ii r)),(18,.pv (ii k))],1000000000,(1030,.arr 27 0 2 (up.map Pl.c))::skL q⟩,fun⟨(k,_),_⟩=>400-k,⟨⟨(0,z),Nat.zero_le _,hz,Hd.mk ⟨rfl,hy⟩⟩,aD ?_⟩,?_⟩
 ·all_goals exact aJ
 rintro⟨⟨k1,q⟩,bq,V,ag⟩
 simp only at bq V ag;by_cases ao:k1<400∧q.bH≠[]
 case' pos=>
  obtain⟨am,a3⟩:=ao;obtain⟨m,rb,hb⟩:∃m rb,q.bH=m::rb:=by
   cases h:q.bH with
   |nil=>exact absurd h a3
   |cons m rb=>exact⟨m,rb,rfl⟩
  have bx:0<q.bH.length:=by rw[hb];exact Nat.zero_lt_succ _
  have d7:decide ((k1:Int)<400)=true:=by simp only[iG];omega
  have d8:decide (((List.map Lk.c q.bH).length:Int)>0)=true:=by rw[List.length_map];simp only[iG];omega
  have eK:IntKind.i64.wrap ((k1:Int)+1)=((k1+1:Nat):Int):=by rw[bF (by omega) (by omega)];omega
  have a4:(List.map Lk.c q.bH)[0]? = some (Lk.c m):=by rw[hb];rfl
  have X:List.drop (Int.toNat 1) (List.map Lk.c q.bH)=List.map Lk.c rb:=by rw[hb];rfl
  have hh:dF prog 36 [av up,.agg [ii m.q.to.node,uu m.q.to.aH]] (bl (aW up m.q.to)):=Oo up m.q.to.node m.q.to.aH;have K:=ag.out.2;rw[show 400-k1=(400-(k1+1))+1 by omega,Rz] at K;have ap:400+401*r+k1≤100000:=by omega
  clear a3;cases ma:m.ask with
  | false=>
    have ae:(m.ask && !aW up m.q.to)=false:=by rw[ma];rfl
    have ad:=JO q V ap up hb ae;have Q:=JN V up hb ae;have Le:=(KC up V.wi).2.2;obtain⟨q2,S⟩:∃t,iw up q=t:=⟨_,rfl⟩;rw[S] at ad Q K Le;clear S ae X hb hh;replace K:=Hd.mk K;replace Le:=Hd.mk Le;repeat' ((conv=>whnf);first|(with_reducible first|apply aM|apply fk<;>intro hc<;>try exact oG)|rewrite[nE]|rewrite[nG]|((refine⟨_,a4,?_⟩))|(((with_reducible apply And.intro);focus (simp only[fG,jo,jq];omega)))|refine eF ad ?_|refine aK ?_|fail)
    refine⟨⟨(k1+1,q2),am,Q,Hd.mk ⟨Le.out.trans ag.out.1,K.out⟩⟩,dec_lt am,aD ?_⟩;repeat' first|apply And.intro|exact aJ|fail
    all_goals try (conv=>whnf)
    all_goals exact eK
  |true=>
  cases mh:aW up m.q.to with
  | true=>
    rw[mh] at hh;have ae:(m.ask && !aW up m.q.to)=false:=by rw[ma,mh];rfl
    have ad:=JO q V ap up hb ae;have Q:=JN V up hb ae;have Le:=(KC up V.wi).2.2;obtain⟨q2,S⟩:∃t,iw up q=t:=⟨_,rfl⟩;rw[S] at ad Q K Le;clear S ae X hb;replace K:=Hd.mk K;replace Le:=Hd.mk Le;repeat' ((conv=>whnf);first|(with_reducible first|apply aM|apply fk<;>intro hc<;>try exact oG)|rewrite[nE]|rewrite[nG]|((refine⟨_,a4,?_⟩))|(((with_reducible apply And.intro);focus (simp only[fG,jo,jq];omega)))|refine eF ad ?_|refine eT hh ?_|refine aK ?_|fail)
    refine⟨⟨(k1+1,q2),am,Q,Hd.mk ⟨Le.out.trans ag.out.1,K.out⟩⟩,dec_lt am,aD ?_⟩;repeat' first|apply And.intro|exact aJ|fail
    all_goals try (conv=>whnf)
    all_goals exact eK
  | false=>
    rw[mh] at hh;obtain⟨Q,S⟩:=aaQ V up hb (by rw[ma,mh];rfl);rw[S] at Q K;clear S hb;replace K:=Hd.mk K;replace X:=Hd.mk X;repeat' ((conv=>whnf);first|(with_reducible first|apply aM|apply fk<;>intro hc<;>try exact oG)|rewrite[nE]|rewrite[nG]|((refine⟨_,a4,?_⟩))|(((with_reducible apply And.intro);focus (simp only[fG,jo,jq];omega)))|refine eT hh ?_|refine aK ?_|fail)
    refine⟨⟨(k1+1,{ q with bH:=rb }),am,Q,Hd.mk ⟨ag.out.1,K.out⟩⟩,dec_lt am,aD ?_⟩;repeat' first|apply And.intro|exact aJ|fail
    all_goals try (conv=>whnf)
    all_goals first
     |exact eK
     |(rw[X.out];exact ay _)
 have bo:q=y:=by
  have e:dD up (400-k1) q=q:=by
   by_cases h:k1<400
   ·exact o7 up _ q (Classical.byContradiction fun h'=>ao ⟨h,h'⟩)
   rw[show 400-k1=0 by omega];rfl
  exact e.symm.trans ag.out.2
 have bz:=ag.out.1;have ho:=ho.out;rw[←bo] at ho;have H8:q.r.af.length≤1000∧∀f∈q.r.af,f.ah.length≤1000:=by
  rcases Int.lt_or_eq_of_le V.v.ep with e|e
  ·have:=V.t.rv e;exact⟨by have:=this.fl;omega,fun f hf=>by have:=(this.fr f hf).2.2;omega⟩
  rw[(V.t.r0 e.symm).2];exact⟨Nat.zero_le _,fun f hf=>by cases hf⟩
 have ap:400+401*r+k1≤100000:=by omega
 have bj:q.r.phase=4→1≤q.r.n∧q.r.n≤1000:=fun e=>by
  have hR:q.first<q.ak:=by
   rcases Int.lt_or_eq_of_le V.v.ep with g|g
   ·exact g
   rw[(V.t.r0 g.symm).1] at e;cases e
  have:=(V.v.rv hR).n1 (by rw[e];decide);omega
 have al:=JK q.r H8.1 H8.2 bj;have az:=aaA q (V.skB ap) V.v (fun e=>(V.t.r0 e).1) H8.1 H8.2;have YJ:=Ry q V ap (by omega) known (by omega);have Q:=(aaR V (by omega) bt).mono (show 400+401*r+k1+1≤400+401*(r+1) by omega);have bm:=(MQ V.wi (q.now+1) known).2.2;have ar:(bU q (q.now+1) known).now≤4500+((r+1:Nat):Int):=by rw[bm];omega
 clear H8 bj bm bo;have hex:decide ((k1:Int)<400)=false∨(decide ((k1:Int)<400)=true∧decide (((List.map Lk.c q.bH).length:Int)>0)=false):=by
  by_cases h:k1<400
  ·have hb:q.bH=[]:=Classical.byContradiction fun h'=>ao ⟨h,h'⟩
   exact .inr ⟨by simp only[iG];omega,by rw[hb];rfl⟩
  exact .inl (by simp only[uS];omega)
 by_cases h4:q.r.phase=4
 ·rw[if_pos h4] at al;clear ho YJ Q ar h4 ao;rcases hex with d7|⟨d7,d8⟩
  all_goals
   repeat' ((conv=>whnf);first|(with_reducible first|apply aM|apply fk<;>intro hc<;>try exact oG)|rewrite[nE]|rewrite[nG]|refine eT al ?_|refine eF az ?_|(apply bX;refine⟨_,lM,?_⟩)|refine aK ?_|fail)
   all_goals exact aJ
 rw[if_neg h4] at al ho;obtain⟨q2,S⟩:∃t,bU q (q.now+1) known=t:=⟨_,rfl⟩;rw[S] at YJ Q ar ho;clear S az h4 ao;replace ho:=Hd.mk ho;replace ar:=Hd.mk ar;rcases hex with d7|⟨d7,d8⟩
 all_goals
  repeat' ((conv=>whnf);first|(with_reducible first|apply aM|apply fk<;>intro hc<;>try exact oG)|rewrite[nE]|rewrite[nG]|refine eT al ?_|refine eF YJ ?_|refine aK ?_|fail)
  refine⟨⟨(r+1,q2),Cf,Q,ar.out,ho⟩,dec_lt Cf,aD ?_⟩;repeat' first|apply And.intro|exact aJ|fail
  all_goals try (conv=>whnf)
 all_goals exact eR
def plR (x:Pl):Prop:=M4 x.node∧gU x.aH
def frR (x:Fr):Prop:=gU x.first∧∀p∈x.ah,plR p
def lgF (l:Lg):Prop:=gU l.id∧M4 l.w∧M4 l.a∧M4 l.closed∧gU l.last∧∀f∈l.af,frR f
theorem lgF.r {l:Lg}(h:lgF l):lgR l:=⟨h.1,h.2.1,h.2.2.1,h.2.2.2.1,h.2.2.2.2.1,fun f G=>(h.2.2.2.2.2 f G).1⟩
section
variable (w:World)
theorem rdI:Rd prog w 3 1 (fun G=>∃i,G=[ii i]∧M4 i):=
 (Qh underlying3 (by kernel_rfl)).imp fun G _ ⟨i,e,h⟩=>⟨i,e,wf_i64 h⟩
theorem rdU:Rd prog w 22 1 (fun G=>∃i,G=[uu i]∧gU i):=
 (Qh underlying22 (by kernel_rfl)).imp fun G _ ⟨i,e,h⟩=>⟨i,e,wf_u64 h⟩
theorem aj6:Rd prog w 29 1 (fun G=>∃l:List UInt8,G=[CR l]):=
 (zV underlying29 (by kernel_rfl) (by decide) (Qh (k:=.u8) underlying5 (by kernel_rfl))).imp fun G _ ⟨rows,e,h⟩=>by
  obtain⟨l,rfl,_⟩:=zW (c:=lD) (R:=fun _=>True) (rows:=rows) fun r J=>by
   obtain⟨_,i,rfl,hi⟩:=h r J;have:=wf_u8 hi;refine⟨UInt8.ofNat i.toNat,?_,trivial⟩;simp only[lD,UInt8.toNat_ofNat'];rw[Nat.mod_eq_of_lt (by omega),Int.toNat_of_nonneg this.1]
  exact⟨l,e⟩
theorem al5:Rd prog w 27 2 (fun G=>∃x:Pl,G=x.c∧plR x):=
 (wR (sp:=[(1,_),(1,_)]) underlying27 (by kernel_rfl) ⟨rfl,rdI w,rfl,rdU w,trivial⟩).imp fun G _ h=>by
  obtain⟨_,_,rfl,_,⟨i,rfl,hi⟩,_,_,rfl,_,⟨j,rfl,J⟩,rfl⟩:=h;exact⟨⟨i,j⟩,rfl,hi,J⟩
theorem aaY:Rd prog w 28 1 (fun G=>∃l:List Pl,G=[av l]∧∀x∈l,plR x):=
 (zV underlying28 (by kernel_rfl) (by decide) (al5 w)).imp fun G _ ⟨J,e,h⟩=>by
  obtain⟨l,rfl,K⟩:=zW fun r Q=>(h r Q).2
  exact⟨l,e,K⟩
theorem al6:Rd prog w 48 2 (fun G=>∃x:Fr,G=x.c∧frR x):=
 (wR (sp:=[(1,_),(1,_)]) underlying48 (by kernel_rfl) ⟨rfl,rdU w,rfl,aaY w,trivial⟩).imp fun G _ h=>by
  obtain⟨_,_,rfl,_,⟨i,rfl,hi⟩,_,_,rfl,_,⟨l,rfl,J⟩,rfl⟩:=h;exact⟨⟨i,l⟩,rfl,hi,J⟩
theorem aj7:Rd prog w 23 1 (fun G=>∃l:List Fr,G=[cB l]∧∀x∈l,frR x):=
 (zV underlying23 (by kernel_rfl) (by decide) (al6 w)).imp fun G _ ⟨J,e,h⟩=>by
  obtain⟨l,rfl,K⟩:=zW fun r Q=>(h r Q).2
  exact⟨l,e,K⟩
theorem alZ:Rd prog w 25 6 (fun G=>∃x:Lg,G=x.c∧lgF x):=
 (wR (sp:=[(1,_),(1,_),(1,_),(1,_),(1,_),(1,_)]) underlying25 (by kernel_rfl) ⟨rfl,rdU w,rfl,rdI w,rfl,rdI w,rfl,aj7 w,rfl,rdI w,rfl,rdU w,trivial⟩).imp fun G _ h=>by
  obtain⟨_,_,rfl,_,⟨i1,rfl,J⟩,_,_,rfl,_,⟨i2,rfl,K⟩,_,_,rfl,_,⟨i3,rfl,Q⟩,_,_,rfl,_,⟨l,rfl,X⟩,_,_,rfl,_,⟨i4,rfl,S⟩,_,_,rfl,_,⟨i5,rfl,V⟩,rfl⟩:=h;exact⟨⟨i1,i2,i3,l,i4,i5⟩,rfl,J,K,Q,S,V,X⟩
theorem aj8:Rd prog w 81 7 (fun G=>∃x:sP,G=x.c∧True):=
 (wR (sp:=[(1,_),(1,_),(1,_),(1,_),(1,_),(1,_),(1,_)]) underlying81 (by kernel_rfl) ⟨rfl,rdI w,rfl,rdI w,rfl,rdI w,rfl,rdI w,rfl,rdI w,rfl,aj6 w,rfl,aaY w,trivial⟩).imp fun G _ h=>by
  obtain⟨_,_,rfl,_,⟨J,rfl,Q⟩,_,_,rfl,_,⟨K,rfl,S⟩,_,_,rfl,_,⟨i3,rfl,V⟩,_,_,rfl,_,⟨i4,rfl,X⟩,_,_,rfl,_,⟨i5,rfl,h5⟩,_,_,rfl,_,⟨b,rfl⟩,_,_,rfl,_,⟨g,rfl,hg⟩,rfl⟩:=h;exact⟨⟨J,K,i3,i4,i5,b,g⟩,rfl,trivial⟩
theorem ahu:Rd prog w 75 1 (fun G=>∃l:List sP,G=[Nn l]∧∀x∈l,True):=
 (zV underlying75 (by kernel_rfl) (by decide) (aj8 w)).imp fun G _ ⟨J,e,h⟩=>by
  obtain⟨l,rfl,K⟩:=zW fun r Q=>(h r Q).2
  exact⟨l,e,K⟩
end
end Go.Proofs.YtfoiekbkkbnpkaaGreat.Tb
end
