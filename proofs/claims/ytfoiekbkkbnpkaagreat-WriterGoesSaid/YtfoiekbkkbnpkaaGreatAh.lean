/-
  Conditions: none. A framework for walks: abstract values, memory, and conditions that suffice; the chapters in plain terms.
-/
import Derived.Test.YtfoiekbkkbnpkaaGreatAf
set_option linter.unusedSectionVars false
set_option linter.unusedVariables false
set_option linter.unusedSimpArgs false
section
namespace Go.AX
def j6 (known:List Pl)(t:Int)(w:Wr):Wr:=
 let w1:=(dw w t).2.foldl (nu known) (dw w t).1
 let k:=j4 w1 5 known
 if k.2.2 then (bM k.1 t true).2.foldl (nu known) (bM k.1 t true).1 else k.1
structure uh (known:List Pl)(w:Int):Prop where
 nd:(known.map (·.node)).Nodup
 lo:w≤(known.length:Int)
 ok:∀p∈known,rY p=true
structure XD (known:List Pl)(m t0:Int)(j:Nat)(w:Wr):Prop where
 go:Pw m w
 bd:w.bad=[]
 tm:∀x∈w.waits,x.born=t0∧x.since=t0+((3*(j / 3):Nat):Int)
 ack:3≤j→∀x∈w.waits,∀p∈bJ w x.n,p∈known→p∈x.from_
 cnt:w.l.aj.length+pI known (aO w.l.aj).ah≤6
theorem LF {l:List Fr}{n:Int}{f:Fr}(h:gT l n=some f):f∈l:=(tX _ _ _ h).1
theorem LG {w:Wr}{n:Int}{p:Pl}(h:p∈bJ w n):kH w p=true:=by
 unfold bJ setOf at h;cases hf:gT w.l.aj n with
 |none=>rw[hf] at h;cases h
 | some f=>
   rw[hf] at h;simp only at h;split at h
   ·rename_i hc;unfold kH;rw[List.any_eq_true];refine⟨f,LF hf,dF.2 ?_⟩;unfold dZ at h;obtain⟨i,_,rfl⟩:=List.mem_map.1 h;have:0<f.ah.length:=by omega
    rw[getElem!_pos f.ah _ (Nat.mod_lt _ this)];exact List.getElem_mem _
   cases h
theorem Jv {m:Int}{w w':Wr}(h:Pw m w)(hf:w'.fenced=w.fenced)(hc:w'.change=w.change)(hs:w'.sure=w.sure)(hl:w'.l=w.l)(hw:w'.waits.map gy=w.waits.map gy):Pw m w':=by
 have hlen:w'.waits.length=w.waits.length:=by simpa using congrArg List.length hw
 refine⟨by rw[hf];exact h.LD,by rw[hc];exact h.AA,by rw[hs];exact h.s0,by rw[hs,hlen];exact h.len,fun i hi=>?_,by rw[hl];exact h.a1,by rw[hl];exact h.aw,by rw[hl];exact h.fr,by rw[hl,hs];exact h.last,fun x hx=>?_⟩
 ·have:(w'.waits.map gy)[i]? = (w.waits.map gy)[i]? :=by rw[hw]
  rw[List.getElem?_map,List.getElem?_map,List.getElem?_eq_getElem hi,List.getElem?_eq_getElem (by omega)] at this;have:=congrArg Prod.fst (Option.some.inj this);simp only[gy] at this;rw[this,h.num,hs]
 have e:(w'.waits.map gy).head? = (w.waits.map gy).head? :=by rw[hw]
 rw[List.head?_map,List.head?_map,hx] at e;cases hy:w.waits.head? with
 |none=>rw[hy] at e;cases e
 | some y=>
   rw[hy] at e;simp only[Option.map_some,Option.some.injEq,gy,Prod.mk.injEq] at e;have:=h.head y hy;unfold bJ at this ⊢;rw[hl,e.1,e.2.2];exact this
theorem xB {m:Int}{known:List Pl}{w:Wr}(h:Pw m w)(t:Int):∃w1,w1=(dw w t).2.foldl (nu known) (dw w t).1∧Pw m w1∧eG (dw w t).1 w1∧w1.l=w.l ∧
  (∀x'∈w1.waits,∃x∈w.waits,x'.n=x.n∧x'.born=x.born∧x'.since=(Gn t x).since∧(∀p∈x.from_,p∈x'.from_)∧(eF t x.since 3=true→∀p∈bJ w x.n,p∈known→p∈x'.from_)):=by
 have T:=sQ (w:=w) (t:=t) (by rw[h.LD];decide);have hw:(dw w t).1.waits=w.waits.map (Gn t):=by rw[T.eq];simp
 have hl:(dw w t).1.l=w.l:=by rw[T.eq]
 have he:(dw w t).1.aX=w.aX:=by rw[T.eq]
 have hcore:(dw w t).1.waits.map gy=w.waits.map gy:=by
  rw[hw,List.map_map];refine List.map_congr_left fun x _=>?_
  simp only[Function.comp,Gn];split<;>rfl
 have hg:Pw m (dw w t).1:=Jv h (by rw[T.eq]) (by rw[T.eq]) (by rw[T.eq]) hl hcore;obtain⟨a,b,c⟩:=vE (known:=known) (l:=(dw w t).2) hg;refine⟨_,rfl,a,b,b.l.trans hl,fun x' hx'=>?_⟩;obtain⟨y,hy,e1,e2,e3,_,e5⟩:=b.wt x' hx';rw[hw] at hy;obtain⟨x,hx,rfl⟩:=List.mem_map.1 hy;have hc:(Gn t x).n=x.n∧(Gn t x).born=x.born∧(Gn t x).from_=x.from_:=by unfold Gn;split<;>exact⟨rfl,rfl,rfl⟩
 refine⟨x,hx,by rw[e1,hc.1],by rw[e2,hc.2.1],e3,fun p hp=>e5 p (by rw[hc.2.2];exact hp),fun hgn p hp hk=>?_⟩;by_cases hin:p∈x.from_
 ·exact e5 p (by rw[hc.2.2];exact hin)
 have hq:(⟨p,1,w.l.id,x.n,w.aX,w.sure,0,x.body,[]⟩:Rq)∈(dw w t).2:=by
  rw[T.out];refine⟨x,by simpa using hx,hgn,?_⟩;unfold gM;refine List.mem_map.2 ⟨p,List.mem_filter.2 ⟨hp,?_⟩,rfl⟩;rw[Bool.not_eq_true'];cases hb:bI x.from_ p with
  |false=>rfl
  |true=>exact absurd (dF.1 hb) hin
 refine c _ hq rfl (by rw[hl]) (by rw[he]) ?_ (dF.2 hk) x' hx' (by rw[e1,hc.1]);have:=LG hp;unfold kH at this ⊢;rw[hl];exact this
theorem Nv {l:List Pl}(h:∀p,p∉l):l=[]:=List.eq_nil_iff_forall_not_mem.2 h
theorem Jw {w:Wr}{known:List Pl}(h:w.bad=[]):j4 w 5 known=(w,jI,false):=by
 unfold j4;rw[if_pos (.inr (.inr h))]
theorem Tz {known:List Pl}{m t0:Int}{j:Nat}{w:Wr}(h:XD known m t0 j w)(hj:j+1<9):XD known m t0 (j+1) (j6 known (t0+((j+1:Nat):Int)) w)∧(j6 known (t0+((j+1:Nat):Int)) w).l=w.l:=by
 obtain⟨w1,e,g,mf,hl,hx⟩:=xB (known:=known) h.go (t0+((j+1:Nat):Int));have T:=sQ (w:=w) (t:=t0+((j+1:Nat):Int)) (by rw[h.go.LD];decide);have hbad:w1.bad=[]:=by
  rw[mf.bad];refine Nv fun p hp=>?_
  rw[T.bad,h.bd] at hp;rcases hp with hp|⟨x,CB,hg,_⟩
  ·cases hp
  have:=(h.tm x (List.mem_of_mem_take CB)).1;unfold eF at hg;rw[this,decide_eq_true_eq] at hg;split at hg<;>omega
 have hr:j6 known (t0+((j+1:Nat):Int)) w=w1:=by
  unfold j6;simp only[←e];rw[Jw hbad];rfl
 rw[hr];refine⟨?_,hl⟩;have Y2:∀x∈w.waits,(eF (t0+((j+1:Nat):Int)) x.since 3=true↔(j+1)%3=0):=fun x CB=>by
  have:=(h.tm x CB).2;unfold eF;rw[this,decide_eq_true_eq];have:(3*(j / 3):Nat)≤j:=by omega
  rw[if_neg (by omega)];omega
 refine⟨g,hbad,fun x' hx'=>?_,fun h3 x' hx' p hp hk=>?_,by rw[hl];exact h.cnt⟩
 ·obtain⟨x,CB,e1,e2,e3,_,_⟩:=hx x' hx';obtain⟨t1,t2⟩:=h.tm x CB;refine⟨by rw[e2,t1],?_⟩;rw[e3];unfold Gn;by_cases hg:eF (t0+((j+1:Nat):Int)) x.since 3=true
  ·rw[if_pos hg];have:=(Y2 x CB).1 hg;simp only;omega
  rw[if_neg hg,t2];have:¬(j+1)%3=0:=fun e=>hg ((Y2 x CB).2 e)
  omega
 obtain⟨x,CB,e1,_,_,e4,e5⟩:=hx x' hx';have hp2:p∈bJ w x.n:=by
  unfold bJ at hp ⊢;rw[hl] at hp;rw[←e1];exact hp
 by_cases h33:3≤j
 ·exact e4 p (h.ack h33 x CB p hp2 hk)
 exact e5 ((Y2 x CB).2 (by omega)) p hp2 hk
theorem LH {l:List Fr}{f:Fr}{n:Int}(h:l.getLast? = some f)(hf:f.first≤n):gT l n=some f:=by
 obtain⟨r,hr⟩:=List.getLast?_eq_some_iff.1 h;unfold gT jZ;rw[hr,List.foldl_append];simp[hf]
theorem LJ {b:List Pl}(hb:b.Nodup){k W:Nat}(h0:0<b.length)(hW:W≤b.length):(dZ b k W).Nodup:=by
 unfold dZ;rw[List.nodup_iff_pairwise_ne,List.pairwise_map];rw[List.nodup_iff_pairwise_ne,List.pairwise_iff_getElem] at hb;have:(List.range W).Pairwise (· < ·):=List.pairwise_lt_range;refine List.Pairwise.imp_of_mem (fun {i j} hi hj hij e=>?_) this;rw[List.mem_range] at hi hj;have hi2:=Nat.mod_lt (k+i) h0;have hj2:=Nat.mod_lt (k+j) h0;rw[getElem!_pos b _ hi2,getElem!_pos b _ hj2] at e;have hne:(k+i)%b.length≠(k+j)%b.length:=by
  intro e2;have:=Nat.sub_mod_eq_zero_of_mod_eq e2.symm;rw[show k+j-(k+i)=j-i by omega,Nat.mod_eq_of_lt (by omega)] at this;omega
 rcases Nat.lt_or_gt_of_ne hne with h|h
 ·exact hb _ _ hi2 hj2 h e
 exact hb _ _ hj2 hi2 h e.symm
theorem Wj {set f:List Pl}(hnd:set.Nodup)(hall:∀p∈set,p∈f):Le set f=set.length:=by
 have:∀k,k≤set.length→om set f k=k:=by
  intro k;induction k with
  |zero=>intro _;rfl
  | succ k ih=>
    intro hk;rw[yJ set f k (by omega),ih (by omega),if_pos];rw[Bool.and_eq_true];refine⟨?_,?_⟩
    ·rw[List.any_eq_true];exact⟨set[k],hall _ (List.getElem_mem _),by simp⟩
    rw[Bool.not_eq_true',List.any_eq_false];intro x hx e;obtain⟨i,hi,rfl⟩:=List.getElem_of_mem hx;rw[List.length_take] at hi;rw[List.getElem_take] at e;rw[List.nodup_iff_pairwise_ne,List.pairwise_iff_getElem] at hnd;exact hnd i k (by omega) (by omega) (by omega) (by simpa using e)
 exact this _ (Nat.le_refl _)
theorem kX {l:List Fr}{w:Int}(h:bL w l=true):∃f,l.getLast? = some f∧aO l=f∧f∈l∧jY w f=true:=by
 simp only[bL,Bool.and_eq_true,bR,decide_eq_true_eq,List.all_eq_true] at h;obtain⟨⟨h1,h2⟩,h3,h4,h5⟩:=h;cases hl:l.getLast? with
 | none=>
   have:l=[]:=by simpa using hl
   rw[this] at h1;simp at h1
 |some f=>exact⟨f,rfl,by simp[aO,hl],List.mem_of_getLast? hl,h4 f (List.mem_of_getLast? hl)⟩
theorem blocked {m:Int}{w:Wr}(h:Pw m w){x:Wt}(hx:w.waits.head? = some x):∃y∈bJ w x.n,y∉x.from_∧y∈(aO w.l.aj).ah:=by
 obtain⟨f,hf,e,hm,hg⟩:=kX h.fr;have hxn:x.n=w.sure+1:=by
  cases hw:w.waits with
  |nil=>rw[hw] at hx;cases hx
  | cons y r=>
    have hlt:0<w.waits.length:=by rw[hw];simp
    have:=h.num 0 hlt;have e0:w.waits[0]=x:=by
     rw[hw] at hx;simp only[List.head?_cons,Option.some.injEq] at hx;simp only[hw,List.getElem_cons_zero];exact hx
    rw[e0] at this;omega
 simp only[jY,Bool.and_eq_true,bR,decide_eq_true_eq,List.all_eq_true] at hg;obtain⟨⟨g1,g2⟩,⟨g3,g4⟩,g5,g6⟩:=hg;have hla:=h.last;rw[e] at hla;have h1:=h.a1;have h2:=h.aw;have hfa:gT w.l.aj x.n=some f:=LH hf (by omega);have hset:bJ w x.n=dZ f.ah ((x.n-f.first)%f.ah.length).toNat w.l.w.toNat:=by
  unfold bJ setOf;rw[hfa];simp only;rw[if_pos ⟨by omega,g3⟩]
 have hb:f.ah.Nodup:=by
  rw[List.nodup_iff_pairwise_ne] at g6 ⊢;rw[List.pairwise_map] at g6;exact g6.imp fun h e=>h (by rw[e])
 have hin:∀y∈bJ w x.n,y∈(aO w.l.aj).ah:=fun y hy=>by
  rw[hset] at hy;unfold dZ at hy;obtain⟨i,_,rfl⟩:=List.mem_map.1 hy;rw[e,getElem!_pos f.ah _ (Nat.mod_lt _ (by omega))];exact List.getElem_mem _
 refine Classical.byContradiction fun hno=>?_
 have hall:∀y∈bJ w x.n,y∈x.from_:=fun y hy=>Classical.byContradiction fun hn=>hno ⟨y,hy,hn,hin y hy⟩
 have hnd:(bJ w x.n).Nodup:=by rw[hset];exact LJ hb (by omega) (by omega)
 have hc:=Wj hnd hall;have hlen:(bJ w x.n).length=w.l.w.toNat:=by rw[hset];simp[dZ]
 have:=h.head x hx;unfold fT at this;rw[hc,hlen,Bool.and_eq_false_iff,decide_eq_false_iff_not,decide_eq_false_iff_not] at this;rcases this with g|g<;>omega
theorem CF (l:List Fr)(f:Fr):aO (bn l f)=f:=by unfold bn aO;simp
theorem Nw (l:List Fr)(f:Fr):(bn l f).length≤l.length+1:=by
 unfold bn;split<;>simp
theorem Ny {w:Int}{l:List Fr}{f:Fr}(h:bL w l=true)(hf:jY w f=true)(hle:(aO l).first≤f.first)(hlen:(bn l f).length≤6):bL w (bn l f)=true:=by
 obtain⟨g,hg,e,hm,_⟩:=kX h;obtain⟨r,hr⟩:=List.getLast?_eq_some_iff.1 hg;simp only[bL,Bool.and_eq_true,bR,decide_eq_true_eq,List.all_eq_true] at h ⊢;obtain⟨⟨h1,h2⟩,h3,h4,h5⟩:=h;rw[e] at hle;have hpos:1≤(bn l f).length:=by unfold bn;simp
 refine⟨⟨by omega,by omega⟩,?_⟩;unfold bn;rw[e];split
 ·rename_i he;rw[beq_iff_eq] at he;rw[hr,List.dropLast_concat];rw[hr] at h3 h4 h5;rw[List.pairwise_append] at h5;refine⟨?_,fun x hx=>?_,?_⟩
  ·cases r with
   | nil=>
     simp only[List.nil_append,oh,beq_iff_eq] at h3 ⊢;omega
   |cons a r=>exact h3
  ·rcases List.mem_append.1 hx with hx|hx
   ·exact h4 x (List.mem_append_left _ hx)
   rw[List.mem_singleton] at hx;subst hx;exact hf
  rw[List.pairwise_append];refine⟨h5.1,by simp,fun a ha b hb=>?_⟩;rw[List.mem_singleton] at hb;subst hb;have:=h5.2.2 a ha g (by simp);omega
 rename_i he;rw[beq_iff_eq] at he;refine⟨?_,fun x hx=>?_,?_⟩
 ·rw[hr] at h3 ⊢;cases r with
  |nil=>exact h3
  |cons a r=>exact h3
 ·rcases List.mem_append.1 hx with hx|hx
  ·exact h4 x hx
  rw[List.mem_singleton] at hx;subst hx;exact hf
 rw[List.pairwise_append];refine⟨h5,by simp,fun a ha b hb=>?_⟩;rw[List.mem_singleton] at hb;subst hb;rw[hr] at h5 ha;rw[List.pairwise_append] at h5;rcases List.mem_append.1 ha with ha|ha
 ·have:=h5.2.2 a ha g (by simp);omega
 rw[List.mem_singleton] at ha;subst ha;omega
theorem Nz {known l:List Pl}{p:Pl}(h:p∈l)(hp:bI known p=false):1≤pI known l:=by
 unfold pI;exact List.length_pos_of_mem (List.mem_filter.2 ⟨h,by rw[hp];rfl⟩)
theorem TA {known:List Pl}{m t0:Int}{w:Wr}(hK:uh known w.l.w)(Y3:m≤8)(h:XD known m t0 8 w)(hwt:w.waits≠[]) :
  XD known m (t0+9) 0 (j6 known (t0+9) w)∧pI known (aO (j6 known (t0+9) w).l.aj).ah<pI known (aO w.l.aj).ah∧(j6 known (t0+9) w).l.w=w.l.w:=by
 obtain⟨w1,e,g,mf,hl,hx⟩:=xB (known:=known) h.go (t0+9);have T:=sQ (w:=w) (t:=t0+9) (by rw[h.go.LD];decide);have TB:∀x∈w.waits,eF (t0+9) x.born 9=true:=fun x CB=>by
  have:=(h.tm x CB).1;unfold eF;rw[this,decide_eq_true_eq,if_neg (by omega)];omega
 have hb:∀p,p∈w1.bad↔∃x∈w.waits,eF (t0+9) x.born 9=true∧p∈(aO w.l.aj).ah∧p∈bJ w x.n∧p∉x.from_:=fun p=>by
  rw[mf.bad,T.bad,h.bd];simp
 have TF:∀p,bI w1.bad p=true→bI known p=false:=fun p hp=>by
  obtain⟨x,CB,_,_,h2,h3⟩:=(hb p).1 (dF.1 hp);cases hk:bI known p with
  |false=>rfl
  |true=>exact absurd (h.ack (by decide) x CB p h2 (dF.1 hk)) h3
 obtain⟨x0,hx0⟩:∃x0,w.waits.head? = some x0:=by
  cases hw:w.waits with
  |nil=>exact absurd hw hwt
  |cons x r=>exact⟨x,rfl⟩
 have TG:x0∈w.waits:=List.mem_of_head? hx0;obtain⟨y,hy1,hy2,Y4⟩:=blocked h.go hx0;have hyb:y∈w1.bad:=(hb y).2 ⟨x0,TG,TB x0 TG,Y4,hy1,hy2⟩;have hyu:=TF y (dF.2 hyb);have hup:=Nz Y4 hyu;obtain⟨f,hf,ef,hfm,NA⟩:=kX h.go.fr;have Ah:=NA;simp only[jY,Bool.and_eq_true,bR,decide_eq_true_eq,List.all_eq_true] at Ah;obtain⟨⟨k1,k2⟩,⟨k3,k4⟩,k5,k6⟩:=Ah;have ren:=Ju (w:=w.l.w) (bad:=w1.bad) hK.nd hK.lo TF (f:=aO w.l.aj) (by rw[ef];exact k6) (by rw[ef];exact k3) (by rw[ef];omega) ⟨y,Y4,dF.2 hyb⟩;obtain⟨r1,r2,r3,r4,r5,r6⟩:=ren;obtain⟨F,hF⟩:∃F,F=(mR w1 5 known).1:=⟨_,rfl⟩;have U7:F.ah=(gU (aO w.l.aj) w.l.w 5 w1.bad known).1.ah:=by rw[hF];unfold mR;rw[hl]
 have hFf:F.first=w1.sure+1:=by rw[hF];rfl
 have hok:(mR w1 5 known).2=true:=by unfold mR;rw[hl];exact r1
 have hcnt:=h.cnt;have ny:j4 w1 5 known=({ w1 with change:=F },F,true):=by
  unfold j4;rw[if_neg (by
   rintro (g1|g1|g1)
   ·rw[g.LD] at g1;cases g1
   ·exact g1 g.AA
   ·rw[g1] at hyb;cases hyb),hok,if_neg (by
   rw[hl];simp only[Bool.not_true,Bool.false_or,Bool.and_eq_true,decide_eq_true_eq,not_and];intro g1;omega),←hF]
 have hs1:=mf.su;have abx:w1.sure≤m:=by have:=g.len;omega
 have hs0:=g.s0;have TH:jY w.l.w F=true:=by
  simp only[jY,Bool.and_eq_true,bR,decide_eq_true_eq,List.all_eq_true];refine⟨⟨by omega,by omega⟩,⟨by rw[U7];exact r3,by rw[U7];omega⟩,fun p hp=>?_,by rw[U7];exact r2⟩;rw[U7] at hp;rcases r5 p hp with hp|hp
  ·exact hK.ok p hp
  rw[ef] at hp;exact k5 p hp
 have hlen:=Nw w.l.aj F;have TJ:bL w.l.w (bn w.l.aj F)=true:=Ny h.go.fr TH (by have:=g.last;rw[hl] at this;omega) (by omega);obtain⟨w2,hw2⟩:∃w2:Wr,w2={ w1 with l:={ w1.l with aj:=bn w1.l.aj F },change:=jI,bad:=[] }:=⟨_,rfl⟩;have gm:=Nt (m:=m) (w:=w2) (by rw[hw2];exact g.LD) (by rw[hw2];rfl) (by rw[hw2];exact g.s0) (by rw[hw2];exact g.len) (by rw[hw2];exact g.num) (by rw[hw2];exact g.a1) (by rw[hw2];exact g.aw)
  (by rw[hw2];show bL w1.l.w (bn w1.l.aj F)=true;rw[hl];exact TJ) (by rw[hw2];show (aO (bn w1.l.aj F)).first≤w1.sure+1;rw[CF,hFf];exact Int.le_refl _)
 obtain⟨gm1,gm2⟩:=gm;have hch:jr { w1 with change:=F } true=dR w2:=by unfold jr;rw[hw2];rfl
 obtain⟨w3,hw3⟩:∃w3:Wr,w3={ dR w2 with waits:=(dR w2).waits.map fun x=>{ x with born:=t0+9,since:=t0+9 } }:=⟨_,rfl⟩;have g3:Pw m w3:=Jv gm1 (by rw[hw3]) (by rw[hw3]) (by rw[hw3]) (by rw[hw3]) (by rw[hw3];simp only[List.map_map];rfl);have xX:j6 known (t0+9) w=((dR w2).waits.flatMap (gM (dR w2))).foldl (nu known) w3:=by
  unfold j6;simp only[←e];rw[ny];simp only[if_true];unfold bM;rw[if_neg (by show ¬F.first=0;omega),hch,hw3]
 rw[xX];obtain⟨a,b,_⟩:=vE (known:=known) (l:=(dR w2).waits.flatMap (gM (dR w2))) g3;have hl3:w3.l={ w.l with aj:=bn w.l.aj F }:=by rw[hw3];show (dR w2).l=_;rw[gm2.l,hw2,hl]
 have Qw:pI known F.ah<pI known (aO w.l.aj).ah:=by rw[U7];exact r6
 refine⟨⟨a,?_,fun x' hx'=>?_,fun h3=>absurd h3 (by decide),?_⟩,?_,?_⟩
 ·rw[b.bad,hw3];show (dR w2).bad=[]
  rw[gm2.bad,hw2]
 ·obtain⟨x,CB,_,e2,e3,_⟩:=b.wt x' hx';rw[hw3] at CB;obtain⟨z,_,rfl⟩:=List.mem_map.1 CB;exact⟨e2,by rw[e3];simp⟩
 ·rw[b.l,hl3];show (bn w.l.aj F).length+pI known (aO (bn w.l.aj F)).ah≤6
  rw[CF];omega
 ·rw[b.l,hl3];show pI known (aO (bn w.l.aj F)).ah<_
  rw[CF];exact Qw
 rw[b.l,hl3]
structure Fe (l:Lg)(m:Int)(w:Wr):Prop where
 el:w.l=l
 LD:w.fenced=0
 AA:w.change=jI
 sure:w.sure=0
 bad:w.bad=[]
 next:w.next=m+1
 len:(w.waits.length:Int)=m
 num:∀i (h:i<w.waits.length),w.waits[i].n=1+i
 fr:∀x∈w.waits,x.from_=[]∧x.born=0∧x.since=0
theorem TK {l:Lg}{e:Int}{w:Wr}(h:sJ l e=some w):Fe l 0 w:=by
 unfold sJ at h;split at h
 ·have:=Option.some.inj h;subst this;exact⟨rfl,rfl,rfl,rfl,rfl,rfl,rfl,fun i hi=>by simp at hi,fun x hx=>by simp at hx⟩
 cases h
theorem Py {l:Lg}{m:Int}{w:Wr}(h:Fe l m w)(b:List UInt8)(hc:(fV w 0 b).2.2=0):Fe l (m+1) (fV w 0 b).1∧m+1≤8:=by
 have hf:=h.LD;have hn:=h.next;have hl:=h.len;unfold fV at hc ⊢;rw[if_neg (by omega)] at hc ⊢;by_cases h2:(b.length:Int)>2048
 ·rw[if_pos h2] at hc;cases hc
 rw[if_neg h2] at hc ⊢;by_cases h3:w.next>8
 ·rw[if_pos h3] at hc;cases hc
 rw[if_neg h3];refine⟨⟨h.el,hf,h.AA,h.sure,h.bad,by show w.next+1=_;omega,by simp only[List.length_append,List.length_singleton];omega,fun i hi=>?_,fun x hx=>?_⟩,by omega⟩
 ·simp only[List.length_append,List.length_singleton] at hi;by_cases hlt:i<w.waits.length
  ·rw[List.getElem_append_left hlt];exact h.num i hlt
  have hi2:i=w.waits.length:=by omega
  subst hi2;rw[List.getElem_append_right (Nat.le_refl _)];simp only[Nat.sub_self,List.getElem_cons_zero];omega
 rcases List.mem_append.1 hx with hx|hx
 ·exact h.fr x hx
 rw[List.mem_singleton] at hx;subst hx;exact⟨rfl,rfl,rfl⟩
theorem Wm (set:List Pl):Le set []=0:=by
 have:∀k,om set [] k=0:=by
  intro k;induction k with
  |zero=>rfl
  | succ k ih=>
    unfold om;rw[ih];split<;>simp
 exact this _
theorem Pz {known:List Pl}{l:Lg}{m:Int}{w:Wr}(h:Fe l m w)(hl:eH l=true)(h1:l.aj.length≤1):XD known m 0 0 w:=by
 have hl2:=hl;simp only[eH,Bool.and_eq_true,bR,decide_eq_true_eq] at hl2;obtain⟨⟨a1,a2⟩,⟨a3,a4⟩,a5,a6,⟨a7,a8⟩,a9⟩:=hl2;obtain⟨f,hf,ef,hfm,NA⟩:=kX a6;have Ah:=NA;simp only[jY,Bool.and_eq_true,bR,decide_eq_true_eq,List.all_eq_true] at Ah;obtain⟨⟨k1,k2⟩,⟨k3,k4⟩,k5,k6⟩:=Ah;have KW:f.first=1:=by
  simp only[bL,Bool.and_eq_true,bR,decide_eq_true_eq] at a6;cases hll:l.aj with
  |nil=>rw[hll] at hf;cases hf
  | cons g r=>
    rw[hll] at h1 hf a6;have hr:r=[]:=by
     cases r with
     |nil=>rfl
     |cons a r=>simp at h1
    subst hr;simp only[List.getLast?_singleton,Option.some.injEq] at hf;subst hf;have:=a6.2.1;simpa[oh] using this
 refine⟨⟨h.LD,by rw[h.AA];rfl,by rw[h.sure];exact Int.le_refl _,by rw[h.sure,h.len];omega,fun i hi=>by rw[h.num i hi,h.sure];omega,by rw[h.el];exact a3,by rw[h.el];exact a4,by rw[h.el];exact a6,by rw[h.el,ef,KW,h.sure];omega,fun x hx=>?_⟩,h.bad,fun x hx=>?_,fun h3=>absurd h3 (by decide),?_⟩
 ·rw[(h.fr x (List.mem_of_head? hx)).1];unfold fT;rw[Wm,h.el,Bool.and_eq_false_iff];right
  rw[decide_eq_false_iff_not];omega
 ·obtain⟨_,b1,b2⟩:=h.fr x hx;exact⟨b1,by rw[b2];rfl⟩
 rw[h.el,ef];have:pI known f.ah≤f.ah.length:=List.length_filter_le _ _;omega
theorem Wn {known:List Pl}{m t0:Int}{w:Wr}(hK:uh known w.l.w)(Y3:m≤8)(h:XD known m t0 8 w)(hwt:w.waits≠[]) :
  ∃w1 F,w1=(dw w (t0+9)).2.foldl (nu known) (dw w (t0+9)).1∧w1.l=w.l∧j4 w1 5 known=({ w1 with change:=F },F,true)∧bL w.l.w (bn w.l.aj F)=true∧(aO w.l.aj).first≤F.first∧F.first≠0:=by
 obtain⟨w1,e,g,mf,hl,hx⟩:=xB (known:=known) h.go (t0+9);have T:=sQ (w:=w) (t:=t0+9) (by rw[h.go.LD];decide);have TB:∀x∈w.waits,eF (t0+9) x.born 9=true:=fun x CB=>by
  have:=(h.tm x CB).1;unfold eF;rw[this,decide_eq_true_eq,if_neg (by omega)];omega
 have hb:∀p,p∈w1.bad↔∃x∈w.waits,eF (t0+9) x.born 9=true∧p∈(aO w.l.aj).ah∧p∈bJ w x.n∧p∉x.from_:=fun p=>by
  rw[mf.bad,T.bad,h.bd];simp
 have TF:∀p,bI w1.bad p=true→bI known p=false:=fun p hp=>by
  obtain⟨x,CB,_,_,h2,h3⟩:=(hb p).1 (dF.1 hp);cases hk:bI known p with
  |false=>rfl
  |true=>exact absurd (h.ack (by decide) x CB p h2 (dF.1 hk)) h3
 obtain⟨x0,hx0⟩:∃x0,w.waits.head? = some x0:=by
  cases hw:w.waits with
  |nil=>exact absurd hw hwt
  |cons x r=>exact⟨x,rfl⟩
 have TG:x0∈w.waits:=List.mem_of_head? hx0;obtain⟨y,hy1,hy2,Y4⟩:=blocked h.go hx0;have hyb:y∈w1.bad:=(hb y).2 ⟨x0,TG,TB x0 TG,Y4,hy1,hy2⟩;have hyu:=TF y (dF.2 hyb);have hup:=Nz Y4 hyu;obtain⟨f,hf,ef,hfm,NA⟩:=kX h.go.fr;have Ah:=NA;simp only[jY,Bool.and_eq_true,bR,decide_eq_true_eq,List.all_eq_true] at Ah;obtain⟨⟨k1,k2⟩,⟨k3,k4⟩,k5,k6⟩:=Ah;have ren:=Ju (w:=w.l.w) (bad:=w1.bad) hK.nd hK.lo TF (f:=aO w.l.aj) (by rw[ef];exact k6) (by rw[ef];exact k3) (by rw[ef];omega) ⟨y,Y4,dF.2 hyb⟩;obtain⟨r1,r2,r3,r4,r5,r6⟩:=ren;obtain⟨F,hF⟩:∃F,F=(mR w1 5 known).1:=⟨_,rfl⟩;have U7:F.ah=(gU (aO w.l.aj) w.l.w 5 w1.bad known).1.ah:=by rw[hF];unfold mR;rw[hl]
 have hFf:F.first=w1.sure+1:=by rw[hF];rfl
 have hok:(mR w1 5 known).2=true:=by unfold mR;rw[hl];exact r1
 have hcnt:=h.cnt;have ny:j4 w1 5 known=({ w1 with change:=F },F,true):=by
  unfold j4;rw[if_neg (by
   rintro (g1|g1|g1)
   ·rw[g.LD] at g1;cases g1
   ·exact g1 g.AA
   ·rw[g1] at hyb;cases hyb),hok,if_neg (by
   rw[hl];simp only[Bool.not_true,Bool.false_or,Bool.and_eq_true,decide_eq_true_eq,not_and];intro g1;omega),←hF]
 have hs1:=mf.su;have abx:w1.sure≤m:=by have:=g.len;omega
 have hs0:=g.s0;have TH:jY w.l.w F=true:=by
  simp only[jY,Bool.and_eq_true,bR,decide_eq_true_eq,List.all_eq_true];refine⟨⟨by omega,by omega⟩,⟨by rw[U7];exact r3,by rw[U7];omega⟩,fun p hp=>?_,by rw[U7];exact r2⟩;rw[U7] at hp;rcases r5 p hp with hp|hp
  ·exact hK.ok p hp
  rw[ef] at hp;exact k5 p hp
 have hlen:=Nw w.l.aj F;have TJ:bL w.l.w (bn w.l.aj F)=true:=Ny h.go.fr TH (by have:=g.last;rw[hl] at this;omega) (by omega);refine⟨w1,F,e,hl,ny,TJ,?_,by omega⟩;have:=g.last;rw[hl] at this;omega
theorem TL {known:List Pl}{m t0:Int}{j:Nat}{w:Wr}(h:XD known m t0 j w)(hj:j+1<9) :
  ∃w1,w1=(dw w (t0+((j+1:Nat):Int))).2.foldl (nu known) (dw w (t0+((j+1:Nat):Int))).1∧j4 w1 5 known=(w1,jI,false):=by
 obtain⟨w1,e,g,mf,hl,hx⟩:=xB (known:=known) h.go (t0+((j+1:Nat):Int));have T:=sQ (w:=w) (t:=t0+((j+1:Nat):Int)) (by rw[h.go.LD];decide);have hbad:w1.bad=[]:=by
  rw[mf.bad];refine Nv fun p hp=>?_
  rw[T.bad,h.bd] at hp;rcases hp with hp|⟨x,CB,hg,_⟩
  ·cases hp
  have:=(h.tm x (List.mem_of_mem_take CB)).1;unfold eF at hg;rw[this,decide_eq_true_eq] at hg;split at hg<;>omega
 exact⟨w1,e,Jw hbad⟩
structure TM (known:List Pl)(m:Int)(r:Nat)(w:Wr):Prop where
 ex:∃(t0:Int) (j:Nat),XD known m t0 j w∧j≤8∧t0+(j:Int)=r∧9*(pI known (aO w.l.aj).ah+1)+r≤60+j
 k:uh known w.l.w
theorem TM.end_ {known:List Pl}{m:Int}{w:Wr}(h:TM known m 60 w):False:=by
 obtain⟨t0,j,_,h1,_,h2⟩:=h.ex;omega
theorem TM.len {known:List Pl}{m:Int}{r:Nat}{w:Wr}(h:TM known m r w):0≤w.sure∧w.sure+w.waits.length=m:=by
 obtain⟨t0,j,hc,_⟩:=h.ex;exact⟨hc.go.s0,hc.go.len⟩
theorem TM.step {known:List Pl}{m:Int}{r:Nat}{w:Wr}(h:TM known m r w)(Y3:m≤8)(hs:w.sure<m):TM known m (r+1) (j6 known ((r+1:Nat):Int) w) ∧
  ∃w1,w1=(dw w ((r+1:Nat):Int)).2.foldl (nu known) (dw w ((r+1:Nat):Int)).1 ∧
   (j4 w1 5 known=(w1,jI,false)∨∃F,j4 w1 5 known=({ w1 with change:=F },F,true)∧w1.l=w.l∧bL w.l.w (bn w.l.aj F)=true∧(aO w.l.aj).first≤F.first∧F.first≠0):=by
 obtain⟨t0,j,hc,hj,ht,hu⟩:=h.ex;have hl:=hc.go.len;by_cases h8:j=8
 ·subst h8;have hw:w.waits≠[]:=fun e=>by rw[e] at hl;simp at hl;omega
  have e9:t0+9=((r+1:Nat):Int):=by omega
  obtain⟨a,b,c⟩:=TA h.k Y3 hc hw;obtain⟨w1,F,p1,p2,p3,p4,p5,p6⟩:=Wn h.k Y3 hc hw;rw[e9] at a b c p1;refine⟨⟨⟨_,0,a,by omega,by omega,by omega⟩,by rw[c];exact h.k⟩,w1,p1,.inr ⟨F,p3,p2,p4,p5,p6⟩⟩
 have e9:t0+((j+1:Nat):Int)=((r+1:Nat):Int):=by omega
 obtain⟨a,b⟩:=Tz hc (by omega);obtain⟨w1,p1,p2⟩:=TL hc (by omega);rw[e9] at a b p1;refine⟨⟨⟨t0,j+1,a,by omega,by omega,by rw[b];omega⟩,by rw[b];exact h.k⟩,w1,p1,.inl p2⟩
theorem TM.start {known:List Pl}{m:Int}{l:Lg}{w:Wr}(h:Fe l m w)(hl:eH l=true)(h1:l.aj.length≤1)(hK:uh known l.w):TM known m 0 w:=by
 have hc:=Pz (known:=known) h hl h1;have hcn:=hc.cnt;have hf:=hc.go.fr;simp only[bL,Bool.and_eq_true,bR,decide_eq_true_eq] at hf;refine⟨⟨0,0,hc,by omega,by omega,?_⟩,by rw[h.el];exact hK⟩;omega
end Go.AX
end
