/-
  Conditions: none. A framework for walks: abstract values, memory, and conditions that suffice; the chapters in plain terms.
-/
import Derived.Test.YtfoiekbkkbnpkaaGreatAd
import Derived.Deep.Slices
import Derived.Carry
import Derived.Shelf.SlSortCmp.WholeK
set_option linter.unusedSectionVars false
set_option linter.unusedVariables false
set_option linter.unusedSimpArgs false
section
namespace Go.AX
section
variable {P:Program}{T:Tab}{c:Ctx}
theorem Fa {n:Nat}:∀{l:List Oper},oC n l=true→∀(k:Nat) (o:Oper),l[k]? = some o→∀t,o.dst=some t→t<n
 |[],_,k,o,G,_,_=>by simp at G
 | x::r,h,k,o,G,t,J=>by
   simp only[oC] at h;cases k with
   | zero=>
     simp only[List.getElem?_cons_zero,Option.some.injEq] at G;subst G;rw[J] at h;simp only at h;split at h
     ·rename_i K;rwa [Nat.blt_eq] at K
     cases h
   | succ k=>
     refine Fa (l:=r) ?_ k o (by simpa using G) t J;split at h
     ·split at h
      ·exact h
      cases h
     exact h
theorem Fb {x y:u7}{t:Nat}(h:t∈dl x.dst)(G:t∈y.look):nO x y=true∧nO y x=true:=by
 constructor<;>simp[nO,tC h G]
theorem Iq {x y:u7}{t:Nat}(h:t∈dl x.dst)(G:t∈dl y.dst):nO x y=true∧nO y x=true:=by
 constructor<;>simp[nO,tC h G,tC G h]
theorem Mj {x y:u7}{t:Nat}(h:t∈x.wr)(G:t∈y.rd):nO x y=true∧nO y x=true:=by
 constructor<;>simp[nO,tC h G]
theorem Ml {x y:u7}{t:Nat}(h:t∈x.wr)(G:t∈y.wr):nO x y=true∧nO y x=true:=by
 constructor<;>simp[nO,tC h G,tC G h]
theorem any_ok {ops:Array Oper}{base nx:Nat}{tm:List (Nat×AV)}{hp:List (Nat×aI)}{wT:List (List (Nat×AV))}{wH:List (List (Nat×aI))}{es:List u7}{Q:Exit→Act→World→Prop}
  (hall:∀k o,ops.toList[k]? = some o→∃v ws e,wT[k]? = some (Hw o.dst v)∧wH[k]? = some ws∧es[k]? = some e∧e.dst=o.dst∧e.wr=keys ws ∧
    UY P c ops base o k v ws e (acc (fun x=>Nat.blt x k) wT 0 tm) (acc (fun x=>Nat.blt x k) wH 0 hp))
  (bb:wT.length=ops.size) (ba:wH.length=ops.size) (a8:aiq ops.toList es=true) (hn:base+ops.size≤nx) (hd:oC c.n ops.toList=true)
  (ro:Option Nat) (a7:∀R a w,bN c R ⟨acc (fun _=>true) wT 0 tm,nx,acc (fun _=>true) wH 0 hp⟩ a w→Q .normal a w) :
  ∀(fuel:Nat) (G:Array Bool) (R:Real) (a:Act) (w:World),G.size=ops.size→Closed ops.toList (fun k=>G.getD k false)→G.toList.count false≤fuel →
   bN c R ⟨acc (fun k=>G.getD k false) wT 0 tm,nx,acc (fun k=>G.getD k false) wH 0 hp⟩ a w→wpAnyIn (W1 ro) 0 P .any ops Q fuel G a w:=by
 have bh:∀k o,ops[k]? = some o→∀ed∈o.after.toList,Region.binds .any ed=true→ed.on<k:=by
  intro k o ho;obtain⟨e,_,hs⟩:=Bj (S:=fun _=>true) (fun _ _ _ _ _ _ _=>rfl) ops.toList es 0 [] a8 rfl rfl rfl (fun _ m h=>by simp[nth] at h) k o (by rw[Array.getElem?_toList];exact ho);have:=hs.1;rwa [Nat.zero_add] at this
 have af:∀G:Array Bool,G.size=ops.size→Region.ready .any ops G=[]→∀k,k<ops.size→G.getD k false=true:=by
  intro G X hr k;induction k using Nat.strongRecOn with
  | ind k ih=>
    intro J;cases hb:G.getD k false with
    |true=>rfl
    | false=>
      exfalso;have:k∈Region.ready .any ops G:=by
       rw[mem_ready];refine⟨?_,ops[k],by simp[J],fun ed Xu ar=>?_⟩
       ·have br:k<G.size:=by omega
        simp[br] at hb ⊢;exact hb
       have ak:=bh k ops[k] (by simp[J]) ed (by simpa using Xu) ar;exact ih ed.on ak (by omega)
      rw[hr] at this;simp at this
 have am:∀(G:Array Bool) (R:Real) (a:Act) (w:World),G.size=ops.size→Region.ready .any ops G=[] →
   bN c R ⟨acc (fun k=>G.getD k false) wT 0 tm,nx,acc (fun k=>G.getD k false) wH 0 hp⟩ a w→Q .normal a w:=by
  intro G R a w X hr g;refine a7 R a w (g.congr (fun t=>lV t wT 0 _ _ rfl fun k ws J _=>?_) fun b=>lV b wH 0 _ _ rfl fun k ws J _=>?_)
  ·rw[Nat.zero_add];exact (af G X hr k (by rw[←bb];exact (List.getElem?_eq_some_iff.1 J).1)).symm
  rw[Nat.zero_add];exact (af G X hr k (by rw[←ba];exact (List.getElem?_eq_some_iff.1 J).1)).symm
 intro fuel;induction fuel with
 | zero=>
   intro G R a w X ai hc g;have hr:Region.ready .any ops G=[]:=by
    cases hr:Region.ready .any ops G with
    |nil=>rfl
    | cons j r=>
      exfalso;have hj:j∈Region.ready .any ops G:=by rw[hr];simp
      rw[mem_ready] at hj;obtain⟨h0,o,ho,_⟩:=hj;have bq:j<G.size:=by rw[X];exact (Array.getElem?_eq_some_iff.1 ho).1
      have:false∈G.toList:=by
       have:G[j]=false:=by simpa[bq] using h0
       rw[←this];simp
      have:=List.count_pos_iff.2 this;omega
   exact⟨hr,am G R a w X hr g⟩
 | succ fuel ih=>
   intro G R a w X ai hc g;refine⟨fun hr=>am G R a w X hr g,fun i hi=>?_⟩;rw[mem_ready] at hi;obtain⟨h0,o,ho,ao⟩:=hi;have bv:i<ops.size:=(Array.getElem?_eq_some_iff.1 ho).1;have ag:i<G.size:=by omega
   have a9:G.getD i false=false:=by simpa[ag] using h0
   have Qa:ops.toList[i]? = some o:=by rw[Array.getElem?_toList];exact ho
   obtain⟨v,ws,e,a1,a2,a3,a4,a5,a6⟩:=hall i o Qa;have ap:∀k o',ops.toList[k]? = some o'→∃e,es[k]? = some e∧Sep ops.toList es (fun k=>G.getD k false) k o' e:=by
    intro k o' J;have:=Bj ai ops.toList es 0 [] a8 rfl rfl rfl (fun _ m h=>by simp[nth] at h) k o' J;rwa [Nat.zero_add] at this
   have hS:∀k x,es[k]? = some x→k<ops.size→nO x e=true→nO e x=true→G.getD k false=Nat.blt k i:=by
    intro k x hx J bk bm;rcases Nat.lt_trichotomy k i with ak|bo|bp
    ·obtain⟨e',Hz,hs⟩:=ap i o Qa;rw[a3] at Hz;cases Hz;have bt:G.getD k false=true:=hs.2 (fun ed Xu hb=>ao ed (by simpa using Xu) hb) k x ak hx bk;have bu:Nat.blt k i=true:=by rw[Nat.blt_eq];exact ak
     rw[bt,bu]
    ·subst bo;rw[a9];cases hb:Nat.blt k k with
     |false=>rfl
     |true=>rw[Nat.blt_eq] at hb;omega
    have bj:Nat.blt k i=false:=by
     cases hb:Nat.blt k i with
     |false=>rfl
     |true=>rw[Nat.blt_eq] at hb;omega
    rw[bj];cases hb:G.getD k false with
    |false=>rfl
    | true=>
      exfalso;have bd:ops.toList[k]? = some ops[k]:=by simp[J]
      obtain⟨e',Hz,hs⟩:=ap k ops[k] bd;rw[hx] at Hz;cases Hz;have:=hs.2 (fun ed Xu ar=>ai k ops[k] bd hb ed Xu ar) i e bp a3 bm;simp only at this;rw[a9] at this;cases this
   have ax:∀k,k<ops.size→∃o' v' V e',ops[k]? = some o'∧wT[k]? = some (Hw o'.dst v')∧wH[k]? = some V∧es[k]? = some e'∧e'.dst=o'.dst∧e'.wr=keys V:=by
    intro k J;obtain⟨v',V,e',b1,b2,b3,b4,b5,_⟩:=hall k ops[k] (by simp[J]);exact⟨ops[k],v',V,e',by simp[J],b1,b2,b3,b4,b5⟩
   have a0:∀k V,wT[k]? = some V→∃e',es[k]? = some e'∧k<ops.size∧keys V=dl e'.dst:=by
    intro k V J;have K:k<ops.size:=by rw[←bb];exact (List.getElem?_eq_some_iff.1 J).1
    obtain⟨o',v',w',e',_,b1,_,b3,b4,_⟩:=ax k K;rw[J] at b1;simp only[Option.some.injEq] at b1;exact⟨e',b3,K,by rw[b1,Mh,b4]⟩
   have az:∀k V,wH[k]? = some V→∃e',es[k]? = some e'∧k<ops.size∧keys V=e'.wr:=by
    intro k V J;have K:k<ops.size:=by rw[←ba];exact (List.getElem?_eq_some_iff.1 J).1
    obtain⟨o',v',w',e',_,_,b2,b3,_,b5⟩:=ax k K;rw[J] at b2;simp only[Option.some.injEq] at b2;exact⟨e',b3,K,by rw[b2,b5]⟩
   have al:=a6 R _ _ nx a w (fun t ht=>lV (S:=fun k=>G.getD k false) t wT 0 tm tm rfl fun k V J ae=>by
     obtain⟨e',Hz,K,aa⟩:=a0 k V J;rw[Nat.zero_add];rw[aa] at ae;exact hS k e' Hz K (Fb ae ht).1 (Fb ae ht).2)
    (fun b hb=>lV (S:=fun k=>G.getD k false) b wH 0 hp hp rfl fun k V J ae=>by
     obtain⟨e',Hz,K,aa⟩:=az k V J;rw[Nat.zero_add];rw[aa] at ae;exact hS k e' Hz K (Mj ae hb).1 (Mj ae hb).2)
    (by omega) (fun t ht=>Fa hd i o Qa t ht) g ro Q
   have aq:∀k,(G.setIfInBounds i true).getD k false=(G.getD k false||Nat.beq k i):=by
    intro k;by_cases aw:k=i
    ·subst aw;simp[ag]
    rw[getD_set_ne false (Ne.symm aw)];cases hb:Nat.beq k i with
    |false=>simp
    |true=>exact absurd (Nat.eq_of_beq_eq_true hb) aw
   have ah:∀R' a' w',bN c R' ⟨Hw o.dst v++acc (fun k=>G.getD k false) wT 0 tm,nx,ws++acc (fun k=>G.getD k false) wH 0 hp⟩ a' w' →
     wpAnyIn (W1 ro) 0 P .any ops Q fuel (G.setIfInBounds i true) a' w':=by
    intro R' a' w' g';refine ih _ R' a' w' (by simp[X]) ?_ ?_ (g'.congr (fun t=>?_) fun b=>?_)
    ·intro k o' J P9 ed Xu hb;simp only at P9 ⊢;rw[aq,Bool.or_eq_true] at P9 ⊢;rcases P9 with h|h
     ·exact .inl (ai k o' J h ed Xu hb)
     have:=Nat.eq_of_beq_eq_true h;subst this;rw[Qa] at J;cases J;exact .inl (ao ed (by simpa using Xu) hb)
    ·rw[Array.toList_setIfInBounds,List.count_set (by simpa using ag)];have:G.toList[i]'(by simpa using ag)=false:=by simpa[ag] using h0
     have hm:false∈G.toList:=by rw[←this];simp
     have hp:=List.count_pos_iff.2 hm;rw[this];show G.toList.count false-1+0≤fuel
     omega
    ·refine SQ a1 aq t fun k V J ht ad P9=>?_
     obtain⟨e',Hz,K,aa⟩:=a0 k V J;rw[aa] at ad;rw[Mh,←a4] at ht;rw[hS k e' Hz K (Iq ad ht).1 (Iq ad ht).2] at P9;rwa [Nat.blt_eq] at P9
    refine SQ a2 aq b fun k V J ht ad P9=>?_
    obtain⟨e',Hz,K,aa⟩:=az k V J;rw[aa] at ad;rw[←a5] at ht;rw[hS k e' Hz K (Ml ad ht).1 (Ml ad ht).2] at P9;rwa [Nat.blt_eq] at P9
   unfold wpOpIn;rw[ho];simp only;split
   ·rename_i hw;rw[if_pos hw] at al;exact Oper.wpIn_mono (fun a' w' ⟨R',g'⟩=>ah R' a' w' g') al
   rename_i hw;rw[if_neg hw] at al;obtain⟨R',g'⟩:=al;exact⟨fun _ _=>trivial,ah R' _ w g'⟩
theorem bN.drawn {R:Real}{s:AS}{a:Act}{w:World}(g:bN c R s a w)(n:Nat):bN c R s a { w with drawn:=n }:=by
 have K:∀r,r<w.heap.size→bA c R s.hp r→bA c R s.hp r:=fun r _ h=>h
 have Q:∀r,r<w.heap.size→¬bA c R s.hp r→({ w with drawn:=n }:World).heap[r]? = w.heap[r]? :=fun _ _ _=>rfl
 have h1:∀b off v,bf R b off v (lk s.hp b)→bf R b off v (lk s.hp b):=fun b off v h=>h
 have h2:∀b ver v,aX R b ver v (lk s.hp b)→aX R b ver v (lk s.hp b):=fun b ver v h=>h
 have h3:∀b ver i off v,bC R b ver i off v (lk s.hp b)→bC R b ver i off v (lk s.hp b):=fun b ver i off v h=>h
 refine⟨fun t v hv=>?_,g.size,g.lo,g.marks.imp fun Ds hm=>hm.kept (fun _ _ _=>rfl) (fun _ _ h=>h),g.fixed.kept (fun _ _ _=>rfl) (fun _ _ h=>h),fun b box X=>?_,g.inj,g.free,⟨g.jV.size,g.jV.keep,g.jV.os,g.jV.tape,g.jV.output⟩,g.jy,fun v x h=>dM K Q h1 h2 h3 v x (g.kept v x h)⟩
 ·obtain⟨x,hx,J⟩:=g.slots t v hv;exact⟨x,hx,dM K Q h1 h2 h3 v x J⟩
 have J:=g.boxes b box X;cases box with
 | var G=>
   simp only[fK] at J ⊢;obtain⟨V,e,ha,X⟩:=J;exact⟨V,e,ha,dK K Q h1 h2 h3 G _ X⟩
 | oN G=>
   simp only[fK] at J ⊢;obtain⟨V,e,fr,ha,hn,X⟩:=J;exact⟨V,e,fr,ha,hn,fJ K Q G _ X⟩
 | arr e ver st S=>
   simp only[fK] at J ⊢;obtain⟨xs,ha,X⟩:=J;exact⟨xs,ha,bg K Q st S xs X⟩
 | d9 ver st S=>
   simp only[fK] at J ⊢;exact dV K Q _ _ J
 | tr y ver rest st=>
   obtain⟨k0,kh,k1,k2,k3,k4⟩:=J;exact⟨k0,kh,k1,⟨k2.size,k2.keep,k2.os,k2.tape,k2.output⟩,k3,k4⟩
 | iP e' ver st pre af post=>
   obtain⟨xs,h8,h9,aa,ad,ae⟩:=J;exact⟨xs,h8,bg K Q _ _ _ h9,aa,dK K Q h1 h2 h3 _ _ ad,bg K Q _ _ _ ae⟩
theorem bZ (hm:P.follows .mixedOrders=true)(hT:dB P T)(hg:gen T=false:=by rfl):∀(c:Ctx) (R:Real) (s:AS) (a:Act) (w:World) (id:Nat) (ops:Array Oper) (K:Exit→AS→Prop) (ro:Option Nat),bN c R s a w→oC c.n ops.toList=true →
  VC P T (.region id ops true) s K→(Code.region id ops true).wpIn (W1 ro) 0 P (fun e X w'=>∃Q s',K e s'∧bN c Q s' X w') a w:=by
 intro c R s a w id ops K ro g hd h;simp only[VC] at h;obtain⟨tm,nx,hp⟩:=s;simp only at h;split at h;rotate_left;cases h
 rename_i S;have S:=Nat.le_of_ble_eq_true S;obtain⟨wT,wH,es,ad,aa,l1,l2,l3,⟨J,hK⟩,hf,V,hall⟩:=Mi (c:=c) hT hg ops.toList 0 h;simp only[List.append_nil,List.reverse_reverse] at J;have g0:bN c R ⟨tm,nx,hp⟩ a { w with drawn:=w.drawn+1 }:=g.drawn _;have G:(fun k=>(Array.replicate ops.size false).getD k false)=fun _=>false:=by
  funext k
  simp only[Array.getD_eq_getD_getElem?,Array.getElem?_replicate];split<;>rfl
 refine wpIn_region_any hm (any_ok (hall:=fun k o hk=>by
  have:=hall k o hk;rwa [Nat.zero_add] at this) (by simpa using l1) (by simpa using l2) J (by simpa using S) hd ro ?_ ops.size _ R a _ (by simp) ?_ ?_ ?_)
 ·intro Q X w' g';exact⟨Q,_,hK,g'.congr hf V⟩
 ·intro k o hk hS;have:=congrFun G k;rw[G] at hS;cases hS
 ·simp
 rw[G,oV,oV];exact g0
end
section
variable {P:Program}{T:Tab}
theorem PC.mono {f:FuncId}{args:List PV}{Q G:PV→Prop}(h:PC P f args Q)(V:∀r,Q r→G r):PC P f args G:=
 ⟨h.1,fun F w J K S=>(h.2 F w J K S).mono fun e X ⟨v,r,a,b,c,d⟩=>⟨v,r,a,V r b,c,d⟩⟩
theorem PC.le {f:FuncId}{args:List PV}{r:PV}(h:PC P f args fun x=>Yp x r):dF P f args r:=
 ⟨h.1,fun F w G J K=>(h.2 F w G J K).mono fun e Q ⟨v,x,a,b,c,d⟩=>⟨v,r,a,rfl,oZ (fun _ h=>h) _ _ _ b c,d⟩⟩
theorem adf {f:FuncId}{args G:List PV}{r:PV}(h:dF P f G r)(e:zS args G):dF P f args r:=
 ⟨h.1,fun F w J K Q=>h.2 F w J K (qE (fun _ h=>h) _ _ _ e Q)⟩
def agi (args:List AV)(hp:List (Nat×aI))(J:List AV)(G:List (Nat×aI)):Prop:=
 match Qe hp with
 | ρ0=>match mt hp G 1000 ρ0 (nR hp G ρ0 (pairs args J [])) with
   | some ρ=>match Fh ρ hp G with
     |true=>HV ρ hp G (Iy ρ args J)
     |false=>False
   |none=>False
theorem bP {f:FuncId}{args G:List AV}{hp J:List (Nat×aI)}{r:AV}{hp':List (Nat×aI)}(h:dX P f G J r hp')(e:agi args hp G J):dX P f args hp r hp':=by
 refine⟨h.1,fun c R w K V Q=>?_⟩;simp only[agi] at e;split at e
 ·rename_i ρ _;split at e
  ·rename_i S;have H:=Kq S e;exact h.2 c (qx ρ R) w K (V.weaken H) (pR H _ _ _ (vG e) Q)
  exact e.elim
 exact e.elim
theorem Yy {N:Nat→Prop}{w:World}{st:Nat}{rows:List (List PV)}{v:Value}(h:bL N w (.sl false st rows) v) :
  bL N w (.sl true st rows) v∨(rows=[]∧bL N w (.sc (.slice none 0 0)) v):=by
 simp only[bL] at h ⊢;obtain⟨p,G,J,rfl,K,Q,S,V⟩:=h;cases p with
 | none=>
   obtain⟨_,X⟩:=S rfl;subst X;have:G=0:=by omega
   subst this;exact .inr ⟨List.eq_nil_of_length_eq_zero K.symm,rfl⟩
 |some a=>exact .inl ⟨some a,G,J,rfl,K,Q,fun h=>(by cases h),V⟩
theorem Tc {N:Nat→Prop}{w:World}{st:Nat}{rows:List (List PV)}{b:List PV}:∀{a:List PV} {vs:List Value},fE N w (a ++ .sl false st rows::b) vs →
  fE N w (a ++ .sl true st rows::b) vs∨(rows=[]∧fE N w (a ++ .sc (.slice none 0 0)::b) vs)
 | [],vs,h=>by
   simp only[List.nil_append,fE] at h ⊢;obtain⟨v,r,e,G,J⟩:=h;rcases Yy G with G|⟨K,G⟩
   ·exact .inl ⟨v,r,e,G,J⟩
   exact .inr ⟨K,v,r,e,G,J⟩
 | x::a,vs,h=>by
   simp only[List.cons_append,fE] at h ⊢;obtain⟨v,r,e,G,J⟩:=h;rcases Tc J with J|⟨K,J⟩
   ·exact .inl ⟨v,r,e,G,J⟩
   exact .inr ⟨K,v,r,e,G,J⟩
theorem afa {f:FuncId}(a:List PV){b:List PV}{st:Nat}{rows:List (List PV)}{Q:PV→Prop}(J:PC P f (a ++ .sl true st rows::b) Q)
  (V:rows=[]→PC P f (a ++ .sc (.slice none 0 0)::b) Q):PC P f (a ++ .sl false st rows::b) Q:=
 ⟨J.1,fun F w G K X=>by
  rcases Tc X with h|⟨S,h⟩
  ·exact J.2 F w G K h
  exact (V S).2 F w G K h⟩
theorem MC {N:Nat→Prop}{w:World}{hp:List (Nat×aI)}{R:Real}{st:Nat}{rows:List (List PV)}{b:List AV}:∀{a:List AV} {vs:List Value},dw N w hp R (a ++ .pv (.sl false st rows)::b) vs →
  dw N w hp R (a ++ .pv (.sl true st rows)::b) vs∨(rows=[]∧dw N w hp R (a ++ .pv (.sc (.slice none 0 0))::b) vs)
 | [],vs,h=>by
   simp only[List.nil_append,dw] at h ⊢;obtain⟨v,r,e,G,J⟩:=h;simp only[au] at G ⊢;rcases Yy G with G|⟨K,G⟩
   ·exact .inl ⟨v,r,e,G,J⟩
   exact .inr ⟨K,v,r,e,G,J⟩
 | x::a,vs,h=>by
   simp only[List.cons_append,dw] at h ⊢;obtain⟨v,r,e,G,J⟩:=h;rcases MC J with J|⟨K,J⟩
   ·exact .inl ⟨v,r,e,G,J⟩
   exact .inr ⟨K,v,r,e,G,J⟩
theorem aiK {f:FuncId}(a:List AV){b:List AV}{hp:List (Nat×aI)}{st:Nat}{rows:List (List PV)}{Q:AV→List (Nat×aI)→Prop}(J:GC P f (a ++ .pv (.sl true st rows)::b) hp Q)
  (V:rows=[]→GC P f (a ++ .pv (.sc (.slice none 0 0))::b) hp Q):GC P f (a ++ .pv (.sl false st rows)::b) hp Q:=
 ⟨J.1,fun c R w G K X=>by
  rcases MC X with h|⟨S,h⟩
  ·exact J.2 c R w G K h
  exact (V S).2 c R w G K h⟩
mutual
def DU:PV→Prop
 |.sl _ _ G=>G.length≤9223372036854775807
 |.agg cs=>IX cs
 |_=>True
def IX:List PV→Prop
 |[]=>True
 |p::r=>DU p∧IX r
end
mutual
theorem Yz {N:Nat→Prop}{w:World}:∀(p:PV) (v:Value),bL N w p v→DU p
 | .sl _ _ G,v,h=>by
   simp only[bL] at h;obtain⟨p,K,J,_,Q,S,_⟩:=h;simp only[DU];omega
 | .agg cs,v,h=>by
   simp only[bL] at h;obtain⟨vs,_,h⟩:=h;simp only[DU];exact YA cs _ h
 |.sc _,_,_=>by simp only[DU]
 |.cK _,_,_=>by simp only[DU]
 |.dU _ _,_,_=>by simp only[DU]
 |.fn _ _ _,_,_=>by simp only[DU]
 |.junk,_,_=>by simp only[DU]
 |.O8 _ _,_,_=>by simp only[DU]
theorem YA {N:Nat→Prop}{w:World}:∀(ps:List PV) (vs:List Value),jk N w ps vs→IX ps
 |[],_,_=>trivial
 | p::ps,vs,h=>by
   simp only[jk] at h;obtain⟨v,r,_,_,G,J⟩:=h;exact⟨Yz p v G,YA ps r J⟩
end
theorem YB {N:Nat→Prop}{w:World}:∀(ps:List PV) (vs:List Value),fE N w ps vs→IX ps
 |[],_,_=>trivial
 | p::ps,vs,h=>by
   simp only[fE] at h;obtain⟨v,r,_,G,J⟩:=h;exact⟨Yz p v G,YB ps r J⟩
theorem bM.enters {f:FuncId}{fn:Func}(h:bM P f fn):Enters P f:=⟨fn,h.func,h.body,h.name⟩
theorem pU {f:FuncId}{fn:Func}(S:bM P f fn){args:List PV}{Q:PV→Prop}(h:IX args→PC P f args Q):PC P f args Q:=
 ⟨S.enters,fun F w J K G=>(h (YB args _ G)).2 F w J K G⟩
theorem dR {α:Type}(f:α→List PV)(l:List α)(k:Nat)(h:k<l.length):(l.map f)[((k:Nat):Int).toNat]? = some (f l[k]):=by
 simp[h]
theorem Qg {α:Type}(f:α→List PV)(l:List α){i:Int}{k:Nat}(e:i=(k:Int))(h:k<l.length):(l.map f)[i.toNat]? = some (f l[k]):=by
 subst e;simp[h]
theorem dec_lt {k n:Nat}(h:k<n):n-(k+1)<n-k:=by omega
theorem gX {n:Int}(G:0≤n)(h:n≤18446744073709551615):IntKind.u64.wrap n=n:=by
 simp[IntKind.wrap,IntKind.bits,IntKind.signed];omega
theorem bF {n:Int}(G : -9223372036854775808≤n)(h:n≤9223372036854775807):IntKind.i64.wrap n=n:=by
 simp[IntKind.wrap,IntKind.bits,IntKind.signed];omega
end
theorem fk {b:Bool}{p q:Prop}(h:b=true→p)(k:b=false→q):(b=true→p)∧(b=false→q):=⟨h,k⟩
theorem lr (l:List (List PV)):jc l l:=ay l
theorem aM {P:Program}{T:Tab}{c:Code}{s:AS}{K:Exit→AS→Prop}{X:Prop}(h:VC P T c s K):VC P T c s K∨X:=Or.inl h
theorem zoc {P:Program}{T:Tab}{a:Operand}{b c:Code}{s:AS}{K:Exit→AS→Prop}{X:Prop}(h:VC P T (Code.cond a b c) s K):VC P T (Code.cond a b c) s K∨X:=Or.inl h
theorem zos {P:Program}{T:Tab}{b c:Code}{s:AS}{K:Exit→AS→Prop}{X:Prop}(h:VC P T (Code.seq b c) s K):VC P T (Code.seq b c) s K∨X:=Or.inl h
theorem bX {a b c:Prop}(h:a):(a∨b)∨c:=.inl (.inl h)
theorem mq {a b c:Prop}(h:b):(a∨b)∨c:=.inl (.inr h)
theorem znb {m n:Nat}(h:Nat.ble m n=true):m≤n:=Nat.le_of_ble_eq_true h
theorem jo {α:Type}{a:α}{l:List α}:(a::l).length=l.length+1:=rfl
theorem jq {α:Type}:([]:List α).length=0:=rfl
theorem fG {α β:Type}{f:α→β}{l:List α}:(l.map f).length=l.length:=List.length_map ..
theorem rP {α:Type}{a b:List α}:(a++b).length=a.length+b.length:=List.length_append
theorem iG {p:Prop}[Decidable p]:(decide p=true)=p:=decide_eq_true_eq
theorem uS {p:Prop}[Decidable p]:(decide p=false)=¬p:=propext decide_eq_false_iff_not
theorem aJ {p:Prop}(h:p:=by (repeat' first|(with_reducible first|exact⟨⟩|exact rfl|exact lr _)|((conv=>whnf);with_reducible first|apply And.intro|exact⟨⟩)|exact rfl|exact fun h=>h|exact lr _)<;>fail):p:=h
theorem oF {p:Prop}(h:p:=by (repeat' first|(with_reducible first|exact⟨⟩|exact rfl|exact lr _)|((conv=>whnf);with_reducible first|apply And.intro|exact⟨⟩)|exact rfl|exact fun h=>h|assumption|exact lr _)<;>fail):p:=h
theorem aV {p:Prop}(h:False:=by first|exact absurd hc (by decide)|(simp only[*,reduceCtorEq] at hc<;>fail)):p:=h.elim
theorem iA {p:Prop}(h:False:=by first|exact absurd hc (by decide)|(simp only[*,reduceCtorEq,Bool.not_true,Bool.not_false] at hc<;>fail)):p:=h.elim
theorem oG {p:Prop}(h:False:=by first|exact absurd hc (by decide)|(simp only[*,reduceCtorEq,Bool.not_true,Bool.not_false,Bool.true_and,Bool.and_true,Bool.false_and,Bool.and_false] at hc<;>fail)):p:=h.elim
theorem eT {P:Program}{f:FuncId}{zz bs:List PV}{r:PV}{Q:PV→Prop}{b c:Prop}(h:dF P f bs r)(k:Q r)(e:zS zz bs:=by (repeat' first|(with_reducible first|exact⟨⟩|exact rfl|exact lr _)|((conv=>whnf);with_reducible first|apply And.intro|exact⟨⟩)|exact rfl|exact fun h=>h|assumption|exact lr _)<;>fail):((∃x,dF P f zz x∧Q x)∨b)∨c:=.inl (.inl ⟨r,adf h e,k⟩)
theorem eF {P:Program}{f:FuncId}{zz bs:List AV}{K J G:List (Nat×aI)}{r:AV}{Q:AV→List (Nat×aI)→Prop}{a c:Prop}(h:dX P f bs J r G)(k:Q r G)(e:agi zz K bs J:=by (repeat' first|(with_reducible first|exact⟨⟩|exact rfl|exact lr _)|((conv=>whnf);with_reducible first|apply And.intro|exact⟨⟩)|exact rfl|exact fun h=>h|assumption|exact lr _)<;>fail):(a∨(∃x y,dX P f zz K x y∧Q x y))∨c:=.inl (.inr ⟨r,G,bP h e,k⟩)
theorem ztn {P:Program}:dB P []:=fun t i h=>by cases h
theorem jU {P:Program}{t:TypeId}{i:TI}{T:Tab}(H:dB P T)(G:∀ks,i.cmp=some ks→af3 P t ks∧P.eqGuardType P.depth t=false:=by first|(intro ks h;cases h;done)|(intro ks h;cases h;exact⟨Kh (by kernel_rfl) (by kernel_rfl),by kernel_rfl⟩))(h1:(P.info? t).map (fun x=>(x.size,x.bytes,x.zero.map (·.cells.toList)))=some (i.size,i.bytes,some i.zero):=by kernel_rfl)(h2:(P.underlying t).map di=some i.d:=by kernel_rfl)(h3:i.zero.length=i.size:=by rfl)(h4:i.zero.all (·.oneCell')=true:=by kernel_rfl)(h5:i.d.isAgg=false→i.size=1:=by first|exact fun _=>rfl|exact fun h=>by cases h)(h7:i.d.isAgg=(((P.info? t).bind (·.zero)).map (fun z=>z matches .agg _)).getD false:=by kernel_rfl):dB P ((t,i)::T):=fun K J h=>by
 rw[aG] at h;split at h
 ·rename_i e;subst e;cases h;exact⟨h1,h2,h3,h4,h5,h7,G⟩
 exact H K J h
theorem zx5 {p:Prop}(h:p:=by first|rfl|exact znb rfl|omega|(simp only[jo,jq,fG,rP];omega)):p:=h
theorem zx7 {p:Prop}(h:p:=by focus (simp only[List.length_map];omega)):p:=h
theorem aK {p q:Prop}(h:q)(k:p:=by first|rfl|exact znb rfl|omega|(simp only[jo,jq,fG,rP];omega)):p∧q:=⟨k,h⟩
theorem zxb {p q:Prop}(h:q)(k:p:=by (simp only[List.length_map];omega)):p∧q:=⟨k,h⟩
theorem zmc {α β:Type}{f:α→β}{a:α}{l:List α}:(a::l).map f=f a::l.map f:=rfl
theorem zmn {α β:Type}{f:α→β}:([]:List α).map f=[]:=rfl
theorem zca {α:Type}{a:α}{l m:List α}:(a::l)++m=a::(l++m):=rfl
theorem zna {α:Type}{l:List α}:[]++l=l:=rfl
theorem zma {α β:Type}{f:α→β}{a b:List α}:(a++b).map f=a.map f++b.map f:=List.map_append
theorem zx8 {p:Prop}(h:p:=by simp only[List.length_set,ak0,Array.size_setIfInBounds,size_swp];omega):p:=h
theorem fO {P:Program}{f:FuncId}{fn:Func}(h:P.funcs[f]? = some fn)(k:(fn.body.isSome&&(!(fn.name == "runtime.NumGoroutine")&&codeOk fn.ntmps (codeOf fn)))=true:=by kernel_rfl):bM P f fn:=by
 simp only[Bool.and_eq_true,Bool.not_eq_true'] at k;exact⟨h,k.1,k.2.1,k.2.2⟩
end Go.AX
end
section
universe u
variable {α:Type}
namespace Go.AX
abbrev uu (n:Int):PV:=.sc (.int .u64 n)
abbrev ii (n:Int):PV:=.sc (.int .i64 n)
abbrev bl (b:Bool):PV:=.sc (.bool b)
abbrev gB:PV:=.sc (.slice none 0 0)
abbrev unit:PV:=.cK []
structure Pl where
 node:Int
 aH:Int
deriving DecidableEq,Inhabited
def Pl.c (x:Pl):List PV:=[ii x.node,uu x.aH]
def av (l:List Pl):PV:=.sl false 2 (l.map Pl.c)
structure Fr where
 first:Int
 ah:List Pl
deriving DecidableEq,Inhabited
def Fr.c (f:Fr):List PV:=[uu f.first,av f.ah]
def cB (l:List Fr):PV:=.sl false 2 (l.map Fr.c)
structure Lg where
 id:Int
 w:Int
 a:Int
 af:List Fr
 closed:Int
 last:Int
deriving DecidableEq,Inhabited
def Lg.c (l:Lg):List PV:=[uu l.id,ii l.w,ii l.a,cB l.af,ii l.closed,uu l.last]
def CR (l:List UInt8):PV:=.sl false 1 (l.map lD)
structure Ft where
 bI:Int
 n:Int
 set:List Pl
 at_:Int
 since:Int
 tag:Int
 done:Int
 body:List UInt8
deriving DecidableEq,Inhabited
def Ft.c (f:Ft):List PV:=[uu f.bI,uu f.n,av f.set,ii f.at_,uu f.since,uu f.tag,ii f.done,CR f.body]
structure Rq where
 to:Pl
 kind:Int
 bI:Int
 n:Int
 ak:Int
 sure:Int
 copy:Int
 body:List UInt8
 keep:List Int
deriving DecidableEq,Inhabited
def alo (n:Int):List PV:=[uu n]
def slU (l:List Int):PV:=.sl false 1 (l.map alo)
def Rq.c (r:Rq):List PV:=[ii r.to.node,uu r.to.aH,ii r.kind,uu r.bI,uu r.n,uu r.ak,uu r.sure,ii r.copy,CR r.body,slU r.keep]
def kH (l:List Rq):PV:=.sl false 10 (l.map Rq.c)
structure Rs where
 from_:Pl
 kind:Int
 code:Int
 bI:Int
 n:Int
 ak:Int
 sure:Int
 body:List UInt8
deriving DecidableEq,Inhabited
def Rs.c (r:Rs):List PV:=[ii r.from_.node,uu r.from_.aH,ii r.kind,ii r.code,uu r.bI,uu r.n,uu r.ak,uu r.sure,CR r.body]
def uI {α:Type}(p:α→Bool):List α→Int
 |[]=>-1
 | x::r=>match p x with
   |true=>0
   | false=>match uI p r with
     |.ofNat n=>n+1
     |.negSucc _=>-1
theorem p9 {α:Type}(p:α→Bool):∀{l:List α},(∀x∈l,p x=false)→uI p l = -1
 |[],_=>rfl
 | x::r,h=>by
   have e:=p9 p (l:=r) fun y G=>h y (by simp[G])
   simp only[uI,h x (by simp),e];rfl
theorem BG {α:Type}(p:α→Bool):∀{l:List α} {k:Nat} (G:k<l.length),(∀j (Q:j<l.length),j<k→p l[j]=false)→p l[k]=true→uI p l=k
 |[],k,G,_,_=>by simp at G
 | x::r,0,_,_,h=>by
   simp only[List.getElem_cons_zero] at h;simp[uI,h]
 | x::r,k+1,G,h,J=>by
   have K:=h 0 (by simp) (by omega);simp only[List.getElem_cons_zero] at K;simp only[List.getElem_cons_succ] at J;have:=BG p (l:=r) (k:=k) (by simpa using G) (fun j Q S=>by
    have:=h (j+1) (by simpa using Q) (by omega);simpa using this) J
   simp only[uI,K,this];show ((k:Int)+1=_)
   omega
theorem lu {α:Type}(p:α→Bool):∀(l:List α),(uI p l = -1∧∀x∈l,p x=false)∨∃k,∃V:k<l.length,uI p l=(k:Nat)∧p l[k]=true∧∀j (S:j<l.length),j<k→p l[j]=false
 |[]=>.inl ⟨rfl,by simp⟩
 | x::r=>by
   cases G:p x with
   | true=>
     refine .inr ⟨0,by simp,?_,by simpa using G,by simp⟩;simp[uI,G]
   | false=>
     rcases lu p r with ⟨J,K⟩|⟨k,V,J,K,X⟩
     ·refine .inl ⟨?_,?_⟩
      ·simp only[uI,G,J];rfl
      intro y Q;rcases List.mem_cons.1 Q with rfl|Q
      ·exact G
      exact K y Q
     refine .inr ⟨k+1,by simpa using V,?_,by simpa using K,?_⟩
     ·simp only[uI,G,J];show ((k:Int)+1=_)
      omega
     intro j S aa;cases j with
     |zero=>simpa using G
     |succ j=>simpa using X j (by simpa using S) (by omega)
theorem Qy {α:Type}(p:α→Bool)(l:List α):decide (uI p l≥0)=l.any p:=by
 rw[Bool.eq_iff_iff];simp only[decide_eq_true_eq,List.any_eq_true];rcases lu p l with ⟨G,J⟩|⟨k,Q,G,J,V⟩
 ·rw[G];constructor
  ·intro h;omega
  rintro⟨x,S,K⟩;rw[J x S] at K;cases K
 rw[G];exact⟨fun _=>⟨l[k],List.getElem_mem Q,J⟩,fun _=>by omega⟩
theorem Pl.eta (x:Pl):(⟨x.node,x.aH⟩:Pl)=x:=rfl
theorem Pl.beq (x y:Pl):((x.node==y.node)&&(x.aH==y.aH))=(x==y):=by
 rw[Bool.eq_iff_iff];simp only[Bool.and_eq_true,beq_iff_eq];cases x;cases y;simp
theorem Pl.ajl (x:Pl)(a b:Int):((a==x.node)&&(b==x.aH))=(x==⟨a,b⟩):=by
 rw[Bool.eq_iff_iff];simp only[Bool.and_eq_true,beq_iff_eq];cases x;simp;omega
theorem Pl.adA (x:Pl)(a b:Int):((x.node==a)&&(x.aH==b))=(x==⟨a,b⟩):=by
 rw[Bool.eq_iff_iff];simp only[Bool.and_eq_true,beq_iff_eq];cases x;simp
theorem lF {k:Nat}{l:List α}{q:(j:Nat)→j<l.length→Prop}(h:∀j (G:j<l.length),j<k→q j G)(Q:∀(G:k<l.length),q k G):∀j (G:j<l.length),j<k+1→q j G:=by
 intro j G K;rcases Nat.lt_succ_iff_lt_or_eq.1 K with J|rfl
 ·exact h j G J
 exact Q G
theorem vQ {l:List α}{q:α→Prop}(h:∀j (G:j<l.length),j<l.length→q l[j]):∀x∈l,q x:=by
 intro x J;obtain⟨j,G,rfl⟩:=List.getElem_of_mem J;exact h j G G
end Go.AX
end
section
namespace Go.AX
def N0:Nat→Prop:=fun _=>False
def Rd (P:Program)(w:World)(t:TypeId)(n:Nat)(Q:List PV→Prop):Prop:=
 P.cellsOf t=n∧∀(H:Type) (S:TypeId×Value→H) (base:Nat) (J:Nat→Bool) (K:Bool) (fuel:Nat) (cs:List Value) (x:DataW H×List MemPlace),
  DataW.trod S P w base J K fuel t cs=some x→∃G,G.length=n∧jk N0 w G cs∧Q G
section
variable {P:Program}{w:World}{t e:TypeId}{n:Nat}{Q Q':List PV→Prop}
theorem Rd.imp (h:Rd P w t n Q)(hq:∀row,row.length=n→Q row→Q' row):Rd P w t n Q':=
 ⟨h.1,fun H K base G J fuel cs x hx=>by
  obtain⟨row,S,V,X⟩:=h.2 H K base G J fuel cs x hx;exact⟨row,S,V,hq row S X⟩⟩
theorem Qh {k:IntKind}(V:P.underlying t=some (.int k))(hc:P.cellsOf t=1):Rd P w t 1 (fun G=>∃i,G=[.sc (.int k i)]∧(Lit.int k i).wf=true):=
 ⟨hc,fun H S base J K fuel cs x hx=>by
  obtain⟨i,rfl,_,X⟩:=DataW.trod_int V hx;exact⟨[.sc (.int k i)],rfl,⟨_,_,rfl,rfl,by simp only[bL],by simp only[jk]⟩,i,rfl,X⟩⟩
theorem Kt {N:Nat→Prop}{st:Nat}:∀{rows:List (List PV)} {vs:List Value},(∀i (h:i<rows.length),rows[i].length=st∧jD N w rows[i] (vs.drop (i*st)))→dI N w st rows vs
 |[],vs,_=>by simp only[dI]
 | r::rows,vs,h=>by
   have G:=h 0 (by simp);simp only[List.getElem_cons_zero,Nat.zero_mul,List.drop_zero] at G;refine⟨G.1,G.2,Kt fun i hi=>?_⟩;have:=h (i+1) (by simpa using hi);simp only[List.getElem_cons_succ] at this;rw[List.drop_drop,show st+i*st=(i+1)*st from by rw[Nat.add_mul];omega];exact this
theorem zV (hu:P.underlying t=some (.slice e))(hc:P.cellsOf t=1)(hn:0<n)(he:Rd P w e n Q):Rd P w t 1 (fun K=>∃rows,K=[.sl false n rows]∧∀r∈rows,r.length=n∧Q r):=
 ⟨hc,fun H ag base aa ad fuel cs x hx=>by
  rcases Deep.open_slice hu hx with ⟨rfl,_⟩|⟨a,J,af,m,fu,D,Pl,rfl,hb,hl,hm,ai,_,ah⟩
  ·refine⟨[.sl false n []],rfl,⟨_,_,rfl,rfl,?_,by simp only[jk]⟩,[],rfl,by simp⟩;simp only[bL];exact⟨none,0,0,rfl,rfl,⟨Nat.le_refl _,by omega⟩,fun _=>(by simp),fun a ha=>(by cases ha)⟩
  have al:J≤m:=by rw[ai];split<;>omega
  have ex:∀i,i<J→∃K:List PV,K.length=n∧Q K∧∃S,S.length=n∧(∀j,j<n→w.cell? ((a.add (i*n)).add j)=S[j]?)∧jk N0 w K S:=by
   intro i hi;obtain⟨S,h1,h2⟩:=ah i (by omega);rw[he.1] at h1;obtain⟨K,q1,q2,q3⟩:=he.2 H ag base aa ad _ _ _ h2;obtain⟨_,h3,h4⟩:=World.cells?_some h1;exact⟨K,q1,q3,S,h3,h4,q2⟩
  have ⟨f,hf⟩:∃f:Nat→List PV,∀i,i<J→(f i).length=n∧Q (f i)∧∃S,S.length=n∧(∀j,j<n→w.cell? ((a.add (i*n)).add j)=S[j]?)∧jk N0 w (f i) S:=by
   refine⟨fun i=>if h:i<J then (ex i h).choose else [],fun i hi=>?_⟩;simp only[hi,dif_pos];exact (ex i hi).choose_spec
  refine⟨[.sl false n ((List.range J).map f)],rfl,⟨_,_,rfl,rfl,?_,by simp only[jk]⟩,_,rfl,?_⟩
  ·simp only[bL];refine⟨some a,J,af,rfl,by simp,⟨hl,by unfold maxLen at hm;omega⟩,fun h=>(by cases h),fun a' ha=>?_⟩;simp only[Option.some.injEq] at ha;subst ha;by_cases h0:J=0
   ·subst h0;exact .inl rfl
   right
   have ae:=(hf 0 (by omega)).2.2;obtain⟨S,h1,h2,_⟩:=ae;have h2:=h2 0 hn;simp only[Nat.zero_mul] at h2;have G:(w.cell? ((a.add 0).add 0)).isSome=true:=by rw[h2];simp;omega
   have e0:(a.add 0).add 0=a:=by simp[Addr.add]
   rw[e0] at G;obtain⟨ak,off,V⟩:=a;unfold World.cell? at G;simp only at G;split at G
   ·rename_i X ty fr hg;have hs:V=none:=by
     cases V with
     |none=>rfl
     |some _=>simp at G
    subst hs;refine⟨rfl,id,X,ty,fr,hg,Kt fun i hi=>?_⟩;simp only[List.length_map,List.length_range] at hi;simp only[List.getElem_map,List.getElem_range];obtain⟨q1,q2,S,q3,q4,q5⟩:=hf i hi;refine⟨q1,?_⟩;rw[iH] at q5;rw[fA];have e1:S=((X.toList.drop off).drop (i*n)).take n:=by
     apply List.ext_getElem?;intro j;by_cases hj:j<n
     ·rw[←q4 j hj,addr_add,addr_add];simp only[World.cell?,hg,List.getElem?_take,hj,if_true,List.getElem?_drop,Option.isSome_none,Bool.false_eq_true,if_false];rw[←Nat.add_assoc,Array.getElem?_toList]
     rw[List.getElem?_eq_none (by omega),List.getElem?_eq_none (by simp;omega)]
    have:=q5.fp.app (((X.toList.drop off).drop (i*n)).drop n);rw[e1,List.take_append_drop] at this;exact this
   simp at G
  intro r hr;obtain⟨i,hi,rfl⟩:=List.mem_map.1 hr;simp only[List.mem_range] at hi;exact⟨(hf i hi).1,(hf i hi).2.1⟩⟩
def QF:List (Nat×(List PV→Prop))→List PV→Prop
 |[],G=>G=[]
 |(n,Q)::r,G=>∃a b,G=a++b∧a.length=n∧Q a∧QF r b
def szF:List (Nat×(List PV→Prop))→Nat
 |[]=>0
 |(n,_)::r=>n+szF r
def RdF (P:Program)(w:World):Nat→List Field→List (Nat×(List PV→Prop))→Prop
 |_,[],[]=>True
 |off,f::G,(n,Q)::r=>f.offset=off∧Rd P w f.type n Q∧RdF P w (off+n) G r
 |_,_,_=>False
theorem YD {α:Type}{R:α→Value→Prop}:∀{l J:List α} {m G:List Value},FC R l m→FC R J G→FC R (l++J) (m++G)
 |[],J,m,G,h,K=>by simp only[FC] at h;subst h;exact K
 |p::ps,J,m,G,h,K=>by obtain⟨v,r,rfl,S,V,X⟩:=h;exact⟨v,r++G,rfl,S,V,YD X K⟩
theorem IY {H:Type}{enc:TypeId×Value→H}{base:Nat}{spare:Nat→Bool}{held:Bool}{fu:Nat}{cs:List Value}:∀{fs:List Field} {sp:List (Nat×(List PV→Prop))} {off:Nat},
  RdF P w off fs sp→(∀f∈fs,∃y,DataW.trod enc P w base spare held fu f.type ((cs.drop f.offset).take (P.cellsOf f.type))=some y)→cs.length=off+szF sp →
  ∃G,G.length=szF sp∧jk N0 w G (cs.drop off)∧QF sp G
 | [],[],off,_,_,K=>by
   refine⟨[],rfl,?_,rfl⟩;simp only[jk];exact List.drop_eq_nil_of_le (by simp only[szF] at K;omega)
 |[],_::_,_,h,_,_=>h.elim
 |_::_,[],_,h,_,_=>h.elim
 | f::fs,(n,Q)::r,off,h,X,K=>by
   obtain⟨rfl,V,h2⟩:=h;obtain⟨y,hy⟩:=X f (by simp);obtain⟨a,a1,J,a3⟩:=V.2 H enc base spare held _ _ _ hy;rw[V.1] at J;obtain⟨b,b1,S,b3⟩:=IY h2 (fun g hg=>X g (by simp[hg])) (by simp only[szF] at K;omega);refine⟨a++b,by simp only[List.length_append,szF];omega,?_,a,b,rfl,a1,a3,b3⟩;rw[iH] at J S ⊢;have:=YD J S;rw[show cs.drop (f.offset+n)=(cs.drop f.offset).drop n from by rw[List.drop_drop],List.take_append_drop] at this;exact this
theorem wR {fs:Array Field}{sp:List (Nat×(List PV→Prop))}(S:P.underlying t=some (.struct fs))(hc:P.cellsOf t=szF sp)(J:RdF P w 0 fs.toList sp):Rd P w t (szF sp) (QF sp):=
 ⟨hc,fun H enc base spare held fuel cs x V=>by
  obtain⟨xs,fu,rfl,_,X,K,G⟩:=DataW.trod_struct S V;have:=IY (H:=H) (enc:=enc) (base:=base) (spare:=spare) (held:=held) (fu:=fu) (cs:=cs) J (fun f J=>by
   obtain⟨i,hi,rfl⟩:=List.getElem_of_mem J;simp only[Array.length_toList] at hi;refine⟨xs[i]'(by omega),?_⟩;rw[G i _ (by simp[hi])];simp) (by omega)
  simpa using this⟩
theorem nM {H:Reach}{base:Nat}{v:Value}(G:(match P.underlying t with|some (.struct _)=>false|some (.array _ _)=>false|some .bool=>true|some (.int _)=>true|some .string=>true|some (.slice _)=>true|_=>false)=true)
  (h:Value.okWide P w H base t v):∀cs,v ≠ .agg cs:=by
 rintro cs rfl
 unfold Value.okWide at h;split at h
 ·rename_i e;rw[e] at G;simp at G
 ·rename_i e;rw[e] at G;simp at G
 unfold Cell.okWide at h;split at h<;>simp_all [Cell.ok]
theorem Ec {H:Type}{enc:TypeId×Value→H}{base:Nat}{spare:Nat→Bool}{held:Bool}{v:Value}{d:DataW H}{ps:List MemPlace}(hr:Rd P w t 1 Q)(hv:∀cs,v ≠ .agg cs)
  (h:DataW.Trod enc P w base spare held t v d ps):∃p,Q [p]∧bL N0 w p v:=by
 obtain⟨fuel,h⟩:=h;have e:v.cells = #[v]:=by cases v<;>first|rfl|exact absurd rfl (hv _)
 rw[e] at h;obtain⟨G,K,S,V⟩:=hr.2 _ _ _ _ _ _ _ _ h;match G,K with
 | [p],_=>
   obtain⟨x,r,J,_,X,_⟩:=S;simp only[List.cons.injEq] at J;obtain⟨rfl,_⟩:=J;exact⟨p,V,X⟩
theorem adi {H:Type}{enc:TypeId×Value→H}{base J:Nat}{r:Reach}{spare:Nat→Bool}{held:Bool}{v:Value}{d:DataW H}{ps:List MemPlace}{fs:Array Field}(hu:P.underlying t=some (.struct fs))(X:Rd P w t n Q)
  (K:Value.okWide P w r J t v) (h:DataW.Trod enc P w base spare held t v d ps):∃G,Q G∧bL N0 w (.agg G) v:=by
 obtain⟨fuel,h⟩:=h;have ⟨cs,e⟩:∃cs,v=.agg cs:=by
  unfold Value.okWide at K;rw[hu] at K;obtain⟨cs,e,_⟩:=K;exact⟨cs,e⟩
 subst e;obtain⟨G,h1,S,V⟩:=X.2 _ _ _ _ _ _ _ _ h;exact⟨G,V,by simp only[bL];exact⟨cs,rfl,S⟩⟩
end
open Go.Sort Go.Shelf Go.Proofs
theorem I4 {N:Nat→Prop}{w:World}:∀{G vs:List Value},(∀v∈G,v.oneCell'=true)→(∀j,j<G.length→vs[j]? = G[j]?)→jD N w (G.map .sc) vs
 |[],vs,_,_=>by simp only[List.map_nil,jD]
 | v::r,vs,K,h=>by
   have J:=h 0 (by simp);match vs,J with
   | v'::Q,J=>
     simp only[List.getElem?_cons_zero,Option.some.injEq] at J;subst J;refine⟨v',Q,rfl,K v' (by simp),by simp only[bL],I4 (fun u V=>K u (by simp[V])) fun j S=>?_⟩;have:=h (j+1) (by simpa using S);simpa using this
theorem I5 {N:Nat→Prop}{w:World}:∀{G vs:List Value},jD N w (G.map .sc) vs→∀j,j<G.length→vs[j]? = G[j]?
 |[],vs,_,j,J=>by simp at J
 | v::r,vs,h,j,J=>by
   obtain⟨S,Q,rfl,_,K,h⟩:=h;simp only[bL] at K;subst K;cases j with
   |zero=>rfl
   |succ j=>simpa using I5 h j (by simpa using J)
section
variable {α:Type}[Inhabited α]{P:Program}{f g:Nat}{enc:α→List Value}{st:Nat}{e:TypeId}
theorem adj (sorted:Array α→Array α)(h0:0<st)(hl:∀x,(enc x).length=st)(h1:∀x,∀v∈enc x,v.oneCell'=true)(al:∀d,(sorted d).size=d.size)
  (aq:∀(Q off cap:Nat) (d:Array α) (w:World),HoldsK enc st w Q off d→Q<w.heap.size→d.size<4611686018427387904 →
   Calls P f #[.slice (some ⟨Q,off,none⟩) d.size cap,.func (.func g) #[] #[]] w fun e w'=>e=.returned (.tuple #[])∧∃n os,w'=sortWorldK enc st w Q off n (sorted d) os)
  (ad:dF P f [.sc (.slice none 0 0),.fn (.func g) [] []] (.cK [])) (l:List α) (a2:l.length<4611686018427387904) :
  dX P f [.aO 1 0,.pv (.fn (.func g) [] [])] [(1,.arr e 0 st (l.map fun x=>(enc x).map .sc))] (.pv (.cK [])) [(1,.arr e 0 st ((sorted l.toArray).toList.map fun x=>(enc x).map .sc))]:=by
 refine⟨ad.1,fun c R w dG hh ha=>?_⟩;obtain⟨a,az,yD⟩:∃a:Act,a.tmps.size=c.n∧a.defers=[]:=⟨{ tmps:=Array.replicate c.n undef,defers:=[] },by simp,rfl⟩;have gm:=hh.X3 (tm:=[]) (nx:=0) (a:=a) (fun t v h=>by simp[lk] at h) az (by rw[yD];exact⟨[],Marks.nil⟩);have ah:=hh.boxes 1 _ (show lk [(1,_)] 1=some _ from rfl);obtain⟨v1,r1,e1,G,v2,r2,rfl,am,rfl⟩:=ha;have ao:dG = #[v1,v2]:=by rw[←Array.toList_inj,e1]
 subst ao;simp only[au,lk,Nat.beq,aX] at G;have G:=G.2.2 trivial;have ar:v2=.func (.func g) #[] #[]:=by
  simp only[au,bL,fE] at am;obtain⟨fs,cs,rfl,h3,h4⟩:=am;rw[Array.toList_eq_nil_iff] at h3 h4;subst h3;subst h4;rfl
 subst ar;cases hn:R.nil 1 with
 | true=>
   obtain⟨xs,⟨_,h3⟩,_⟩:=ah;have a3:l=[]:=by
    rcases h3 with ⟨_,h3⟩|⟨g',cap,J,o',e1,_⟩
    ·simpa using h3
    simp[dW,hn] at e1
   subst a3;have ag:v1=.slice none 0 0:=by rw[G];simp[dW,hn]
   subst ag;refine (ad.2 (fun _=>False) w _ (fun r h=>h.elim) ?_).mono fun e' w' ⟨v,r,he,hr,hrep,hsame⟩=>?_
   ·exact⟨_,_,rfl,by simp only[bL],_,_,rfl,by simp only[bL];exact⟨#[],#[],rfl,by simp only[fE],by simp only[fE]⟩,by simp only[fE]⟩
   subst hr;have a6:(sorted (#[]:Array α)).toList=[]:=by
    have:=al #[];exact List.eq_nil_of_length_eq_zero (by simpa using this)
   refine⟨v,_,_,R,he,⟨rfl,rfl⟩,?_,?_⟩
   ·simp only[show ([]:List α).toArray = #[] from rfl,a6];exact (gm.grow hsame).hap
   simp only[au];simp only[bL] at hrep ⊢;obtain⟨vs,h5,h6⟩:=hrep;simp only[fE] at h6 ⊢;exact⟨vs,h5,h6⟩
 | false=>
   obtain⟨J,hg,hs,ai,hm,hr,_⟩:=gY ah hn;simp only[List.length_map] at ai G;have ag:v1=.slice (some ⟨R.blk 1,(R.cap 1).2.2,none⟩) l.toArray.size ((R.cap 1).1):=by rw[G];simp[dW,hn]
   subst ag;have ae:∀i (hi:i<l.length) j,j<st→J[(R.cap 1).2.2+(i*st+j)]? = (enc l[i])[j]? :=by
    intro i hi j K;obtain⟨_,q⟩:=rQ (i:=i) (row:=(enc l[i]).map .sc) hr (by simp[hi]);have:=I5 q j (by rw[hl];exact K);rw[List.getElem?_drop,List.getElem?_drop,Array.getElem?_toList] at this;exact this
   have hK:HoldsK enc st w (R.blk 1) (R.cap 1).2.2 l.toArray:=by
    intro j K;rw[size_flatK] at K;rw[get_flatK _ _ _ _ K];have hi:j / st<l.length:=(Nat.div_lt_iff_lt_mul h0).2 K;have hm:j%st<st:=Nat.mod_lt _ h0;have:=ae _ hi _ hm;rw[show j / st*st+j%st=j from by rw[Nat.mul_comm];exact Nat.div_add_mod j st] at this;refine⟨?_,by simp[World.frozen?,hg]⟩;simp only[World.cell?,hg,Option.isSome_none,Bool.false_eq_true,if_false,this,id];rw[getElem!_pos l.toArray _ (by simpa using hi),getElem!_pos _ _ (by simp only[List.getElem_toArray];rw[hl];exact hm)];simp only[List.getElem_toArray];rw[List.getElem?_eq_getElem (by rw[hl];exact hm)]
   have V:R.blk 1<w.heap.size:=size_of_getElem? hg;refine (aq (R.blk 1) (R.cap 1).2.2 ((R.cap 1).1) l.toArray w hK V (by simpa using a2)).mono fun e' w' ⟨he,n,os,hw⟩=>?_
   have EG:w'.heap=(w.heap.modify (R.blk 1) (onCells (putCells id (R.cap 1).2.2 (Go.Sort.flatK enc st (sorted l.toArray)))))++os:=by subst hw;rfl
   have a0:w'.heap[R.blk 1]? = some (.cells (putCells id (R.cap 1).2.2 (Go.Sort.flatK enc st (sorted l.toArray)) J) e (0,0)):=by
    rw[EG,Array.getElem?_append_left (by simpa using V),Array.getElem?_modify,if_pos rfl,hg];rfl
   have ap:∀r,r<w.heap.size→r≠R.blk 1→w'.heap[r]? = w.heap[r]? :=by
    intro r hr a4;rw[EG,Array.getElem?_append_left (by simpa using hr),Array.getElem?_modify,if_neg (fun h=>a4 h.symm)]
   have S:mV (fun r=>aQ R 1 r (lk [(1,aI.arr e 0 st (l.map fun x=>(enc x).map .sc))] 1)) w w':=by
    refine⟨by rw[EG];simp,fun r hr a5=>ap r hr fun h=>a5 ?_,by subst hw;rfl,by subst hw;rfl,by subst hw;rfl⟩;subst h;exact⟨hn,rfl⟩
   have aa:(sorted l.toArray).size=l.length:=by rw[al];simp
   have hR:∀b',b'≠1→R.blk b'=R.blk b'∧R.nil b'=R.nil b'∧R.cap b'=R.cap b':=fun _ _=>⟨rfl,rfl,rfl⟩
   have aw:((sorted l.toArray).toList.map fun x=>(enc x).map PV.sc).length=(l.map fun x=>(enc x).map PV.sc).length:=by simp[aa]
   have r1:∀off v,bf R 1 off v (lk [(1,aI.arr e 0 st (l.map fun x=>(enc x).map .sc))] 1)→bf R 1 off v (some (.arr e 0 st ((sorted l.toArray).toList.map fun x=>(enc x).map .sc))):=fun off v h=>h
   have r2:∀ver v,aX R 1 ver v (lk [(1,aI.arr e 0 st (l.map fun x=>(enc x).map .sc))] 1)→aX R 1 ver v (some (.arr e 0 st ((sorted l.toArray).toList.map fun x=>(enc x).map .sc))):=fun ver v h=>by
    simp only[lk,Nat.beq,aX,aw] at h ⊢;exact h
   have r3:∀ver i off v,bC R 1 ver i off v (lk [(1,aI.arr e 0 st (l.map fun x=>(enc x).map .sc))] 1)→bC R 1 ver i off v (some (.arr e 0 st ((sorted l.toArray).toList.map fun x=>(enc x).map .sc))):=fun ver i off v h=>h
   have ak:∀r,aQ R 1 r (some (.arr e 0 st ((sorted l.toArray).toList.map fun x=>(enc x).map .sc)))→aQ R 1 r (lk [(1,aI.arr e 0 st (l.map fun x=>(enc x).map .sc))] 1)∨w.heap.size≤r:=fun r h=>.inl h
   have ax:=gm.upd (nx':=0) hR r1 r2 r3 ak S (by
    refine⟨((putCells id (R.cap 1).2.2 (Go.Sort.flatK enc st (sorted l.toArray)) J).toList.drop (R.cap 1).2.2).take ((sorted l.toArray).size*st),⟨?_,.inr ⟨R.blk 1,(R.cap 1).1,_,(R.cap 1).2.2,by simp[dW,hn],a0,by simp only[List.length_map,Array.length_toList,aa];exact ai,hm,?_,by simp⟩⟩,Kt fun i hi=>?_⟩
    ·simp only[List.length_take,List.length_drop,Array.length_toList,putCells,Array.size_mapIdx,List.length_map];have:(sorted l.toArray).size*st≤(R.cap 1).1*st:=Nat.mul_le_mul_right _ (by omega);omega
    ·simp only[putCells,Array.size_mapIdx];exact hs
    simp only[List.length_map,Array.length_toList] at hi;simp only[List.getElem_map,Array.getElem_toList,List.length_map];refine⟨hl _,I4 (h1 _) fun j K=>?_⟩;rw[hl] at K;have af:i*st+j<(sorted l.toArray).size*st:=by
     have:(i+1)*st≤(sorted l.toArray).size*st:=Nat.mul_le_mul_right _ hi;rw[Nat.add_mul] at this;omega
    have a1:(R.cap 1).2.2+(i*st+j)<J.size:=by
     have:(sorted l.toArray).size*st≤(R.cap 1).1*st:=Nat.mul_le_mul_right _ (by omega);omega
    rw[List.getElem?_drop,List.getElem?_take,if_pos af,List.getElem?_drop,Array.getElem?_toList];simp only[putCells,Array.getElem?_mapIdx,size_flatK,Nat.le_add_right,Nat.add_lt_add_iff_left,true_and,af,if_true,Nat.add_sub_cancel_left,id];rw[Array.getElem?_eq_getElem a1];simp only[Option.map_some];rw[get_flatK _ _ _ _ af];have e3:(i*st+j) / st=i:=by rw[Nat.mul_comm,Nat.mul_add_div h0,Nat.div_eq_of_lt K,Nat.add_zero]
    have e4:(i*st+j)%st=j:=by rw[Nat.mul_comm,Nat.mul_add_mod,Nat.mod_eq_of_lt K]
    rw[e3,e4,getElem!_pos (sorted l.toArray) _ hi,getElem!_pos (enc (sorted l.toArray)[i]) _ (by rw[hl];exact K),List.getElem?_eq_getElem (by rw[hl];exact K)])
   have H:Yq [(1,.old 1 0)] ((1,aI.arr e 0 st ((sorted l.toArray).toList.map fun x=>(enc x).map .sc))::[(1,aI.arr e 0 st (l.map fun x=>(enc x).map .sc))]) [(1,aI.arr e 0 st ((sorted l.toArray).toList.map fun x=>(enc x).map .sc))]:=by
    refine Kq (X:=True) rfl ?_;repeat' first|exact True.intro|exact rfl|exact id|exact ay _|((conv=>whnf);with_reducible apply And.intro)|((conv=>whnf);exact True.intro)
   refine⟨_,_,[(1,.arr e 0 st ((sorted l.toArray).toList.map fun x=>(enc x).map .sc))],_,he,⟨rfl,rfl⟩,ax.hap.weaken H,?_⟩;simp only[au,bL,fE];exact⟨#[],rfl,rfl⟩
end
def dA (n l m:Int):Bool:=decide (l≤n)&&decide (n≤m)
def vR (x:Pl):Bool:=dA x.node 1 15&&dA x.aH 1 4611686018427387903
def iK (w:Int)(f:Fr):Bool:=dA f.first 1 9&&(dA f.ah.length w 5&&(f.ah.all vR&&decide (f.ah.map (·.node)).Nodup))
def q9 (l:List Fr):Bool:=
 match l with
 |[]=>false
 |f::_=>f.first==1
def dh (w:Int)(l:List Fr):Bool:=dA l.length 1 6&&(q9 l&&(l.all (iK w)&&decide (l.Pairwise fun a b=>a.first<b.first)))
def dN (l:Lg):Bool:=dA l.id 1 4611686018427387903&&(dA l.a 1 l.w&&(decide (l.w≤5)&&(dh l.w l.af&&(dA l.closed 0 1&&decide (l.last≤8*l.closed)))))
theorem tY {α:Type}{key:α→Int}{l:List α}(h:∀j (G:j+1<l.length),key (l[j]'(by omega))<key l[j+1]):l.Pairwise fun a b=>key a<key b:=by
 rw[List.pairwise_iff_getElem];intro i j hi G J;induction j with
 |zero=>omega
 | succ j ih=>
   by_cases e:i=j
   ·subst e;exact h i G
   exact Int.lt_trans (ih (by omega) (by omega)) (h j G)
def CS (x y:Pl):Int:=Go.Lib.compareInt x.node y.node
def Ad (d:Array Pl):Array Pl:=Go.Sort.pdq (Go.Proofs.ltOf CS) d 0 d.size (Go.Lib.bitLen d.size) true true
def sortPl (l:List Pl):List Pl:=(Ad l.toArray).toList
theorem adB (x y:Pl):Go.Proofs.ltOf CS x y=decide (x.node<y.node):=by
 unfold Go.Proofs.ltOf CS Go.Lib.compareInt;by_cases G:x.node<y.node
 ·simp[G]
 by_cases J:y.node<x.node<;>simp[G,J]
theorem afr:Go.Sort.SWO (Go.Proofs.ltOf CS) where
 irrefl x:=by rw[adB];simp
 trans x y z h1 h2:=by rw[adB] at *;simp at *;omega
 ntrans x y z h1 h2:=by rw[adB] at *;simp at *;omega
theorem vS (d:Array Pl):Go.Sort.PermIn 0 d.size d (Ad d)∧Go.Sort.SortedIn (Go.Proofs.ltOf CS) 0 d.size (Ad d):=
 Go.Sort.pdq_sorts (Go.Proofs.ltOf CS) afr d 0 d.size (Go.Lib.bitLen d.size) true true (Nat.zero_le _) (Nat.le_refl _) (Or.inl rfl)
theorem F4 (d:Array Pl):(Ad d).size=d.size:=(vS d).1.1
theorem MX (l:List Pl):(sortPl l).Perm l:=by
 have h:=(vS l.toArray).1;have J:=h.1;have G:=h.2.2;rw[show (Ad l.toArray).extract 0 l.toArray.size=Ad l.toArray from by rw[←J];simp,show l.toArray.extract 0 l.toArray.size=l.toArray from by simp] at G;exact G
theorem H6 (l:List Pl):(sortPl l).Pairwise fun a b=>a.node≤b.node:=by
 have h:=(vS l.toArray).2;have K:=F4 l.toArray;rw[List.pairwise_iff_getElem];intro i j hi J G;simp only[sortPl,Array.length_toList] at hi J;have:=h i j (Nat.zero_le _) G (by omega);rw[adB,getElem!_pos (Ad l.toArray) j J,getElem!_pos (Ad l.toArray) i hi] at this;simp only[sortPl,Array.getElem_toList];simp at this;exact this
theorem MZ (l:List Pl):decide ((sortPl l).Pairwise fun a b=>a.node<b.node)=decide (l.map (·.node)).Nodup:=by
 rw[decide_eq_decide];have G:=(MX l).map (·.node);rw[←G.nodup_iff];unfold List.Nodup;rw[List.pairwise_map];constructor
 ·intro h;exact h.imp fun {a b} h=>by omega
 intro h;exact ((H6 l).and h).imp fun {a b} h=>by omega
def Lg.ok (l:Lg):Prop:=∀x∈l.af,x.ah.length≤8796093022208
section
variable {α:Type}
def Fr.ok (f:Fr):Prop:=0≤f.first∧f.first≤18446744073709551615∧f.ah.length≤8796093022208
def aY (l:List Fr):Prop:=∀x∈l,x.ok
def iY (p:α→Bool)(l:List α):Option α:=l.foldl (fun o x=>if p x then some x else o) none
theorem F5 {β:Type}(f:β→α→β)(a:β)(l:List α)(k:Nat)(h:k<l.length):(l.take (k+1)).foldl f a=f ((l.take k).foldl f a) l[k]:=by
 rw[List.take_succ_eq_append_getElem h,List.foldl_append];rfl
theorem nu (p:α→Bool):∀(l:List α) (x:α),iY p l=some x→x∈l∧p x=true:=by
 have:∀(l:List α) (o:Option α) (x:α),l.foldl (fun o x=>if p x then some x else o) o=some x→(x∈l∧p x=true)∨o=some x:=by
  intro l;induction l with
  |nil=>intro o x h;exact .inr h
  | cons y l ih=>
    intro o x h;rcases ih _ x h with ⟨G,J⟩|G
    ·exact .inl ⟨by simp[G],J⟩
    simp only at G;split at G
    ·simp only[Option.some.injEq] at G;subst G;rename_i K;exact .inl ⟨by simp,K⟩
    exact .inr G
 intro l x h;rcases this l none x h with h|h
 ·exact h
 cases h
def eH (l:List Fr)(n:Int):Option Fr:=iY (fun f=>decide (f.first≤n)) l
def kT:Fr:=⟨0,[]⟩
def eP (l:List Pl)(k w:Nat):List Pl:=(List.range w).map fun i=>l[(k+i)%l.length]!
def setOf (l:List Fr)(w n:Int):List Pl:=
 match eH l n with
 |none=>[]
 |some f=>if 1≤w∧w≤f.ah.length then eP f.ah ((n-f.first)%f.ah.length).toNat w.toNat else []
theorem wX {l:List Fr}(h:aY l){n:Int}{f:Fr}(K:eH l n=some f):f.ok∧f.first≤n:=by
 obtain⟨G,J⟩:=nu _ _ _ K;exact⟨h f G,by simpa using J⟩
theorem F6 {l:List Fr}(h:aY l)(n:Int):((eH l n).getD kT).ah.length≤8796093022208:=by
 cases G:eH l n with
 |none=>simp[kT]
 |some f=>exact (wX h G).1.2.2
def adC (f:Ft)(a now:Int):Ft:={ f with at_:=(max a 0).tmod f.set.length,since:=now }
def afs (f:Ft):Rq:={ to:=f.set[f.at_.toNat]!,kind:=3,bI:=f.bI,n:=f.n,ak:=f.tag,sure:=0,copy:=0,body:=[],keep:=[] }
structure Hd (p:Prop):Prop where
 out:p
def ow (p:α→Bool):List α→Int
 |[]=>-1
 | x::r=>match ow p r with
   |.ofNat n=>n+1
   |.negSucc _=>if p x then 0 else -1
theorem vT (p:α→Bool):∀{l:List α},(∀x∈l,p x=false)→ow p l = -1
 |[],_=>rfl
 | x::r,h=>by
   have e:=vT p (l:=r) fun y G=>h y (by simp[G])
   simp only[ow,e,h x (by simp)];rfl
theorem Jo (p:α→Bool):∀{l:List α} {k:Nat} (K:k<l.length),(∀j (J:j<l.length),k<j→p l[j]=false)→p l[k]=true→ow p l=k
 |[],k,K,_,_=>by simp at K
 | x::r,0,_,h,G=>by
   have e:=vT p (l:=r) fun y S=>by
    obtain⟨j,J,rfl⟩:=List.getElem_of_mem S;have:=h (j+1) (by simpa using J) (by omega);simpa using this
   simp only[List.getElem_cons_zero] at G;simp only[ow,e,G];rfl
 | x::r,k+1,K,h,G=>by
   simp only[List.getElem_cons_succ] at G;have e:=Jo p (l:=r) (k:=k) (by simpa using K) (fun j J Q=>by
    have:=h (j+1) (by simpa using J) (by omega);simpa using this) G
   simp only[ow,e];show ((k:Int)+1=_)
   omega
theorem F7 (p:α→Bool)(x:α)(r:List α):iY p (x::r)=(iY p r).or (if p x then some x else none):=by
 have:∀(l:List α) (o:Option α),l.foldl (fun o x=>if p x then some x else o) o=(l.foldl (fun o x=>if p x then some x else o) none).or o:=by
  intro l;induction l with
  |nil=>intro o;simp
  | cons y l ih=>
    intro o;simp only[List.foldl_cons];rw[ih,ih (if p y then some y else none)];split<;>simp
 simp only[iY,List.foldl_cons];rw[this]
theorem Ae (p:α→Bool):∀(l:List α),(ow p l = -1∧iY p l=none)∨∃k,∃K:k<l.length,ow p l=(k:Nat)∧iY p l=some l[k]
 |[]=>.inl ⟨rfl,rfl⟩
 | x::r=>by
   rw[F7];rcases Ae p r with ⟨G,J⟩|⟨k,K,G,J⟩
   ·cases Q:p x with
    | true=>
      refine .inr ⟨0,by simp,?_,by simp[J]⟩;simp only[ow,G,Q];rfl
    | false=>
      refine .inl ⟨?_,by simp[J]⟩;simp only[ow,G,Q];rfl
   refine .inr ⟨k+1,by simpa using K,?_,by simp[J]⟩;simp only[ow,G];show ((k:Int)+1=_)
   omega
def yL (w:Int)(l:List Fr)(j:Nat)(G:j<l.length):Prop:=
 l[j].first≤9∧(∀h:0<j,(l[j-1]'(by omega)).first<l[j].first)∧w≤l[j].ah.length∧l[j].ah.length≤5∧l[j].ah.all vR=true∧(l[j].ah.map (·.node)).Nodup
theorem yM (l:List Fr):q9 l=true↔∃h:0<l.length,l[0].first=1:=by
 cases l with
 |nil=>simp[q9]
 |cons f r=>simp[q9]
theorem j5 (w:Int)(l:List Fr):dh w l=true↔1≤l.length∧l.length≤6∧q9 l=true∧∀j (G:j<l.length),yL w l j G:=by
 simp only[dh,Bool.and_eq_true,dA,decide_eq_true_eq,List.all_eq_true];constructor
 ·rintro⟨⟨h1,h2⟩,K,J,h5⟩
  refine⟨by omega,by omega,K,fun j G=>?_⟩;have:=J l[j] (List.getElem_mem G);simp only[iK,Bool.and_eq_true,dA,decide_eq_true_eq,List.all_eq_true] at this;obtain⟨⟨a1,Q⟩,⟨S,a4⟩,V,X⟩:=this;refine⟨Q,fun h=>?_,S,by omega,List.all_eq_true.2 V,X⟩;exact List.pairwise_iff_getElem.1 h5 (j-1) j (by omega) G (by omega)
 rintro⟨h1,h2,K,J⟩
 refine⟨⟨by omega,by omega⟩,K,fun x hx=>?_,?_⟩
 ·obtain⟨j,G,rfl⟩:=List.getElem_of_mem hx;obtain⟨Q,a1,S,a4,V,X⟩:=J j G;simp only[iK,Bool.and_eq_true,dA,decide_eq_true_eq];refine⟨⟨?_,Q⟩,⟨S,by omega⟩,V,X⟩;obtain⟨h0,e0⟩:=(yM l).1 K;have:∀j (G:j<l.length),1≤l[j].first:=by
   intro j;induction j with
   |zero=>intro G;omega
   | succ j ih=>
     intro G;have:=ih (by omega);have:=(J (j+1) G).2.1 (by omega);simp only[Nat.add_sub_cancel] at this;omega
  exact this j G
 exact tY (key:=fun f:Fr=>f.first) fun j G=>by
  have:=(J (j+1) G).2.1 (by omega);simp only[Nat.add_sub_cancel] at this;exact this
theorem Qz {w:Int}{l:List Fr}{j:Nat}(G:j<l.length)(h:¬yL w l j G):dh w l=false:=by
 cases e:dh w l with
 |false=>rfl
 |true=>exact absurd (((j5 w l).1 e).2.2.2 j G) h
theorem QA {l:List Pl}{k:Nat}(Q:k<l.length)(h:((l.take k).map (·.node)).Nodup)(J:∀i (hi:i<l.length),i<k→l[i].node≠l[k].node):((l.take (k+1)).map (·.node)).Nodup:=by
 rw[List.take_succ_eq_append_getElem Q,List.map_append];rw[List.nodup_append];refine⟨h,by simp,?_⟩;intro a K b G;simp only[List.map_cons,List.map_nil,List.mem_singleton] at G;subst G;obtain⟨x,S,rfl⟩:=List.mem_map.1 K;obtain⟨i,hi,rfl⟩:=List.getElem_of_mem S;rw[List.length_take] at hi;rw[List.getElem_take];exact J i (by omega) (by omega)
theorem F8 {w n:Int}{l:List Fr}(h:dh w l=true)(G:1≤n):∃f,eH l n=some f∧f∈l:=by
 obtain⟨h1,h2,V,h4⟩:=(j5 w l).1 h;obtain⟨S,X⟩:=(yM l).1 V;cases Q:eH l n with
 |some f=>exact⟨f,rfl,(nu _ _ _ Q).1⟩
 | none=>
   exfalso;have:∀(l:List Fr),iY (fun f:Fr=>decide (f.first≤n)) l=none→∀x∈l,¬x.first≤n:=by
    intro l;induction l with
    |nil=>intro _ x J;simp at J
    | cons y l ih=>
      intro G x J;rw[F7] at G;simp only[Option.or_eq_none_iff] at G;rcases List.mem_cons.1 J with rfl|J
      ·intro K;have:=G.2;simp[K] at this
      exact ih G.1 x J
   exact this l Q l[0] (List.getElem_mem S) (by omega)
theorem Vn {l:Lg}(h:dN l=true){n:Int}(V:1≤n):(setOf l.af l.w n).length=l.w.toNat∧1≤l.w∧l.w≤5:=by
 simp only[dN,Bool.and_eq_true,dA,decide_eq_true_eq] at h;obtain⟨⟨X,a2⟩,⟨a3,a4⟩,J,G,⟨a7,a8⟩,a9⟩:=h;obtain⟨f,K,S⟩:=F8 G V;obtain⟨j,Q,rfl⟩:=List.getElem_of_mem S;have g:=((j5 _ _).1 G).2.2.2 j Q;refine⟨?_,by omega,J⟩;simp only[setOf,K];rw[if_pos ⟨by omega,g.2.2.1⟩];simp[eP]
theorem mod_succ (a n:Nat)(h:0<n):(a+1)%n=if a%n+1=n then 0 else a%n+1:=by
 have G:=Nat.div_add_mod a n;have J:=Nat.mod_lt a h;split
 ·rename_i e;have:a+1=n*(a / n+1):=by rw[Nat.mul_add];omega
  rw[this,Nat.mul_mod_right]
 have:a+1=n*(a / n)+(a%n+1):=by omega
 rw[this,Nat.mul_add_mod,Nat.mod_eq_of_lt (by omega)]
end
structure Cl where
 what:Int
 own:Int
 now:Int
 r:Rs
 l:Lg
deriving DecidableEq,Inhabited
def Cl.c (x:Cl):List PV:=[ii x.what,ii x.own,uu x.now,ii x.r.from_.node,uu x.r.from_.aH,ii x.r.kind,ii x.r.code,uu x.r.bI,uu x.r.n,uu x.r.ak,uu x.r.sure,CR x.r.body,
 uu x.l.id,ii x.l.w,ii x.l.a,cB x.l.af,ii x.l.closed,uu x.l.last]
def CU (l:List Fr):Bool:=decide (l.length>30)||l.any fun f=>decide ((f.ah.length:Int)>30)
def gU (n:Int):Prop:=0≤n∧n≤18446744073709551615
def M4 (n:Int):Prop:=-9223372036854775808≤n∧n≤9223372036854775807
def lgR (l:Lg):Prop:=gU l.id∧M4 l.w∧M4 l.a∧M4 l.closed∧gU l.last∧∀f∈l.af,gU f.first
theorem M5 {l:Lg}(h:lgR l)(J:CU l.af=false):aY l.af∧l.ok:=by
 simp only[CU,Bool.or_eq_false_iff,List.any_eq_false,decide_eq_true_eq] at J;refine⟨fun f G=>?_,fun f G=>?_⟩
 ·have:=h.2.2.2.2.2 f G;have:=J.2 f G;exact⟨by simp only[gU] at *;omega,by simp only[gU] at *;omega,by omega⟩
 have:=J.2 f G;omega
structure M6 (n:Int)(f:Ft):Prop where
 n:f.n=n
 pos:0<f.set.length
 len:f.set.length≤5
 at0:0≤f.at_
 at1:f.at_<f.set.length
 body:f.body.length≤5000
 since:gU f.since
 done:f.done=0∨f.done=1
theorem M6.sm {n:Int}{f:Ft}(h:M6 n f):f.set.length≤8796093022208∧f.body.length≤140737488355328:=⟨by have:=h.len;omega,by have:=h.body;omega⟩
theorem Vo {n:Int}{f:Ft}{a now:Int}(X:f.n=n)(hp:0<f.set.length)(V:f.set.length≤5)(Q:f.body.length≤5000)(S:f.done=0∨f.done=1)(G:gU now):M6 n (adC f a now):=by
 have J:0≤(max a 0).tmod f.set.length:=Int.tmod_nonneg _ (by omega);have K:(max a 0).tmod f.set.length<f.set.length:=by
  rw[Int.tmod_eq_emod_of_nonneg (by omega)];exact Int.emod_lt_of_pos _ (by omega)
 exact⟨X,hp,V,J,K,Q,G,S⟩
end Go.AX
end
section
namespace Go.AX
end Go.AX
end
section
namespace Go.AX
theorem adD {n:Int}{f:Ft}(h:M6 n f){j:Nat}(G:f.at_=((j%f.set.length:Nat):Int))(now:Int):(adC f (f.at_+1) now).at_=(((j+1)%f.set.length:Nat):Int):=by
 have J:=h.pos;simp only[adC];rw[G,show max (((j%f.set.length:Nat):Int)+1) 0=((j%f.set.length+1:Nat):Int) from by omega,←Int.ofNat_tmod];congr 1
 rw[Nat.mod_add_mod]
structure Und (n:Int)(S:List Pl)(a0:Nat)(has:Pl)(f:Ft)(now:Int)(J:Nat)(pend:Bool):Prop where
 good:M6 n f
 done:f.done=0
 set:f.set=S
 at_:f.at_=(((a0+J)%S.length:Nat):Int)
 since:f.since≤now
 seen:∀i,1≤i→i≤J→(i<J∨pend=false)→S[(a0+i)%S.length]! ≠ has
theorem Und.ask {n:Int}{S:List Pl}{Q:Nat}{has:Pl}{f:Ft}{now G:Int}{J:Nat}(u:Und n S Q has f now J false)(V:gU G):Und n S Q has (adC f (f.at_+1) G) G (J+1) true:=by
 have hs:=u.set;refine⟨Vo u.good.n u.good.pos u.good.len u.good.body u.good.done V,u.done,u.set,?_,Int.le_refl _,fun i X h2 K=>u.seen i X (by rcases K with K|K;(omega);(cases K)) (.inr rfl)⟩;have:=adD u.good (j:=Q+J) (by rw[u.at_,hs]) G;rw[this,hs];rfl
theorem Und.passed {n:Int}{S:List Pl}{K:Nat}{has:Pl}{f:Ft}{now:Int}{J:Nat}(u:Und n S K has f now J true)(G:(afs f).to≠has):Und n S K has f now J false:=by
 refine⟨u.good,u.done,u.set,u.at_,u.since,fun i Q V h3=>?_⟩;by_cases c:i<J
 ·exact u.seen i Q V (.inl c)
 have e:i=J:=by omega
 subst e;intro X;apply G;simp only[afs,u.set,u.at_,Int.toNat_natCast];exact X
structure Cp where
 l:Lg
 from_:Pl
 to:Pl
 phase:Int
 n:Int
 none:List Pl
 body:List UInt8
 born:Int
 since:Int
deriving DecidableEq
def Cp.c (x:Cp):List PV:=[uu x.l.id,ii x.l.w,ii x.l.a,cB x.l.af,ii x.l.closed,uu x.l.last,ii x.from_.node,uu x.from_.aH,ii x.to.node,uu x.to.aH,ii x.phase,uu x.n,av x.none,CR x.body,uu x.born,uu x.since]
def Cp.v (x:Cp)(no:AV):List AV:=[.pv (uu x.l.id),.pv (ii x.l.w),.pv (ii x.l.a),.pv (cB x.l.af),.pv (ii x.l.closed),.pv (uu x.l.last),.pv (ii x.from_.node),.pv (uu x.from_.aH),.pv (ii x.to.node),.pv (uu x.to.aH),.pv (ii x.phase),.pv (uu x.n),no,.pv (CR x.body),.pv (uu x.born),.pv (uu x.since)]
def Af (l:List Pl)(G to:Pl):Bool:=l.any fun p=>p.node==to.node&&p != G
def M7 (l:Lg)(G to:Pl):Bool:=
 (l.af.all fun f=>!(f.ah.any (· == G)) || !Af f.ah G to)&&(l.af.any fun f=>f.ah.any (· == G))&&G != to
def KH (l:Lg):Bool:=dN l&&l.closed==1
structure Cp.sm (c:Cp):Prop where
 h1:c.none.length≤8796093022208
 h2:c.body.length≤140737488355328
 h3:c.l.af.length≤4398046511104
 h4:c.l.ok
def Cp.z:List AV:=[.pv (uu 0),.pv (ii 0),.pv (ii 0),.pv gB,.pv (ii 0),.pv (uu 0),.pv (ii 0),.pv (uu 0),.pv (ii 0),.pv (uu 0),.pv (ii 0),.pv (uu 0),.pv gB,.pv gB,.pv (uu 0),.pv (uu 0)]
def kI (l:Lg)(J:Pl)(G:Int)(k:Nat):List Int:=
 ((List.range' k ((l.last-G).toNat-k)).map fun (i:Nat)=>G+1+(i:Int)).filter fun n=>(setOf l.af l.w n).any (· == J)
theorem CV (l:Lg)(J:Pl)(G:Int)(k:Nat)(h:¬G+1+(k:Int)≤l.last):kI l J G k=[]:=by
 have:(l.last-G).toNat-k=0:=by omega
 simp[kI,this]
theorem KI (l:Lg)(J:Pl)(G:Int)(k:Nat)(h:G+1+(k:Int)≤l.last):kI l J G k =
  if (setOf l.af l.w (G+1+(k:Int))).any (· == J) then (G+1+(k:Int))::kI l J G (k+1) else kI l J G (k+1):=by
 obtain⟨m,Q⟩:∃m,(l.last-G).toNat-k=m+1:=⟨(l.last-G).toNat-k-1,by omega⟩;have K:(l.last-G).toNat-(k+1)=m:=by omega
 simp only[kI,Q,K,List.range'_succ,List.map_cons,List.filter_cons]
def yN (l:Lg)(J:Pl)(G:Int):List Int:=
 if KH l&&decide (G<l.last) then kI l J G 0 else []
def others (c:Cp):List Pl:=(setOf c.l.af c.l.w c.n).filter fun p=>!(p==c.from_)
def adF (c:Cp)(now:Int):Cp×List Rq:=
 if c.phase=2 then ({ c with since:=now },[⟨c.to,1,c.l.id,c.n,0,c.l.last,1,c.body,[]⟩])
 else
  let G:=if (others c).all fun p=>c.none.any (· == p) then [] else c.none
  ({ c with since:=now,none:=G },((others c).filter fun p=>!G.any (· == p)).map fun p=>⟨p,3,c.l.id,c.n,0,0,0,[],[]⟩)
def onC (c:Cp)(now:Int):Cp×List Rq:=
 match yN c.l c.from_ c.n with
 |n::_=>adF { c with none:=[],body:=[],phase:=1,n:=n,born:=now } now
 |[]=>({ c with none:=[],body:=[],phase:=3,n:=0 },[])
theorem adG {s Q:AS}(J:List Nat)(h:match JZ s.hp J with|some K=>ada (s.app K) Q|none=>False)(c:Ctx)(R:Real)(a:Act)(w:World)(g:bN c R s a w):∃S,bN c S Q a w:=by
 split at h
 ·rename_i K G;obtain⟨V,_⟩:=kE g (fun _ _ h=>h) _ _ G;exact aD h c R a w V
 exact h.elim
theorem Zr {l:Lg}{G to:Pl}(k:Nat)(h:k<l.af.length)(J:(l.af[k].ah.any (· == G))=true)(K:Af l.af[k].ah G to=true):M7 l G to=false:=by
 have:(l.af.all fun f=>!(f.ah.any (· == G)) || !Af f.ah G to)=false:=by
  rw[List.all_eq_false];exact⟨l.af[k],List.getElem_mem h,by simp[J,K]⟩
 simp[M7,this]
theorem CW {l:Lg}{J:Pl}{G:Int}{k:Nat}{n:Int}(h:n∈kI l J G k):G<n∧n≤l.last∧(setOf l.af l.w n).any (· == J)=true:=by
 unfold kI at h;rw[List.mem_filter,List.mem_map] at h;obtain⟨⟨i,hi,rfl⟩,K⟩:=h;rw[List.mem_range'_1] at hi;exact⟨by omega,by omega,K⟩
theorem M8 {l:Lg}(G:KH l=true):l.last≤8∧dN l=true:=by
 unfold KH at G;simp only[Bool.and_eq_true,beq_iff_eq] at G;refine⟨?_,G.1⟩;have J:=G.1;unfold dN at J;simp only[Bool.and_eq_true,decide_eq_true_eq] at J;have:=J.2.2.2.2.2;omega
theorem M9 {l:Lg}{J:Pl}{G:Int}{n:Int}(h:n∈yN l J G):G<n∧n≤l.last∧l.last≤8∧(setOf l.af l.w n).any (· == J)=true:=by
 unfold yN at h;split at h
 ·rename_i hc;simp only[Bool.and_eq_true] at hc;obtain⟨K,Q,S⟩:=CW h;exact⟨K,Q,(M8 hc.1).1,S⟩
 simp at h
def takeC (c:Cp)(now:Int)(r:Rs):Cp×List Rq:=
 if r.bI != c.l.id||(r.n != c.n||r.ak != 0) then (c,[])
 else if c.phase==1&&(r.kind==3&&(others c).any (· == r.from_)) then
  if r.code==0 then adF { c with phase:=2,body:=r.body } now
  else if r.code==3 then (if c.none.any (· == r.from_) then c else { c with none:=c.none++[r.from_] },[])
  else (c,[])
 else if c.phase==2&&(r.kind==1&&r.from_.node==c.to.node) then
  if r.code==0&&r.from_==c.to then onC c now
  else if r.code==4||(r.code==2&&r.from_==c.to) then ({ c with phase:=4 },[])
  else (c,[])
 else (c,[])
def oth (l:Lg)(G:Pl)(n:Int):List Pl:=(setOf l.af l.w n).filter fun p=>!(p==G)
def F9 (l:Lg)(n:Int)(p:Pl):Rq:=⟨p,3,l.id,n,0,0,0,[],[]⟩
def QB (l:Lg)(to:Pl)(n:Int)(b:List UInt8):Rq:=⟨to,1,l.id,n,0,l.last,1,b,[]⟩
theorem Ga (l:List Pl):(l.filter fun p=>!([]:List Pl).any (· == p))=l:=by simp
theorem Zt {c:Cp}{n:Int}{r:List Int}(h:yN c.l c.from_ c.n=n::r)(now:Int) :
  onC c now=(⟨c.l,c.from_,c.to,1,n,[],[],now,now⟩,(oth c.l c.from_ n).map (F9 c.l n)):=by
 unfold onC;rw[h];simp only[adF];rw[if_neg (by omega)];simp only[ite_self,Ga];rfl
theorem adH {c:Cp}(h:yN c.l c.from_ c.n=[])(now:Int):onC c now=(⟨c.l,c.from_,c.to,3,0,[],[],c.born,c.since⟩,[]):=by
 unfold onC;rw[h]
theorem KJ {l:Lg}{f:Pl}:∀(m k:Nat) {b n:Int} {r:List Int},(l.last-b).toNat-k=m→kI l f b k=n::r→b<n∧n≤l.last∧kI l f n 0=r:=by
 intro m;induction m with
 | zero=>
   intro k b n r G h;rw[CV l f b k (by omega)] at h;cases h
 | succ m ih=>
   intro k b n r G h;rw[KI l f b k (by omega)] at h;split at h
   ·rename_i Q;simp only[List.cons.injEq] at h;obtain⟨rfl,rfl⟩:=h;refine⟨by omega,by omega,?_⟩;unfold kI;congr 1
    apply List.ext_getElem
    ·simp only[List.length_map,List.length_range'];omega
    intro i J K;simp only[List.getElem_map,List.getElem_range'];omega
   exact ih (k+1) (by omega) h
theorem Vp {l:Lg}{f:Pl}{b n:Int}{r:List Int}(h:yN l f b=n::r):yN l f n=r:=by
 unfold yN at h;split at h
 ·rename_i hc;simp only[Bool.and_eq_true,decide_eq_true_eq] at hc;obtain⟨Q,S,G⟩:=KJ _ 0 rfl h;unfold yN;split
  ·exact G
  rename_i K;simp only[Bool.and_eq_true,decide_eq_true_eq] at K;have:¬n<l.last:=fun J=>K ⟨hc.1,J⟩
  rw[CV l f n 0 (by omega)] at G;exact G
 cases h
def agz (c:Cp)(r:Rs):Prop:=r.bI≠c.l.id∨r.n≠c.n∨r.ak≠0∨r.kind≠3∨r.from_=c.from_∨c.phase≠1
def CX (n:Int):List UInt8:=[101,UInt8.ofNat (48+(n%10).toNat)]
def QC (l:Lg)(J G:Pl)(has:List ByteArray)(r:Rq):Rs×List ByteArray:=
 if r.to==G&&r.kind==1 then (⟨r.to,r.kind,0,r.bI,r.n,r.ak,0,[]⟩,if decide (r.n<has.length) then has.set r.n.toNat ⟨r.body.toArray⟩ else has)
 else if r.to==J||r.to==G then (⟨r.to,r.kind,4,r.bI,r.n,r.ak,0,[]⟩,has)
 else if r.kind==3&&(setOf l.af l.w r.n).any (· == r.to) then (⟨r.to,r.kind,0,r.bI,r.n,r.ak,0,CX r.n⟩,has)
 else (⟨r.to,r.kind,3,r.bI,r.n,r.ak,0,[]⟩,has)
theorem getElem!_mem' {l:List Pl}(h:0<l.length)(k:Nat):l[k%l.length]! ∈ l:=by
 rw[getElem!_pos l _ (Nat.mod_lt _ h)];exact List.getElem_mem _
theorem QD {l:Lg}{n:Int}{p:Pl}(h:p∈setOf l.af l.w n):∃f∈l.af,(∀q∈setOf l.af l.w n,q∈f.ah):=by
 unfold setOf at h ⊢;split at h
 ·simp at h
 rename_i f J;refine⟨f,(nu _ _ _ J).1,?_⟩;intro q G;split at G
 ·rename_i K;simp only[eP,List.mem_map] at G;obtain⟨i,_,rfl⟩:=G;exact getElem!_mem' (by omega) _
 simp at G
theorem adI {l:Lg}{f t:Pl}(K:M7 l f t=true){n:Int}(V:(setOf l.af l.w n).any (· == f)=true){p:Pl}(hp:p∈setOf l.af l.w n)(J:p≠f):p≠t:=by
 rintro rfl
 obtain⟨g,X,G⟩:=QD hp;obtain⟨q,hq,e⟩:=List.any_eq_true.1 V;obtain rfl:q=f:=by simpa using e
 have Q:g.ah.any (· == q)=true:=List.any_eq_true.2 ⟨q,G q hq,by simp⟩;have S:Af g.ah q p=true:=List.any_eq_true.2 ⟨p,G p hp,by simp[J]⟩;obtain⟨i,hi,rfl⟩:=List.getElem_of_mem X;rw[Zr i hi Q S] at K;cases K
theorem adJ {l:Lg}(h:dN l=true)(hw:l.w≠1){n:Int}(hn:1≤n)(f:Pl):∃p r,oth l f n=p::r:=by
 obtain⟨ae,ag,Tw⟩:=Vn h hn;have ai:2≤l.w:=by omega
 cases ho:oth l f n with
 |cons p r=>exact⟨p,r,rfl⟩
 | nil=>
   exfalso;have J:∀x∈setOf l.af l.w n,x=f:=by
    intro x hx;have:=List.filter_eq_nil_iff.1 ho x hx;simpa using this
   simp only[dN,Bool.and_eq_true,dA,decide_eq_true_eq] at h;obtain⟨_,_,_,a6,_⟩:=h;obtain⟨g,hg,hm⟩:=F8 a6 hn;obtain⟨j,hj,e⟩:=List.getElem_of_mem hm;have G:=((j5 _ _).1 a6).2.2.2 j hj;simp only[setOf,hg] at J;have aa:l.w≤g.ah.length:=by
    simp only[yL] at G;rw[e] at G;exact G.2.2.1
   rw[if_pos ⟨by omega,aa⟩] at J;obtain⟨k,hk⟩:∃k,k=((n-g.first)%g.ah.length).toNat:=⟨_,rfl⟩;rw[←hk] at J;have K:0<g.ah.length:=by omega
   have h0:=J (g.ah[(k+0)%g.ah.length]!) (List.mem_map.2 ⟨0,by simp;omega,rfl⟩);have h1:=J (g.ah[(k+1)%g.ah.length]!) (List.mem_map.2 ⟨1,by simp;omega,rfl⟩);rw[getElem!_pos g.ah _ (Nat.mod_lt _ K)] at h0 h1;have X:(g.ah.map (·.node)).Nodup:=by
    simp only[yL] at G;rw[e] at G;exact G.2.2.2.2.2
   have V:=Nat.mod_lt (k+0) K;have Q:=Nat.mod_lt (k+1) K;have ad:(k+0)%g.ah.length≠(k+1)%g.ah.length:=by
    rw[Nat.add_zero,mod_succ k _ K];split<;>omega
   rcases Nat.lt_or_gt_of_ne ad with S|S
   ·have:=List.pairwise_iff_getElem.1 X _ _ (by simpa using V) (by simpa using Q) S;simp only[List.getElem_map,h0,h1,ne_eq,not_true_eq_false] at this
   have:=List.pairwise_iff_getElem.1 X _ _ (by simpa using Q) (by simpa using V) S;simp only[List.getElem_map,h0,h1,ne_eq,not_true_eq_false] at this
inductive qa (l:Lg)(f t:Pl)(now:Int):Nat→Cp→List Rq→Prop
 |get (m:Int) (R:List Int) (hR:yN l f m=R) (hm:m∈yN l f 0):qa l f t now (2*R.length+2) ⟨l,f,t,1,m,[],[],now,now⟩ ((oth l f m).map (F9 l m))
 |add (m:Int) (R:List Int) (b:List UInt8) (hb:b.length=2) (hR:yN l f m=R) (hm:m∈yN l f 0):qa l f t now (2*R.length+1) ⟨l,f,t,2,m,[],b,now,now⟩ [QB l t m b]
 |done (born since:Int):qa l f t now 0 ⟨l,f,t,3,0,[],[],born,since⟩ []
theorem qa.zero {l:Lg}{f t:Pl}{now:Int}{c:Cp}{q:List Rq}(h:qa l f t now 0 c q):c.phase=3∧q=[]:=by
 generalize G:0=k at h;cases h with
 |get=>omega
 |add=>omega
 |done=>exact⟨rfl,rfl⟩
theorem qa.step {l:Lg}{f t:Pl}{now:Int}(S:dN l=true)(hF:M7 l f t=true)(hw:l.w≠1){k:Nat}{c:Cp}{q:List Rq}(h:qa l f t now (k+1) c q)(has:List ByteArray) :
  ∃G r,q=G::r∧(c.phase=1∨c.phase=2)∧(QC l f t has G).1.body.length≤2∧G.body.length≤2∧(0≤G.n∧G.n≤8)∧qa l f t now k (takeC c now (QC l f t has G).1).1 (takeC c now (QC l f t has G).1).2:=by
 have ae:f≠t:=by
  simp only[M7,Bool.and_eq_true,bne_iff_ne] at hF;exact hF.2
 generalize hk:k+1=k1 at h;cases h with
 | get m R J hm=>
   have V:=M9 hm;obtain⟨p,r,hp⟩:=adJ S hw (n:=m) (by omega) f;have X:p∈oth l f m:=by rw[hp];simp
   have K:=X;simp only[oth,List.mem_filter,Bool.not_eq_true',beq_eq_false_iff_ne] at K;have ad:=adI hF V.2.2.2 K.1 K.2;have Q:QC l f t has (F9 l m p)=(⟨p,3,0,l.id,m,0,0,CX m⟩,has):=by
    unfold QC;rw[if_neg (by simp[F9]),if_neg (by simp[F9,K.2,ad]),if_pos]
    ·rfl
    simp only[Bool.and_eq_true];exact⟨by simp[F9],List.any_eq_true.2 ⟨p,K.1,by simp[F9]⟩⟩
   refine⟨F9 l m p,r.map (F9 l m),by rw[hp];rfl,.inl rfl,by rw[Q];simp[CX],by simp[F9],by simp only[F9];omega,?_⟩;rw[Q];have aa:(others ⟨l,f,t,1,m,[],[],now,now⟩).any (· == p)=true:=List.any_eq_true.2 ⟨p,X,by simp⟩;have Zw:takeC ⟨l,f,t,1,m,[],[],now,now⟩ now ⟨p,3,0,l.id,m,0,0,CX m⟩=(⟨l,f,t,2,m,[],CX m,now,now⟩,[QB l t m (CX m)]):=by
    unfold takeC;rw[if_neg (by simp),if_pos (by simp only[aa];simp),if_pos (by simp)];unfold adF;rw[if_pos rfl];rfl
   rw[Zw];obtain rfl:k=2*R.length+1:=by omega
   exact qa.add m R (CX m) (by simp[CX]) J hm
 | add m R b hb J hm=>
   have V:=M9 hm;have Q:(QC l f t has (QB l t m b)).1=⟨t,1,0,l.id,m,0,0,[]⟩:=by
    unfold QC;rw[if_pos (by simp[QB])];rfl
   refine⟨QB l t m b,[],rfl,.inr rfl,by rw[Q];simp,by simp[QB];omega,by simp only[QB];omega,?_⟩;rw[Q];have Zw:takeC ⟨l,f,t,2,m,[],b,now,now⟩ now ⟨t,1,0,l.id,m,0,0,[]⟩=onC ⟨l,f,t,2,m,[],b,now,now⟩ now:=by
    unfold takeC;rw[if_neg (by simp),if_neg (by simp),if_pos (by simp),if_pos (by simp)]
   rw[Zw];obtain rfl:k=2*R.length:=by omega
   cases R with
   | nil=>
     rw[adH (c:=⟨l,f,t,2,m,[],b,now,now⟩) J];exact qa.done now now
   | cons n r=>
     rw[Zt (c:=⟨l,f,t,2,m,[],b,now,now⟩) J];exact qa.get n r (Vp J) (by
      have h1:n∈yN l f m:=by rw[J];simp
      unfold yN at h1 ⊢;split at h1
      ·rename_i hc;simp only[Bool.and_eq_true,decide_eq_true_eq] at hc;rw[if_pos (by simp only[Bool.and_eq_true,decide_eq_true_eq];exact⟨hc.1,by omega⟩)];obtain⟨g1,g2,g3⟩:=CW h1;unfold kI;rw[List.mem_filter,List.mem_map];refine⟨⟨(n-0-1).toNat,?_,by omega⟩,g3⟩;rw[List.mem_range'_1];omega
      simp at h1)
 |done=>omega
def lJ (set G:List Pl):Nat→Nat
 |0=>0
 |k+1=>lJ set G k+(if h:k<set.length then (if G.any (· == set[k]) && !(set.take k).any (· == set[k]) then 1 else 0) else 0)
def yF (set G:List Pl):Nat:=lJ set G set.length
theorem wS (set G:List Pl)(k:Nat)(h:k<set.length):lJ set G (k+1)=lJ set G k+(if G.any (· == set[k]) && !(set.take k).any (· == set[k]) then 1 else 0):=by
 rw[lJ,dif_pos h]
theorem Tx (set G:List Pl)(k:Nat):lJ set G k≤k:=by
 induction k with
 |zero=>exact Nat.le_refl _
 | succ k ih=>
   rw[lJ];split
   ·split<;>omega
   omega
def bE (set:List Pl)(a:Int)(G:List Pl):Bool:=decide (a≥1)&&decide ((yF set G:Int)≥a)
def dL (set:List Pl)(w a:Int)(G:List Pl):Bool:=decide (w<a)||decide (w-a<(yF set G:Int))
def nU (f:Fr)(w:Int):List (List Pl):=(List.range f.ah.length).map fun k=>eP f.ah k w.toNat
def eu (f:Fr)(w a:Int)(G:List Pl):Bool:=
 if decide (w<1)||decide (w>(f.ah.length:Int)) then false else (nU f w).all fun s=>dL s w a G
structure Rv where
 l:Lg
 ak:Int
 phase:Int
 heard:List Pl
 sure:Int
 n:Int
 none:List Pl
 has:List Pl
 body:List UInt8
 af:List Fr
 bad:List Pl
 born:Int
 since:Int
def Rv.c (x:Rv):List PV:=[uu x.l.id,ii x.l.w,ii x.l.a,cB x.l.af,ii x.l.closed,uu x.l.last,uu x.ak,ii x.phase,av x.heard,uu x.sure,uu x.n,av x.none,av x.has,CR x.body,cB x.af,av x.bad,uu x.born,uu x.since]
def Rv.v (x:Rv)(G none has J bad out:AV):List AV:=
 [.pv (uu x.l.id),.pv (ii x.l.w),.pv (ii x.l.a),.pv (cB x.l.af),.pv (ii x.l.closed),.pv (uu x.l.last),.pv (uu x.ak),.pv (ii x.phase),G,.pv (uu x.sure),.pv (uu x.n),none,has,.pv (CR x.body),J,bad,.pv (uu x.born),.pv (uu x.since),out]
def aC (x:Rv):List Pl:=setOf x.l.af x.l.w x.n
def aj (x:Rv):List Pl:=setOf x.af x.l.w x.n
def aS (x:Rv):Fr:=x.l.af[x.l.af.length-1]!
def FM (x:Rv)(p:Pl):Rq:=⟨p,2,x.l.id,0,x.ak,0,0,[],[]⟩
def jB (x:Rv)(p:Pl):Rq:=⟨p,3,x.l.id,x.n,x.ak,0,0,[],[]⟩
def xP (x:Rv)(p:Pl):Rq:=⟨p,1,x.l.id,x.n,x.ak,x.sure,0,x.body,[]⟩
def ic (x:Rv)(l:List Pl):List Rq:=(l.filter fun p=>!x.heard.any (· == p)).map (FM x)
def gF (x:Rv)(l:List Pl):List Rq:=(l.filter fun p=>x.heard.any (· == p) && !x.none.any (· == p)).map (jB x)
def aU (x:Rv)(l:List Pl):List Rq:=(l.filter fun p=>!x.has.any (· == p)).map (xP x)
theorem gq {α β:Type}(p:α→Bool)(f:α→β)(l:List α)(k:Nat)(h:k<l.length):((l.take (k+1)).filter p).map f=if p l[k] then ((l.take k).filter p).map f++[f l[k]] else ((l.take k).filter p).map f:=by
 rw[List.take_succ_eq_append_getElem h,List.filter_append,List.map_append];cases G:p l[k]<;>simp[G]
theorem gT {α β:Type}(p:α→Bool)(f:α→β)(l:List α)(k:Nat):(((l.take k).filter p).map f).length≤l.length:=by
 rw[List.length_map];exact Nat.le_trans (List.length_filter_le _ _) (by rw[List.length_take];omega)
def Rv.w (x:Rv)(lf G none has J bad out:AV):List AV:=
 [.pv (uu x.l.id),.pv (ii x.l.w),.pv (ii x.l.a),lf,.pv (ii x.l.closed),.pv (uu x.l.last),.pv (uu x.ak),.pv (ii x.phase),G,.pv (uu x.sure),.pv (uu x.n),none,has,.pv (CR x.body),J,bad,.pv (uu x.born),.pv (uu x.since),out]
structure Rv.sm (x:Rv):Prop where
 f1:x.l.af.length≤1000∧∀f∈x.l.af,f.ah.length≤1000
 f2:x.af.length≤1000∧∀f∈x.af,f.ah.length≤1000
 h:x.heard.length≤1000000
 no:x.none.length≤1000000
 ha:x.has.length≤1000000
 ba:x.bad.length≤1000000
 bo:x.body.length≤1000000
def bB (x:Rv)(n now:Int):Rv×List Rq:=
 let y:Rv:={ x with n:=n,none:=[],has:=[],body:=[],bad:=[] }
 if decide (n>8) then ({ y with phase:=4 },[])
 else ({ y with phase:=2,born:=now,since:=now },gF { y with phase:=2,born:=now,since:=now } (aC { y with phase:=2,born:=now,since:=now }))
def aZ (x:Rv)(now:Int):Rv×List Rq:=if bE (aj x) x.l.a x.has then bB x (x.n+1) now else (x,[])
def je (x:Rv)(now:Int)(p:Pl):Rv×List Rq:=if x.has.any (· == p) then (x,[]) else aZ { x with has:=x.has++[p] } now
def fQ (x:Rv)(now:Int)(r:Rs):Rv×List Rq:=
 if !(aS x).ah.any (· == r.from_)||x.heard.any (· == r.from_) then (x,[])
 else
  let y:Rv:={ x with heard:=x.heard++[r.from_],sure:=min (max x.sure r.sure) 8 }
  if y.phase==1&&eu (aS y) y.l.w y.l.a y.heard then bB y (max (y.sure+1) (aS y).first) now
  else if y.phase==2&&(aC y).any (· == r.from_) then (y,[jB y r.from_])
  else (y,[])
def aN (x:Rv)(now:Int)(r:Rs):Rv:={ x with has:=[r.from_],body:=r.body,phase:=3,born:=now,since:=now }
def lm (x:Rv)(now:Int)(r:Rs):Rv×List Rq:=
 if x.phase==2&&(r.code==0&&(aC x).any (· == r.from_)) then
  ((aZ (aN x now r) now).1,aU (aN x now r) (aj (aN x now r))++(aZ (aN x now r) now).2)
 else if x.phase==2&&(r.code==3&&((aC x).any (· == r.from_)&&(x.heard.any (· == r.from_) && !x.none.any (· == r.from_)))) then
  (if dL (aC x) x.l.w x.l.a (x.none++[r.from_]) then { x with none:=x.none++[r.from_],phase:=4 } else { x with none:=x.none++[r.from_] },[])
 else if x.phase==3&&(r.code==0&&decide (r.body=x.body)) then je x now r.from_
 else (x,[])
def aB (is:Pl→Bool)(b:List Pl):List Pl→List Pl
 |[]=>b
 |p::r=>aB is (if is p && !b.any (· == p) then b++[p] else b) r
def fI (x:Rv)(now:Int)(r:Rs):Rv×List Rq:=
 if r.code==0 then je x now r.from_
 else if r.code==2 then ({ x with bad:=aB (· == r.from_) x.bad (aj x) },[])
 else if r.code==4 then ({ x with bad:=aB (fun y=>y.node==r.from_.node&&y.aH != r.from_.aH) x.bad (aj x) },[])
 else (x,[])
def bJ (x:Rv)(now:Int)(r:Rs):Rv×List Rq:=
 if r.bI != x.l.id||r.ak != x.ak then (x,[])
 else if r.kind==2&&(r.code==0&&decide (x.phase<4)) then fQ x now r
 else if r.kind==3&&r.n==x.n then lm x now r
 else if r.kind==1&&(r.n==x.n&&x.phase==3) then fI x now r
 else (x,[])
theorem Zx (bs:ByteArray):∀(d i:Nat) (r:List UInt8),bs.size-i=d→ByteArray.toList.loop bs i r=r.reverse++bs.data.toList.drop i:=by
 intro d;induction d with
 | zero=>
   intro i r h;unfold ByteArray.toList.loop;have:¬i<bs.size:=by omega
   rw[if_neg this];have G:bs.data.toList.length≤i:=by rw[Array.length_toList];show bs.size≤i;omega
   rw[List.drop_eq_nil_of_le G,List.append_nil]
 | succ d ih=>
   intro i r h;unfold ByteArray.toList.loop;have hi:i<bs.size:=by omega
   rw[if_pos hi,ih (i+1) _ (by omega)];have G:i<bs.data.toList.length:=by rw[Array.length_toList];exact hi
   rw[List.drop_eq_getElem_cons G,List.reverse_cons,List.append_assoc];congr 1
   show [bs.get! i]++_=_
   have:bs.get! i=bs.data.toList[i]:=by
    show bs.data[i]! = _
    rw[getElem!_pos bs.data i hi,Array.getElem_toList]
   rw[this];rfl
theorem bsl (l:List UInt8):(⟨l.toArray⟩:ByteArray).toList=l:=by
 unfold ByteArray.toList;rw[Zx _ _ 0 [] rfl];simp
theorem Ag (a b:List UInt8):((⟨a.toArray⟩:ByteArray).toList==(⟨b.toArray⟩:ByteArray).toList)=decide (a=b):=by
 rw[bsl,bsl];exact Bool.beq_eq_decide_eq a b
theorem QH (is:Pl→Bool)(l m:List Pl):∀b,aB is b (l++m)=aB is (aB is b l) m:=by
 induction l with
 |nil=>intro b;rfl
 |cons p l ih=>intro b;rw[List.cons_append,aB,aB,ih]
theorem qM (is:Pl→Bool)(b l:List Pl)(k:Nat)(h:k<l.length):aB is b (l.take (k+1))=(if is l[k] && !(aB is b (l.take k)).any (· == l[k]) then aB is b (l.take k)++[l[k]] else aB is b (l.take k)):=by
 rw[List.take_succ_eq_append_getElem h,QH,aB,aB]
theorem kg (is:Pl→Bool)(l:List Pl):∀b,(aB is b l).length≤b.length+l.length:=by
 induction l with
 |nil=>intro b;simp[aB]
 | cons p l ih=>
   intro b;rw[aB];refine Nat.le_trans (ih _) ?_;split<;>simp<;>omega
theorem Jp (x:Rv)(a:List Pl)(b:Int):aC { x with heard:=a,sure:=b }=aC x:=rfl
theorem Na (x:Rv)(a:List Pl)(b:Int):aS { x with heard:=a,sure:=b }=aS x:=rfl
theorem Vq (x:Rv)(a:List Pl)(b:Int):jB { x with heard:=a,sure:=b }=jB x:=rfl
theorem CY (x:Rv)(a:List Pl):aj { x with has:=a }=aj x:=rfl
section
variable {x:Rv}{now:Int}{r:Rs}
theorem yO (h1:(aS x).ah.any (· == r.from_)=false):fQ x now r=(x,[]):=by
 simp only[fQ,h1,Bool.not_false,Bool.true_or,↓reduceIte]
theorem yP (h1:(aS x).ah.any (· == r.from_)=true)(h2:x.heard.any (· == r.from_)=true):fQ x now r=(x,[]):=by
 simp only[fQ,h1,h2,Bool.or_true,↓reduceIte]
section
variable (h1:(aS x).ah.any (· == r.from_)=true)(h2:x.heard.any (· == r.from_)=false)
include h1 h2
theorem Jq (G:(x.phase==1)=false)(J:(x.phase==2)=false):fQ x now r=({ x with heard:=x.heard++[r.from_],sure:=min (max x.sure r.sure) 8 },[]):=by
 simp only[fQ,h1,h2,G,J,Bool.not_true,Bool.or_self,Bool.false_and,Bool.false_eq_true,↓reduceIte]
theorem Jr (J:(x.phase==1)=false)(K:(x.phase==2)=true)(G:(aC x).any (· == r.from_)=false):fQ x now r=({ x with heard:=x.heard++[r.from_],sure:=min (max x.sure r.sure) 8 },[]):=by
 simp only[fQ,h1,h2,J,K,Jp,G,Bool.not_true,Bool.or_self,Bool.false_and,Bool.true_and,Bool.false_eq_true,↓reduceIte]
theorem Js (J:(x.phase==1)=false)(K:(x.phase==2)=true)(G:(aC x).any (· == r.from_)=true):fQ x now r=({ x with heard:=x.heard++[r.from_],sure:=min (max x.sure r.sure) 8 },[jB x r.from_]):=by
 simp only[fQ,h1,h2,J,K,Jp,Vq,G,Bool.not_true,Bool.or_self,Bool.false_and,Bool.true_and,Bool.false_eq_true,↓reduceIte]
theorem Jt (J:(x.phase==1)=true)(K:(x.phase==2)=false)(G:eu (aS x) x.l.w x.l.a (x.heard++[r.from_])=false):fQ x now r=({ x with heard:=x.heard++[r.from_],sure:=min (max x.sure r.sure) 8 },[]):=by
 simp only[fQ,h1,h2,J,K,Na,G,Bool.not_true,Bool.or_self,Bool.false_and,Bool.true_and,Bool.false_eq_true,↓reduceIte]
theorem Ju (J:(x.phase==1)=true)(G:eu (aS x) x.l.w x.l.a (x.heard++[r.from_])=true):fQ x now r=bB { x with heard:=x.heard++[r.from_],sure:=min (max x.sure r.sure) 8 } (max (min (max x.sure r.sure) 8+1) (aS x).first) now:=by
 simp only[fQ,h1,h2,J,Na,G,Bool.not_true,Bool.or_self,Bool.true_and,Bool.false_eq_true,↓reduceIte]
end
theorem wY {x:Rv}{n now:Int}(h:8<n):(bB x n now).2=[]:=by
 unfold bB;rw[if_pos (by simp only[decide_eq_true_eq];omega)]
theorem iB (x:Rv)(n now:Int):(bB x n now).1.heard=x.heard:=by unfold bB;dsimp only;split<;>rfl
theorem j6 (x:Rv)(n now:Int):(bB x n now).1.none=[]:=by unfold bB;dsimp only;split<;>rfl
theorem jM (x:Rv)(n now:Int):(bB x n now).1.has=[]:=by unfold bB;dsimp only;split<;>rfl
theorem iN (x:Rv)(n now:Int):(bB x n now).1.af=x.af:=by unfold bB;dsimp only;split<;>rfl
theorem lZ (x:Rv)(n now:Int):(bB x n now).1.bad=[]:=by unfold bB;dsimp only;split<;>rfl
theorem Gb {p:Pl}(h:x.has.any (· == p)=true):je x now p=(x,[]):=by
 simp only[je,h,↓reduceIte]
theorem QE {p:Pl}(h:x.has.any (· == p)=false)(G:bE (aj x) x.l.a (x.has++[p])=false):je x now p=({ x with has:=x.has++[p] },[]):=by
 simp only[je,aZ,CY,h,G,Bool.false_eq_true,↓reduceIte]
theorem QG {p:Pl}(h:x.has.any (· == p)=false)(G:bE (aj x) x.l.a (x.has++[p])=true):je x now p=bB { x with has:=x.has++[p] } (x.n+1) now:=by
 simp only[je,aZ,CY,h,G,Bool.false_eq_true,↓reduceIte]
end
end Go.AX
namespace Go.AX
structure Rv.big (x:Rv):Prop where
 sm:x.sm
 hf:aY x.l.af
 fq:aY x.af
 h0:0<x.l.af.length
 hn:0≤x.n∧x.n≤1000
 hs:0≤x.sure
 hw:0≤x.l.w∧x.l.w≤9223372036854775807
 ha:0≤x.l.a
 hset:∀n,(setOf x.l.af x.l.w n).length≤1000
 CZ:∀n,(setOf x.af x.l.w n).length≤1000
theorem gK {a b c:Int}(h:(a==b)=true)(hc:b≠c):(a==c)=false:=by
 have:a=b:=by simpa using h
 subst this;simpa using hc
theorem rX {x:Rv}(G:0<x.l.af.length):aS x∈x.l.af:=by
 unfold aS;rw[getElem!_pos x.l.af _ (by omega)];exact List.getElem_mem _
def qb (k node:Int)(l:List Pl):Nat→Bool
 |0=>false
 |i+1=>qb k node l i||(if h:i<l.length then ((i:Int) != k)&&l[i].node==node else false)
theorem C8 (k node:Int)(l:List Pl)(i:Nat)(h:i<l.length):qb k node l (i+1)=(qb k node l i||(((i:Int) != k)&&l[i].node==node)):=by
 rw[qb,dif_pos h]
theorem Nb (k node:Int)(l:List Pl){i j:Nat}(h:i≤j)(hc:qb k node l i=true):qb k node l j=true:=by
 induction j with
 | zero => have:i=0:=by omega
           subst this;exact hc
 | succ j ih=>
   by_cases e:i=j+1
   ·subst e;exact hc
   rw[qb,ih (by omega),Bool.true_or]
def l5 (f:Fr)(old G:Pl):Option Fr:=
 if qb (uI (· == old) f.ah) G.node f.ah f.ah.length then none
 else if uI (· == old) f.ah<0 then none
 else some ⟨f.first,f.ah.set (uI (· == old) f.ah).toNat G⟩
def iF (f:Fr)(old:Pl):List Pl→Fr×Bool
 |[]=>(f,false)
 | p::r=>match l5 f old p with
   |some g=>(g,true)
   |none=>iF f old r
theorem QI (f:Fr)(old:Pl)(l:List Pl)(k:Nat)(h:k<l.length):iF f old (l.drop k)=match l5 f old l[k] with
  |some g=>(g,true)
  |none=>iF f old (l.drop (k+1)):=by
 rw[List.drop_eq_getElem_cons h,iF]
def xA (bad G:List Pl)(st:Fr×List Pl×Bool)(old:Pl):Fr×List Pl×Bool:=
 if bad.any (· == old) then
  (if (iF st.1 old G).2 then ((iF st.1 old G).1,st.2.1,true) else ((iF st.1 old G).1,st.2.1++[old],st.2.2))
 else st
def DX (w:Int)(st:List Pl×Bool)(old:Pl):List Pl×Bool:=
 if decide ((st.1.length:Int)>w)&&decide (uI (· == old) st.1≥0) then (st.1.eraseIdx (uI (· == old) st.1).toNat,true) else st
def FB (e:Int)(b:List Pl)(p:Pl):List Pl:=
 if decide ((b.length:Int)<(if 5<e then 5 else e)) && !(b.any fun y=>y.node==p.node) then b++[p] else b
def fZ (f:Fr)(bad G:List Pl):Fr×List Pl×Bool:=f.ah.foldl (xA bad G) (f,[],false)
def nT (w:Int)(x:Fr×List Pl×Bool):List Pl×Bool:=x.2.1.foldl (DX w) (x.1.ah,x.2.2)
def fit (bad known:List Pl):List Pl:=known.filter fun p=>!bad.any (· == p)
def fC (f:Fr)(w e:Int)(bad known:List Pl):Fr×Bool:=
 if (nT w (fZ f bad (fit bad known))).2 then (⟨(fZ f bad (fit bad known)).1.first,(fit bad known).foldl (FB e) (nT w (fZ f bad (fit bad known))).1⟩,true)
 else (kT,false)
theorem oz {α β:Type}(f:β→α→β)(b:β)(l:List α)(k:Nat)(h:k<l.length):(l.take (k+1)).foldl f b=f ((l.take k).foldl f b) l[k]:=by
 rw[List.take_succ_eq_append_getElem h,List.foldl_append];rfl
theorem Vr {f g:Fr}{a b:Pl}(h:l5 f a b=some g):g.ah.length=f.ah.length∧g.first=f.first:=by
 unfold l5 at h;split at h
 ·cases h
 split at h
 ·cases h
 simp only[Option.some.injEq] at h;subst h;simp
theorem Jv (f:Fr)(old:Pl):∀l,(iF f old l).1.ah.length=f.ah.length∧(iF f old l).1.first=f.first
 |[]=>⟨rfl,rfl⟩
 | p::r=>by
   rw[iF];cases h:l5 f old p with
   |some g=>exact Vr h
   |none=>exact Jv f old r
theorem Ah (bad G:List Pl):∀(l:List Pl) (st:Fr×List Pl×Bool),(l.foldl (xA bad G) st).1.ah.length=st.1.ah.length∧(l.foldl (xA bad G) st).1.first=st.1.first∧(l.foldl (xA bad G) st).2.1.length≤st.2.1.length+l.length
 |[],st=>⟨rfl,rfl,Nat.le_refl _⟩
 | p::r,st=>by
   obtain⟨Q,S,V⟩:=Ah bad G r (xA bad G st p);have J:=Jv st.1 p G;rw[List.foldl_cons];have K:(xA bad G st p).1.ah.length=st.1.ah.length∧(xA bad G st p).1.first=st.1.first∧(xA bad G st p).2.1.length≤st.2.1.length+1:=by
    unfold xA;split
    ·split
     ·exact⟨J.1,J.2,Nat.le_succ _⟩
     refine⟨J.1,J.2,?_⟩;simp
    exact⟨rfl,rfl,Nat.le_succ _⟩
   refine⟨Q.trans K.1,S.trans K.2.1,?_⟩;simp only[List.length_cons];omega
theorem Eo (w:Int):∀(l:List Pl) (st:List Pl×Bool),(l.foldl (DX w) st).1.length≤st.1.length
 |[],st=>Nat.le_refl _
 | p::r,st=>by
   rw[List.foldl_cons];refine Nat.le_trans (Eo w r _) ?_;unfold DX;split
   ·exact List.length_eraseIdx_le ..
   exact Nat.le_refl _
theorem Ty (e:Int):∀(l:List Pl) (b:List Pl),(l.foldl (FB e) b).length≤b.length+l.length
 |[],b=>Nat.le_refl _
 | p::r,b=>by
   rw[List.foldl_cons];refine Nat.le_trans (Ty e r _) ?_;have h:∀c:Bool,(if c=true then b++[p] else b).length≤b.length+1:=by intro c;cases c<;>simp
   have G:(FB e b p).length≤b.length+1:=h _;simp only[List.length_cons];omega
def dY (now since G:Int):Bool:=decide ((if since>now then since else now)-since≥G)
def iX (x:Rv)(now:Int):Rv:=if x.phase==3&&dY now x.born 9 then { x with bad:=aB (fun p=>!x.has.any (· == p)) x.bad (aj x),born:=now } else x
def gM (x:Rv):Fr:=(eH x.af x.n).getD kT
def iM (x:Rv):List Fr:=if (gM x).first==x.n&&decide ((x.af.length:Int)>0) then x.af.take (x.af.length-1) else x.af
def dx (x:Rv)(known:List Pl):Fr×Bool:=fC (gM x) x.l.w (gM x).ah.length x.bad known
def dH (x:Rv)(known:List Pl):Rv×Bool:=
 if (dx x known).2 && !(((iM x).length:Int)==6) then ({ x with bad:=[],af:=iM x++[⟨x.n,(dx x known).1.ah⟩] },true)
 else ({ x with bad:=[] },false)
def qz (x:Rv)(now:Int):Rv×List Rq:=
 ({ x with since:=now },if x.phase==1 then ic x (aS x).ah else if x.phase==2 then gF x (aC x) else if x.phase==3 then aU x (aj x) else [])
def dJ (x:Rv)(now:Int)(known:List Pl):Rv×List Rq:=
 let y:=iX x now
 if y.phase==3&&decide ((y.bad.length:Int)>0) then
  if (dH y known).2 then
   let z:Rv:={ (dH y known).1 with phase:=3,born:=now,since:=now }
   ((aZ z now).1,aU z (aj z)++(aZ z now).2)
  else if dY now y.since 3 then qz (dH y known).1 now else ((dH y known).1,[])
 else if y.phase != 4&&dY now y.since 3 then qz y now else (y,[])
def oq (l:Lg)(G now:Int):Rv×List Rq×Int:=
 if !dN l||l.closed != 0||decide (G<1)||decide (G>4611686018427387903) then (⟨⟨0,0,0,[],0,0⟩,0,0,[],0,0,[],[],[],[],[],0,0⟩,[],1)
 else (⟨l,G,1,[],0,0,[],[],[],l.af,[],now,now⟩,ic ⟨l,G,1,[],0,0,[],[],[],l.af,[],now,now⟩ (aS ⟨l,G,1,[],0,0,[],[],[],l.af,[],now,now⟩).ah,0)
structure Wt where
 n:Int
 body:List UInt8
 from_:List Pl
 born:Int
 since:Int
deriving DecidableEq,Inhabited
structure Wr where
 l:Lg
 ak:Int
 next:Int
 sure:Int
 waits:List Wt
 bad:List Pl
 change:Fr
 fenced:Int
deriving DecidableEq,Inhabited
def aW (l:List Pl)(p:Pl):Bool:=l.any (· == p)
def fD (w:Wr)(n:Int):List Pl:=setOf w.l.af w.l.w n
def aL (l:List Fr):Fr:=l.getLast?.getD kT
def fT (w:Wr)(x:Wt):Bool:=bE (fD w x.n) w.l.a x.from_&&((w.change.first==0)||decide (x.n<w.change.first))
def kN (w:Wr):Wr:={ w with sure:=((w.waits.takeWhile (fT w)).getLast?.map (·.n)).getD w.sure,waits:=w.waits.dropWhile (fT w) }
def kM (w:Wr)(x:Wt):List Rq:=((fD w x.n).filter fun p=>!aW x.from_ p).map fun p=>⟨p,1,w.l.id,x.n,w.ak,w.sure,0,x.body,[]⟩
def vU (w:Wr)(is:Pl→Bool):Wr:={ w with bad:=(aL w.l.af).ah.foldl (fun b x=>if is x && !aW b x then b++[x] else b) w.bad }
def yT (w:Wr)(p:Pl):Bool:=w.l.af.any fun f=>aW f.ah p
def Bz (l:Lg)(G:Int):Option Wr:=if dN l&&((l.closed==0)&&dA G 1 4611686018427387903) then some ⟨l,G,1,0,[],[],kT,0⟩ else none
def iC (w:Wr)(now:Int)(b:List UInt8):Wr×List Rq×Int:=
 if w.fenced=1 then (w,[],5)
 else if (b.length:Int)>2048 then (w,[],7)
 else if w.next>8 then (w,[],3)
 else ({ w with waits:=w.waits++[⟨w.next,b,[],now,now⟩],next:=w.next+1 },kM w ⟨w.next,b,[],now,now⟩,0)
def rq (w:Wr)(r:Rs)(k:Nat):Wr:={ w with waits:=w.waits.modify k fun x=>{ x with from_:=x.from_++[r.from_] } }
def jf (w:Wr)(r:Rs):Wr:=
 if !(r.kind==1)||(!(r.bI==w.l.id) || !(r.ak==w.ak)) then w
 else if r.code=0 then (match w.waits.findIdx? fun x=>x.n==r.n with
  |none=>w
  |some k=>if yT w r.from_ && !aW (w.waits[k]!).from_ r.from_ then kN (rq w r k) else w)
 else if r.code=1 then (if yT w r.from_ then { w with fenced:=1 } else w)
 else if r.code=2 then vU w fun x=>x==r.from_
 else if r.code=4 then vU w fun x=>(x.node==r.from_.node) && !(x.aH==r.from_.aH)
 else w
def qd (now since G:Int):Bool:=decide ((if since>now then since else now)-since≥G)
def Db (w:Wr)(x:Wt):Wr:=(fD w x.n).foldl (fun w y=>if aW x.from_ y then w else vU w fun z=>z==y) w
def mU (now:Int)(st:Wr×List Rq)(i:Nat):Wr×List Rq:=
 let x:=st.1.waits[i]!
 let w:=if qd now x.born 9 then Db st.1 x else st.1
 if qd now x.since 3 then ({ w with waits:=w.waits.set i { x with since:=now } },st.2++kM w x) else (w,st.2)
def jJ (w:Wr)(now:Int):Wr×List Rq:=if w.fenced=1 then (w,[]) else (List.range w.waits.length).foldl (mU now) (w,[])
def Gq (w:Wr)(e:Int)(known:List Pl):Fr×Bool:=({ (fC (aL w.l.af) w.l.w e w.bad known).1 with first:=w.sure+1 },(fC (aL w.l.af) w.l.w e w.bad known).2)
def iy (w:Wr)(e:Int)(known:List Pl):Wr×Fr×Bool:=
 if w.fenced=1∨w.change.first≠0∨w.bad=[] then (w,kT,false)
 else if !(Gq w e known).2||(decide ((w.l.af.length:Int)=6)&&decide ((Gq w e known).1.first>(aL w.l.af).first)) then ({ w with bad:=[] },kT,false)
 else ({ w with change:=(Gq w e known).1 },(Gq w e known).1,true)
def dS (l:List Fr)(f:Fr):List Fr:=(if (aL l).first==f.first then l.dropLast else l)++[f]
def jT (w:Wr)(ok:Bool):Wr:=kN { w with l:={ w.l with af:=if ok then dS w.l.af w.change else w.l.af },change:=kT,bad:=[] }
def dP (w:Wr)(now:Int)(ok:Bool):Wr×List Rq:=
 if w.change.first=0 then (w,[])
 else ({ jT w ok with waits:=(jT w ok).waits.map fun x=>{ x with born:=now,since:=now } },(jT w ok).waits.flatMap (kM (jT w ok)))
structure Lt where
 ask:Bool
 q:Rq
 r:Rs
deriving DecidableEq,Inhabited
structure Hp where
 x:Pl
 n:Int
 body:List UInt8
deriving DecidableEq,Inhabited
structure Sg where
 w:Wr
 DY:List Fr
 ask:Fr
 taken:Int
 now:Int
 bH:List Lt
 had:List Hp
 bS:List (List UInt8)
deriving Inhabited
def Xv:Rq:=⟨⟨0,0⟩,0,0,0,0,0,0,[],[]⟩
def O6:Rs:=⟨⟨0,0⟩,0,0,0,0,0,0,[]⟩
def Q0 (s:Sg)(l:List Rq):Sg:={ s with bH:=s.bH++(l.take (80-s.bH.length)).map fun q=>⟨true,q,O6⟩ }
def BJ (q:Rq):Rs:=⟨q.to,q.kind,0,q.bI,q.n,q.ak,0,[]⟩
def TS (s:Sg)(b:List UInt8):Sg:=
 let y:=iC s.w s.now b
 if y.2.2=0 then Q0 { s with w:=y.1,bS:=s.bS++[b] } y.2.1 else s
def adT (s:Sg)(e:Int)(known:List Pl):Sg:=
 let y:=iy s.w e known
 if y.2.2 then { s with w:=y.1,ask:=y.2.1,taken:=0 } else { s with w:=y.1 }
def TT (s:Sg):Sg:=
 if s.ask.first=0∨s.taken=0 then s
 else Q0 { s with w:=(dP s.w s.now (s.taken==1)).1,ask:=kT } (dP s.w s.now (s.taken==1)).2
def Wt.c (x:Wt):List PV:=[uu x.n,CR x.body,av x.from_,uu x.born,uu x.since]
def sj (l:List Wt):PV:=.sl false 5 (l.map Wt.c)
def Wr.c (w:Wr):List PV:=[uu w.l.id,ii w.l.w,ii w.l.a,cB w.l.af,ii w.l.closed,uu w.l.last,uu w.ak,uu w.next,uu w.sure,sj w.waits,av w.bad,uu w.change.first,av w.change.ah,ii w.fenced]
def wtA (x:Wt)(f:AV):List AV:=[.pv (uu x.n),.pv (CR x.body),f,.pv (uu x.born),.pv (uu x.since)]
def qA (w:Wr)(F W B O:AV):List AV:=[.pv (uu w.l.id),.pv (ii w.l.w),.pv (ii w.l.a),F,.pv (ii w.l.closed),.pv (uu w.l.last),.pv (uu w.ak),.pv (uu w.next),.pv (uu w.sure),W,B,.pv (uu w.change.first),.pv (av w.change.ah),.pv (ii w.fenced),O]
structure Uc (x:Wt):Prop where
 n:gU x.n
 body:x.body.length≤100000
 from_:x.from_.length≤100000
 born:gU x.born
 since:gU x.since
structure WrB (w:Wr):Prop where
 fl:w.l.af.length≤1000
 fb:∀f∈w.l.af,f.ah.length≤1000
 fr:aY w.l.af
 wl:w.waits.length≤1000
 wx:∀x∈w.waits,Uc x
 bl:w.bad.length≤100000
 cl:w.change.ah.length≤1000
theorem nE (e:TypeId)(v st:Nat)(rows:List (List PV)):0+qy (.arr e v st rows)=v:=Nat.zero_add _
theorem nG (e:TypeId)(v st:Nat)(pre:List (List PV))(row:List AV)(post:List (List PV)):0+qy (.iP e v st pre row post)=v:=Nat.zero_add _
def aad (H:List (Nat×aI))(b ver:Nat):AV:=
 match lk H b with
 | some (.d9 v J G)=>match Nat.beq ver v with
   |true=>.pv (.sl false J G)
   |false=>.aO b ver
 |_=>.aO b ver
def aae (H:List (Nat×aI))(b ver st J hi:Nat):AV:=
 match aad H b ver with
 | .pv (.sl _ K G)=>match Nat.beq st K with
   |true=>.pv (.sl false st (jQ G J hi))
   |false=>.sub b ver st J hi
 |_=>.sub b ver st J hi
def thC (H:List (Nat×aI)):List AV→List AV
 |[]=>[]
 |.aO b ver::r=>aad H b ver::thC H r
 |.sub b ver J G hi::r=>aae H b ver J G hi::thC H r
 |x::r=>x::thC H r
def thA (H:List (Nat×aI)):AV→AV
 |.agg cs=>.agg (thC H cs)
 |.aO b ver=>aad H b ver
 |x=>x
section
variable {P:Program}{c:Ctx}{R:Real}{s:AS}{a:Act}{w:World}
theorem yS (g:bN c R s a w){b ver:Nat}{u:Value}(h:au (bA c R s.hp) w s.hp R (.aO b ver) u):au (bA c R s.hp) w s.hp R (aad s.hp b ver) u:=by
 unfold aad;split
 ·rename_i v S K G;split
  ·rename_i Q;simp only[au] at h ⊢;exact pV (N':=bA c R s.hp) g (b:=b) (ver:=ver) (by rw[G];simp[uU,Q]) (fun r h=>h) (fun r J=>by rw[G] at J;exact J.elim) h
  exact h
 exact h
theorem ND (g:bN c R s a w){b ver st K hi:Nat}{u:Value}(h:au (bA c R s.hp) w s.hp R (.sub b ver st K hi) u):au (bA c R s.hp) w s.hp R (aae s.hp b ver st K hi) u:=by
 unfold aae;split
 ·rename_i nn aa Q he;split
  ·rename_i J;have J:=Nat.eq_of_beq_eq_true J;subst J;simp only[au] at h;obtain⟨u0,S,V,rfl⟩:=h;have X:au (bA c R s.hp) w s.hp R (.aO b ver) u0:=by simp only[au];exact S
   have G:=yS g X;rw[he] at G;simp only[au] at G ⊢;exact (Tg G V).1
  exact h
 exact h
theorem o9 (g:bN c R s a w):∀{cs:List AV} {us:List Value},FC (au (bA c R s.hp) w s.hp R) cs us→FC (au (bA c R s.hp) w s.hp R) (thC s.hp cs) us
 |[],us,h=>h
 | x::r,us,h=>by
   obtain⟨v,t,e,G,J,K⟩:=h;cases x with
   |aO b ver=>exact⟨v,t,e,G,yS g J,o9 g K⟩
   |sub b ver S Q hi=>exact⟨v,t,e,G,ND g J,o9 g K⟩
   |_=>exact⟨v,t,e,G,J,o9 g K⟩
theorem VF (g:bN c R s a w){x:AV}{u:Value}(h:au (bA c R s.hp) w s.hp R x u):au (bA c R s.hp) w s.hp R (thA s.hp x) u:=by
 cases x with
 | agg cs=>
   simp only[thA,au] at h ⊢;obtain⟨vs,e,h⟩:=h;rw[bR] at h;exact⟨vs,e,by rw[bR];exact o9 g h⟩
 |aO b ver=>exact yS g h
 |_=>exact h
end
theorem T9 (H:List (Nat×aI)):∀(cs:List AV),(thC H cs).length=cs.length
 |[]=>rfl
 |x::r=>by cases x<;>simp[thC,T9 H r]
def thB (H:List (Nat×aI))(box:aI):aI:=
 match box with
 |.var G=>.var (thC H G)
 |.oN G=>.oN G
 |.arr e v K J=>.arr e v K J
 |.d9 v K J=>.d9 v K J
 |.tr y v rest K=>.tr y v rest K
 |.iP e v K pre Q post=>.iP e v K pre (thC H Q) post
def QY (H:List (Nat×aI)):List (Nat×aI)→List (Nat×aI)
 |[]=>[]
 |(k,box)::r=>(k,thB H box)::QY H r
theorem aaf (H:List (Nat×aI)):∀(hp:List (Nat×aI)) (x:Nat),lk (QY H hp) x=(lk hp x).map (thB H)
 |[],x=>rfl
 | (y,box)::r,x=>by
   simp only[QY,aG];split
   ·rfl
   exact aaf H r x
section
variable {P:Program}{c:Ctx}{R:Real}{s:AS}{a:Act}{w:World}
theorem JB (g:bN c R s a w):bN c R ⟨s.tm,s.nx,QY s.hp s.hp⟩ a w∧∀v x,au (bA c R s.hp) w s.hp R v x→au (bA c R (QY s.hp s.hp)) w (QY s.hp s.hp) R v x:=by
 have hk:∀b,lk (QY s.hp s.hp) b=(lk s.hp b).map (thB s.hp):=aaf s.hp s.hp;have Zp:∀b r,aQ R b r (lk (QY s.hp s.hp) b)↔aQ R b r (lk s.hp b):=fun b r=>by
  rw[hk];cases lk s.hp b with
  |none=>exact Iff.rfl
  |some box=>cases box<;>exact Iff.rfl
 have ho:∀r,owned R (QY s.hp s.hp) r↔owned R s.hp r:=fun r=>by simp only[owned,Zp]
 have S:∀r,r<w.heap.size→bA c R (QY s.hp s.hp) r→bA c R s.hp r:=fun r _ h=>h.imp id (ho r).1
 have V:∀r,r<w.heap.size→¬bA c R s.hp r→w.heap[r]? = w.heap[r]? :=fun _ _ _=>rfl
 have h1:∀b off v,bf R b off v (lk s.hp b)→bf R b off v (lk (QY s.hp s.hp) b):=fun b off v h=>by
  rw[hk];cases G:lk s.hp b with
  |none=>rw[G] at h;exact h.elim
  |some box=>rw[G] at h;cases box<;>exact h
 have h2:∀b ver v,aX R b ver v (lk s.hp b)→aX R b ver v (lk (QY s.hp s.hp) b):=fun b ver v h=>by
  rw[hk];cases G:lk s.hp b with
  |none=>rw[G] at h;exact h.elim
  |some box=>rw[G] at h;cases box<;>exact h
 have h3:∀b ver i off v,bC R b ver i off v (lk s.hp b)→bC R b ver i off v (lk (QY s.hp s.hp) b):=fun b ver i off v h=>by
  rw[hk];cases G:lk s.hp b with
  |none=>rw[G] at h;exact h.elim
  |some box=>rw[G] at h;cases box<;>exact h
 have Q:=dM S V h1 h2 h3;refine⟨⟨fun t v hv=>?_,g.size,g.lo,g.marks.imp fun Ds hm=>hm.kept (fun _ _ _=>rfl) (fun r _ h=>(ho r).1 h),g.fixed.kept (fun _ _ _=>rfl) (fun r _ h=>(ho r).1 h),fun b box G=>?_,fun b b' r G ad=>?_,fun r Q=>g.free r ((ho r).1 Q),g.jV,fun r Q=>g.jy r ((ho r).1 Q),fun v x h=>Q v x (g.kept v x h)⟩,Q⟩
 ·obtain⟨x,J,h⟩:=g.slots t v hv;exact⟨x,J,Q v x h⟩
 ·rw[hk] at G;cases hl:lk s.hp b with
  |none=>rw[hl] at G;cases G
  | some bx=>
    rw[hl] at G;simp only[Option.map_some,Option.some.injEq] at G;subst G;have J:=g.boxes b bx hl;cases bx with
    | var K=>
      simp only[fK] at J;obtain⟨aa,e,ha,hc⟩:=J;rw[bR] at hc;refine⟨aa,e,ha,dK S V h1 h2 h3 _ _ ?_⟩;rw[bR];exact o9 g hc
    | oN K=>
      simp only[thB,fK] at J ⊢;obtain⟨aa,e,fr,ha,hn,G⟩:=J;exact⟨aa,e,fr,ha,fun h=>hn (h.imp id (ho _).1),fJ S V K _ G⟩
    | arr e ver st X=>
      simp only[thB,fK] at J ⊢;obtain⟨xs,ha,G⟩:=J;exact⟨xs,ha,bg S V st X xs G⟩
    | d9 ver st X=>
      simp only[thB,fK] at J ⊢;exact dV S V _ _ J
    | tr y ver rest st=>
      obtain⟨k0,kh,k1,k2,k3,k4⟩:=J;exact⟨k0,kh,k1,k2,k3,fun r Q=>k4 r (Q.imp id (ho r).1)⟩
    | iP e v st pre ae post=>
      obtain⟨xs,a1,a2,a3,a4,a5⟩:=J;rw[bR] at a4;refine⟨xs,a1,bg S V _ _ _ a2,by rw[T9];exact a3,dK S V h1 h2 h3 _ _ ?_,bg S V _ _ _ a5⟩;rw[bR];exact o9 g a4
 exact g.inj b b' r ((Zp b r).1 G) ((Zp b' r).1 ad)
theorem gL {f:FuncId}{args:List AV}{hp:List (Nat×aI)}{r:AV}{hp':List (Nat×aI)}(h:dX P f args hp r hp')(V:List Nat){r2:AV}{G:List (Nat×aI)}
  (e:match JZ hp' V with|some Q=>ac1 (QY (Q++hp') (Q++hp')) r (fun x h=>x=r2∧h=G)|none=>False):dX P f args hp r2 G:=by
 refine⟨h.1,fun c R w dG hh ha=>(h.2 c R w dG hh ha).mono ?_⟩;rintro ex w' ⟨v,r0,mR,R',rfl,⟨e1,e2⟩,X,hr⟩
 rw[e1,e2] at hr;rw[e2] at X;split at e
 ·rename_i Q S;have g:bN c R' ⟨[],0,hp'⟩ { tmps:=Array.replicate c.n undef,defers:=[] } w':=
   X.X3 (fun t v h=>by simp[lk] at h) (by simp) ⟨[],⟨fun d h=>by simp at h,rfl,by simp,fun d h=>by simp at h,fun d h=>by simp at h⟩⟩
  obtain⟨g1,m1,_⟩:=kE g (fun _ _ h=>h) _ _ S;obtain⟨g2,m2⟩:=JB g1;obtain⟨r',K,J,hQ,h1,h2⟩:=yj e g2.hap (m2 _ _ (m1 _ _ hr));exact⟨v,r',K,J,rfl,hQ,h1,h2⟩
 exact e.elim
end
def Nc (k:Nat):List (Nat×aI)→List (Nat×aI)
 |[]=>[]
 | (x,b)::r=>match Nat.beq x k with
   |true=>Nc k r
   |false=>(x,b)::Nc k r
def ddp:List (Nat×aI)→List (Nat×aI)
 |[]=>[]
 |(k,b)::r=>(k,b)::Nc k (ddp r)
theorem Gc (k:Nat):∀(l:List (Nat×aI)) (t:Nat),t≠k→lk (Nc k l) t=lk l t
 |[],t,_=>rfl
 | (x,b)::r,t,h=>by
   simp only[Nc];split
   ·rename_i e;have:=Nat.eq_of_beq_eq_true e;subst this;rw[aG,if_neg (fun e=>h e.symm)];exact Gc x r t h
   rw[aG,aG];split
   ·rfl
   exact Gc k r t h
theorem ZB:∀(l:List (Nat×aI)) (t:Nat),lk (ddp l) t=lk l t
 |[],t=>rfl
 | (k,b)::r,t=>by
   simp only[ddp,aG];split
   ·rfl
   rename_i h;rw[Gc k _ t (fun e=>h e.symm)];exact ZB r t
def ZC (hp:List (Nat×aI))(vs:List AV)(Q:AV→List (Nat×aI)→Prop):Prop:=
 match vs with
 |[v]=>Q v (ddp hp)
 | _=>match SK vs with
   |v=>Q v (ddp hp)
def fnI (T:Tab)(G:List ResultVar)(Q:AV→List (Nat×aI)→Prop)(e:Exit)(s:AS):Prop:=
 match e with
 |.normal=>Bf T s G fun vs=>ZC s.hp vs Q
 |.ret=>Bf T s G fun vs=>ZC s.hp vs Q
 |_=>False
theorem Ak {c:Ctx}{R:Real}{hp hp':List (Nat×aI)}{w:World}(G:∀b,lk hp' b=lk hp b)(g:zH c R hp w) :
  zH c R hp' w∧∀v x,au (bA c R hp) w hp R v x→au (bA c R hp') w hp' R v x:=by
 have X:∀r,owned R hp' r↔owned R hp r:=fun r=>by simp only[owned,G]
 have V:∀r,r<w.heap.size→bA c R hp' r→bA c R hp r:=fun r _ h=>h.imp id (X r).1
 have hw:∀r,r<w.heap.size→¬bA c R hp r→w.heap[r]? = w.heap[r]? :=fun _ _ _=>rfl
 have K:∀b off v,bf R b off v (lk hp b)→bf R b off v (lk hp' b):=fun b off v h=>by rw[G];exact h
 have Q:∀b ver v,aX R b ver v (lk hp b)→aX R b ver v (lk hp' b):=fun b ver v h=>by rw[G];exact h
 have S:∀b ver i off v,bC R b ver i off v (lk hp b)→bC R b ver i off v (lk hp' b):=fun b ver i off v h=>by rw[G];exact h
 have hr:=dM V hw K Q S;obtain⟨a,J,yD⟩:∃a:Act,a.tmps.size=c.n∧a.defers=[]:=⟨{ tmps:=Array.replicate c.n undef,defers:=[] },by simp,rfl⟩;have gm:=g.X3 (tm:=[]) (nx:=0) (a:=a) (fun t v h=>by simp[lk] at h) J (by rw[yD];exact⟨[],Marks.nil⟩);exact⟨(gm.congr (tm':=[]) (hp':=hp') (fun _=>rfl) G).hap,hr⟩
theorem QL {c:Ctx}{R:Real}{hp:List (Nat×aI)}{w:World}(g:zH c R hp w){vs:List AV}{us:List Value}{Q:AV→List (Nat×aI)→Prop}(h:ZC hp vs Q)
  (hv:FL (au (bA c R hp) w hp R) vs us):∃r G K,Q r G∧zH c K G w∧au (bA c K G) w G K r (if hu:us.toArray.size=1 then us.toArray[0] else .tuple us.toArray):=by
 obtain⟨g',hr⟩:=Ak (ZB hp) g;have S:=hv.length;unfold ZC at h;split at h
 ·rename_i v;obtain⟨u,r,rfl,hu,hx⟩:=hv;simp only[FL] at hx;subst hx;exact⟨_,_,R,h,g',hr _ _ (by simpa using hu)⟩
 rename_i V;have aa:us.toArray.size≠1:=by
  intro e;simp only[List.size_toArray] at e;rw[e] at S;match vs with
  |[v]=>exact V v rfl
  |[]=>simp at S
  |_::_::_=>simp at S
 rw[dif_neg aa];refine⟨_,_,R,h,g',hr _ _ ?_⟩;have J:=(eZ _ _ _ _ _ _).2 hv;unfold SK;split
 ·rename_i ps X;have:=wK X;subst this;simp only[au,bL];exact⟨us.toArray,rfl,qD _ _ J⟩
 simp only[au];exact⟨us.toArray,rfl,J⟩
section
variable {P:Program}{T:Tab}
theorem bY (hT:dB P T)(jY:∀(c:Ctx) (R:Real) (s:AS) (a:Act) (w:World) (id:Nat) (ops:Array Oper) (K:Exit→AS→Prop) (ro:Option Nat),bN c R s a w→oC c.n ops.toList=true →
  VC P T (.region id ops true) s K→(Code.region id ops true).wpIn (W1 ro) 0 P (fun e a' V=>∃X s',K e s'∧bN c X s' a' V) a w)
  {f:FuncId} {fn:Func} (hf:bM P f fn) {args:List AV} {hp:List (Nat×aI)} (hl:Nat.ble args.length fn.ntmps=true) {Q:AV→List (Nat×aI)→Prop}
  (h:XZ args hp fun s=>VC P T (codeOf fn) s (fnI T fn.results.toList Q)):GC P f args hp Q:=by
 unfold XZ at h;split at h
 case h_2=>exact h.elim
 rename_i XV PE;refine⟨⟨fn,hf.func,hf.body,hf.name⟩,fun c R w dG S J=>?_⟩;have ad:fn.body=some (codeOf fn):=by
  have:=hf.body;unfold codeOf;cases hb:fn.body with
  |none=>rw[hb] at this;cases this
  |some c=>rfl
 have hl:=Nat.le_of_ble_eq_true hl;rw[eZ] at J;have ai:dG.size=args.length:=by have:=J.length;simpa using this
 let c':Ctx:={ c with n:=fn.ntmps,lo:=w.heap.size }
 have PI:zH c' R hp w:=⟨S.boxes,S.inj,S.free,S.jV,S.jy,S.kept,S.fixed,⟨S.lo.1,Nat.le_trans S.lo.2.1 S.lo.2.2,Nat.le_refl _⟩⟩;refine callsIn_wide.1 (callsIn_of_wp_marks (n:=0) hf.func ad trivial ?_);have g:bN c' R ⟨XV,1000000000,hp⟩ { tmps:=dG++Array.replicate (fn.ntmps-dG.size) undef,defers:=[] } w:=by
  refine PI.X3 ?_ ?_ ⟨[],Marks.nil⟩
  ·intro t v hv;obtain⟨_,hp⟩:=ET lits 0 args XV t v D9 PE hv;obtain⟨x,hx,hr⟩:=J.get hp;have af:dG[t]? = some x:=by simpa using hx
   refine⟨x,?_,hr⟩;have:=size_of_getElem? af;simp only;rw[Array.getElem?_append_left this];exact af
  show (dG++Array.replicate (fn.ntmps-dG.size) undef).size=fn.ntmps
  simp;omega
 refine Go.wpIn_mono (gD (c:=c') (ro:=none) hT jY (codeOf fn) ⟨fun _ h=>(by cases h),S.fixed.nc⟩ g hf.ok h) ?_;rintro e a' XW ⟨X,s',hK,XY⟩
 obtain⟨Ds,ag⟩:=XY.marks;obtain⟨V,ah,g',aa⟩:=pK (c:=c') (P:=P) (fn:=fn) (Rr:=fun e V=>∃v r G X,e=.returned v∧Q r G∧zH c X G V∧au (bA c X G) V G X r v) S.jV.size (fun r o h=>size_of_getElem? (S.fixed.obj r o h)) Ds a' XW XY ag;have fin:(Bf T s' fn.results.toList fun vs=>ZC s'.hp vs Q)→LeavesInM Fence.wide 0 P fn a'.tmps (fun e V=>∃v r G X,e=.returned v∧Q r G∧zH c X G V∧au (bA c X G) V G X r v) a'.defers .returning XW:=by
  intro hK;refine aa ?_;obtain⟨vs,us,h1,h2,h3⟩:=pJ g' hT _ hK;obtain⟨r,G,R2,h4,h5,h6⟩:=QL g'.hap h2 h3;refine⟨_,?_,_,r,G,R2,rfl,h4,⟨h5.boxes,h5.inj,h5.free,h5.jV,h5.jy,h5.kept,h5.fixed,⟨h5.lo.1,S.lo.2.1,?_⟩⟩,h6⟩;rotate_left
  ·have h1:w.heap.size≤V.heap.size:=h5.lo.2.2;exact Nat.le_trans S.lo.2.2 h1
  have ae:results fn a'.tmps=(fn.results.mapM (ES P a'.tmps) >>= fun vs=>pure (if h:vs.size=1 then vs[0] else .tuple vs)):=by
   unfold results;congr 2
  have hm:(fn.results.mapM (ES P a'.tmps)).run P V=.ok us.toArray V:=by
   rw[Array.mapM_eq_mapM_toList,Sem.run_map,h1];rfl
  rw[ae];simp only[Sem.run_bind,hm,Result.andThen_ok,Sem.run_pure]
 cases e with
 |normal=>exact fin hK
 |ret=>exact fin hK
 |exit i=>exact hK.elim
 |goto l=>exact hK.elim
 |panic ch=>exact hK.elim
 |outgrown=>exact hK.elim
end
section
variable {P:Program}{c:Ctx}{R:Real}{s:AS}{a:Act}{w:World}
theorem bN.cut (g:bN c R s a w){b:Nat}{e:TypeId}{ver st:Nat}{rows:List (List PV)}(J:lk s.hp b=some (.arr e ver st rows)){m:Nat}(ad:m≤rows.length) :
  bN c R (s.app [(b,.arr e (ver+1) st (rows.take m))]) a w∧au (bA c R ([(b,.arr e (ver+1) st (rows.take m))]++s.hp)) w ([(b,.arr e (ver+1) st (rows.take m))]++s.hp) R (.aO b (ver+1)) (iZ st 0 m (dW R b rows.length)):=by
 have hR:∀K,K≠b→R.blk K=R.blk K∧R.nil K=R.nil K∧R.cap K=R.cap K:=fun _ _=>⟨rfl,rfl,rfl⟩
 have G:(rows.take m).length=m:=by simp;omega
 have ae:=g.boxes b _ J;have Q:∃ys,O1 w e st (dW R b (rows.take m).length) (rows.take m).length ys∧dI (bA c R s.hp) w st (rows.take m) ys:=by
  cases V:R.nil b with
  | true=>
    have:=oM (g.boxes b _ J) V;subst this;exact⟨[],⟨by simp,.inl ⟨by simp[dW,V],by simp⟩⟩,by simp[dI]⟩
  | false=>
    obtain⟨X,hg,hs,aa,hm,hr,_⟩:=gY (g.boxes b _ J) V;have S:=mD (i:=m) hr;obtain⟨t1,t2,t3⟩:=gH S;rw[G] at t1 t2;refine⟨(X.toList.drop (R.cap b).2.2).take (m*st),⟨?_,.inr ⟨R.blk b,(R.cap b).1,X,(R.cap b).2.2,by simp[dW,V],hg,?_,hm,hs,by rw[G]⟩⟩,t2⟩
    ·rw[List.length_take,G];omega
    rw[G];omega
 obtain⟨ys,ho,hr⟩:=Q;obtain⟨g2,S⟩:=g.qW (b:=b) (e:=e) (ver:=ver+1) (st:=st) (rows:=rows.take m) (R':=R) (.inr ⟨_,_,_,_,J,by omega⟩) hR (mV.refl _ w)
  (fun V=>.inl (by rw[J];exact⟨V,rfl⟩)) ho hr
 refine⟨g2,?_⟩;have:iZ st 0 m (dW R b rows.length)=dW R b (rows.take m).length:=by
  rw[G];unfold dW;split
  ·rfl
  simp only[iZ,Nat.sub_zero,Nat.zero_mul];split<;>rfl
 rw[this];exact S
theorem Ua {f:FuncId}{args:List AV}{hp:List (Nat×aI)}{b:Nat}{e:TypeId}{ver st m:Nat}{rows:List (List PV)}{rest:List (Nat×aI)}
  (h:dX P f args hp (.sub b ver st 0 m) ((b,.arr e ver st rows)::rest)) (hm:m≤rows.length):dX P f args hp (.aO b (ver+1)) ((b,.arr e (ver+1) st (rows.take m))::rest):=by
 refine⟨h.1,fun c R w V hh ha=>(h.2 c R w V hh ha).mono ?_⟩;rintro ex w' ⟨v,r0,mR,K,rfl,⟨X,Q⟩,J,G⟩
 rw[X,Q] at G;rw[Q] at J;have g:bN c K ⟨[],0,(b,.arr e ver st rows)::rest⟩ { tmps:=Array.replicate c.n undef,defers:=[] } w':=
  J.X3 (fun t v h=>by simp[lk] at h) (by simp) ⟨[],⟨fun d h=>by simp at h,rfl,by simp,fun d h=>by simp at h,fun d h=>by simp at h⟩⟩
 have S:lk ((b,aI.arr e ver st rows)::rest) b=some (.arr e ver st rows):=by rw[aG,if_pos rfl]
 obtain⟨g1,h1⟩:=g.cut S hm;simp only[au,S,aX] at G;obtain⟨u,⟨_,_,hu⟩,_,rfl⟩:=G;rw[hu (by trivial)];have hc:∀k,lk ((b,aI.arr e (ver+1) st (rows.take m))::rest) k=lk ([(b,.arr e (ver+1) st (rows.take m))]++(b,aI.arr e ver st rows)::rest) k:=by
  intro k;simp only[List.cons_append,List.nil_append,aG];split<;>rfl
 obtain⟨g2,m2⟩:=Ak hc g1.hap;exact⟨_,_,_,K,rfl,⟨rfl,rfl⟩,g2,m2 _ _ h1⟩
end
section
variable {P:Program}{c:Ctx}{R:Real}{s:AS}{a:Act}{w:World}
theorem aag {f:FuncId}{args:List AV}{hp:List (Nat×aI)}{b:Nat}{e:TypeId}{ver st:Nat}{rows:List (List PV)}{rest:List (Nat×aI)}
  (h:dX P f args hp (.aO b ver) ((b,.arr e ver st rows)::rest)):dX P f args hp (.aO b (ver+1)) ((b,.arr e (ver+1) st rows)::rest):=by
 refine⟨h.1,fun c R w dG hh ha=>(h.2 c R w dG hh ha).mono ?_⟩;rintro ex w' ⟨v,r0,mR,G,rfl,⟨e1,Q⟩,K,J⟩
 rw[e1,Q] at J;rw[Q] at K;have g:bN c G ⟨[],0,(b,.arr e ver st rows)::rest⟩ { tmps:=Array.replicate c.n undef,defers:=[] } w':=
  K.X3 (fun t v h=>by simp[lk] at h) (by simp) ⟨[],⟨fun d h=>by simp at h,rfl,by simp,fun d h=>by simp at h,fun d h=>by simp at h⟩⟩
 have X:lk ((b,aI.arr e ver st rows)::rest) b=some (.arr e ver st rows):=by rw[aG,if_pos rfl]
 obtain⟨S,V⟩:=g.cut X (Nat.le_refl _);simp only[au,X,aX] at J;obtain⟨_,_,hu⟩:=J;rw[hu (by trivial)];have hs:iZ st 0 rows.length (dW G b rows.length)=dW G b rows.length:=by
  unfold dW;split
  ·rfl
  simp only[iZ,Nat.sub_zero,Nat.zero_mul];split<;>rfl
 rw[hs,List.take_length] at V;rw[List.take_length] at S;have hc:∀k,lk ((b,aI.arr e (ver+1) st rows)::rest) k=lk ([(b,.arr e (ver+1) st rows)]++(b,aI.arr e ver st rows)::rest) k:=by
  intro k;simp only[List.cons_append,List.nil_append,aG];split<;>rfl
 obtain⟨g2,m2⟩:=Ak hc S.hap;exact⟨_,_,_,G,rfl,⟨rfl,rfl⟩,g2,m2 _ _ V⟩
end
def fuC (b:Nat):List AV→List AV
 |[]=>[]
 | .sub G ver K J hi::r=>(match Nat.beq G b with
   |true=>.aO b ver
   |false=>.sub G ver K J hi)::fuC b r
 |x::r=>x::fuC b r
def ad3 (b n:Nat):List AV→Prop
 |[]=>True
 |.sub G _ _ J hi::r=>(G=b→J=0∧hi=n)∧ad3 b n r
 |_::r=>ad3 b n r
section
variable {P:Program}{c:Ctx}{R:Real}{s:AS}{a:Act}{w:World}
theorem aah {N:Nat→Prop}{hp:List (Nat×aI)}{b ver st:Nat}{e:TypeId}{v K:Nat}{rows:List (List PV)}(Q:lk hp b=some (.arr e v K rows)){x:Value}
  (h:au N w hp R (.sub b ver st 0 rows.length) x):au N w hp R (.aO b ver) x:=by
 simp only[au,Q,aX] at h ⊢;obtain⟨u,⟨G,J,V⟩,S,rfl⟩:=h;refine⟨G,Lu _ _ _ _,fun e=>?_⟩;rw[V e];unfold dW;split
 ·rfl
 simp only[iZ,Nat.sub_zero,Nat.zero_mul];split<;>rfl
theorem BU {N:Nat→Prop}{hp:List (Nat×aI)}{b:Nat}{e:TypeId}{v D6:Nat}{rows:List (List PV)}(J:lk hp b=some (.arr e v D6 rows)) :
  ∀{cs:List AV} {us:List Value},ad3 b rows.length cs→FC (au N w hp R) cs us→FC (au N w hp R) (fuC b cs) us
 |[],us,_,h=>h
 | x::r,us,X,h=>by
   obtain⟨y,t,Q,S,G,V⟩:=h;cases x with
   | sub b' ver st lo hi=>
     obtain⟨o1,o2⟩:=X;refine⟨y,t,Q,S,?_,BU J o2 V⟩;split
     ·rename_i K;have K:=Nat.eq_of_beq_eq_true K;subst K;obtain⟨rfl,rfl⟩:=o1 rfl;exact aah J G
     exact G
   |_=>exact⟨y,t,Q,S,G,BU J (by exact X) V⟩
theorem bN.ag7 (g:bN c R s a w){k:Nat}{cells G:List AV}(S:lk s.hp k=some (.var cells))(hc:∀us,FC (au (bA c R s.hp) w s.hp R) cells us→FC (au (bA c R s.hp) w s.hp R) G us) :
  bN c R ⟨s.tm,s.nx,(k,.var G)::s.hp⟩ a w∧∀v x,au (bA c R s.hp) w s.hp R v x→au (bA c R ((k,aI.var G)::s.hp)) w ((k,aI.var G)::s.hp) R v x:=by
 have hk:∀b,b≠k→lk ((k,aI.var G)::s.hp) b=lk s.hp b:=fun b h=>by rw[aG,if_neg (fun e=>h e.symm)]
 have ad:lk ((k,aI.var G)::s.hp) k=some (.var G):=by rw[aG,if_pos rfl]
 have Zp:∀b r,aQ R b r (lk ((k,aI.var G)::s.hp) b)↔aQ R b r (lk s.hp b):=fun b r=>by
  by_cases h:b=k
  ·subst h;rw[ad,S];exact Iff.rfl
  rw[hk b h]
 have ho:∀r,owned R ((k,aI.var G)::s.hp) r↔owned R s.hp r:=fun r=>by simp only[owned,Zp]
 have V:∀r,r<w.heap.size→bA c R ((k,aI.var G)::s.hp) r→bA c R s.hp r:=fun r _ h=>h.imp id (ho r).1
 have hw:∀r,r<w.heap.size→¬bA c R s.hp r→w.heap[r]? = w.heap[r]? :=fun _ _ _=>rfl
 have h1:∀b off v,bf R b off v (lk s.hp b)→bf R b off v (lk ((k,aI.var G)::s.hp) b):=fun b off v h=>by
  by_cases e:b=k
  ·subst e;rw[S] at h;rw[ad];exact h
  rw[hk b e];exact h
 have h2:∀b ver v,aX R b ver v (lk s.hp b)→aX R b ver v (lk ((k,aI.var G)::s.hp) b):=fun b ver v h=>by
  by_cases e:b=k
  ·subst e;rw[S] at h;exact h.elim
  rw[hk b e];exact h
 have h3:∀b ver i off v,bC R b ver i off v (lk s.hp b)→bC R b ver i off v (lk ((k,aI.var G)::s.hp) b):=fun b ver i off v h=>by
  by_cases e:b=k
  ·subst e;rw[S] at h;exact h.elim
  rw[hk b e];exact h
 have X:=dM V hw h1 h2 h3;refine⟨⟨fun t v hv=>?_,g.size,g.lo,g.marks.imp fun Ds hm=>hm.kept (fun _ _ _=>rfl) (fun r _ h=>(ho r).1 h),g.fixed.kept (fun _ _ _=>rfl) (fun r _ h=>(ho r).1 h),fun b box Q=>?_,fun b b' r Q af=>?_,fun r X=>g.free r ((ho r).1 X),g.jV,fun r X=>g.jy r ((ho r).1 X),fun v x h=>X v x (g.kept v x h)⟩,X⟩
 ·obtain⟨x,J,h⟩:=g.slots t v hv;exact⟨x,J,X v x h⟩
 ·by_cases e:b=k
  ·subst e;rw[ad] at Q;simp only[Option.some.injEq] at Q;subst Q;have J:=g.boxes b _ S;simp only[fK] at J;obtain⟨K,e,ha,ae⟩:=J;rw[bR] at ae;refine⟨K,e,ha,dK V hw h1 h2 h3 _ _ ?_⟩;rw[bR];exact hc _ ae
  rw[hk b e] at Q;have J:=g.boxes b box Q;cases box with
  | var cells=>
    simp only[fK] at J ⊢;obtain⟨K,e,ha,hc⟩:=J;exact⟨K,e,ha,dK V hw h1 h2 h3 _ _ hc⟩
  | oN cells=>
    simp only[fK] at J ⊢;obtain⟨K,e,fr,ha,hn,Q⟩:=J;exact⟨K,e,fr,ha,fun h=>hn (h.imp id (ho _).1),fJ V hw cells _ Q⟩
  | arr e ver st aa=>
    simp only[fK] at J ⊢;obtain⟨xs,ha,Q⟩:=J;exact⟨xs,ha,bg V hw st aa xs Q⟩
  | d9 ver st aa=>
    simp only[fK] at J ⊢;exact dV V hw _ _ J
  | tr y ver rest st=>
    obtain⟨k0,kh,k1,k2,k3,k4⟩:=J;exact⟨k0,kh,k1,k2,k3,fun r X=>k4 r (X.imp id (ho r).1)⟩
  | iP e v st pre ag post=>
    obtain⟨xs,a1,a2,a3,a4,a5⟩:=J;exact⟨xs,a1,bg V hw _ _ _ a2,a3,dK V hw h1 h2 h3 _ _ a4,bg V hw _ _ _ a5⟩
 exact g.inj b b' r ((Zp b r).1 Q) ((Zp b' r).1 af)
theorem aai {f:FuncId}{args:List AV}{hp:List (Nat×aI)}{r:AV}{k b:Nat}{cells:List AV}{e:TypeId}{v G:Nat}{rows:List (List PV)}{rest:List (Nat×aI)}
  (h:dX P f args hp r ((k,.var cells)::(b,.arr e v G rows)::rest)) (K:k≠b) (ho:ad3 b rows.length cells) :
  dX P f args hp r ((k,.var (fuC b cells))::(b,.arr e v G rows)::rest):=by
 refine⟨h.1,fun c R w dG hh ha=>(h.2 c R w dG hh ha).mono ?_⟩;rintro ex w' ⟨x,r0,mR,S,rfl,⟨e1,V⟩,Q,X⟩
 rw[e1,V] at X;rw[V] at Q;have g:bN c S ⟨[],0,(k,.var cells)::(b,.arr e v G rows)::rest⟩ { tmps:=Array.replicate c.n undef,defers:=[] } w':=
  Q.X3 (fun t v h=>by simp[lk] at h) (by simp) ⟨[],⟨fun d h=>by simp at h,rfl,by simp,fun d h=>by simp at h,fun d h=>by simp at h⟩⟩
 have J:lk ((k,aI.var cells)::(b,aI.arr e v G rows)::rest) k=some (.var cells):=by rw[aG,if_pos rfl]
 have hb:lk ((k,aI.var cells)::(b,aI.arr e v G rows)::rest) b=some (.arr e v G rows):=by rw[aG,if_neg K,aG,if_pos rfl]
 obtain⟨g1,m1⟩:=g.ag7 J (fun us hu=>BU hb ho hu);have hc:∀j,lk ((k,aI.var (fuC b cells))::(b,aI.arr e v G rows)::rest) j=lk ((k,aI.var (fuC b cells))::(k,aI.var cells)::(b,aI.arr e v G rows)::rest) j:=by
  intro j;simp only[aG];split
  ·rfl
  rfl
 obtain⟨g2,m2⟩:=Ak hc g1.hap;exact⟨_,_,_,S,rfl,⟨rfl,rfl⟩,g2,m2 _ _ (m1 _ _ X)⟩
end
section
variable {P:Program}{c:Ctx}{R:Real}{s:AS}{a:Act}{w:World}
theorem NC {N:Nat→Prop}:∀{ps:List PV} {vs r:List Value},FL (bL N w) ps vs→(∀v∈vs,v.oneCell'=true)→jD N w ps (vs++r)
 |[],vs,r,h,_=>by simp only[jD]
 | p::ps,vs,r,h,G=>by
   obtain⟨v,S,rfl,J,K⟩:=h;simp only[jD,List.cons_append];exact⟨v,S++r,rfl,G v (by simp),J,NC K fun u Q=>G u (by simp[Q])⟩
theorem bN.aac (g:bN c R s a w){b:Nat}{e:TypeId}{v st:Nat}{pre post:List (List PV)}{row:List AV}{ps:List PV}{fs:List (Nat×aI)}(Q:lk s.hp b=some (.iP e v st pre row post))
  (ae:Ie s.hp row=some ps) (ad:JZ s.hp (fH row)=some fs) (aa:lk fs b=none) :
  bN c R (s.app ((b,.arr e v st (pre++ps::post))::fs)) a w∧∀u x,au (bA c R s.hp) w s.hp R u x→au (bA c R ((b,.arr e v st (pre++ps::post))::(fs++s.hp))) w ((b,.arr e v st (pre++ps::post))::(fs++s.hp)) R u x:=by
 obtain⟨xs,k1,k2,k3,G,k5⟩:=g.boxes b _ Q;obtain⟨g1,m1,n1,o1⟩:=kE g (fun _ _ h=>h) _ _ ad;have J:=(bR _ _ _ _ _ _).1 G;have hL:dw (bA c R s.hp) w s.hp R row ((xs.drop (pre.length*st)).take st):=by
  have:∀(l:List AV) (vs:List Value),dZ (bA c R s.hp) w s.hp R l vs→dw (bA c R s.hp) w s.hp R l vs:=by
   intro l;induction l with
   |nil=>intro vs h;simpa only[dZ,dw] using h
   | cons y l ih=>
     intro vs h;simp only[dZ,dw] at h ⊢;obtain⟨z,r,e,_,h1,h2⟩:=h;exact⟨z,r,e,h1,ih _ h2⟩
  exact this _ _ G
 have V:=iQ g (fun _ _ h=>h) n1 row ps _ (fun b Q=>o1 b (.inr Q)) ae hL;have X:lk (s.app fs).hp b=some (.iP e v st pre row post):=by
  show lk (fs++s.hp) b=_
  rw[A9,aa];exact Q
 have hl:(pre++ps::post).length=pre.length+(1+post.length):=by simp[Nat.add_comm]
 obtain⟨g2,m2⟩:=g1.Z7 (cZ:=.arr e v st (pre++ps::post)) X (fun off v h=>h.elim) (fun ver u h=>by simpa only[aX,hl] using h) (fun ver i off u h=>h) (fun r h=>h) (fun hm S=>by
  refine⟨xs,by rw[hl];exact k1,BR (bg (fun r _ h=>n1 r (S r h)) (fun _ _ _=>rfl) _ _ _ k2) ?_ ?_ (bg (fun r _ h=>n1 r (S r h)) (fun _ _ _=>rfl) _ _ _ k5)⟩
  ·rw[jF] at V;rw[←V.length,J.length];exact k3
  have K:=oO (fun r _ h=>S r h) (fun _ _ _=>rfl) _ _ V;rw[jF] at K;have:=NC (r:=(xs.drop (pre.length*st)).drop st) K J.one;rwa [List.take_append_drop] at this)
 exact⟨g2,fun u x h=>m2 u x (m1 u x h)⟩
theorem VE {s Q:AS}(b:Nat){e:TypeId}{v st:Nat}{pre post:List (List PV)}{row:List AV}{ps:List PV}{fs:List (Nat×aI)}(S:lk s.hp b=some (.iP e v st pre row post))
  (K:Ie s.hp row=some ps) (J:JZ s.hp (fH row)=some fs) (G:lk fs b=none) (h:vg ⟨s.tm,s.nx,(b,.arr e v st (pre++ps::post))::(fs++s.hp)⟩ Q):vg s Q:=
 fun c R a w g=>h c R a w (g.aac S K J G).1
end
def tmT (H:List (Nat×aI)):List (Nat×AV)→List (Nat×AV)
 |[]=>[]
 |(t,v)::r=>(t,thA H v)::tmT H r
theorem aaj (H:List (Nat×aI)):∀(tm:List (Nat×AV)) (t:Nat),lk (tmT H tm) t=(lk tm t).map (thA H)
 |[],t=>rfl
 | (k,v)::r,t=>by
   simp only[tmT,aG];split
   ·rfl
   exact aaj H r t
theorem bN.told {c:Ctx}{R:Real}{s:AS}{a:Act}{w:World}(g:bN c R s a w):bN c R ⟨tmT s.hp s.tm,s.nx,s.hp⟩ a w:=by
 refine⟨?_,g.size,g.lo,g.marks,g.fixed,g.boxes,g.inj,g.free,g.jV,g.jy,g.kept⟩;intro t v G;rw[aaj] at G;cases h:lk s.tm t with
 |none=>rw[h] at G;cases G
 | some Q=>
   rw[h] at G;simp only[Option.map_some,Option.some.injEq] at G;subst G;obtain⟨x,K,J⟩:=g.slots t Q h;exact⟨x,K,VF g J⟩
def pin (T:Tab):Tab:=
 match T with
 |x::y::r=>x::y::y::r
 |T=>T
theorem VJ {P:Program}{T:Tab}(h:dB P T):dB P (pin T):=by
 intro t i hi;refine h t i ?_;unfold pin at hi;split at hi
 ·rename_i x y r;rw[aG,aG,aG] at hi;rw[aG,aG];by_cases J:x.1=t
  ·rw[if_pos J] at hi ⊢;exact hi
  rw[if_neg J] at hi ⊢;by_cases G:y.1=t
  ·rw[if_pos G] at hi ⊢;exact hi
  rw[if_neg G] at hi;rw[if_neg G] at hi ⊢;exact hi
 exact hi
section
variable {P:Program}{c:Ctx}{R:Real}{s:AS}{a:Act}{w:World}
end
section
variable (b n:Nat)
mutual
def VB:AV→AV
 |.pv p=>.pv p
 |.agg cs=>.agg (Dj cs)
 |.cK cs=>.cK (Dj cs)
 |.ptr x o=>.ptr x o
 | .aO x v=>match Nat.beq x b with
   |true=>.aO n 0
   |false=>.aO x v
 | .sub x v st G hi=>match Nat.beq x b with
   |true=>.pv .junk
   |false=>.sub x v st G hi
 | .eY x v i o=>match Nat.beq x b with
   |true=>.pv .junk
   |false=>.eY x v i o
 |.fn f a c=>.fn f (Dj a) (Dj c)
def Dj:List AV→List AV
 |[]=>[]
 |x::r=>VB x::Dj r
end
def BQ (x:Nat)(box:aI):aI:=
 match box with
 |.var G=>.var (Dj b n G)
 | .arr e v st rows=>match Nat.beq x b with
   |true=>.d9 1 st []
   |false=>.arr e v st rows
 |.oN G=>.oN G
 |.d9 v st rows=>.d9 v st rows
 |.tr y v rest st=>.tr y v rest st
 |.iP e v st pre J post=>.iP e v st pre (Dj b n J) post
def QW:List (Nat×aI)→List (Nat×aI)
 |[]=>[]
 |(x,box)::r=>(x,BQ b n x box)::QW r
end
theorem iV {x y:Nat}(h:x≠y):Nat.beq x y=false:=by
 cases G:Nat.beq x y with
 |false=>rfl
 |true=>exact absurd (Nat.eq_of_beq_eq_true G) h
def mvM (b n:Nat)(hp:List (Nat×aI))(K:List (Nat×aI)→Prop):Prop:=
 match lk hp b with
 | some (.arr e v st rows)=>match v with
   | 0=>match lk hp n with
     |none=>K ((n,.arr e 0 st rows)::QW b n hp)
     |some _=>False
   |_=>False
 |_=>False
theorem Z6 (b n:Nat):∀(hp:List (Nat×aI)) (x:Nat),lk (QW b n hp) x=(lk hp x).map (BQ b n x)
 |[],x=>rfl
 | (y,box)::r,x=>by
   simp only[QW,aG];split
   ·rename_i e;subst e;rfl
   exact Z6 b n r x
theorem TY (b n:Nat):∀(vs:List AV),(Dj b n vs).length=vs.length
 |[]=>rfl
 |v::r=>by simp[Dj,TY b n r]
def JA (b n:Nat)(R:Real):Real where
 blk x:=if x=n then R.blk b else R.blk x
 nil x:=if x=n then R.nil b else R.nil x
 cap x:=if x=n then R.cap b else R.cap x
 Y:=R.Y
section
variable {N:Nat→Prop}{w:World}{hp:List (Nat×aI)}{R:Real}{b n:Nat}{e:TypeId}{st:Nat}{rows:List (List PV)}
variable (hb:lk hp b=some (.arr e 0 st rows))(hn:lk hp n=none)
include hb hn
theorem sD {x:Nat}(h:x≠n):(JA b n R).blk x=R.blk x∧(JA b n R).nil x=R.nil x∧(JA b n R).cap x=R.cap x:=by simp[JA,h]
omit hn in
theorem ag3:(JA b n R).blk n=R.blk b∧(JA b n R).nil n=R.nil b∧(JA b n R).cap n=R.cap b:=by simp[JA]
theorem Dk (x:Nat)(h:x≠n):lk ((n,.arr e 0 st rows)::QW b n hp) x=(lk hp x).map (BQ b n x):=by
 rw[aG,if_neg (fun G=>h G.symm),Z6]
omit hb hn in
theorem lG {R R':Real}{x y k:Nat}(G:R'.blk y=R.blk x)(J:R'.nil y=R.nil x)(K:R'.cap y=R.cap x):dW R' y k=dW R x k:=by
 simp only[dW,G,J,K]
mutual
theorem Gg:∀(v:AV) (x:Value),au N w hp R v x→au N w ((n,.arr e 0 st rows)::QW b n hp) (JA b n R) (VB b n v) x
 |.pv p,x,h=>by simpa only[au,VB] using h
 | .agg cs,x,h=>by
   simp only[au,VB] at h ⊢;obtain⟨vs,h1,h2⟩:=h;exact⟨vs,h1,Es cs _ h2⟩
 | .cK cs,x,h=>by
   simp only[au,VB] at h ⊢;obtain⟨vs,h1,h2⟩:=h;exact⟨vs,h1,Al cs _ h2⟩
 | .fn f a c,x,h=>by
   simp only[au,VB] at h ⊢;obtain⟨fs,cs,h1,h2,h3⟩:=h;exact⟨fs,cs,h1,Al a _ h2,Al c _ h3⟩
 | .ptr y o,x,h=>by
   simp only[au,VB] at h ⊢;by_cases J:y=n
   ·subst J;rw[hn] at h;exact h.elim
   rw[Dk hb hn y J];obtain⟨Q,S,V⟩:=sD (R:=R) hb hn J;cases hy:lk hp y with
   |none=>rw[hy] at h;exact h.elim
   | some box=>
     rw[hy] at h;cases box with
     |var G=>simpa only[Option.map_some,BQ,bf,Q] using h
     |oN G=>simpa only[Option.map_some,BQ,bf,Q] using h
     |arr _ _ _ _=>exact h.elim
     |d9 _ _ _=>exact h.elim
     |tr _ _ _ _=>exact h.elim
     |iP _ _ _ _ _ _=>exact h.elim
 | .aO y v,x,h=>by
   simp only[au,VB] at h ⊢;by_cases K:y=b
   ·subst K;rw[hb] at h;obtain⟨h1,h2,h3⟩:=h;have hv:v=0:=by omega
    subst hv;rw[show Nat.beq y y=true from Nat.beq_refl y];simp only[au,aG,if_true];refine⟨Nat.le_refl _,h2,fun _=>?_⟩;obtain⟨Q,S,V⟩:=ag3 (R:=R) (n:=n) hb;rw[lG Q S V];exact h3 rfl
   rw[show Nat.beq y b=false from iV K];simp only[au];by_cases J:y=n
   ·subst J;rw[hn] at h;exact h.elim
   rw[Dk hb hn y J];obtain⟨Q,S,V⟩:=sD (R:=R) hb hn J;cases hy:lk hp y with
   |none=>rw[hy] at h;exact h.elim
   | some box=>
     rw[hy] at h;cases box with
     |var G=>exact h.elim
     |oN G=>exact h.elim
     | arr e' v' X aR=>
       simp only[Option.map_some,BQ,show Nat.beq y b=false from iV K,aX,lG Q S V] at h ⊢;exact h
     | d9 v' X aR=>
       simp only[Option.map_some,BQ,aX,lG Q S V] at h ⊢;exact h
     |tr _ _ _ _=>exact h.elim
     | iP _ _ _ _ _ _=>
       simp only[Option.map_some,BQ,aX,lG Q S V] at h ⊢;exact h
 | .sub y v X lo hi,x,h=>by
   simp only[VB];by_cases K:y=b
   ·subst K;rw[show Nat.beq y y=true from Nat.beq_refl y];simp only[au,bL]
   rw[show Nat.beq y b=false from iV K];simp only[au] at h ⊢;obtain⟨u,h,h2,h3⟩:=h;refine⟨u,?_,h2,h3⟩;by_cases J:y=n
   ·subst J;rw[hn] at h;exact h.elim
   rw[Dk hb hn y J];obtain⟨Q,S,V⟩:=sD (R:=R) hb hn J;cases hy:lk hp y with
   |none=>rw[hy] at h;exact h.elim
   | some box=>
     rw[hy] at h;cases box with
     |var G=>exact h.elim
     |oN G=>exact h.elim
     | arr e' v' X aR=>
       simp only[Option.map_some,BQ,show Nat.beq y b=false from iV K,aX,lG Q S V] at h ⊢;exact h
     | d9 v' X aR=>
       simp only[Option.map_some,BQ,aX,lG Q S V] at h ⊢;exact h
     |tr _ _ _ _=>exact h.elim
     | iP _ _ _ _ _ _=>
       simp only[Option.map_some,BQ,aX,lG Q S V] at h ⊢;exact h
 | .eY y v i o,x,h=>by
   simp only[VB];by_cases K:y=b
   ·subst K;rw[show Nat.beq y y=true from Nat.beq_refl y];simp only[au,bL]
   rw[show Nat.beq y b=false from iV K];simp only[au] at h ⊢;by_cases J:y=n
   ·subst J;rw[hn] at h;exact h.elim
   rw[Dk hb hn y J];obtain⟨Q,S,V⟩:=sD (R:=R) hb hn J;cases hy:lk hp y with
   |none=>rw[hy] at h;exact h.elim
   | some box=>
     rw[hy] at h;cases box with
     |var G=>exact h.elim
     |oN G=>exact h.elim
     | arr e' v' X aR=>
       simp only[Option.map_some,BQ,show Nat.beq y b=false from iV K,bC,Q,S,V] at h ⊢;exact h
     | d9 v' X aR=>
       simp only[Option.map_some,BQ,bC,Q,S,V] at h ⊢;exact h
     | tr _ _ _ _=>
       simp only[Option.map_some,BQ,bC,Q,S,V] at h ⊢;exact h
     | iP _ _ _ _ _ _=>
       simp only[Option.map_some,BQ,bC,Q,S,V] at h ⊢;exact h
theorem Al:∀(vs:List AV) (xs:List Value),dw N w hp R vs xs→dw N w ((n,.arr e 0 st rows)::QW b n hp) (JA b n R) (Dj b n vs) xs
 |[],xs,h=>by simpa only[dw,Dj] using h
 | v::vs,xs,h=>by
   simp only[dw,Dj] at h ⊢;obtain⟨x,r,G,J,K⟩:=h;exact⟨x,r,G,Gg v x J,Al vs r K⟩
theorem Es:∀(vs:List AV) (xs:List Value),dZ N w hp R vs xs→dZ N w ((n,.arr e 0 st rows)::QW b n hp) (JA b n R) (Dj b n vs) xs
 |[],xs,h=>by simpa only[dZ,Dj] using h
 | v::vs,xs,h=>by
   simp only[dZ,Dj] at h ⊢;obtain⟨x,r,J,G,K,Q⟩:=h;exact⟨x,r,J,G,Gg v x K,Es vs r Q⟩
end
theorem KP (y r:Nat):aQ (JA b n R) y r (lk ((n,.arr e 0 st rows)::QW b n hp) y)↔(y=n∧aQ R b r (lk hp b))∨(y≠n∧y≠b∧aQ R y r (lk hp y)):=by
 by_cases G:y=n
 ·subst G;obtain⟨Q,S,e3⟩:=ag3 (R:=R) (n:=y) hb;simp only[aG,if_true,aQ,hb,Q,S,true_and,not_true_eq_false,false_and,or_false,ne_eq]
 rw[Dk hb hn y G];obtain⟨Q,S,e3⟩:=sD (R:=R) hb hn G;by_cases J:y=b
 ·subst J;rw[hb];simp only[Option.map_some,BQ,show Nat.beq y y=true from Nat.beq_refl y,aQ,G,false_and,ne_eq,not_true_eq_false,and_false,or_self]
 cases hy:lk hp y with
 |none=>simp[aQ,G]
 | some box=>
   cases box with
   |var K=>simp[BQ,aQ,G,J,Q]
   |oN K=>simp[BQ,aQ,G]
   |arr e' v' V X=>simp[BQ,aQ,G,J,Q,S,show Nat.beq y b=false from iV J]
   |d9 v' V X=>simp[BQ,aQ,G]
   |tr _ _ _ _=>simp[BQ,aQ,G,J,JA]
   |iP _ _ _ _ _ _=>simp[BQ,aQ,G,J,Q,S]
theorem Ns (r:Nat):owned (JA b n R) ((n,.arr e 0 st rows)::QW b n hp) r↔owned R hp r:=by
 constructor
 ·rintro⟨y,G⟩
  rcases (KP hb hn y r).1 G with ⟨_,h⟩|⟨_,_,h⟩
  ·exact⟨b,h⟩
  exact⟨y,h⟩
 rintro⟨y,G⟩
 by_cases J:y=b
 ·subst J;exact⟨n,(KP hb hn n r).2 (.inl ⟨rfl,G⟩)⟩
 by_cases K:y=n
 ·subst K;rw[hn] at G;exact G.elim
 exact⟨y,(KP hb hn y r).2 (.inr ⟨K,J,G⟩)⟩
theorem ag4 {c:Ctx}(aq:1000≤n)(h:zH c R hp w):zH c (JA b n R) ((n,.arr e 0 st rows)::QW b n hp) w:=by
 have V:=Ns (R:=R) hb hn;have al:∀r,bA c (JA b n R) ((n,.arr e 0 st rows)::QW b n hp) r↔bA c R hp r:=fun r=>by
  simp only[bA,V]
 have ah:bA c (JA b n R) ((n,.arr e 0 st rows)::QW b n hp)=bA c R hp:=funext fun r=>propext (al r)
 have ak:owned (JA b n R) ((n,.arr e 0 st rows)::QW b n hp)=owned R hp:=funext fun r=>propext (V r)
 have ai:=h.boxes b _ hb;refine⟨?_,?_,?_,h.jV,?_,?_,by rw[ak];exact h.fixed,h.lo⟩
 ·intro y box hy;rw[ah];by_cases af:y=n
  ·subst af;simp only[aG,if_true,Option.some.injEq] at hy;subst hy;obtain⟨xs,K,Q⟩:=ai;obtain⟨e1,e2,e3⟩:=ag3 (R:=R) (n:=y) hb;exact⟨xs,by rw[lG e1 e2 e3];exact K,Q⟩
  rw[Dk hb hn y af] at hy;obtain⟨e1,e2,e3⟩:=sD (R:=R) hb hn af;cases hl:lk hp y with
  |none=>rw[hl] at hy;cases hy
  | some bx=>
    rw[hl] at hy;simp only[Option.map_some,Option.some.injEq] at hy;subst hy;have X:=h.boxes y _ hl;cases bx with
    | var aa=>
      obtain⟨ad,t,K,Q⟩:=X;exact⟨ad,t,by rw[e1];exact K,Es hb hn aa _ Q⟩
    | oN aa=>
      obtain⟨ad,t,fr,K,Q,h3⟩:=X;exact⟨ad,t,fr,by rw[e1];exact K,by rw[e1];exact Q,h3⟩
    | arr e' v' ag aR=>
      simp only[BQ];by_cases S:y=b
      ·subst S;rw[show Nat.beq y y=true from Nat.beq_refl y];rw[hb] at hl;cases hl;simp only[fK,lG e1 e2 e3];obtain⟨xs,⟨_,h3⟩,_⟩:=ai;unfold dW;split
       ·simp only[bL];exact⟨none,0,0,rfl,rfl,⟨Nat.le_refl _,by omega⟩,fun _=>⟨by trivial,by trivial⟩,fun a ha=>by cases ha⟩
       rename_i ae;rcases h3 with ⟨h3,_⟩|⟨g',ao,ad,o',e4,hg,ap,hm,_⟩
       ·simp[dW,ae] at h3
       simp only[dW,ae,Bool.false_eq_true,if_false,Value.slice.injEq] at e4;simp only[bL];refine⟨_,0,(R.cap y).1,rfl,rfl,⟨Nat.zero_le _,?_⟩,fun hh=>(by cases hh),fun a ha=>.inl (by trivial)⟩;have:=e4.2.2;unfold maxLen at hm;omega
      rw[iV S];obtain⟨xs,K,Q⟩:=X;exact⟨xs,by rw[lG e1 e2 e3];exact K,Q⟩
    | d9 v' ag aR=>
      simp only[BQ,fK,lG e1 e2 e3] at X ⊢;exact X
    | tr y' v' rest ag=>
      simp only[BQ,fK,e2] at X ⊢;exact X
    | iP e' v' ag pre am post=>
      obtain⟨xs,K,Q,h3,h4,h5⟩:=X;exact⟨xs,by rw[lG e1 e2 e3];exact K,Q,by rw[TY];exact h3,Es hb hn am _ h4,h5⟩
 ·intro y y' r K Q;rw[KP hb hn] at K Q;rcases K with ⟨rfl,K⟩|⟨a1,a2,K⟩<;>rcases Q with ⟨rfl,Q⟩|⟨b1,b2,Q⟩
  ·rfl
  ·exact absurd (h.inj _ _ _ K Q).symm b2
  ·exact absurd (h.inj _ _ _ K Q) a2
  exact h.inj _ _ _ K Q
 ·intro r X;exact h.free r ((V r).1 X)
 ·intro r X;exact h.jy r ((V r).1 X)
 intro v x hk;have G:=c.hK v x hk;have J:=h.kept v x hk;rw[ah];have key:∀y,y<1000→y≠n:=fun y hy=>by omega
 cases v with
 | ptr y o=>
   have:=Gg (b:=b) (n:=n) hb hn _ _ J;simpa only[VB] using this
 | aO y v=>
   simp only[jP,Nat.blt_eq] at G;by_cases S:y=b
   ·subst S;simp only[au,hb,aX] at J;simp only[au];rw[Dk hb hn y (key y G),hb];simp only[Option.map_some,BQ,show Nat.beq y y=true from Nat.beq_refl y,aX];exact⟨by omega,J.2.1,fun hh=>by omega⟩
   have:=Gg (b:=b) (n:=n) hb hn _ _ J;simpa only[VB,iV S] using this
 | eY y v i o=>
   simp only[jP,Bool.and_eq_true,Nat.blt_eq] at G;by_cases S:y=b
   ·subst S;simp only[au,hb,bC] at J;simp only[au];rw[Dk hb hn y (key y G.1),hb];simp only[Option.map_some,BQ,show Nat.beq y y=true from Nat.beq_refl y,bC];exact⟨by omega,J.2.1,fun hh=>by omega⟩
   have:=Gg (b:=b) (n:=n) hb hn _ _ J;simpa only[VB,iV S] using this
 |pv p=>cases G
 |agg cs=>cases G
 |cK cs=>cases G
 |sub y v st lo hi=>cases G
 |fn f a c=>cases G
end
theorem nV {P:Program}{f:FuncId}{args:List AV}{hp:List (Nat×aI)}{Q:AV→List (Nat×aI)→Prop}(b n:Nat)(K:Nat.ble 1000 n=true)
  (h:mvM b n hp fun S=>GC P f (Dj b n args) S Q):GC P f args hp Q:=by
 unfold mvM at h;split at h;rotate_left;cases h
 rename_i e v st rows hb;split at h;rotate_left;cases h
 split at h;rotate_left;cases h
 rename_i hn;refine⟨h.1,fun c R w V hh G=>?_⟩;have J:=ag4 hb hn (Nat.le_of_ble_eq_true K) hh;have X:bA c (JA b n R) ((n,.arr e 0 st rows)::QW b n hp)=bA c R hp:=funext fun r=>propext (by simp only[bA,Ns (R:=R) hb hn])
 refine h.2 c (JA b n R) w V J ?_;rw[X];exact Al hb hn _ _ G
theorem JE {set f g:List Pl}(h:∀p,p∈f→p∈g):∀k,lJ set f k≤lJ set g k
 |0=>Nat.le_refl _
 | k+1=>by
   have ih:=JE (set:=set) h k;simp only[lJ];split
   ·rename_i S;by_cases G:(f.any (· == set[k]) && !(set.take k).any (· == set[k]))=true
    ·have J:(g.any (· == set[k]) && !(set.take k).any (· == set[k]))=true:=by
      simp only[Bool.and_eq_true,List.any_eq_true,beq_iff_eq] at G ⊢;obtain⟨⟨x,Q,e⟩,K⟩:=G;exact⟨⟨x,h x Q,e⟩,K⟩
     rw[if_pos G,if_pos J];omega
    rw[if_neg G];omega
   omega
theorem qg {set f g:List Pl}{a:Int}(h:∀p,p∈f→p∈g)(G:bE set a f=true):bE set a g=true:=by
 simp only[bE,Bool.and_eq_true,decide_eq_true_eq] at G ⊢;have:=JE (set:=set) h set.length;unfold yF at *;omega
theorem JF {q:Fr→Bool}{f:Fr}:∀{l:List Fr},q f=false→iY q (l++[f])=iY q l:=by
 intro l h;unfold iY;rw[List.foldl_append];simp[h]
theorem Q5 {l:List Fr}{f:Fr}{n:Int}(h:n<f.first):eH (dS l f) n=eH l n:=by
 have J:decide (f.first≤n)=false:=by simp;omega
 unfold dS eH;rw[JF J];split
 ·rename_i e;cases G:l.getLast? with
  | none=>
    have:l=[]:=by simpa using G
    rw[this];rfl
  | some g=>
    obtain⟨r,K⟩:=List.getLast?_eq_some_iff.1 G;have Q:g.first=f.first:=by
     simp only[aL,G,Option.getD_some,beq_iff_eq] at e;exact e
    rw[K,List.dropLast_concat];exact (JF (by simp;omega)).symm
 rfl
theorem BO {l:List Fr}{f:Fr}{w n:Int}(h:n<f.first):setOf (dS l f) w n=setOf l w n:=by
 unfold setOf;rw[Q5 h]
def bn (G:List Hp)(n:Int):List Pl:=(G.filter fun h=>h.n==n).map (·.x)
def jw (G:List (List UInt8))(n:Int)(b:List UInt8):Prop:=1≤n∧n≤(G.length:Int)∧b=G[(n-1).toNat]!
structure qN (sure:Int)(waits:List Wt)(bS:List (List UInt8))(had:List Hp):Prop where
 s0:0≤sure
 len:sure+waits.length=bS.length
 num:∀i (h:i<waits.length),waits[i].n=sure+1+i
 body:∀x∈waits,jw bS x.n x.body
 from_:∀x∈waits,∀p∈x.from_,p∈bn had x.n
structure nA (s:Sg):Prop where
 wk:qN s.w.sure s.w.waits s.bS s.had
 nx:s.w.next=s.bS.length+1
 hd:∀h∈s.had,jw s.bS h.n h.body
 bq:∀m∈s.bH,m.ask=true→jw s.bS m.q.n m.q.body
 br:∀m∈s.bH,m.ask=false→m.r.code=0→m.r.from_∈bn s.had m.r.n
 ask:s.ask=s.w.change
 Vu:s.ask.first≠0→s.w.sure<s.ask.first
 pl:s.DY=if s.ask.first≠0∧s.taken=1 then dS s.w.l.af s.ask else s.w.l.af
 good:∀n,1≤n→n≤s.w.sure→bE (setOf s.DY s.w.l.w n) s.w.l.a (bn s.had n)=true
theorem Dh {G:List Hp}{h:Hp}{n:Int}{p:Pl}(hp:p∈bn G n):p∈bn (G++[h]) n:=by
 unfold bn at *;rw[List.filter_append,List.map_append];exact List.mem_append_left _ hp
theorem Dg (G:List Hp)(x:Pl)(n:Int)(b:List UInt8):x∈bn (G++[⟨x,n,b⟩]) n:=by
 unfold bn;rw[List.filter_append,List.map_append];exact List.mem_append_right _ (by simp)
theorem r9 {G:List (List UInt8)}{n:Int}{b c:List UInt8}(h:jw G n b):jw (G++[c]) n b:=by
 obtain⟨J,Q,K⟩:=h;refine⟨J,by simp only[List.length_append];omega,?_⟩;have hi:(n-1).toNat<G.length:=by omega
 rw[K,getElem!_pos G _ hi,getElem!_pos (G++[c]) _ (by simp only[List.length_append];omega),List.getElem_append_left hi]
theorem getLast_take {α:Type}(q:α→Bool):∀(l:List α),(l.takeWhile q)=l.take (l.takeWhile q).length
 |[]=>rfl
 | x::r=>by
   rw[List.takeWhile_cons];split
   ·rw[List.length_cons,List.take_succ_cons,←getLast_take q r]
   rfl
theorem drop_take {α:Type}(q:α→Bool):∀(l:List α),(l.dropWhile q)=l.drop (l.takeWhile q).length
 |[]=>rfl
 | x::r=>by
   rw[List.takeWhile_cons,List.dropWhile_cons];split
   ·rw[List.length_cons,List.drop_succ_cons,drop_take q r]
   rfl
theorem VK {w:Wr}{V:List (List UInt8)}{J:List Hp}(h:qN w.sure w.waits V J) :
  (kN w).sure=w.sure+(w.waits.takeWhile (fT w)).length∧(∀x∈w.waits.takeWhile (fT w),fT w x=true)∧qN (kN w).sure (kN w).waits V J:=by
 have X:(kN w).sure=w.sure+(w.waits.takeWhile (fT w)).length:=by
  unfold kN;simp only;cases Q:(w.waits.takeWhile (fT w)).getLast? with
  | none=>
    have:w.waits.takeWhile (fT w)=[]:=by simpa using Q
    rw[this];simp
  | some x=>
    obtain⟨r,hr⟩:=List.getLast?_eq_some_iff.1 Q;have K:(w.waits.takeWhile (fT w)).length=r.length+1:=by rw[hr];simp
    have S:=List.takeWhile_prefix (fT w) (l:=w.waits) |>.length_le
    have G:x=w.waits[r.length]'(by omega):=by
     have e:=getLast_take (fT w) w.waits;have:(w.waits.takeWhile (fT w))[r.length]? = some x:=by rw[hr];simp
     rw[e,List.getElem?_take,if_pos (by omega),List.getElem?_eq_getElem (by omega)] at this;exact (Option.some.inj this).symm
    simp only[Option.map_some,Option.getD_some];rw[G,h.num r.length (by omega),K];omega
 have S:=List.takeWhile_prefix (fT w) (l:=w.waits) |>.length_le
 refine⟨X,fun x G=>?_,?_⟩
 ·exact List.all_eq_true.1 (List.all_takeWhile (p:=fT w) (l:=w.waits)) x G
 have hd:(kN w).waits=w.waits.drop (w.waits.takeWhile (fT w)).length:=drop_take _ _;rw[X,hd];have Q:=h.len;have hs:=h.s0;refine⟨by omega,by rw[List.length_drop];omega,fun i hi=>?_,fun x G=>h.body x (List.mem_of_mem_drop G),fun x G=>h.from_ x (List.mem_of_mem_drop G)⟩;rw[List.getElem_drop,h.num];omega
theorem NJ {s:Sg}{w:Wr}(S:qN w.sure w.waits s.bS s.had)(nx:w.next=s.bS.length+1)(hd:∀h∈s.had,jw s.bS h.n h.body)
  (bq:∀m∈s.bH,m.ask=true→jw s.bS m.q.n m.q.body) (br:∀m∈s.bH,m.ask=false→m.r.code=0→m.r.from_∈bn s.had m.r.n)
  (ask:s.ask=w.change) (Vu:s.ask.first≠0→w.sure<s.ask.first) (pl:s.DY=if s.ask.first≠0∧s.taken=1 then dS w.l.af s.ask else w.l.af)
  (good:∀n,1≤n→n≤w.sure→bE (setOf s.DY w.l.w n) w.l.a (bn s.had n)=true):nA { s with w:=kN w }∧w.sure≤(kN w).sure:=by
 obtain⟨m1,m2,m3⟩:=VK S;have J:∀n,w.sure<n→n≤(kN w).sure→∃x∈w.waits,x.n=n∧fT w x=true:=by
  intro n V X;have aa:=List.takeWhile_prefix (fT w) (l:=w.waits) |>.length_le
  have hi:(n-w.sure-1).toNat<(w.waits.takeWhile (fT w)).length:=by omega
  have K:=List.getElem_mem hi;refine⟨_,List.takeWhile_subset _ K,?_,m2 _ K⟩;have e:=getLast_take (fT w) w.waits;have:(w.waits.takeWhile (fT w))[(n-w.sure-1).toNat]=w.waits[(n-w.sure-1).toNat]'(by omega):=by
   have G:(w.waits.takeWhile (fT w))[(n-w.sure-1).toNat]? = w.waits[(n-w.sure-1).toNat]? :=by
    conv=>lhs;rw[e]
    rw[List.getElem?_take,if_pos hi]
   rw[List.getElem?_eq_getElem hi,List.getElem?_eq_getElem (by omega)] at G;exact Option.some.inj G
  rw[this,S.num];omega
 refine⟨⟨m3,nx,hd,bq,br,ask,fun Q=>?_,pl,fun n V X=>?_⟩,by omega⟩
 ·show (kN w).sure<s.ask.first
  by_cases hc:w.sure<(kN w).sure
  ·obtain⟨x,K,e,hs⟩:=J (kN w).sure hc (Int.le_refl _);simp only[fT,Bool.and_eq_true,Bool.or_eq_true,beq_iff_eq,decide_eq_true_eq] at hs;rw[ask] at Q ⊢;rcases hs.2 with G|G
   ·exact absurd G Q
   omega
  have:=Vu Q;omega
 show bE (setOf s.DY w.l.w n) w.l.a (bn s.had n)=true
 by_cases hc:n≤w.sure
 ·exact good n V hc
 obtain⟨x,K,e,hs⟩:=J n (by omega) X;simp only[fT,Bool.and_eq_true,Bool.or_eq_true,beq_iff_eq,decide_eq_true_eq] at hs;have h4:setOf s.DY w.l.w n=fD w n:=by
  unfold fD;rw[pl];split
  ·rename_i h5;rcases hs.2 with G|G
   ·rw[ask] at h5;exact absurd G h5.1
   rw[BO (by rw[ask];omega)]
  rfl
 rw[h4,←e];exact qg (S.from_ x K) hs.1
end Go.AX
end
