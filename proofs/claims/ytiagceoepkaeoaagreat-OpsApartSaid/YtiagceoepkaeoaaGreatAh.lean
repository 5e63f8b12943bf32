/-
  Conditions: none. A framework for walks: abstract values, memory, and conditions that suffice; the chapters in plain terms.
-/
import Derived.Test.YtiagceoepkaeoaaGreatAg
set_option linter.unusedSectionVars false
set_option linter.unusedVariables false
set_option linter.unusedSimpArgs false
section
namespace Go.AX
inductive Ed where
 |no
 |add (l:Lg)
 |put (l:Lg)
 |del (s:List Int)
def Ed.on (e:Ed)(L:List Lg):List Lg:=match e with
 |.no=>L
 |.add l=>L++[l]
 |.put l=>L.map fun x=>if x.id==l.id then l else x
 |.del s=>L.filter fun x=>!s.contains x.id
def Ed.nx (e:Ed)(n:Int):Int:=match e with
 |.add _=>dO n 1
 |_=>n
def Ed.ids (e:Ed):List Int:=match e with
 |.no=>[]
 |.add l=>[l.id]
 |.put l=>[l.id]
 |.del s=>s
def Ed.Df (e:Ed):Bool:=match e with
 |.add _=>true
 |_=>false
theorem Ed.comm {a b:Ed}{L:List Lg}(h1:¬(a.Df=true∧b.Df=true))(h2:∀x∈a.ids,x∉b.ids):b.on (a.on L)=a.on (b.on L):=by
 cases a with
 |no=>rfl
 | add l=>
   cases b with
   |no=>rfl
   |add l2=>exact absurd ⟨rfl,rfl⟩ h1
   | put l2=>
     have:l.id≠l2.id:=fun e=>h2 l.id (by simp[Ed.ids]) (by simp[Ed.ids,e])
     simp only[Ed.on,List.map_append,List.map_cons,List.map_nil];rw[if_neg (by simpa using this)]
   | del s=>
     have:l.id∉s:=fun e=>h2 l.id (by simp[Ed.ids]) e
     simp only[Ed.on,List.filter_append];congr 1
     rw[List.filter_cons,if_pos (by simpa using this)];rfl
 | put l=>
   cases b with
   |no=>rfl
   | add l2=>
     have:l2.id≠l.id:=fun e=>h2 l.id (by simp[Ed.ids]) (by simp[Ed.ids,e])
     simp only[Ed.on,List.map_append,List.map_cons,List.map_nil];rw[if_neg (by simpa using this)]
   | put l2=>
     have hne:l.id≠l2.id:=fun e=>h2 l.id (by simp[Ed.ids]) (by simp[Ed.ids,e])
     simp only[Ed.on,List.map_map];refine List.map_congr_left fun x _=>?_
     simp only[Function.comp,beq_iff_eq];by_cases e1:x.id=l.id
     ·have e2:x.id≠l2.id:=by omega
      rw[if_pos e1,if_neg hne,if_neg e2,if_pos e1]
     rw[if_neg e1];by_cases e2:x.id=l2.id
     ·have e3:l2.id≠l.id:=by omega
      rw[if_pos e2,if_neg e3]
     rw[if_neg e2,if_neg e1]
   | del s=>
     simp only[Ed.on,List.filter_map];congr 1
     refine List.filter_congr fun x _=>?_
     simp only[Function.comp,beq_iff_eq];by_cases e1:x.id=l.id
     ·rw[if_pos e1,e1]
     rw[if_neg e1]
 | del s=>
   cases b with
   |no=>rfl
   | add l2=>
     have:l2.id∉s:=fun e=>h2 l2.id e (by simp[Ed.ids])
     simp only[Ed.on,List.filter_append];congr 1
     rw[List.filter_cons,if_pos (by simpa using this)];rfl
   | put l2=>
     simp only[Ed.on,List.filter_map];congr 1
     refine List.filter_congr fun x _=>?_
     simp only[Function.comp,beq_iff_eq];by_cases e1:x.id=l2.id
     ·rw[if_pos e1,e1]
     rw[if_neg e1]
   | del s2=>
     simp only[Ed.on,List.filter_filter];refine List.filter_congr fun x _=>?_
     rw[Bool.and_comm]
theorem Ed.aaL {a b:Ed}{n:Int}(h1:¬(a.Df=true∧b.Df=true)):b.nx (a.nx n)=a.nx (b.nx n):=by
 cases a<;>cases b<;>first|rfl|exact absurd ⟨rfl,rfl⟩ h1
structure Eff where
 c:Ch
 e:Ed
 out:Oc
def Eff.app (p:Pn)(n:Int)(f:Eff):Pn:={ p with channels:=p.channels.set (n-1).toNat f.c,af:=f.e.on p.af,next:=f.e.nx p.next }
def gu (p:Pn)(o:aV):Eff:=
 let c:=bq p o.channel
 if o.kind=1 then ⟨(mE c o).1,.no,(mE c o).2⟩
 else if o.kind=2 then ⟨vS c o,.no,bS⟩
 else if o.kind=3 then ⟨c,.no,{ bS with at_:=c.trim }⟩
 else if o.kind=4 then (match (iL p c o).1 with
  |some y=>⟨y.1,.add y.2.1,y.2.2⟩
  |none=>⟨c,.no,(iL p c o).2⟩)
 else if o.kind=5 then (match (dU p o).1 with
  |some l=>⟨c,.put l,(dU p o).2⟩
  |none=>⟨c,.no,(dU p o).2⟩)
 else if o.kind=6 then (match (dV p c o).1 with
  |some l=>⟨c,.put l,(dV p c o).2⟩
  |none=>⟨c,.no,(dV p c o).2⟩)
 else if o.kind=7 then ⟨(ko p c o).1,.no,(ko p c o).2⟩
 else if o.kind=8 then
  (if !l6 (c.af.drop (fG p c.trim c.af c.first).1) o.bA||o.seen.any (fun x=>decide (x.offset≥(fG p c.trim c.af c.first).2)) then ⟨c,.no,ig 5⟩
  else ⟨{ c with af:=c.af.drop (fG p c.trim c.af c.first).1,first:=(fG p c.trim c.af c.first).2,seen:=o.seen },.del (c.af.take (fG p c.trim c.af c.first).1),{ bS with at_:=(fG p c.trim c.af c.first).2 }⟩)
 else if o.kind=9 then ⟨(Au c o (nM (zf c.au o.sub) o.at_)).1,.no,(Au c o (nM (zf c.au o.sub) o.at_)).2⟩
 else if o.kind=10 then ⟨(Au c o o.at_).1,.no,(Au c o o.at_).2⟩
 else ⟨c,.no,{ bS with at_:=zf c.au o.sub }⟩
theorem rR {p:Pn}{n:Int}(hn:fU p n=true)(out:Oc):(Eff.app p n ⟨bq p n,.no,out⟩)=p:=rQ hn
theorem SQ {p:Pn}{n:Int}(hn:fU p n=true)(l:Lg)(out:Oc):(Eff.app p n ⟨bq p n,.put l,out⟩)=kN p l:=by
 have:=rQ hn;have e:p.channels.set (n-1).toNat (bq p n)=p.channels:=congrArg Pn.channels this;unfold Eff.app kN;rw[e];rfl
theorem nO {p:Pn}{o:aV}(hn:fU p o.channel=true)(k1:1≤o.kind)(k2:o.kind≤11):fH p o=((gu p o).app p o.channel,(gu p o).out):=by
 rcases (by omega:o.kind=1∨o.kind=2∨o.kind=3∨o.kind=4∨o.kind=5∨o.kind=6∨o.kind=7∨o.kind=8∨o.kind=9∨o.kind=10∨o.kind=11) with hk|hk|hk|hk|hk|hk|hk|hk|hk|hk|hk
 all_goals simp only[fH,gu,hk,Int.reduceEq,if_false,if_true,↓reduceIte]
 ·rfl
 ·rfl
 ·rw[rR hn]
 ·unfold gW;cases (iL p (bq p o.channel) o).1 with
  |none=>simp only;rw[rR hn]
  |some y=>rfl
 ·unfold jV;cases (dU p o).1 with
  |none=>simp only;rw[rR hn]
  |some l=>simp only;rw[SQ hn]
 ·unfold jV;cases (dV p (bq p o.channel) o).1 with
  |none=>simp only;rw[rR hn]
  |some l=>simp only;rw[SQ hn]
 ·rfl
 ·unfold iD nE;simp only;split
  ·rename_i y hy;split at hy
   ·cases hy
   rename_i hc;have:=Option.some.inj hy;subst this;rw[if_neg hc,if_neg hc];rfl
  rename_i hy;split at hy
  ·rename_i hc;rw[if_pos hc,if_pos hc];simp only;rw[rR hn]
  cases hy
 ·rfl
 ·rfl
 rw[rR hn]
structure rT (p q:Pn)(o:aV):Prop where
 len:q.channels.length=p.channels.length
 ch:bq q o.channel=bq p o.channel
 lg:∀id∈(bq p o.channel).af,bg q id=bg p id
 nx:o.kind=4→q.next=p.next
theorem rT.has {p q:Pn}{o:aV}(h:rT p q o):fU q o.channel=fU p o.channel:=by unfold fU;rw[h.len]
theorem rT.cl {p q:Pn}{o:aV}(h:rT p q o):∀id∈(bq p o.channel).af,(bg q id).map BR=(bg p id).map BR:=fun id hid=>by rw[h.lg id hid]
theorem rT.en {p q:Pn}{o:aV}(h:rT p q o):kV q o.channel=kV p o.channel:=by
 unfold kV;rw[h.has,h.ch,iJ h.cl]
theorem rT.op {p q:Pn}{o:aV}(h:rT p q o):gX q o.channel=gX p o.channel:=by
 unfold gX;rw[h.has,h.ch];split
 ·unfold gN;cases hg:(bq p o.channel).af.getLast? with
  |none=>rfl
  |some id=>simp only;rw[h.lg id (List.mem_of_getLast? hg)]
 rfl
theorem rT.la {p q:Pn}{o:aV}(h:rT p q o):pK q o=pK p o:=by unfold pK;rw[h.op]
theorem Jw {p q:Pn}(trim:Int):∀{ids:List Int} {first:Int},(∀id∈ids,bg q id=bg p id)→fG q trim ids first=fG p trim ids first
 |[],_,_=>rfl
 | id::r,first,h=>by
   have e:dm q id=dm p id:=by unfold dm;rw[h id (by simp)]
   unfold fG;simp only[e];rw[Jw trim fun x hx=>h x (by simp[hx])]
theorem rT.eff {p q:Pn}{o:aV}(h:rT p q o):gu q o=gu p o:=by
 have e1:=h.en;have e2:=h.op;have e3:=h.la;have e4:dU q o=dU p o:=by unfold dU;rw[e3]
 have e5:dV q (bq p o.channel) o=dV p (bq p o.channel) o:=by unfold dV;rw[e3,e1]
 have e6:ko q (bq p o.channel) o=ko p (bq p o.channel) o:=by unfold ko;rw[e2,e1]
 have e7:=Jw (p:=p) (q:=q) (bq p o.channel).trim (ids:=(bq p o.channel).af) (first:=(bq p o.channel).first) h.lg;have e8:o.kind=4→iL q (bq p o.channel) o=iL p (bq p o.channel) o:=fun hk=>by unfold iL;rw[e2,e1,h.nx hk]
 unfold gu;dsimp only
 rw[h.ch,e4,e5,e6,e7];by_cases hk:o.kind=4
 ·rw[e8 hk]
 rw[if_neg hk,if_neg hk]
theorem SS {p:Pn}(h:gF p){o:aV}(hn:fU p o.channel=true)(k1:1≤o.kind)(k2:o.kind≤11):(∀x∈(gu p o).e.ids,x∈(bq p o.channel).af∨(o.kind=4∧x=p.next))∧((gu p o).e.Df=true→o.kind=4):=by
 have hlast:∀l,pK p o=some l→l.id∈(bq p o.channel).af:=fun l hl=>List.mem_of_getLast? (oC h hn (oD h hn hl).1).2.1
 have hch:∀l,(dU p o).1=some l→l.id∈(bq p o.channel).af:=by
  intro l' hl';unfold dU at hl';split at hl'
  ·cases hl'
  rename_i l hl;simp only at hl';split at hl'
  ·cases hl'
  split at hl'
  ·cases hl'
  have:=Option.some.inj hl';subst this;exact hlast l hl
 have hcl:∀l,(dV p (bq p o.channel) o).1=some l→l.id∈(bq p o.channel).af:=by
  intro l' hl';unfold dV at hl';split at hl'
  ·cases hl'
  rename_i l hl;split at hl'
  ·cases hl'
  have:=Option.some.inj hl';subst this;exact hlast l hl
 have h0:(∀x∈Ed.no.ids,x∈(bq p o.channel).af∨(o.kind=4∧x=p.next))∧(Ed.no.Df=true→o.kind=4):=⟨fun x hx=>(by cases hx),fun e=>(by cases e)⟩;rcases (by omega:o.kind=1∨o.kind=2∨o.kind=3∨o.kind=4∨o.kind=5∨o.kind=6∨o.kind=7∨o.kind=8∨o.kind=9∨o.kind=10∨o.kind=11) with hk|hk|hk|hk|hk|hk|hk|hk|hk|hk|hk
 ·have e:(gu p o).e=.no:=by simp only[gu,hk,Int.reduceEq,if_false,if_true,↓reduceIte]
  rw[e];exact h0
 ·have e:(gu p o).e=.no:=by simp only[gu,hk,Int.reduceEq,if_false,if_true,↓reduceIte]
  rw[e];exact h0
 ·have e:(gu p o).e=.no:=by simp only[gu,hk,Int.reduceEq,if_false,if_true,↓reduceIte]
  rw[e];exact h0
 ·refine⟨fun x hx=>.inr ⟨hk,?_⟩,fun _=>hk⟩;simp only[gu,hk,Int.reduceEq,if_false,if_true,↓reduceIte] at hx;revert hx;cases hy:(iL p (bq p o.channel) o).1 with
  |none=>intro hx;cases hx
  | some y=>
    intro hx;unfold iL at hy;split at hy
    ·cases hy
    split at hy
    ·cases hy
    have:=Option.some.inj hy;subst this;simpa[Ed.ids] using hx
 ·simp only[gu,hk,Int.reduceEq,if_false,if_true,↓reduceIte];cases hl:(dU p o).1 with
  |none=>exact⟨fun x hx=>(by cases hx),fun e=>(by cases e)⟩
  |some l=>exact⟨fun x hx=>.inl (by simp only[Ed.ids,List.mem_singleton] at hx;rw[hx];exact hch l hl),fun e=>by cases e⟩
 ·simp only[gu,hk,Int.reduceEq,if_false,if_true,↓reduceIte];cases hl:(dV p (bq p o.channel) o).1 with
  |none=>exact⟨fun x hx=>(by cases hx),fun e=>(by cases e)⟩
  |some l=>exact⟨fun x hx=>.inl (by simp only[Ed.ids,List.mem_singleton] at hx;rw[hx];exact hcl l hl),fun e=>by cases e⟩
 ·have e:(gu p o).e=.no:=by simp only[gu,hk,Int.reduceEq,if_false,if_true,↓reduceIte]
  rw[e];exact h0
 ·have e:(gu p o).e=.no∨(gu p o).e=.del ((bq p o.channel).af.take (fG p (bq p o.channel).trim (bq p o.channel).af (bq p o.channel).first).1):=by
   simp only[gu,hk,Int.reduceEq,if_false,if_true,↓reduceIte];generalize (!l6 _ _||_)=b;cases b
   ·exact .inr rfl
   exact .inl rfl
  rcases e with e|e
  ·rw[e];exact h0
  rw[e];exact⟨fun x hx=>.inl (List.mem_of_mem_take hx),fun e=>by cases e⟩
 ·have e:(gu p o).e=.no:=by simp only[gu,hk,Int.reduceEq,if_false,if_true,↓reduceIte]
  rw[e];exact h0
 ·have e:(gu p o).e=.no:=by simp only[gu,hk,Int.reduceEq,if_false,if_true,↓reduceIte]
  rw[e];exact h0
 have e:(gu p o).e=.no:=by simp only[gu,hk,Int.reduceEq,if_false,if_true,↓reduceIte]
 rw[e];exact h0
theorem X0 {p:Pn}{n m:Int}{f g:Eff}(h:(n-1).toNat≠(m-1).toNat)(h1:¬(f.e.Df=true∧g.e.Df=true))(h2:∀x∈f.e.ids,x∉g.e.ids):g.app (f.app p n) m=f.app (g.app p m) n:=by
 unfold Eff.app;simp only;rw[List.set_comm _ _ h,Ed.comm h1 h2,Ed.aaL h1]
def tT (p:Pn)(o:aV):Option Oc:=
 if !jW o then some (ig 1)
 else match kg p.past o with
  |some (some out)=>some out
  |some none=>some (ig 9)
  | none=>if p.version=4611686018427387903 then some (ig 3)
    else if gJ p o then some { bS with code:=8,aY:=(bq p o.channel).aY,owner:=(bq p o.channel).owner }
    else none
theorem qC {p:Pn}(h:gF p)(o:aV):aS p o=match tT p o with
  |some out=>(p,out)
  |none=>doM p o:=by
 unfold aS tT;rw[h.may];cases jW o with
 |false=>rfl
 | true=>
   simp only[Bool.not_true,Bool.or_self,Bool.false_eq_true,if_false];cases kg p.past o with
   |some t=>cases t<;>rfl
   | none=>
     simp only;split
     ·rfl
     split<;>rfl
theorem told_other {l:List Pa}{x y:aV}{out:Oc}(hw:x.who≠y.who)(hp:(l.map (·.who)).Pairwise (· < ·))(hq:((bT l y out).map (·.who)).Pairwise (· < ·)):kg (bT l y out) x=kg l x:=by
 by_cases he:∃e∈l,e.who=x.who
 ·obtain⟨e,he,ew⟩:=he;have:=Jv (o:=y) (out:=out) he (by omega);rw[vY he ew hp,vY this ew hq]
 have h1:∀e∈l,e.who≠x.who:=fun e h1 h2=>he ⟨e,h1,h2⟩
 rw[told_none h1,told_none];intro e hm;rcases List.mem_append.1 ((jY l y out).mem_iff.1 hm) with h2|h2
 ·exact h1 e (List.mem_filter.1 h2).1
 rw[List.mem_singleton] at h2;subst h2;exact fun e=>hw e.symm
theorem BV {l:List Pa}{x y:aV}{a b:Oc}(hw:x.who≠y.who)(h1:((bT (bT l x a) y b).map (·.who)).Pairwise (· < ·))(h2:((bT (bT l y b) x a).map (·.who)).Pairwise (· < ·)):bT (bT l x a) y b=bT (bT l y b) x a:=by
 have hp:(bT (bT l x a) y b).Perm (bT (bT l y b) x a):=by
  have f1:=((jY l x a).filter (fun z=>!(z.who==y.who))).append_right [(⟨y.who,y.inc,y.n,b⟩:Pa)];have f2:=((jY l y b).filter (fun z=>!(z.who==x.who))).append_right [(⟨x.who,x.inc,x.n,a⟩:Pa)];refine ((jY (bT l x a) y b).trans f1).trans (List.Perm.trans ?_ ((jY (bT l y b) x a).trans f2).symm);have n1:(!(x.who==y.who))=true:=by simpa using hw
  have n2:(!(y.who==x.who))=true:=by simpa using fun e=>hw e.symm
  simp only[List.filter_append,List.filter_filter,List.filter_cons,n1,n2,if_true,List.filter_nil,List.append_assoc];refine List.Perm.append (List.Perm.of_eq (List.filter_congr fun z _=>Bool.and_comm _ _)) ?_;exact List.Perm.swap _ _ _
 refine hp.eq_of_pairwise (le:=fun a b:Pa=>a.who<b.who) (fun a b _ _ h1 h2=>by omega) ?_ ?_
 ·simpa[List.pairwise_map] using h1
 simpa[List.pairwise_map] using h2
theorem QJ {p:Pn}{n:Int}(h:1≤n):bq p n=(p.channels[(n-1).toNat]?).getD default:=by
 unfold bq;rw[List.getElem!_eq_getElem?_getD]
theorem SV {p:Pn}(h:gF p){x y:aV}(hx:1≤x.channel)(hne:x.channel≠y.channel)(h12:y.kind≠12)(hw:Az p (aS p y).1 y)(hnx:x.kind=4→(aS p y).1.next=p.next):rT p (aS p y).1 x:=by
 have hc:bq (aS p y).1 x.channel=bq p x.channel:=by
  rw[QJ hx,QJ hx];by_cases hi:(x.channel-1).toNat<p.channels.length
  ·rw[hw.ch _ hi (by omega)]
  rw[List.getElem?_eq_none (by have:=hw.len;omega),List.getElem?_eq_none (by omega)]
 refine⟨hw.len,hc,fun id hid=>?_,hnx⟩;by_cases hi:(x.channel-1).toNat<p.channels.length
 ·have e:bq p x.channel=p.channels[(x.channel-1).toNat]:=by unfold bq;rw[getElem!_pos p.channels _ hi]
  rw[e] at hid;exact (hw.lg _ hi (by omega) id hid).2 h12
 rw[QJ hx,List.getElem?_eq_none (by omega)] at hid;cases hid
theorem rT.st {p q:Pn}{o:aV}(h:rT p q o):gJ q o=gJ p o:=by unfold gJ;rw[h.len,h.ch]
theorem Jy {p:Pn}(o:aV)(hk:o.kind≠4):(aS p o).1.next=p.next:=by
 rcases gK p o with ⟨e,_⟩|⟨_,hm,_,hv,_,e⟩
 ·rw[e]
 rw[e,gP];show (fB p o).1.next=p.next
 unfold fB;split
 ·rfl
 refine oU (P:=fun y=>y.1.next=p.next) (fun e=>rfl) (fun e=>rfl) (fun e=>rfl) (fun e=>absurd e hk) (fun e=>(oF _ _).2.2.2) (fun e=>(oF _ _).2.2.2) (fun e=>rfl) (fun e=>?_) (fun e a ha=>rfl) (fun e=>rfl) (fun e=>(oF _ _).2.2.2);unfold iD;split<;>rfl
theorem Ib {p:Pn}(h:gF p)(o:aV)(hv:p.version≤1152921504606846976):(aS p o).1.version≤p.version+1:=by
 rcases gK p o with ⟨e,_⟩|⟨_,hm,_,_,_,e⟩
 ·rw[e];omega
 rw[e,gP];show dO p.version 1≤_
 have:=h.v0;rw[eY (by omega) (by omega)];omega
theorem Dg {p:Pn}(h:gF p){x y:aV}(hq:gF (aS p y).1)(hw:x.who≠y.who)(hL:jW x=true→rT p (aS p y).1 x)(hv:p.version≤1152921504606846976):tT (aS p y).1 x=tT p x:=by
 have h1:kg (aS p y).1.past x=kg p.past x:=by
  rcases gK p y with ⟨e,_⟩|⟨_,hm,_,_,_,e⟩
  ·rw[e]
  have:=hq.p2;rw[e,gP] at this ⊢;exact told_other hw h.p2 this
 have h2:=Ib h y hv;unfold tT;cases hm:jW x with
 |false=>rfl
 | true=>
   have hL:=hL hm;rw[h1,hL.st,hL.ch];simp only[Bool.not_true,Bool.false_eq_true,if_false];rw[if_neg (show ¬p.version=4611686018427387903 by omega),if_neg (show ¬(aS p y).1.version=4611686018427387903 by omega)]
theorem Jz {p:Pn}{o:aV}(h:tT p o=none):jW o=true:=by
 unfold tT at h;cases hm:jW o with
 |true=>rfl
 |false=>rw[hm] at h;cases h
theorem Nz {p:Pn}(h:gF p){x y:aV}(hax:0≤x.at_)(hay:0≤y.at_)(hw:x.who≠y.who)(hc:x.channel≠y.channel)(hx:x.kind≠12)(hy:y.kind≠12)(h4:¬(x.kind=4∧y.kind=4))(hv:p.version≤1152921504606846976) :
  (aS (aS p y).1 x).2=(aS p x).2∧(aS (aS p x).1 y).2=(aS p y).2∧(aS (aS p x).1 y).1=(aS (aS p y).1 x).1:=by
 have NA:=gQ h hax;have hqy:=gQ h hay;have has:∀{o:aV},jW o=true→o.kind≠12→1≤o.channel:=fun {o} hm hk=>((l7 hm).ch (XQ (l7 hm) hk)).1
 have Lx:jW x=true→rT p (aS p y).1 x:=fun hm=>SV h (has hm hx) hc hy (zl h y) fun hk=>Jy y fun hk2=>h4 ⟨hk,hk2⟩
 have Ly:jW y=true→rT p (aS p x).1 y:=fun hm=>SV h (has hm hy) (fun e=>hc e.symm) hx (zl h x) fun hk=>Jy x fun hk2=>h4 ⟨hk2,hk⟩
 have Ex:=Dg h hqy hw Lx hv;have Ey:=Dg h NA (fun e=>hw e.symm) Ly hv;have Ax:=qC h x;have Ay:=qC h y;have Axy:=qC NA y;have Ayx:=qC hqy x;rw[Ey] at Axy;rw[Ex] at Ayx;cases hex:tT p x with
 | some a=>
   rw[hex] at Ax Ayx;simp only at Ax Ayx;rw[Ayx,Ax];exact⟨rfl,rfl,rfl⟩
 | none=>
   cases hey:tT p y with
   | some b=>
     rw[hey] at Ay Axy;simp only at Ay Axy;rw[Axy,Ay];exact⟨rfl,rfl,rfl⟩
   | none=>
     rw[hex] at Ax Ayx;rw[hey] at Ay Axy;simp only at Ax Ay Axy Ayx;have mx:=Jz hex;have my:=Jz hey;have Lx:=Lx mx;have Ly:=Ly my;have ox:=l7 mx;have oy:=l7 my;have cx:=has mx hx;have cy:=has my hy;have e11:∀{o:aV},Fy o→o.kind≠12→o.kind≤11:=fun {o} h1 h2=>by have:=h1.k2;omega
     have X3:=e11 ox hx;have X4:=e11 oy hy;have oxk:=ox.k1;have oyk:=oy.k1;have px:=(QD h ox hax).2;have py:=(QD h oy hay).2;have alS:=NA.p2;have alT:=hqy.p2;have xS:=(gQ NA hay).p2;have xU:=(gQ hqy hax).p2;rw[Axy,gP,Ax,gP] at xS;rw[Ayx,gP,Ay,gP] at xU;rw[Axy,Ayx,gP,gP,Ax,Ay,gP,gP];rw[Ax,gP] at Ly;rw[Ay,gP] at Lx;simp only at xS xU Lx Ly ⊢;by_cases gx:x.channel>(p.channels.length:Int)
     ·have mX:fB p x=(p,ig 4):=by unfold fB;rw[if_pos gx]
      have mX2:∀v pa,fB { (fB p y).1 with version:=v,past:=pa } x=({ (fB p y).1 with version:=v,past:=pa },ig 4):=fun v pa=>by
       unfold fB;rw[if_pos];have:=Lx.len;simp only at this;show x.channel>(((fB p y).1.channels.length:Nat):Int)
       unfold fB at this;rw[show (fB p y).1.channels.length=p.channels.length from Lx.len];exact gx
      have mY2:∀v pa,fB { p with version:=v,past:=pa } y=({ (fB p y).1 with version:=v,past:=pa },(fB p y).2):=fun v pa=>by
       unfold fB;by_cases hh:y.channel>(p.channels.length:Int)
       ·rw[if_pos hh,if_pos hh]
       rw[if_neg hh,if_neg hh];have hn:=qB (p:=p) oy hh hy;rw[nO hn oyk X4,nO (p:={ p with version:=v,past:=pa }) hn oyk X4];have:gu { p with version:=v,past:=pa } y=gu p y:=rT.eff ⟨rfl,rfl,fun _ _=>rfl,fun _=>rfl⟩;rw[this];rfl
      rw[mX] at xS ⊢;simp only at xS xU ⊢;rw[mX2 (dO p.version 1) (bT p.past y (fB p y).2)] at xU ⊢;rw[mY2 (dO p.version 1) (bT p.past x (ig 4))] at xS ⊢;simp only at xS xU ⊢;refine⟨trivial,trivial,?_⟩;rw[BV hw xS xU]
     have nx:=qB ox gx hx;by_cases gy:y.channel>(p.channels.length:Int)
     ·have mY:fB p y=(p,ig 4):=by unfold fB;rw[if_pos gy]
      have mY2:∀v pa,fB { (fB p x).1 with version:=v,past:=pa } y=({ (fB p x).1 with version:=v,past:=pa },ig 4):=fun v pa=>by
       unfold fB;rw[if_pos];show y.channel>(((fB p x).1.channels.length:Nat):Int)
       rw[show (fB p x).1.channels.length=p.channels.length from Ly.len];exact gy
      have mX2:∀v pa,fB { p with version:=v,past:=pa } x=({ (fB p x).1 with version:=v,past:=pa },(fB p x).2):=fun v pa=>by
       unfold fB;rw[if_neg gx,if_neg gx];rw[nO nx oxk X3,nO (p:={ p with version:=v,past:=pa }) nx oxk X3];have:gu { p with version:=v,past:=pa } x=gu p x:=rT.eff ⟨rfl,rfl,fun _ _=>rfl,fun _=>rfl⟩;rw[this];rfl
      rw[mY] at xU ⊢;simp only at xS xU ⊢;rw[mY2 (dO p.version 1) (bT p.past x (fB p x).2)] at xS ⊢;rw[mX2 (dO p.version 1) (bT p.past y (ig 4))] at xU ⊢;simp only at xS xU ⊢;refine⟨trivial,trivial,?_⟩;rw[BV hw xS xU]
     have ny:=qB oy gy hy;have mX:fB p x=((gu p x).app p x.channel,(gu p x).out):=by unfold fB;rw[if_neg gx,nO nx oxk X3]
     have mY:fB p y=((gu p y).app p y.channel,(gu p y).out):=by unfold fB;rw[if_neg gy,nO ny oyk X4]
     rw[mX] at Ly xS ⊢;rw[mY] at Lx xU ⊢;simp only at xS xU Lx Ly ⊢;have mY2:fB { (gu p x).app p x.channel with version:=dO p.version 1,past:=bT p.past x (gu p x).out } y=({ (gu p y).app ((gu p x).app p x.channel) y.channel with version:=dO p.version 1,past:=bT p.past x (gu p x).out },(gu p y).out):=by
      unfold fB;rw[if_neg (by rw[Ly.len];exact gy),nO (by rw[Ly.has];exact ny) oyk X4,Ly.eff];rfl
     have mX2:fB { (gu p y).app p y.channel with version:=dO p.version 1,past:=bT p.past y (gu p y).out } x=({ (gu p x).app ((gu p y).app p y.channel) x.channel with version:=dO p.version 1,past:=bT p.past y (gu p y).out },(gu p x).out):=by
      unfold fB;rw[if_neg (by rw[Lx.len];exact gx),nO (by rw[Lx.has];exact nx) oxk X3,Lx.eff];rfl
     have vX:((gu p x).app p x.channel).version=p.version:=rfl;rw[mX2] at xU ⊢;rw[mY2] at xS ⊢;simp only at xS xU ⊢;refine⟨trivial,trivial,?_⟩;obtain⟨ix,ax⟩:=SS h nx oxk X3;obtain⟨iy,ay⟩:=SS h ny oyk X4;have acF:(x.channel-1).toNat≠(y.channel-1).toNat:=by omega
     have hlt:∀{n:Int},fU p n=true→∀id∈(bq p n).af,id<p.next:=fun {n} hn id hid=>by
      obtain⟨l,hl,e,_⟩:=h.named (fJ hn) hid;rw[←e];exact (h.lg l hl).2.1
     have UJ:∀z∈(gu p x).e.ids,z∉(gu p y).e.ids:=by
      intro z h1 h2;rcases ix z h1 with h1|⟨k1,h1⟩<;>rcases iy z h2 with h2|⟨k2,h2⟩
      ·obtain⟨hi,ei⟩:=iR nx;obtain⟨hj,ej⟩:=iR ny;rw[ei] at h1;rw[ej] at h2;exact acF (h.once hi hj h1 h2)
      ·have:=hlt nx z h1;omega
      ·have:=hlt ny z h2;omega
      exact h4 ⟨k1,k2⟩
     rw[X0 acF (fun e=>h4 ⟨ax e.1,ay e.2⟩) UJ,BV hw xS xU]
end Go.AX
end
