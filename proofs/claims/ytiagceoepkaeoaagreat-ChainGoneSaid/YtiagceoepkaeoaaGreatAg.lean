/-
  Conditions: none. A framework for walks: abstract values, memory, and conditions that suffice; the chapters in plain terms.
-/
import Derived.Test.YtiagceoepkaeoaaGreatAf
import Derived.Test.YtiagceoepkaeoaaGreatAe
import Derived.ProofKit
import Derived.OpenShut
set_option linter.unusedSectionVars false
set_option linter.unusedVariables false
set_option linter.unusedSimpArgs false
section
namespace Go.AX
theorem xK {p:Pn}{n:Int}(hn:dM p n=true):dV p n (aL p n)=p:=by
 obtain⟨hi,e⟩:=gW hn;unfold dV;rw[e,List.set_getElem_self]
theorem xL {P:Pn×Oc→Prop}{p:Pn}{o:bg}
  (h1:o.kind=1→P (dV p o.channel (mF (aL p o.channel) o).1,(mF (aL p o.channel) o).2))
  (h2:o.kind=2→P (dV p o.channel (tT (aL p o.channel) o),bQ))
  (h3:o.kind=3→P (p,{ bQ with at_:=(aL p o.channel).trim }))
  (h4:o.kind=4→P (iD p (aL p o.channel) o))
  (h5:o.kind=5→P (kT p (fV p o)))
  (h6:o.kind=6→P (kT p (fZ p (aL p o.channel) o)))
  (h7:o.kind=7→P (dV p o.channel (lZ p (aL p o.channel) o).1,(lZ p (aL p o.channel) o).2))
  (h8:o.kind=8→P (iK p (aL p o.channel) o))
  (h9:o.kind=9∨o.kind=10→∀a,(a=o.at_∨a=mo (xI (aL p o.channel).au o.sub) o.at_)→P (dV p o.channel (uT (aL p o.channel) o a).1,(uT (aL p o.channel) o a).2))
  (h11:o.kind=11→P (p,{ bQ with at_:=xI (aL p o.channel).au o.sub }))
  (h12:(∀i:Int,1≤i→i≤11→o.kind≠i)→P (kT p (gP p o))):P (dG p o):=by
 unfold dG;by_cases e1:o.kind=1
 ·rw[if_pos e1];exact h1 e1
 rw[if_neg e1];by_cases e2:o.kind=2
 ·rw[if_pos e2];exact h2 e2
 rw[if_neg e2];by_cases e3:o.kind=3
 ·rw[if_pos e3];exact h3 e3
 rw[if_neg e3];by_cases e4:o.kind=4
 ·rw[if_pos e4];exact h4 e4
 rw[if_neg e4];by_cases e5:o.kind=5
 ·rw[if_pos e5];exact h5 e5
 rw[if_neg e5];by_cases e6:o.kind=6
 ·rw[if_pos e6];exact h6 e6
 rw[if_neg e6];by_cases e7:o.kind=7
 ·rw[if_pos e7];exact h7 e7
 rw[if_neg e7];by_cases e8:o.kind=8
 ·rw[if_pos e8];exact h8 e8
 rw[if_neg e8];by_cases e9:o.kind=9
 ·rw[if_pos e9];exact h9 (.inl e9) _ (.inr rfl)
 rw[if_neg e9];by_cases e10:o.kind=10
 ·rw[if_pos e10];exact h9 (.inr e10) _ (.inl rfl)
 rw[if_neg e10];by_cases e11:o.kind=11
 ·rw[if_pos e11];exact h11 e11
 rw[if_neg e11];exact h12 fun i a b=>by omega
theorem abA {p:Pn}(h:gB p){o:bg}(ho:Ir o)(hn:o.kind≠12→dM p o.channel=true)(h0:0≤o.at_):gB (dG p o).1∧l5 (dG p o).2=true:=by
 refine xL (P:=fun y=>gB y.1∧l5 y.2=true) (fun e=>?_) (fun e=>?_) (fun e=>?_) (fun e=>?_) (fun e=>?_) (fun e=>?_) (fun e=>?_) (fun e=>?_) (fun e a ha=>?_) (fun e=>?_) (fun e=>?_)
 ·exact aby h ho (hn (by omega))
 ·exact⟨Yx h ho (hn (by omega)),TB⟩
 ·exact⟨h,Ri h (hn (by omega))⟩
 ·exact Vl h ho (hn (by omega)) e
 ·exact Vj h ho (hn (by omega))
 ·exact Vk h (hn (by omega)) h0
 ·exact abz h ho (hn (by omega))
 ·exact Vm h ho (hn (by omega))
 ·have hb:=Yy h (o:=o) (hn (by omega));have hat:=ho.at1;refine aeT h ho (hn (by omega)) (by rcases e with e|e<;>(rw[e];decide)) ?_;rcases ha with rfl|rfl
  ·exact hat
  unfold mo;split<;>omega
 ·have hb:=Yy h (o:=o) (hn (by omega));exact⟨h,j3 ⟨by simp[bQ],by simp[bQ]⟩ ⟨by simp[bQ],by simp[bQ]⟩ (by simp[bQ]) (by simpa using hb) (by simp[bQ])⟩
 have h12:o.kind=12:=by
  have a1:=ho.k1;have a2:=ho.k2;have:=e o.kind a1;omega
 refine Rl h ?_;have:=(ho.pl (by rw[h12];decide)).2;unfold K3 at this;unfold Fz;simp only[Bool.and_eq_true,decide_eq_true_eq,bS] at this ⊢;omega
theorem xM (p:Pn)(y:Option Lg×Oc):(kT p y).1.version=p.version∧(kT p y).1.past=p.past∧(kT p y).1.channels=p.channels∧(kT p y).1.next=p.next:=by
 unfold kT;cases y.1<;>exact⟨rfl,rfl,rfl,rfl⟩
theorem abB (p:Pn)(o:bg):(dG p o).1.version=p.version∧(dG p o).1.past=p.past:=by
 refine xL (P:=fun y=>y.1.version=p.version∧y.1.past=p.past) (fun e=>⟨rfl,rfl⟩) (fun e=>⟨rfl,rfl⟩) (fun e=>⟨rfl,rfl⟩) (fun e=>?_) (fun e=>?_) (fun e=>?_) (fun e=>⟨rfl,rfl⟩) (fun e=>?_) (fun e a ha=>⟨rfl,rfl⟩) (fun e=>⟨rfl,rfl⟩) (fun e=>?_)
 ·unfold iD;split<;>exact⟨rfl,rfl⟩
 ·exact⟨(xM _ _).1,(xM _ _).2.1⟩
 ·exact⟨(xM _ _).1,(xM _ _).2.1⟩
 ·unfold iK;split<;>exact⟨rfl,rfl⟩
 exact⟨(xM _ _).1,(xM _ _).2.1⟩
def tZ (p:Pn)(o:bg):Pn×Oc:=if o.channel>(p.channels.length:Int) then (p,iX 4) else dG p o
theorem vZ (p:Pn)(o:bg):doM p o=({ (tZ p o).1 with version:=bV p.version 1,past:=iJ p.past o (tZ p o).2 },(tZ p o).2):=rfl
theorem YA {o:bg}(ho:Ir o)(h:o.kind=12):o.channel=0:=by
 have:=ho.bare;have e:o.channel=(gJ o (dZ o.kind)).channel:=by rw[←this]
 rw[e,h];rfl
theorem aeY {o:bg}(ho:Ir o)(h:o.kind≠12):dZ o.kind 0=true:=by
 have a1:=ho.k1;have a2:=ho.k2;rcases (by omega:o.kind=1∨o.kind=2∨o.kind=3∨o.kind=4∨o.kind=5∨o.kind=6∨o.kind=7∨o.kind=8∨o.kind=9∨o.kind=10∨o.kind=11) with e|e|e|e|e|e|e|e|e|e|e<;>rw[e]<;>decide
theorem AB {p:Pn}{o:bg}(ho:Ir o)(hle:¬o.channel>(p.channels.length:Int))(h:o.kind≠12):dM p o.channel=true:=by
 have:=ho.ch (aeY ho h);unfold dM;simp only[Bool.and_eq_true,decide_eq_true_eq];omega
theorem aeZ {p:Pn}(h:gB p){o:bg}(ho:Ir o)(h0:0≤o.at_):gB (tZ p o).1∧l5 (tZ p o).2=true:=by
 unfold tZ;split
 ·exact⟨h,qA ⟨by decide,by decide⟩⟩
 rename_i hle;exact abA h ho (AB ho hle) h0
theorem ae0 (p:Pn)(o:bg):(tZ p o).1.version=p.version∧(tZ p o).1.past=p.past:=by
 unfold tZ;split
 ·exact⟨rfl,rfl⟩
 exact abB p o
theorem ahm {p:Pn}(h:gB p){o:bg}(ho:Ir o)(h0:0≤o.at_)(hv:p.version≠4611686018427387903):gB (doM p o).1:=by
 rw[vZ];have h1:=aeZ h ho h0;have h2:=ae0 p o;have:=abx h1.1 ho h1.2 (by rw[h2.1];exact hv);rw[h2.1,h2.2] at this;exact this
theorem qB (p:Pn)(o:bg):((ic p o).1=p∧(jN p=false∨DZ o=false∧(ic p o).2=iX 1∨DZ o=true∧(vU p.past o≠none∨p.version=4611686018427387903∨kU p o=true))) ∨
  (jN p=true∧DZ o=true∧vU p.past o=none∧p.version≠4611686018427387903∧kU p o=false∧ic p o=doM p o):=by
 unfold ic;split
 ·rename_i hc;left
  simp only[Bool.or_eq_true,Bool.not_eq_true'] at hc;refine⟨rfl,?_⟩;cases hm:jN p with
  |false=>exact .inl rfl
  | true=>
    rw[hm] at hc;exact .inr (.inl ⟨by simpa using hc,rfl⟩)
 rename_i hc;simp only[Bool.or_eq_true,Bool.not_eq_true',not_or,Bool.not_eq_false] at hc;split
 ·rename_i ht;exact .inl ⟨rfl,.inr (.inr ⟨hc.2,.inl (by rw[ht];simp)⟩)⟩
 ·rename_i ht;exact .inl ⟨rfl,.inr (.inr ⟨hc.2,.inl (by rw[ht];simp)⟩)⟩
 rename_i ht;split
 ·rename_i hv;exact .inl ⟨rfl,.inr (.inr ⟨hc.2,.inr (.inl hv)⟩)⟩
 rename_i hv;split
 ·rename_i hs;exact .inl ⟨rfl,.inr (.inr ⟨hc.2,.inr (.inr hs)⟩)⟩
 rename_i hs;exact .inr ⟨hc.1,hc.2,ht,hv,by simpa using hs,rfl⟩
theorem AJ {p:Pn}(h:gB p){o:bg}(h0:0≤o.at_):gB (ic p o).1:=by
 rcases qB p o with ⟨e,_⟩|⟨_,hm,_,hv,_,e⟩
 ·rw[e];exact h
 rw[e];exact ahm h (vX hm) h0 hv
theorem FZ:∀{l:List Pa} {w:Int},(l.map (·.who)).Pairwise (· < ·)→l.length≤(l.filter fun x=>!(x.who==w)).length+1
 |[],_,_=>by simp
 | x::l,w,h=>by
   rw[List.map_cons,List.pairwise_cons] at h;have ih:=FZ (w:=w) h.2;rw[List.filter_cons];by_cases e:x.who=w
   ·have:l.filter (fun x=>!(x.who==w))=l:=by
     rw[List.filter_eq_self];intro y hy;have:=h.1 y.who (List.mem_map.2 ⟨y,hy,rfl⟩);simp;omega
    have e2:(!(x.who==w))=false:=by simp[e]
    rw[e2,this];simp
   have e2:(!(x.who==w))=true:=by simp[e]
   rw[e2];simp only[if_true,List.length_cons];omega
theorem Vn (l:List Pa)(o:bg)(out:Oc):(iJ l o out).Perm (l.filter (fun x=>!(x.who==o.who))++[⟨o.who,o.inc,o.n,out⟩]):=by
 rw[NS];exact qx Pa.who _
theorem AL {p:Pn}(h:gB p)(o:bg)(out:Oc):p.past.length≤(iJ p.past o out).length∧(iJ p.past o out).length≤p.past.length+1:=by
 have:=(Vn p.past o out).length_eq;rw[List.length_append,List.length_singleton] at this;have h1:=FZ (w:=o.who) h.p2;have h2:=List.length_filter_le (fun x:Pa=>!(x.who==o.who)) p.past;omega
structure F3 (p q:Pn)(o:bg):Prop where
 len:q.channels.length=p.channels.length
 ch:∀i:Nat,i<p.channels.length→(i:Int)+1≠o.channel→q.channels[i]? = p.channels[i]?
 lg:∀i (hi:i<p.channels.length),(i:Int)+1≠o.channel→∀id∈p.channels[i].af,(aR q id).map Ay=(aR p id).map Ay∧(o.kind≠12→aR q id=aR p id)
theorem lJ (p:Pn)(o:bg):F3 p p o:=⟨rfl,fun _ _ _=>rfl,fun _ _ _ _ _=>⟨rfl,fun _=>rfl⟩⟩
theorem zl {p:Pn}{n:Int}{c:Ch}{i:Nat}(hn:dM p n=true)(hne:(i:Int)+1≠n):(dV p n c).channels[i]? = p.channels[i]? :=by
 unfold dV;simp only[dM,Bool.and_eq_true,decide_eq_true_eq] at hn;rw[List.getElem?_set_ne (by omega)]
theorem xN {p:Pn}{o:bg}{c:Ch}(hn:dM p o.channel=true):F3 p (dV p o.channel c) o:=
 ⟨by simp[dV],fun i hi hne=>zl hn hne,fun i hi hne id hid=>⟨rfl,fun _=>rfl⟩⟩
theorem NY {p:Pn}(h:gB p){o:bg}(hn:dM p o.channel=true){i:Nat}(hi:i<p.channels.length)(hne:(i:Int)+1≠o.channel){id:Int}(hid:id∈p.channels[i].af):id∉(aL p o.channel).af:=by
 obtain⟨hj,e⟩:=gW hn;intro h2;rw[e] at h2;have:=h.once hi hj hid h2;simp only[dM,Bool.and_eq_true,decide_eq_true_eq] at hn;omega
theorem AO {p:Pn}{l:Lg}{id:Int}(h:id≠l.id):aR (kM p l) id=aR p id:=by
 rw[jP];cases hf:aR p id with
 |none=>rfl
 | some x=>
   have:=(fT hf).2;simp only[Option.map_some];rw[if_neg];rw[beq_iff_eq];omega
theorem JP {p:Pn}(h:gB p){o:bg}(hn:dM p o.channel=true){y:Option Lg×Oc}(hy:∀l,y.1=some l→l.id∈(aL p o.channel).af):F3 p (kT p y).1 o:=by
 unfold kT;cases hy1:y.1 with
 |none=>exact lJ p o
 | some l=>
   have hm:=hy l hy1;refine⟨rfl,fun _ _ _=>rfl,fun i hi hne id hid=>?_⟩;have hne2:id≠l.id:=fun e=>NY h hn hi hne hid (by rw[e];exact hm)
   simp only;rw[AO hne2];exact⟨rfl,fun _=>rfl⟩
theorem Vo {p:Pn}(h:gB p){o:bg}(ho:Ir o)(hn:o.kind≠12→dM p o.channel=true):F3 p (dG p o).1 o:=by
 refine xL (P:=fun y=>F3 p y.1 o) (fun e=>?_) (fun e=>?_) (fun e=>?_) (fun e=>?_) (fun e=>?_) (fun e=>?_) (fun e=>?_) (fun e=>?_) (fun e a ha=>?_) (fun e=>?_) (fun e=>?_)
 ·exact xN (hn (by omega))
 ·exact xN (hn (by omega))
 ·exact lJ p o
 ·have hn:=hn (by omega);unfold iD;split
  ·rename_i y hy;refine⟨by simp[dV],fun i hi hne=>zl hn hne,fun i hi hne id hid=>?_⟩;obtain⟨l,_,_,hf⟩:=h.named (List.getElem_mem hi) hid;have:aR { dV p o.channel y.1 with af:=p.af++[y.2.1],next:=bV p.next 1 } id=aR p id:=by
    rw[hf];exact ou hf
   exact⟨by rw[this],fun _=>this⟩
  exact lJ p o
 ·have hn:=hn (by omega);refine JP h hn fun l' hl'=>?_
  unfold fV at hl';split at hl'
  ·cases hl'
  rename_i l hl;obtain⟨hop,hid⟩:=nG h hn hl;obtain⟨hm,hg,_,_⟩:=nE h hn hop;simp only at hl';split at hl'
  ·cases hl'
  split at hl'
  ·cases hl'
  have:=Option.some.inj hl';subst this;exact List.mem_of_getLast? hg
 ·have hn:=hn (by omega);refine JP h hn fun l' hl'=>?_
  unfold fZ at hl';split at hl'
  ·cases hl'
  rename_i l hl;obtain⟨hop,hid⟩:=nG h hn hl;obtain⟨hm,hg,_,_⟩:=nE h hn hop;split at hl'
  ·cases hl'
  have:=Option.some.inj hl';subst this;exact List.mem_of_getLast? hg
 ·exact xN (hn (by omega))
 ·have hn:=hn (by omega);unfold iK;split
  ·rename_i y hy;unfold nD at hy;simp only at hy;split at hy
   ·cases hy
   have:=Option.some.inj hy;subst this;refine⟨by simp[dV],fun i hi hne=>zl hn hne,fun i hi hne id hid=>?_⟩;have hno:=NY h hn hi hne hid;have:aR { dV p o.channel { aL p o.channel with af:=(aL p o.channel).af.drop (dI p (aL p o.channel).trim (aL p o.channel).af (aL p o.channel).first).1,first:=(dI p (aL p o.channel).trim (aL p o.channel).af (aL p o.channel).first).2,seen:=o.seen } with af:=p.af.filter fun l=>!((aL p o.channel).af.take (dI p (aL p o.channel).trim (aL p o.channel).af (aL p o.channel).first).1).contains l.id } id=aR p id:=by
    unfold aR;refine lI fun l _ e=>?_
    rw[e];have:id∉(aL p o.channel).af.take (dI p (aL p o.channel).trim (aL p o.channel).af (aL p o.channel).first).1:=fun hx=>hno (List.mem_of_mem_take hx)
    simp[this]
   exact⟨by rw[this],fun _=>this⟩
  exact lJ p o
 ·exact xN (hn (by omega))
 ·exact lJ p o
 have h12:o.kind=12:=by
  have a1:=ho.k1;have a2:=ho.k2;have:=e o.kind a1;omega
 unfold kT gP;split
 ·rename_i l' hl';split at hl'
  ·cases hl'
  rename_i l hl;have hm:=List.mem_of_find?_eq_some hl;split at hl'
  ·cases hl'
  split at hl'
  ·have:=Option.some.inj hl';subst this;refine⟨rfl,fun _ _ _=>rfl,fun i hi hne id hid=>⟨?_,fun e=>absurd h12 e⟩⟩;simp only;rw[jP];cases hf:aR p id with
   |none=>rfl
   | some x=>
     simp only[Option.map_some];congr 1
     by_cases ex:(x.id==l.id)=true
     ·rw[if_pos ex];rw[beq_iff_eq] at ex;obtain⟨_,Rh⟩:=fT hf;have h3:=h.find hm;rw[←ex,Rh,hf] at h3;have:=Option.some.inj h3;subst this;rfl
     rw[if_neg ex]
  cases hl'
 exact lJ p o
theorem YB {p:Pn}(h:gB p){o:bg}(ho:Ir o):F3 p (tZ p o).1 o:=by
 unfold tZ;split
 ·exact lJ p o
 rename_i hle;exact Vo h ho (AB ho hle)
theorem Rm {p:Pn}(h:gB p)(o:bg):F3 p (ic p o).1 o:=by
 rcases qB p o with ⟨e,_⟩|⟨_,hm,_,hv,_,e⟩
 ·rw[e];exact lJ p o
 rw[e,vZ];have:=YB h (vX hm);exact⟨this.len,this.ch,fun i hi hne id hid=>this.lg i hi hne id hid⟩
theorem told_none {l:List Pa}{o:bg}(h:∀x∈l,x.who≠o.who):vU l o=none:=by
 induction l with
 |nil=>rfl
 | cons x l ih=>
   unfold vU;rw[if_pos (h x (by simp))];exact ih fun y hy=>h y (by simp[hy])
structure NZ (p q:Pn)(a b:Ch):Prop where
 e:a.aU≤b.aU
 t:a.trim≤b.trim
 f:a.first≤b.first
 en:dP p a≤dP q b
 ow:b.aU=a.aU→b.owner=a.owner∧b.inc=a.inc∧a.eY≤b.eY
structure TH (a b:Lg):Prop where
 ew:b.w=a.w
 ea:b.a=a.a
 ec:a.closed=1→b.closed=1∧b.last=a.last∧b.av.length=a.av.length
structure wB (p q:Pn):Prop where
 v:p.version≤q.version
 n:p.next≤q.next
 len:q.channels.length=p.channels.length
 ch:∀i (h1:i<p.channels.length) (h2:i<q.channels.length),NZ p q p.channels[i] q.channels[i]
 lg:∀id a b,aR p id=some a→aR q id=some b→TH a b
 old:∀l∈q.af,aR p l.id=none→p.next≤l.id
theorem NZ.refl (p:Pn)(a:Ch):NZ p p a a:=⟨Int.le_refl _,Int.le_refl _,Int.le_refl _,Int.le_refl _,fun _=>⟨rfl,rfl,Int.le_refl _⟩⟩
theorem TH.refl (a:Lg):TH a a:=⟨rfl,rfl,fun h=>⟨h,rfl,rfl⟩⟩
theorem kN {p:Pn}{l:Lg}(hl:l∈p.af):aR p l.id≠none:=by
 unfold aR;rw[Ne,List.find?_eq_none];intro h;have:=h l hl;simp at this
theorem wB.refl (p:Pn):wB p p:=⟨Int.le_refl _,Int.le_refl _,rfl,fun i h1 h2=>NZ.refl p _,fun id a b h1 h2=>by rw[h1] at h2;have:=Option.some.inj h2;subst this;exact TH.refl _,fun l hl h=>absurd h (kN hl)⟩
theorem NZ.trans {p q r:Pn}{a b c:Ch}(h1:NZ p q a b)(h2:NZ q r b c):NZ p r a c:=by
 have a1:=h1.e;have a2:=h2.e;have b1:=h1.t;have b2:=h2.t;have c1:=h1.f;have c2:=h2.f;have d1:=h1.en;have d2:=h2.en;refine⟨by omega,by omega,by omega,by omega,fun e=>?_⟩;obtain⟨x1,x2,x3⟩:=h1.ow (by omega);obtain⟨y1,y2,y3⟩:=h2.ow (by omega);exact⟨by rw[y1,x1],by rw[y2,x2],by omega⟩
theorem TH.trans {a b c:Lg}(h1:TH a b)(h2:TH b c):TH a c:=by
 refine⟨by rw[h2.ew,h1.ew],by rw[h2.ea,h1.ea],fun e=>?_⟩;obtain⟨x1,x2,x3⟩:=h1.ec e;obtain⟨y1,y2,y3⟩:=h2.ec x1;exact⟨y1,by rw[y2,x2],by rw[y3,x3]⟩
theorem wB.trans {p q r:Pn}(hp:gB p)(h1:wB p q)(h2:wB q r):wB p r:=by
 have hn:=h1.n;refine⟨Int.le_trans h1.v h2.v,Int.le_trans h1.n h2.n,h2.len.trans h1.len,fun i a b=>?_,fun id a c ha hc=>?_,fun l hl hno=>?_⟩
 ·have hq:i<q.channels.length:=by rw[h1.len];exact a
  exact (h1.ch i a hq).trans (h2.ch i hq b)
 ·cases hq:aR q id with
  |some b=>exact (h1.lg id a b ha hq).trans (h2.lg id b c hq hc)
  | none=>
    exfalso;obtain⟨m1,m2⟩:=fT ha;obtain⟨m3,m4⟩:=fT hc;have:=h2.old c m3 (by rw[m4];exact hq);have:=(hp.lg a m1).2.1;omega
 cases hq:aR q l.id with
 | some b=>
   obtain⟨m1,m2⟩:=fT hq;have:=h1.old b m1 (by rw[m2];exact hno);omega
 | none=>
   have:=h2.old l hl hq;omega
theorem YD {L:List Ch}{k i:Nat}{c:Ch}{P:Ch→Ch→Prop}(h1:i<L.length)(h2:i<(L.set k c).length)(hs:∀(hk:k<L.length),P L[k] c)(ho:P L[i] L[i]):P L[i] (L.set k c)[i]:=by
 rw[List.getElem_set];split
 ·rename_i e;subst e;exact hs h1
 exact ho
theorem Eo {p:Pn}{n:Int}{c:Ch}(hn:dM p n=true)(hc:NZ p p (aL p n) c):wB p (dV p n c):=by
 obtain⟨hi,e⟩:=gW hn;refine⟨Int.le_refl _,Int.le_refl _,by simp[dV],fun i h1 h2=>?_,fun id a b ha hb=>?_,fun l hl h=>absurd h (kN hl)⟩
 ·have hc2:NZ p (dV p n c) (aL p n) c:=⟨hc.e,hc.t,hc.f,hc.en,hc.ow⟩;refine YD (P:=fun a b=>NZ p (dV p n c) a b) h1 h2 (fun hk=>?_) ⟨Int.le_refl _,Int.le_refl _,Int.le_refl _,Int.le_refl _,fun _=>⟨rfl,rfl,Int.le_refl _⟩⟩;rw[e] at hc2;exact hc2
 have hb2:aR p id=some b:=hb;rw[ha] at hb2;have:=Option.some.inj hb2;subst this;exact TH.refl _
theorem TJ {p:Pn}(h:gB p){l l':Lg}(hl:l∈p.af)(h1:l'.id=l.id)(hL:TH l l')(he:∀c∈p.channels,dP p c≤dP (kM p l') c):wB p (kM p l'):=by
 refine⟨Int.le_refl _,Int.le_refl _,rfl,fun i a b=>⟨Int.le_refl _,Int.le_refl _,Int.le_refl _,he _ (List.getElem_mem a),fun _=>⟨rfl,rfl,Int.le_refl _⟩⟩,fun id a b ha hb=>?_,fun x hx hno=>?_⟩
 ·rw[jP,ha] at hb;simp only[Option.map_some] at hb;have:=Option.some.inj hb;subst this;split
  ·rename_i e;rw[beq_iff_eq] at e;obtain⟨_,hid⟩:=fT ha;have h3:=h.find hl;rw[←h1,←e,hid,ha] at h3;have:=Option.some.inj h3;subst this;exact hL
  exact TH.refl _
 exfalso;have hx2:x.id∈jY (kM p l'):=List.mem_map.2 ⟨x,hx,rfl⟩;rw[FY] at hx2;obtain⟨y,hy,e⟩:=List.mem_map.1 hx2;exact kN hy (by rw[e];exact hno)
theorem N7 {p:Pn}(h:gB p){l l':Lg}(hl:l∈p.af)(h1:l'.id=l.id)(hL:TH l l')(h3:Ay l'=Ay l):wB p (kM p l'):=by
 refine TJ h hl h1 hL fun c hc=>Int.le_of_eq (iI fun id hid=>?_).symm
 rw[jP];cases hf:aR p id with
 |none=>rfl
 | some x=>
   simp only[Option.map_some];split
   ·rename_i e;rw[beq_iff_eq] at e;obtain⟨hm,Rh⟩:=fT hf;have:aR p l.id=some l:=h.find hl;rw[←h1,←e,Rh,hf] at this;rw[h3,Option.some.inj this]
   rfl
section
variable {p:Pn}(h:gB p){o:bg}(ho:Ir o)(hn:dM p o.channel=true)
include h hn
theorem abC:wB p (dV p o.channel (mF (aL p o.channel) o).1):=by
 have hc:=h.ch _ (bW hn);have hE:∀c:Ch,c.af=(aL p o.channel).af→c.first=(aL p o.channel).first→dP p (aL p o.channel)≤dP p c:=fun c h1 h2=>by unfold dP;rw[h1,h2];exact Int.le_refl _
 refine Eo hn ?_;unfold mF;split
 ·exact NZ.refl p _
 split
 ·exact NZ.refl p _
 rename_i hne;have he1:=hc.1.e1;have he0:=hc.2.1;have hne2:(aL p o.channel).aU≠4611686018427387903:=by simpa using hne
 have e:IntKind.u64.wrap ((aL p o.channel).aU+1)=(aL p o.channel).aU+1:=vO (by omega) (by omega);rw[e];exact⟨by show _≤(aL p o.channel).aU+1;omega,Int.le_refl _,Int.le_refl _,hE _ rfl rfl,fun e2=>by have e2:(aL p o.channel).aU+1=(aL p o.channel).aU:=e2;omega⟩
theorem YE:wB p (dV p o.channel (tT (aL p o.channel) o)):=by
 refine Eo hn ⟨Int.le_refl _,Int.le_refl _,Int.le_refl _,Int.le_refl _,fun _=>⟨rfl,rfl,?_⟩⟩;unfold tT;simp only;split<;>omega
theorem abD:wB p (dV p o.channel (lZ p (aL p o.channel) o).1):=by
 refine Eo hn ?_;unfold lZ;generalize (if (fK p o.channel).isSome then IntKind.u64.wrap (pE p o.channel+8) else pE p o.channel)=m;split
 ·exact NZ.refl p _
 refine⟨Int.le_refl _,?_,Int.le_refl _,Int.le_refl _,fun _=>⟨rfl,rfl,Int.le_refl _⟩⟩;show _≤mo _ _
 unfold mo;split<;>omega
theorem ae1 (a:Int):wB p (dV p o.channel (uT (aL p o.channel) o a).1):=
 Eo hn ⟨Int.le_refl _,Int.le_refl _,Int.le_refl _,Int.le_refl _,fun _=>⟨rfl,rfl,Int.le_refl _⟩⟩
theorem Vp:wB p (kT p (fV p o)).1:=by
 unfold kT fV;split
 ·rename_i l' hl';split at hl'
  ·cases hl'
  rename_i l hl;obtain⟨hop,hid⟩:=nG h hn hl;obtain⟨hm,hg,h0,_⟩:=nE h hn hop;simp only at hl';split at hl'
  ·cases hl'
  split at hl'
  ·cases hl'
  have:=Option.some.inj hl';subst this;exact N7 h hm rfl ⟨rfl,rfl,fun e=>by rw[h0] at e;omega⟩ rfl
 exact wB.refl p
theorem Vq (h0:0≤o.at_)(ha:o.at_≤4611686018427387903):wB p (kT p (fZ p (aL p o.channel) o)).1:=by
 unfold kT fZ;split
 ·rename_i l' hl';split at hl'
  ·cases hl'
  rename_i l hl;obtain⟨hop,hid⟩:=nG h hn hl;obtain⟨hm,hg,hc0,hf⟩:=nE h hn hop;split at hl'
  ·cases hl'
  rename_i AA;have:=Option.some.inj hl';subst this;simp only[Bool.or_eq_true,Bool.not_eq_true',decide_eq_true_eq,not_or,Bool.not_eq_false] at AA;obtain⟨hmf,ha8,htr⟩:=AA;refine TJ h hm rfl ⟨rfl,rfl,fun e=>by rw[hc0] at e;omega⟩ fun c hc=>?_
  have el:l.last=0:=by
   have h1:=Aw (h.lg l hm).1;have h2:=(h.lg l hm).2.2;omega
  obtain⟨q,hq⟩:∃q,q=kM p { l with av:=o.av,closed:=1,last:=o.at_ }:=⟨_,rfl⟩;rw[←hq];have hb:∀x:Int,0≤bH p x∧bH p x≤8:=fun x=>⟨(h.last x).1,(h.last x).2.1⟩
  have hbq:∀x:Int,bH p x≤bH q x∧bH q x≤8:=fun x=>by
   unfold bH aW;rw[hq,jP];cases Xt:aR p x with
   |none=>simp[Ip]
   | some y=>
     simp only[Option.map_some,Option.getD_some];have hx:=hb x;unfold bH aW at hx;rw[Xt] at hx;simp only[Option.getD_some] at hx;split
     ·rename_i e;rw[beq_iff_eq] at e;obtain⟨_,Rh⟩:=fT Xt;have e2:y.id=l.id:=e;have h3:=h.find hm;rw[←e2,Rh,Xt] at h3;have:=Option.some.inj h3;subst this;simp only;omega
     exact⟨Int.le_refl _,hx.2⟩
  obtain⟨g,g0,g1,g2⟩:=h.ch c hc;have hgl:=g.len;have hg3:=g.e3;have e1:dP p c=c.first+fD (bH p) c.af:=kV (bH p) c.af c.first (fun x _=>hb x) g1 (by omega)
  have e2:dP q c=c.first+fD (bH q) c.af:=kV (bH q) c.af c.first (fun x _=>⟨Int.le_trans (hb x).1 (hbq x).1,(hbq x).2⟩) g1 (by omega)
  rw[e1,e2];have:∀L:List Int,fD (bH p) L≤fD (bH q) L:=fun L=>by
   induction L with
   |nil=>exact Int.le_refl _
   | cons x L ih=>
     simp only[fD];have:=(hbq x).1;omega
  have:=this c.af;omega
 exact wB.refl p
theorem Vr:wB p (iD p (aL p o.channel) o).1:=by
 unfold iD jZ;split
 ·rename_i y hy;split at hy
  ·cases hy
  split at hy
  ·cases hy
  rename_i hc2;have:=Option.some.inj hy;subst this;simp only[Bool.or_eq_true,not_or,decide_eq_true_eq] at hc2;obtain⟨⟨hl8,hnx⟩,h16⟩:=hc2;have hn1:=h.n1;have hnx2:bV p.next 1=p.next+1:=fE (by omega) (by omega);obtain⟨hi,e⟩:=gW hn;obtain⟨q,hq⟩:∃q:Pn,q={ dV p o.channel { aL p o.channel with af:=(aL p o.channel).af++[p.next] } with af:=p.af++[⟨p.next,o.w,o.a,o.av,0,0⟩],next:=bV p.next 1 }:=⟨_,rfl⟩;simp only;rw[←hq];have NU:q.af=p.af++[⟨p.next,o.w,o.a,o.av,0,0⟩]:=by rw[hq]
  have hold:∀id x,aR p id=some x→aR q id=some x:=fun id x hx=>by
   unfold aR at hx ⊢;rw[NU];exact ou hx
  have hnew:aR q p.next=some ⟨p.next,o.w,o.a,o.av,0,0⟩:=by
   unfold aR;rw[NU,List.find?_append];have:p.af.find? (fun l=>l.id==p.next)=none:=by
    rw[List.find?_eq_none];intro l hl;have:=(h.lg l hl).2.1;simp;omega
   rw[this];simp
  have hend:∀c∈p.channels,dP q c=dP p c:=fun c hc=>iI fun id hid=>by
   obtain⟨l,_,_,hf⟩:=h.named hc hid;rw[hold _ _ hf,hf]
  obtain⟨e1,e2,e3,e4,e5,e6⟩:=Cf h hn;refine⟨by rw[hq];exact Int.le_refl _,by rw[hq];show p.next≤bV p.next 1;omega,by rw[hq];simp[dV],fun i h1 h2=>?_,fun id a b ha hb=>?_,fun l hl hno=>?_⟩
  ·have hqc:q.channels=p.channels.set (o.channel-1).toNat { aL p o.channel with af:=(aL p o.channel).af++[p.next] }:=by rw[hq];rfl
   have key:∀(L:List Ch),L=q.channels→∀h3:i<L.length,NZ p q p.channels[i] L[i]:=fun L hL h3=>by
    rw[hqc] at hL;subst hL;refine YD (P:=fun a b=>NZ p q a b) h1 h3 (fun hk=>?_) ⟨Int.le_refl _,Int.le_refl _,Int.le_refl _,by rw[hend _ (List.getElem_mem h1)];exact Int.le_refl _,fun _=>⟨rfl,rfl,Int.le_refl _⟩⟩;rw[←e];refine⟨Int.le_refl _,Int.le_refl _,Int.le_refl _,?_,fun _=>⟨rfl,rfl,Int.le_refl _⟩⟩;have e0:dP q { aL p o.channel with af:=(aL p o.channel).af++[p.next] }=bV (dP q (aL p o.channel)) 0:=by
     unfold dP;simp only[List.foldl_append,List.foldl_cons,List.foldl_nil,hnew,Option.getD_some]
    rw[e0,hend _ (bW hn),fE (by omega) (by omega)];omega
   exact key _ rfl h2
  ·rw[hold _ _ ha] at hb;have:=Option.some.inj hb;subst this;exact TH.refl _
  rw[NU] at hl;rcases List.mem_append.1 hl with hl|hl
  ·exact absurd hno (kN hl)
  rw[List.mem_singleton] at hl;subst hl;exact Int.le_refl _
 exact wB.refl p
theorem Vs:wB p (iK p (aL p o.channel) o).1:=by
 obtain⟨g,g0,g1,g2⟩:=h.ch _ (bW hn);obtain⟨e1,e2,e3,e4,e5,e6⟩:=Cf h hn;have hgl:=g.len;have hg3:=g.e3;have hs:=oM h (aL p o.channel).trim (aL p o.channel).af (aL p o.channel).first g1 (by omega)
 unfold iK nD;generalize (dI p (aL p o.channel).trim (aL p o.channel).af (aL p o.channel).first)=y at hs ⊢;obtain⟨s1,s2,s3,s4⟩:=hs;simp only;split
 ·rename_i z hz;split at hz
  ·cases hz
  have:=Option.some.inj hz;subst this;obtain⟨hi,e⟩:=gW hn;obtain⟨T,hT⟩:∃T,T=(aL p o.channel).af.take y.1:=⟨_,rfl⟩;obtain⟨D,hD⟩:∃D,D=(aL p o.channel).af.drop y.1:=⟨_,rfl⟩;have P6:(aL p o.channel).af=T++D:=by rw[hT,hD,List.take_append_drop]
  rw[←hT] at s2 s4;rw[←hD,←hT];simp only;obtain⟨q,hq⟩:∃q:Pn,q={ dV p o.channel { aL p o.channel with af:=D,first:=y.2,seen:=o.seen } with af:=p.af.filter fun l=>!T.contains l.id }:=⟨_,rfl⟩;rw[←hq];have NU:q.af=p.af.filter fun l=>!T.contains l.id:=by rw[hq]
  have hrT:=g.mq;rw[P6,List.pairwise_append] at hrT;have NV:∀x∈D,x∉T:=fun x hx hx2=>by have:=hrT.2.2 x hx2 x hx;omega
  have hold:∀id,id∉T→aR q id=aR p id:=fun id hid=>by
   unfold aR;rw[NU];refine lI fun l _ e=>?_
   rw[e];simp[hid]
  have hbT:∀x∈T,0≤bH p x∧bH p x≤8:=fun x _=>⟨(h.last x).1,(h.last x).2.1⟩
  have hbD:∀x∈D,0≤bH p x∧bH p x≤8:=fun x _=>⟨(h.last x).1,(h.last x).2.1⟩
  have hsT:=tX hbT;have hsD:=tX hbD;have hsum:fD (bH p) (aL p o.channel).af=fD (bH p) T+fD (bH p) D:=by rw[P6,FX]
  refine⟨by rw[hq];exact Int.le_refl _,by rw[hq];exact Int.le_refl _,by rw[hq];simp[dV],fun i h1 h2=>?_,fun id a b ha hb=>?_,fun l hl hno=>?_⟩
  ·have hqc:q.channels=p.channels.set (o.channel-1).toNat { aL p o.channel with af:=D,first:=y.2,seen:=o.seen }:=by rw[hq];rfl
   have key:∀(L:List Ch),L=q.channels→∀h3:i<L.length,NZ p q p.channels[i] L[i]:=fun L hL h3=>by
    rw[hqc] at hL;subst hL;by_cases ek:(o.channel-1).toNat=i
    ·rw[List.getElem_set,if_pos ek];subst ek;rw[←e];refine⟨Int.le_refl _,Int.le_refl _,by show _≤y.2;omega,?_,fun _=>⟨rfl,rfl,Int.le_refl _⟩⟩;have:dP q { aL p o.channel with af:=D,first:=y.2,seen:=o.seen }=dP p { aL p o.channel with af:=D,first:=y.2,seen:=o.seen }:=iI fun id hid=>by rw[hold id (NV id hid)]
     rw[this];have ahk:D.length≤8:=by rw[P6,List.length_append] at hgl;omega
     have h4:dP p { aL p o.channel with af:=D,first:=y.2,seen:=o.seen }=y.2+fD (bH p) D:=kV (bH p) D y.2 hbD (by omega) (by omega);rw[h4];omega
    rw[List.getElem_set,if_neg ek];refine⟨Int.le_refl _,Int.le_refl _,Int.le_refl _,?_,fun _=>⟨rfl,rfl,Int.le_refl _⟩⟩;refine Int.le_of_eq (iI fun id hid=>?_).symm;rw[hold id fun hx=>?_];have h5:id∈p.channels[(o.channel-1).toNat].af:=by rw[←e,P6];simp[hx]
    exact ek (h.once hi h1 h5 hid)
   exact key _ rfl h2
  ·have:b=a:=by
    unfold aR at ha hb;rw[NU] at hb;by_cases hid:id∈T
    ·exfalso;have hm:=List.mem_of_find?_eq_some hb;have hp:=List.find?_some hb;rw[beq_iff_eq] at hp;have:=(List.mem_filter.1 hm).2;rw[hp] at this;simp[hid] at this
    rw[lI (fun l _ e=>by rw[e];simp[hid]),ha] at hb;exact (Option.some.inj hb).symm
   subst this;exact TH.refl _
  rw[NU] at hl;exact absurd hno (kN (List.mem_filter.1 hl).1)
 exact wB.refl p
end
theorem abE {p:Pn}(h:gB p){o:bg}(ho:Ir o)(hn:o.kind≠12→dM p o.channel=true)(h0:0≤o.at_):wB p (dG p o).1:=by
 refine xL (P:=fun y=>wB p y.1) (fun e=>?_) (fun e=>?_) (fun e=>?_) (fun e=>?_) (fun e=>?_) (fun e=>?_) (fun e=>?_) (fun e=>?_) (fun e a ha=>?_) (fun e=>?_) (fun e=>?_)
 ·exact abC h (hn (by omega))
 ·exact YE h (hn (by omega))
 ·exact wB.refl p
 ·exact Vr h (hn (by omega))
 ·exact Vp h (hn (by omega))
 ·exact Vq h (hn (by omega)) h0 ho.at1
 ·exact abD h (hn (by omega))
 ·exact Vs h (hn (by omega))
 ·exact ae1 h (hn (by omega)) a
 ·exact wB.refl p
 unfold kT gP;split
 ·rename_i l' hl';split at hl'
  ·cases hl'
  rename_i l hl;have hm:=List.mem_of_find?_eq_some hl;split at hl'
  ·cases hl'
  split at hl'
  ·have:=Option.some.inj hl';subst this;exact N7 h hm rfl ⟨rfl,rfl,fun e=>⟨e,rfl,by simp⟩⟩ rfl
  cases hl'
 exact wB.refl p
theorem N8 {p:Pn}(h:gB p)(o:bg)(h0:0≤o.at_):wB p (ic p o).1:=by
 rcases qB p o with ⟨e,_⟩|⟨_,hm,_,hv,_,e⟩
 ·rw[e];exact wB.refl p
 rw[e,vZ];have ho:=vX hm;have e1:bV p.version 1=p.version+1:=fE (by have:=h.v0;omega) (by have:=h.v;omega);have:wB p (tZ p o).1:=by
  unfold tZ;split
  ·exact wB.refl p
  rename_i hle;exact abE h ho (AB ho hle) h0
 exact⟨by show p.version≤bV p.version 1;omega,this.n,this.len,fun i a b=>⟨(this.ch i a b).e,(this.ch i a b).t,(this.ch i a b).f,(this.ch i a b).en,(this.ch i a b).ow⟩,this.lg,this.old⟩
def gX (p:Pn)(l:List bg):Pn:=l.foldl (fun p o=>(ic p o).1) p
theorem AP:∀{l:List bg} {p:Pn},gB p→(∀o∈l,0≤o.at_)→gB (gX p l)
 |[],_,h,_=>h
 | o::l,p,h,h0=>by
   unfold gX;rw[List.foldl_cons];exact AP (AJ h (h0 o (by simp))) fun x hx=>h0 x (by simp[hx])
theorem TK:∀{l:List bg} {p:Pn},gB p→(∀o∈l,0≤o.at_)→wB p (gX p l)
 |[],p,_,_=>wB.refl p
 | o::l,p,h,h0=>by
   unfold gX;rw[List.foldl_cons];have h1:=h0 o (by simp);exact (N8 h o h1).trans h (TK (AJ h h1) fun x hx=>h0 x (by simp[hx]))
theorem TL:∀{l:List Int} {lo hi:Int},l.Pairwise (· < ·)→(∀x∈l,lo<x∧x≤hi)→lo≤hi→(l.length:Int)≤hi-lo
 |[],lo,hi,_,_,hle=>by simp;omega
 | x::l,lo,hi,hp,hb,hle=>by
   rw[List.pairwise_cons] at hp;have hx:=hb x (by simp);have:=TL (l:=l) (lo:=x) (hi:=hi) hp.2 (fun y hy=>⟨hp.1 y hy,(hb y (by simp[hy])).2⟩) (by omega);simp only[List.length_cons];omega
theorem gB.AL {p:Pn}(h:gB p):p.past.length≤15:=by
 have:=TL (l:=p.past.map (·.who)) (lo:=0) (hi:=15) h.p2 (fun x hx=>by
  obtain⟨y,hy,rfl⟩:=List.mem_map.1 hx;have h1:=h.p1;rw[List.all_eq_true] at h1;have:=h1 y hy;simp only[qP,Bool.and_eq_true,bS,decide_eq_true_eq] at this;omega) (by decide)
 rw[List.length_map] at this;omega
theorem YF {L:List Ch}{n:Nat}(h:∀c∈L,c.af.length≤n):(L.flatMap (·.af)).length≤L.length*n:=by
 induction L with
 |nil=>simp
 | cons c L ih=>
   rw[List.flatMap_cons,List.length_append,List.length_cons,Nat.add_mul];have h1:=h c (by simp);have h2:=ih fun x hx=>h x (by simp[hx])
   omega
theorem gB.abF {p:Pn}(h:gB p):(gT p).length≤24∧p.af.length≤24:=by
 have h1:(gT p).length≤p.channels.length*8:=YF fun c hc=>(h.ch c hc).1.len
 have h2:=h.c2;have h3:=h.perm.length_eq;unfold jY at h3;rw[List.length_map] at h3;omega
theorem N9 {l:Lg}(h:kL l=true):l.av.length≤6∧∀f∈l.av,f.aN.length≤5:=by
 unfold kL at h;simp only[Bool.and_eq_true] at h;have hf:=h.2.2.2.1;unfold fC at hf;simp only[Bool.and_eq_true,bS,decide_eq_true_eq,List.all_eq_true] at hf;refine⟨by have:=hf.1;omega,fun f hf2=>?_⟩;have:=hf.2.2.1 f hf2;unfold Al at this;simp only[Bool.and_eq_true,bS,decide_eq_true_eq] at this;omega
theorem Vt {c:Ch}(h:Am c=true):c.seen.length≤6:=by
 unfold Am at h;simp only[Bool.and_eq_true,decide_eq_true_eq] at h;have:=h.1;omega
theorem gB.chB {p:Pn}(h:gB p){c:Ch}(hc:c∈p.channels):ChB c:=by
 have g:=(h.ch c hc).1;have h1:=g.len;have h2:=Vt g.seen;have h3:=g.k0;refine⟨?_,?_,?_⟩<;>omega
theorem gB.lgB {p:Pn}(h:gB p){l:Lg}(hl:l∈p.af):LgB l:=by
 have:=N9 (h.lg l hl).1;exact⟨by omega,fun f hf=>by have:=this.2 f hf;omega⟩
theorem gB.Iu {p:Pn}(h:gB p):rR p:=by
 have h1:=h.abF;have h2:=h.AL;have h3:=h.c2;exact⟨by omega,by omega,by omega,fun c hc=>h.chB hc,fun l hl=>h.lgB hl,by omega⟩
theorem jQ {p:Pn}{n:Int}(hn:dM p n=true):∃A B,p.channels=A++aL p n::B∧(A.length:Int)=n-1∧∀c':Ch,(dV p n c').channels=A++c'::B:=by
 obtain⟨hi,e⟩:=gW hn;simp only[dM,Bool.and_eq_true,decide_eq_true_eq] at hn;refine⟨p.channels.take (n-1).toNat,p.channels.drop ((n-1).toNat+1),?_,?_,fun c'=>?_⟩
 ·rw[e];exact (Cg p.channels _ hi default).2
 ·rw[List.length_take];omega
 exact (Cg p.channels _ hi c').1
theorem Oa {p:Pn}(h:gB p){l:Lg}(hl:l∈p.af):∃A B,p.af=A++l::B∧(∀y∈A,(y.id==l.id)=false)∧∀l':Lg,l'.id=l.id→(kM p l').af=A++l'::B:=by
 obtain⟨A,B,e⟩:=List.append_of_mem hl;have hr:=h.mq;unfold jY at hr;rw[e,List.map_append,List.map_cons,List.pairwise_append,List.pairwise_cons] at hr;obtain⟨_,⟨r2,_⟩,r3⟩:=hr;have hA:∀y∈A,(y.id==l.id)=false:=fun y hy=>by
  have:=r3 y.id (List.mem_map.2 ⟨y,hy,rfl⟩) l.id (by simp);simp;omega
 refine⟨A,B,e,hA,fun l' hid=>?_⟩;unfold kM;simp only;rw[e,List.map_append,List.map_cons];have e1:A.map (fun x=>if x.id==l'.id then l' else x)=A:=by
  rw[List.map_congr_left (g:=id)]
  ·simp
  intro y hy;rw[hid,hA y hy];rfl
 have e2:B.map (fun x=>if x.id==l'.id then l' else x)=B:=by
  rw[List.map_congr_left (g:=id)]
  ·simp
  intro y hy;have:=r2 y.id (List.mem_map.2 ⟨y,hy,rfl⟩);rw[hid,if_neg (by simp;omega)];rfl
 rw[e1,e2,hid,if_pos (by simp)]
inductive Ed where
 |no
 |add (l:Lg)
 |put (l:Lg)
 |del (s:List Int)
def Ed.on (e:Ed)(L:List Lg):List Lg:=match e with
 |.no=>L
 |.add l=>L++[l]
 |.put l=>L.map fun x=>if x.id==l.id then l else x
 |.del s=>L.filter fun x=>!s.contains x.id
def Ed.nx (e:Ed)(n:Int):Int:=match e with
 |.add _=>bV n 1
 |_=>n
def Ed.ids (e:Ed):List Int:=match e with
 |.no=>[]
 |.add l=>[l.id]
 |.put l=>[l.id]
 |.del s=>s
def Ed.adL (e:Ed):Bool:=match e with
 |.add _=>true
 |_=>false
theorem Ed.comm {a b:Ed}{L:List Lg}(h1:¬(a.adL=true∧b.adL=true))(h2:∀x∈a.ids,x∉b.ids):b.on (a.on L)=a.on (b.on L):=by
 cases a with
 |no=>rfl
 | add l=>
   cases b with
   |no=>rfl
   |add l2=>exact absurd ⟨rfl,rfl⟩ h1
   | put l2=>
     have:l.id≠l2.id:=fun e=>h2 l.id (by simp[Ed.ids]) (by simp[Ed.ids,e])
     simp only[Ed.on,List.map_append,List.map_cons,List.map_nil];rw[if_neg (by simpa using this)]
   | del s=>
     have:l.id∉s:=fun e=>h2 l.id (by simp[Ed.ids]) e
     simp only[Ed.on,List.filter_append];congr 1
     rw[List.filter_cons,if_pos (by simpa using this)];rfl
 | put l=>
   cases b with
   |no=>rfl
   | add l2=>
     have:l2.id≠l.id:=fun e=>h2 l.id (by simp[Ed.ids]) (by simp[Ed.ids,e])
     simp only[Ed.on,List.map_append,List.map_cons,List.map_nil];rw[if_neg (by simpa using this)]
   | put l2=>
     have hne:l.id≠l2.id:=fun e=>h2 l.id (by simp[Ed.ids]) (by simp[Ed.ids,e])
     simp only[Ed.on,List.map_map];refine List.map_congr_left fun x _=>?_
     simp only[Function.comp,beq_iff_eq];by_cases e1:x.id=l.id
     ·have e2:x.id≠l2.id:=by omega
      rw[if_pos e1,if_neg hne,if_neg e2,if_pos e1]
     rw[if_neg e1];by_cases e2:x.id=l2.id
     ·have e3:l2.id≠l.id:=by omega
      rw[if_pos e2,if_neg e3]
     rw[if_neg e2,if_neg e1]
   | del s=>
     simp only[Ed.on,List.filter_map];congr 1
     refine List.filter_congr fun x _=>?_
     simp only[Function.comp,beq_iff_eq];by_cases e1:x.id=l.id
     ·rw[if_pos e1,e1]
     rw[if_neg e1]
 | del s=>
   cases b with
   |no=>rfl
   | add l2=>
     have:l2.id∉s:=fun e=>h2 l2.id e (by simp[Ed.ids])
     simp only[Ed.on,List.filter_append];congr 1
     rw[List.filter_cons,if_pos (by simpa using this)];rfl
   | put l2=>
     simp only[Ed.on,List.filter_map];congr 1
     refine List.filter_congr fun x _=>?_
     simp only[Function.comp,beq_iff_eq];by_cases e1:x.id=l2.id
     ·rw[if_pos e1,e1]
     rw[if_neg e1]
   | del s2=>
     simp only[Ed.on,List.filter_filter];refine List.filter_congr fun x _=>?_
     rw[Bool.and_comm]
structure Eff where
 c:Ch
 e:Ed
 out:Oc
def Eff.app (p:Pn)(n:Int)(f:Eff):Pn:={ p with channels:=p.channels.set (n-1).toNat f.c,af:=f.e.on p.af,next:=f.e.nx p.next }
def ig (p:Pn)(o:bg):Eff:=
 let c:=aL p o.channel
 if o.kind=1 then ⟨(mF c o).1,.no,(mF c o).2⟩
 else if o.kind=2 then ⟨tT c o,.no,bQ⟩
 else if o.kind=3 then ⟨c,.no,{ bQ with at_:=c.trim }⟩
 else if o.kind=4 then (match (jZ p c o).1 with
  |some y=>⟨y.1,.add y.2.1,y.2.2⟩
  |none=>⟨c,.no,(jZ p c o).2⟩)
 else if o.kind=5 then (match (fV p o).1 with
  |some l=>⟨c,.put l,(fV p o).2⟩
  |none=>⟨c,.no,(fV p o).2⟩)
 else if o.kind=6 then (match (fZ p c o).1 with
  |some l=>⟨c,.put l,(fZ p c o).2⟩
  |none=>⟨c,.no,(fZ p c o).2⟩)
 else if o.kind=7 then ⟨(lZ p c o).1,.no,(lZ p c o).2⟩
 else if o.kind=8 then
  (if !ku (c.af.drop (dI p c.trim c.af c.first).1) o.aY||o.seen.any (fun x=>decide (x.offset≥(dI p c.trim c.af c.first).2)) then ⟨c,.no,iX 5⟩
  else ⟨{ c with af:=c.af.drop (dI p c.trim c.af c.first).1,first:=(dI p c.trim c.af c.first).2,seen:=o.seen },.del (c.af.take (dI p c.trim c.af c.first).1),{ bQ with at_:=(dI p c.trim c.af c.first).2 }⟩)
 else if o.kind=9 then ⟨(uT c o (mo (xI c.au o.sub) o.at_)).1,.no,(uT c o (mo (xI c.au o.sub) o.at_)).2⟩
 else if o.kind=10 then ⟨(uT c o o.at_).1,.no,(uT c o o.at_).2⟩
 else ⟨c,.no,{ bQ with at_:=xI c.au o.sub }⟩
theorem rT {p:Pn}{n:Int}(hn:dM p n=true)(out:Oc):(Eff.app p n ⟨aL p n,.no,out⟩)=p:=xK hn
theorem TM {p:Pn}{n:Int}(hn:dM p n=true)(l:Lg)(out:Oc):(Eff.app p n ⟨aL p n,.put l,out⟩)=kM p l:=by
 have:=xK hn;have e:p.channels.set (n-1).toNat (aL p n)=p.channels:=congrArg Pn.channels this;unfold Eff.app kM;rw[e];rfl
theorem Ob {p:Pn}{o:bg}(hn:dM p o.channel=true)(k1:1≤o.kind)(k2:o.kind≤11):dG p o=((ig p o).app p o.channel,(ig p o).out):=by
 rcases (by omega:o.kind=1∨o.kind=2∨o.kind=3∨o.kind=4∨o.kind=5∨o.kind=6∨o.kind=7∨o.kind=8∨o.kind=9∨o.kind=10∨o.kind=11) with hk|hk|hk|hk|hk|hk|hk|hk|hk|hk|hk
 all_goals simp only[dG,ig,hk,Int.reduceEq,if_false,if_true,↓reduceIte]
 ·rfl
 ·rfl
 ·rw[rT hn]
 ·unfold iD;cases (jZ p (aL p o.channel) o).1 with
  |none=>simp only;rw[rT hn]
  |some y=>rfl
 ·unfold kT;cases (fV p o).1 with
  |none=>simp only;rw[rT hn]
  |some l=>simp only;rw[TM hn]
 ·unfold kT;cases (fZ p (aL p o.channel) o).1 with
  |none=>simp only;rw[rT hn]
  |some l=>simp only;rw[TM hn]
 ·rfl
 ·unfold iK nD;simp only;split
  ·rename_i y hy;split at hy
   ·cases hy
   rename_i hc;have:=Option.some.inj hy;subst this;rw[if_neg hc,if_neg hc];rfl
  rename_i hy;split at hy
  ·rename_i hc;rw[if_pos hc,if_pos hc];simp only;rw[rT hn]
  cases hy
 ·rfl
 ·rfl
 rw[rT hn]
structure D5 (p q:Pn)(o:bg):Prop where
 len:q.channels.length=p.channels.length
 ch:aL q o.channel=aL p o.channel
 lg:∀id∈(aL p o.channel).af,aR q id=aR p id
 nx:o.kind=4→q.next=p.next
theorem D5.has {p q:Pn}{o:bg}(h:D5 p q o):dM q o.channel=dM p o.channel:=by unfold dM;rw[h.len]
theorem D5.cl {p q:Pn}{o:bg}(h:D5 p q o):∀id∈(aL p o.channel).af,(aR q id).map Ay=(aR p id).map Ay:=fun id hid=>by rw[h.lg id hid]
theorem D5.en {p q:Pn}{o:bg}(h:D5 p q o):pE q o.channel=pE p o.channel:=by
 unfold pE;rw[h.has,h.ch,iI h.cl]
theorem D5.op {p q:Pn}{o:bg}(h:D5 p q o):fK q o.channel=fK p o.channel:=by
 unfold fK;rw[h.has,h.ch];split
 ·unfold gN;cases hg:(aL p o.channel).af.getLast? with
  |none=>rfl
  |some id=>simp only;rw[h.lg id (List.mem_of_getLast? hg)]
 rfl
theorem D5.la {p q:Pn}{o:bg}(h:D5 p q o):qz q o=qz p o:=by unfold qz;rw[h.op]
theorem D5.st {p q:Pn}{o:bg}(h:D5 p q o):kU q o=kU p o:=by unfold kU;rw[h.len,h.ch]
def pM (l:List Int)(x:Int):List Int:=l.takeWhile fun y=>y != x
theorem Rn:∀{l:List Int} {x y:Int},x∈l→y∈pM l x→y∈l.dropLast
 |[],x,y,hx,_=>by cases hx
 | z::r,x,y,hx,hy=>by
   unfold pM at hy;rw[List.takeWhile_cons] at hy;by_cases e:z=x
   ·rw[if_neg (by simpa using e)] at hy;cases hy
   rw[if_pos (by simpa using e)] at hy;have hx2:x∈r:=by
    rcases List.mem_cons.1 hx with h|h
    ·exact absurd h.symm e
    exact h
   have hr:r≠[]:=fun h=>by rw[h] at hx2;cases hx2
   rw[List.dropLast_cons_of_ne_nil hr];rcases List.mem_cons.1 hy with h|h
   ·rw[h];exact List.mem_cons_self
   exact List.mem_cons_of_mem _ (Rn hx2 h)
theorem Ro:∀{l e:List Int} {x:Int},x∈l→pM (l++e) x=pM l x
 |[],e,x,hx=>by cases hx
 | z::r,e,x,hx=>by
   unfold pM;rw[List.cons_append,List.takeWhile_cons,List.takeWhile_cons];by_cases h:z=x
   ·rw[if_neg (by simpa using h),if_neg (by simpa using h)]
   rw[if_pos (by simpa using h),if_pos (by simpa using h)];rcases List.mem_cons.1 hx with h2|h2
   ·exact absurd h2.symm h
   have:=Ro (e:=e) h2;unfold pM at this;rw[this]
theorem ae2 {l e:List Int}{x:Int}(hx:x∉l):pM (l++e) x=l++pM e x:=
 List.takeWhile_append_of_pos fun a ha=>by
  have:a≠x:=fun e=>hx (e▸ha)
  simpa using this
theorem YG {f:Int→Int}:∀{l:List Int} {x:Int},x∈l→(∀y∈l,0≤f y)→fD f (pM l x)+f x≤fD f l∧0≤fD f (pM l x)
 |[],x,hx,_=>by cases hx
 | z::r,x,hx,h=>by
   have h0:=h z (by simp);have hs:∀(r:List Int),(∀y∈r,0≤f y)→0≤fD f r:=by
    intro r;induction r with
    |nil=>intro _;exact Int.le_refl _
    | cons a r ih=>
      intro h;have:=ih fun y hy=>h y (by simp[hy])
      have:=h a (by simp);simp only[fD];omega
   unfold pM;rw[List.takeWhile_cons];by_cases e:z=x
   ·rw[if_neg (by simpa using e)];have:=hs r fun y hy=>h y (by simp[hy])
    subst e;simp only[fD];omega
   rw[if_pos (by simpa using e)];rcases List.mem_cons.1 hx with h2|h2
   ·exact absurd h2.symm e
   have:=YG h2 fun y hy=>h y (by simp[hy])
   unfold pM at this;simp only[fD];omega
def pO (p:Pn)(c:Ch)(x:Int):Int:=c.first+fD (bH p) (pM c.af x)
structure StC (p q:Pn)(a b:Ch):Prop where
 f:a.first≤b.first
 sub:∀x∈b.af,x∈a.af∨p.next≤x
 kept:∀x∈a.af,x∈b.af→pO q b x=pO p a x
 gone:∀x∈a.af,x∉b.af→(aW p x).closed=1→pO p a x+bH p x≤b.first
structure Vu (p q:Pn):Prop where
 len:q.channels.length=p.channels.length
 ch:∀i (h1:i<p.channels.length) (h2:i<q.channels.length),StC p q p.channels[i] q.channels[i]
theorem AQ {p q:Pn}{a b:Ch}{e:List Int}(hf:b.first=a.first)(hl:b.af=a.af++e)(he:∀x∈e,p.next≤x)(hs:∀y∈a.af.dropLast,bH q y=bH p y):StC p q a b:=by
 refine⟨by rw[hf];exact Int.le_refl _,fun x hx=>?_,fun x hx _=>?_,fun x hx hn=>?_⟩
 ·rw[hl] at hx;rcases List.mem_append.1 hx with h|h
  ·exact .inl h
  exact .inr (he x h)
 ·unfold pO;rw[hf,hl,Ro hx,tV fun y hy=>hs y (Rn hx hy)]
 exact absurd (by rw[hl];exact List.mem_append_left _ hx) hn
theorem Rp {p q:Pn}{x:Int}(h:(aR q x).map Ay=(aR p x).map Ay):bH q x=bH p x:=by
 unfold bH aW;cases h1:aR q x<;>cases h2:aR p x<;>rw[h1,h2] at h<;>simp[Ay] at h ⊢
 exact h.2
theorem Vu.refl (p:Pn):Vu p p:=⟨rfl,fun i h1 h2=>AQ (e:=[]) rfl (by simp) (fun x hx=>by cases hx) fun _ _=>rfl⟩
theorem Rt {p:Pn}(h:gB p){c:Ch}(hc:c∈p.channels){x:Int}(hx:x∈c.af):x<p.next:=by
 obtain⟨l,hl,e,_⟩:=h.named hc hx;rw[←e];exact (h.lg l hl).2.1
theorem Vu.trans {p q r:Pn}(hp:gB p)(hq:gB q)(ho:wB p q)(h1:Vu p q)(h2:Vu q r):Vu p r:=by
 refine⟨h2.len.trans h1.len,fun i a b=>?_⟩;have hi:i<q.channels.length:=by rw[h1.len];exact a
 have g1:=h1.ch i a hi;have g2:=h2.ch i hi b;have ma:=List.getElem_mem a;have mb:=List.getElem_mem hi;have hn:=ho.n;have back:∀x∈p.channels[i].af,x∈r.channels[i].af→x∈q.channels[i].af:=by
  intro x hx hr;rcases g2.sub x hr with h|h
  ·exact h
  have:=Rt hp ma hx;omega
 refine⟨Int.le_trans g1.f g2.f,fun x hx=>?_,fun x hx hr=>?_,fun x hx hr hc=>?_⟩
 ·rcases g2.sub x hx with h|h
  ·exact g1.sub x h
  exact .inr (by omega)
 ·have hb:=back x hx hr;rw[g2.kept x hb hr,g1.kept x hx hb]
 by_cases hb:x∈q.channels[i].af
 ·obtain⟨l,_,_,f1⟩:=hp.named ma hx;obtain⟨m,_,_,f2⟩:=hq.named mb hb;have hL:=ho.lg x l m f1 f2;have e1:aW p x=l:=by unfold aW;rw[f1];rfl
  have e2:aW q x=m:=by unfold aW;rw[f2];rfl
  rw[e1] at hc;obtain⟨c1,c2,_⟩:=hL.ec hc;have:=g2.gone x hb hr (by rw[e2];exact c1);rw[g1.kept x hx hb] at this;have e3:bH q x=bH p x:=by unfold bH;rw[e1,e2];exact c2
  omega
 have:=g1.gone x hx hb hc;have:=g2.f;omega
theorem abG {p q:Pn}(h:gB p){a:Ch}(ha:a∈p.channels){n:Nat}{b:Ch}(hb:b.af=a.af.drop n)(hf:b.first=a.first+fD (bH p) (a.af.take n))(hs:∀y∈a.af.drop n,bH q y=bH p y):StC p q a b:=by
 have g:=(h.ch a ha).1;have hnd:a.af.Nodup:=by
  rw[List.nodup_iff_pairwise_ne];exact g.mq.imp fun h=>by omega
 have hall:∀y,0≤bH p y:=fun y=>(h.last y).1
 have hsum:0≤fD (bH p) (a.af.take n):=by
  have:∀l:List Int,0≤fD (bH p) l:=by
   intro l;induction l with
   |nil=>exact Int.le_refl _
   |cons y l ih=>have:=hall y;simp only[fD];omega
  exact this _
 have hsplit:=List.take_append_drop n a.af;have NV:∀x,x∈a.af.drop n→x∉a.af.take n:=by
  intro x h1 h2;rw[←hsplit,List.nodup_append] at hnd;exact hnd.2.2 x h2 x h1 rfl
 refine⟨by omega,fun x hx=>.inl (by rw[hb] at hx;exact List.mem_of_mem_drop hx),fun x hx hx2=>?_,fun x hx hx2 hc=>?_⟩
 ·rw[hb] at hx2;have e:pM a.af x=a.af.take n++pM (a.af.drop n) x:=by
   conv=>lhs;rw[←hsplit]
   exact ae2 (NV x hx2)
  unfold pO;rw[hb,hf,e,FX,tV (f:=bH q) (g:=bH p) fun y hy=>hs y (List.dropLast_subset _ (Rn hx2 hy))];omega
 rw[hb] at hx2;have hx3:x∈a.af.take n:=by
  rw[←hsplit] at hx;rcases List.mem_append.1 hx with h|h
  ·exact h
  exact absurd h hx2
 have e:pM a.af x=pM (a.af.take n) x:=by
  conv=>lhs;rw[←hsplit]
  exact Ro hx3
 have:=(YG (f:=bH p) hx3 fun y _=>hall y).1;unfold pO;rw[e,hf];omega
theorem abH {p:Pn}(h:gB p){o:bg}(ho:Ir o)(hn:dM p o.channel=true)(k11:o.kind≤11):StC p (dG p o).1 (aL p o.channel) (ig p o).c:=by
 have k1:=ho.k1;have hL:(dG p o).1.af=(ig p o).e.on p.af:=by rw[Ob hn k1 k11];rfl
 have hno:(ig p o).e=.no→∀y,bH (dG p o).1 y=bH p y:=fun e y=>by
  rw[e] at hL;unfold bH aW aR;rw[hL];rfl
 have ajJ:∀l,(ig p o).e=.put l→∀y,y≠l.id→bH (dG p o).1 y=bH p y:=fun l e y hy=>by
  rw[e] at hL;have:=AO (p:=p) hy;unfold bH aW;rw[←this];unfold aR;rw[hL];rfl
 have hone:∀(b:Ch),b.first=(aL p o.channel).first→b.af=(aL p o.channel).af→(ig p o).e=.no→StC p (dG p o).1 (aL p o.channel) b:=fun b e1 e2 e3=>
  AQ (e:=[]) e1 (by rw[e2,List.append_nil]) (fun x hx=>by cases hx) fun y _=>hno e3 y
 have hla:∀l,(aL p o.channel).af.getLast? = some l.id→(ig p o).e=.put l→(ig p o).c=aL p o.channel→StC p (dG p o).1 (aL p o.channel) (ig p o).c:=fun l hg e1 e2=>by
  rw[e2];refine AQ (e:=[]) rfl (by rw[List.append_nil]) (fun x hx=>by cases hx) fun y hy=>ajJ l e1 y fun e=>?_
  have g:=(h.ch _ (bW hn)).1.mq;obtain⟨r,hr⟩:=List.getLast?_eq_some_iff.1 hg;rw[hr,List.dropLast_concat] at hy;rw[hr,List.pairwise_append] at g;have:=g.2.2 y hy l.id (by simp);omega
 rcases (by omega:o.kind=1∨o.kind=2∨o.kind=3∨o.kind=4∨o.kind=5∨o.kind=6∨o.kind=7∨o.kind=8∨o.kind=9∨o.kind=10∨o.kind=11) with hk|hk|hk|hk|hk|hk|hk|hk|hk|hk|hk
 ·have e:ig p o=⟨(mF (aL p o.channel) o).1,.no,(mF (aL p o.channel) o).2⟩:=by simp only[ig,hk,Int.reduceEq,if_false,if_true,↓reduceIte]
  refine hone _ ?_ ?_ (by rw[e]);all_goals
   rw[e];unfold mF;split
   ·rfl
   split<;>rfl
 ·have e:ig p o=⟨tT (aL p o.channel) o,.no,bQ⟩:=by simp only[ig,hk,Int.reduceEq,if_false,if_true,↓reduceIte]
  exact hone _ (by rw[e];rfl) (by rw[e];rfl) (by rw[e])
 ·have e:ig p o=⟨aL p o.channel,.no,{ bQ with at_:=(aL p o.channel).trim }⟩:=by simp only[ig,hk,Int.reduceEq,if_false,if_true,↓reduceIte]
  exact hone _ (by rw[e]) (by rw[e]) (by rw[e])
 ·cases hy:(jZ p (aL p o.channel) o).1 with
  | none=>
    have e:ig p o=⟨aL p o.channel,.no,(jZ p (aL p o.channel) o).2⟩:=by simp only[ig,hk,hy,Int.reduceEq,if_false,if_true,↓reduceIte]
    exact hone _ (by rw[e]) (by rw[e]) (by rw[e])
  | some y=>
    have e:ig p o=⟨y.1,.add y.2.1,y.2.2⟩:=by simp only[ig,hk,hy,Int.reduceEq,if_false,if_true,↓reduceIte]
    have TN:y.1.first=(aL p o.channel).first∧y.1.af=(aL p o.channel).af++[p.next]:=by
     unfold jZ at hy;split at hy
     ·cases hy
     split at hy
     ·cases hy
     have:=Option.some.inj hy;subst this;exact⟨rfl,rfl⟩
    refine AQ (e:=[p.next]) (by rw[e];exact TN.1) (by rw[e];exact TN.2) (fun x hx=>by rw[List.mem_singleton] at hx;omega) fun z hz=>?_
    have hz2:z∈(aL p o.channel).af:=List.dropLast_subset _ hz;obtain⟨l,_,_,hf⟩:=h.named (bW hn) hz2;have:aR (dG p o).1 z=aR p z:=by
     rw[hf];unfold aR;rw[hL,e];exact ou hf
    unfold bH aW;rw[this]
 ·cases hl:(fV p o).1 with
  | none=>
    have e:ig p o=⟨aL p o.channel,.no,(fV p o).2⟩:=by simp only[ig,hk,hl,Int.reduceEq,if_false,if_true,↓reduceIte]
    exact hone _ (by rw[e]) (by rw[e]) (by rw[e])
  | some l'=>
    have e:ig p o=⟨aL p o.channel,.put l',(fV p o).2⟩:=by simp only[ig,hk,hl,Int.reduceEq,if_false,if_true,↓reduceIte]
    refine hla l' ?_ (by rw[e]) (by rw[e]);unfold fV at hl;split at hl
    ·cases hl
    rename_i l hl2;simp only at hl;split at hl
    ·cases hl
    split at hl
    ·cases hl
    have:=Option.some.inj hl;subst this;exact (nE h hn (nG h hn hl2).1).2.1
 ·cases hl:(fZ p (aL p o.channel) o).1 with
  | none=>
    have e:ig p o=⟨aL p o.channel,.no,(fZ p (aL p o.channel) o).2⟩:=by simp only[ig,hk,hl,Int.reduceEq,if_false,if_true,↓reduceIte]
    exact hone _ (by rw[e]) (by rw[e]) (by rw[e])
  | some l'=>
    have e:ig p o=⟨aL p o.channel,.put l',(fZ p (aL p o.channel) o).2⟩:=by simp only[ig,hk,hl,Int.reduceEq,if_false,if_true,↓reduceIte]
    refine hla l' ?_ (by rw[e]) (by rw[e]);unfold fZ at hl;split at hl
    ·cases hl
    rename_i l hl2;split at hl
    ·cases hl
    have:=Option.some.inj hl;subst this;exact (nE h hn (nG h hn hl2).1).2.1
 ·have e:ig p o=⟨(lZ p (aL p o.channel) o).1,.no,(lZ p (aL p o.channel) o).2⟩:=by simp only[ig,hk,Int.reduceEq,if_false,if_true,↓reduceIte]
  refine hone _ ?_ ?_ (by rw[e]);all_goals
   rw[e];unfold lZ;split<;>split<;>rfl
 ·have e:ig p o=⟨aL p o.channel,.no,iX 5⟩∨ig p o=⟨{ aL p o.channel with af:=(aL p o.channel).af.drop (dI p (aL p o.channel).trim (aL p o.channel).af (aL p o.channel).first).1,first:=(dI p (aL p o.channel).trim (aL p o.channel).af (aL p o.channel).first).2,seen:=o.seen },.del ((aL p o.channel).af.take (dI p (aL p o.channel).trim (aL p o.channel).af (aL p o.channel).first).1),{ bQ with at_:=(dI p (aL p o.channel).trim (aL p o.channel).af (aL p o.channel).first).2 }⟩:=by
   simp only[ig,hk,Int.reduceEq,if_false,if_true,↓reduceIte];generalize (!ku _ _||_)=b;cases b
   ·exact .inr rfl
   exact .inl rfl
  rcases e with e|e
  ·exact hone _ (by rw[e]) (by rw[e]) (by rw[e])
  obtain⟨g,g0,g1,g2⟩:=h.ch _ (bW hn);have hgl:=g.len;have hg3:=g.e3;have hs:=oM h (aL p o.channel).trim (aL p o.channel).af (aL p o.channel).first g1 (by omega)
  generalize hG:dI p (aL p o.channel).trim (aL p o.channel).af (aL p o.channel).first=G at *
  refine abG h (bW hn) (n:=G.1) (by rw[e]) (by rw[e];exact hs.2.1) fun y hy=>?_
  have hnd:(aL p o.channel).af.Nodup:=by
   rw[List.nodup_iff_pairwise_ne];exact g.mq.imp fun h=>by omega
  have TN:y∉(aL p o.channel).af.take G.1:=by
   intro h2;rw[←List.take_append_drop G.1 (aL p o.channel).af,List.nodup_append] at hnd;exact hnd.2.2 y h2 y hy rfl
  have:aR (dG p o).1 y=aR p y:=by
   unfold aR;rw[hL,e];refine lI fun l _ el=>?_
   rw[el];simpa using TN
  unfold bH aW;rw[this]
 ·have e:ig p o=⟨(uT (aL p o.channel) o (mo (xI (aL p o.channel).au o.sub) o.at_)).1,.no,(uT (aL p o.channel) o (mo (xI (aL p o.channel).au o.sub) o.at_)).2⟩:=by simp only[ig,hk,Int.reduceEq,if_false,if_true,↓reduceIte]
  exact hone _ (by rw[e];rfl) (by rw[e];rfl) (by rw[e])
 ·have e:ig p o=⟨(uT (aL p o.channel) o o.at_).1,.no,(uT (aL p o.channel) o o.at_).2⟩:=by simp only[ig,hk,Int.reduceEq,if_false,if_true,↓reduceIte]
  exact hone _ (by rw[e];rfl) (by rw[e];rfl) (by rw[e])
 have e:ig p o=⟨aL p o.channel,.no,{ bQ with at_:=xI (aL p o.channel).au o.sub }⟩:=by simp only[ig,hk,Int.reduceEq,if_false,if_true,↓reduceIte]
 exact hone _ (by rw[e]) (by rw[e]) (by rw[e])
theorem YI {p:Pn}(h:gB p)(o:bg):Vu p (ic p o).1:=by
 have hw:=Rm h o;refine⟨hw.len,fun i a b=>?_⟩;by_cases hc:(i:Int)+1=o.channel
 ·rcases qB p o with ⟨e,_⟩|⟨_,hm,_,hv,_,e⟩
  ·have:=(Vu.refl p).ch i a a;simp only[e];exact this
  have ho:=vX hm;have hle:¬o.channel>(p.channels.length:Int):=by omega
  have h12:o.kind≠12:=fun e=>by have:=YA ho e;omega
  have hn:=AB ho hle h12;have k1:=ho.k1;have k11:o.kind≤11:=by have:=ho.k2;omega
  have hst:=abH h ho hn k11;have em:tZ p o=dG p o:=by unfold tZ;rw[if_neg hle]
  have ei:(o.channel-1).toNat=i:=by omega
  have hch:(dG p o).1.channels=p.channels.set i (ig p o).c:=by rw[Ob hn k1 k11,←ei];rfl
  have eq:(ic p o).1.channels=p.channels.set i (ig p o).c:=by rw[e,vZ,em];exact hch
  have e1:(ic p o).1.channels[i]=(ig p o).c:=by simp only[eq,List.getElem_set_self]
  have e2:p.channels[i]=aL p o.channel:=by
   obtain⟨hj,e⟩:=gW hn;rw[e];simp only[ei]
  rw[e1,e2];have hlo:∀y,bH (ic p o).1 y=bH (dG p o).1 y:=fun y=>by
   unfold bH aW aR;rw[e,vZ,em]
  have hsc:pO (ic p o).1 (ig p o).c=pO (dG p o).1 (ig p o).c:=by
   funext y
   unfold pO;rw[tV fun y _=>hlo y]
  exact⟨hst.f,hst.sub,fun x h1 h2=>by rw[hsc];exact hst.kept x h1 h2,hst.gone⟩
 have e:=hw.ch i a hc;rw[List.getElem?_eq_getElem b,List.getElem?_eq_getElem a] at e;have e:=Option.some.inj e;rw[e];exact AQ (e:=[]) rfl (by simp) (fun x hx=>by cases hx) fun y hy=>Rp (hw.lg i a hc y (List.dropLast_subset _ hy)).1
theorem TP:∀{l:List bg} {p:Pn},gB p→(∀o∈l,0≤o.at_)→Vu p (gX p l)
 |[],p,_,_=>Vu.refl p
 | o::l,p,h,h0=>by
   have h1:=AJ h (h0 o (by simp));have:=TP (l:=l) h1 fun x hx=>h0 x (by simp[hx])
   exact Vu.trans h h1 (N8 h o (h0 o (by simp))) (YI h o) this
theorem gB.xZ {p:Pn}(h:gB p):Go.AX.xZ p:=fun l hl=>by
 have h1:=(h.lg l hl).2.2;have h2:=Aw (h.lg l hl).1;unfold vQ;omega
theorem gB.ld {p:Pn}(h:gB p)(x:Int):NH (aW p x):=by
 have:=h.last x;exact⟨⟨this.1,this.2.1⟩,this.2.2.1⟩
theorem abI {a:Int}{l:Lg}{n:Nat}{s:Sp}:s∈JF a l n↔∃k:Nat,k<n∧s=⟨bV a k,l.id,bV k 1⟩:=by
 unfold JF;rw[List.mem_map];constructor
 ·rintro⟨k,hk,rfl⟩
  exact⟨k,List.mem_range.1 hk,rfl⟩
 rintro⟨k,hk,rfl⟩
 exact⟨k,List.mem_range.2 hk,rfl⟩
theorem JQ {p:Pn}(h:gB p){sure:Int}(hs:0≤sure){s:Sp}:∀{ids:List Int} {a:Int},(∀x∈ids,(aW p x).id=x)→ids.Nodup→0≤a→a+8*ids.length+8≤18446744073709551615 →
  (s∈eG sure a (ids.map (aW p))↔∃x∈ids,∃k:Nat,(k:Int)<Ht sure (aW p x)∧s=⟨a+fD (bH p) (pM ids x)+k,x,k+1⟩)
 |[],a,_,_,_,_=>by simp[eG]
 | x::r,a,hid,hnd,h0,h1=>by
   have hl:=h.ld x;have hb:=hl.last;have hsp:=FI hs hl;simp only[List.length_cons] at h1;have hadd:bV a (aW p x).last=a+(aW p x).last:=ny (by omega);rw[List.nodup_cons] at hnd;have ih:=JQ h hs (s:=s) (ids:=r) (a:=a+(aW p x).last) (fun y hy=>hid y (by simp[hy])) hnd.2 (by omega) (by omega);rw[List.map_cons,eG,hadd,List.mem_append,abI,ih];have ux:pM (x::r) x=[]:=by unfold pM;rw[List.takeWhile_cons,if_neg (by simp)]
   have uy:∀y∈r,pM (x::r) y=x::pM r y:=fun y hy=>by
    unfold pM;rw[List.takeWhile_cons,if_pos];have:x≠y:=fun e=>hnd.1 (e▸hy)
    simpa using this
   constructor
   ·rintro (⟨k,hk,e⟩|⟨y,hy,k,hk,e⟩)
    ·refine⟨x,by simp,k,by omega,?_⟩;rw[e,ux,hid x (by simp),ny (by omega),ny (by omega)];simp[fD]
    refine⟨y,by simp[hy],k,hk,?_⟩;rw[e,uy y hy];simp only[fD,Sp.mk.injEq,and_true];unfold bH;omega
   rintro⟨y,hy,k,hk,e⟩
   rcases List.mem_cons.1 hy with rfl|hy
   ·refine .inl ⟨k,by omega,?_⟩;rw[e,ux,hid y (by simp),ny (by omega),ny (by omega)];simp[fD]
   refine .inr ⟨y,hy,k,hk,?_⟩;rw[e,uy y hy];simp only[fD,Sp.mk.injEq,and_true];unfold bH;omega
theorem qC {p:Pn}(h:gB p){n:Int}(hn:dM p n=true):nU p n=true:=by
 simp only[dM,Bool.and_eq_true] at hn;simp only[nU,Bool.and_eq_true];exact⟨hn.1,hn.2,h.may⟩
theorem TQ {p:Pn}(h:gB p){n sure:Int}(hn:dM p n=true)(hs:0≤sure){s:Sp} :
  s∈jb p n sure↔∃x∈(aL p n).af,∃k:Nat,(k:Int)<Ht sure (aW p x)∧s=⟨pO p (aL p n) x+k,x,k+1⟩:=by
 obtain⟨g,g0,g1,_⟩:=h.ch _ (bW hn);have hgl:=g.len;have hg3:=g.e3;rw[Ao (qC h hn) h.xZ];exact JQ h hs (fun x hx=>by
  obtain⟨l,_,e,hf⟩:=h.named (bW hn) hx;unfold aW;rw[hf];exact e) (by rw[List.nodup_iff_pairwise_ne];exact g.mq.imp fun h=>by omega) g1 (by omega)
theorem Od {p:Pn}(h:gB p){n sure o:Int}(hn:dM p n=true)(hs:0≤sure){s:Sp}:qm p n sure o=(s,0)↔s∈jb p n sure∧s.offset=o:=by
 have hh:=qC h hn;have h0:=(h.ch _ (bW hn)).2.2.1;constructor
 ·intro hf;unfold qm zb at hf;rw[if_pos hh] at hf;split at hf
  ·rename_i x hx;have:=(Prod.mk.inj hf).1;subst this;exact⟨List.mem_of_find?_eq_some hx,by simpa using List.find?_some hx⟩
  have:=(Prod.mk.inj hf).2;omega
 rintro⟨hm,e⟩
 obtain⟨i,hi,rfl⟩:=List.getElem_of_mem hm;have:=Yl hh h.xZ h0 hs i hi;rw[Ap hh h.xZ h0 hs i hi] at e;rw[←e];exact this
theorem Oe {p q:Pn}(hp:gB p)(hq:gB q)(h:Vu p q)(ho:wB p q){n sure o:Int}(hn:dM p n=true)(hs:0≤sure){s:Sp}(hf:qm p n sure o=(s,0))(hge:(aL q n).first≤o)
  (hop:∀x,fK p n=some x→s.aY=x.id→∃y,aR q x.id=some y∧(y.closed=1→(if 8<sure then 8 else sure)≤y.last)):qm q n sure o=(s,0):=by
 have hnq:dM q n=true:=by unfold dM at hn ⊢;rw[h.len];exact hn
 rw[Od hp hn hs] at hf;rw[Od hq hnq hs];obtain⟨hm,e⟩:=hf;refine⟨?_,e⟩;rw[TQ hp hn hs] at hm;obtain⟨x,hx,k,hk,hsx⟩:=hm;obtain⟨hi,ei⟩:=gW hn;obtain⟨hj,ej⟩:=gW hnq;have hc:=h.ch _ hi hj;rw[←ei,←ej] at hc;obtain⟨l,_,el,f1⟩:=hp.named (bW hn) hx;have e1:aW p x=l:=by unfold aW;rw[f1];rfl
 have hsl:s.aY=x:=by rw[hsx]
 have hso:s.offset=pO p (aL p n) x+k:=by rw[hsx]
 have hcl:=(hp.last x).2.2.2;have hin:x∈(aL q n).af:=by
  refine Classical.byContradiction fun hno=>?_
  rcases hcl with hc0|hc1
  ·-- what is open is the last one
   have hop2:fK p n=some l:=by
    have h2:((aL p n).af.getLast?)=some x:=by
     have g:=(hp.ch _ (bW hn)).1.FW;have YJ:∀{ids:List Int},iO p ids=true→x∈ids→ids.getLast? = some x:=by
      intro ids;induction ids with
      |nil=>intro _ h;cases h
      | cons y r ih=>
        intro h1 h2;cases r with
        |nil=>rw[List.mem_singleton] at h2;subst h2;rfl
        | cons z r=>
          simp only[iO,Bool.and_eq_true] at h1;rcases List.mem_cons.1 h2 with rfl|h2
          ·exfalso;have h3:=h1.1;rw[f1] at h3;rw[e1] at hc0;simp[hc0] at h3
          rw[List.getLast?_cons_cons];exact ih (by simp only[iO,Bool.and_eq_true];exact h1.2) h2
     exact YJ g hx
    unfold fK gN;rw[if_pos hn,h2];simp only;rw[f1];simp only;rw[e1] at hc0;rw[if_pos (by simpa using hc0)]
   obtain⟨y,hy,_⟩:=hop l hop2 (by rw[hsl,el]);rw[el] at hy;obtain⟨hy1,TN⟩:=fT hy;have hyn:x∈gT q:=hq.perm.mem_iff.2 (by rw[←TN];exact List.mem_map.2 ⟨y,hy1,rfl⟩);obtain⟨c,hcm,hxc⟩:=List.mem_flatMap.1 hyn;obtain⟨j,hjc,rfl⟩:=List.getElem_of_mem hcm;have hjp:j<p.channels.length:=by rw[←h.len];exact hjc
   rcases (h.ch j hjp hjc).sub x hxc with h3|h3
   ·rw[ei] at hx;have:=hp.once hi hjp hx h3;subst this;rw[ej] at hno;exact hno hxc
   have:=Rt hp (bW hn) hx;omega
  have:=hc.gone x hx hno hc1;rw[e1] at hc1;have hk2:Ht sure (aW p x)=bH p x:=pG (by rw[e1,hc1];decide);rw[hk2] at hk;omega
 rw[TQ hq hnq hs];refine⟨x,hin,k,?_,by rw[hc.kept x hx hin];exact hsx⟩;obtain⟨m,_,em,f2⟩:=hq.named (bW hnq) hin;have e2:aW q x=m:=by unfold aW;rw[f2];rfl
 have hL:=ho.lg x l m f1 f2;rcases hcl with hc0|hc1
 ·have ajK:Ht sure (aW p x)=if 8<sure then 8 else sure:=by unfold Ht;rw[if_pos (by simpa using hc0)]
  rw[ajK] at hk;unfold Ht;by_cases hq0:(aW q x).closed=0
  ·rw[if_pos (by simpa using hq0)];exact hk
  rw[if_neg (by simpa using hq0)];have hq1:(aW q x).closed=1:=by
   rcases (hq.last x).2.2.2 with h4|h4
   ·exact absurd h4 hq0
   exact h4
  have hop2:fK p n=some l:=by
   have h2:((aL p n).af.getLast?)=some x:=by
    have g:=(hp.ch _ (bW hn)).1.FW;have YJ:∀{ids:List Int},iO p ids=true→x∈ids→ids.getLast? = some x:=by
     intro ids;induction ids with
     |nil=>intro _ h;cases h
     | cons y r ih=>
       intro h1 h2;cases r with
       |nil=>rw[List.mem_singleton] at h2;subst h2;rfl
       | cons z r=>
         simp only[iO,Bool.and_eq_true] at h1;rcases List.mem_cons.1 h2 with rfl|h2
         ·exfalso;have h3:=h1.1;rw[f1] at h3;rw[e1] at hc0;simp[hc0] at h3
         rw[List.getLast?_cons_cons];exact ih (by simp only[iO,Bool.and_eq_true];exact h1.2) h2
    exact YJ g hx
   unfold fK gN;rw[if_pos hn,h2];simp only;rw[f1];simp only;rw[e1] at hc0;rw[if_pos (by simpa using hc0)]
  obtain⟨y,hy,TN⟩:=hop l hop2 (by rw[hsl,el]);rw[el,f2] at hy;have:=Option.some.inj hy;subst this;rw[e2] at hq1;have:=TN hq1;rw[e2];omega
 rw[e1] at hc1 hk;obtain⟨c1,c2,_⟩:=hL.ec hc1;rw[e2,pG (by omega),c2];rw[pG (by omega)] at hk;exact hk
open Go.ChangeShapes Go.WideShapes Go.RowKit
section
variable {H:Type}{enc:TypeId×Value→H}{P:Program}
theorem yB (hl:laidOutB P=true){W W':World}(hb:Below W.heap.size W W'){sp:Nat→Bool}:∀{ts:List TypeId} {vs:List Value} {ds:List (DataW H)} {ps:List MemPlace},
  (∀t∈ts,P.readableRec t=true∧t<P.types.size)→DataW.TrodAll enc P W 0 (fun _=>true) true ts vs ds ps→(∀p∈ps,p.block<W.heap.size)→(∀p∈ps,sp p.block=true) →
  DataW.TrodAll enc P W' 0 sp true ts vs ds ps
 |[],[],[],_,_,h,_,_=>h
 |[],_::_,_,_,_,h,_,_=>h.elim
 |[],[],_::_,_,_,h,_,_=>h.elim
 |_::_,[],_,_,_,h,_,_=>h.elim
 |_::_,_::_,[],_,_,h,_,_=>h.elim
 | t::ts,v::vs,d::ds,_,hr,h,hlt,hsp=>by
   obtain⟨p,q,h1,h2,rfl⟩:=h;have ht:=hr t (by simp);exact⟨p,q,WideElems.Trod_stays hl ht.1 ht.2 h1 (fun x hx=>hb.same (hlt x (by simp[hx]))) (fun x hx=>hsp x (by simp[hx])),
    yB hl hb (fun t' ht'=>hr t' (by simp[ht'])) h2 (fun x hx=>hlt x (by simp[hx])) (fun x hx=>hsp x (by simp[hx])),rfl⟩
theorem Nv {f:FuncId}{fn:Func}{s:ChangeSpec}{W:World}{args:Array Value}{ds gs:List (DataW H)}{before:List MemPlace}{pvs:List PV}{bt:TypeId}
  (hl:laidOutB P=true) (hrd:(fn.params.toList.all fun t=>P.readableRec t&&decide (t<P.types.size))=true) (hrt:fn.resultTypes = #[bt]) (hbt:P.underlying bt=some .bool)
  (hvars:s.vars=[]) (hfn:s.fn H (ds++gs)={ results:=[.lit (.bool true)],args:=ds })
  (hW:DataW.Whole enc P fn.params.toList s.vars false W args.toList ds gs before) (hc:bC P f pvs (.sc (.bool true))) (hr:dX N0 W pvs args.toList) :
  Calls P f args W fun e W'=>∃v,e=.returned v∧s.post enc P fn false true false false W args v W':=by
 refine (hc.2 N0 W args (fun r h=>h.elim) hr).mono fun e W' ⟨v,r,he,hq,hrep,hsame⟩=>⟨v,he,?_⟩
 subst hq;simp only[bE] at hrep;subst hrep;have hb:Below W.heap.size W W':=⟨hsame.os,hsame.tape,hsame.output,hsame.size,fun k hk=>hsame.keep k hk id⟩;have hold:∀p∈before,(fun b=>decide (b<W.heap.size)) p.block=true:=fun p hp=>by simpa using hW.lt p hp
 have aeE:∀p∈before,p.block<W.heap.size:=fun p hp=>hW.lt p hp
 have hW0:=hW;obtain⟨p,q,hA,hV,rfl,hz,hn⟩:=hW;rw[hvars] at hV;obtain⟨rfl,rfl⟩:=trodVars_none hV;simp only[List.append_nil] at aeE hold hz hn hW0 hfn;have hres:∀(b:Nat) (sp:Nat→Bool) (hd:Bool),DataW.TrodAll enc P W' b sp hd fn.resultTypes.toList ((Value.bool true).resultList fn.resultTypes.size) (s.fn H (ds++[])).results []:=by
  intro b sp hd;simp only[List.append_nil,hfn,hrt];exact trodAll_mk1 (shut_bool hbt true)
 have hargs:∀sp:Nat→Bool,(∀x∈p,sp x.block=true)→DataW.TrodAll enc P W' 0 sp true fn.params.toList args.toList (s.fn H (ds++[])).args p:=by
  intro sp hsp;simp only[List.append_nil,hfn];exact yB hl hb (fun t ht=>by simpa using List.all_eq_true.1 hrd t ht) hA aeE hsp
 have hvv:∀sp:Nat→Bool,DataW.TrodVars enc P W' sp s.vars (s.fn H (ds++[])).vars []:=by
  intro sp;simp only[List.append_nil,hfn,hvars];exact rfl
 refine⟨ds,[],p,[],p,[],hW0,hres _ _ _,hargs _ hold,hvv _,hb.frame _,fun _=>?_⟩;refine⟨ok_one hrt rfl (okWide_bool_mk hbt true),_,_,([]++p)++[],⟨[]++p,[],trodAll_append (hargs _ (fun _ _=>rfl)) (hres _ _ _),hvv _,rfl,?_,?_⟩,?_⟩
 ·intro b off hp;simp only[List.nil_append,List.append_nil] at hp;have:=aeE _ hp;rw[hb.frozen (p:=⟨b,off,none⟩) this];exact hz b off hp
 ·intro ha;simpa using hn ha
 intro x hx _;simpa using hx
end
theorem Ag {α:Type}{c:α→List PV}{R:α→Prop}:∀{rows:List (List PV)},(∀r∈rows,∃x:α,r=c x∧R x)→∃l:List α,rows=l.map c∧∀x∈l,R x
 |[],_=>⟨[],rfl,by simp⟩
 | r::rows,h=>by
   obtain⟨x,rfl,hx⟩:=h r (by simp);obtain⟨l,rfl,hl⟩:=Ag (rows:=rows) (c:=c) (R:=R) fun r hr=>h r (by simp[hr])
   exact⟨x::l,rfl,by simpa using ⟨hx,hl⟩⟩
theorem wf_i64 {i:Int}(h:(Lit.int .i64 i).wf=true) : -9223372036854775808≤i∧i≤9223372036854775807:=by
 simpa[Lit.wf,IntKind.min,IntKind.max,IntKind.signed,IntKind.bits] using h
theorem wf_u64 {i:Int}(h:(Lit.int .u64 i).wf=true):0≤i∧i≤18446744073709551615:=by
 simpa[Lit.wf,IntKind.min,IntKind.max,IntKind.signed,IntKind.bits] using h
end Go.AX
end
