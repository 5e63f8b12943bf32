/-
  Conditions: none. A framework for walks: abstract values, memory, and conditions that suffice; the chapters in plain terms.
-/
import Derived.Test.YtiagceoepkaeoaaGreatAf
import Derived.Test.YtiagceoepkaeoaaGreatAe
import Derived.ProofKit
import Derived.OpenShut
set_option linter.unusedSectionVars false
set_option linter.unusedVariables false
set_option linter.unusedSimpArgs false
section
namespace Go.AX
theorem FB:∀{l:List Pa} {w:Int},(l.map (·.who)).Pairwise (· < ·)→l.length≤(l.filter fun x=>!(x.who==w)).length+1
 |[],_,_=>by simp
 | x::l,w,h=>by
   rw[List.map_cons,List.pairwise_cons] at h;have ih:=FB (w:=w) h.2;rw[List.filter_cons];by_cases e:x.who=w
   ·have:l.filter (fun x=>!(x.who==w))=l:=by
     rw[List.filter_eq_self];intro y hy;have:=h.1 y.who (List.mem_map.2 ⟨y,hy,rfl⟩);simp;omega
    have e2:(!(x.who==w))=false:=by simp[e]
    rw[e2,this];simp
   have e2:(!(x.who==w))=true:=by simp[e]
   rw[e2];simp only[if_true,List.length_cons];omega
theorem jY (l:List Pa)(o:aV)(out:Oc):(bT l o out).Perm (l.filter (fun x=>!(x.who==o.who))++[⟨o.who,o.inc,o.n,out⟩]):=by
 rw[Nl];exact qy Pa.who _
theorem vW {p:Pn}(h:gF p)(o:aV)(out:Oc):p.past.length≤(bT p.past o out).length∧(bT p.past o out).length≤p.past.length+1:=by
 have:=(jY p.past o out).length_eq;rw[List.length_append,List.length_singleton] at this;have h1:=FB (w:=o.who) h.p2;have h2:=List.length_filter_le (fun x:Pa=>!(x.who==o.who)) p.past;omega
theorem Ia {p:Pn}(h:gF p){o:aV}(hc:(aS p o).2.code≠0) :
  ((aS p o).1.version=p.version∨((aS p o).1.version=dO p.version 1∧p.past.length≤(aS p o).1.past.length∧(aS p o).1.past.length≤p.past.length+1)) ∧
  { (aS p o).1 with version:=p.version,past:=p.past }=p:=by
 rcases gK p o with ⟨e,_⟩|⟨_,hm,_,hv,_,e⟩
 ·rw[e];exact⟨.inl rfl,rfl⟩
 rw[e,gP] at hc ⊢;have hk:=Nr (l7 hm) hc;have h2:=vW h o (fB p o).2;refine⟨.inr ⟨rfl,h2⟩,?_⟩;show ({ (fB p o).1 with version:=p.version,past:=p.past }:Pn)=p
 rw[hk]
theorem QH {p:Pn}{o:aV}(h:gJ p o=true):(aS p o).1=p:=by
 rcases gK p o with ⟨e,_⟩|⟨_,_,_,_,hs,_⟩
 ·exact e
 rw[h] at hs;cases hs
structure Az (p q:Pn)(o:aV):Prop where
 len:q.channels.length=p.channels.length
 ch:∀i:Nat,i<p.channels.length→(i:Int)+1≠o.channel→q.channels[i]? = p.channels[i]?
 lg:∀i (hi:i<p.channels.length),(i:Int)+1≠o.channel→∀id∈p.channels[i].af,(bg q id).map BR=(bg p id).map BR∧(o.kind≠12→bg q id=bg p id)
theorem lJ (p:Pn)(o:aV):Az p p o:=⟨rfl,fun _ _ _=>rfl,fun _ _ _ _ _=>⟨rfl,fun _=>rfl⟩⟩
theorem zi {p:Pn}{n:Int}{c:Ch}{i:Nat}(hn:fU p n=true)(hne:(i:Int)+1≠n):(eO p n c).channels[i]? = p.channels[i]? :=by
 unfold eO;simp only[fU,Bool.and_eq_true,decide_eq_true_eq] at hn;rw[List.getElem?_set_ne (by omega)]
theorem xI {p:Pn}{o:aV}{c:Ch}(hn:fU p o.channel=true):Az p (eO p o.channel c) o:=
 ⟨by simp[eO],fun i hi hne=>zi hn hne,fun i hi hne id hid=>⟨rfl,fun _=>rfl⟩⟩
theorem Ns {p:Pn}(h:gF p){o:aV}(hn:fU p o.channel=true){i:Nat}(hi:i<p.channels.length)(hne:(i:Int)+1≠o.channel){id:Int}(hid:id∈p.channels[i].af):id∉(bq p o.channel).af:=by
 obtain⟨hj,e⟩:=iR hn;intro h2;rw[e] at h2;have:=h.once hi hj hid h2;simp only[fU,Bool.and_eq_true,decide_eq_true_eq] at hn;omega
theorem KL {p:Pn}{l:Lg}{id:Int}(h:id≠l.id):bg (kN p l) id=bg p id:=by
 rw[jN];cases hf:bg p id with
 |none=>rfl
 | some x=>
   have:=(gZ hf).2;simp only[Option.map_some];rw[if_neg];rw[beq_iff_eq];omega
theorem Ju {p:Pn}(h:gF p){o:aV}(hn:fU p o.channel=true){y:Option Lg×Oc}(hy:∀l,y.1=some l→l.id∈(bq p o.channel).af):Az p (jV p y).1 o:=by
 unfold jV;cases hy1:y.1 with
 |none=>exact lJ p o
 | some l=>
   have hm:=hy l hy1;refine⟨rfl,fun _ _ _=>rfl,fun i hi hne id hid=>?_⟩;have hne2:id≠l.id:=fun e=>Ns h hn hi hne hid (by rw[e];exact hm)
   simp only;rw[KL hne2];exact⟨rfl,fun _=>rfl⟩
theorem UK {p:Pn}(h:gF p){o:aV}(ho:Fy o)(hn:o.kind≠12→fU p o.channel=true):Az p (fH p o).1 o:=by
 refine oU (P:=fun y=>Az p y.1 o) (fun e=>?_) (fun e=>?_) (fun e=>?_) (fun e=>?_) (fun e=>?_) (fun e=>?_) (fun e=>?_) (fun e=>?_) (fun e a ha=>?_) (fun e=>?_) (fun e=>?_)
 ·exact xI (hn (by omega))
 ·exact xI (hn (by omega))
 ·exact lJ p o
 ·have hn:=hn (by omega);unfold gW;split
  ·rename_i y hy;refine⟨by simp[eO],fun i hi hne=>zi hn hne,fun i hi hne id hid=>?_⟩;obtain⟨l,_,_,hf⟩:=h.named (List.getElem_mem hi) hid;have:bg { eO p o.channel y.1 with af:=p.af++[y.2.1],next:=dO p.next 1 } id=bg p id:=by
    rw[hf];exact tQ hf
   exact⟨by rw[this],fun _=>this⟩
  exact lJ p o
 ·have hn:=hn (by omega);refine Ju h hn fun l' hl'=>?_
  unfold dU at hl';split at hl'
  ·cases hl'
  rename_i l hl;obtain⟨hop,hid⟩:=oD h hn hl;obtain⟨hm,hg,_,_⟩:=oC h hn hop;simp only at hl';split at hl'
  ·cases hl'
  split at hl'
  ·cases hl'
  have:=Option.some.inj hl';subst this;exact List.mem_of_getLast? hg
 ·have hn:=hn (by omega);refine Ju h hn fun l' hl'=>?_
  unfold dV at hl';split at hl'
  ·cases hl'
  rename_i l hl;obtain⟨hop,hid⟩:=oD h hn hl;obtain⟨hm,hg,_,_⟩:=oC h hn hop;split at hl'
  ·cases hl'
  have:=Option.some.inj hl';subst this;exact List.mem_of_getLast? hg
 ·exact xI (hn (by omega))
 ·have hn:=hn (by omega);unfold iD;split
  ·rename_i y hy;unfold nE at hy;simp only at hy;split at hy
   ·cases hy
   have:=Option.some.inj hy;subst this;refine⟨by simp[eO],fun i hi hne=>zi hn hne,fun i hi hne id hid=>?_⟩;have hno:=Ns h hn hi hne hid;have:bg { eO p o.channel { bq p o.channel with af:=(bq p o.channel).af.drop (fG p (bq p o.channel).trim (bq p o.channel).af (bq p o.channel).first).1,first:=(fG p (bq p o.channel).trim (bq p o.channel).af (bq p o.channel).first).2,seen:=o.seen } with af:=p.af.filter fun l=>!((bq p o.channel).af.take (fG p (bq p o.channel).trim (bq p o.channel).af (bq p o.channel).first).1).contains l.id } id=bg p id:=by
    unfold bg;refine qA fun l _ e=>?_
    rw[e];have:id∉(bq p o.channel).af.take (fG p (bq p o.channel).trim (bq p o.channel).af (bq p o.channel).first).1:=fun hx=>hno (List.mem_of_mem_take hx)
    simp[this]
   exact⟨by rw[this],fun _=>this⟩
  exact lJ p o
 ·exact xI (hn (by omega))
 ·exact lJ p o
 have h12:o.kind=12:=by
  have a1:=ho.k1;have a2:=ho.k2;have:=e o.kind a1;omega
 unfold jV fA;split
 ·rename_i l' hl';split at hl'
  ·cases hl'
  rename_i l hl;have hm:=List.mem_of_find?_eq_some hl;split at hl'
  ·cases hl'
  split at hl'
  ·have:=Option.some.inj hl';subst this;refine⟨rfl,fun _ _ _=>rfl,fun i hi hne id hid=>⟨?_,fun e=>absurd h12 e⟩⟩;simp only;rw[jN];cases hf:bg p id with
   |none=>rfl
   | some x=>
     simp only[Option.map_some];congr 1
     by_cases ex:(x.id==l.id)=true
     ·rw[if_pos ex];rw[beq_iff_eq] at ex;obtain⟨_,Qy⟩:=gZ hf;have h3:=h.find hm;rw[←ex,Qy,hf] at h3;have:=Option.some.inj h3;subst this;rfl
     rw[if_neg ex]
  cases hl'
 exact lJ p o
theorem XU {p:Pn}(h:gF p){o:aV}(ho:Fy o):Az p (fB p o).1 o:=by
 unfold fB;split
 ·exact lJ p o
 rename_i hle;exact UK h ho (qB ho hle)
theorem zl {p:Pn}(h:gF p)(o:aV):Az p (aS p o).1 o:=by
 rcases gK p o with ⟨e,_⟩|⟨_,hm,_,hv,_,e⟩
 ·rw[e];exact lJ p o
 rw[e,gP];have:=XU h (l7 hm);exact⟨this.len,this.ch,fun i hi hne id hid=>this.lg i hi hne id hid⟩
theorem told_none {l:List Pa}{o:aV}(h:∀x∈l,x.who≠o.who):kg l o=none:=by
 induction l with
 |nil=>rfl
 | cons x l ih=>
   unfold kg;rw[if_pos (h x (by simp))];exact ih fun y hy=>h y (by simp[hy])
theorem vY {l:List Pa}{o:aV}{x:Pa}(hx:x∈l)(hw:x.who=o.who)(hp:(l.map (·.who)).Pairwise (· < ·)):kg l o=if x.inc=o.inc∧x.n=o.n then some (some x.out) else if x.inc>o.inc∨(x.inc=o.inc∧x.n>o.n) then some none else none:=by
 induction l with
 |nil=>cases hx
 | cons y l ih=>
   rw[List.map_cons,List.pairwise_cons] at hp;rcases List.mem_cons.1 hx with rfl|hx
   ·unfold kg;rw[if_neg (by simpa using hw)];have hn:kg l o=none:=told_none fun z hz=>by
     have:=hp.1 z.who (List.mem_map.2 ⟨z,hz,rfl⟩);omega
    rw[hn]
   have hl:=hp.1 x.who (List.mem_map.2 ⟨x,hx,rfl⟩);unfold kg;rw[if_pos (by omega)];exact ih hx hp.2
theorem Nt (l:List Pa)(o:aV)(out:Oc):(⟨o.who,o.inc,o.n,out⟩:Pa)∈bT l o out:=(jY l o out).mem_iff.2 (by simp)
theorem Jv {l:List Pa}{o:aV}{out:Oc}{x:Pa}(hx:x∈l)(hw:x.who≠o.who):x∈bT l o out:=(jY l o out).mem_iff.2 (by
 rw[List.mem_append];exact .inl (List.mem_filter.2 ⟨hx,by simpa using hw⟩))
theorem QI {p:Pn}{o:aV}{x:Pa}(hx:x∈p.past)(hw:x.who≠o.who):x∈(aS p o).1.past:=by
 rcases gK p o with ⟨e,_⟩|⟨_,hm,_,hv,_,e⟩
 ·rw[e];exact hx
 rw[e,gP];exact Jv hx hw
theorem UL {p:Pn}{o:aV}(hne:(aS p o).1≠p):(⟨o.who,o.inc,o.n,(aS p o).2⟩:Pa)∈(aS p o).1.past∧jW o=true:=by
 rcases gK p o with ⟨e,_⟩|⟨_,hm,_,hv,_,e⟩
 ·exact absurd e hne
 rw[e,gP];exact⟨Nt _ _ _,hm⟩
theorem Db {p:Pn}(h:gF p){o:aV}{out:Oc}(hx:(⟨o.who,o.inc,o.n,out⟩:Pa)∈p.past)(hm:jW o=true):aS p o=(p,out):=by
 have:=vY (o:=o) hx rfl h.p2;rw[if_pos ⟨rfl,rfl⟩] at this;unfold aS;rw[h.may,hm,this];rfl
theorem UM {p:Pn}(h:gF p){o:aV}{x:Pa}(hx:x∈p.past)(hw:x.who=o.who)(hn:x.inc>o.inc∨(x.inc=o.inc∧x.n>o.n))(hm:jW o=true):aS p o=(p,ig 9):=by
 have:=vY (o:=o) hx hw h.p2;rw[if_neg (by omega),if_pos hn] at this;unfold aS;rw[h.may,hm,this];rfl
theorem UN {o:aV}{i n:Int}(h:jW o=true)(h1:1≤i)(h2:i≤4611686018427387903)(h3:1≤n)(h4:n≤4611686018427387903):jW { o with inc:=i,n:=n }=true:=by
 unfold jW at h ⊢;simp only[Bool.and_eq_true,decide_eq_true_eq,List.all_cons,List.all_nil] at h ⊢;obtain⟨a1,a2,a3,a4,a5,⟨a6,a7,a8⟩,a9⟩:=h;refine⟨a1,a2,h1,h3,?_,⟨by rw[l5];exact h2,by rw[l5];exact h4,a8⟩,a9⟩;unfold fQ at a5 ⊢;rw[aV.mk.injEq] at a5 ⊢;exact⟨rfl,rfl,rfl,a5.2.2.2⟩
structure Nu (p q:Pn)(a b:Ch):Prop where
 e:a.aY≤b.aY
 t:a.trim≤b.trim
 f:a.first≤b.first
 en:dL p a≤dL q b
 ow:b.aY=a.aY→b.owner=a.owner∧b.inc=a.inc∧a.eB≤b.eB
structure SI (a b:Lg):Prop where
 ew:b.w=a.w
 ea:b.a=a.a
 ec:a.closed=1→b.closed=1∧b.last=a.last∧b.aA.length=a.aA.length
structure xJ (p q:Pn):Prop where
 v:p.version≤q.version
 n:p.next≤q.next
 len:q.channels.length=p.channels.length
 ch:∀i (h1:i<p.channels.length) (h2:i<q.channels.length),Nu p q p.channels[i] q.channels[i]
 lg:∀id a b,bg p id=some a→bg q id=some b→SI a b
 old:∀l∈q.af,bg p l.id=none→p.next≤l.id
theorem Nu.refl (p:Pn)(a:Ch):Nu p p a a:=⟨Int.le_refl _,Int.le_refl _,Int.le_refl _,Int.le_refl _,fun _=>⟨rfl,rfl,Int.le_refl _⟩⟩
theorem SI.refl (a:Lg):SI a a:=⟨rfl,rfl,fun h=>⟨h,rfl,rfl⟩⟩
theorem kP {p:Pn}{l:Lg}(hl:l∈p.af):bg p l.id≠none:=by
 unfold bg;rw[Ne,List.find?_eq_none];intro h;have:=h l hl;simp at this
theorem xJ.refl (p:Pn):xJ p p:=⟨Int.le_refl _,Int.le_refl _,rfl,fun i h1 h2=>Nu.refl p _,fun id a b h1 h2=>by rw[h1] at h2;have:=Option.some.inj h2;subst this;exact SI.refl _,fun l hl h=>absurd h (kP hl)⟩
theorem Nu.trans {p q r:Pn}{a b c:Ch}(h1:Nu p q a b)(h2:Nu q r b c):Nu p r a c:=by
 have a1:=h1.e;have a2:=h2.e;have b1:=h1.t;have b2:=h2.t;have c1:=h1.f;have c2:=h2.f;have d1:=h1.en;have d2:=h2.en;refine⟨by omega,by omega,by omega,by omega,fun e=>?_⟩;obtain⟨x1,x2,x3⟩:=h1.ow (by omega);obtain⟨y1,y2,y3⟩:=h2.ow (by omega);exact⟨by rw[y1,x1],by rw[y2,x2],by omega⟩
theorem SI.trans {a b c:Lg}(h1:SI a b)(h2:SI b c):SI a c:=by
 refine⟨by rw[h2.ew,h1.ew],by rw[h2.ea,h1.ea],fun e=>?_⟩;obtain⟨x1,x2,x3⟩:=h1.ec e;obtain⟨y1,y2,y3⟩:=h2.ec x1;exact⟨y1,by rw[y2,x2],by rw[y3,x3]⟩
theorem xJ.trans {p q r:Pn}(hp:gF p)(h1:xJ p q)(h2:xJ q r):xJ p r:=by
 have hn:=h1.n;refine⟨Int.le_trans h1.v h2.v,Int.le_trans h1.n h2.n,h2.len.trans h1.len,fun i a b=>?_,fun id a c ha hc=>?_,fun l hl hno=>?_⟩
 ·have hq:i<q.channels.length:=by rw[h1.len];exact a
  exact (h1.ch i a hq).trans (h2.ch i hq b)
 ·cases hq:bg q id with
  |some b=>exact (h1.lg id a b ha hq).trans (h2.lg id b c hq hc)
  | none=>
    exfalso;obtain⟨m1,m2⟩:=gZ ha;obtain⟨m3,m4⟩:=gZ hc;have:=h2.old c m3 (by rw[m4];exact hq);have:=(hp.lg a m1).2.1;omega
 cases hq:bg q l.id with
 | some b=>
   obtain⟨m1,m2⟩:=gZ hq;have:=h1.old b m1 (by rw[m2];exact hno);omega
 | none=>
   have:=h2.old l hl hq;omega
theorem XV {L:List Ch}{k i:Nat}{c:Ch}{P:Ch→Ch→Prop}(h1:i<L.length)(h2:i<(L.set k c).length)(hs:∀(hk:k<L.length),P L[k] c)(ho:P L[i] L[i]):P L[i] (L.set k c)[i]:=by
 rw[List.getElem_set];split
 ·rename_i e;subst e;exact hs h1
 exact ho
theorem Ef {p:Pn}{n:Int}{c:Ch}(hn:fU p n=true)(hc:Nu p p (bq p n) c):xJ p (eO p n c):=by
 obtain⟨hi,e⟩:=iR hn;refine⟨Int.le_refl _,Int.le_refl _,by simp[eO],fun i h1 h2=>?_,fun id a b ha hb=>?_,fun l hl h=>absurd h (kP hl)⟩
 ·have hc2:Nu p (eO p n c) (bq p n) c:=⟨hc.e,hc.t,hc.f,hc.en,hc.ow⟩;refine XV (P:=fun a b=>Nu p (eO p n c) a b) h1 h2 (fun hk=>?_) ⟨Int.le_refl _,Int.le_refl _,Int.le_refl _,Int.le_refl _,fun _=>⟨rfl,rfl,Int.le_refl _⟩⟩;rw[e] at hc2;exact hc2
 have hb2:bg p id=some b:=hb;rw[ha] at hb2;have:=Option.some.inj hb2;subst this;exact SI.refl _
theorem SK {p:Pn}(h:gF p){l l':Lg}(hl:l∈p.af)(h1:l'.id=l.id)(hL:SI l l')(he:∀c∈p.channels,dL p c≤dL (kN p l') c):xJ p (kN p l'):=by
 refine⟨Int.le_refl _,Int.le_refl _,rfl,fun i a b=>⟨Int.le_refl _,Int.le_refl _,Int.le_refl _,he _ (List.getElem_mem a),fun _=>⟨rfl,rfl,Int.le_refl _⟩⟩,fun id a b ha hb=>?_,fun x hx hno=>?_⟩
 ·rw[jN,ha] at hb;simp only[Option.map_some] at hb;have:=Option.some.inj hb;subst this;split
  ·rename_i e;rw[beq_iff_eq] at e;obtain⟨_,hid⟩:=gZ ha;have h3:=h.find hl;rw[←h1,←e,hid,ha] at h3;have:=Option.some.inj h3;subst this;exact hL
  exact SI.refl _
 exfalso;have hx2:x.id∈nL (kN p l'):=List.mem_map.2 ⟨x,hx,rfl⟩;rw[Fx] at hx2;obtain⟨y,hy,e⟩:=List.mem_map.1 hx2;exact kP hy (by rw[e];exact hno)
theorem Nv {p:Pn}(h:gF p){l l':Lg}(hl:l∈p.af)(h1:l'.id=l.id)(hL:SI l l')(h3:BR l'=BR l):xJ p (kN p l'):=by
 refine SK h hl h1 hL fun c hc=>Int.le_of_eq (iJ fun id hid=>?_).symm
 rw[jN];cases hf:bg p id with
 |none=>rfl
 | some x=>
   simp only[Option.map_some];split
   ·rename_i e;rw[beq_iff_eq] at e;obtain⟨hm,Qy⟩:=gZ hf;have:bg p l.id=some l:=h.find hl;rw[←h1,←e,Qy,hf] at this;rw[h3,Option.some.inj this]
   rfl
section
variable {p:Pn}(h:gF p){o:aV}(ho:Fy o)(hn:fU p o.channel=true)
include h hn
theorem aaH:xJ p (eO p o.channel (mE (bq p o.channel) o).1):=by
 have hc:=h.ch _ (fJ hn);have hE:∀c:Ch,c.af=(bq p o.channel).af→c.first=(bq p o.channel).first→dL p (bq p o.channel)≤dL p c:=fun c h1 h2=>by unfold dL;rw[h1,h2];exact Int.le_refl _
 refine Ef hn ?_;unfold mE;split
 ·exact Nu.refl p _
 split
 ·exact Nu.refl p _
 rename_i hne;have he1:=hc.1.e1;have he0:=hc.2.1;have hne2:(bq p o.channel).aY≠4611686018427387903:=by simpa using hne
 have e:IntKind.u64.wrap ((bq p o.channel).aY+1)=(bq p o.channel).aY+1:=vN (by omega) (by omega);rw[e];exact⟨by show _≤(bq p o.channel).aY+1;omega,Int.le_refl _,Int.le_refl _,hE _ rfl rfl,fun e2=>by have e2:(bq p o.channel).aY+1=(bq p o.channel).aY:=e2;omega⟩
theorem XW:xJ p (eO p o.channel (vS (bq p o.channel) o)):=by
 refine Ef hn ⟨Int.le_refl _,Int.le_refl _,Int.le_refl _,Int.le_refl _,fun _=>⟨rfl,rfl,?_⟩⟩;unfold vS;simp only;split<;>omega
theorem aaI:xJ p (eO p o.channel (ko p (bq p o.channel) o).1):=by
 refine Ef hn ?_;unfold ko;generalize (if (gX p o.channel).isSome then IntKind.u64.wrap (kV p o.channel+8) else kV p o.channel)=m;split
 ·exact Nu.refl p _
 refine⟨Int.le_refl _,?_,Int.le_refl _,Int.le_refl _,fun _=>⟨rfl,rfl,Int.le_refl _⟩⟩;show _≤nM _ _
 unfold nM;split<;>omega
theorem adX (a:Int):xJ p (eO p o.channel (Au (bq p o.channel) o a).1):=
 Ef hn ⟨Int.le_refl _,Int.le_refl _,Int.le_refl _,Int.le_refl _,fun _=>⟨rfl,rfl,Int.le_refl _⟩⟩
theorem UO:xJ p (jV p (dU p o)).1:=by
 unfold jV dU;split
 ·rename_i l' hl';split at hl'
  ·cases hl'
  rename_i l hl;obtain⟨hop,hid⟩:=oD h hn hl;obtain⟨hm,hg,h0,_⟩:=oC h hn hop;simp only at hl';split at hl'
  ·cases hl'
  split at hl'
  ·cases hl'
  have:=Option.some.inj hl';subst this;exact Nv h hm rfl ⟨rfl,rfl,fun e=>by rw[h0] at e;omega⟩ rfl
 exact xJ.refl p
theorem UQ (h0:0≤o.at_)(ha:o.at_≤4611686018427387903):xJ p (jV p (dV p (bq p o.channel) o)).1:=by
 unfold jV dV;split
 ·rename_i l' hl';split at hl'
  ·cases hl'
  rename_i l hl;obtain⟨hop,hid⟩:=oD h hn hl;obtain⟨hm,hg,hc0,hf⟩:=oC h hn hop;split at hl'
  ·cases hl'
  rename_i Aw;have:=Option.some.inj hl';subst this;simp only[Bool.or_eq_true,Bool.not_eq_true',decide_eq_true_eq,not_or,Bool.not_eq_false] at Aw;obtain⟨hmf,ha8,htr⟩:=Aw;refine SK h hm rfl ⟨rfl,rfl,fun e=>by rw[hc0] at e;omega⟩ fun c hc=>?_
  have el:l.last=0:=by
   have h1:=Fw (h.lg l hm).1;have h2:=(h.lg l hm).2.2;omega
  obtain⟨q,hq⟩:∃q,q=kN p { l with aA:=o.aA,closed:=1,last:=o.at_ }:=⟨_,rfl⟩;rw[←hq];have hb:∀x:Int,0≤dJ p x∧dJ p x≤8:=fun x=>⟨(h.last x).1,(h.last x).2.1⟩
  have hbq:∀x:Int,dJ p x≤dJ q x∧dJ q x≤8:=fun x=>by
   unfold dJ dm;rw[hq,jN];cases WI:bg p x with
   |none=>simp[UB]
   | some y=>
     simp only[Option.map_some,Option.getD_some];have hx:=hb x;unfold dJ dm at hx;rw[WI] at hx;simp only[Option.getD_some] at hx;split
     ·rename_i e;rw[beq_iff_eq] at e;obtain⟨_,Qy⟩:=gZ WI;have e2:y.id=l.id:=e;have h3:=h.find hm;rw[←e2,Qy,WI] at h3;have:=Option.some.inj h3;subst this;simp only;omega
     exact⟨Int.le_refl _,hx.2⟩
  obtain⟨g,g0,g1,g2⟩:=h.ch c hc;have hgl:=g.len;have hg3:=g.e3;have e1:dL p c=c.first+jy (dJ p) c.af:=kW (dJ p) c.af c.first (fun x _=>hb x) g1 (by omega)
  have e2:dL q c=c.first+jy (dJ q) c.af:=kW (dJ q) c.af c.first (fun x _=>⟨Int.le_trans (hb x).1 (hbq x).1,(hbq x).2⟩) g1 (by omega)
  rw[e1,e2];have:∀L:List Int,jy (dJ p) L≤jy (dJ q) L:=fun L=>by
   induction L with
   |nil=>exact Int.le_refl _
   | cons x L ih=>
     simp only[jy];have:=(hbq x).1;omega
  have:=this c.af;omega
 exact xJ.refl p
theorem UR:xJ p (gW p (bq p o.channel) o).1:=by
 unfold gW iL;split
 ·rename_i y hy;split at hy
  ·cases hy
  split at hy
  ·cases hy
  rename_i hc2;have:=Option.some.inj hy;subst this;simp only[Bool.or_eq_true,not_or,decide_eq_true_eq] at hc2;obtain⟨⟨hl8,hnx⟩,h16⟩:=hc2;have hn1:=h.n1;have hnx2:dO p.next 1=p.next+1:=eY (by omega) (by omega);obtain⟨hi,e⟩:=iR hn;obtain⟨q,hq⟩:∃q:Pn,q={ eO p o.channel { bq p o.channel with af:=(bq p o.channel).af++[p.next] } with af:=p.af++[⟨p.next,o.w,o.a,o.aA,0,0⟩],next:=dO p.next 1 }:=⟨_,rfl⟩;simp only;rw[←hq];have Np:q.af=p.af++[⟨p.next,o.w,o.a,o.aA,0,0⟩]:=by rw[hq]
  have hold:∀id x,bg p id=some x→bg q id=some x:=fun id x hx=>by
   unfold bg at hx ⊢;rw[Np];exact tQ hx
  have hnew:bg q p.next=some ⟨p.next,o.w,o.a,o.aA,0,0⟩:=by
   unfold bg;rw[Np,List.find?_append];have:p.af.find? (fun l=>l.id==p.next)=none:=by
    rw[List.find?_eq_none];intro l hl;have:=(h.lg l hl).2.1;simp;omega
   rw[this];simp
  have hend:∀c∈p.channels,dL q c=dL p c:=fun c hc=>iJ fun id hid=>by
   obtain⟨l,_,_,hf⟩:=h.named hc hid;rw[hold _ _ hf,hf]
  obtain⟨e1,e2,e3,e4,e5,e6⟩:=BS h hn;refine⟨by rw[hq];exact Int.le_refl _,by rw[hq];show p.next≤dO p.next 1;omega,by rw[hq];simp[eO],fun i h1 h2=>?_,fun id a b ha hb=>?_,fun l hl hno=>?_⟩
  ·have hqc:q.channels=p.channels.set (o.channel-1).toNat { bq p o.channel with af:=(bq p o.channel).af++[p.next] }:=by rw[hq];rfl
   have key:∀(L:List Ch),L=q.channels→∀h3:i<L.length,Nu p q p.channels[i] L[i]:=fun L hL h3=>by
    rw[hqc] at hL;subst hL;refine XV (P:=fun a b=>Nu p q a b) h1 h3 (fun hk=>?_) ⟨Int.le_refl _,Int.le_refl _,Int.le_refl _,by rw[hend _ (List.getElem_mem h1)];exact Int.le_refl _,fun _=>⟨rfl,rfl,Int.le_refl _⟩⟩;rw[←e];refine⟨Int.le_refl _,Int.le_refl _,Int.le_refl _,?_,fun _=>⟨rfl,rfl,Int.le_refl _⟩⟩;have e0:dL q { bq p o.channel with af:=(bq p o.channel).af++[p.next] }=dO (dL q (bq p o.channel)) 0:=by
     unfold dL;simp only[List.foldl_append,List.foldl_cons,List.foldl_nil,hnew,Option.getD_some]
    rw[e0,hend _ (fJ hn),eY (by omega) (by omega)];omega
   exact key _ rfl h2
  ·rw[hold _ _ ha] at hb;have:=Option.some.inj hb;subst this;exact SI.refl _
  rw[Np] at hl;rcases List.mem_append.1 hl with hl|hl
  ·exact absurd hno (kP hl)
  rw[List.mem_singleton] at hl;subst hl;exact Int.le_refl _
 exact xJ.refl p
theorem UU:xJ p (iD p (bq p o.channel) o).1:=by
 obtain⟨g,g0,g1,g2⟩:=h.ch _ (fJ hn);obtain⟨e1,e2,e3,e4,e5,e6⟩:=BS h hn;have hgl:=g.len;have hg3:=g.e3;have hs:=xH h (bq p o.channel).trim (bq p o.channel).af (bq p o.channel).first g1 (by omega)
 unfold iD nE;generalize (fG p (bq p o.channel).trim (bq p o.channel).af (bq p o.channel).first)=y at hs ⊢;obtain⟨s1,s2,s3,s4⟩:=hs;simp only;split
 ·rename_i z hz;split at hz
  ·cases hz
  have:=Option.some.inj hz;subst this;obtain⟨hi,e⟩:=iR hn;obtain⟨T,hT⟩:∃T,T=(bq p o.channel).af.take y.1:=⟨_,rfl⟩;obtain⟨D,hD⟩:∃D,D=(bq p o.channel).af.drop y.1:=⟨_,rfl⟩;have Pg:(bq p o.channel).af=T++D:=by rw[hT,hD,List.take_append_drop]
  rw[←hT] at s2 s4;rw[←hD,←hT];simp only;obtain⟨q,hq⟩:∃q:Pn,q={ eO p o.channel { bq p o.channel with af:=D,first:=y.2,seen:=o.seen } with af:=p.af.filter fun l=>!T.contains l.id }:=⟨_,rfl⟩;rw[←hq];have Np:q.af=p.af.filter fun l=>!T.contains l.id:=by rw[hq]
  have hrT:=g.pO;rw[Pg,List.pairwise_append] at hrT;have UJ:∀x∈D,x∉T:=fun x hx hx2=>by have:=hrT.2.2 x hx2 x hx;omega
  have hold:∀id,id∉T→bg q id=bg p id:=fun id hid=>by
   unfold bg;rw[Np];refine qA fun l _ e=>?_
   rw[e];simp[hid]
  have hbT:∀x∈T,0≤dJ p x∧dJ p x≤8:=fun x _=>⟨(h.last x).1,(h.last x).2.1⟩
  have hbD:∀x∈D,0≤dJ p x∧dJ p x≤8:=fun x _=>⟨(h.last x).1,(h.last x).2.1⟩
  have hsT:=tL hbT;have hsD:=tL hbD;have hsum:jy (dJ p) (bq p o.channel).af=jy (dJ p) T+jy (dJ p) D:=by rw[Pg,Ni]
  refine⟨by rw[hq];exact Int.le_refl _,by rw[hq];exact Int.le_refl _,by rw[hq];simp[eO],fun i h1 h2=>?_,fun id a b ha hb=>?_,fun l hl hno=>?_⟩
  ·have hqc:q.channels=p.channels.set (o.channel-1).toNat { bq p o.channel with af:=D,first:=y.2,seen:=o.seen }:=by rw[hq];rfl
   have key:∀(L:List Ch),L=q.channels→∀h3:i<L.length,Nu p q p.channels[i] L[i]:=fun L hL h3=>by
    rw[hqc] at hL;subst hL;by_cases ek:(o.channel-1).toNat=i
    ·rw[List.getElem_set,if_pos ek];subst ek;rw[←e];refine⟨Int.le_refl _,Int.le_refl _,by show _≤y.2;omega,?_,fun _=>⟨rfl,rfl,Int.le_refl _⟩⟩;have:dL q { bq p o.channel with af:=D,first:=y.2,seen:=o.seen }=dL p { bq p o.channel with af:=D,first:=y.2,seen:=o.seen }:=iJ fun id hid=>by rw[hold id (UJ id hid)]
     rw[this];have af7:D.length≤8:=by rw[Pg,List.length_append] at hgl;omega
     have h4:dL p { bq p o.channel with af:=D,first:=y.2,seen:=o.seen }=y.2+jy (dJ p) D:=kW (dJ p) D y.2 hbD (by omega) (by omega);rw[h4];omega
    rw[List.getElem_set,if_neg ek];refine⟨Int.le_refl _,Int.le_refl _,Int.le_refl _,?_,fun _=>⟨rfl,rfl,Int.le_refl _⟩⟩;refine Int.le_of_eq (iJ fun id hid=>?_).symm;rw[hold id fun hx=>?_];have h5:id∈p.channels[(o.channel-1).toNat].af:=by rw[←e,Pg];simp[hx]
    exact ek (h.once hi h1 h5 hid)
   exact key _ rfl h2
  ·have:b=a:=by
    unfold bg at ha hb;rw[Np] at hb;by_cases hid:id∈T
    ·exfalso;have hm:=List.mem_of_find?_eq_some hb;have hp:=List.find?_some hb;rw[beq_iff_eq] at hp;have:=(List.mem_filter.1 hm).2;rw[hp] at this;simp[hid] at this
    rw[qA (fun l _ e=>by rw[e];simp[hid]),ha] at hb;exact (Option.some.inj hb).symm
   subst this;exact SI.refl _
  rw[Np] at hl;exact absurd hno (kP (List.mem_filter.1 hl).1)
 exact xJ.refl p
end
theorem aaJ {p:Pn}(h:gF p){o:aV}(ho:Fy o)(hn:o.kind≠12→fU p o.channel=true)(h0:0≤o.at_):xJ p (fH p o).1:=by
 refine oU (P:=fun y=>xJ p y.1) (fun e=>?_) (fun e=>?_) (fun e=>?_) (fun e=>?_) (fun e=>?_) (fun e=>?_) (fun e=>?_) (fun e=>?_) (fun e a ha=>?_) (fun e=>?_) (fun e=>?_)
 ·exact aaH h (hn (by omega))
 ·exact XW h (hn (by omega))
 ·exact xJ.refl p
 ·exact UR h (hn (by omega))
 ·exact UO h (hn (by omega))
 ·exact UQ h (hn (by omega)) h0 ho.at1
 ·exact aaI h (hn (by omega))
 ·exact UU h (hn (by omega))
 ·exact adX h (hn (by omega)) a
 ·exact xJ.refl p
 unfold jV fA;split
 ·rename_i l' hl';split at hl'
  ·cases hl'
  rename_i l hl;have hm:=List.mem_of_find?_eq_some hl;split at hl'
  ·cases hl'
  split at hl'
  ·have:=Option.some.inj hl';subst this;exact Nv h hm rfl ⟨rfl,rfl,fun e=>⟨e,rfl,by simp⟩⟩ rfl
  cases hl'
 exact xJ.refl p
theorem XY {p:Pn}(h:gF p)(o:aV)(h0:0≤o.at_):xJ p (aS p o).1:=by
 rcases gK p o with ⟨e,_⟩|⟨_,hm,_,hv,_,e⟩
 ·rw[e];exact xJ.refl p
 rw[e,gP];have ho:=l7 hm;have e1:dO p.version 1=p.version+1:=eY (by have:=h.v0;omega) (by have:=h.v;omega);have:xJ p (fB p o).1:=by
  unfold fB;split
  ·exact xJ.refl p
  rename_i hle;exact aaJ h ho (qB ho hle) h0
 exact⟨by show p.version≤dO p.version 1;omega,this.n,this.len,fun i a b=>⟨(this.ch i a b).e,(this.ch i a b).t,(this.ch i a b).f,(this.ch i a b).en,(this.ch i a b).ow⟩,this.lg,this.old⟩
def gT (p:Pn)(l:List aV):Pn:=l.foldl (fun p o=>(aS p o).1) p
theorem AA:∀{l:List aV} {p:Pn},gF p→(∀o∈l,0≤o.at_)→gF (gT p l)
 |[],_,h,_=>h
 | o::l,p,h,h0=>by
   unfold gT;rw[List.foldl_cons];exact AA (gQ h (h0 o (by simp))) fun x hx=>h0 x (by simp[hx])
theorem SL:∀{l:List aV} {p:Pn},gF p→(∀o∈l,0≤o.at_)→xJ p (gT p l)
 |[],p,_,_=>xJ.refl p
 | o::l,p,h,h0=>by
   unfold gT;rw[List.foldl_cons];have h1:=h0 o (by simp);exact (XY h o h1).trans h (SL (gQ h h1) fun x hx=>h0 x (by simp[hx]))
theorem SN:∀{l:List Int} {lo hi:Int},l.Pairwise (· < ·)→(∀x∈l,lo<x∧x≤hi)→lo≤hi→(l.length:Int)≤hi-lo
 |[],lo,hi,_,_,hle=>by simp;omega
 | x::l,lo,hi,hp,hb,hle=>by
   rw[List.pairwise_cons] at hp;have hx:=hb x (by simp);have:=SN (l:=l) (lo:=x) (hi:=hi) hp.2 (fun y hy=>⟨hp.1 y hy,(hb y (by simp[hy])).2⟩) (by omega);simp only[List.length_cons];omega
theorem gF.vW {p:Pn}(h:gF p):p.past.length≤15:=by
 have:=SN (l:=p.past.map (·.who)) (lo:=0) (hi:=15) h.p2 (fun x hx=>by
  obtain⟨y,hy,rfl⟩:=List.mem_map.1 hx;have h1:=h.p1;rw[List.all_eq_true] at h1;have:=h1 y hy;simp only[qR,Bool.and_eq_true,bR,decide_eq_true_eq] at this;omega) (by decide)
 rw[List.length_map] at this;omega
theorem XZ {L:List Ch}{n:Nat}(h:∀c∈L,c.af.length≤n):(L.flatMap (·.af)).length≤L.length*n:=by
 induction L with
 |nil=>simp
 | cons c L ih=>
   rw[List.flatMap_cons,List.length_append,List.length_cons,Nat.add_mul];have h1:=h c (by simp);have h2:=ih fun x hx=>h x (by simp[hx])
   omega
theorem gF.aaK {p:Pn}(h:gF p):(gY p).length≤24∧p.af.length≤24:=by
 have h1:(gY p).length≤p.channels.length*8:=XZ fun c hc=>(h.ch c hc).1.len
 have h2:=h.c2;have h3:=h.perm.length_eq;unfold nL at h3;rw[List.length_map] at h3;omega
theorem Nw {l:Lg}(h:mr l=true):l.aA.length≤6∧∀f∈l.aA,f.aI.length≤5:=by
 unfold mr at h;simp only[Bool.and_eq_true] at h;have hf:=h.2.2.2.1;unfold fw at hf;simp only[Bool.and_eq_true,bR,decide_eq_true_eq,List.all_eq_true] at hf;refine⟨by have:=hf.1;omega,fun f hf2=>?_⟩;have:=hf.2.2.1 f hf2;unfold Ao at this;simp only[Bool.and_eq_true,bR,decide_eq_true_eq] at this;omega
theorem UW {c:Ch}(h:Ap c=true):c.seen.length≤6:=by
 unfold Ap at h;simp only[Bool.and_eq_true,decide_eq_true_eq] at h;have:=h.1;omega
theorem gF.chB {p:Pn}(h:gF p){c:Ch}(hc:c∈p.channels):ChB c:=by
 have g:=(h.ch c hc).1;have h1:=g.len;have h2:=UW g.seen;have h3:=g.k0;refine⟨?_,?_,?_⟩<;>omega
theorem gF.lgB {p:Pn}(h:gF p){l:Lg}(hl:l∈p.af):ZG l:=by
 have:=Nw (h.lg l hl).1;exact⟨by omega,fun f hf=>by have:=this.2 f hf;omega⟩
theorem gF.Dc {p:Pn}(h:gF p):tK p:=by
 have h1:=h.aaK;have h2:=h.vW;have h3:=h.c2;exact⟨by omega,by omega,by omega,fun c hc=>h.chB hc,fun l hl=>h.lgB hl,by omega⟩
theorem jO {p:Pn}{n:Int}(hn:fU p n=true):∃A B,p.channels=A++bq p n::B∧(A.length:Int)=n-1∧∀c':Ch,(eO p n c').channels=A++c'::B:=by
 obtain⟨hi,e⟩:=iR hn;simp only[fU,Bool.and_eq_true,decide_eq_true_eq] at hn;refine⟨p.channels.take (n-1).toNat,p.channels.drop ((n-1).toNat+1),?_,?_,fun c'=>?_⟩
 ·rw[e];exact (BU p.channels _ hi default).2
 ·rw[List.length_take];omega
 exact (BU p.channels _ hi c').1
theorem Ny {p:Pn}(h:gF p){l:Lg}(hl:l∈p.af):∃A B,p.af=A++l::B∧(∀y∈A,(y.id==l.id)=false)∧∀l':Lg,l'.id=l.id→(kN p l').af=A++l'::B:=by
 obtain⟨A,B,e⟩:=List.append_of_mem hl;have hr:=h.pO;unfold nL at hr;rw[e,List.map_append,List.map_cons,List.pairwise_append,List.pairwise_cons] at hr;obtain⟨_,⟨r2,_⟩,r3⟩:=hr;have hA:∀y∈A,(y.id==l.id)=false:=fun y hy=>by
  have:=r3 y.id (List.mem_map.2 ⟨y,hy,rfl⟩) l.id (by simp);simp;omega
 refine⟨A,B,e,hA,fun l' hid=>?_⟩;unfold kN;simp only;rw[e,List.map_append,List.map_cons];have e1:A.map (fun x=>if x.id==l'.id then l' else x)=A:=by
  rw[List.map_congr_left (g:=id)]
  ·simp
  intro y hy;rw[hid,hA y hy];rfl
 have e2:B.map (fun x=>if x.id==l'.id then l' else x)=B:=by
  rw[List.map_congr_left (g:=id)]
  ·simp
  intro y hy;have:=r2 y.id (List.mem_map.2 ⟨y,hy,rfl⟩);rw[hid,if_neg (by simp;omega)];rfl
 rw[e1,e2,hid,if_pos (by simp)]
open Go.ChangeShapes Go.WideShapes Go.RowKit
section
variable {H:Type}{enc:TypeId×Value→H}{P:Program}
theorem yj (hl:laidOutB P=true){W W':World}(hb:Below W.heap.size W W'){sp:Nat→Bool}:∀{ts:List TypeId} {vs:List Value} {ds:List (DataW H)} {ps:List MemPlace},
  (∀t∈ts,P.readableRec t=true∧t<P.types.size)→DataW.TrodAll enc P W 0 (fun _=>true) true ts vs ds ps→(∀p∈ps,p.block<W.heap.size)→(∀p∈ps,sp p.block=true) →
  DataW.TrodAll enc P W' 0 sp true ts vs ds ps
 |[],[],[],_,_,h,_,_=>h
 |[],_::_,_,_,_,h,_,_=>h.elim
 |[],[],_::_,_,_,h,_,_=>h.elim
 |_::_,[],_,_,_,h,_,_=>h.elim
 |_::_,_::_,[],_,_,h,_,_=>h.elim
 | t::ts,v::vs,d::ds,_,hr,h,hlt,hsp=>by
   obtain⟨p,q,h1,h2,rfl⟩:=h;have ht:=hr t (by simp);exact⟨p,q,WideElems.Trod_stays hl ht.1 ht.2 h1 (fun x hx=>hb.same (hlt x (by simp[hx]))) (fun x hx=>hsp x (by simp[hx])),
    yj hl hb (fun t' ht'=>hr t' (by simp[ht'])) h2 (fun x hx=>hlt x (by simp[hx])) (fun x hx=>hsp x (by simp[hx])),rfl⟩
theorem vO {f:FuncId}{fn:Func}{s:ChangeSpec}{W:World}{args:Array Value}{ds gs:List (DataW H)}{before:List MemPlace}{pvs:List PV}{bt:TypeId}
  (hl:laidOutB P=true) (hrd:(fn.params.toList.all fun t=>P.readableRec t&&decide (t<P.types.size))=true) (hrt:fn.resultTypes = #[bt]) (hbt:P.underlying bt=some .bool)
  (hvars:s.vars=[]) (hfn:s.fn H (ds++gs)={ results:=[.lit (.bool true)],args:=ds })
  (hW:DataW.Whole enc P fn.params.toList s.vars false W args.toList ds gs before) (hc:bE P f pvs (.sc (.bool true))) (hr:eu N0 W pvs args.toList) :
  Calls P f args W fun e W'=>∃v,e=.returned v∧s.post enc P fn false true false false W args v W':=by
 refine (hc.2 N0 W args (fun r h=>h.elim) hr).mono fun e W' ⟨v,r,he,hq,hrep,hsame⟩=>⟨v,he,?_⟩
 subst hq;simp only[bG] at hrep;subst hrep;have hb:Below W.heap.size W W':=⟨hsame.os,hsame.tape,hsame.output,hsame.size,fun k hk=>hsame.keep k hk id⟩;have hold:∀p∈before,(fun b=>decide (b<W.heap.size)) p.block=true:=fun p hp=>by simpa using hW.lt p hp
 have adB:∀p∈before,p.block<W.heap.size:=fun p hp=>hW.lt p hp
 have V6:=hW;obtain⟨p,q,hA,hV,rfl,hz,hn⟩:=hW;rw[hvars] at hV;obtain⟨rfl,rfl⟩:=trodVars_none hV;simp only[List.append_nil] at adB hold hz hn V6 hfn;have hres:∀(b:Nat) (sp:Nat→Bool) (hd:Bool),DataW.TrodAll enc P W' b sp hd fn.resultTypes.toList ((Value.bool true).resultList fn.resultTypes.size) (s.fn H (ds++[])).results []:=by
  intro b sp hd;simp only[List.append_nil,hfn,hrt];exact trodAll_mk1 (shut_bool hbt true)
 have hargs:∀sp:Nat→Bool,(∀x∈p,sp x.block=true)→DataW.TrodAll enc P W' 0 sp true fn.params.toList args.toList (s.fn H (ds++[])).args p:=by
  intro sp hsp;simp only[List.append_nil,hfn];exact yj hl hb (fun t ht=>by simpa using List.all_eq_true.1 hrd t ht) hA adB hsp
 have hvv:∀sp:Nat→Bool,DataW.TrodVars enc P W' sp s.vars (s.fn H (ds++[])).vars []:=by
  intro sp;simp only[List.append_nil,hfn,hvars];exact rfl
 refine⟨ds,[],p,[],p,[],V6,hres _ _ _,hargs _ hold,hvv _,hb.frame _,fun _=>?_⟩;refine⟨ok_one hrt rfl (okWide_bool_mk hbt true),_,_,([]++p)++[],⟨[]++p,[],trodAll_append (hargs _ (fun _ _=>rfl)) (hres _ _ _),hvv _,rfl,?_,?_⟩,?_⟩
 ·intro b off hp;simp only[List.nil_append,List.append_nil] at hp;have:=adB _ hp;rw[hb.frozen (p:=⟨b,off,none⟩) this];exact hz b off hp
 ·intro ha;simpa using hn ha
 intro x hx _;simpa using hx
end
theorem Ai {α:Type}{c:α→List PV}{R:α→Prop}:∀{rows:List (List PV)},(∀r∈rows,∃x:α,r=c x∧R x)→∃l:List α,rows=l.map c∧∀x∈l,R x
 |[],_=>⟨[],rfl,by simp⟩
 | r::rows,h=>by
   obtain⟨x,rfl,hx⟩:=h r (by simp);obtain⟨l,rfl,hl⟩:=Ai (rows:=rows) (c:=c) (R:=R) fun r hr=>h r (by simp[hr])
   exact⟨x::l,rfl,by simpa using ⟨hx,hl⟩⟩
theorem wf_i64 {i:Int}(h:(Lit.int .i64 i).wf=true) : -9223372036854775808≤i∧i≤9223372036854775807:=by
 simpa[Lit.wf,IntKind.min,IntKind.max,IntKind.signed,IntKind.bits] using h
theorem wf_u64 {i:Int}(h:(Lit.int .u64 i).wf=true):0≤i∧i≤18446744073709551615:=by
 simpa[Lit.wf,IntKind.min,IntKind.max,IntKind.signed,IntKind.bits] using h
end Go.AX
end
