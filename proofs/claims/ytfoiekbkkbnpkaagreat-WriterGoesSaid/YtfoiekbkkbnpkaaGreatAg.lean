/-
  Conditions: none. A framework for walks: abstract values, memory, and conditions that suffice; the chapters in plain terms.
-/
import Derived.Test.YtfoiekbkkbnpkaaGreatAf
import Derived.Test.YtfoiekbkkbnpkaaGreatAe
import Derived.ProofKit
import Derived.OpenShut
set_option linter.unusedSectionVars false
set_option linter.unusedVariables false
set_option linter.unusedSimpArgs false
section
namespace Go.AX
structure Mk where
 producer:Int
 seq:Int
 offset:Int
deriving DecidableEq,Inhabited
def Mk.c (x:Mk):List PV:=[ii x.producer,uu x.seq,uu x.offset]
def slM (l:List Mk):PV:=.sl false 3 (l.map Mk.c)
structure Cu where
 sub:Int
 at_:Int
deriving DecidableEq,Inhabited
def Cu.c (x:Cu):List PV:=[ii x.sub,uu x.at_]
def slK (l:List Cu):PV:=.sl false 2 (l.map Cu.c)
structure Ch where
 aX:Int
 owner:Int
 inc:Int
 Av:Int
 first:Int
 trim:Int
 gq:List Int
 seen:List Mk
 Az:List Cu
deriving DecidableEq,Inhabited
def Ch.c (x:Ch):List PV:=[uu x.aX,ii x.owner,uu x.inc,uu x.Av,uu x.first,uu x.trim,slU x.gq,slM x.seen,slK x.Az]
def slH (l:List Ch):PV:=.sl false 9 (l.map Ch.c)
def adB (l:List Lg):PV:=.sl false 6 (l.map Lg.c)
structure Oc where
 code:Int
 aX:Int
 at_:Int
 dM:Int
 owner:Int
deriving DecidableEq,Inhabited
def Oc.c (x:Oc):List PV:=[ii x.code,uu x.aX,uu x.at_,uu x.dM,ii x.owner]
structure Pa where
 who:Int
 inc:Int
 n:Int
 out:Oc
deriving DecidableEq,Inhabited
def Pa.c (x:Pa):List PV:=[ii x.who,uu x.inc,uu x.n,ii x.out.code,uu x.out.aX,uu x.out.at_,uu x.out.dM,ii x.out.owner]
def slA (l:List Pa):PV:=.sl false 8 (l.map Pa.c)
structure Pn where
 version:Int
 next:Int
 channels:List Ch
 gq:List Lg
 past:List Pa
deriving DecidableEq,Inhabited
def Pn.c (x:Pn):List PV:=[uu x.version,uu x.next,slH x.channels,adB x.gq,slA x.past]
def cnt (n:Int):Bool:=!decide (n>4611686018427387903)
def lg0:Lg:=⟨0,0,0,[],0,0⟩
def SA (p:Pn)(id:Int):Option Lg:=p.gq.find? fun l=>l.id==id
def aaT (p:Pn):List Int:=p.gq.map (·.id)
def Yy (p:Pn):List Int:=p.channels.flatMap (·.gq)
def Yz (a b:Int):Int:=IntKind.u64.wrap (a+b)
def YA (p:Pn)(c:Ch):Int:=c.gq.foldl (fun e id=>Yz e ((SA p id).getD lg0).last) c.first
def aaU (p:Pn)(c:Ch):Option Lg:=
 match c.gq.getLast? with
 |none=>none
 | some id=>match SA p id with
   |none=>none
   |some l=>if l.closed==0 then some l else none
def chP (p:Pn)(n:Int):Ch:=p.channels[(n-1).toNat]!
def YB (c:Ch):Bool:=
 if c.aX==0 then (c.owner==0&&(c.inc==0&&decide ((c.gq.length:Int)=0))) else bR c.owner 1 15&&bR c.inc 1 4611686018427387903
def I9 (l:List Int):Bool:=decide (l.Pairwise (· < ·))
def aaV (l:List Int):List Int:=l.mergeSort fun x y=>decide (x≤y)
def YC (c:Ch)(x:Mk):Bool:=bR x.producer 1 15&&(bR x.seq 1 4611686018427387903&&decide (x.offset<c.first))
def aaW (c:Ch):Bool:=decide ((c.seen.length:Int)≤6)&&(I9 (c.seen.map (·.producer))&&(decide (c.seen.map (·.offset)).Nodup&&c.seen.all (YC c)))
def YD (x:Cu):Bool:=bR x.sub 1 3&&cnt x.at_
def SB (p:Pn):List Int→Bool
 |[]=>true
 | id::r=>(match SA p id with
   |none=>false
   |some l=>!(l.closed==0 && !r.isEmpty))&&SB p r
def aaX (p:Pn)(c:Ch):Int:=if (aaU p c).isSome then Yz (YA p c) 8 else YA p c
def YE (p:Pn)(c:Ch):Bool:=
 (cnt c.aX&&(cnt c.Av&&cnt c.first))&&(YB c&&(decide ((c.gq.length:Int)≤8)&&(I9 c.gq&&(bR c.trim c.first (aaX p c)&&(cnt (Yz (YA p c) 8) &&
 (SB p c.gq&&(aaW c&&(decide ((c.Az.length:Int)≤3)&&(I9 (c.Az.map (·.sub))&&c.Az.all YD)))))))))
def YF (x:Pa):Bool:=bR x.who 1 15&&(bR x.inc 1 4611686018427387903&&(bR x.n 1 4611686018427387903&&(bR x.out.code 0 9&&(bR x.out.owner 0 15&&(cnt x.out.aX&&(cnt x.out.at_&&cnt x.out.dM))))))
def aaY (p:Pn):Bool:=
 cnt p.version&&(bR p.next 1 4611686018427387904&&(bR p.channels.length 1 3&&(p.gq.all (fun l=>eH l&&decide (l.id<p.next))&&(I9 (aaT p)&&(decide (aaV (Yy p)=aaT p) &&
 (p.channels.all (YE p)&&(I9 (p.past.map (·.who))&&p.past.all YF)))))))
structure Sp where
 offset:Int
 dM:Int
 n:Int
deriving DecidableEq,Inhabited
def Sp.c (x:Sp):List PV:=[uu x.offset,uu x.dM,uu x.n]
def adC (p:Pn)(n:Int):Bool:=decide (n≥1)&&(decide (n≤(p.channels.length:Int))&&aaY p)
def adD (p:Pn):Prop:=∀l∈p.gq,eD l.last
section
variable {p:Pn}{n sure:Int}(hh:adC p n=true)(hr:adD p)(h0:0≤(chP p n).first)(hs:0≤sure)
include hh hr
include h0 hs
end
structure LgB (l:Lg):Prop where
 aj:l.aj.length≤1000000
 ah:∀f∈l.aj,f.ah.length≤1000000
theorem LgB.ok {l:Lg}(h:LgB l):l.ok:=fun x hx=>by have:=h.ah x hx;omega
end Go.AX
end
section
namespace Go.AX
end Go.AX
end
section
namespace Go.AX
theorem Sp.adE (a b:Sp)(h:(!(a.offset==b.offset&&(a.dM==b.dM&&a.n==b.n)))=false):a=b:=by
 cases a;cases b;simp at h;simp[h]
theorem Int.adE (a b:Int)(h:(a != b)=false):a=b:=by simpa using h
end Go.AX
end
section
namespace Go.AX
end Go.AX
end
section
namespace Go.AX
end Go.AX
end
section
namespace Go.AX
def YM (H:List (Nat×au))(x:AV):AV:=
 match x with
 |.sub b ver st lo hi=>Nj H b ver st lo hi
 |x=>thA H x
def SS (H:List (Nat×au)):List (Nat×AV)→List (Nat×AV)
 |[]=>[]
 |(t,v)::r=>(t,YM H v)::SS H r
theorem Nn (H:List (Nat×au)):∀(tm:List (Nat×AV)) (t:Nat),lk (SS H tm) t=(lk tm t).map (YM H)
 |[],t=>rfl
 | (k,v)::r,t=>by
   simp only[SS,ak];split
   ·rfl
   exact Nn H r t
theorem Lv {c:Ctx}{R:Real}{s:AS}{a:Act}{w:World}(g:aS c R s a w){x:AV}{u:Value}(h:ai (aG c R s.hp) w s.hp R x u):ai (aG c R s.hp) w s.hp R (YM s.hp x) u:=by
 cases x with
 |sub b ver st lo hi=>exact zN g h
 |_=>exact ET g h
theorem aS.aa6 {c:Ctx}{R:Real}{s:AS}{a:Act}{w:World}(g:aS c R s a w):aS c R ⟨SS s.hp s.tm,s.nx,s.hp⟩ a w:=by
 refine⟨?_,g.size,g.lo,g.marks,g.fixed,g.boxes,g.inj,g.free,g.iE,g.fG,g.kept⟩;intro t v hv;rw[Nn] at hv;cases h:lk s.tm t with
 |none=>rw[h] at hv;cases hv
 | some v0=>
   rw[h] at hv;simp only[Option.map_some,Option.some.injEq] at hv;subst hv;obtain⟨x,hx,hr⟩:=g.slots t v0 h;exact⟨x,hx,Lv g hr⟩
theorem EW {s s':AS}(ids:List Nat)(h:match DZ s.hp ids with|some fs=>RN ⟨SS (s.app fs).hp (s.app fs).tm,(s.app fs).nx,(s.app fs).hp⟩ s'|none=>False)(c:Ctx)(R:Real)(a:Act)(w:World)(g:aS c R s a w):∃R',aS c R' s' a w:=by
 split at h
 ·rename_i fs hfs;obtain⟨g1,_⟩:=iy g (fun _ _ h=>h) _ _ hfs;exact ay h c R a w g1.aa6
 exact h.elim
open Go.ChangeShapes Go.WideShapes Go.RowKit
section
variable {H:Type}{enc:TypeId×Value→H}{P:Program}
theorem uE (hl:laidOutB P=true){W W':World}(hb:Below W.heap.size W W'){sp:Nat→Bool}:∀{ts:List TypeId} {vs:List Value} {ds:List (DataW H)} {ps:List MemPlace},
  (∀t∈ts,P.readableRec t=true∧t<P.types.size)→DataW.TrodAll enc P W 0 (fun _=>true) true ts vs ds ps→(∀p∈ps,p.block<W.heap.size)→(∀p∈ps,sp p.block=true) →
  DataW.TrodAll enc P W' 0 sp true ts vs ds ps
 |[],[],[],_,_,h,_,_=>h
 |[],_::_,_,_,_,h,_,_=>h.elim
 |[],[],_::_,_,_,h,_,_=>h.elim
 |_::_,[],_,_,_,h,_,_=>h.elim
 |_::_,_::_,[],_,_,h,_,_=>h.elim
 | t::ts,v::vs,d::ds,_,hr,h,hlt,hsp=>by
   obtain⟨p,q,h1,h2,rfl⟩:=h;have ht:=hr t (by simp);exact⟨p,q,WideElems.Trod_stays hl ht.1 ht.2 h1 (fun x hx=>hb.same (hlt x (by simp[hx]))) (fun x hx=>hsp x (by simp[hx])),
    uE hl hb (fun t' ht'=>hr t' (by simp[ht'])) h2 (fun x hx=>hlt x (by simp[hx])) (fun x hx=>hsp x (by simp[hx])),rfl⟩
theorem IE {f:FuncId}{fn:Func}{s:ChangeSpec}{W:World}{args:Array Value}{ds gs:List (DataW H)}{before:List MemPlace}{pvs:List PV}{bt:TypeId}
  (hl:laidOutB P=true) (hrd:(fn.params.toList.all fun t=>P.readableRec t&&decide (t<P.types.size))=true) (hrt:fn.resultTypes = #[bt]) (hbt:P.underlying bt=some .bool)
  (hvars:s.vars=[]) (hfn:s.fn H (ds++gs)={ results:=[.lit (.bool true)],args:=ds })
  (hW:DataW.Whole enc P fn.params.toList s.vars false W args.toList ds gs before) (hc:dP P f pvs (.sc (.bool true))) (hr:dI N0 W pvs args.toList) :
  Calls P f args W fun e W'=>∃v,e=.returned v∧s.post enc P fn false true false false W args v W':=by
 refine (hc.2 N0 W args (fun r h=>h.elim) hr).mono fun e W' ⟨v,r,he,hq,hrep,hsame⟩=>⟨v,he,?_⟩
 subst hq;simp only[aU] at hrep;subst hrep;have hb:Below W.heap.size W W':=⟨hsame.os,hsame.tape,hsame.output,hsame.size,fun k hk=>hsame.keep k hk id⟩;have hold:∀p∈before,(fun b=>decide (b<W.heap.size)) p.block=true:=fun p hp=>by simpa using hW.lt p hp
 have Yn:∀p∈before,p.block<W.heap.size:=fun p hp=>hW.lt p hp
 have Zu:=hW;obtain⟨p,q,hA,hV,rfl,hz,hn⟩:=hW;rw[hvars] at hV;obtain⟨rfl,rfl⟩:=trodVars_none hV;simp only[List.append_nil] at Yn hold hz hn Zu hfn;have hres:∀(b:Nat) (sp:Nat→Bool) (hd:Bool),DataW.TrodAll enc P W' b sp hd fn.resultTypes.toList ((Value.bool true).resultList fn.resultTypes.size) (s.fn H (ds++[])).results []:=by
  intro b sp hd;simp only[List.append_nil,hfn,hrt];exact trodAll_mk1 (shut_bool hbt true)
 have hargs:∀sp:Nat→Bool,(∀x∈p,sp x.block=true)→DataW.TrodAll enc P W' 0 sp true fn.params.toList args.toList (s.fn H (ds++[])).args p:=by
  intro sp hsp;simp only[List.append_nil,hfn];exact uE hl hb (fun t ht=>by simpa using List.all_eq_true.1 hrd t ht) hA Yn hsp
 have hvv:∀sp:Nat→Bool,DataW.TrodVars enc P W' sp s.vars (s.fn H (ds++[])).vars []:=by
  intro sp;simp only[List.append_nil,hfn,hvars];exact rfl
 refine⟨ds,[],p,[],p,[],Zu,hres _ _ _,hargs _ hold,hvv _,hb.frame _,fun _=>?_⟩;refine⟨ok_one hrt rfl (okWide_bool_mk hbt true),_,_,([]++p)++[],⟨[]++p,[],trodAll_append (hargs _ (fun _ _=>rfl)) (hres _ _ _),hvv _,rfl,?_,?_⟩,?_⟩
 ·intro b off hp;simp only[List.nil_append,List.append_nil] at hp;have:=Yn _ hp;rw[hb.frozen (p:=⟨b,off,none⟩) this];exact hz b off hp
 ·intro ha;simpa using hn ha
 intro x hx _;simpa using hx
end
theorem wO {α:Type}{c:α→List PV}{R:α→Prop}:∀{rows:List (List PV)},(∀r∈rows,∃x:α,r=c x∧R x)→∃l:List α,rows=l.map c∧∀x∈l,R x
 |[],_=>⟨[],rfl,by simp⟩
 | r::rows,h=>by
   obtain⟨x,rfl,hx⟩:=h r (by simp);obtain⟨l,rfl,hl⟩:=wO (rows:=rows) (c:=c) (R:=R) fun r hr=>h r (by simp[hr])
   exact⟨x::l,rfl,by simpa using ⟨hx,hl⟩⟩
theorem wf_i64 {i:Int}(h:(Lit.int .i64 i).wf=true) : -9223372036854775808≤i∧i≤9223372036854775807:=by
 simpa[Lit.wf,IntKind.min,IntKind.max,IntKind.signed,IntKind.bits] using h
theorem wf_u64 {i:Int}(h:(Lit.int .u64 i).wf=true):0≤i∧i≤18446744073709551615:=by
 simpa[Lit.wf,IntKind.min,IntKind.max,IntKind.signed,IntKind.bits] using h
theorem wf_u8 {i:Int}(h:(Lit.int .u8 i).wf=true):0≤i∧i≤255:=by
 simpa[Lit.wf,IntKind.min,IntKind.max,IntKind.signed,IntKind.bits] using h
end Go.AX
end
