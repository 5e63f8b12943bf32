/-
  Conditions: none. A framework for walks: abstract values, memory, and conditions that suffice; the chapters in plain terms.
-/
import Derived.Test.YtiagceoepkaeoaaGreatAe
import Derived.Shelf.SlSortCmp.WholeK
import Derived.Test.YtiagceoepkaeoaaGreatAd
set_option linter.unusedSectionVars false
set_option linter.unusedVariables false
set_option linter.unusedSimpArgs false
section
namespace Go.AX
open Go.Sort Go.Shelf Go.Proofs
theorem Jy {N:Nat→Prop}{w:World}:∀{vals vs:List Value},(∀v∈vals,v.oneCell'=true)→(∀j,j<vals.length→vs[j]? = vals[j]?)→gq N w (vals.map .sc) vs
 |[],vs,_,_=>by simp only[List.map_nil,gq]
 | v::r,vs,h1,h=>by
   have h0:=h 0 (by simp);match vs,h0 with
   | v'::SL,h0=>
     simp only[List.getElem?_cons_zero,Option.some.injEq] at h0;subst h0;refine⟨v',SL,rfl,h1 v' (by simp),by simp only[bE],Jy (fun u hu=>h1 u (by simp[hu])) fun j hj=>?_⟩;have:=h (j+1) (by simpa using hj);simpa using this
theorem Jz {N:Nat→Prop}{w:World}:∀{vals vs:List Value},gq N w (vals.map .sc) vs→∀j,j<vals.length→vs[j]? = vals[j]?
 |[],vs,_,j,hj=>by simp at hj
 | v::r,vs,h,j,hj=>by
   obtain⟨v',SL,rfl,_,hv,h⟩:=h;simp only[bE] at hv;subst hv;cases j with
   |zero=>rfl
   |succ j=>simpa using Jz h j (by simpa using hj)
section
variable {α:Type}[Inhabited α]{P:Program}{f g:Nat}{enc:α→List Value}{st:Nat}{e:TypeId}
theorem Em (sorted:Array α→Array α)(h0:0<st)(hl:∀x,(enc x).length=st)(h1:∀x,∀v∈enc x,v.oneCell'=true)(hsz:∀d,(sorted d).size=d.size)
  (agZ:∀(blk cap:Nat) (d:Array α) (w:World),HoldsK enc st w blk 0 d→blk<w.heap.size→d.size<4611686018427387904 →
   Calls P f #[.slice (some ⟨blk,0,none⟩) d.size cap,.func (.func g) #[] #[]] w fun e w'=>e=.returned (.tuple #[])∧∃n os,w'=sortWorldK enc st w blk 0 n (sorted d) os)
  (hnil:bC P f [.sc (.slice none 0 0),.fn (.func g) [] []] (.dn [])) (l:List α) (hll:l.length<4611686018427387904) :
  dU P f [.aB 1 0,.pv (.fn (.func g) [] [])] [(1,.arr e 0 st (l.map fun x=>(enc x).map .sc))] (.pv (.dn [])) [(1,.arr e 0 st ((sorted l.toArray).toList.map fun x=>(enc x).map .sc))]:=by
 refine⟨hnil.1,fun c R w dm hh ha=>?_⟩;obtain⟨a,ha1,ha2⟩:∃a:Act,a.tmps.size=c.n∧a.defers=[]:=⟨{ tmps:=Array.replicate c.n undef,defers:=[] },by simp,rfl⟩;have gm:=hh.Xx (tm:=[]) (nx:=0) (a:=a) (fun t v h=>by simp[lk] at h) ha1 (by rw[ha2];exact⟨[],Marks.nil⟩);have hbx:=hh.boxes 1 _ (show lk [(1,_)] 1=some _ from rfl);obtain⟨v1,r1,e1,hv1,v2,r2,rfl,hv2,rfl⟩:=ha;have aeC:dm = #[v1,v2]:=by rw[←Array.toList_inj,e1]
 subst aeC;simp only[ai,lk,Nat.beq,aS] at hv1;have hv1:=hv1.2.2 trivial;have ajm:v2=.func (.func g) #[] #[]:=by
  simp only[ai,bE,dX] at hv2;obtain⟨fs,cs,rfl,h3,h4⟩:=hv2;rw[Array.toList_eq_nil_iff] at h3 h4;subst h3;subst h4;rfl
 subst ajm;cases hn:R.nil 1 with
 | true=>
   obtain⟨xs,⟨_,h3⟩,_⟩:=hbx;have hlz:l=[]:=by
    rcases h3 with ⟨_,h3⟩|⟨g',cap,cur,e1,_⟩
    ·simpa using h3
    simp[bY,hn] at e1
   subst hlz;have hsl:v1=.slice none 0 0:=by rw[hv1];simp[bY,hn]
   subst hsl;refine (hnil.2 (fun _=>False) w _ (fun r h=>h.elim) ?_).mono fun e' w' ⟨v,r,he,hr,hrep,hsame⟩=>?_
   ·exact⟨_,_,rfl,by simp only[bE],_,_,rfl,by simp only[bE];exact⟨#[],#[],rfl,by simp only[dX],by simp only[dX]⟩,by simp only[dX]⟩
   subst hr;have hs0:(sorted (#[]:Array α)).toList=[]:=by
    have:=hsz #[];exact List.eq_nil_of_length_eq_zero (by simpa using this)
   refine⟨v,_,_,R,he,⟨rfl,rfl⟩,?_,?_⟩
   ·simp only[show ([]:List α).toArray = #[] from rfl,hs0];exact (gm.grow hsame).hap
   simp only[ai];simp only[bE] at hrep ⊢;obtain⟨vs,h5,h6⟩:=hrep;simp only[dX] at h6 ⊢;exact⟨vs,h5,h6⟩
 | false=>
   obtain⟨cur,hg,hs,hle,hm,hr,_⟩:=gU hbx hn;simp only[List.length_map] at hle hv1;have hsl:v1=.slice (some ⟨R.blk 1,0,none⟩) l.toArray.size ((R.cap 1).1):=by rw[hv1];simp[bY,hn]
   subst hsl;have hcell:∀i (hi:i<l.length) j,j<st→cur[i*st+j]? = (enc l[i])[j]? :=by
    intro i hi j hj;obtain⟨_,q⟩:=rH (i:=i) (row:=(enc l[i]).map .sc) hr (by simp[hi]);have:=Jz q j (by rw[hl];exact hj);rw[List.getElem?_drop,Array.getElem?_toList] at this;exact this
   have hK:HoldsK enc st w (R.blk 1) 0 l.toArray:=by
    intro j hj;rw[size_flatK] at hj;rw[get_flatK _ _ _ _ hj];have hi:j / st<l.length:=(Nat.div_lt_iff_lt_mul h0).2 hj;have hm:j%st<st:=Nat.mod_lt _ h0;have:=hcell _ hi _ hm;rw[show j / st*st+j%st=j from by rw[Nat.mul_comm];exact Nat.div_add_mod j st] at this;refine⟨?_,by simp[World.frozen?,hg]⟩;simp only[World.cell?,hg,Option.isSome_none,Bool.false_eq_true,if_false,Nat.zero_add,this,id];rw[getElem!_pos l.toArray _ (by simpa using hi),getElem!_pos _ _ (by simp only[List.getElem_toArray];rw[hl];exact hm)];simp only[List.getElem_toArray];rw[List.getElem?_eq_getElem (by rw[hl];exact hm)]
   have hblk:R.blk 1<w.heap.size:=size_of_getElem? hg;refine (agZ (R.blk 1) ((R.cap 1).1) l.toArray w hK hblk (by simpa using hll)).mono fun e' w' ⟨he,n,os,hw⟩=>?_
   have EC:w'.heap=(w.heap.modify (R.blk 1) (onCells (putCells id 0 (Go.Sort.flatK enc st (sorted l.toArray)))))++os:=by subst hw;rfl
   have hbk:w'.heap[R.blk 1]? = some (.cells (putCells id 0 (Go.Sort.flatK enc st (sorted l.toArray)) cur) e (0,0)):=by
    rw[EC,Array.getElem?_append_left (by simpa using hblk),Array.getElem?_modify,if_pos rfl,hg];rfl
   have aeD:∀r,r<w.heap.size→r≠R.blk 1→w'.heap[r]? = w.heap[r]? :=by
    intro r hr hne;rw[EC,Array.getElem?_append_left (by simpa using hr),Array.getElem?_modify,if_neg (fun h=>hne h.symm)]
   have hworld:nI (fun r=>aI R 1 r (lk [(1,aA.arr e 0 st (l.map fun x=>(enc x).map .sc))] 1)) w w':=by
    refine⟨by rw[EC];simp,fun r hr hno=>aeD r hr fun h=>hno ?_,by subst hw;rfl,by subst hw;rfl,by subst hw;rfl⟩;subst h;exact⟨hn,rfl⟩
   have hlen:(sorted l.toArray).size=l.length:=by rw[hsz];simp
   have hR:∀b',b'≠1→R.blk b'=R.blk b'∧R.nil b'=R.nil b'∧R.cap b'=R.cap b':=fun _ _=>⟨rfl,rfl,rfl⟩
   have ajn:((sorted l.toArray).toList.map fun x=>(enc x).map PV.sc).length=(l.map fun x=>(enc x).map PV.sc).length:=by simp[hlen]
   have r1:∀off v,aX R 1 off v (lk [(1,aA.arr e 0 st (l.map fun x=>(enc x).map .sc))] 1)→aX R 1 off v (some (.arr e 0 st ((sorted l.toArray).toList.map fun x=>(enc x).map .sc))):=fun off v h=>h
   have r2:∀ver v,aS R 1 ver v (lk [(1,aA.arr e 0 st (l.map fun x=>(enc x).map .sc))] 1)→aS R 1 ver v (some (.arr e 0 st ((sorted l.toArray).toList.map fun x=>(enc x).map .sc))):=fun ver v h=>by
    simp only[lk,Nat.beq,aS,ajn] at h ⊢;exact h
   have r3:∀ver i off v,aZ R 1 ver i off v (lk [(1,aA.arr e 0 st (l.map fun x=>(enc x).map .sc))] 1)→aZ R 1 ver i off v (some (.arr e 0 st ((sorted l.toArray).toList.map fun x=>(enc x).map .sc))):=fun ver i off v h=>h
   have hown:∀r,aI R 1 r (some (.arr e 0 st ((sorted l.toArray).toList.map fun x=>(enc x).map .sc)))→aI R 1 r (lk [(1,aA.arr e 0 st (l.map fun x=>(enc x).map .sc))] 1)∨w.heap.size≤r:=fun r h=>.inl h
   have gm':=gm.upd (nx':=0) hR r1 r2 r3 hown hworld (by
    refine⟨(putCells id 0 (Go.Sort.flatK enc st (sorted l.toArray)) cur).toList.take ((sorted l.toArray).size*st),⟨?_,.inr ⟨R.blk 1,(R.cap 1).1,_,by simp[bY,hn],Nat.zero_le _,hbk,by simp only[List.length_map,Array.length_toList,hlen];exact hle,hm,?_,by simp⟩⟩,KR fun i hi=>?_⟩
    ·simp only[List.length_take,Array.length_toList,putCells,Array.size_mapIdx,List.length_map];have:(sorted l.toArray).size*st≤(R.cap 1).1*st:=Nat.mul_le_mul_right _ (by omega);omega
    ·simp only[putCells,Array.size_mapIdx];exact hs
    simp only[List.length_map,Array.length_toList] at hi;simp only[List.getElem_map,Array.getElem_toList,List.length_map];refine⟨hl _,Jy (h1 _) fun j hj=>?_⟩;rw[hl] at hj;have hij:i*st+j<(sorted l.toArray).size*st:=by
     have:(i+1)*st≤(sorted l.toArray).size*st:=Nat.mul_le_mul_right _ hi;rw[Nat.add_mul] at this;omega
    have hcs:i*st+j<cur.size:=by
     have:(sorted l.toArray).size*st≤(R.cap 1).1*st:=Nat.mul_le_mul_right _ (by omega);omega
    rw[List.getElem?_drop,List.getElem?_take,if_pos hij,Array.getElem?_toList];simp only[putCells,Array.getElem?_mapIdx,size_flatK,Nat.zero_le,Nat.zero_add,true_and,hij,if_true,Nat.sub_zero,id];rw[Array.getElem?_eq_getElem hcs];simp only[Option.map_some];rw[get_flatK _ _ _ _ hij];have e3:(i*st+j) / st=i:=by rw[Nat.mul_comm,Nat.mul_add_div h0,Nat.div_eq_of_lt hj,Nat.add_zero]
    have e4:(i*st+j)%st=j:=by rw[Nat.mul_comm,Nat.mul_add_mod,Nat.mod_eq_of_lt hj]
    rw[e3,e4,getElem!_pos (sorted l.toArray) _ hi,getElem!_pos (enc (sorted l.toArray)[i]) _ (by rw[hl];exact hj),List.getElem?_eq_getElem (by rw[hl];exact hj)])
   have H:XW [(1,.old 1 0)] ((1,aA.arr e 0 st ((sorted l.toArray).toList.map fun x=>(enc x).map .sc))::[(1,aA.arr e 0 st (l.map fun x=>(enc x).map .sc))]) [(1,aA.arr e 0 st ((sorted l.toArray).toList.map fun x=>(enc x).map .sc))]:=by
    refine KP (X:=True) rfl ?_;repeat' first|exact True.intro|exact rfl|exact id|exact bP _|((conv=>whnf);with_reducible apply And.intro)|((conv=>whnf);exact True.intro)
   refine⟨_,_,[(1,.arr e 0 st ((sorted l.toArray).toList.map fun x=>(enc x).map .sc))],_,he,⟨rfl,rfl⟩,gm'.hap.weaken H,?_⟩;simp only[ai,bE,dX];exact⟨#[],rfl,rfl⟩
end
def bS (n l m:Int):Bool:=decide (l≤n)&&decide (n≤m)
def Fz (x:Pl):Bool:=bS x.node 1 15&&bS x.dB 1 4611686018427387903
def Al (w:Int)(f:Fr):Bool:=bS f.first 1 9&&(bS f.aN.length w 5&&(f.aN.all Fz&&decide (f.aN.map (·.node)).Nodup))
def Q5 (l:List Fr):Bool:=
 match l with
 |[]=>false
 |f::_=>f.first==1
def fC (w:Int)(l:List Fr):Bool:=bS l.length 1 6&&(Q5 l&&(l.all (Al w)&&decide (l.Pairwise fun a b=>a.first<b.first)))
def kL (l:Lg):Bool:=bS l.id 1 4611686018427387903&&(bS l.a 1 l.w&&(decide (l.w≤5)&&(fC l.w l.av&&(bS l.closed 0 1&&decide (l.last≤8*l.closed)))))
theorem iC {α:Type}{key:α→Int}{l:List α}(h:∀j (hj:j+1<l.length),key (l[j]'(by omega))<key l[j+1]):l.Pairwise fun a b=>key a<key b:=by
 rw[List.pairwise_iff_getElem];intro i j hi hj hij;induction j with
 |zero=>omega
 | succ j ih=>
   by_cases e:i=j
   ·subst e;exact h i hj
   exact Int.lt_trans (ih (by omega) (by omega)) (h j hj)
def Dj (x y:Pl):Int:=Go.Lib.compareInt x.node y.node
def yD (d:Array Pl):Array Pl:=Go.Sort.pdq (Go.Proofs.ltOf Dj) d 0 d.size (Go.Lib.bitLen d.size) true true
def sortPl (l:List Pl):List Pl:=(yD l.toArray).toList
theorem abe (x y:Pl):Go.Proofs.ltOf Dj x y=decide (x.node<y.node):=by
 unfold Go.Proofs.ltOf Dj Go.Lib.compareInt;by_cases h1:x.node<y.node
 ·simp[h1]
 by_cases h2:y.node<x.node<;>simp[h1,h2]
theorem adD:Go.Sort.SWO (Go.Proofs.ltOf Dj) where
 irrefl x:=by rw[abe];simp
 trans x y z h1 h2:=by rw[abe] at *;simp at *;omega
 ntrans x y z h1 h2:=by rw[abe] at *;simp at *;omega
theorem vP (d:Array Pl):Go.Sort.PermIn 0 d.size d (yD d)∧Go.Sort.SortedIn (Go.Proofs.ltOf Dj) 0 d.size (yD d):=
 Go.Sort.pdq_sorts (Go.Proofs.ltOf Dj) adD d 0 d.size (Go.Lib.bitLen d.size) true true (Nat.zero_le _) (Nat.le_refl _) (Or.inl rfl)
theorem FB (d:Array Pl):(yD d).size=d.size:=(vP d).1.1
theorem NE (l:List Pl):(sortPl l).Perm l:=by
 have h:=(vP l.toArray).1;have h1:=h.1;have h2:=h.2.2;rw[show (yD l.toArray).extract 0 l.toArray.size=yD l.toArray from by rw[←h1];simp,show l.toArray.extract 0 l.toArray.size=l.toArray from by simp] at h2;exact h2
theorem Io (l:List Pl):(sortPl l).Pairwise fun a b=>a.node≤b.node:=by
 have h:=(vP l.toArray).2;have h1:=FB l.toArray;rw[List.pairwise_iff_getElem];intro i j hi hj hij;simp only[sortPl,Array.length_toList] at hi hj;have:=h i j (Nat.zero_le _) hij (by omega);rw[abe,getElem!_pos (yD l.toArray) j hj,getElem!_pos (yD l.toArray) i hi] at this;simp only[sortPl,Array.getElem_toList];simp at this;exact this
theorem NF (l:List Pl):decide ((sortPl l).Pairwise fun a b=>a.node<b.node)=decide (l.map (·.node)).Nodup:=by
 rw[decide_eq_decide];have hp:=(NE l).map (·.node);rw[←hp.nodup_iff];unfold List.Nodup;rw[List.pairwise_map];constructor
 ·intro h;exact h.imp fun {a b} h=>by omega
 intro h;exact ((Io l).and h).imp fun {a b} h=>by omega
def Lg.ok (l:Lg):Prop:=∀x∈l.av,x.aN.length≤8796093022208
section
variable {α:Type}
def Fr.ok (f:Fr):Prop:=0≤f.first∧f.first≤18446744073709551615∧f.aN.length≤8796093022208
def fr0:Fr:=⟨0,[]⟩
def adE (f:Ft):Rq:={ to:=f.set[f.at_.toNat]!,kind:=3,aY:=f.aY,n:=f.n,aU:=f.tag,sure:=0,copy:=0,body:=[],keep:=[] }
structure Hd (p:Prop):Prop where
 out:p
end
structure Cl where
 what:Int
 own:Int
 now:Int
 r:Rs
 l:Lg
deriving DecidableEq,Inhabited
def Cl.c (x:Cl):List PV:=[ii x.what,ii x.own,uu x.now,ii x.r.from_.node,uu x.r.from_.dB,ii x.r.kind,ii x.r.code,uu x.r.aY,uu x.r.n,uu x.r.aU,uu x.r.sure,bys x.r.body,
 uu x.l.id,ii x.l.w,ii x.l.a,uR x.l.av,ii x.l.closed,uu x.l.last]
def adF (l:List Fr):Bool:=decide (l.length>30)||l.any fun f=>decide ((f.aN.length:Int)>30)
def vQ (n:Int):Prop:=0≤n∧n≤18446744073709551615
def KW (n:Int):Prop:=-9223372036854775808≤n∧n≤9223372036854775807
def lgR (l:Lg):Prop:=vQ l.id∧KW l.w∧KW l.a∧KW l.closed∧vQ l.last∧∀f∈l.av,vQ f.first
structure Yi (n:Int)(f:Ft):Prop where
 n:f.n=n
 pos:0<f.set.length
 len:f.set.length≤5
 at0:0≤f.at_
 at1:f.at_<f.set.length
 body:f.body.length≤5000
 since:vQ f.since
 done:f.done=0∨f.done=1
theorem Yi.sm {n:Int}{f:Ft}(h:Yi n f):f.set.length≤8796093022208∧f.body.length≤140737488355328:=⟨by have:=h.len;omega,by have:=h.body;omega⟩
structure Mk where
 producer:Int
 seq:Int
 offset:Int
deriving DecidableEq,Inhabited
def Mk.c (x:Mk):List PV:=[ii x.producer,uu x.seq,uu x.offset]
def rP (l:List Mk):PV:=.sl false 3 (l.map Mk.c)
structure Cu where
 sub:Int
 at_:Int
deriving DecidableEq,Inhabited
def Cu.c (x:Cu):List PV:=[ii x.sub,uu x.at_]
def Hr (l:List Cu):PV:=.sl false 2 (l.map Cu.c)
structure Ch where
 aU:Int
 owner:Int
 inc:Int
 eY:Int
 first:Int
 trim:Int
 af:List Int
 seen:List Mk
 au:List Cu
deriving DecidableEq,Inhabited
def Ch.c (x:Ch):List PV:=[uu x.aU,ii x.owner,uu x.inc,uu x.eY,uu x.first,uu x.trim,l8 x.af,rP x.seen,Hr x.au]
def jL (l:List Ch):PV:=.sl false 9 (l.map Ch.c)
def dO (l:List Lg):PV:=.sl false 6 (l.map Lg.c)
structure Oc where
 code:Int
 aU:Int
 at_:Int
 aY:Int
 owner:Int
deriving DecidableEq,Inhabited
def Oc.c (x:Oc):List PV:=[ii x.code,uu x.aU,uu x.at_,uu x.aY,ii x.owner]
structure Pa where
 who:Int
 inc:Int
 n:Int
 out:Oc
deriving DecidableEq,Inhabited
def Pa.c (x:Pa):List PV:=[ii x.who,uu x.inc,uu x.n,ii x.out.code,uu x.out.aU,uu x.out.at_,uu x.out.aY,ii x.out.owner]
def uS (l:List Pa):PV:=.sl false 8 (l.map Pa.c)
structure Pn where
 version:Int
 next:Int
 channels:List Ch
 af:List Lg
 past:List Pa
deriving DecidableEq,Inhabited
def Pn.c (x:Pn):List PV:=[uu x.version,uu x.next,jL x.channels,dO x.af,uS x.past]
def cnt (n:Int):Bool:=!decide (n>4611686018427387903)
def Ip:Lg:=⟨0,0,0,[],0,0⟩
def aR (p:Pn)(id:Int):Option Lg:=p.af.find? fun l=>l.id==id
def jY (p:Pn):List Int:=p.af.map (·.id)
def gT (p:Pn):List Int:=p.channels.flatMap (·.af)
def bV (a b:Int):Int:=IntKind.u64.wrap (a+b)
def dP (p:Pn)(c:Ch):Int:=c.af.foldl (fun e id=>bV e ((aR p id).getD Ip).last) c.first
def gN (p:Pn)(c:Ch):Option Lg:=
 match c.af.getLast? with
 |none=>none
 | some id=>match aR p id with
   |none=>none
   |some l=>if l.closed==0 then some l else none
def dM (p:Pn)(n:Int):Bool:=decide (n≥1)&&decide (n≤(p.channels.length:Int))
def aL (p:Pn)(n:Int):Ch:=p.channels[(n-1).toNat]!
def pE (p:Pn)(n:Int):Int:=if dM p n then dP p (aL p n) else 0
def fK (p:Pn)(n:Int):Option Lg:=if dM p n then gN p (aL p n) else none
def vR (c:Ch):Bool:=
 if c.aU==0 then (c.owner==0&&(c.inc==0&&decide ((c.af.length:Int)=0))) else bS c.owner 1 15&&bS c.inc 1 4611686018427387903
def jM (l:List Int):Bool:=decide (l.Pairwise (· < ·))
def FE (l:List Int):List Int:=l.mergeSort fun x y=>decide (x≤y)
def BV (c:Ch)(x:Mk):Bool:=bS x.producer 1 15&&(bS x.seq 1 4611686018427387903&&decide (x.offset<c.first))
def Am (c:Ch):Bool:=decide ((c.seen.length:Int)≤6)&&(jM (c.seen.map (·.producer))&&(decide (c.seen.map (·.offset)).Nodup&&c.seen.all (BV c)))
def nT (x:Cu):Bool:=bS x.sub 1 3&&cnt x.at_
def iO (p:Pn):List Int→Bool
 |[]=>true
 | id::r=>(match aR p id with
   |none=>false
   |some l=>!(l.closed==0 && !r.isEmpty))&&iO p r
def mD (p:Pn)(c:Ch):Int:=if (gN p c).isSome then bV (dP p c) 8 else dP p c
def pF (p:Pn)(c:Ch):Bool:=
 (cnt c.aU&&(cnt c.eY&&cnt c.first))&&(vR c&&(decide ((c.af.length:Int)≤8)&&(jM c.af&&(bS c.trim c.first (mD p c)&&(cnt (bV (dP p c) 8) &&
 (iO p c.af&&(Am c&&(decide ((c.au.length:Int)≤3)&&(jM (c.au.map (·.sub))&&c.au.all nT)))))))))
def qP (x:Pa):Bool:=bS x.who 1 15&&(bS x.inc 1 4611686018427387903&&(bS x.n 1 4611686018427387903&&(bS x.out.code 0 9&&(bS x.out.owner 0 15&&(cnt x.out.aU&&(cnt x.out.at_&&cnt x.out.aY))))))
def jN (p:Pn):Bool:=
 cnt p.version&&(bS p.next 1 4611686018427387904&&(bS p.channels.length 1 3&&(p.af.all (fun l=>kL l&&decide (l.id<p.next))&&(jM (jY p)&&(decide (FE (gT p)=jY p) &&
 (p.channels.all (pF p)&&(jM (p.past.map (·.who))&&p.past.all qP)))))))
structure Sp where
 offset:Int
 aY:Int
 n:Int
deriving DecidableEq,Inhabited
def Sp.c (x:Sp):List PV:=[uu x.offset,uu x.aY,uu x.n]
def slS (l:List Sp):PV:=.sl false 3 (l.map Sp.c)
section
variable {α:Type}[Inhabited α](key:α→Int)
def uI (x y:α):Int:=Go.Lib.compareInt (key x) (key y)
def iP (d:Array α):Array α:=Go.Sort.pdq (Go.Proofs.ltOf (uI key)) d 0 d.size (Go.Lib.bitLen d.size) true true
def mR (l:List α):List α:=(iP key l.toArray).toList
theorem abk (x y:α):Go.Proofs.ltOf (uI key) x y=decide (key x<key y):=by
 unfold Go.Proofs.ltOf uI Go.Lib.compareInt;by_cases h1:key x<key y
 ·simp[h1]
 by_cases h2:key y<key x<;>simp[h1,h2]
theorem Tx:Go.Sort.SWO (Go.Proofs.ltOf (uI key)) where
 irrefl x:=by rw[abk];simp
 trans x y z h1 h2:=by rw[abk] at *;simp at *;omega
 ntrans x y z h1 h2:=by rw[abk] at *;simp at *;omega
theorem tN (d:Array α):Go.Sort.PermIn 0 d.size d (iP key d)∧Go.Sort.SortedIn (Go.Proofs.ltOf (uI key)) 0 d.size (iP key d):=
 Go.Sort.pdq_sorts (Go.Proofs.ltOf (uI key)) (Tx key) d 0 d.size (Go.Lib.bitLen d.size) true true (Nat.zero_le _) (Nat.le_refl _) (Or.inl rfl)
theorem qw (d:Array α):(iP key d).size=d.size:=(tN key d).1.1
theorem qx (l:List α):(mR key l).Perm l:=by
 have h:=(tN key l.toArray).1;have h1:=h.1;have h2:=h.2.2;rw[show (iP key l.toArray).extract 0 l.toArray.size=iP key l.toArray from by rw[←h1];simp,show l.toArray.extract 0 l.toArray.size=l.toArray from by simp] at h2;exact h2
theorem Iq (l:List α):(mR key l).Pairwise fun a b=>key a≤key b:=by
 have h:=(tN key l.toArray).2;have h1:=qw key l.toArray;rw[List.pairwise_iff_getElem];intro i j hi hj hij;simp only[mR,Array.length_toList] at hi hj;have:=h i j (Nat.zero_le _) hij (by omega);rw[abk,getElem!_pos (iP key l.toArray) j hj,getElem!_pos (iP key l.toArray) i hi] at this;simp only[mR,Array.getElem_toList];simp at this;exact this
theorem vS (l:List α):decide ((mR key l).Pairwise fun a b=>key a<key b)=decide (l.map key).Nodup:=by
 rw[decide_eq_decide];have hp:=(qx key l).map key;rw[←hp.nodup_iff];unfold List.Nodup;rw[List.pairwise_map];constructor
 ·intro h;exact h.imp fun {a b} h=>by omega
 intro h;exact ((Iq key l).and h).imp fun {a b} h=>by omega
end
def nN (p:Pn):Int→List Int→List (Int×Lg)
 |_,[]=>[]
 |a,id::r=>(a,(aR p id).getD Ip)::nN p (bV a ((aR p id).getD Ip).last) r
def Ht (sure:Int)(l:Lg):Int:=if l.closed==0 then (if 8<sure then 8 else sure) else l.last
def JF (a:Int)(l:Lg)(n:Nat):List Sp:=(List.range n).map fun (i:Nat)=>⟨bV a i,l.id,bV i 1⟩
def FH (p:Pn)(sure a:Int)(ids:List Int):List Sp:=(nN p a ids).flatMap fun x=>JF x.1 x.2 (Ht sure x.2).toNat
def nU (p:Pn)(n:Int):Bool:=decide (n≥1)&&(decide (n≤(p.channels.length:Int))&&jN p)
def jb (p:Pn)(n sure:Int):List Sp:=if nU p n then FH p sure (aL p n).first (aL p n).af else []
def tL (p:Pn)(n sure:Int):Int:=if nU p n then bV (aL p n).first (IntKind.u64.wrap (jb p n sure).length) else 0
def sp0:Sp:=⟨0,0,0⟩
def zb (p:Pn)(n sure:Int)(is:Sp→Bool):Sp×Int:=
 if nU p n then (match (jb p n sure).find? is with
  |some s=>(s,0)
  |none=>(sp0,4))
 else (sp0,1)
def qm (p:Pn)(n sure offset:Int):Sp×Int:=zb p n sure fun s=>s.offset==offset
def abh (p:Pn)(n sure aY k:Int):Int×Int:=
 ((zb p n sure fun s=>s.aY==aY&&s.n==k).1.offset,(zb p n sure fun s=>s.aY==aY&&s.n==k).2)
def eG (sure:Int):Int→List Lg→List Sp
 |_,[]=>[]
 |a,l::r=>JF a l (Ht sure l).toNat++eG sure (bV a l.last) r
theorem JG (p:Pn)(sure:Int):∀(ids:List Int) (a:Int),FH p sure a ids=eG sure a (ids.map fun id=>(aR p id).getD Ip)
 |[],a=>rfl
 | id::r,a=>by
   rw[List.map_cons,eG,←JG p sure r];simp only[FH,nN,List.flatMap_cons]
structure NH (l:Lg):Prop where
 last:0≤l.last∧l.last≤8
 alr:l.closed=0→l.last=0
inductive Row:List Lg→Prop where
 |nil:Row []
 |one (l:Lg):NH l→Row [l]
 |cons (l m:Lg) (r:List Lg):NH l→l.closed≠0→(∀x∈m::r,l.id≠x.id)→Row (m::r)→Row (l::m::r)
theorem ny {a b:Int}(h:0≤a+b∧a+b≤18446744073709551615):bV a b=a+b:=vO h.1 h.2
theorem FI {sure:Int}(hs:0≤sure){l:Lg}(h:NH l):0≤Ht sure l∧Ht sure l≤8:=by
 unfold Ht;have:=h.last;by_cases hc:l.closed==0
 ·rw[if_pos hc];split<;>omega
 rw[if_neg hc];exact h.last
theorem qo (a:Int)(l:Lg)(n:Nat):(JF a l n).length=n:=by simp[JF]
theorem KX (a:Int)(l:Lg)(n i:Nat)(h:i<(JF a l n).length):(JF a l n)[i]=⟨bV a i,l.id,bV i 1⟩:=by simp[JF]
theorem FJ (sure a:Int)(l:Lg):eG sure a [l]=JF a l (Ht sure l).toNat:=by simp[eG]
theorem pG {sure:Int}{l:Lg}(h:l.closed≠0):Ht sure l=l.last:=by
 unfold Ht;rw[if_neg (by simpa using h)]
theorem JH {sure:Int}(hs:0≤sure):∀{L:List Lg},Row L→∀(a:Int),(eG sure a L).length≤8*L.length
 |_,.nil,a=>by simp[eG]
 | _,.one l h,a=>by
   have:=FI hs h;rw[FJ,qo];simp only[List.length_singleton];omega
 | _,.cons l m r h hc hd ht,a=>by
   have:=FI hs h;have:=JH hs ht (bV a l.last);rw[eG,List.length_append,qo];simp only[List.length_cons] at *;omega
theorem JI {sure:Int}(hs:0≤sure):∀{L:List Lg},Row L→∀(a:Int),0≤a→a+8*L.length≤18446744073709551615→∀(i:Nat) (hi:i<(eG sure a L).length),(eG sure a L)[i].offset=a+i
 |_,.nil,a,h0,h1,i,hi=>by simp[eG] at hi
 | _,.one l h,a,h0,h1,i,hi=>by
   have:=FI hs h;simp only[FJ] at hi ⊢;have hi2:=hi;rw[qo] at hi2;rw[KX];show bV a i=a+i
   exact ny (by simp only[List.length_singleton] at h1;omega)
 | _,.cons l m r h hc hd ht,a,h0,h1,i,hi=>by
   have hl:=h.last;have hn:=pG (sure:=sure) hc;simp only[List.length_cons] at h1;have ha:bV a l.last=a+l.last:=ny (by omega);have ih:=JI hs ht (a+l.last) (by omega) (by simp only[List.length_cons];omega);have hsp:eG sure a (l::m::r)=JF a l l.last.toNat++eG sure (a+l.last) (m::r):=by
    show JF a l (Ht sure l).toNat++eG sure (bV a l.last) (m::r)=_
    rw[hn,ha]
   obtain⟨T,hT⟩:∃T,eG sure (a+l.last) (m::r)=T:=⟨_,rfl⟩;simp only[hT] at ih hsp;simp only[hsp] at hi ⊢;rw[List.length_append,qo] at hi;simp only[List.getElem_append,qo];by_cases h1:i<l.last.toNat
   ·rw[dif_pos h1,KX];exact ny (by omega)
   rw[dif_neg h1,ih (i-l.last.toNat) (by omega)];omega
def xZ (p:Pn):Prop:=∀l∈p.af,vQ l.last
theorem fT {p:Pn}{id:Int}{l:Lg}(h:aR p id=some l):l∈p.af∧l.id=id:=by
 unfold aR at h;exact⟨List.mem_of_find?_eq_some h,by simpa using List.find?_some h⟩
theorem Q6 {l:Lg}(h:kL l=true)(h0:0≤l.last):NH l:=by
 simp only[kL,Bool.and_eq_true,bS,decide_eq_true_eq] at h;obtain⟨⟨a1,a2⟩,⟨a3,a4⟩,a5,a6,⟨a7,a8⟩,a9⟩:=h;exact⟨by omega,fun e=>by omega⟩
theorem row_of {p:Pn}(hp:∀l∈p.af,kL l=true)(hr:xZ p):∀{ids:List Int},iO p ids=true→ids.Pairwise (· < ·)→Row (ids.map fun id=>(aR p id).getD Ip)
 |[],_,_=>.nil
 | id::r,h,hw=>by
   simp only[iO,Bool.and_eq_true] at h;obtain⟨h1,h2⟩:=h;rw[List.pairwise_cons] at hw;have ih:=row_of hp hr h2 hw.2;cases hf:aR p id with
   |none=>rw[hf] at h1;cases h1
   | some l=>
     rw[hf] at h1;obtain⟨hm,hid⟩:=fT hf;have hl:=Q6 (hp l hm) (hr l hm).1;cases r with
     | nil=>
       rw[List.map_cons,List.map_nil,hf];exact .one l hl
     | cons id2 r2=>
       rw[List.map_cons,hf];have hc:l.closed≠0:=by
        intro e;simp[e] at h1
       refine .cons l _ _ hl hc ?_ ih;intro x hx e;rw[←List.map_cons (f:=fun id=>(aR p id).getD Ip)] at hx;obtain⟨j,hj,rfl⟩:=List.mem_map.1 hx;have hlt:=hw.1 j hj;have:(aR p j).isSome=true:=by
        have hall:∀(q:List Int),iO p q=true→∀j∈q,(aR p j).isSome=true:=by
         intro q;induction q with
         |nil=>intro _ j hj;cases hj
         | cons k q ih2=>
           intro hq j hj;simp only[iO,Bool.and_eq_true] at hq;rcases List.mem_cons.1 hj with rfl|hj
           ·cases hk:aR p j with
            |none=>rw[hk] at hq;cases hq.1
            |some _=>rfl
           exact ih2 hq.2 j hj
        exact hall _ h2 j hj
       obtain⟨m,hm2⟩:=Option.isSome_iff_exists.1 this;rw[hm2] at e;have:=(fT hm2).2;simp only[Option.getD_some] at e;omega
structure ajy (p:Pn)(c:Ch):Prop where
 row:Row (c.af.map fun id=>(aR p id).getD Ip)
 len:c.af.length≤8
 first:c.first≤4611686018427387903
theorem Yk {p:Pn}(h:jN p=true)(hr:xZ p){c:Ch}(hc:c∈p.channels):ajy p c:=by
 simp only[jN,Bool.and_eq_true,List.all_eq_true] at h;obtain⟨h1,h2,h3,h4,h5,h6,h7,h8,h9⟩:=h;have hk:=h7 c hc;simp only[pF,Bool.and_eq_true,decide_eq_true_eq,cnt,Bool.not_eq_true',decide_eq_false_iff_not,jM] at hk;obtain⟨⟨k1,k2,k3⟩,k4,k5,k6,k7,k8,k9,k10⟩:=hk;exact⟨row_of (fun l hl=>(h4 l hl).1) hr k9 k6,by omega,by omega⟩
theorem En {p:Pn}{n:Int}(h:nU p n=true):aL p n∈p.channels:=by
 simp only[nU,Bool.and_eq_true,decide_eq_true_eq] at h;unfold aL;rw[getElem!_pos p.channels _ (by omega)];exact List.getElem_mem _
section
variable {p:Pn}{n sure:Int}(hh:nU p n=true)(hr:xZ p)(h0:0≤(aL p n).first)(hs:0≤sure)
include hh hr
theorem FK:jN p=true:=by
 simp only[nU,Bool.and_eq_true] at hh;exact hh.2.2
theorem Ao:jb p n sure=eG sure (aL p n).first ((aL p n).af.map fun id=>(aR p id).getD Ip):=by
 unfold jb;rw[if_pos hh,JG]
include h0 hs
theorem NI:(jb p n sure).length≤64:=by
 have hk:=Yk (FK hh hr) hr (En hh);rw[Ao hh hr];have h1:=JH hs hk.row (aL p n).first
 have:=hk.len;rw[List.length_map] at h1;omega
theorem Ap (i:Nat)(hi:i<(jb p n sure).length):(jb p n sure)[i].offset=(aL p n).first+i:=by
 have hk:=Yk (FK hh hr) hr (En hh);have e:=Ao (sure:=sure) hh hr;simp only[e] at hi ⊢;exact JI hs hk.row _ h0 (by have:=hk.first;have:=hk.len;rw[List.length_map];omega) i hi
theorem Yl (i:Nat)(hi:i<(jb p n sure).length):qm p n sure ((aL p n).first+i)=((jb p n sure)[i],0):=by
 unfold qm zb;rw[if_pos hh];have:(jb p n sure).find? (fun s=>s.offset==(aL p n).first+i)=some (jb p n sure)[i]:=by
  rw[List.find?_eq_some_iff_getElem];refine⟨by rw[Ap hh hr h0 hs i hi];simp,i,hi,rfl,fun j hj=>?_⟩;rw[Ap hh hr h0 hs j (by omega)];simp;omega
 rw[this]
end
theorem BX {p:Pn}{n sure o:Int}(h:nU p n=false):(qm p n sure o).2=1∧jb p n sure=[]∧tL p n sure=0:=by
 refine⟨?_,?_,?_⟩
 ·unfold qm zb;rw[if_neg (by rw[h];decide)]
 ·unfold jb;rw[if_neg (by rw[h];decide)]
 unfold tL;rw[if_neg (by rw[h];decide)]
structure LgB (l:Lg):Prop where
 av:l.av.length≤1000000
 aN:∀f∈l.av,f.aN.length≤1000000
theorem LgB.ok {l:Lg}(h:LgB l):l.ok:=fun x hx=>by have:=h.aN x hx;omega
structure ChB (c:Ch):Prop where
 af:c.af.length≤1000000
 seen:c.seen.length≤1000000
 au:c.au.length≤1000000
structure rR (p:Pn):Prop where
 channels:p.channels.length≤1000000
 af:p.af.length≤1000000
 past:p.past.length≤1000000
 ch:∀c∈p.channels,ChB c
 lg:∀l∈p.af,LgB l
 named:(gT p).length≤1000000
def aW (p:Pn)(id:Int):Lg:=(aR p id).getD Ip
theorem NJ {α:Type}(q:α→Bool)(l:List α):(ql q l = -1∧l.find? q=none)∨∃k,∃hk:k<l.length,ql q l=(k:Nat)∧l.find? q=some l[k]:=by
 rcases nM q l with ⟨h1,h2⟩|⟨k,hk,h1,h2,h3⟩
 ·exact .inl ⟨h1,by rw[List.find?_eq_none];intro x hx;rw[h2 x hx];decide⟩
 refine .inr ⟨k,hk,h1,?_⟩;rw[List.find?_eq_some_iff_getElem];exact⟨h2,k,hk,rfl,fun j hj=>by rw[h3 j (by omega) hj];rfl⟩
theorem Yn (p:Pn)(id:Int):(ql (fun l=>l.id==id) p.af = -1∧aR p id=none)∨∃k,∃hk:k<p.af.length,ql (fun l=>l.id==id) p.af=(k:Nat)∧aR p id=some p.af[k]:=NJ _ _
theorem ajz (a b:Int):decide (a≤b) = !decide (a>b):=by
 rw[Bool.eq_iff_iff];simp
theorem qy {p:Pn}{n:Int}(h:dM p n=true):∃i:Nat,∃hi:i<p.channels.length,n=((i+1:Nat):Int)∧aL p n=p.channels[i]:=by
 simp only[dM,Bool.and_eq_true,decide_eq_true_eq] at h;refine⟨(n-1).toNat,by omega,by omega,?_⟩;unfold aL;rw[getElem!_pos p.channels _ (by omega)]
theorem aeQ {p:Pn}{k:Nat}(hk:k<p.channels.length):dM p ((k+1:Nat):Int)=true∧aL p ((k+1:Nat):Int)=p.channels[k]:=by
 refine⟨?_,?_⟩
 ·simp only[dM,Bool.and_eq_true,decide_eq_true_eq];omega
 unfold aL;rw[show (((k+1:Nat):Int)-1).toNat=k from by omega,getElem!_pos p.channels k hk]
theorem JJ {α β:Type}(f:α→List β)(l:List α)(k:Nat)(h:k<l.length):(l.take (k+1)).flatMap f=(l.take k).flatMap f++f l[k]:=by
 rw[List.take_succ_eq_append_getElem h,List.flatMap_append];simp
theorem KY {α β:Type}(f:α→List β)(l:List α)(k:Nat)(h:k<l.length):((l.take k).flatMap f).length+(f l[k]).length≤(l.flatMap f).length:=by
 have:(l.take (k+1)).flatMap f <+: l.flatMap f:=by
  conv=>rhs;rw[←List.take_append_drop (k+1) l,List.flatMap_append]
  exact List.prefix_append _ _
 have:=this.length_le;rw[JJ f l k h,List.length_append] at this;exact this
theorem xE {α:Type}(f:α→Int)(l:List α):jM (l.map f)=decide (l.Pairwise fun a b=>f a<f b):=by
 unfold jM;exact decide_eq_decide.2 List.pairwise_map
theorem getLast?_get {α:Type}(l:List α)(h:0<l.length):l.getLast? = some l[l.length-1]:=by
 rw[List.getLast?_eq_getElem?,List.getElem?_eq_getElem (by omega)]
theorem jO (p:Pn):∀(r:List Int),iO p r=true↔∀i (hi:i<r.length),(aR p r[i]).isSome=true∧((aW p r[i]).closed=0→i+1=r.length)
 |[]=>by simp[iO]
 | id::r=>by
   have ih:=jO p r;simp only[iO,Bool.and_eq_true,ih];constructor
   ·rintro⟨h1,h2⟩ i hi
    cases i with
    | zero=>
      simp only[List.getElem_cons_zero,List.length_cons];cases hf:aR p id with
      |none=>rw[hf] at h1;cases h1
      | some l=>
        rw[hf] at h1;refine⟨rfl,fun h0=>?_⟩;simp only[aW,hf,Option.getD_some] at h0;simp[h0] at h1;simp[h1]
    | succ i=>
      simp only[List.getElem_cons_succ,List.length_cons];have:=h2 i (by simpa using hi);exact⟨this.1,fun h=>by have:=this.2 h;omega⟩
   intro h;refine⟨?_,fun i hi=>?_⟩
   ·have h0:=h 0 (by simp);simp only[List.getElem_cons_zero,List.length_cons] at h0;cases hf:aR p id with
    |none=>rw[hf] at h0;cases h0.1
    | some l=>
      simp only[aW,hf,Option.getD_some] at h0;simp only[Bool.not_eq_true',Bool.and_eq_false_iff,beq_eq_false_iff_ne,ne_eq,Bool.not_eq_false',List.isEmpty_iff];by_cases hc:l.closed=0
      ·right
       have:=h0.2 hc;exact List.eq_nil_of_length_eq_zero (by omega)
      exact .inl hc
   have:=h (i+1) (by simpa using hi);simp only[List.getElem_cons_succ,List.length_cons] at this;exact⟨this.1,fun h=>by have:=this.2 h;omega⟩
open Go.Sort
structure Rnd (D:Array Int)(a b lim:Nat)(wb wp:Bool)(d1:Array Int)(lX p:Nat)(hh:Hint)(d2:Array Int)(pv:Nat)(hint:Hint)(E:Array Int)(fin:Bool):Prop where
 bt:wb=true→d1=D∧lX=lim
 bf:wb=false→d1=breakPatterns D a b∧lX=lim-1
 c:choosePivot ltInt d1 a b=(p,hh)
 hd:hh=.decreasing→d2=reverseRange d1 a b∧pv=(b-1)-(p-a)∧hint=.increasing
 hn:hh ≠ .decreasing→d2=d1∧pv=p∧hint=hh
 py:wb=true→wp=true→hint=.increasing→partialInsertionSort ltInt d2 a b=(E,fin)
 pn:¬(wb=true∧wp=true∧hint=.increasing)→E=d2∧fin=false
 s1:d1.size=D.size
 s2:d2.size=D.size
 s3:E.size=D.size
 pa:a≤p
 pb:p<b
 va:a≤pv
 vb:pv<b
 le:lX≤lim
 done:fin=true→pdq ltInt D a b lim wb wp=E
 eq:fin=false→0<a→ltInt E[a-1]! E[pv]! = false→∀mid d4,partitionEqual ltInt E a b pv=(mid,d4) →
  a<mid∧mid≤b∧d4.size=D.size∧Below ltInt mid b d4∧pdq ltInt D a b lim wb wp=pdq ltInt d4 mid b lX wb wp
 pt:fin=false→(a=0∨ltInt E[a-1]! E[pv]! = true)→∀mid ap d4,partition ltInt E a b pv=(mid,ap,d4) →
  a≤mid∧mid<b∧d4.size=D.size∧Below ltInt a mid d4∧Below ltInt (mid+1) b d4 ∧
  (mid-a<b-mid→(pdq ltInt d4 a mid lX true true).size=D.size∧Below ltInt (mid+1) b (pdq ltInt d4 a mid lX true true) ∧
   pdq ltInt D a b lim wb wp=pdq ltInt (pdq ltInt d4 a mid lX true true) (mid+1) b lX (decide (mid-a≥(b-a) / 8)) ap) ∧
  (¬mid-a<b-mid→(pdq ltInt d4 (mid+1) b lX true true).size=D.size∧Below ltInt a mid (pdq ltInt d4 (mid+1) b lX true true) ∧
   pdq ltInt D a b lim wb wp=pdq ltInt (pdq ltInt d4 (mid+1) b lX true true) a mid lX (decide (b-mid≥(b-a) / 8)) ap)
theorem abj {D:Array Int}{a b lim:Nat}{wb wp:Bool}(h12:¬b-a≤12)(h0:¬lim=0)(hb:b≤D.size)(hB:Below ltInt a b D) :
  ∃d1 lX p hh d2 pv hint E fin,Rnd D a b lim wb wp d1 lX p hh d2 pv hint E fin:=by
 obtain⟨s1,B1,⟨hc1,hc2⟩,s2,B2,⟨hv1,hv2⟩,s3,B3⟩:=rd_facts (limit:=lim) (wb:=wb) (wp:=wp) swo_ltInt partialInsertionSort_holds reverseRange_holds (show a<b by omega) hb hB;refine⟨(rd ltInt D a b lim wb wp).d1,(rd ltInt D a b lim wb wp).lim,(rd ltInt D a b lim wb wp).c.1,(rd ltInt D a b lim wb wp).c.2,(rd ltInt D a b lim wb wp).d2,(rd ltInt D a b lim wb wp).pivot,
  (rd ltInt D a b lim wb wp).hint,(rd ltInt D a b lim wb wp).pi.1,(rd ltInt D a b lim wb wp).pi.2,?_⟩
 refine { bt:=?_,bf:=?_,c:=rfl,hd:=rd_dec,hn:=rd_not,py:=?_,pn:=?_,s1:=s1,s2:=s2,s3:=s3,pa:=hc1,pb:=hc2,va:=hv1,vb:=hv2,le:=rd_lim_le,done:=fun h=>pdq_done h12 h0 h,eq:=?_,pt:=?_ }
 ·rintro rfl;exact rd_true
 ·rintro rfl;exact rd_false
 ·intro h1 h2 h3;subst h1 h2;rw[rd_pi_yes (by simp[h3])]
 ·intro h;rw[rd_pi_no (by cases hx:wb<;>cases hy:wp<;>simp_all)];exact⟨rfl,rfl⟩
 ·intro hf ha hl mid d4 e;obtain⟨h1,h2,h3,h4,_⟩:=round_eq swo_ltInt (partitionEqual_holds ltInt) ha hv1 hv2 (by rw[s3];exact hb) B3 hl e;have h5:=pdq_eq (lt:=ltInt) (d:=D) (a:=a) (b:=b) (limit:=lim) (wb:=wb) (wp:=wp) h12 h0 hf (by simp[ha,hl]) (by rw[e];exact⟨h1,h2⟩);rw[e] at h5;exact⟨h1,h2,h3.trans s3,h4,h5⟩
 intro hf hl mid ap d4 e;obtain⟨h1,h2,h3,h4,h5,h6,h7⟩:=round_part swo_ltInt (partition_holds ltInt) hv1 hv2 (by rw[s3];exact hb) B3 e;have hl':(decide (a>0) && !ltInt (rd ltInt D a b lim wb wp).pi.1[a-1]! (rd ltInt D a b lim wb wp).pi.1[(rd ltInt D a b lim wb wp).pivot]!)=false:=by
  rcases hl with h|h<;>simp[h]
 refine⟨h1,h2,h3.trans s3,h4,h5,fun hlt=>?_,fun hlt=>?_⟩
 ·have hp:=pdq_sorts ltInt swo_ltInt d4 a mid (rd ltInt D a b lim wb wp).lim true true h1 (by omega) h4;have h8:=pdq_left (lt:=ltInt) (d:=D) (a:=a) (b:=b) (limit:=lim) (wb:=wb) (wp:=wp) h12 h0 hf hl' (by rw[e];exact⟨h1,h2⟩) (by rw[e];exact hlt);rw[e] at h8;exact⟨hp.1.1.trans (h3.trans s3),(h6 _ hp.1 hp.2).1,h8⟩
 have hp:=pdq_sorts ltInt swo_ltInt d4 (mid+1) b (rd ltInt D a b lim wb wp).lim true true (by omega) (by omega) h5;have h8:=pdq_right (lt:=ltInt) (d:=D) (a:=a) (b:=b) (limit:=lim) (wb:=wb) (wp:=wp) h12 h0 hf hl' (by rw[e];exact⟨h1,h2⟩) (by rw[e];exact hlt);rw[e] at h8;exact⟨hp.1.1.trans (h3.trans s3),(h7 _ hp.1 hp.2).1,h8⟩
theorem Q9 (l:List Int):(pdq ltInt l.toArray 0 l.toArray.size (bitsLen l.toArray.size) true true).toList=l.mergeSort (fun x y=>decide (x≤y)):=sortInt l
theorem Vg (h:Hint):h=.decreasing∨h ≠ .decreasing:=by cases h<;>simp
end Go.AX
end
section
namespace Go.AX
end Go.AX
end
section
namespace Go.AX
structure Und (n:Int)(S:List Pl)(a0:Nat)(has:Pl)(f:Ft)(now:Int)(J:Nat)(pend:Bool):Prop where
 good:Yi n f
 done:f.done=0
 set:f.set=S
 at_:f.at_=(((a0+J)%S.length:Nat):Int)
 since:f.since≤now
 seen:∀i,1≤i→i≤J→(i<J∨pend=false)→S[(a0+i)%S.length]! ≠ has
theorem Und.passed {n:Int}{S:List Pl}{a0:Nat}{has:Pl}{f:Ft}{now:Int}{J:Nat}(u:Und n S a0 has f now J true)(hne:(adE f).to≠has):Und n S a0 has f now J false:=by
 refine⟨u.good,u.done,u.set,u.at_,u.since,fun i h1 h2 h3=>?_⟩;by_cases c:i<J
 ·exact u.seen i h1 h2 (.inl c)
 have e:i=J:=by omega
 subst e;intro hx;apply hne;simp only[adE,u.set,u.at_,Int.toNat_natCast];exact hx
structure Cp where
 l:Lg
 from_:Pl
 to:Pl
 phase:Int
 n:Int
 none:List Pl
 body:List UInt8
 born:Int
 since:Int
deriving DecidableEq
def Cp.c (x:Cp):List PV:=[uu x.l.id,ii x.l.w,ii x.l.a,uR x.l.av,ii x.l.closed,uu x.l.last,ii x.from_.node,uu x.from_.dB,ii x.to.node,uu x.to.dB,ii x.phase,uu x.n,xD x.none,bys x.body,uu x.born,uu x.since]
def Cp.v (x:Cp)(no:AV):List AV:=[.pv (uu x.l.id),.pv (ii x.l.w),.pv (ii x.l.a),.pv (uR x.l.av),.pv (ii x.l.closed),.pv (uu x.l.last),.pv (ii x.from_.node),.pv (uu x.from_.dB),.pv (ii x.to.node),.pv (uu x.to.dB),.pv (ii x.phase),.pv (uu x.n),no,.pv (bys x.body),.pv (uu x.born),.pv (uu x.since)]
structure Cp.sm (c:Cp):Prop where
 h1:c.none.length≤8796093022208
 h2:c.body.length≤140737488355328
 h3:c.l.av.length≤4398046511104
 h4:c.l.ok
def Cp.z:List AV:=[.pv (uu 0),.pv (ii 0),.pv (ii 0),.pv Im,.pv (ii 0),.pv (uu 0),.pv (ii 0),.pv (uu 0),.pv (ii 0),.pv (uu 0),.pv (ii 0),.pv (uu 0),.pv Im,.pv Im,.pv (uu 0),.pv (uu 0)]
theorem abg {s s':AS}(ids:List Nat)(h:match Km s.hp ids with|some fs=>aa1 (s.app fs) s'|none=>False)(c:Ctx)(R:Real)(a:Act)(w:World)(g:bB c R s a w):∃R',bB c R' s' a w:=by
 split at h
 ·rename_i fs hfs;obtain⟨g1,_⟩:=jT g (fun _ _ h=>h) _ _ hfs;exact aj h c R a w g1
 exact h.elim
structure bg where
 who:Int
 inc:Int
 n:Int
 kind:Int
 channel:Int
 aU:Int
 aY:Int
 at_:Int
 now:Int
 sub:Int
 w:Int
 a:Int
 av:List Fr
 seen:List Mk
 from_:Pl
 nC:Pl
deriving DecidableEq,Inhabited
def bg.c (o:bg):List PV:=[ii o.who,uu o.inc,uu o.n,ii o.kind,ii o.channel,uu o.aU,uu o.aY,uu o.at_,uu o.now,ii o.sub,ii o.w,ii o.a,uR o.av,rP o.seen]++(o.from_.c++o.nC.c)
def Ca:Pl:=⟨0,0⟩
def gJ (o:bg)(b:Nat→Bool):bg:=
 { who:=o.who,inc:=o.inc,n:=o.n,kind:=o.kind,channel:=if b 0 then o.channel else 0,aU:=if b 1 then o.aU else 0,aY:=if b 2 then o.aY else 0,at_:=if b 3 then o.at_ else 0
   now:=if b 4 then o.now else 0,sub:=if b 5 then o.sub else 0,w:=if b 6 then o.w else 0,a:=if b 6 then o.a else 0,av:=if b 7 then o.av else [],seen:=if b 8 then o.seen else []
   from_:=if b 9 then o.from_ else Ca,nC:=if b 9 then o.nC else Ca }
def K3 (x:Pl):Bool:=decide (x.node≥1)&&(decide (x.node≤15)&&(decide (x.dB≥1)&&decide (x.dB≤4611686018427387903)))
def vU (l:List Pa)(o:bg):Option (Option Oc):=
 match l with
 |[]=>none
 | x::r=>if x.who≠o.who then vU r o
   else if x.inc=o.inc∧x.n=o.n then some (some x.out)
   else if x.inc>o.inc∨(x.inc=o.inc∧x.n>o.n) then some none
   else vU r o
def iJ (l:List Pa)(o:bg)(out:Oc):List Pa:=(iP Pa.who (l.filter (fun x=>!(x.who==o.who))++[(⟨o.who,o.inc,o.n,out⟩:Pa)]).toArray).toList
def bQ:Oc:=⟨0,0,0,0,0⟩
def iX (n:Int):Oc:=⟨n,0,0,0,0⟩
def kD (a b:Int)(A:List Ch)(c:Ch)(B:List Ch)(L:List Lg)(Q:List Pa):Pn:=⟨a,b,A++c::B,L,Q⟩
def tT (c:Ch)(o:bg):Ch:={ c with eY:=if o.now>c.eY then o.now else c.eY }
def NK (c:Ch)(o:bg):Bool:=(c.aU==0)||((c.owner==o.who)||(decide (o.now≥c.eY)&&decide (IntKind.u64.wrap (o.now-c.eY)≥12)))
def mF (c:Ch)(o:bg):Ch×Oc:=
 if !NK c o then (c,{ bQ with code:=5,aU:=c.aU,owner:=c.owner })
 else if c.aU==4611686018427387903 then (c,iX 3)
 else ({ c with aU:=IntKind.u64.wrap (c.aU+1),owner:=o.who,inc:=o.inc,eY:=o.now },{ bQ with aU:=IntKind.u64.wrap (c.aU+1),owner:=o.who })
def mo (a b:Int):Int:=if b>a then b else a
def lZ (p:Pn)(c:Ch)(o:bg):Ch×Oc:=
 if decide (o.at_>(if (fK p o.channel).isSome then IntKind.u64.wrap (pE p o.channel+8) else pE p o.channel)) then (c,iX 1)
 else ({ c with trim:=mo c.trim o.at_ },{ bQ with at_:=mo c.trim o.at_ })
def xI (l:List Cu)(n:Int):Int:=match l.find? fun x=>x.sub==n with
 |some x=>x.at_
 |none=>0
def FV (l:List Cu)(o:bg)(at_:Int):List Cu:=(iP Cu.sub (l.filter (fun x=>!(x.sub==o.sub))++[(⟨o.sub,at_⟩:Cu)]).toArray).toList
def uT (c:Ch)(o:bg)(at_:Int):Ch×Oc:=({ c with au:=FV c.au o at_ },{ bQ with at_:=at_ })
def jZ (p:Pn)(c:Ch)(o:bg):Option (Ch×Lg×Oc)×Oc:=
 if (fK p o.channel).isSome||(c.aU==0) then (none,iX 5)
 else if (decide ((c.af.length:Int)=8)||decide (p.next>4611686018427387903))||decide (bV (pE p o.channel) 16>4611686018427387903) then (none,iX 3)
 else (some ({ c with af:=c.af++[p.next] },⟨p.next,o.w,o.a,o.av,0,0⟩,{ bQ with aY:=p.next }),bQ)
def qz (p:Pn)(o:bg):Option Lg:=match fK p o.channel with
 |some x=>if x.id==o.aY then some x else none
 |none=>none
def vV (w:Int)(f:Fr):Bool:=!(decide (f.first>9)||decide (f.first<1))&&fC w [{ f with first:=1 }]
def Ty (l:List Fr):Fr:=l.headD fr0
def abt (l:List Fr):Fr:=l.getLast?.getD fr0
def NM (l:List Fr)(f:Fr):List Fr:=(if f.first==(abt l).first then l.dropLast else l)++[f]
def kM (p:Pn)(l:Lg):Pn:={ p with af:=p.af.map fun x=>if x.id==l.id then l else x }
def fV (p:Pn)(o:bg):Option Lg×Oc:=match qz p o with
 |none=>(none,iX 5)
 | some l=>
   let f:=Ty o.av
   let e:=abt l.av
   if (decide (f.first≥e.first)&&(decide ((l.av.length:Int)=6)&&(decide ((NM l.av f).length>l.av.length)&&vV l.w f))) then (none,iX 3)
   else if decide (f.first<e.first) || !fC l.w (NM l.av f) then (none,iX 5)
   else (some { l with av:=NM l.av f },bQ)
def fZ (p:Pn)(c:Ch)(o:bg):Option Lg×Oc:=match qz p o with
 |none=>(none,iX 5)
 | some l=>if !fC l.w o.av||(decide (o.at_>8)||decide (c.trim>bV (pE p o.channel) o.at_)) then (none,iX 5)
   else (some { l with av:=o.av,closed:=1,last:=o.at_ },bQ)
def dI (p:Pn)(trim:Int):List Int→Int→Nat×Int
 |[],first=>(0,first)
 | id::r,first=>
   let l:=aW p id
   if (l.closed==0)||decide (bV first l.last>trim) then (0,first)
   else let y:=dI p trim r (bV first l.last);(y.1+1,y.2)
def ku (rest:List Int)(n:Int):Bool:=match rest with
 |[]=>n==0
 |x::_=>n==x
def nD (p:Pn)(c:Ch)(o:bg):Option (Ch×List Lg)×Oc:=
 let y:=dI p c.trim c.af c.first
 if !ku (c.af.drop y.1) o.aY||o.seen.any (fun x=>decide (x.offset≥y.2)) then (none,iX 5)
 else (some ({ c with af:=c.af.drop y.1,first:=y.2,seen:=o.seen },p.af.filter fun l=>!(c.af.take y.1).contains l.id),{ bQ with at_:=y.2 })
def nO (o:bg)(l:Lg):Bool:=(l.id==o.aY)&&(l.closed==1)
def kz (o:bg)(f:Fr):Int:=ql (fun y=>y==o.from_) f.aN
def NP (o:bg)(f:Fr):Int:=ql (fun y=>y.node==o.nC.node) f.aN
def nY (o:bg)(f:Fr):Bool:=decide (kz o f≥0)&&(decide (NP o f≥0)&&(NP o f != kz o f))
def jk (o:bg)(f:Fr):Fr:=if decide (kz o f≥0) then { f with aN:=f.aN.set (kz o f).toNat o.nC } else f
def gP (p:Pn)(o:bg):Option Lg×Oc:=match p.af.find? (nO o) with
 |none=>(none,iX 5)
 | some l=>if l.av.any (nY o) then (none,iX 5)
   else if l.av.any (fun f=>decide (kz o f≥0)) then (some { l with av:=l.av.map (jk o) },bQ)
   else (none,iX 5)
def dV (p:Pn)(n:Int)(c:Ch):Pn:={ p with channels:=p.channels.set (n-1).toNat c }
def kT (p:Pn)(y:Option Lg×Oc):Pn×Oc:=(match y.1 with|some l=>kM p l|none=>p,y.2)
def iD (p:Pn)(c:Ch)(o:bg):Pn×Oc:=match (jZ p c o).1 with
 |some y=>({ dV p o.channel y.1 with af:=p.af++[y.2.1],next:=bV p.next 1 },y.2.2)
 |none=>(p,(jZ p c o).2)
def iK (p:Pn)(c:Ch)(o:bg):Pn×Oc:=match (nD p c o).1 with
 |some y=>({ dV p o.channel y.1 with af:=y.2 },(nD p c o).2)
 |none=>(p,(nD p c o).2)
def dG (p:Pn)(o:bg):Pn×Oc:=
 let c:=aL p o.channel
 if o.kind=1 then (dV p o.channel (mF c o).1,(mF c o).2)
 else if o.kind=2 then (dV p o.channel (tT c o),bQ)
 else if o.kind=3 then (p,{ bQ with at_:=c.trim })
 else if o.kind=4 then iD p c o
 else if o.kind=5 then kT p (fV p o)
 else if o.kind=6 then kT p (fZ p c o)
 else if o.kind=7 then (dV p o.channel (lZ p c o).1,(lZ p c o).2)
 else if o.kind=8 then iK p c o
 else if o.kind=9 then (dV p o.channel (uT c o (mo (xI c.au o.sub) o.at_)).1,(uT c o (mo (xI c.au o.sub) o.at_)).2)
 else if o.kind=10 then (dV p o.channel (uT c o o.at_).1,(uT c o o.at_).2)
 else if o.kind=11 then (p,{ bQ with at_:=xI c.au o.sub })
 else kT p (gP p o)
def Yu (n:Int):Nat:=
 if n=1 then 17 else if n=2 then 19 else if n=3 then 3 else if n=4 then 195 else if n=5 then 135 else if n=6 then 143 else if n=7 then 11 else if n=8 then 263 else if n=9 then 43 else if n=10 then 43 else if n=11 then 35 else if n=12 then 516 else 0
def dZ (n:Int)(i:Nat):Bool:=(Yu n).testBit i
def zi (l:List Mk):Bool:=decide ((l.length:Int)≤6)&&(l.all (fun x=>bS x.producer 1 15&&(bS x.seq 1 4611686018427387903&&cnt x.offset))&&(jM (l.map (·.producer))&&decide (l.map (·.offset)).Nodup))
def Yv (f:Fr):Bool:=cnt f.first&&f.aN.all fun x=>cnt x.dB
def pK (o:bg):Bool:=o.av.all Yv &&
 (if o.kind=4 then decide ((o.av.length:Int)=1)&&(decide (o.a≥1)&&(decide (o.a≤o.w)&&fC o.w o.av)) else if o.kind=5 then decide ((o.av.length:Int)=1) else if o.kind=6 then decide ((o.av.length:Int)≥1) else true)
def DZ (o:bg):Bool:=bS o.kind 1 12&&(bS o.who 1 15&&(decide (o.inc≥1)&&(decide (o.n≥1)&&(decide (o=gJ o (dZ o.kind)) &&
 ([o.inc,o.n,o.aU,o.aY,o.at_,o.now].all cnt&&((!dZ o.kind 0||bS o.channel 1 3)&&((!dZ o.kind 5||bS o.sub 1 3) &&
 ((!dZ o.kind 9||(K3 o.from_&&(K3 o.nC&&decide (o.from_≠o.nC))))&&(pK o&&zi o.seen)))))))))
def kU (p:Pn)(o:bg):Bool:=dZ o.kind 1&&(decide (o.channel≤(p.channels.length:Int))&&decide ((aL p o.channel).aU≠o.aU))
def doM (p:Pn)(o:bg):Pn×Oc:=
 let y:=if o.channel>(p.channels.length:Int) then (p,iX 4) else dG p o
 ({ y.1 with version:=bV p.version 1,past:=iJ p.past o y.2 },y.2)
def ic (p:Pn)(o:bg):Pn×Oc:=
 if !jN p || !DZ o then (p,iX 1)
 else match vU p.past o with
  |some (some out)=>(p,out)
  |some none=>(p,iX 9)
  | none=>if p.version=4611686018427387903 then (p,iX 3)
    else if kU p o then (p,{ bQ with code:=8,aU:=(aL p o.channel).aU,owner:=(aL p o.channel).owner })
    else doM p o
section
variable {P:Program}{c:Ctx}{R:Real}{s:AS}{a:Act}{w:World}
theorem bB.cut (g:bB c R s a w){b:Nat}{e:TypeId}{ver st:Nat}{rows:List (List PV)}(hb':lk s.hp b=some (.arr e ver st rows)){m:Nat}(hm0:m≤rows.length) :
  bB c R (s.app [(b,.arr e (ver+1) st (rows.take m))]) a w∧ai (aT c R ([(b,.arr e (ver+1) st (rows.take m))]++s.hp)) w ([(b,.arr e (ver+1) st (rows.take m))]++s.hp) R (.aB b (ver+1)) (jD st 0 m (bY R b rows.length)):=by
 have hR:∀b',b'≠b→R.blk b'=R.blk b'∧R.nil b'=R.nil b'∧R.cap b'=R.cap b':=fun _ _=>⟨rfl,rfl,rfl⟩
 have hlen:(rows.take m).length=m:=by simp;omega
 have hre:=g.boxes b _ hb';have hown2:∃ys,w.ownsRow 0 e st (bY R b (rows.take m).length) (rows.take m).length ys∧bK (aT c R s.hp) w st (rows.take m) ys:=by
  cases hn:R.nil b with
  | true=>
    have:=qj (g.boxes b _ hb') hn;subst this;exact⟨[],⟨by simp,.inl ⟨by simp[bY,hn],by simp⟩⟩,by simp[bK]⟩
  | false=>
    obtain⟨cur,hg,hs,hle,hm,hr,_⟩:=gU (g.boxes b _ hb') hn;have hr2:=lQ (i:=m) hr;obtain⟨t1,t2,t3⟩:=gD hr2;rw[hlen] at t1 t2;refine⟨cur.toList.take (m*st),⟨?_,.inr ⟨R.blk b,(R.cap b).1,cur,by simp[bY,hn],Nat.zero_le _,hg,?_,hm,hs,by rw[hlen]⟩⟩,t2⟩
    ·rw[List.length_take,hlen];omega
    rw[hlen];omega
 obtain⟨ys,ho,hr⟩:=hown2;obtain⟨g2,hr2⟩:=g.sH (b:=b) (e:=e) (ver:=ver+1) (st:=st) (rows:=rows.take m) (R':=R) (.inr ⟨_,_,_,_,hb',by omega⟩) hR (nI.refl _ w)
  (fun hn=>.inl (by rw[hb'];exact⟨hn,rfl⟩)) ho hr
 refine⟨g2,?_⟩;have:jD st 0 m (bY R b rows.length)=bY R b (rows.take m).length:=by
  rw[hlen];unfold bY;split
  ·rfl
  simp only[jD,Nat.sub_zero,Nat.zero_mul];split<;>rfl
 rw[this];exact hr2
theorem La {f:FuncId}{args:List AV}{hp:List (Nat×aA)}{b:Nat}{e:TypeId}{ver st m:Nat}{rows:List (List PV)}{rest:List (Nat×aA)}
  (h:dU P f args hp (.sub b ver st 0 m) ((b,.arr e ver st rows)::rest)) (hm:m≤rows.length):dU P f args hp (.aB b (ver+1)) ((b,.arr e (ver+1) st (rows.take m))::rest):=by
 refine⟨h.1,fun c R w dm hh ha=>(h.2 c R w dm hh ha).mono ?_⟩;rintro ex w' ⟨v,r0,l9,R',rfl,⟨e1,e2⟩,PW,hr⟩
 rw[e1,e2] at hr;rw[e2] at PW;have g:bB c R' ⟨[],0,(b,.arr e ver st rows)::rest⟩ { tmps:=Array.replicate c.n undef,defers:=[] } w':=
  PW.Xx (fun t v h=>by simp[lk] at h) (by simp) ⟨[],⟨fun d h=>by simp at h,rfl,by simp,fun d h=>by simp at h,fun d h=>by simp at h⟩⟩
 have hb:lk ((b,aA.arr e ver st rows)::rest) b=some (.arr e ver st rows):=by rw[ax,if_pos rfl]
 obtain⟨g1,h1⟩:=g.cut hb hm;simp only[ai,hb,aS] at hr;obtain⟨u,⟨_,_,hu⟩,_,rfl⟩:=hr;rw[hu (by trivial)];have hc:∀k,lk ((b,aA.arr e (ver+1) st (rows.take m))::rest) k=lk ([(b,.arr e (ver+1) st (rows.take m))]++(b,aA.arr e ver st rows)::rest) k:=by
  intro k;simp only[List.cons_append,List.nil_append,ax];split<;>rfl
 obtain⟨g2,m2⟩:=Yj hc g1.hap;exact⟨_,_,_,R',rfl,⟨rfl,rfl⟩,g2,m2 _ _ h1⟩
end
section
variable {P:Program}{c:Ctx}{R:Real}{s:AS}{a:Act}{w:World}
end
section
variable {P:Program}{c:Ctx}{R:Real}{s:AS}{a:Act}{w:World}
end
section
variable {P:Program}{c:Ctx}{R:Real}{s:AS}{a:Act}{w:World}
theorem Oj {N:Nat→Prop}:∀{ps:List PV} {vs r:List Value},FL (bE N w) ps vs→(∀v∈vs,v.oneCell'=true)→gq N w ps (vs++r)
 |[],vs,r,h,_=>by simp only[gq]
 | p::ps,vs,r,h,h1=>by
   obtain⟨v,r',rfl,h2,h3⟩:=h;simp only[gq,List.cons_append];exact⟨v,r'++r,rfl,h1 v (by simp),h2,Oj h3 fun u hu=>h1 u (by simp[hu])⟩
theorem bB.YL (g:bB c R s a w){b:Nat}{e:TypeId}{v st:Nat}{pre post:List (List PV)}{row:List AV}{ps:List PV}{fs:List (Nat×aA)}(hb:lk s.hp b=some (.dN e v st pre row post))
  (hps:I6 s.hp row=some ps) (hfs:Km s.hp (dY row)=some fs) (hbf:lk fs b=none) :
  bB c R (s.app ((b,.arr e v st (pre++ps::post))::fs)) a w∧∀u x,ai (aT c R s.hp) w s.hp R u x→ai (aT c R ((b,.arr e v st (pre++ps::post))::(fs++s.hp))) w ((b,.arr e v st (pre++ps::post))::(fs++s.hp)) R u x:=by
 obtain⟨xs,k1,k2,k3,hrow,k5⟩:=g.boxes b _ hb;obtain⟨g1,m1,n1,o1⟩:=jT g (fun _ _ h=>h) _ _ hfs;have hFC:=(bF _ _ _ _ _ _).1 hrow;have hL:bT (aT c R s.hp) w s.hp R row ((xs.drop (pre.length*st)).take st):=by
  have:∀(l:List AV) (vs:List Value),bN (aT c R s.hp) w s.hp R l vs→bT (aT c R s.hp) w s.hp R l vs:=by
   intro l;induction l with
   |nil=>intro vs h;simpa only[bN,bT] using h
   | cons y l ih=>
     intro vs h;simp only[bN,bT] at h ⊢;obtain⟨z,r,e,_,h1,h2⟩:=h;exact⟨z,r,e,h1,ih _ h2⟩
  exact this _ _ hrow
 have hP:=iF g (fun _ _ h=>h) n1 row ps _ (fun b hb=>o1 b (.inr hb)) hps hL;have hb1:lk (s.app fs).hp b=some (.dN e v st pre row post):=by
  show lk (fs++s.hp) b=_
  rw[fQ,hbf];exact hb
 have hl:(pre++ps::post).length=pre.length+(1+post.length):=by simp[Nat.add_comm]
 obtain⟨g2,m2⟩:=g1.JS (bD:=.arr e v st (pre++ps::post)) hb1 (fun off v h=>h.elim) (fun ver u h=>by simpa only[aS,hl] using h) (fun ver i off u h=>h) (fun r h=>h) (fun hm hN=>by
  refine⟨xs,by rw[hl];exact k1,Ci (aV (fun r _ h=>n1 r (hN r h)) (fun _ _ _=>rfl) _ _ _ k2) ?_ ?_ (aV (fun r _ h=>n1 r (hN r h)) (fun _ _ _=>rfl) _ _ _ k5)⟩
  ·rw[jf] at hP;rw[←hP.length,hFC.length];exact k3
  have hP2:=oC (fun r _ h=>hN r h) (fun _ _ _=>rfl) _ _ hP;rw[jf] at hP2;have:=Oj (r:=(xs.drop (pre.length*st)).drop st) hP2 hFC.one;rwa [List.take_append_drop] at this)
 exact⟨g2,fun u x h=>m2 u x (m1 u x h)⟩
theorem jr {f:FuncId}{args:List AV}{hp:List (Nat×aA)}{r r2:AV}{hp' hp2:List (Nat×aA)}(h:dU P f args hp r hp')(b:Nat){e:TypeId}{v st:Nat}{pre post:List (List PV)}{row:List AV}{ps:List PV}
  {fs:List (Nat×aA)} (hb:lk hp' b=some (.dN e v st pre row post)) (hps:I6 hp' row=some ps) (hfs:Km hp' (dY row)=some fs) (hbf:lk fs b=none)
  (e2:Qv ((b,.arr e v st (pre++ps::post))::(fs++hp')) r (fun x h=>x=r2∧h=hp2)):dU P f args hp r2 hp2:=by
 refine⟨h.1,fun c R w dm hh ha=>(h.2 c R w dm hh ha).mono ?_⟩;rintro ex w' ⟨x,r0,l9,R',rfl,⟨e1,e3⟩,PW,hr⟩
 rw[e1,e3] at hr;rw[e3] at PW;have g:bB c R' ⟨[],0,hp'⟩ { tmps:=Array.replicate c.n undef,defers:=[] } w':=
  PW.Xx (fun t v h=>by simp[lk] at h) (by simp) ⟨[],⟨fun d h=>by simp at h,rfl,by simp,fun d h=>by simp at h,fun d h=>by simp at h⟩⟩
 obtain⟨g1,m1⟩:=g.YL hb hps hfs hbf;obtain⟨r',Ik,R'',hQ,h1,h2⟩:=mO e2 g1.hap (m1 _ _ hr);exact⟨x,r',Ik,R'',rfl,hQ,h1,h2⟩
end
section
variable {c:Ctx}{R:Real}{s:AS}{a:Act}{w:World}
theorem bB.swap (g:bB c R s a w){R':Real}{fs:List (Nat×aA)}(hY:R'.Y=R.Y)
  (hR:∀b,lk fs b=none→R'.blk b=R.blk b∧R'.nil b=R.nil b∧R'.cap b=R.cap b)
  (r1:∀b box,lk fs b=some box→∀off v,aX R b off v (lk s.hp b)→aX R' b off v (some box))
  (r2:∀b box,lk fs b=some box→∀ver v,aS R b ver v (lk s.hp b)→aS R' b ver v (some box))
  (r3:∀b box,lk fs b=some box→∀ver i off v,aZ R b ver i off v (lk s.hp b)→aZ R' b ver i off v (some box))
  (ho:∀r,owned R' (fs++s.hp) r→owned R s.hp r)
  (hinj:∀b b' r,aI R' b r (lk (fs++s.hp) b)→aI R' b' r (lk (fs++s.hp) b')→b=b')
  (EZ:(∀r,aT c R' (fs++s.hp) r→aT c R s.hp r)→(∀u x,ai (aT c R s.hp) w s.hp R u x→ai (aT c R' (fs++s.hp)) w (fs++s.hp) R' u x) →
   ∀b box,lk fs b=some box→eB (aT c R' (fs++s.hp)) w (fs++s.hp) R' b box) :
  bB c R' (s.app fs) a w∧∀u x,ai (aT c R s.hp) w s.hp R u x→ai (aT c R' (fs++s.hp)) w (fs++s.hp) R' u x:=by
 have hN:∀r,aT c R' (fs++s.hp) r→aT c R s.hp r:=fun r h=>h.imp id (ho r)
 have q1:∀b off v,aX R b off v (lk s.hp b)→aX R' b off v (lk (fs++s.hp) b):=fun b off v h=>by
  rw[fQ];cases hb:lk fs b with
  |none=>exact jW (hR b hb) h
  |some box=>exact r1 b box hb off v h
 have q2:∀b ver v,aS R b ver v (lk s.hp b)→aS R' b ver v (lk (fs++s.hp) b):=fun b ver v h=>by
  rw[fQ];cases hb:lk fs b with
  |none=>exact lu (hR b hb) h
  |some box=>exact r2 b box hb ver v h
 have q3:∀b ver i off v,aZ R b ver i off v (lk s.hp b)→aZ R' b ver i off v (lk (fs++s.hp) b):=fun b ver i off v h=>by
  rw[fQ];cases hb:lk fs b with
  |none=>exact lD (hR b hb) h
  |some box=>exact r3 b box hb ver i off v h
 have hm:∀u x,ai (aT c R s.hp) w s.hp R u x→ai (aT c R' (fs++s.hp)) w (fs++s.hp) R' u x:=
  fun u x h=>bZ (fun r _ hr=>hN r hr) (fun _ _ _=>rfl) q1 q2 q3 u x h
 refine⟨⟨?_,g.size,by rw[hY];exact g.lo,?_,?_,?_,hinj,fun r h=>g.free r (ho r h),g.jE,fun r h=>g.iL r (ho r h),fun v x h=>hm v x (g.kept v x h)⟩,hm⟩
 ·intro t v hv;obtain⟨x,hx,hr⟩:=g.slots t v hv;exact⟨x,hx,hm _ _ hr⟩
 ·obtain⟨Ds,h⟩:=g.marks;exact⟨Ds,h.low,h.eq,h.nodup,h.obj,fun D hD hx=>h.free D hD (ho D hx)⟩
 ·exact⟨g.fixed.obj,fun r o hr hx=>g.fixed.free r o hr (ho r hx),g.fixed.nc⟩
 intro b box hb;have hb:lk (fs++s.hp) b=some box:=hb;cases hf:lk fs b with
 | none=>
   rw[fQ,hf] at hb;obtain⟨e1,e2,e3⟩:=hR b hf;exact zq hN q1 q2 q3 hY e1 e2 e3 (g.boxes b box hb)
 | some bx=>
   rw[fQ,hf] at hb;cases hb;exact EZ hN hm b _ hf
theorem abT {N:Nat→Prop}{ed:TypeId}{sd:Nat}{rr:List (List PV)}{v:Value}{ys:List Value}(a3:w.ownsRow 0 ed sd v rr.length ys)(a4:bK N w sd rr ys)(hN:∀k,v.ownBlock=some k→¬N k):bE N w (.sl false sd rr) v:=by
 obtain⟨q1,q2⟩:=a3;simp only[bE];rcases q2 with ⟨q2,q3⟩|⟨g',cap,cur,e1,_,hg,hle,hm,hs,ht⟩
 ·exact⟨none,0,0,q2,q3.symm,⟨Nat.le_refl _,by omega⟩,fun _=>⟨by trivial,by trivial⟩,fun ad ha=>by cases ha⟩
 refine⟨_,_,_,e1,rfl,⟨hle,by unfold maxLen at hm;omega⟩,fun hp=>(by cases hp),fun ad ha=>?_⟩;cases ha;refine .inr ⟨rfl,hN _ (by rw[e1];rfl),cur,_,_,hg,?_⟩;have:=oN (cur.toList.drop (rr.length*sd)) a4;rw[←ht,List.take_append_drop] at this;simpa using this
theorem Gg {N:Nat→Prop}{q:PV}{v:Value}(hv:bE N w q v):∀(r:List PV) (j:Nat) (xs:List Value),r[j]? = some q→gq N w (r.set j (.sc v)) xs→gq N w r xs
 |[],j,xs,h,_=>by simp at h
 | p::r,0,xs,h,h'=>by
   simp only[List.getElem?_cons_zero,Option.some.injEq] at h;subst h;simp only[List.set_cons_zero,gq] at h' ⊢;obtain⟨u,t,e,b1,b2,b3⟩:=h';simp only[bE] at b2;subst b2;exact⟨u,t,e,b1,hv,b3⟩
 | p::r,j+1,xs,h,h'=>by
   simp only[List.getElem?_cons_succ] at h;simp only[List.set_cons_succ,gq] at h' ⊢;obtain⟨u,t,e,b1,b2,b3⟩:=h';exact⟨u,t,e,b1,b2,Gg hv r j _ h b3⟩
theorem zw {N N':Nat→Prop}(hN:∀r,N' r→N r){st j:Nat}{ed:TypeId}{sd:Nat}:∀{hs:List (Option Value)} {rs:List (Bool×List PV)} {xs:List Value},(∀v,some v∈hs→∀k,v.ownBlock=some k→¬N' k) →
  dK N w st j ed sd hs rs xs→bK N' w st (rs.map (·.2)) xs
 |[],[],xs,_,_=>by simp only[List.map_nil,bK]
 |[],_::_,xs,_,h=>by simp only[dK] at h
 |_::_,[],xs,_,h=>by simp only[dK] at h
 | h::hs,(fl,r)::rs,xs,hk,hh=>by
   simp only[dK] at hh;obtain⟨h1,h2,h3⟩:=hh;simp only[List.map_cons,bK];refine⟨h1,?_,zw hN (fun v hv=>hk v (by simp[hv])) h3⟩;cases h with
   | none=>cases fl with
     |false=>exact bX (fun r _ h=>hN r h) (fun _ _ _=>rfl) _ _ h2
     |true=>exact h2.elim
   | some v=>cases fl with
     |false=>exact h2.elim
     | true=>
       obtain⟨rr,ys,a1,a0,a2,a3,a4⟩:=h2;exact Gg (abT a3 (aV (fun r _ h=>hN r h) (fun _ _ _=>rfl) _ _ _ a4) (hk v (by simp))) r j xs a1 (bX (fun r _ h=>hN r h) (fun _ _ _=>rfl) _ _ a2)
theorem bB.YZ (g:bB c R s a w){b:Nat}{e:TypeId}{ver st j:Nat}{ed:TypeId}{sd:Nat}{pre post:List (Bool×List PV)}(hb:lk s.hp b=some (.fP e ver st j ed sd pre [] post)) :
  bB c R (s.app [(b,.arr e ver st (pre.map (·.2)++post.map (·.2)))]) a w ∧
   ∀u x,ai (aT c R s.hp) w s.hp R u x→ai (aT c R ((b,.arr e ver st (pre.map (·.2)++post.map (·.2)))::s.hp)) w ((b,.arr e ver st (pre.map (·.2)++post.map (·.2)))::s.hp) R u x:=by
 have hl:(pre.map (·.2)++post.map (·.2)).length=pre.length+(dJ []+post.length):=by simp[dJ]
 obtain⟨xs,hs1,hs2,a1,a2,a3,a4,a5,a6,a7⟩:=g.boxes b _ hb;refine g.JS hb (fun off v h=>h.elim) (fun ver u h=>by simpa only[aS,hl] using h) (fun ver i off u h=>h) (fun r h=>.inl h) (fun hm hN=>?_);have hp:∀v,some v∈hs1++hs2→∀k,v.ownBlock=some k→¬aT c R ((b,aA.arr e ver st (pre.map (·.2)++post.map (·.2)))::s.hp) k:=by
  intro v hv k hk;have Oy:aI R b k (lk s.hp b):=by rw[hb];exact .inr ⟨v,by rw[a1];exact hv,hk⟩
  rintro (hF|⟨b',ho⟩)
  ·exact g.free k ⟨b,Oy⟩ hF
  rw[ax] at ho;split at ho
  ·rename_i e1;subst e1;exact a7.2 v k (by rw[a1];exact hv) hk ho.1 ho.2
  rename_i e1;exact e1 (g.inj b' b k ho Oy).symm
 refine⟨xs,by rw[hl];exact a2,Aj (zw hN (fun v hv=>hp v (by simp[hv])) a3) ?_⟩;rw[List.length_map];have:=zw hN (fun v hv=>hp v (by simp[hv])) a6;simpa[dJ] using this
end
theorem wK {N:Nat→Prop}{w:World}{st j:Nat}{ed:TypeId}{sd:Nat}:∀{hs1 hs2:List (Option Value)} {r1 r2:List (Bool×List PV)} {xs:List Value},
  dK N w st j ed sd hs1 r1 xs→dK N w st j ed sd hs2 r2 (xs.drop (r1.length*st))→dK N w st j ed sd (hs1++hs2) (r1++r2) xs
 |[],hs2,[],r2,xs,_,h=>by simpa using h
 |[],_,_::_,_,xs,h,_=>by simp only[dK] at h
 |_::_,_,[],_,xs,h,_=>by simp only[dK] at h
 | h::hs1,hs2,(fl,r)::r1,r2,xs,hh,h2=>by
   simp only[List.cons_append,dK] at hh ⊢;obtain⟨a1,a2,a3⟩:=hh;refine⟨a1,a2,wK a3 ?_⟩;rw[List.drop_drop,show st+r1.length*st=((fl,r)::r1).length*st by rw[List.length_cons,Nat.succ_mul];omega];exact h2
theorem abU (R:Real)(b n:Nat):(bY R b n).oneCell'=true:=by unfold bY;split<;>rfl
theorem abV {R:Real}{b n r:Nat}(h:(bY R b n).ownBlock=some r):R.nil b=false∧R.blk b=r:=by
 simp only[bY] at h;cases hnil:R.nil b with
 |true=>simp[hnil,Value.ownBlock] at h
 |false=>simp[hnil,Value.ownBlock] at h;exact⟨rfl,h⟩
theorem TU {N:Nat→Prop}{w:World}{hp:List (Nat×aA)}{R:Real}{d vd:Nat}{hv:Value}(hr:∀v,aS R d vd v (lk hp d)→v=hv) :
  ∀(cs:List PV) (j:Nat) (vs:List Value),bN N w hp R ((cs.map AV.pv).set j (.aB d vd)) vs→FC (bE N w) (cs.set j (.sc hv)) vs
 |[],j,vs,h=>by simpa only[List.map_nil,List.set_nil,bN,FC] using h
 | p::cs,0,vs,h=>by
   simp only[List.map_cons,List.set_cons_zero,bN,FC] at h ⊢;obtain⟨v,r,e,h1,h2,h3⟩:=h;refine⟨v,r,e,h1,?_,?_⟩
   ·simp only[ai] at h2;simp only[bE];exact hr v h2
   rw[bF] at h3;have:∀(cs:List PV) (vs:List Value),FC (ai N w hp R) (cs.map AV.pv) vs→FC (bE N w) cs vs:=by
    intro cs;induction cs with
    |nil=>intro vs h;exact h
    | cons p cs ih=>
      intro vs h;obtain⟨v,r,e,h1,h2,h3⟩:=h;exact⟨v,r,e,h1,by simpa only[ai] using h2,ih _ h3⟩
   exact this cs r h3
 | p::cs,j+1,vs,h=>by
   simp only[List.map_cons,List.set_cons_succ,bN,FC] at h ⊢;obtain⟨v,r,e,h1,h2,h3⟩:=h;exact⟨v,r,e,h1,by simpa only[ai] using h2,TU hr cs j r h3⟩
theorem TV {N:Nat→Prop}{w:World}{hp:List (Nat×aA)}{R:Real}{d vd:Nat}{hv:Value}(hr:aS R d vd hv (lk hp d)) :
  ∀(cs:List PV) (j:Nat) (vs:List Value),FC (bE N w) (cs.set j (.sc hv)) vs→bN N w hp R ((cs.map AV.pv).set j (.aB d vd)) vs
 |[],j,vs,h=>by simpa only[List.map_nil,List.set_nil,bN,FC] using h
 | p::cs,0,vs,h=>by
   simp only[List.map_cons,List.set_cons_zero,bN,FC] at h ⊢;obtain⟨v,r,e,h1,h2,h3⟩:=h;refine⟨v,r,e,h1,?_,?_⟩
   ·simp only[bE] at h2;subst h2;simp only[ai];exact hr
   rw[bF];have:∀(cs:List PV) (vs:List Value),FC (bE N w) cs vs→FC (ai N w hp R) (cs.map AV.pv) vs:=by
    intro cs;induction cs with
    |nil=>intro vs h;exact h
    | cons p cs ih=>
      intro vs h;obtain⟨v,r,e,h1,h2,h3⟩:=h;exact⟨v,r,e,h1,by simpa only[ai] using h2,ih _ h3⟩
   exact this cs r h3
 | p::cs,j+1,vs,h=>by
   simp only[List.map_cons,List.set_cons_succ,bN,FC] at h ⊢;obtain⟨v,r,e,h1,h2,h3⟩:=h;exact⟨v,r,e,h1,by simpa only[ai] using h2,TV hr cs j r h3⟩
theorem afi {l:List (Option Value)}{r:Nat}(h:r∈l.filterMap fun h=>h.bind Value.ownBlock):∃v,some v∈l∧v.ownBlock=some r:=by
 obtain⟨o,h1,h2⟩:=List.mem_filterMap.1 h;cases o with
 |none=>cases h2
 |some v=>exact⟨v,h1,h2⟩
theorem abW {l:List (Option Value)}{r:Nat}{v:Value}(h:some v∈l)(h2:v.ownBlock=some r):r∈l.filterMap fun h=>h.bind Value.ownBlock:=
 List.mem_filterMap.2 ⟨some v,h,h2⟩
section
variable {c:Ctx}{R:Real}{s:AS}{a:Act}{w:World}
theorem bB.afj (g:bB c R s a w){b d:Nat}{e:TypeId}{ver st j:Nat}{ed:TypeId}{sd:Nat}{pre post:List (Bool×List PV)}{row:List AV}{vd:Nat}{rr:List (List PV)}{cs:List PV}
  (hb:lk s.hp b=some (.fP e ver st j ed sd pre row post)) (hd:lk s.hp d=some (.arr ed vd sd rr)) (hcs:cs[j]? = some (.sl false sd rr)) (hrow:row=(cs.map AV.pv).set j (.aB d vd)) :
  ∃R',bB c R' (s.app [(b,.fP e ver st j ed sd (pre++[(true,cs)]) [] post),(d,.kE (vd+1) sd [])]) a w ∧
   ∀u x,ai (aT c R s.hp) w s.hp R u x→ai (aT c R' ([(b,.fP e ver st j ed sd (pre++[(true,cs)]) [] post),(d,.kE (vd+1) sd [])]++s.hp)) w ([(b,.fP e ver st j ed sd (pre++[(true,cs)]) [] post),(d,.kE (vd+1) sd [])]++s.hp) R' u x:=by
 obtain⟨xs,hs1,hs2,a1,a2,a3,a4,a5,a6,a7⟩:=g.boxes b _ hb;obtain⟨ys,d1,d2⟩:=g.boxes d _ hd;have hdb:d≠b:=fun e1=>by rw[e1,hb] at hd;cases hd
 have hjl:j<cs.length:=(List.getElem?_eq_some_iff.1 hcs).1;have hrl:row.length=cs.length:=by rw[hrow];simp
 have hO:dJ row=1:=by
  cases hq:row with
  |nil=>rw[hq] at hrl;simp at hrl;omega
  |cons _ _=>rfl
 simp only[hO,Nat.one_mul] at a2 a4 a5 a6;obtain⟨R',hR'⟩:∃R',R'=qV R b (hs1++some (bY R d rr.length)::hs2):=⟨_,rfl⟩;have hcap:(R'.cap b).2=hs1++some (bY R d rr.length)::hs2:=by subst hR';simp[qV]
 have hsl:∀b' n,bY R' b' n=bY R b' n:=fun b' n=>by subst hR';exact Ox
 have hbl:R'.blk=R.blk∧R'.nil=R.nil∧R'.Y=R.Y:=by subst hR';exact⟨rfl,rfl,rfl⟩
 have hRc:∀b',b'≠b→R'.cap b'=R.cap b':=fun b' h=>by subst hR';exact TT h
 obtain⟨B,hB⟩:∃B,B=aA.fP e ver st j ed sd (pre++[(true,cs)]) [] post:=⟨_,rfl⟩;rw[←hB];have l1:∀{b':Nat} {box:aA},lk [(b,B),(d,aA.kE (vd+1) sd [])] b'=some box→(b'=b∧box=B)∨(b'=d∧box=.kE (vd+1) sd []):=by
  intro b' box h;rw[ax] at h;split at h
  ·rename_i e1;cases h;exact .inl ⟨e1.symm,rfl⟩
  rw[ax] at h;split at h
  ·rename_i e1;cases h;exact .inr ⟨e1.symm,rfl⟩
  simp[lk] at h
 have hod:∀r,(bY R d rr.length).ownBlock=some r→aI R d r (lk s.hp d):=fun r h=>by rw[hd];exact abV h
 have Ml:∀v r,some v∈hs1++hs2→v.ownBlock=some r→aI R b r (lk s.hp b):=fun v r h h2=>by rw[hb];exact .inr ⟨v,by rw[a1];exact h,h2⟩
 have ho:∀b' r,aI R' b' r (lk ([(b,B),(d,aA.kE (vd+1) sd [])]++s.hp) b')→b'≠d∧(aI R b' r (lk s.hp b')∨(b'=b∧aI R d r (lk s.hp d))):=by
  intro b' r h;by_cases e1:b'=b
  ·subst e1;refine⟨fun e2=>hdb e2.symm,?_⟩;rw[fQ,ax,if_pos rfl,hB] at h;rcases h with h|⟨v,hv,hr⟩
   ·left;rw[hb];rw[hbl.1,hbl.2.1] at h;exact .inl h
   rw[hcap] at hv;rcases List.mem_append.1 hv with hv|hv
   ·exact .inl (Ml v r (by simp[hv]) hr)
   rcases List.mem_cons.1 hv with e2|hv
   ·cases e2;exact .inr ⟨rfl,hod r hr⟩
   exact .inl (Ml v r (by simp[hv]) hr)
  by_cases e2:b'=d
  ·subst e2;rw[fQ,ax,if_neg (fun e=>e1 e.symm),ax,if_pos rfl] at h;exact h.elim
  rw[fQ,ax,if_neg (fun e=>e1 e.symm),ax,if_neg (fun e=>e2 e.symm)] at h;exact⟨e2,.inl (fU ⟨by rw[hbl.1],by rw[hbl.2.1],hRc b' e1⟩ hbl.2.2 h)⟩
 obtain⟨g1,m1⟩:=g.swap (R':=R') (fs:=[(b,B),(d,aA.kE (vd+1) sd [])]) hbl.2.2 (fun b' h=>by
   have hne:b'≠b:=fun e1=>by subst e1;rw[ax,if_pos rfl] at h;cases h
   exact⟨by rw[hbl.1],by rw[hbl.2.1],hRc b' hne⟩)
  (fun b' box h off v hr=>by
   rcases l1 h with ⟨rfl,rfl⟩|⟨rfl,rfl⟩
   ·rw[hb] at hr;exact hr.elim
   rw[hd] at hr;exact hr.elim)
  (fun b' box h vr v hr=>by
   rcases l1 h with ⟨rfl,rfl⟩|⟨rfl,rfl⟩
   ·rw[hb] at hr;rw[hB];simp only[aS,hO] at hr;simp only[aS,hsl,dJ,List.length_append,List.length_cons,List.length_nil,Nat.zero_add];rwa [show pre.length+1+post.length=pre.length+(1+post.length) by omega]
   rw[hd] at hr;exact⟨by have:=hr.1;omega,hr.2.1,fun e2=>by have:=hr.1;omega⟩)
  (fun b' box h vr i off v hr=>by
   rcases l1 h with ⟨rfl,rfl⟩|⟨rfl,rfl⟩
   ·rw[hb] at hr;rw[hB];simpa only[aZ,hbl.1,hbl.2.1] using hr
   rw[hd] at hr;exact⟨by have:=hr.1;omega,hr.2.1,fun e2=>by have:=hr.1;omega⟩)
  (fun r ⟨b',h⟩=>by
   rcases (ho b' r h).2 with h|⟨_,h⟩
   ·exact⟨b',h⟩
   exact⟨d,h⟩)
  (fun b1 b2 r h1 h2=>by
   obtain⟨n1,h1⟩:=ho b1 r h1;obtain⟨n2,h2⟩:=ho b2 r h2;rcases h1 with h1|⟨e1,h1⟩<;>rcases h2 with h2|⟨e2,h2⟩
   ·exact g.inj b1 b2 r h1 h2
   ·exact absurd (g.inj b1 d r h1 h2) n1
   ·exact absurd (g.inj b2 d r h2 h1) n2
   rw[e1,e2])
  (fun hN hm b' box h=>by
   generalize hNN:aT c R' ([(b,B),(d,aA.kE (vd+1) sd [])]++s.hp)=N' at hN hm ⊢;generalize [(b,B),(d,aA.kE (vd+1) sd [])]++s.hp=hp' at hm ⊢;rcases l1 h with ⟨rfl,e9⟩|⟨rfl,e9⟩<;>rw[e9]
   ·rw[hB];have hmono:∀{hs:List (Option Value)} {rs:List (Bool×List PV)} {zs:List Value},dK (aT c R s.hp) w st j ed sd hs rs zs→dK N' w st j ed sd hs rs zs:=
     fun h=>lF (fun r _ h=>hN r h) (fun _ _ _=>rfl) (fun _ _ _ _=>rfl) h
    have hrw:FC (bE (aT c R s.hp) w) (cs.set j (.sc (bY R d rr.length))) ((xs.drop (pre.length*st)).take st):=by
     refine TU (hp:=s.hp) (R:=R) (d:=d) (vd:=vd) (fun v hv=>?_) cs j _ (by rw[←hrow];exact a5);rw[hd] at hv;exact hv.2.2 rfl
    have hfp:=FP.app ((xs.drop (pre.length*st)).drop st) hrw.fp;rw[List.take_append_drop] at hfp;refine⟨xs,hs1++[some (bY R d rr.length)],hs2,by rw[hcap];simp,?_,wK (hmono a3) ?_,by simp[dJ],by simp only[dJ,Nat.zero_mul,List.take_zero,bN],?_,?_⟩
    ·rw[hsl];simp only[dJ,List.length_append,List.length_cons,List.length_nil,Nat.zero_add];rw[show pre.length+1+post.length=pre.length+(1+post.length) by omega];exact a2
    ·refine hmono ?_;simp only[dK];refine⟨by rw[←hrl];exact a4,⟨rr,ys,hcs,abU _ _ _,?_,d1,d2⟩,trivial⟩;rw[dh];exact hfp
    ·have e5:(xs.drop ((pre++[(true,cs)]).length*st)).drop (dJ []*st)=(xs.drop (pre.length*st)).drop st:=by
      simp only[dJ,Nat.zero_mul,List.drop_zero,List.length_append,List.length_cons,List.length_nil,Nat.zero_add,List.drop_drop];rw[Nat.succ_mul,Nat.add_zero]
     rw[e5];exact hmono a6
    unfold DL;rw[hcap,hbl.1,hbl.2.1];have hnew:∀r,(bY R d rr.length).ownBlock=some r→¬∃v,some v∈hs1++hs2∧v.ownBlock=some r:=by
     rintro r hr ⟨v,hv,h2⟩
     exact hdb (g.inj d b' r (hod r hr) (Ml v r hv h2))
    refine⟨?_,?_⟩
    ·have h7:=a7.1;rw[a1] at h7;rw[List.filterMap_append] at h7 ⊢;simp only[List.filterMap_cons,Option.bind_some];cases hq:(bY R d rr.length).ownBlock with
     |none=>simpa using h7
     | some r=>
       simp only;rw[List.perm_middle.nodup_iff,List.nodup_cons];refine⟨fun hm=>hnew r hq ?_,h7⟩;rw[←List.filterMap_append] at hm;exact afi hm
    intro v r hv hr hn he;rcases List.mem_append.1 hv with hv|hv
    ·exact a7.2 v r (by rw[a1];simp[hv]) hr hn he
    rcases List.mem_cons.1 hv with e2|hv
    ·cases e2;exact hdb (g.inj d b' r (hod r hr) (by rw[hb];exact .inl ⟨hn,he⟩))
    exact a7.2 v r (by rw[a1];simp[hv]) hr hn he
   simp only[eB,bE,List.length_nil];rw[hsl];unfold bY;split
   ·exact⟨none,0,0,rfl,rfl,⟨Nat.le_refl _,by omega⟩,fun _=>⟨by trivial,by trivial⟩,fun a ha=>by cases ha⟩
   rename_i hnil;rcases d1.2 with ⟨h3,_⟩|⟨g',cap,cur,e4,_,hg,hle,hm2,_⟩
   ·simp[bY,hnil] at h3
   simp only[bY,hnil,Bool.false_eq_true,if_false,Value.slice.injEq] at e4;refine⟨_,0,_,rfl,rfl,⟨Nat.zero_le _,?_⟩,fun hh=>(by cases hh),fun a ha=>.inl (by trivial)⟩;have:=e4.2.2;unfold maxLen at hm2;omega)
 exact⟨R',g1,m1⟩
theorem bB.afk (g:bB c R s a w){b:Nat}(d:Nat){e:TypeId}{ver st j:Nat}{ed:TypeId}{sd:Nat}{pre post:List (Bool×List PV)}{rr:List (List PV)}{cs:List PV}
  (hb:lk s.hp b=some (.fP e ver st j ed sd pre [] ((true,cs)::post))) (hd:lk s.hp d=none) (hcs:cs[j]? = some (.sl false sd rr)) :
  ∃R',bB c R' (s.app [(b,.fP e ver st j ed sd pre ((cs.map AV.pv).set j (.aB d 0)) post),(d,.arr ed 0 sd rr)]) a w ∧
   ∀u x,ai (aT c R s.hp) w s.hp R u x→ai (aT c R' ([(b,.fP e ver st j ed sd pre ((cs.map AV.pv).set j (.aB d 0)) post),(d,.arr ed 0 sd rr)]++s.hp)) w ([(b,.fP e ver st j ed sd pre ((cs.map AV.pv).set j (.aB d 0)) post),(d,.arr ed 0 sd rr)]++s.hp) R' u x:=by
 obtain⟨xs,hs1,hs2,a1,a2,a3,a4,a5,a6,a7⟩:=g.boxes b _ hb;have hdb:d≠b:=fun e1=>by rw[e1,hb] at hd;cases hd
 have hjl:j<cs.length:=(List.getElem?_eq_some_iff.1 hcs).1;simp only[dJ,Nat.zero_mul,Nat.zero_add,List.drop_zero,List.take_zero,List.length_cons] at a2 a4 a5 a6;cases hs2 with
 |nil=>simp only[dK] at a6
 |cons h hs2=>
 simp only[dK] at a6;obtain⟨b1,b2,b3⟩:=a6;cases h with
 |none=>exact b2.elim
 |some hv=>
 obtain⟨rr',ys,c1,c0,c2,c3,c4⟩:=b2;rw[hcs] at c1;simp only[Option.some.injEq,PV.sl.injEq,true_and] at c1;subst c1;obtain⟨gb,gn,gc,hgv,hgo⟩:∃gb gn gc,hv=(if gn then .slice none 0 0 else .slice (some ⟨gb,0,none⟩) rr.length gc)∧(gn=false→hv.ownBlock=some gb):=by
  rcases c3.2 with ⟨h3,_⟩|⟨g',cap,cur,e4,_⟩
  ·exact⟨0,true,0,by simpa using h3,fun h=>by cases h⟩
  exact⟨g',false,cap,by simpa using e4,fun _=>by rw[e4];rfl⟩
 obtain⟨R',hR'⟩:∃R',R'=qV (R.at d gb gn gc) b (hs1++hs2):=⟨_,rfl⟩;have hcapb:(R'.cap b)=((R.cap b).1,hs1++hs2):=by subst hR';simp[qV,Real.at,show ¬b=d from fun e=>hdb e.symm]
 have w9:R'.blk b=R.blk b∧R'.nil b=R.nil b:=by subst hR';simp[qV,Real.at,show ¬b=d from fun e=>hdb e.symm]
 have hdd:R'.blk d=gb∧R'.nil d=gn∧R'.cap d=(gc,[]):=by subst hR';simp[qV,Real.at,hdb]
 have hoth:∀b',b'≠b→b'≠d→R'.blk b'=R.blk b'∧R'.nil b'=R.nil b'∧R'.cap b'=R.cap b':=fun b' h1 h2=>by subst hR';simp[qV,Real.at,h1,h2]
 have hY:R'.Y=R.Y:=by subst hR';rfl
 have ahL:∀n,bY R' b n=bY R b n:=fun n=>by simp only[bY,w9.1,w9.2,hcapb]
 have ahM:bY R' d rr.length=hv:=by simp only[bY,hdd.1,hdd.2.1,hdd.2.2,hgv]
 obtain⟨row,hrow⟩:∃row,row=(cs.map AV.pv).set j (.aB d 0):=⟨_,rfl⟩;have hrl:row.length=cs.length:=by rw[hrow];simp
 have hO:dJ row=1:=by
  cases hq:row with
  |nil=>rw[hq] at hrl;simp at hrl;omega
  |cons _ _=>rfl
 rw[←hrow];obtain⟨B,hB⟩:∃B,B=aA.fP e ver st j ed sd pre row post:=⟨_,rfl⟩;rw[←hB];have l1:∀{b':Nat} {box:aA},lk [(b,B),(d,aA.arr ed 0 sd rr)] b'=some box→(b'=b∧box=B)∨(b'=d∧box=.arr ed 0 sd rr):=by
  intro b' box h;rw[ax] at h;split at h
  ·rename_i e1;cases h;exact .inl ⟨e1.symm,rfl⟩
  rw[ax] at h;split at h
  ·rename_i e1;cases h;exact .inr ⟨e1.symm,rfl⟩
  simp[lk] at h
 have Ml:∀v r,some v∈hs1++some hv::hs2→v.ownBlock=some r→aI R b r (lk s.hp b):=fun v r h h2=>by rw[hb];exact .inr ⟨v,by rw[a1];exact h,h2⟩
 have hnd:=a7.1;rw[a1] at hnd;have hnew:∀r v,hv.ownBlock=some r→some v∈hs1++hs2→v.ownBlock=some r→False:=by
  intro r v h1 h2 h3;rw[List.filterMap_append,List.filterMap_cons,Option.bind_some,h1] at hnd;simp only at hnd;rw[List.perm_middle.nodup_iff,List.nodup_cons,←List.filterMap_append] at hnd;exact hnd.1 (abW h2 h3)
 have ho:∀b' r,aI R' b' r (lk ([(b,B),(d,aA.arr ed 0 sd rr)]++s.hp) b') →
   (b'≠d∧b'≠b∧aI R b' r (lk s.hp b'))∨(b'=d∧hv.ownBlock=some r)∨(b'=b∧((R.nil b=false∧R.blk b=r)∨∃v,some v∈hs1++hs2∧v.ownBlock=some r)):=by
  intro b' r h;by_cases e1:b'=b
  ·subst e1;right;right
   rw[fQ,ax,if_pos rfl,hB] at h;refine⟨rfl,?_⟩;rcases h with h|⟨v,hv,hr⟩
   ·rw[w9.1,w9.2] at h;exact .inl h
   rw[hcapb] at hv;exact .inr ⟨v,hv,hr⟩
  by_cases e2:b'=d
  ·subst e2;right;left
   rw[fQ,ax,if_neg (fun e=>e1 e.symm),ax,if_pos rfl] at h;have h':R'.nil b'=false∧R'.blk b'=r:=h;rw[hdd.1,hdd.2.1] at h';exact⟨rfl,by rw[hgo h'.1,h'.2]⟩
  rw[fQ,ax,if_neg (fun e=>e1 e.symm),ax,if_neg (fun e=>e2 e.symm)] at h;exact .inl ⟨e2,e1,fU (hoth b' e1 e2) hY h⟩
 have hin:∀b' r,((b'=d∧hv.ownBlock=some r)∨(b'=b∧((R.nil b=false∧R.blk b=r)∨∃v,some v∈hs1++hs2∧v.ownBlock=some r)))→aI R b r (lk s.hp b):=by
  intro b' r h;rcases h with ⟨_,h⟩|⟨_,h|⟨v,h1,h2⟩⟩
  ·exact Ml hv r (by simp) h
  ·rw[hb];exact .inl h
  exact Ml v r (by rcases List.mem_append.1 h1 with h1|h1<;>simp[h1]) h2
 obtain⟨g1,m1⟩:=g.swap (R':=R') (fs:=[(b,B),(d,aA.arr ed 0 sd rr)]) hY (fun b' h=>by
   have hne:b'≠b:=fun e1=>by subst e1;rw[ax,if_pos rfl] at h;cases h
   have hne2:b'≠d:=fun e1=>by subst e1;rw[ax,if_neg (fun e=>hne e.symm),ax,if_pos rfl] at h;cases h
   exact hoth b' hne hne2)
  (fun b' box h off v hr=>by
   rcases l1 h with ⟨rfl,rfl⟩|⟨rfl,rfl⟩
   ·rw[hb] at hr;exact hr.elim
   rw[hd] at hr;exact hr.elim)
  (fun b' box h vr v hr=>by
   rcases l1 h with ⟨rfl,rfl⟩|⟨rfl,rfl⟩
   ·rw[hb] at hr;rw[hB];simp only[aS,dJ,Nat.zero_add,List.length_cons] at hr;simp only[aS,ahL,hO];rwa [show pre.length+(1+post.length)=pre.length+(post.length+1) by omega]
   rw[hd] at hr;exact hr.elim)
  (fun b' box h vr i off v hr=>by
   rcases l1 h with ⟨rfl,rfl⟩|⟨rfl,rfl⟩
   ·rw[hb] at hr;rw[hB];simpa only[aZ,w9.1,w9.2] using hr
   rw[hd] at hr;exact hr.elim)
  (fun r ⟨b',h⟩=>by
   rcases ho b' r h with ⟨_,_,h⟩|h
   ·exact⟨b',h⟩
   exact⟨b,hin b' r h⟩)
  (fun b1 b2 r h1 h2=>by
   rcases ho b1 r h1 with ⟨n1,n2,h1⟩|h1<;>rcases ho b2 r h2 with ⟨m1,m2,h2⟩|h2
   ·exact g.inj b1 b2 r h1 h2
   ·exact absurd (g.inj b1 b r h1 (hin b2 r h2)) n2
   ·exact absurd (g.inj b2 b r h2 (hin b1 r h1)) m2
   have key:hv.ownBlock=some r→((R.nil b=false∧R.blk b=r)∨∃v,some v∈hs1++hs2∧v.ownBlock=some r)→False:=by
    rintro k1 (⟨k2,k3⟩|⟨v,k2,k3⟩)
    ·exact a7.2 hv r (by rw[a1];simp) k1 k2 k3
    exact hnew r v k1 k2 k3
   rcases h1 with ⟨e1,h1⟩|⟨e1,h1⟩<;>rcases h2 with ⟨e2,h2⟩|⟨e2,h2⟩
   ·rw[e1,e2]
   ·exact (key h1 h2).elim
   ·exact (key h2 h1).elim
   rw[e1,e2])
  (fun hN hm b' box h=>by
   have hld:lk ([(b,B),(d,aA.arr ed 0 sd rr)]++s.hp) d=some (.arr ed 0 sd rr):=by
    rw[fQ,ax,if_neg (fun e=>hdb e.symm),ax,if_pos rfl]
   generalize hNN:aT c R' ([(b,B),(d,aA.arr ed 0 sd rr)]++s.hp)=N' at hN hm ⊢;generalize [(b,B),(d,aA.arr ed 0 sd rr)]++s.hp=hp' at hm hld ⊢;rcases l1 h with ⟨rfl,e9⟩|⟨rfl,e9⟩<;>rw[e9]
   ·rw[hB];have hmono:∀{hs:List (Option Value)} {rs:List (Bool×List PV)} {zs:List Value},dK (aT c R s.hp) w st j ed sd hs rs zs→dK N' w st j ed sd hs rs zs:=
     fun h=>lF (fun r _ h=>hN r h) (fun _ _ _=>rfl) (fun _ _ _ _=>rfl) h
    have hsz:(cs.set j (.sc hv)).length=st:=by rw[List.length_set];exact b1
    refine⟨xs,hs1,hs2,by rw[hcapb],?_,hmono a3,by rw[hO,Nat.one_mul,hrl];exact b1,?_,?_,?_⟩
    ·rw[ahL,hO,show pre.length+(1+post.length)=pre.length+(post.length+1) by omega];exact a2
    ·rw[hO,Nat.one_mul,hrow];refine TV (hv:=hv) ?_ cs j _ ?_
     ·rw[hld];exact⟨Nat.le_refl _,c0,fun _=>ahM.symm⟩
     have c2':=bX (N':=N') (fun r _ h=>hN r h) (fun _ _ _=>rfl) _ _ c2;rw[dh] at c2';have:=c2'.take;rwa [hsz] at this
    ·rw[hO,Nat.one_mul];exact hmono b3
    unfold DL;rw[hcapb,w9.1,w9.2];refine⟨?_,fun v r hv' hr hn he=>a7.2 v r (by rw[a1];rcases List.mem_append.1 hv' with h1|h1<;>simp[h1]) hr hn he⟩;refine List.Sublist.nodup ?_ hnd;exact List.Sublist.filterMap _ (List.Sublist.append (List.Sublist.refl _) (List.sublist_cons_self _ _))
   exact⟨ys,by rw[ahM];exact c3,aV (fun r _ h=>hN r h) (fun _ _ _=>rfl) _ _ _ c4⟩)
 exact⟨R',g1,m1⟩
end
def tmT (H:List (Nat×aA)):List (Nat×AV)→List (Nat×AV)
 |[]=>[]
 |(t,v)::r=>(t,thA H v)::tmT H r
theorem YN (H:List (Nat×aA)):∀(tm:List (Nat×AV)) (t:Nat),lk (tmT H tm) t=(lk tm t).map (thA H)
 |[],t=>rfl
 | (k,v)::r,t=>by
   simp only[tmT,ax];split
   ·rfl
   exact YN H r t
theorem bB.told {c:Ctx}{R:Real}{s:AS}{a:Act}{w:World}(g:bB c R s a w):bB c R ⟨tmT s.hp s.tm,s.nx,s.hp⟩ a w:=by
 refine⟨?_,g.size,g.lo,g.marks,g.fixed,g.boxes,g.inj,g.free,g.jE,g.iL,g.kept⟩;intro t v hv;rw[YN] at hv;cases h:lk s.tm t with
 |none=>rw[h] at hv;cases hv
 | some v0=>
   rw[h] at hv;simp only[Option.map_some,Option.some.injEq] at hv;subst hv;obtain⟨x,hx,hr⟩:=g.slots t v0 h;exact⟨x,hx,Vw g hr⟩
theorem gY {s s':AS}(b d:Nat){e:TypeId}{ver st j:Nat}{ed:TypeId}{sd:Nat}{pre post:List (Bool×List PV)}{row:List AV}{vd:Nat}{rr:List (List PV)}(cs:List PV)
  (hb:lk s.hp b=some (.fP e ver st j ed sd pre row post)) (hd:lk s.hp d=some (.arr ed vd sd rr)) (hcs:cs[j]? = some (.sl false sd rr)) (hrow:row=(cs.map AV.pv).set j (.aB d vd))
  (h:qM ⟨s.tm,s.nx,(b,.fP e ver st j ed sd (pre++[(true,cs)]) [] post)::(d,.kE (vd+1) sd [])::s.hp⟩ s'):qM s s':=
 fun c R a w g=>by
  obtain⟨R',g1,_⟩:=g.afj hb hd hcs hrow;exact h c R' a w g1
theorem kW {s s':AS}(b d:Nat){e:TypeId}{ver st j:Nat}{ed:TypeId}{sd:Nat}{pre post:List (Bool×List PV)}{rr:List (List PV)}{cs:List PV}
  (hb:lk s.hp b=some (.fP e ver st j ed sd pre [] ((true,cs)::post))) (hd:lk s.hp d=none) (hcs:cs[j]? = some (.sl false sd rr))
  (h:qM ⟨s.tm,s.nx,(b,.fP e ver st j ed sd pre ((cs.map AV.pv).set j (.aB d 0)) post)::(d,.arr ed 0 sd rr)::s.hp⟩ s'):qM s s':=
 fun c R a w g=>by
  obtain⟨R',g1,_⟩:=g.afk d hb hd hcs;exact h c R' a w g1
section
variable {P:Program}
theorem Le {f:FuncId}{args:List AV}{hp:List (Nat×aA)}{r r2:AV}{hp' hp2:List (Nat×aA)}(h:dU P f args hp r hp')(b:Nat){e:TypeId}{ver st j:Nat}{ed:TypeId}{sd:Nat}{pre post:List (Bool×List PV)}
  (hb:lk hp' b=some (.fP e ver st j ed sd pre [] post))
  (e2:Qv ((b,.arr e ver st (pre.map (·.2)++post.map (·.2)))::hp') r (fun x h=>x=r2∧h=hp2)):dU P f args hp r2 hp2:=by
 refine⟨h.1,fun c R w dm hh ha=>(h.2 c R w dm hh ha).mono ?_⟩;rintro ex w' ⟨x,r0,l9,R',rfl,⟨e1,e3⟩,PW,hr⟩
 rw[e1,e3] at hr;rw[e3] at PW;have g:bB c R' ⟨[],0,hp'⟩ { tmps:=Array.replicate c.n undef,defers:=[] } w':=
  PW.Xx (fun t v h=>by simp[lk] at h) (by simp) ⟨[],⟨fun d h=>by simp at h,rfl,by simp,fun d h=>by simp at h,fun d h=>by simp at h⟩⟩
 obtain⟨g1,m1⟩:=g.YZ hb;obtain⟨r',Ik,R'',hQ,h1,h2⟩:=mO e2 g1.hap (m1 _ _ hr);exact⟨x,r',Ik,R'',rfl,hQ,h1,h2⟩
end
def pin (T:Tab):Tab:=
 match T with
 |x::y::r=>x::y::y::r
 |T=>T
theorem VA {P:Program}{T:Tab}(h:bO P T):bO P (pin T):=by
 intro t i hi;refine h t i ?_;unfold pin at hi;split at hi
 ·rename_i x y r;rw[ax,ax,ax] at hi;rw[ax,ax];by_cases e1:x.1=t
  ·rw[if_pos e1] at hi ⊢;exact hi
  rw[if_neg e1] at hi ⊢;by_cases e2:y.1=t
  ·rw[if_pos e2] at hi ⊢;exact hi
  rw[if_neg e2] at hi;rw[if_neg e2] at hi ⊢;exact hi
 exact hi
end Go.AX
namespace Go.AX
theorem Gh {N:Nat→Prop}{w:World}{st j:Nat}{ed:TypeId}{sd:Nat}:∀{r1 r2:List (Bool×List PV)} {hs:List (Option Value)} {xs:List Value},dK N w st j ed sd hs (r1++r2) xs →
  ∃h1 h2,hs=h1++h2∧dK N w st j ed sd h1 r1 xs∧dK N w st j ed sd h2 r2 (xs.drop (r1.length*st))
 |[],r2,hs,xs,h=>⟨[],hs,rfl,by simp only[dK],by simpa using h⟩
 |(fl,r)::r1,r2,[],xs,h=>by simp only[List.cons_append,dK] at h
 | (fl,r)::r1,r2,h0::hs,xs,h=>by
   simp only[List.cons_append,dK] at h;obtain⟨a1,a2,a3⟩:=h;obtain⟨h1,h2,e,b1,b2⟩:=Gh a3;refine⟨h0::h1,h2,by rw[e];rfl,?_,?_⟩
   ·simp only[dK];exact⟨a1,a2,b1⟩
   rw[List.drop_drop,show st+r1.length*st=((fl,r)::r1).length*st by rw[List.length_cons,Nat.succ_mul];omega] at b2;exact b2
section
variable {c:Ctx}{R:Real}{s:AS}{a:Act}{w:World}
theorem bB.Y0 (g:bB c R s a w){b:Nat}{e:TypeId}{ver st j:Nat}{ed:TypeId}{sd:Nat}{pre post pre' post':List (Bool×List PV)}(hb:lk s.hp b=some (.fP e ver st j ed sd pre [] post))(he:pre++post=pre'++post') :
  bB c R (s.app [(b,.fP e ver st j ed sd pre' [] post')]) a w:=by
 have hl:pre'.length+(dJ []+post'.length)=pre.length+(dJ []+post.length):=by
  have:=congrArg List.length he;simp only[List.length_append,dJ] at this ⊢;omega
 obtain⟨xs,hs1,hs2,a1,a2,a3,a4,a5,a6,a7⟩:=g.boxes b _ hb;refine (g.JS (bD:=.fP e ver st j ed sd pre' [] post') hb (fun off v h=>h.elim) (fun vr u h=>by simp only[aS] at h ⊢;rw[hl];exact h) (fun vr i off u h=>h) (fun r h=>h) (fun hm hN=>?_)).1;have h6:dK (aT c R s.hp) w st j ed sd hs2 post (xs.drop (pre.length*st)):=by simpa[dJ] using a6
 have h7:=wK a3 h6;rw[he] at h7;obtain⟨k1,k2,e1,b1,b2⟩:=Gh h7;have mono:∀{hs:List (Option Value)} {rs:List (Bool×List PV)} {zs:List Value},dK (aT c R s.hp) w st j ed sd hs rs zs→dK (aT c R ((b,aA.fP e ver st j ed sd pre' [] post')::s.hp)) w st j ed sd hs rs zs:=
  fun h=>lF (fun r _ h=>hN r h) (fun _ _ _=>rfl) (fun _ _ _ _=>rfl) h
 refine⟨xs,k1,k2,a1.trans e1,by rw[hl];exact a2,mono b1,by simp[dJ],by simp only[dJ,Nat.zero_mul,List.take_zero,bN],?_,a7⟩;simpa[dJ] using mono b2
end
theorem eu {s s':AS}(b:Nat){e:TypeId}{ver st j:Nat}{ed:TypeId}{sd:Nat}{pre post:List (Bool×List PV)}(pre' post':List (Bool×List PV))
  (hb:lk s.hp b=some (.fP e ver st j ed sd pre [] post)) (he:pre++post=pre'++post') (h:qM ⟨s.tm,s.nx,(b,.fP e ver st j ed sd pre' [] post')::s.hp⟩ s'):qM s s':=
 fun c R a w g=>h c R a w (g.Y0 hb he)
theorem A8 (e:TypeId)(v st:Nat)(rows:List (List PV)):0+om (.arr e v st rows)=v:=Nat.zero_add _
theorem A9 (e:TypeId)(v st:Nat)(pre:List (List PV))(row:List AV)(post:List (List PV)):0+om (.dN e v st pre row post)=v:=Nat.zero_add _
theorem abl {L:List Lg}(hL:Row L):∀l∈L,NH l:=by
 induction hL with
 |nil=>intro l hl;cases hl
 |one l h=>intro m hm;rw[List.mem_singleton] at hm;subst hm;exact h
 | cons l m r h _ _ _ ih=>
   intro q hq;rcases List.mem_cons.1 hq with rfl|hq
   ·exact h
   exact ih q hq
theorem xG {p:Pn}{n sure:Int}{is:Sp→Bool}{s:Sp}(hh:nU p n=true)(hf:(jb p n sure).find? is=some s):zb p n sure is=(s,0):=by
 unfold zb;rw[if_pos hh,hf]
theorem JK {p:Pn}{n sure:Int}{is:Sp→Bool}(hh:nU p n=true)(hf:(jb p n sure).find? is=none):zb p n sure is=(sp0,4):=by
 unfold zb;rw[if_pos hh,hf]
def vT (p:Pn)(a:Int)(ids:List Int)(k:Nat):Int:=(ids.take k).foldl (fun e id=>bV e (aW p id).last) a
theorem pI (p:Pn)(a:Int)(ids:List Int):vT p a ids 0=a:=by simp[vT]
theorem Ar (p:Pn)(a:Int)(ids:List Int)(k:Nat)(h:k<ids.length):vT p a ids (k+1)=bV (vT p a ids k) (aW p ids[k]).last:=by
 unfold vT;rw[List.take_succ_eq_append_getElem h,List.foldl_append];rfl
theorem FM (p:Pn)(a:Int)(ids:List Int)(k:Nat)(h:k<ids.length) :
  nN p (vT p a ids k) (ids.drop k)=(vT p a ids k,aW p ids[k])::nN p (vT p a ids (k+1)) (ids.drop (k+1)):=by
 rw[List.drop_eq_getElem_cons h,nN,Ar p a ids k h];rfl
theorem oL (p:Pn):∀(ids:List Int) (a:Int),(nN p a ids).length=ids.length
 |[],a=>rfl
 |id::r,a=>by simp only[nN,List.length_cons,oL p r]
theorem BZ (p:Pn):∀(ids:List Int) (a:Int) (k:Nat) (h:k<(nN p a ids).length),(nN p a ids)[k]=(vT p a ids k,aW p (ids[k]'(by rw[oL] at h;exact h)))
 |[],a,k,h=>by simp[nN] at h
 |id::r,a,0,h=>by simp[nN,vT,aW]
 | id::r,a,k+1,h=>by
   simp only[nN,List.getElem_cons_succ];rw[BZ p r];simp[vT,aW]
def WR (p:Pn)(sure a:Int)(ids:List Int)(k:Nat):List Sp:=(nN p (vT p a ids k) (ids.drop k)).flatMap fun x=>JF x.1 x.2 (Ht sure x.2).toNat
theorem Yo (p:Pn)(sure a:Int)(ids:List Int):WR p sure a ids 0=FH p sure a ids:=by
 simp only[WR,pI,List.drop_zero,FH]
theorem Yp (p:Pn)(sure a:Int)(ids:List Int)(k:Nat)(h:k<ids.length) :
  WR p sure a ids k=JF (vT p a ids k) (aW p ids[k]) (Ht sure (aW p ids[k])).toNat++WR p sure a ids (k+1):=by
 unfold WR;rw[FM p a ids k h,List.flatMap_cons]
theorem abm (p:Pn)(sure a:Int)(ids:List Int):WR p sure a ids ids.length=[]:=by
 simp[WR,nN]
theorem Yq (a:Int)(l:Lg)(n i:Nat)(h:i<n):(JF a l n).drop i=⟨bV a i,l.id,bV i 1⟩::(JF a l n).drop (i+1):=by
 rw[List.drop_eq_getElem_cons (by rw[qo];exact h),KX]
theorem KZ (a:Int)(l:Lg)(n:Nat):(JF a l n).drop n=[]:=by
 rw[List.drop_eq_nil_iff,qo];exact Nat.le_refl _
theorem Sp.aeR (a b:Sp)(h:(!(a.offset==b.offset&&(a.aY==b.aY&&a.n==b.n)))=false):a=b:=by
 cases a;cases b;simp at h;simp[h]
theorem Int.aeR (a b:Int)(h:(a != b)=false):a=b:=by simpa using h
def adH (c:Ch):Bool:=decide ((c.af.length:Int)>60)||(decide ((c.seen.length:Int)>60)||decide ((c.au.length:Int)>60))
def adI (p:Pn):Bool:=(decide ((p.channels.length:Int)>10)||(decide ((p.af.length:Int)>60)||decide ((p.past.length:Int)>60)))||(p.channels.any adH||p.af.any (fun l=>adF l.av))
theorem abo {p:Pn}(h:adI p=false):rR p:=by
 simp only[adI,Bool.or_eq_false_iff,decide_eq_false_iff_not,List.any_eq_false] at h;obtain⟨⟨h1,h2,h3⟩,h4,h5⟩:=h;have hc:∀c∈p.channels,c.af.length≤60∧c.seen.length≤60∧c.au.length≤60:=by
  intro c hc;have:=h4 c hc;simp only[adH,Bool.or_eq_true,decide_eq_true_eq,not_or] at this;omega
 refine⟨by omega,by omega,by omega,fun c hc'=>?_,fun l hl=>?_,?_⟩
 ·have:=hc c hc';exact⟨by omega,by omega,by omega⟩
 ·have:=h5 l hl;simp only[adF,Bool.or_eq_true,decide_eq_true_eq,not_or,List.any_eq_true,not_exists,not_and] at this;exact⟨by omega,fun f hf=>by have:=this.2 f hf;omega⟩
 have:∀(L:List Ch),(∀c∈L,c.af.length≤60)→(L.flatMap (·.af)).length≤60*L.length:=by
  intro L;induction L with
  |nil=>intro _;simp
  | cons c r ih=>
    intro h;have:=ih fun x hx=>h x (by simp[hx])
    have:=h c (by simp);simp only[List.flatMap_cons,List.length_append,List.length_cons];omega
 have:=this p.channels fun c hc'=>(hc c hc').1
 unfold gT;omega
def lY (p:Pn)(trim:Int)(acc:List Int)(a:Int):List Int→List Int×Int×Int
 |[]=>(acc,0,a)
 |id::r=>if (aW p id).closed==0||decide (bV a (aW p id).last>trim) then (acc,(aW p id).id,a) else lY p trim (acc++[(aW p id).id]) (bV a (aW p id).last) r
def jB (p:Pn)(n:Int):List Int×Int×Int:=if nU p n then lY p (aL p n).trim [] (aL p n).first (aL p n).af else ([],0,0)
def mE (p:Pn)(ids:List Int)(k:Nat):List Int:=(ids.take k).map fun id=>(aW p id).id
theorem FN (p:Pn)(ids:List Int)(k:Nat)(h:k<ids.length):mE p ids (k+1)=mE p ids k++[(aW p ids[k]).id]:=by
 unfold mE;rw[List.take_succ_eq_append_getElem h,List.map_append];rfl
theorem JL (p:Pn)(ids:List Int)(k:Nat):(mE p ids k).length≤ids.length:=by
 unfold mE;rw[List.length_map,List.length_take];omega
theorem FO {p:Pn}{trim a:Int}{acc ids:List Int}{k:Nat}(h:k<ids.length)(hq:((aW p ids[k]).closed==0||decide (bV a (aW p ids[k]).last>trim))=true) :
  lY p trim acc a (ids.drop k)=(acc,(aW p ids[k]).id,a):=by
 rw[List.drop_eq_getElem_cons h,lY,if_pos hq]
theorem FQ {p:Pn}{trim a:Int}{acc ids:List Int}{k:Nat}(h:k<ids.length)(hq:((aW p ids[k]).closed==0||decide (bV a (aW p ids[k]).last>trim))=false) :
  lY p trim acc a (ids.drop k)=lY p trim (acc++[(aW p ids[k]).id]) (bV a (aW p ids[k]).last) (ids.drop (k+1)):=by
 rw[List.drop_eq_getElem_cons h,lY,if_neg (by rw[hq];decide)]
def exL (id last closed:Int):Lg:=⟨id,1,1,[⟨1,[⟨7,1⟩]⟩],closed,last⟩
def FR:Pn:=⟨0,9,[⟨1,4,1,0,10,12,[3,5,7],[],[]⟩],[exL 3 2 1,exL 5 0 1,exL 7 0 0],[]⟩
theorem aha:rR FR:=abo (by decide)
theorem ahb:xZ FR:=by
 intro l hl;simp only[FR,List.mem_cons,List.not_mem_nil,or_false] at hl;rcases hl with rfl|rfl|rfl<;>simp[exL,vQ]
theorem ahc:∀c∈FR.channels,0≤c.first:=by
 intro c hc;simp only[FR,List.mem_cons,List.not_mem_nil,or_false] at hc;subst hc;decide
theorem abp:jN FR=true:=by
 have h1:FE (gT FR)=[3,5,7]:=by
  show List.mergeSort [3,5,7] (fun x y=>decide (x≤y))=[3,5,7]
  exact List.mergeSort_of_pairwise (by simp)
 unfold jN;rw[h1];decide
theorem tQ:nU FR 1=true:=by
 unfold nU;rw[abp];decide
theorem Au:jb FR 1 1=[⟨10,3,1⟩,⟨11,3,2⟩,⟨12,7,1⟩]:=by
 unfold jb;rw[if_pos tQ];decide
theorem Ra:qm FR 1 1 11=(⟨11,3,2⟩,0):=xG tQ (by rw[Au];decide)
theorem Rb:qm FR 1 1 12=(⟨12,7,1⟩,0):=xG tQ (by rw[Au];decide)
theorem Rc:qm FR 1 1 13=(sp0,4):=JK tQ (by rw[Au];decide)
theorem abq:abh FR 1 1 7 1=(12,0):=by
 have:=xG (n:=1) (sure:=1) (is:=fun s=>s.aY==7&&s.n==1) (s:=⟨12,7,1⟩) tQ (by rw[Au];decide);unfold abh;rw[this]
theorem abr:tL FR 1 1=13:=by
 unfold tL;rw[if_pos tQ,Au];decide
theorem Yr:jB FR 1=([3,5],7,12):=by
 unfold jB;rw[if_pos tQ];decide
end Go.AX
end
section
namespace Go.AX
end Go.AX
end
section
namespace Go.AX
theorem xH (c:Ch):vR c=true↔(c.aU=0→c.owner=0∧c.inc=0∧c.af.length=0)∧(c.aU≠0→1≤c.owner∧c.owner≤15∧1≤c.inc∧c.inc≤4611686018427387903):=by
 unfold vR;by_cases h:c.aU=0
 ·rw[if_pos (by simpa using h)];simp only[Bool.and_eq_true,beq_iff_eq,decide_eq_true_eq];constructor
  ·rintro⟨h1,h2,h3⟩
   exact⟨fun _=>⟨h1,h2,by omega⟩,fun h'=>absurd h h'⟩
  rintro⟨h1,_⟩
  obtain⟨a,b,d⟩:=h1 h;exact⟨a,b,by omega⟩
 rw[if_neg (by simpa using h)];simp only[Bool.and_eq_true,bS,decide_eq_true_eq];constructor
 ·rintro⟨⟨h1,h2⟩,h3,h4⟩
  exact⟨fun h'=>absurd h' h,fun _=>⟨h1,h2,h3,h4⟩⟩
 rintro⟨_,h1⟩
 obtain⟨a,b,d,e⟩:=h1 h;exact⟨⟨a,b⟩,d,e⟩
theorem oq (n:Int):cnt n=true↔n≤4611686018427387903:=by simp[cnt]
def FT (p:Pn):List Int:=if jN p then jY p else []
structure ChG (p:Pn)(c:Ch):Prop where
 e1:c.aU≤4611686018427387903
 e2:c.eY≤4611686018427387903
 e3:c.first≤4611686018427387903
 ow:vR c=true
 len:c.af.length≤8
 mq:c.af.Pairwise (· < ·)
 t1:c.first≤c.trim
 t2:c.trim≤mD p c
 t3:bV (dP p c) 8≤4611686018427387903
 FW:iO p c.af=true
 seen:Am c=true
 k0:c.au.length≤3
 k1:jM (c.au.map (·.sub))=true
 k2:c.au.all nT=true
theorem JM (p:Pn)(c:Ch):pF p c=true↔ChG p c:=by
 unfold pF;simp only[Bool.and_eq_true,oq,bS,decide_eq_true_eq];constructor
 ·rintro⟨⟨h1,h2,h3⟩,h4,h6,h7,⟨h8,h9⟩,h10,h11,h12,h16,h17,h18⟩
  exact⟨h1,h2,h3,h4,by omega,by simpa[jM] using h7,h8,h9,h10,h11,h12,by omega,h17,h18⟩
 intro F;exact⟨⟨F.e1,F.e2,F.e3⟩,F.ow,by have:=F.len;omega,by simpa[jM] using F.mq,⟨F.t1,F.t2⟩,F.t3,F.FW,F.seen,by have:=F.k0;omega,F.k1,F.k2⟩
structure gB (p:Pn):Prop where
 v0:0≤p.version
 v:p.version≤4611686018427387903
 n1:1≤p.next
 n2:p.next≤4611686018427387904
 c1:1≤p.channels.length
 c2:p.channels.length≤3
 lg:∀l∈p.af,kL l=true∧l.id<p.next∧0≤l.last
 mq:(jY p).Pairwise (· < ·)
 perm:(gT p).Perm (jY p)
 ch:∀c∈p.channels,ChG p c∧0≤c.aU∧0≤c.first∧((gN p c).isSome=true→dP p c+16≤4611686018427387903)
 p1:p.past.all qP=true
 p2:(p.past.map (·.who)).Pairwise (· < ·)
theorem Rf (l:List Int):(FE l).Perm l:=List.mergeSort_perm l _
theorem K5 (l:List Int):(FE l).Pairwise (· ≤ ·):=by
 have:=List.pairwise_mergeSort (le:=fun x y:Int=>decide (x≤y)) (fun a b c h1 h2=>by simp at *;omega) (fun a b=>by simp;omega) l;exact this.imp fun h=>by simpa using h
theorem gB.may {p:Pn}(h:gB p):jN p=true:=by
 unfold jN;simp only[Bool.and_eq_true,oq,bS,decide_eq_true_eq,List.all_eq_true];refine⟨h.v,⟨h.n1,h.n2⟩,⟨by have:=h.c1;omega,by have:=h.c2;omega⟩,fun l hl=>⟨(h.lg l hl).1,(h.lg l hl).2.1⟩,by simpa[jM] using h.mq,?_,fun c hc=>(JM p c).2 (h.ch c hc).1,by simpa[jM] using h.p2,by simpa using h.p1⟩;have hs:(FE (gT p)).Perm (jY p):=(Rf _).trans h.perm;refine hs.eq_of_pairwise (le:=fun a b:Int=>a≤b) (fun a b _ _ h1 h2=>by omega) (K5 _) ?_;exact h.mq.imp fun h=>by omega
theorem Tz:∀{L:List Lg},(L.map (·.id)).Pairwise (· < ·)→∀{l:Lg},l∈L→L.find? (fun x=>x.id==l.id)=some l
 |[],_,_,hl=>by cases hl
 | x::L,hr,l,hl=>by
   rw[List.map_cons,List.pairwise_cons] at hr;rw[List.find?_cons];rcases List.mem_cons.1 hl with rfl|hl
   ·simp
   have:=hr.1 l.id (List.mem_map.2 ⟨l,hl,rfl⟩);have e:(x.id==l.id)=false:=by simp;omega
   rw[e];exact Tz hr.2 hl
theorem gB.find {p:Pn}(h:gB p){l:Lg}(hl:l∈p.af):aR p l.id=some l:=Tz h.mq hl
theorem gB.named {p:Pn}(h:gB p){c:Ch}(hc:c∈p.channels){id:Int}(hid:id∈c.af):∃l∈p.af,l.id=id∧aR p id=some l:=by
 have:id∈jY p:=h.perm.mem_iff.1 (by unfold gT;exact List.mem_flatMap.2 ⟨c,hc,hid⟩);obtain⟨l,hl,e⟩:=List.mem_map.1 this;exact⟨l,hl,e,by rw[←e];exact h.find hl⟩
theorem Aw {l:Lg}(h:kL l=true):(l.closed=0∨l.closed=1)∧l.last≤8*l.closed:=by
 simp only[kL,Bool.and_eq_true,bS,decide_eq_true_eq] at h;obtain⟨⟨a1,a2⟩,⟨a3,a4⟩,a5,a6,⟨a7,a8⟩,a9⟩:=h;omega
theorem gB.last {p:Pn}(h:gB p)(id:Int):0≤(aW p id).last∧(aW p id).last≤8∧((aW p id).closed=0→(aW p id).last=0)∧((aW p id).closed=0∨(aW p id).closed=1):=by
 unfold aW;cases hf:aR p id with
 |none=>simp[Ip]
 | some l=>
   have hm:=(fT hf).1;have h1:=h.lg l hm;have h2:=Aw h1.1;simp only[Option.getD_some];omega
def fD (f:Int→Int):List Int→Int
 |[]=>0
 |x::r=>f x+fD f r
theorem FX (f:Int→Int)(a b:List Int):fD f (a++b)=fD f a+fD f b:=by
 induction a with
 |nil=>simp[fD]
 |cons x a ih=>simp only[List.cons_append,fD,ih];omega
theorem tV {f g:Int→Int}:∀{l:List Int},(∀x∈l,f x=g x)→fD f l=fD g l
 |[],_=>rfl
 | x::l,h=>by
   simp only[fD];rw[h x (by simp),tV fun y hy=>h y (by simp[hy])]
theorem tX {f:Int→Int}:∀{l:List Int},(∀x∈l,0≤f x∧f x≤8)→0≤fD f l∧fD f l≤8*l.length
 |[],_=>by simp[fD]
 | x::l,h=>by
   have h1:=h x (by simp);have h2:=tX (f:=f) (l:=l) fun y hy=>h y (by simp[hy])
   simp only[fD,List.length_cons];omega
theorem fE {a b:Int}(h0:0≤a+b)(h1:a+b<18446744073709551616):bV a b=a+b:=ny ⟨h0,by omega⟩
theorem kV (f:Int→Int):∀(ids:List Int) (e:Int),(∀x∈ids,0≤f x∧f x≤8)→0≤e→e+8*ids.length<18446744073709551616→ids.foldl (fun e id=>bV e (f id)) e=e+fD f ids
 |[],e,_,_,_=>by simp[fD]
 | x::l,e,h,h0,h1=>by
   have hx:=h x (by simp);simp only[List.length_cons] at h1;simp only[List.foldl_cons,fD];rw[fE (by omega) (by omega),kV f l (e+f x) (fun y hy=>h y (by simp[hy])) (by omega) (by omega)];omega
def bH (p:Pn)(id:Int):Int:=(aW p id).last
theorem gB.dP {p:Pn}(h:gB p){c:Ch}(hl:c.af.length≤8)(h0:0≤c.first)(h1:c.first≤4611686018427387903):Go.AX.dP p c=c.first+fD (bH p) c.af∧0≤fD (bH p) c.af∧fD (bH p) c.af≤64:=by
 have hb:∀x∈c.af,0≤bH p x∧bH p x≤8:=fun x _=>⟨(h.last x).1,(h.last x).2.1⟩
 have h2:=tX hb;refine⟨?_,h2.1,by omega⟩;unfold Go.AX.dP;exact kV (bH p) c.af c.first hb h0 (by omega)
theorem Ce {β:Type}{f g:β→Int→β}:∀{l:List Int} {e:β},(∀x∈l,∀e,f e x=g e x)→l.foldl f e=l.foldl g e
 |[],_,_=>rfl
 | x::l,e,h=>by
   simp only[List.foldl_cons];rw[h x (by simp) e];exact Ce fun y hy=>h y (by simp[hy])
def Ay (l:Lg):Int×Int:=(l.closed,l.last)
theorem iI {p p':Pn}{c:Ch}(h:∀id∈c.af,(aR p' id).map Ay=(aR p id).map Ay):dP p' c=dP p c:=by
 unfold dP;refine Ce fun x hx e=>?_
 have:=h x hx;cases h1:aR p' x<;>cases h2:aR p x<;>rw[h1,h2] at this<;>simp[Ay] at this ⊢
 rw[this.2]
theorem vW {p p':Pn}{c:Ch}(h:∀id∈c.af,(aR p' id).map Ay=(aR p id).map Ay):(gN p' c).isSome=(gN p c).isSome:=by
 unfold gN;cases hg:c.af.getLast? with
 |none=>rfl
 | some id=>
   have:=h id (List.mem_of_getLast? hg);simp only;cases h1:aR p' id<;>cases h2:aR p id<;>rw[h1,h2] at this<;>simp[Ay] at this ⊢
   rw[this.1];split<;>rfl
theorem tY {p p':Pn}:∀{ids:List Int},(∀id∈ids,(aR p' id).map Ay=(aR p id).map Ay)→iO p' ids=iO p ids
 |[],_=>rfl
 | id::r,h=>by
   have:=h id (by simp);simp only[iO];rw[tY fun x hx=>h x (by simp[hx])];congr 1
   cases h1:aR p' id<;>cases h2:aR p id<;>rw[h1,h2] at this<;>simp[Ay] at this ⊢
   rw[this.1]
theorem NQ {p p':Pn}{c:Ch}(h:∀id∈c.af,(aR p' id).map Ay=(aR p id).map Ay):mD p' c=mD p c:=by
 unfold mD;rw[iI h,vW h]
theorem ChG.congr {p p':Pn}{c:Ch}(h:∀id∈c.af,(aR p' id).map Ay=(aR p id).map Ay)(g:ChG p c):ChG p' c:=
 ⟨g.e1,g.e2,g.e3,g.ow,g.len,g.mq,g.t1,by rw[NQ h];exact g.t2,by rw[iI h];exact g.t3,by rw[tY h];exact g.FW,g.seen,g.k0,g.k1,g.k2⟩
theorem mU {p p':Pn}{c:Ch}(h:∀id∈c.af,(aR p' id).map Ay=(aR p id).map Ay)(g:ChG p c∧0≤c.aU∧0≤c.first∧((gN p c).isSome=true→dP p c+16≤4611686018427387903)) :
  ChG p' c∧0≤c.aU∧0≤c.first∧((gN p' c).isSome=true→dP p' c+16≤4611686018427387903):=
 ⟨g.1.congr h,g.2.1,g.2.2.1,by rw[vW h,iI h];exact g.2.2.2⟩
theorem gW {p:Pn}{n:Int}(h:dM p n=true):∃hi:(n-1).toNat<p.channels.length,aL p n=p.channels[(n-1).toNat]:=by
 simp only[dM,Bool.and_eq_true,decide_eq_true_eq] at h;have hi:(n-1).toNat<p.channels.length:=by omega
 exact⟨hi,by unfold aL;rw[getElem!_pos p.channels _ hi]⟩
theorem bW {p:Pn}{n:Int}(h:dM p n=true):aL p n∈p.channels:=by
 obtain⟨hi,e⟩:=gW h;rw[e];exact List.getElem_mem hi
theorem Yw {L:List Ch}{i:Nat}{c:Ch}(hi:i<L.length)(h:c.af=L[i].af):(L.set i c).flatMap (·.af)=L.flatMap (·.af):=by
 have:(L.set i c).map (·.af)=L.map (·.af):=by
  rw[List.map_set,h];apply List.ext_getElem (by simp);intro j h1 h2;rw[List.getElem_set];split
  ·rename_i e;subst e;simp
  rfl
 rw[List.flatMap_def,List.flatMap_def,this]
theorem mem_set {L:List Ch}{i:Nat}{c x:Ch}(h:x∈L.set i c):x=c∨x∈L:=by
 rcases List.mem_or_eq_of_mem_set h with h|h
 ·exact .inr h
 exact .inl h
theorem xJ {p:Pn}(h:gB p){n:Int}(hn:dM p n=true){c':Ch}(h1:c'.af=(aL p n).af)(h2:c'.first=(aL p n).first)(hg:ChG p c')(h0:0≤c'.aU):gB (dV p n c'):=by
 obtain⟨hi,e⟩:=gW hn;have hc:=h.ch _ (bW hn);have hE:dP p c'=dP p (aL p n):=by unfold dP;rw[h1,h2]
 have hO:gN p c'=gN p (aL p n):=by unfold gN;rw[h1]
 refine⟨h.v0,h.v,h.n1,h.n2,by simpa[dV] using h.c1,by simpa[dV] using h.c2,h.lg,h.mq,?_,?_,h.p1,h.p2⟩
 ·have:gT (dV p n c')=gT p:=Yw hi (by rw[h1,e]);rw[this];exact h.perm
 intro c hcm;refine mU (p:=p) (fun id _=>rfl) ?_;rcases mem_set hcm with rfl|hcm
 ·refine⟨hg,h0,by rw[h2];exact hc.2.2.1,?_⟩;rw[hO,hE];exact hc.2.2.2
 exact h.ch c hcm
theorem Vh (L:List Lg)(l':Lg)(id:Int):(L.map fun x=>if x.id==l'.id then l' else x).find? (fun x=>x.id==id)=(L.find? (fun x=>x.id==id)).map fun x=>if x.id==l'.id then l' else x:=by
 induction L with
 |nil=>rfl
 | cons x L ih=>
   rw[List.map_cons,List.find?_cons,List.find?_cons];have e:((if x.id==l'.id then l' else x).id==id)=(x.id==id):=by
    split
    ·rename_i h;rw[beq_iff_eq] at h;rw[h]
    rfl
   rw[e];cases (x.id==id) with
   |true=>rfl
   |false=>exact ih
theorem FY (p:Pn)(l':Lg):jY (kM p l')=jY p:=by
 unfold jY kM;rw[List.map_map];apply List.map_congr_left;intro x _;simp only[Function.comp];split
 ·rename_i h;rw[beq_iff_eq] at h;exact h.symm
 rfl
theorem jP (p:Pn)(l':Lg)(id:Int):aR (kM p l') id=(aR p id).map fun x=>if x.id==l'.id then l' else x:=Vh _ _ _
theorem TA {p:Pn}(h:gB p){l l':Lg}(hl:l∈p.af)(h1:l'.id=l.id)(h2:kL l'=true)(h3:0≤l'.last)(hch:∀c∈p.channels,ChG (kM p l') c∧0≤c.aU∧0≤c.first∧((gN (kM p l') c).isSome=true→dP (kM p l') c+16≤4611686018427387903)):gB (kM p l'):=by
 refine⟨h.v0,h.v,h.n1,h.n2,h.c1,h.c2,?_,by rw[FY];exact h.mq,by rw[FY];exact h.perm,hch,h.p1,h.p2⟩;intro x hx;unfold kM at hx;obtain⟨y,hy,rfl⟩:=List.mem_map.1 hx;split
 ·exact⟨h2,by rw[h1];exact (h.lg l hl).2.1,h3⟩
 exact h.lg y hy
theorem NR {p:Pn}(h:gB p){l l':Lg}(hl:l∈p.af)(h1:l'.id=l.id)(h2:kL l'=true)(h3:Ay l'=Ay l):gB (kM p l'):=by
 have e3:l'.last=l.last:=by simp only[Ay,Prod.mk.injEq] at h3;exact h3.2
 refine TA h hl h1 h2 (by rw[e3];exact (h.lg l hl).2.2) fun c hc=>mU (fun id hid=>?_) (h.ch c hc)
 rw[jP];cases hf:aR p id with
 |none=>rfl
 | some x=>
   simp only[Option.map_some];split
   ·rename_i e;rw[beq_iff_eq] at e;obtain⟨hm,Rh⟩:=fT hf;have:aR p l.id=some l:=h.find hl;rw[←h1,←e,Rh,hf] at this;rw[h3,Option.some.inj this]
   rfl
structure Ir (o:bg):Prop where
 k1:1≤o.kind
 k2:o.kind≤12
 w1:1≤o.who
 w2:o.who≤15
 i1:1≤o.inc
 i2:o.inc≤4611686018427387903
 n1:1≤o.n
 n2:o.n≤4611686018427387903
 at1:o.at_≤4611686018427387903
 ahf:o.now≤4611686018427387903
 bare:o=gJ o (dZ o.kind)
 ch:dZ o.kind 0=true→1≤o.channel∧o.channel≤3
 sub:dZ o.kind 5=true→1≤o.sub∧o.sub≤3
 pl:dZ o.kind 9=true→K3 o.from_=true∧K3 o.nC=true
 fr:pK o=true
 Vi:zi o.seen=true
theorem vX {o:bg}(h:DZ o=true):Ir o:=by
 unfold DZ at h;simp only[Bool.and_eq_true,Bool.or_eq_true,Bool.not_eq_true',bS,decide_eq_true_eq,List.all_cons,List.all_nil,oq] at h;obtain⟨⟨h1,h2⟩,⟨h3,h4⟩,h5,h6,h7,⟨h8,h9,h10,h11,h12,h13,_⟩,h14,h15,h16,h17,h18⟩:=h;refine⟨h1,h2,h3,h4,h5,h8,h6,h9,h12,h13,h7,fun e=>?_,fun e=>?_,fun e=>?_,h17,h18⟩
 ·rcases h14 with h|h
  ·rw[e] at h;cases h
  exact h
 ·rcases h15 with h|h
  ·rw[e] at h;cases h
  exact h
 rcases h16 with h|h
 ·rw[e] at h;cases h
 exact⟨h.1,h.2.1⟩
def l5 (x:Oc):Bool:=bS x.code 0 9&&(bS x.owner 0 15&&(cnt x.aU&&(cnt x.at_&&cnt x.aY)))
theorem j3 {x:Oc}(h1:0≤x.code∧x.code≤9)(h2:0≤x.owner∧x.owner≤15)(h3:x.aU≤4611686018427387903)(h4:x.at_≤4611686018427387903)(h5:x.aY≤4611686018427387903):l5 x=true:=by
 unfold l5;simp only[Bool.and_eq_true,bS,decide_eq_true_eq,oq];exact⟨h1,h2,h3,h4,h5⟩
theorem qA {n:Int}(h:0≤n∧n≤9):l5 (iX n)=true:=j3 h ⟨by simp[iX],by simp[iX]⟩ (by simp[iX]) (by simp[iX]) (by simp[iX])
theorem TB:l5 bQ=true:=by decide
theorem NS (l:List Pa)(o:bg)(out:Oc):iJ l o out=mR Pa.who (l.filter (fun x=>!(x.who==o.who))++[⟨o.who,o.inc,o.n,out⟩]):=rfl
theorem abw {l:List Pa}{o:bg}{out:Oc}(ho:Ir o)(hx:l5 out=true)(h1:l.all qP=true)(h2:(l.map (·.who)).Pairwise (· < ·)) :
  (iJ l o out).all qP=true∧((iJ l o out).map (·.who)).Pairwise (· < ·):=by
 rw[NS];refine⟨?_,?_⟩
 ·rw[List.all_eq_true] at h1 ⊢;intro x hx2;have:=(qx Pa.who _).mem_iff.1 hx2;rcases List.mem_append.1 this with h|h
  ·exact h1 x (List.mem_filter.1 h).1
  rw[List.mem_singleton] at h;subst h;unfold l5 at hx;unfold qP;simp only[Bool.and_eq_true,bS,decide_eq_true_eq] at hx ⊢;exact⟨⟨ho.w1,ho.w2⟩,⟨ho.i1,ho.i2⟩,⟨ho.n1,ho.n2⟩,hx⟩
 have:=vS Pa.who (l.filter (fun x=>!(x.who==o.who))++[(⟨o.who,o.inc,o.n,out⟩:Pa)]);rw[decide_eq_decide] at this;rw[List.pairwise_map];refine this.2 ?_;rw[List.map_append,List.nodup_append];refine⟨?_,by simp,?_⟩
 ·rw[List.pairwise_map] at h2;have h3:(l.filter fun x=>!(x.who==o.who)).Pairwise fun a b=>a.who<b.who:=h2.filter _
  rw[List.nodup_iff_pairwise_ne,List.pairwise_map];exact h3.imp fun h=>by omega
 intro a ha b hb;obtain⟨x,hx,rfl⟩:=List.mem_map.1 ha;simp only[List.map_cons,List.map_nil,List.mem_singleton] at hb;subst hb;have:=(List.mem_filter.1 hx).2;simpa using this
theorem abx {p:Pn}(h:gB p){o:bg}{out:Oc}(ho:Ir o)(hx:l5 out=true)(hv:p.version≠4611686018427387903):gB { p with version:=bV p.version 1,past:=iJ p.past o out }:=by
 have e:bV p.version 1=p.version+1:=fE (by have:=h.v0;omega) (by have:=h.v;omega);have hp:=abw ho hx h.p1 h.p2;refine⟨by show 0≤bV p.version 1;rw[e];have:=h.v0;omega,by show bV p.version 1≤_;rw[e];have:=h.v;omega,h.n1,h.n2,h.c1,h.c2,h.lg,h.mq,h.perm,fun c hc=>mU (p:=p) (fun _ _=>rfl) (h.ch c hc),hp.1,hp.2⟩
section
variable {p:Pn}(h:gB p){o:bg}(ho:Ir o)(hn:dM p o.channel=true)
include h hn
theorem K6:pE p o.channel=dP p (aL p o.channel):=by unfold pE;rw[if_pos hn]
theorem Az:fK p o.channel=gN p (aL p o.channel):=by unfold fK;rw[if_pos hn]
theorem Cf:dP p (aL p o.channel)=(aL p o.channel).first+fD (bH p) (aL p o.channel).af∧0≤fD (bH p) (aL p o.channel).af∧fD (bH p) (aL p o.channel).af≤64∧dP p (aL p o.channel)+8≤4611686018427387903∧0≤dP p (aL p o.channel) ∧
  bV (dP p (aL p o.channel)) 8=dP p (aL p o.channel)+8:=by
 have hc:=h.ch _ (bW hn);have h1:=h.dP hc.1.len hc.2.2.1 hc.1.e3;have h2:=hc.1.t3;have h3:=hc.1.e3;have h4:=hc.2.2.1;have h5:bV (dP p (aL p o.channel)) 8=dP p (aL p o.channel)+8:=fE (by omega) (by omega);rw[h5] at h2;exact⟨h1.1,h1.2.1,h1.2.2,h2,by omega,h5⟩
theorem TD:mD p (aL p o.channel)≤4611686018427387903:=by
 have:=Cf h hn;unfold mD;split<;>omega
theorem TF:(aL p o.channel).trim≤4611686018427387903:=by
 have h1:=(h.ch _ (bW hn)).1.t2;have h2:=TD h hn;omega
include ho
theorem aby:gB (dV p o.channel (mF (aL p o.channel) o).1)∧l5 (mF (aL p o.channel) o).2=true:=by
 have hc:=h.ch _ (bW hn);have hw1:=ho.w1;have hw2:=ho.w2;have hi1:=ho.i1;have hi2:=ho.i2;have hse:∀c,c=aL p o.channel→gB (dV p o.channel c):=fun c e=>by subst e;exact xJ h hn rfl rfl hc.1 hc.2.1
 unfold mF;split
 ·refine⟨hse _ rfl,?_⟩;have how:=hc.1.ow;rw[xH] at how;refine j3 ⟨by simp[bQ],by simp[bQ]⟩ ?_ hc.1.e1 (by simp[bQ]) (by simp[bQ]);by_cases e0:(aL p o.channel).aU=0
  ·have:=how.1 e0;simp only;omega
  have:=how.2 e0;simp only;omega
 split
 ·exact⟨hse _ rfl,qA ⟨by decide,by decide⟩⟩
 rename_i hne;have he1:=hc.1.e1;have he0:=hc.2.1;have hne2:(aL p o.channel).aU≠4611686018427387903:=by simpa using hne
 have e:IntKind.u64.wrap ((aL p o.channel).aU+1)=(aL p o.channel).aU+1:=vO (by omega) (by omega);rw[e];refine⟨xJ h hn rfl rfl ?_ (by simp only;omega),j3 ⟨by simp[bQ],by simp[bQ]⟩ ⟨by simp only[bQ];omega,by simp only;omega⟩ (by simp only;omega) (by simp[bQ]) (by simp[bQ])⟩;have g:=hc.1;refine⟨by simp only;omega,ho.ahf,g.e3,?_,g.len,g.mq,g.t1,g.t2,g.t3,g.FW,g.seen,g.k0,g.k1,g.k2⟩;rw[xH];exact⟨fun e0=>by simp only at e0;omega,fun _=>⟨hw1,hw2,hi1,hi2⟩⟩
theorem Yx:gB (dV p o.channel (tT (aL p o.channel) o)):=by
 have hc:=h.ch _ (bW hn);have g:=hc.1;unfold tT;refine xJ h hn rfl rfl ⟨g.e1,?_,g.e3,g.ow,g.len,g.mq,g.t1,g.t2,g.t3,g.FW,g.seen,g.k0,g.k1,g.k2⟩ hc.2.1;simp only;split
 ·exact ho.ahf
 exact g.e2
theorem abz:gB (dV p o.channel (lZ p (aL p o.channel) o).1)∧l5 (lZ p (aL p o.channel) o).2=true:=by
 have hc:=h.ch _ (bW hn);have g:=hc.1;have eT:lZ p (aL p o.channel) o=if decide (o.at_>mD p (aL p o.channel)) then ((aL p o.channel),iX 1) else ({ (aL p o.channel) with trim:=mo (aL p o.channel).trim o.at_ },{ bQ with at_:=mo (aL p o.channel).trim o.at_ }):=by
  unfold lZ;rw[K6 h hn,Az h hn];rfl
 rw[eT];split
 ·exact⟨xJ h hn rfl rfl g hc.2.1,qA ⟨by decide,by decide⟩⟩
 rename_i hle;have hm:o.at_≤mD p (aL p o.channel):=by
  simp only[decide_eq_true_eq] at hle;omega
 have ht2:=g.t2;have ht1:=g.t1;have hmx:=TD h hn;have hb:(aL p o.channel).first≤mo (aL p o.channel).trim o.at_∧mo (aL p o.channel).trim o.at_≤mD p (aL p o.channel):=by
  unfold mo;split<;>omega
 refine⟨xJ h hn rfl rfl ⟨g.e1,g.e2,g.e3,g.ow,g.len,g.mq,hb.1,hb.2,g.t3,g.FW,g.seen,g.k0,g.k1,g.k2⟩ hc.2.1,j3 ⟨by simp[bQ],by simp[bQ]⟩ ⟨by simp[bQ],by simp[bQ]⟩ (by simp[bQ]) (by simp only;omega) (by simp[bQ])⟩
omit ho
theorem Ri:l5 { bQ with at_:=(aL p o.channel).trim }=true:=
 j3 ⟨by simp[bQ],by simp[bQ]⟩ ⟨by simp[bQ],by simp[bQ]⟩ (by simp[bQ]) (by have:=TF h hn;simpa using this) (by simp[bQ])
theorem Yy:xI (aL p o.channel).au o.sub≤4611686018427387903:=by
 have g:=(h.ch _ (bW hn)).1.k2;rw[List.all_eq_true] at g;unfold xI;split
 ·rename_i x hx;have:=g x (List.mem_of_find?_eq_some hx);simp only[nT,Bool.and_eq_true,oq] at this;exact this.2
 decide
theorem TG:∀{l:List Int} {lo hi:Int},l.Pairwise (· < ·)→(∀x∈l,lo<x∧x≤hi)→lo≤hi→(l.length:Int)≤hi-lo
 |[],lo,hi,_,_,hle=>by simp;omega
 | x::l,lo,hi,hp,hb,hle=>by
   rw[List.pairwise_cons] at hp;have hx:=hb x (by simp);have:=TG (l:=l) (lo:=x) (hi:=hi) hp.2 (fun y hy=>⟨hp.1 y hy,(hb y (by simp[hy])).2⟩) (by omega);simp only[List.length_cons];omega
include ho
theorem aeT (hs:dZ o.kind 5=true){a:Int}(ha:a≤4611686018427387903):gB (dV p o.channel (uT (aL p o.channel) o a).1)∧l5 (uT (aL p o.channel) o a).2=true:=by
 have hc:=h.ch _ (bW hn);have g:=hc.1;have hsb:=ho.sub hs;obtain⟨L,hL⟩:∃L,L=(aL p o.channel).au.filter (fun x=>!(x.sub==o.sub))++[(⟨o.sub,a⟩:Cu)]:=⟨_,rfl⟩;have hK:FV (aL p o.channel).au o a=mR Cu.sub L:=by rw[hL];rfl
 have k2:=g.k2;rw[List.all_eq_true] at k2;have hall:∀x∈L,nT x=true:=by
  intro x hx;rw[hL] at hx;rcases List.mem_append.1 hx with hx|hx
  ·exact k2 x (List.mem_filter.1 hx).1
  rw[List.mem_singleton] at hx;subst hx;simp only[nT,Bool.and_eq_true,oq,bS,decide_eq_true_eq];exact⟨hsb,ha⟩
 have hnd:(L.map Cu.sub).Nodup:=by
  rw[hL,List.map_append,List.nodup_append];refine⟨?_,by simp,?_⟩
  ·have k1:=g.k1;unfold jM at k1;rw[decide_eq_true_eq,List.pairwise_map] at k1;have h3:=k1.filter (fun x:Cu=>!(x.sub==o.sub));rw[List.nodup_iff_pairwise_ne,List.pairwise_map];exact h3.imp fun h=>by omega
  intro x hx y hy;obtain⟨z,hz,rfl⟩:=List.mem_map.1 hx;simp only[List.map_cons,List.map_nil,List.mem_singleton] at hy;subst hy;have:=(List.mem_filter.1 hz).2;simpa using this
 have hr:(mR Cu.sub L).Pairwise fun a b=>a.sub<b.sub:=(decide_eq_decide.1 (vS Cu.sub L)).2 hnd
 have adJ:∀x∈mR Cu.sub L,nT x=true:=fun x hx=>hall x ((qx Cu.sub L).mem_iff.1 hx)
 have hr2:((mR Cu.sub L).map Cu.sub).Pairwise (· < ·):=by rw[List.pairwise_map];exact hr
 have hlen:((mR Cu.sub L).length:Int)≤3:=by
  have:=TG h hn (l:=(mR Cu.sub L).map Cu.sub) (lo:=0) (hi:=3) hr2 (fun x hx=>by
   obtain⟨y,hy,rfl⟩:=List.mem_map.1 hx;have:=adJ y hy;simp only[nT,Bool.and_eq_true,oq,bS,decide_eq_true_eq] at this;omega) (by decide)
  rw[List.length_map] at this;omega
 unfold uT;rw[hK];refine⟨xJ h hn rfl rfl ⟨g.e1,g.e2,g.e3,g.ow,g.len,g.mq,g.t1,g.t2,g.t3,g.FW,g.seen,by simp only;omega,?_,?_⟩ hc.2.1,j3 ⟨by simp[bQ],by simp[bQ]⟩ ⟨by simp[bQ],by simp[bQ]⟩ (by simp[bQ]) ha (by simp[bQ])⟩
 ·unfold jM;rw[decide_eq_true_eq];exact hr2
 rw[List.all_eq_true];exact adJ
end
section
variable {α:Type}
def dF (p:α→Bool)(l:List α)(j:Nat):List α:=(l.take j).filter fun x=>!p x
def K4 (p:α→Bool)(l:List α)(jm:Nat×List α):Prop:=jm.1≤l.length∧jm.2.length=l.length∧jm.2.take (dF p l jm.1).length=dF p l jm.1∧jm.2.drop jm.1=l.drop jm.1
theorem Av (p:α→Bool)(l:List α)(j:Nat)(h:j≤l.length):(dF p l j).length≤j:=by
 refine Nat.le_trans (List.length_filter_le _ _) ?_;simp;omega
theorem pJ (p:α→Bool)(l:List α)(j:Nat)(h:j<l.length):dF p l (j+1)=if p l[j] then dF p l j else dF p l j++[l[j]]:=by
 unfold dF;rw[List.take_succ_eq_append_getElem h,List.filter_append];cases hp:p l[j]<;>simp[hp]
theorem ze {p:α→Bool}{l:List α}{j:Nat}(h:j<l.length)(hp:p l[j]=false):(dF p l (j+1)).length=(dF p l j).length+1:=by
 rw[pJ p l j h,hp];simp
theorem zf {p:α→Bool}{l:List α}{j:Nat}(h:j<l.length)(hp:p l[j]=true):(dF p l (j+1)).length=(dF p l j).length:=by
 rw[pJ p l j h,hp];simp
theorem FU {p:α→Bool}{l:List α}{j:Nat}{m:List α}(h:K4 p l (j,m))(hj:j<l.length):∃hm:j<m.length,m[j]=l[j]:=by
 obtain⟨_,h2,_,h4⟩:=h;simp only at h2 h4;have hm:j<m.length:=by omega
 refine⟨hm,?_⟩;have:=congrArg (fun x=>x[0]?) h4;simpa[hm,hj] using this
theorem Cb {p:α→Bool}{l:List α}{j:Nat}{m:List α}(h:K4 p l (j,m))(hj:j<l.length)(hp:p l[j]=true):K4 p l (j+1,m):=by
 obtain⟨h1,h2,h3,h4⟩:=h;refine⟨hj,h2,?_,?_⟩
 ·simp only[pJ p l j hj,hp,if_true];exact h3
 simp only at h4 ⊢;have:=congrArg (fun x=>x.drop 1) h4;simpa using this
theorem Cc {p:α→Bool}{l:List α}{j:Nat}{m:List α}(h:K4 p l (j,m))(hj:j<l.length)(hp:p l[j]=false):K4 p l (j+1,m.set (dF p l j).length l[j]):=by
 have hk:=Av p l j (Nat.le_of_lt hj);obtain⟨h1,h2,h3,h4⟩:=h;simp only at h2 h3 h4;refine⟨hj,by simpa using h2,?_,?_⟩
 ·simp only[pJ p l j hj,hp,Bool.false_eq_true,if_false,List.length_append,List.length_singleton];rw[List.take_succ_eq_append_getElem (by simp;omega),List.take_set_of_le (Nat.le_refl _),h3];simp
 simp only;have:=congrArg (fun x=>x.drop 1) h4;rw[List.drop_set_of_lt (by omega)];simpa using this
theorem zh {p:α→Bool}{l:List α}(k:Nat)(hk:k<l.length)(h:∀j (hj:j<l.length),j<k→p l[j]=false)(hp:p l[k]=true):K4 p l (k+1,l)∧(dF p l (k+1)).length=k:=by
 have h1:dF p l k=l.take k:=by
  unfold dF;rw[List.filter_eq_self];intro x hx;obtain⟨j,hj,rfl⟩:=List.getElem_of_mem hx;rw[List.length_take] at hj;rw[List.getElem_take,h j (by omega) (by omega)];rfl
 have h2:dF p l (k+1)=l.take k:=by rw[pJ p l k hk,hp,if_pos rfl,h1]
 have h3:(l.take k).length=k:=by simp;omega
 exact⟨⟨hk,rfl,by simp only[h2,h3],rfl⟩,by rw[h2,h3]⟩
end
section
variable {P:Program}{c:Ctx}{R:Real}{s:AS}{a:Act}{w:World}
theorem yF {N:Nat→Prop}{hp:List (Nat×aA)}:∀{ps:List PV} {vs:List Value},gq N w ps vs→bN N w hp R (ps.map .pv) (vs.take ps.length)
 |[],vs,_=>by simp[bN]
 | p::ps,vs,h=>by
   simp only[gq] at h;obtain⟨v,r,rfl,h1,h2,h3⟩:=h;simp only[List.map_cons,List.length_cons,List.take_succ_cons,bN];exact⟨v,_,rfl,h1,by simpa only[ai] using h2,yF h3⟩
theorem bB.abN (g:bB c R s a w){b:Nat}{e:TypeId}{v st:Nat}{pre post:List (List PV)}{ps:List PV}(hb:lk s.hp b=some (.arr e v st (pre++ps::post))) :
  bB c R (s.app [(b,.dN e v st pre (ps.map .pv) post)]) a w∧∀u x,ai (aT c R s.hp) w s.hp R u x→ai (aT c R ((b,.dN e v st pre (ps.map .pv) post)::s.hp)) w ((b,.dN e v st pre (ps.map .pv) post)::s.hp) R u x:=by
 obtain⟨xs,k1,k2⟩:=g.boxes b _ hb;have hl:(pre++ps::post).length=pre.length+(1+post.length):=by simp[Nat.add_comm]
 obtain⟨m1,m2,m3,m4⟩:=wD k2;exact g.JS (bD:=.dN e v st pre (ps.map .pv) post) hb (fun off v h=>h.elim) (fun ver u h=>by simpa only[aS,hl] using h) (fun ver i off u h=>h) (fun r h=>h) (fun hm hN=>by
  refine⟨xs,by rw[←hl];exact k1,aV (fun r _ h=>hN r h) (fun _ _ _=>rfl) _ _ _ m1,by rw[List.length_map];exact m2,?_,aV (fun r _ h=>hN r h) (fun _ _ _=>rfl) _ _ _ m4⟩;have:=yF (R:=R) (hp:=(b,.dN e v st pre (ps.map .pv) post)::s.hp) (bX (fun r _ h=>hN r h) (fun _ _ _=>rfl) _ _ m3);rw[m2] at this;exact this)
theorem Oo {f:FuncId}{args:List AV}{hp:List (Nat×aA)}{r r2:AV}{hp' hp2:List (Nat×aA)}(h:dU P f args hp r hp')(b:Nat){e:TypeId}{v st:Nat}{pre post:List (List PV)}{ps:List PV}
  (hb:lk hp' b=some (.arr e v st (pre++ps::post)))
  (e2:Qv ((b,.dN e v st pre (ps.map .pv) post)::hp') r (fun x h=>x=r2∧h=hp2)):dU P f args hp r2 hp2:=by
 refine⟨h.1,fun c R w dm hh ha=>(h.2 c R w dm hh ha).mono ?_⟩;rintro ex w' ⟨x,r0,l9,R',rfl,⟨e1,e3⟩,PW,hr⟩
 rw[e1,e3] at hr;rw[e3] at PW;have g:bB c R' ⟨[],0,hp'⟩ { tmps:=Array.replicate c.n undef,defers:=[] } w':=
  PW.Xx (fun t v h=>by simp[lk] at h) (by simp) ⟨[],⟨fun d h=>by simp at h,rfl,by simp,fun d h=>by simp at h,fun d h=>by simp at h⟩⟩
 obtain⟨g1,m1⟩:=g.abN hb;obtain⟨r',Ik,R'',hQ,h1,h2⟩:=mO e2 g1.hap (m1 _ _ hr);exact⟨x,r',Ik,R'',rfl,hQ,h1,h2⟩
end
theorem Cj {s s':AS}(ids:List Nat)(h:match Km s.hp ids with|some fs=>aa1 ⟨(s.app fs).tm,(s.app fs).nx,Ry (s.app fs).hp (s.app fs).hp⟩ s'|none=>False)(c:Ctx)(R:Real)(a:Act)(w:World)(g:bB c R s a w):∃R',bB c R' s' a w:=by
 split at h;rotate_left;cases h
 rename_i fs hfs;obtain⟨g1,_⟩:=jT g (fun _ _ h=>h) _ _ hfs;obtain⟨g2,_⟩:=JZ g1;exact aj h c R a w g2
theorem JN:∀{L:List Ch},(L.flatMap (·.af)).Nodup→∀{i j:Nat} (hi:i<L.length) (hj:j<L.length),i≠j→∀{x:Int},x∈L[i].af→x∈L[j].af→False
 |[],_,_,_,hi,_,_,_,_,_=>by simp at hi
 | c::L,h,i,j,hi,hj,hne,x,h1,h2=>by
   rw[List.flatMap_cons,List.nodup_append] at h;obtain⟨_,h4,h5⟩:=h;cases i with
   | zero=>
     cases j with
     |zero=>exact hne rfl
     | succ j=>
       simp only[List.getElem_cons_zero,List.getElem_cons_succ] at h1 h2;exact h5 x h1 x (List.mem_flatMap.2 ⟨_,List.getElem_mem _,h2⟩) rfl
   | succ i=>
     cases j with
     | zero=>
       simp only[List.getElem_cons_zero,List.getElem_cons_succ] at h1 h2;exact h5 x h2 x (List.mem_flatMap.2 ⟨_,List.getElem_mem _,h1⟩) rfl
     | succ j=>
       simp only[List.getElem_cons_succ] at h1 h2;exact JN h4 (by simpa using hi) (by simpa using hj) (by omega) h1 h2
theorem gB.nodup {p:Pn}(h:gB p):(gT p).Nodup:=by
 rw[h.perm.nodup_iff,List.nodup_iff_pairwise_ne];exact h.mq.imp fun h=>by omega
theorem gB.once {p:Pn}(h:gB p){i j:Nat}(hi:i<p.channels.length)(hj:j<p.channels.length){x:Int}(h1:x∈p.channels[i].af)(h2:x∈p.channels[j].af):i=j:=
 Classical.byContradiction fun hne=>JN h.nodup hi hj hne h1 h2
section
variable {p:Pn}(h:gB p){o:bg}(ho:Ir o)(hn:dM p o.channel=true)
include h hn
theorem aeU {c:Ch}(hc:c∈p.channels){x:Int}(h1:x∈c.af)(h2:x∈(aL p o.channel).af):c=aL p o.channel:=by
 obtain⟨i,hi,rfl⟩:=List.getElem_of_mem hc;obtain⟨hj,e⟩:=gW hn;rw[e] at h2 ⊢;have:=h.once hi hj h1 h2;subst this;rfl
theorem nE {l:Lg}(hl:fK p o.channel=some l):l∈p.af∧(aL p o.channel).af.getLast? = some l.id∧l.closed=0∧aR p l.id=some l:=by
 rw[Az h hn] at hl;unfold gN at hl;split at hl
 ·cases hl
 rename_i id hg;split at hl
 ·cases hl
 rename_i l2 hf;split at hl
 ·rename_i h0;have:=Option.some.inj hl;subst this;obtain⟨h1,h2⟩:=fT hf;exact⟨h1,by rw[hg,h2],by simpa using h0,by rw[h2];exact hf⟩
 cases hl
theorem nG {l:Lg}(hl:qz p o=some l):fK p o.channel=some l∧l.id=o.aY:=by
 unfold qz at hl;split at hl
 ·rename_i x hx;split at hl
  ·rename_i e;have:=Option.some.inj hl;subst this;exact⟨hx,by simpa using e⟩
  cases hl
 cases hl
include ho
theorem Vj:gB (kT p (fV p o)).1∧l5 (kT p (fV p o)).2=true:=by
 unfold fV;split
 ·exact⟨h,qA ⟨by decide,by decide⟩⟩
 rename_i l hl;obtain⟨hop,hid⟩:=nG h hn hl;obtain⟨hm,hg,hc0,hf⟩:=nE h hn hop;simp only;split
 ·exact⟨h,qA ⟨by decide,by decide⟩⟩
 split
 ·exact⟨h,qA ⟨by decide,by decide⟩⟩
 rename_i hmf;have ajB:fC l.w (NM l.av (Ty o.av))=true:=by
  cases hb:fC l.w (NM l.av (Ty o.av)) with
  |true=>rfl
  |false=>rw[hb] at hmf;simp at hmf
 refine⟨NR h hm rfl ?_ rfl,TB⟩;have:=(h.lg l hm).1;unfold kL at this ⊢;simp only[Bool.and_eq_true] at this ⊢;exact⟨this.1,this.2.1,this.2.2.1,ajB,this.2.2.2.2⟩
omit ho
theorem Rj {l:Lg}(hg:(aL p o.channel).af.getLast? = some l.id):∃r,(aL p o.channel).af=r++[l.id]∧∀x∈r,x≠l.id:=by
 obtain⟨r,hr⟩:=List.getLast?_eq_some_iff.1 hg;refine⟨r,hr,fun x hx=>?_⟩;have:=(h.ch _ (bW hn)).1.mq;rw[hr,List.pairwise_append] at this;have:=this.2.2 x hx l.id (by simp);omega
theorem Rk {q:Pn}{id:Int}(e:aR q id=aR p id):aW q id=aW p id:=by unfold aW;rw[e]
theorem Vk (h0:0≤o.at_):gB (kT p (fZ p (aL p o.channel) o)).1∧l5 (kT p (fZ p (aL p o.channel) o)).2=true:=by
 unfold fZ;split
 ·exact⟨h,qA ⟨by decide,by decide⟩⟩
 rename_i l hl;obtain⟨hop,hid⟩:=nG h hn hl;obtain⟨hm,hg,hc0,hf⟩:=nE h hn hop;obtain⟨r,hr,hrn⟩:=Rj h hn hg;split
 ·exact⟨h,qA ⟨by decide,by decide⟩⟩
 rename_i AA;simp only[Bool.or_eq_true,Bool.not_eq_true',decide_eq_true_eq,not_or,Bool.not_eq_false] at AA;obtain⟨hmf,ha8,htr⟩:=AA;rw[K6 h hn] at htr;obtain⟨e1,e2,e3,e4,e5,e6⟩:=Cf h hn;have hop2:(gN p (aL p o.channel)).isSome=true:=by rw[←Az h hn,hop];rfl
 have h16:=(h.ch _ (bW hn)).2.2.2 hop2;refine⟨?_,TB⟩;simp only[kT];have hfs:∀id,id≠l.id→aR (kM p { l with av:=o.av,closed:=1,last:=o.at_ }) id=aR p id:=fun id hne=>by
  rw[jP];cases hfi:aR p id with
  |none=>rfl
  | some x=>
    have:=(fT hfi).2;simp only[Option.map_some];rw[if_neg (by rw[beq_iff_eq];omega)]
 have hfl:aR (kM p { l with av:=o.av,closed:=1,last:=o.at_ }) l.id=some { l with av:=o.av,closed:=1,last:=o.at_ }:=by
  rw[jP,hf];simp
 refine TA h hm rfl ?_ h0 ?_
 ·have:=(h.lg l hm).1;unfold kL at this ⊢;simp only[Bool.and_eq_true] at this ⊢;exact⟨this.1,this.2.1,this.2.2.1,hmf,by decide,by rw[decide_eq_true_eq];show o.at_≤8*1;omega⟩
 intro c hc;by_cases hown:l.id∈c.af
 ·have ec:c=aL p o.channel:=aeU h hn hc hown (by rw[hr];simp);subst ec;obtain⟨g,g0,g1,g2⟩:=h.ch _ hc;have hend:dP (kM p { l with av:=o.av,closed:=1,last:=o.at_ }) (aL p o.channel)=dP p (aL p o.channel)+o.at_:=by
   have ep:dP p (aL p o.channel)=bV (r.foldl (fun e id=>bV e ((aR p id).getD Ip).last) (aL p o.channel).first) l.last:=by
    unfold dP;rw[hr,List.foldl_append];simp only[List.foldl_cons,List.foldl_nil,hf,Option.getD_some]
   have el:l.last=0:=by
    have h1:=Aw (h.lg l hm).1;have h2:=(h.lg l hm).2.2;omega
   have eq:dP (kM p { l with av:=o.av,closed:=1,last:=o.at_ }) (aL p o.channel)=bV (r.foldl (fun e id=>bV e ((aR p id).getD Ip).last) (aL p o.channel).first) o.at_:=by
    unfold dP;rw[hr,List.foldl_append];simp only[List.foldl_cons,List.foldl_nil,hfl,Option.getD_some];congr 1
    exact Ce fun x hx e=>by rw[hfs x (hrn x hx)]
   have hb:∀x∈r,0≤bH p x∧bH p x≤8:=fun x _=>⟨(h.last x).1,(h.last x).2.1⟩
   have hrl:r.length≤8:=by have:=g.len;rw[hr,List.length_append] at this;simp at this;omega
   have hs:=tX hb;have hg3:=g.e3;have hfo:r.foldl (fun e id=>bV e ((aR p id).getD Ip).last) (aL p o.channel).first=(aL p o.channel).first+fD (bH p) r:=kV (bH p) r _ hb g1 (by omega)
   rw[hfo] at ep eq;rw[el,fE (by omega) (by omega)] at ep;rw[eq,fE (by omega) (by omega)];omega
  have ahh:(gN (kM p { l with av:=o.av,closed:=1,last:=o.at_ }) (aL p o.channel))=none:=by
   unfold gN;rw[hg];simp only[hfl];rfl
  rw[fE (by omega) (by omega)] at htr;refine⟨⟨g.e1,g.e2,g.e3,g.ow,g.len,g.mq,g.t1,?_,?_,?_,g.seen,g.k0,g.k1,g.k2⟩,g0,g1,?_⟩
  ·unfold mD;rw[ahh,hend];simp only[Option.isSome_none,Bool.false_eq_true,if_false];omega
  ·rw[hend,fE (by omega) (by omega)];omega
  ·rw[jO];have hl:=g.FW;rw[jO] at hl;intro i hi;have h3:=hl i hi;by_cases ei:(aL p o.channel).af[i]=l.id
   ·rw[ei];unfold aW;rw[hfl];refine⟨rfl,fun e=>?_⟩;simp at e
   unfold aW;rw[hfs _ ei];exact h3
  intro e;rw[ahh] at e;cases e
 exact mU (p:=p) (fun id hid=>by rw[hfs id (fun e=>hown (e▸hid))]) (h.ch c hc)
end
theorem ou {L:List Lg}{l:Lg}{id:Int}{x:Lg}(h:L.find? (fun x=>x.id==id)=some x):(L++[l]).find? (fun x=>x.id==id)=some x:=by
 rw[List.find?_append,h];rfl
theorem Cg {α:Type}(L:List α)(i:Nat)(hi:i<L.length)(c:α):L.set i c=L.take i++c::L.drop (i+1)∧L=L.take i++L[i]::L.drop (i+1):=by
 refine⟨List.set_eq_take_append_cons_drop .. |>.trans (by rw[if_pos hi]),?_⟩;rw[List.getElem_cons_drop,List.take_append_drop]
theorem JO {p:Pn}{n:Int}(hn:dM p n=true)(c':Ch)(L:List Lg)(x:Int):∃A B:List Int,gT p=A++(aL p n).af++B∧gT { dV p n c' with af:=L,next:=x }=A++c'.af++B:=by
 obtain⟨hi,e⟩:=gW hn;obtain⟨h1,h2⟩:=Cg p.channels _ hi c';refine⟨(p.channels.take (n-1).toNat).flatMap (·.af),(p.channels.drop ((n-1).toNat+1)).flatMap (·.af),?_,?_⟩
 ·unfold gT;conv=>lhs;rw[h2]
  rw[List.flatMap_append,List.flatMap_cons,e,List.append_assoc]
 unfold gT dV;simp only;rw[h1,List.flatMap_append,List.flatMap_cons,List.append_assoc]
section
variable {p:Pn}(h:gB p){o:bg}(ho:Ir o)(hn:dM p o.channel=true)
include h hn
theorem NT {c x:Ch}(hx:x∈(dV p o.channel c).channels):x=c∨(x∈p.channels∧∀id∈x.af,id∉(aL p o.channel).af):=by
 obtain⟨hi,e⟩:=gW hn;unfold dV at hx;obtain⟨j,hj,rfl⟩:=List.getElem_of_mem hx;simp only at hj ⊢;rw[List.length_set] at hj;rw[List.getElem_set];split
 ·exact .inl rfl
 rename_i hne;refine .inr ⟨List.getElem_mem _,fun id h1 h2=>?_⟩;rw[e] at h2;exact hne (h.once hj hi h1 h2).symm
include ho
theorem Vl (hk:o.kind=4):gB (iD p (aL p o.channel) o).1∧l5 (iD p (aL p o.channel) o).2=true:=by
 unfold iD jZ;split
 ·rename_i y hy;split at hy
  ·cases hy
  rename_i hc1;split at hy
  ·cases hy
  rename_i hc2;have:=Option.some.inj hy;subst this;simp only[Bool.or_eq_true,beq_iff_eq,not_or,decide_eq_true_eq] at hc1 hc2;obtain⟨hop,hep⟩:=hc1;obtain⟨⟨hl8,hnx⟩,h16⟩:=hc2;have hop2:gN p (aL p o.channel)=none:=by
   rw[Az h hn] at hop;cases hq:gN p (aL p o.channel) with
   |none=>rfl
   |some _=>rw[hq] at hop;simp at hop
  obtain⟨e1,e2,e3,e4,e5,e6⟩:=Cf h hn;rw[K6 h hn,fE (by omega) (by omega)] at h16;obtain⟨g,g0,g1,g2⟩:=h.ch _ (bW hn);have hn1:=h.n1;have hn2:=h.n2;have hnx2:bV p.next 1=p.next+1:=fE (by omega) (by omega);have hfr:=ho.fr;unfold pK at hfr;rw[if_pos hk] at hfr;simp only[Bool.and_eq_true,decide_eq_true_eq] at hfr;obtain⟨hfk,hf1,hfa,hfw,hfm⟩:=hfr;have hw5:o.w≤5:=by
   have hm:=hfm;unfold fC at hm;simp only[Bool.and_eq_true,List.all_eq_true] at hm;have hl:o.av.length=1:=by omega
   have:=hm.2.2.1 (o.av[0]'(by omega)) (List.getElem_mem _);unfold Al at this;simp only[Bool.and_eq_true,bS,decide_eq_true_eq] at this;omega
  simp only;refine⟨?_,j3 ⟨by simp[bQ],by simp[bQ]⟩ ⟨by simp[bQ],by simp[bQ]⟩ (by simp[bQ]) (by simp[bQ]) (by show p.next≤_;omega)⟩;obtain⟨q,hq⟩:∃q:Pn,q={ dV p o.channel { aL p o.channel with af:=(aL p o.channel).af++[p.next] } with af:=p.af++[⟨p.next,o.w,o.a,o.av,0,0⟩],next:=bV p.next 1 }:=⟨_,rfl⟩;rw[←hq];have NU:q.af=p.af++[⟨p.next,o.w,o.a,o.av,0,0⟩]:=by rw[hq]
  have hqc:q.channels=(dV p o.channel { aL p o.channel with af:=(aL p o.channel).af++[p.next] }).channels:=by rw[hq]
  have ahi:jY q=jY p++[p.next]:=by unfold jY;rw[NU,List.map_append];rfl
  have hlt:∀x∈jY p,x<p.next:=fun x hx=>by
   obtain⟨l,hl,rfl⟩:=List.mem_map.1 hx;exact (h.lg l hl).2.1
  have hnew:aR q p.next=some ⟨p.next,o.w,o.a,o.av,0,0⟩:=by
   unfold aR;rw[NU,List.find?_append];have:p.af.find? (fun l=>l.id==p.next)=none:=by
    rw[List.find?_eq_none];intro l hl;have:=(h.lg l hl).2.1;simp;omega
   rw[this];simp
  have hold:∀c∈p.channels,∀id∈c.af,aR q id=aR p id:=fun c hc id hid=>by
   obtain⟨l,_,_,hf⟩:=h.named hc hid;rw[hf];unfold aR at hf ⊢;rw[NU];exact ou hf
  refine⟨by rw[hq];exact h.v0,by rw[hq];exact h.v,by rw[hq];show 1≤bV p.next 1;omega,by rw[hq];show bV p.next 1≤_;omega,by rw[hqc];simpa[dV] using h.c1,by rw[hqc];simpa[dV] using h.c2,?_,?_,?_,?_,by rw[hq];exact h.p1,by rw[hq];exact h.p2⟩
  ·have hqn:q.next=p.next+1:=by rw[hq];exact hnx2
   rw[NU,hqn];intro l hl;rcases List.mem_append.1 hl with hl|hl
   ·have:=h.lg l hl;exact⟨this.1,by omega,this.2.2⟩
   rw[List.mem_singleton] at hl;subst hl;refine⟨?_,by simp only;omega,Int.le_refl 0⟩;unfold kL;simp only[Bool.and_eq_true,bS,decide_eq_true_eq];exact⟨⟨hn1,by omega⟩,⟨hfa,hfw⟩,hw5,hfm,⟨Int.le_refl 0,Int.zero_le_ofNat 1⟩,Int.le_refl 0⟩
  ·rw[ahi,List.pairwise_append];exact⟨h.mq,by simp,fun a ha b hb=>by rw[List.mem_singleton] at hb;subst hb;exact hlt a ha⟩
  ·rw[ahi];obtain⟨A,B,n1,n2⟩:=JO hn { aL p o.channel with af:=(aL p o.channel).af++[p.next] } (p.af++[⟨p.next,o.w,o.a,o.av,0,0⟩]) (bV p.next 1);rw[hq,n2];have h3:=h.perm;rw[n1] at h3;refine List.Perm.trans ?_ (h3.append_right [p.next]);simp only[List.append_assoc];refine List.Perm.append_left A (List.Perm.append_left _ ?_);exact List.perm_append_comm
  intro c hc;rw[hqc] at hc;rcases NT h hn hc with rfl|⟨hc,_⟩
  ·have ahj:dP q (aL p o.channel)=dP p (aL p o.channel):=iI fun id hid=>by rw[hold _ (bW hn) id hid]
   have hend:dP q { aL p o.channel with af:=(aL p o.channel).af++[p.next] }=dP p (aL p o.channel):=by
    have e0:dP q { aL p o.channel with af:=(aL p o.channel).af++[p.next] }=bV (dP q (aL p o.channel)) 0:=by
     unfold dP;simp only[List.foldl_append,List.foldl_cons,List.foldl_nil,hnew,Option.getD_some]
    rw[e0,ahj,fE (by omega) (by omega),Int.add_zero]
   have ajE:gN q { aL p o.channel with af:=(aL p o.channel).af++[p.next] }=some ⟨p.next,o.w,o.a,o.av,0,0⟩:=by
    unfold gN;simp only[List.getLast?_append,List.getLast?_singleton,Option.some_or,hnew];rfl
   have hmp:mD p (aL p o.channel)=dP p (aL p o.channel):=by unfold mD;rw[hop2];rfl
   have ht2:=g.t2;rw[hmp] at ht2;refine⟨⟨g.e1,g.e2,g.e3,?_,?_,?_,g.t1,?_,?_,?_,g.seen,g.k0,g.k1,g.k2⟩,g0,g1,?_⟩
   ·have:=g.ow;rw[xH] at this ⊢;exact⟨fun e=>absurd e hep,this.2⟩
   ·have:=g.len;simp only[List.length_append,List.length_singleton];omega
   ·rw[List.pairwise_append];refine⟨g.mq,by simp,fun a ha b hb=>?_⟩;rw[List.mem_singleton] at hb;subst hb;obtain⟨l,hl,e,_⟩:=h.named (bW hn) ha;rw[←e];exact (h.lg l hl).2.1
   ·unfold mD;rw[ajE,hend,e6];simp only[Option.isSome_some,if_true];omega
   ·rw[hend,e6];exact e4
   ·rw[jO];intro i hi;simp only[List.length_append,List.length_singleton] at hi;have adK:=g.FW;rw[jO] at adK;by_cases hlt2:i<(aL p o.channel).af.length
    ·have h3:=adK i hlt2;have hmem:=List.getElem_mem hlt2;simp only[List.getElem_append_left hlt2,List.length_append,List.length_singleton];rw[Rk h hn (hold _ (bW hn) _ hmem),hold _ (bW hn) _ hmem];refine⟨h3.1,fun e0=>?_⟩;exfalso;have h4:=h3.2 e0;have hgl:(aL p o.channel).af.getLast? = some (aL p o.channel).af[i]:=by
      rw[List.getLast?_eq_getElem?];rw[show (aL p o.channel).af.length-1=i from by omega,List.getElem?_eq_getElem hlt2]
     obtain⟨l,hl2,hid,hf⟩:=h.named (bW hn) hmem;unfold gN at hop2;rw[hgl] at hop2;simp only[hf] at hop2;unfold aW at e0;rw[hf] at e0;simp only[Option.getD_some] at e0;rw[e0] at hop2;simp at hop2
    have hie:i=(aL p o.channel).af.length:=by omega
    subst hie;simp only[List.getElem_concat_length,hnew,List.length_append,List.length_singleton];simp
   intro _;rw[hend];omega
  exact mU (p:=p) (fun id hid=>by rw[hold c hc id hid]) (h.ch c hc)
 rename_i hy;split at hy
 ·rename_i hc;rw[if_pos hc];exact⟨h,qA ⟨by decide,by decide⟩⟩
 rename_i hc;split at hy
 ·rename_i hc2;rw[if_neg hc,if_pos hc2];exact⟨h,qA ⟨by decide,by decide⟩⟩
 cases hy
end
theorem lI {L:List Lg}{q:Lg→Bool}{id:Int}(hq:∀l∈L,l.id=id→q l=true):(L.filter q).find? (fun x=>x.id==id)=L.find? (fun x=>x.id==id):=by
 induction L with
 |nil=>rfl
 | cons x L ih=>
   have ih:=ih fun l hl=>hq l (by simp[hl])
   rw[List.filter_cons,List.find?_cons];cases he:(x.id==id) with
   | true=>
     rw[if_pos (hq x (by simp) (by simpa using he)),List.find?_cons,he]
   | false=>
     split
     ·rw[List.find?_cons,he];exact ih
     exact ih
theorem oM {p:Pn}(h:gB p)(trim:Int):∀(ids:List Int) (first:Int),0≤first→first+8*ids.length<18446744073709551616 →
  (dI p trim ids first).1≤ids.length∧(dI p trim ids first).2=first+fD (bH p) (ids.take (dI p trim ids first).1)∧(first≤trim→(dI p trim ids first).2≤trim) ∧
  (∀id∈ids.take (dI p trim ids first).1,(aW p id).closed≠0)
 |[],first,_,_=>by simp[dI,fD]
 | id::r,first,h0,h1=>by
   have hl:=h.last id;simp only[List.length_cons] at h1;have e:bV first (aW p id).last=first+(aW p id).last:=fE (by omega) (by omega)
   have ih:=oM h trim r (first+(aW p id).last) (by omega) (by omega);unfold dI;simp only[e];split
   ·simp[fD]
   rename_i hc;simp only[Bool.or_eq_true,beq_iff_eq,decide_eq_true_eq,not_or] at hc;obtain⟨i1,i2,i3,i4⟩:=ih;refine⟨by simp only[List.length_cons];omega,?_,fun _=>i3 (by omega),?_⟩
   ·simp only[List.take_succ_cons,fD];rw[i2];show _=first+(bH p id+_)
    unfold bH;omega
   intro x hx;simp only[List.take_succ_cons] at hx;rcases List.mem_cons.1 hx with rfl|hx
   ·exact hc.1
   exact i4 x hx
section
variable {p:Pn}(h:gB p){o:bg}(ho:Ir o)(hn:dM p o.channel=true)
include h hn ho
theorem Vm:gB (iK p (aL p o.channel) o).1∧l5 (iK p (aL p o.channel) o).2=true:=by
 obtain⟨g,g0,g1,g2⟩:=h.ch _ (bW hn);obtain⟨e1,e2,e3,e4,e5,e6⟩:=Cf h hn;have hgl:=g.len;have hg3:=g.e3;have hs:=oM h (aL p o.channel).trim (aL p o.channel).af (aL p o.channel).first g1 (by omega)
 unfold iK nD;generalize (dI p (aL p o.channel).trim (aL p o.channel).af (aL p o.channel).first)=y at hs ⊢;obtain⟨s1,s2,s3,s4⟩:=hs;have s3:=s3 g.t1;have SX:=TF h hn;simp only;split
 ·rename_i z hz;split at hz
  ·cases hz
  rename_i AA;have:=Option.some.inj hz;subst this;rw[if_neg AA];simp only[Bool.or_eq_true,Bool.not_eq_true',not_or,Bool.not_eq_false,List.any_eq_true,decide_eq_true_eq,not_exists,not_and] at AA;obtain⟨hnm,hsn⟩:=AA;refine⟨?_,j3 ⟨by simp[bQ],by simp[bQ]⟩ ⟨by simp[bQ],by simp[bQ]⟩ (by simp[bQ]) (by show y.2≤_;omega) (by simp[bQ])⟩;obtain⟨T,hT⟩:∃T,T=(aL p o.channel).af.take y.1:=⟨_,rfl⟩;obtain⟨D,hD⟩:∃D,D=(aL p o.channel).af.drop y.1:=⟨_,rfl⟩;have P6:(aL p o.channel).af=T++D:=by rw[hT,hD,List.take_append_drop]
  rw[←hT] at s2 s4;rw[←hD,←hT];simp only;obtain⟨q,hq⟩:∃q:Pn,q={ dV p o.channel { aL p o.channel with af:=D,first:=y.2,seen:=o.seen } with af:=p.af.filter fun l=>!T.contains l.id }:=⟨_,rfl⟩;rw[←hq];have NU:q.af=p.af.filter fun l=>!T.contains l.id:=by rw[hq]
  have hqc:q.channels=(dV p o.channel { aL p o.channel with af:=D,first:=y.2,seen:=o.seen }).channels:=by rw[hq]
  have hrT:=g.mq;rw[P6,List.pairwise_append] at hrT;have NV:∀x∈D,x∉T:=fun x hx hx2=>by have:=hrT.2.2 x hx2 x hx;omega
  have hold:∀id,id∉T→aR q id=aR p id:=fun id hid=>by
   unfold aR;rw[NU];refine lI fun l _ e=>?_
   rw[e];simp[hid]
  have hsum:fD (bH p) (aL p o.channel).af=fD (bH p) T+fD (bH p) D:=by rw[P6,FX]
  have ahk:D.length≤8:=by rw[P6,List.length_append] at hgl;omega
  have hbT:∀x∈T,0≤bH p x∧bH p x≤8:=fun x _=>⟨(h.last x).1,(h.last x).2.1⟩
  have hbD:∀x∈D,0≤bH p x∧bH p x≤8:=fun x _=>⟨(h.last x).1,(h.last x).2.1⟩
  have hsT:=tX hbT;have hsD:=tX hbD;refine⟨by rw[hq];exact h.v0,by rw[hq];exact h.v,by rw[hq];exact h.n1,by rw[hq];exact h.n2,by rw[hqc];simpa[dV] using h.c1,by rw[hqc];simpa[dV] using h.c2,?_,?_,?_,?_,by rw[hq];exact h.p1,by rw[hq];exact h.p2⟩
  ·have hqn:q.next=p.next:=by rw[hq];rfl
   rw[NU,hqn];intro l hl;exact h.lg l (List.mem_filter.1 hl).1
  ·unfold jY;rw[NU];have:=h.mq;unfold jY at this;rw[List.pairwise_map] at this ⊢;exact this.filter _
  ·obtain⟨A,B,n1,n2⟩:=JO hn { aL p o.channel with af:=D,first:=y.2,seen:=o.seen } (p.af.filter fun l=>!T.contains l.id) p.next;have hqe:q={ dV p o.channel { aL p o.channel with af:=D,first:=y.2,seen:=o.seen } with af:=p.af.filter fun l=>!T.contains l.id,next:=p.next }:=hq;have hid:jY q=(jY p).filter fun x=>!T.contains x:=by
    unfold jY;rw[NU,List.filter_map];rfl
   rw[hid,hqe,n2];have h3:=h.perm.filter fun x=>!T.contains x
   refine List.Perm.trans (List.Perm.of_eq ?_) h3;have hnd:=h.nodup;rw[n1,P6] at hnd ⊢;have keep:∀{L:List Int},(∀x∈L,x∉T)→L.filter (fun x=>!T.contains x)=L:=fun hL=>by
    rw[List.filter_eq_self];intro x hx;have:=hL x hx;simp[this]
   have drop:T.filter (fun x=>!T.contains x)=[]:=by
    rw[List.filter_eq_nil_iff];intro x hx;simp[hx]
   rw[List.nodup_append] at hnd;obtain⟨hn1,hn2,hn3⟩:=hnd;rw[List.nodup_append] at hn1;obtain⟨hn4,hn5,hn6⟩:=hn1;rw[List.filter_append,List.filter_append,List.filter_append,drop,keep (L:=A) (fun x hx hx2=>hn6 x hx x (by simp[hx2]) rfl),keep NV,keep (L:=B) (fun x hx hx2=>hn3 x (by simp[hx2]) x hx rfl)];rfl
  intro c hc;rw[hqc] at hc;rcases NT h hn hc with rfl|⟨hc,hno⟩
  ·have hfD:∀id∈D,(aR q id).map Ay=(aR p id).map Ay:=fun id hid=>by rw[hold id (NV id hid)]
   have hend:dP q { aL p o.channel with af:=D,first:=y.2,seen:=o.seen }=dP p (aL p o.channel):=by
    have:dP q { aL p o.channel with af:=D,first:=y.2,seen:=o.seen }=dP p { aL p o.channel with af:=D,first:=y.2,seen:=o.seen }:=iI hfD;rw[this];have h4:dP p { aL p o.channel with af:=D,first:=y.2,seen:=o.seen }=y.2+fD (bH p) D:=kV (bH p) D y.2 hbD (by omega) (by omega);rw[h4,e1];omega
   have hop:(gN q { aL p o.channel with af:=D,first:=y.2,seen:=o.seen }).isSome=(gN p (aL p o.channel)).isSome:=by
    have:(gN q { aL p o.channel with af:=D,first:=y.2,seen:=o.seen }).isSome=(gN p { aL p o.channel with af:=D,first:=y.2,seen:=o.seen }).isSome:=vW hfD;rw[this];unfold gN;simp only[P6];by_cases hDe:D=[]
    ·subst hDe;rw[List.append_nil];simp only[List.getLast?_nil,Option.isSome_none];cases hT2:T.getLast? with
     |none=>rfl
     | some id=>
       have hm:=List.mem_of_getLast? hT2;have hcl:=s4 id hm;obtain⟨l,_,_,hf⟩:=h.named (bW hn) (id:=id) (by rw[P6];simp[hm]);unfold aW at hcl;rw[hf] at hcl;simp only[hf];simp only[Option.getD_some] at hcl;rw[if_neg (by simpa using hcl)];rfl
    rw[List.getLast?_append];cases hD2:D.getLast? with
    |none=>exact absurd (List.getLast?_eq_none_iff.1 hD2) hDe
    |some id=>rfl
   have ahl:mD q { aL p o.channel with af:=D,first:=y.2,seen:=o.seen }=mD p (aL p o.channel):=by
    unfold mD;rw[hop,hend]
   refine⟨⟨g.e1,g.e2,by show y.2≤_;omega,?_,ahk,hrT.2.1,s3,by rw[ahl];exact g.t2,by rw[hend];exact g.t3,?_,?_,g.k0,g.k1,g.k2⟩,g0,by show 0≤y.2;omega,?_⟩
   ·have:=g.ow;rw[xH] at this ⊢;refine⟨fun e=>?_,this.2⟩;obtain⟨a1,a2,a3⟩:=this.1 e;rw[P6,List.length_append] at a3;exact⟨a1,a2,by simp only;omega⟩
   ·rw[tY hfD];have hl:=g.FW;rw[jO] at hl ⊢;intro i hi;have hi2:T.length+i<(aL p o.channel).af.length:=by have hi3:i<D.length:=hi;rw[P6,List.length_append];omega
    have h3:=hl (T.length+i) hi2;have e3:(aL p o.channel).af[T.length+i]=D[i]:=by
     simp only[P6];rw[List.getElem_append_right (by omega)];simp
    rw[e3] at h3;refine⟨h3.1,fun e=>?_⟩;have:=h3.2 e;rw[P6,List.length_append] at this;show i+1=D.length
    omega
   ·have hmk:=ho.Vi;unfold zi at hmk;simp only[Bool.and_eq_true,decide_eq_true_eq,List.all_eq_true,bS,oq] at hmk;obtain⟨m1,m2,m3,m4⟩:=hmk;unfold Am;simp only[Bool.and_eq_true,decide_eq_true_eq,List.all_eq_true,BV,bS];refine⟨m1,m3,m4,fun x hx=>⟨(m2 x hx).1,(m2 x hx).2.1,?_⟩⟩;have:=hsn x hx;omega
   rw[hop,hend];exact g2
  refine mU (p:=p) (fun id hid=>?_) (h.ch c hc);rw[hold id fun hx=>hno id hid (by rw[P6];simp[hx])]
 rename_i hz;split at hz
 ·rename_i hc;rw[if_pos hc];exact⟨h,qA ⟨by decide,by decide⟩⟩
 cases hz
end
theorem Yz {o:bg}{w:Int}{f:Fr}(hto:Fz o.nC=true)(hf:Al w f=true)(hb:nY o f=false):Al w (jk o f)=true:=by
 unfold jk;split
 ·rename_i hi;rw[decide_eq_true_eq] at hi;unfold Al at hf ⊢;simp only[Bool.and_eq_true,bS,decide_eq_true_eq,List.all_eq_true] at hf ⊢;obtain⟨h1,h2,h3,h4⟩:=hf;refine⟨h1,by rw[List.length_set];exact h2,fun x hx=>?_,?_⟩
  ·rcases List.mem_or_eq_of_mem_set hx with hx|rfl
   ·exact h3 x hx
   exact hto
  obtain⟨hk,hkp⟩:=Tv (fun y=>y==o.from_) hi;have hk2:(kz o f).toNat<f.aN.length:=hk;have hj:∀(j:Nat) (hj:j<f.aN.length),f.aN[j].node=o.nC.node→j=(kz o f).toNat:=by
   intro j hj e;unfold nY at hb;have hjj:decide (NP o f≥0)=true:=by
    unfold NP;rw[tJ,List.any_eq_true];exact⟨_,List.getElem_mem hj,by simpa using e⟩
   rw[hjj] at hb;have hi2:decide (kz o f≥0)=true:=by rw[decide_eq_true_eq];exact hi
   rw[hi2] at hb;simp only[Bool.true_and,bne_eq_false_iff_eq] at hb;rw[decide_eq_true_eq] at hjj;obtain⟨hm,hmp⟩:∃hk:(NP o f).toNat<f.aN.length,(f.aN[(NP o f).toNat].node==o.nC.node)=true:=Tv (fun y:Pl=>y.node==o.nC.node) hjj;have e2:f.aN[(NP o f).toNat].node=o.nC.node:=eq_of_beq hmp;have hnd:=List.pairwise_iff_getElem.1 (List.nodup_iff_pairwise_ne.1 h4);rcases Nat.lt_trichotomy j (NP o f).toNat with hlt|heq|hgt
   ·exact (hnd j _ (by rw[List.length_map];exact hj) (by rw[List.length_map];exact hm) hlt (by rw[List.getElem_map,List.getElem_map,e,e2])).elim
   ·rw[heq,hb]
   exact (hnd _ j (by rw[List.length_map];exact hm) (by rw[List.length_map];exact hj) hgt (by rw[List.getElem_map,List.getElem_map,e,e2])).elim
  rw[List.map_set,List.nodup_iff_pairwise_ne,List.pairwise_iff_getElem];intro a b ha hb2 hab;rw[List.length_set,List.length_map] at ha hb2;have hnd:=List.pairwise_iff_getElem.1 (List.nodup_iff_pairwise_ne.1 h4) a b (by rw[List.length_map];exact ha) (by rw[List.length_map];exact hb2) hab;simp only[List.getElem_map] at hnd;rw[List.getElem_set,List.getElem_set];by_cases ea:(kz o f).toNat=a
  ·rw[if_pos ea,if_neg (by omega),List.getElem_map];intro e;have:=hj b hb2 e.symm;omega
  rw[if_neg ea,List.getElem_map];by_cases eb:(kz o f).toNat=b
  ·rw[if_pos eb];intro e;have:=hj a ha e;omega
  rw[if_neg eb,List.getElem_map];exact hnd
 exact hf
theorem vY (o:bg)(f:Fr):(jk o f).first=f.first:=by
 unfold jk;split<;>rfl
theorem Rl {p:Pn}(h:gB p){o:bg}(hto:Fz o.nC=true):gB (kT p (gP p o)).1∧l5 (kT p (gP p o)).2=true:=by
 unfold gP;split
 ·exact⟨h,qA ⟨by decide,by decide⟩⟩
 rename_i l hl;have hm:=List.mem_of_find?_eq_some hl;split
 ·exact⟨h,qA ⟨by decide,by decide⟩⟩
 rename_i hbad;split
 ·refine⟨NR h hm rfl ?_ rfl,TB⟩;have:=(h.lg l hm).1;unfold kL at this ⊢;simp only[Bool.and_eq_true] at this ⊢;refine⟨this.1,this.2.1,this.2.2.1,?_,this.2.2.2.2⟩;have hf:=this.2.2.2.1;unfold fC at hf ⊢;simp only[Bool.and_eq_true,List.all_eq_true,List.length_map,decide_eq_true_eq] at hf ⊢;obtain⟨f1,f2,f3,f4⟩:=hf;refine⟨f1,?_,fun x hx=>?_,?_⟩
  ·unfold Q5 at f2 ⊢;split at f2
   ·cases f2
   rename_i f r e;rw[e,List.map_cons];simp only[vY];exact f2
  ·obtain⟨y,hy,rfl⟩:=List.mem_map.1 hx;refine Yz hto (f3 y hy) ?_;cases hb:nY o y with
   |false=>rfl
   |true=>exact absurd (List.any_eq_true.2 ⟨y,hy,hb⟩) hbad
  rw[List.pairwise_map];exact f4.imp fun h=>by rw[vY,vY];exact h
 exact⟨h,qA ⟨by decide,by decide⟩⟩
end Go.AX
end
