/-
  Conditions: none. A framework for walks: abstract values, memory, and conditions that suffice; the chapters in plain terms.
-/
import Derived.Test.YtiagceoepkaeoaaGreatAe
import Derived.Shelf.SlSortCmp.WholeK
import Derived.Test.YtiagceoepkaeoaaGreatAd
set_option linter.unusedSectionVars false
set_option linter.unusedVariables false
set_option linter.unusedSimpArgs false
section
namespace Go.AX
open Go.Sort Go.Shelf Go.Proofs
theorem Jh {N:Nat→Prop}{w:World}:∀{vals vs:List Value},(∀v∈vals,v.oneCell'=true)→(∀j,j<vals.length→vs[j]? = vals[j]?)→fP N w (vals.map .sc) vs
 |[],vs,_,_=>by simp only[List.map_nil,fP]
 | v::r,vs,h1,h=>by
   have h0:=h 0 (by simp);match vs,h0 with
   | v'::RQ,h0=>
     simp only[List.getElem?_cons_zero,Option.some.injEq] at h0;subst h0;refine⟨v',RQ,rfl,h1 v' (by simp),by simp only[bG],Jh (fun u hu=>h1 u (by simp[hu])) fun j hj=>?_⟩;have:=h (j+1) (by simpa using hj);simpa using this
theorem Ji {N:Nat→Prop}{w:World}:∀{vals vs:List Value},fP N w (vals.map .sc) vs→∀j,j<vals.length→vs[j]? = vals[j]?
 |[],vs,_,j,hj=>by simp at hj
 | v::r,vs,h,j,hj=>by
   obtain⟨v',RQ,rfl,_,hv,h⟩:=h;simp only[bG] at hv;subst hv;cases j with
   |zero=>rfl
   |succ j=>simpa using Ji h j (by simpa using hj)
section
variable {α:Type}[Inhabited α]{P:Program}{f g:Nat}{enc:α→List Value}{st:Nat}{e:TypeId}
theorem Ee (sorted:Array α→Array α)(h0:0<st)(hl:∀x,(enc x).length=st)(h1:∀x,∀v∈enc x,v.oneCell'=true)(hsz:∀d,(sorted d).size=d.size)
  (afP:∀(blk cap:Nat) (d:Array α) (w:World),HoldsK enc st w blk 0 d→blk<w.heap.size→d.size<4611686018427387904 →
   Calls P f #[.slice (some ⟨blk,0,none⟩) d.size cap,.func (.func g) #[] #[]] w fun e w'=>e=.returned (.tuple #[])∧∃n os,w'=sortWorldK enc st w blk 0 n (sorted d) os)
  (hnil:bE P f [.sc (.slice none 0 0),.fn (.func g) [] []] (.dn [])) (l:List α) (hll:l.length<4611686018427387904) :
  dR P f [.aF 1 0,.pv (.fn (.func g) [] [])] [(1,.arr e 0 st (l.map fun x=>(enc x).map .sc))] (.pv (.dn [])) [(1,.arr e 0 st ((sorted l.toArray).toList.map fun x=>(enc x).map .sc))]:=by
 refine⟨hnil.1,fun c R w dw hh ha=>?_⟩;obtain⟨a,ha1,ha2⟩:∃a:Act,a.tmps.size=c.n∧a.defers=[]:=⟨{ tmps:=Array.replicate c.n undef,defers:=[] },by simp,rfl⟩;have gm:=hh.WL (tm:=[]) (nx:=0) (a:=a) (fun t v h=>by simp[lk] at h) ha1 (by rw[ha2];exact⟨[],Marks.nil⟩);have hbx:=hh.boxes 1 _ (show lk [(1,_)] 1=some _ from rfl);obtain⟨v1,r1,e1,hv1,v2,r2,rfl,hv2,rfl⟩:=ha;have adz:dw = #[v1,v2]:=by rw[←Array.toList_inj,e1]
 subst adz;simp only[aj,lk,Nat.beq,aT] at hv1;have hv1:=hv1.2.2 trivial;have aim:v2=.func (.func g) #[] #[]:=by
  simp only[aj,bG,eu] at hv2;obtain⟨fs,cs,rfl,h3,h4⟩:=hv2;rw[Array.toList_eq_nil_iff] at h3 h4;subst h3;subst h4;rfl
 subst aim;cases hn:R.nil 1 with
 | true=>
   obtain⟨xs,⟨_,h3⟩,_⟩:=hbx;have hlz:l=[]:=by
    rcases h3 with ⟨_,h3⟩|⟨g',cap,cur,e1,_⟩
    ·simpa using h3
    simp[bW,hn] at e1
   subst hlz;have hsl:v1=.slice none 0 0:=by rw[hv1];simp[bW,hn]
   subst hsl;refine (hnil.2 (fun _=>False) w _ (fun r h=>h.elim) ?_).mono fun e' w' ⟨v,r,he,hr,hrep,hsame⟩=>?_
   ·exact⟨_,_,rfl,by simp only[bG],_,_,rfl,by simp only[bG];exact⟨#[],#[],rfl,by simp only[eu],by simp only[eu]⟩,by simp only[eu]⟩
   subst hr;have hs0:(sorted (#[]:Array α)).toList=[]:=by
    have:=hsz #[];exact List.eq_nil_of_length_eq_zero (by simpa using this)
   refine⟨v,_,_,R,he,⟨rfl,rfl⟩,?_,?_⟩
   ·simp only[show ([]:List α).toArray = #[] from rfl,hs0];exact (gm.grow hsame).hap
   simp only[aj];simp only[bG] at hrep ⊢;obtain⟨vs,h5,h6⟩:=hrep;simp only[eu] at h6 ⊢;exact⟨vs,h5,h6⟩
 | false=>
   obtain⟨cur,hg,hs,hle,hm,hr,_⟩:=gM hbx hn;simp only[List.length_map] at hle hv1;have hsl:v1=.slice (some ⟨R.blk 1,0,none⟩) l.toArray.size ((R.cap 1).1):=by rw[hv1];simp[bW,hn]
   subst hsl;have hcell:∀i (hi:i<l.length) j,j<st→cur[i*st+j]? = (enc l[i])[j]? :=by
    intro i hi j hj;obtain⟨_,q⟩:=rH (i:=i) (row:=(enc l[i]).map .sc) hr (by simp[hi]);have:=Ji q j (by rw[hl];exact hj);rw[List.getElem?_drop,Array.getElem?_toList] at this;exact this
   have hK:HoldsK enc st w (R.blk 1) 0 l.toArray:=by
    intro j hj;rw[size_flatK] at hj;rw[get_flatK _ _ _ _ hj];have hi:j / st<l.length:=(Nat.div_lt_iff_lt_mul h0).2 hj;have hm:j%st<st:=Nat.mod_lt _ h0;have:=hcell _ hi _ hm;rw[show j / st*st+j%st=j from by rw[Nat.mul_comm];exact Nat.div_add_mod j st] at this;refine⟨?_,by simp[World.frozen?,hg]⟩;simp only[World.cell?,hg,Option.isSome_none,Bool.false_eq_true,if_false,Nat.zero_add,this,id];rw[getElem!_pos l.toArray _ (by simpa using hi),getElem!_pos _ _ (by simp only[List.getElem_toArray];rw[hl];exact hm)];simp only[List.getElem_toArray];rw[List.getElem?_eq_getElem (by rw[hl];exact hm)]
   have hblk:R.blk 1<w.heap.size:=size_of_getElem? hg;refine (afP (R.blk 1) ((R.cap 1).1) l.toArray w hK hblk (by simpa using hll)).mono fun e' w' ⟨he,n,os,hw⟩=>?_
   have Eu:w'.heap=(w.heap.modify (R.blk 1) (onCells (putCells id 0 (Go.Sort.flatK enc st (sorted l.toArray)))))++os:=by subst hw;rfl
   have hbk:w'.heap[R.blk 1]? = some (.cells (putCells id 0 (Go.Sort.flatK enc st (sorted l.toArray)) cur) e (0,0)):=by
    rw[Eu,Array.getElem?_append_left (by simpa using hblk),Array.getElem?_modify,if_pos rfl,hg];rfl
   have adA:∀r,r<w.heap.size→r≠R.blk 1→w'.heap[r]? = w.heap[r]? :=by
    intro r hr hne;rw[Eu,Array.getElem?_append_left (by simpa using hr),Array.getElem?_modify,if_neg (fun h=>hne h.symm)]
   have hworld:nR (fun r=>aN R 1 r (lk [(1,aD.arr e 0 st (l.map fun x=>(enc x).map .sc))] 1)) w w':=by
    refine⟨by rw[Eu];simp,fun r hr hno=>adA r hr fun h=>hno ?_,by subst hw;rfl,by subst hw;rfl,by subst hw;rfl⟩;subst h;exact⟨hn,rfl⟩
   have hlen:(sorted l.toArray).size=l.length:=by rw[hsz];simp
   have hR:∀b',b'≠1→R.blk b'=R.blk b'∧R.nil b'=R.nil b'∧R.cap b'=R.cap b':=fun _ _=>⟨rfl,rfl,rfl⟩
   have ain:((sorted l.toArray).toList.map fun x=>(enc x).map PV.sc).length=(l.map fun x=>(enc x).map PV.sc).length:=by simp[hlen]
   have r1:∀off v,aX R 1 off v (lk [(1,aD.arr e 0 st (l.map fun x=>(enc x).map .sc))] 1)→aX R 1 off v (some (.arr e 0 st ((sorted l.toArray).toList.map fun x=>(enc x).map .sc))):=fun off v h=>h
   have r2:∀ver v,aT R 1 ver v (lk [(1,aD.arr e 0 st (l.map fun x=>(enc x).map .sc))] 1)→aT R 1 ver v (some (.arr e 0 st ((sorted l.toArray).toList.map fun x=>(enc x).map .sc))):=fun ver v h=>by
    simp only[lk,Nat.beq,aT,ain] at h ⊢;exact h
   have r3:∀ver i off v,aZ R 1 ver i off v (lk [(1,aD.arr e 0 st (l.map fun x=>(enc x).map .sc))] 1)→aZ R 1 ver i off v (some (.arr e 0 st ((sorted l.toArray).toList.map fun x=>(enc x).map .sc))):=fun ver i off v h=>h
   have hown:∀r,aN R 1 r (some (.arr e 0 st ((sorted l.toArray).toList.map fun x=>(enc x).map .sc)))→aN R 1 r (lk [(1,aD.arr e 0 st (l.map fun x=>(enc x).map .sc))] 1)∨w.heap.size≤r:=fun r h=>.inl h
   have gm':=gm.upd (nx':=0) hR r1 r2 r3 hown hworld (by
    refine⟨(putCells id 0 (Go.Sort.flatK enc st (sorted l.toArray)) cur).toList.take ((sorted l.toArray).size*st),⟨?_,.inr ⟨R.blk 1,(R.cap 1).1,_,by simp[bW,hn],Nat.zero_le _,hbk,by simp only[List.length_map,Array.length_toList,hlen];exact hle,hm,?_,by simp⟩⟩,Ku fun i hi=>?_⟩
    ·simp only[List.length_take,Array.length_toList,putCells,Array.size_mapIdx,List.length_map];have:(sorted l.toArray).size*st≤(R.cap 1).1*st:=Nat.mul_le_mul_right _ (by omega);omega
    ·simp only[putCells,Array.size_mapIdx];exact hs
    simp only[List.length_map,Array.length_toList] at hi;simp only[List.getElem_map,Array.getElem_toList,List.length_map];refine⟨hl _,Jh (h1 _) fun j hj=>?_⟩;rw[hl] at hj;have hij:i*st+j<(sorted l.toArray).size*st:=by
     have:(i+1)*st≤(sorted l.toArray).size*st:=Nat.mul_le_mul_right _ hi;rw[Nat.add_mul] at this;omega
    have hcs:i*st+j<cur.size:=by
     have:(sorted l.toArray).size*st≤(R.cap 1).1*st:=Nat.mul_le_mul_right _ (by omega);omega
    rw[List.getElem?_drop,List.getElem?_take,if_pos hij,Array.getElem?_toList];simp only[putCells,Array.getElem?_mapIdx,size_flatK,Nat.zero_le,Nat.zero_add,true_and,hij,if_true,Nat.sub_zero,id];rw[Array.getElem?_eq_getElem hcs];simp only[Option.map_some];rw[get_flatK _ _ _ _ hij];have e3:(i*st+j) / st=i:=by rw[Nat.mul_comm,Nat.mul_add_div h0,Nat.div_eq_of_lt hj,Nat.add_zero]
    have e4:(i*st+j)%st=j:=by rw[Nat.mul_comm,Nat.mul_add_mod,Nat.mod_eq_of_lt hj]
    rw[e3,e4,getElem!_pos (sorted l.toArray) _ hi,getElem!_pos (enc (sorted l.toArray)[i]) _ (by rw[hl];exact hj),List.getElem?_eq_getElem (by rw[hl];exact hj)])
   have H:Xk [(1,.old 1 0)] ((1,aD.arr e 0 st ((sorted l.toArray).toList.map fun x=>(enc x).map .sc))::[(1,aD.arr e 0 st (l.map fun x=>(enc x).map .sc))]) [(1,aD.arr e 0 st ((sorted l.toArray).toList.map fun x=>(enc x).map .sc))]:=by
    refine Kr (X:=True) rfl ?_;repeat' first|exact True.intro|exact rfl|exact id|exact ah _|((conv=>whnf);with_reducible apply And.intro)|((conv=>whnf);exact True.intro)
   refine⟨_,_,[(1,.arr e 0 st ((sorted l.toArray).toList.map fun x=>(enc x).map .sc))],_,he,⟨rfl,rfl⟩,gm'.hap.weaken H,?_⟩;simp only[aj,bG,eu];exact⟨#[],rfl,rfl⟩
end
def bR (n l m:Int):Bool:=decide (l≤n)&&decide (n≤m)
def Fp (x:Pl):Bool:=bR x.node 1 15&&bR x.dB 1 4611686018427387903
def Ao (w:Int)(f:Fr):Bool:=bR f.first 1 9&&(bR f.aI.length w 5&&(f.aI.all Fp&&decide (f.aI.map (·.node)).Nodup))
def Qt (l:List Fr):Bool:=
 match l with
 |[]=>false
 |f::_=>f.first==1
def fw (w:Int)(l:List Fr):Bool:=bR l.length 1 6&&(Qt l&&(l.all (Ao w)&&decide (l.Pairwise fun a b=>a.first<b.first)))
def mr (l:Lg):Bool:=bR l.id 1 4611686018427387903&&(bR l.a 1 l.w&&(decide (l.w≤5)&&(fw l.w l.aA&&(bR l.closed 0 1&&decide (l.last≤8*l.closed)))))
theorem iC {α:Type}{key:α→Int}{l:List α}(h:∀j (hj:j+1<l.length),key (l[j]'(by omega))<key l[j+1]):l.Pairwise fun a b=>key a<key b:=by
 rw[List.pairwise_iff_getElem];intro i j hi hj hij;induction j with
 |zero=>omega
 | succ j ih=>
   by_cases e:i=j
   ·subst e;exact h i hj
   exact Int.lt_trans (ih (by omega) (by omega)) (h j hj)
def C8 (x y:Pl):Int:=Go.Lib.compareInt x.node y.node
def yu (d:Array Pl):Array Pl:=Go.Sort.pdq (Go.Proofs.ltOf C8) d 0 d.size (Go.Lib.bitLen d.size) true true
def sortPl (l:List Pl):List Pl:=(yu l.toArray).toList
theorem aaq (x y:Pl):Go.Proofs.ltOf C8 x y=decide (x.node<y.node):=by
 unfold Go.Proofs.ltOf C8 Go.Lib.compareInt;by_cases h1:x.node<y.node
 ·simp[h1]
 by_cases h2:y.node<x.node<;>simp[h1,h2]
theorem acy:Go.Sort.SWO (Go.Proofs.ltOf C8) where
 irrefl x:=by rw[aaq];simp
 trans x y z h1 h2:=by rw[aaq] at *;simp at *;omega
 ntrans x y z h1 h2:=by rw[aaq] at *;simp at *;omega
theorem vQ (d:Array Pl):Go.Sort.PermIn 0 d.size d (yu d)∧Go.Sort.SortedIn (Go.Proofs.ltOf C8) 0 d.size (yu d):=
 Go.Sort.pdq_sorts (Go.Proofs.ltOf C8) acy d 0 d.size (Go.Lib.bitLen d.size) true true (Nat.zero_le _) (Nat.le_refl _) (Or.inl rfl)
theorem Fq (d:Array Pl):(yu d).size=d.size:=(vQ d).1.1
theorem M9 (l:List Pl):(sortPl l).Perm l:=by
 have h:=(vQ l.toArray).1;have h1:=h.1;have h2:=h.2.2;rw[show (yu l.toArray).extract 0 l.toArray.size=yu l.toArray from by rw[←h1];simp,show l.toArray.extract 0 l.toArray.size=l.toArray from by simp] at h2;exact h2
theorem H7 (l:List Pl):(sortPl l).Pairwise fun a b=>a.node≤b.node:=by
 have h:=(vQ l.toArray).2;have h1:=Fq l.toArray;rw[List.pairwise_iff_getElem];intro i j hi hj hij;simp only[sortPl,Array.length_toList] at hi hj;have:=h i j (Nat.zero_le _) hij (by omega);rw[aaq,getElem!_pos (yu l.toArray) j hj,getElem!_pos (yu l.toArray) i hi] at this;simp only[sortPl,Array.getElem_toList];simp at this;exact this
theorem Na (l:List Pl):decide ((sortPl l).Pairwise fun a b=>a.node<b.node)=decide (l.map (·.node)).Nodup:=by
 rw[decide_eq_decide];have hp:=(M9 l).map (·.node);rw[←hp.nodup_iff];unfold List.Nodup;rw[List.pairwise_map];constructor
 ·intro h;exact h.imp fun {a b} h=>by omega
 intro h;exact ((H7 l).and h).imp fun {a b} h=>by omega
def Lg.ok (l:Lg):Prop:=∀x∈l.aA,x.aI.length≤8796093022208
section
variable {α:Type}
def Fr.ok (f:Fr):Prop:=0≤f.first∧f.first≤18446744073709551615∧f.aI.length≤8796093022208
def fr0:Fr:=⟨0,[]⟩
def acz (f:Ft):Rq:={ to:=f.set[f.at_.toNat]!,kind:=3,bA:=f.bA,n:=f.n,aY:=f.tag,sure:=0,copy:=0,body:=[],keep:=[] }
structure Hd (p:Prop):Prop where
 out:p
end
structure Cl where
 what:Int
 own:Int
 now:Int
 r:Rs
 l:Lg
deriving DecidableEq,Inhabited
def Cl.c (x:Cl):List PV:=[ii x.what,ii x.own,uu x.now,ii x.r.from_.node,uu x.r.from_.dB,ii x.r.kind,ii x.r.code,uu x.r.bA,uu x.r.n,uu x.r.aY,uu x.r.sure,bys x.r.body,
 uu x.l.id,ii x.l.w,ii x.l.a,p8 x.l.aA,ii x.l.closed,uu x.l.last]
def y8 (n:Int):Prop:=0≤n∧n≤18446744073709551615
def KA (n:Int):Prop:=-9223372036854775808≤n∧n≤9223372036854775807
def lgR (l:Lg):Prop:=y8 l.id∧KA l.w∧KA l.a∧KA l.closed∧y8 l.last∧∀f∈l.aA,y8 f.first
structure XE (n:Int)(f:Ft):Prop where
 n:f.n=n
 pos:0<f.set.length
 len:f.set.length≤5
 at0:0≤f.at_
 at1:f.at_<f.set.length
 body:f.body.length≤5000
 since:y8 f.since
 done:f.done=0∨f.done=1
theorem XE.sm {n:Int}{f:Ft}(h:XE n f):f.set.length≤8796093022208∧f.body.length≤140737488355328:=⟨by have:=h.len;omega,by have:=h.body;omega⟩
structure Mk where
 producer:Int
 seq:Int
 offset:Int
deriving DecidableEq,Inhabited
def Mk.c (x:Mk):List PV:=[ii x.producer,uu x.seq,uu x.offset]
def qp (l:List Mk):PV:=.sl false 3 (l.map Mk.c)
structure Cu where
 sub:Int
 at_:Int
deriving DecidableEq,Inhabited
def Cu.c (x:Cu):List PV:=[ii x.sub,uu x.at_]
def H8 (l:List Cu):PV:=.sl false 2 (l.map Cu.c)
structure Ch where
 aY:Int
 owner:Int
 inc:Int
 eB:Int
 first:Int
 trim:Int
 af:List Int
 seen:List Mk
 au:List Cu
deriving DecidableEq,Inhabited
def Ch.c (x:Ch):List PV:=[uu x.aY,ii x.owner,uu x.inc,uu x.eB,uu x.first,uu x.trim,p9 x.af,qp x.seen,H8 x.au]
def jL (l:List Ch):PV:=.sl false 9 (l.map Ch.c)
def dN (l:List Lg):PV:=.sl false 6 (l.map Lg.c)
structure Oc where
 code:Int
 aY:Int
 at_:Int
 bA:Int
 owner:Int
deriving DecidableEq,Inhabited
def Oc.c (x:Oc):List PV:=[ii x.code,uu x.aY,uu x.at_,uu x.bA,ii x.owner]
structure Pa where
 who:Int
 inc:Int
 n:Int
 out:Oc
deriving DecidableEq,Inhabited
def Pa.c (x:Pa):List PV:=[ii x.who,uu x.inc,uu x.n,ii x.out.code,uu x.out.aY,uu x.out.at_,uu x.out.bA,ii x.out.owner]
def uR (l:List Pa):PV:=.sl false 8 (l.map Pa.c)
structure Pn where
 version:Int
 next:Int
 channels:List Ch
 af:List Lg
 past:List Pa
deriving DecidableEq,Inhabited
def Pn.c (x:Pn):List PV:=[uu x.version,uu x.next,jL x.channels,dN x.af,uR x.past]
def cnt (n:Int):Bool:=!decide (n>4611686018427387903)
def UB:Lg:=⟨0,0,0,[],0,0⟩
def bg (p:Pn)(id:Int):Option Lg:=p.af.find? fun l=>l.id==id
def nL (p:Pn):List Int:=p.af.map (·.id)
def gY (p:Pn):List Int:=p.channels.flatMap (·.af)
def dO (a b:Int):Int:=IntKind.u64.wrap (a+b)
def dL (p:Pn)(c:Ch):Int:=c.af.foldl (fun e id=>dO e ((bg p id).getD UB).last) c.first
def gN (p:Pn)(c:Ch):Option Lg:=
 match c.af.getLast? with
 |none=>none
 | some id=>match bg p id with
   |none=>none
   |some l=>if l.closed==0 then some l else none
def fU (p:Pn)(n:Int):Bool:=decide (n≥1)&&decide (n≤(p.channels.length:Int))
def bq (p:Pn)(n:Int):Ch:=p.channels[(n-1).toNat]!
def kV (p:Pn)(n:Int):Int:=if fU p n then dL p (bq p n) else 0
def gX (p:Pn)(n:Int):Option Lg:=if fU p n then gN p (bq p n) else none
def y9 (c:Ch):Bool:=
 if c.aY==0 then (c.owner==0&&(c.inc==0&&decide ((c.af.length:Int)=0))) else bR c.owner 1 15&&bR c.inc 1 4611686018427387903
def j5 (l:List Int):Bool:=decide (l.Pairwise (· < ·))
def Jp (l:List Int):List Int:=l.mergeSort fun x y=>decide (x≤y)
def BN (c:Ch)(x:Mk):Bool:=bR x.producer 1 15&&(bR x.seq 1 4611686018427387903&&decide (x.offset<c.first))
def Ap (c:Ch):Bool:=decide ((c.seen.length:Int)≤6)&&(j5 (c.seen.map (·.producer))&&(decide (c.seen.map (·.offset)).Nodup&&c.seen.all (BN c)))
def nV (x:Cu):Bool:=bR x.sub 1 3&&cnt x.at_
def qP (p:Pn):List Int→Bool
 |[]=>true
 | id::r=>(match bg p id with
   |none=>false
   |some l=>!(l.closed==0 && !r.isEmpty))&&qP p r
def mD (p:Pn)(c:Ch):Int:=if (gN p c).isSome then dO (dL p c) 8 else dL p c
def qQ (p:Pn)(c:Ch):Bool:=
 (cnt c.aY&&(cnt c.eB&&cnt c.first))&&(y9 c&&(decide ((c.af.length:Int)≤8)&&(j5 c.af&&(bR c.trim c.first (mD p c)&&(cnt (dO (dL p c) 8) &&
 (qP p c.af&&(Ap c&&(decide ((c.au.length:Int)≤3)&&(j5 (c.au.map (·.sub))&&c.au.all nV)))))))))
def qR (x:Pa):Bool:=bR x.who 1 15&&(bR x.inc 1 4611686018427387903&&(bR x.n 1 4611686018427387903&&(bR x.out.code 0 9&&(bR x.out.owner 0 15&&(cnt x.out.aY&&(cnt x.out.at_&&cnt x.out.bA))))))
def j6 (p:Pn):Bool:=
 cnt p.version&&(bR p.next 1 4611686018427387904&&(bR p.channels.length 1 3&&(p.af.all (fun l=>mr l&&decide (l.id<p.next))&&(j5 (nL p)&&(decide (Jp (gY p)=nL p) &&
 (p.channels.all (qQ p)&&(j5 (p.past.map (·.who))&&p.past.all qR)))))))
structure Sp where
 offset:Int
 bA:Int
 n:Int
deriving DecidableEq,Inhabited
def Sp.c (x:Sp):List PV:=[uu x.offset,uu x.bA,uu x.n]
section
variable {α:Type}[Inhabited α](key:α→Int)
def uE (x y:α):Int:=Go.Lib.compareInt (key x) (key y)
def iQ (d:Array α):Array α:=Go.Sort.pdq (Go.Proofs.ltOf (uE key)) d 0 d.size (Go.Lib.bitLen d.size) true true
def mQ (l:List α):List α:=(iQ key l.toArray).toList
theorem aav (x y:α):Go.Proofs.ltOf (uE key) x y=decide (key x<key y):=by
 unfold Go.Proofs.ltOf uE Go.Lib.compareInt;by_cases h1:key x<key y
 ·simp[h1]
 by_cases h2:key y<key x<;>simp[h1,h2]
theorem Sz:Go.Sort.SWO (Go.Proofs.ltOf (uE key)) where
 irrefl x:=by rw[aav];simp
 trans x y z h1 h2:=by rw[aav] at *;simp at *;omega
 ntrans x y z h1 h2:=by rw[aav] at *;simp at *;omega
theorem tJ (d:Array α):Go.Sort.PermIn 0 d.size d (iQ key d)∧Go.Sort.SortedIn (Go.Proofs.ltOf (uE key)) 0 d.size (iQ key d):=
 Go.Sort.pdq_sorts (Go.Proofs.ltOf (uE key)) (Sz key) d 0 d.size (Go.Lib.bitLen d.size) true true (Nat.zero_le _) (Nat.le_refl _) (Or.inl rfl)
theorem qx (d:Array α):(iQ key d).size=d.size:=(tJ key d).1.1
theorem qy (l:List α):(mQ key l).Perm l:=by
 have h:=(tJ key l.toArray).1;have h1:=h.1;have h2:=h.2.2;rw[show (iQ key l.toArray).extract 0 l.toArray.size=iQ key l.toArray from by rw[←h1];simp,show l.toArray.extract 0 l.toArray.size=l.toArray from by simp] at h2;exact h2
theorem H9 (l:List α):(mQ key l).Pairwise fun a b=>key a≤key b:=by
 have h:=(tJ key l.toArray).2;have h1:=qx key l.toArray;rw[List.pairwise_iff_getElem];intro i j hi hj hij;simp only[mQ,Array.length_toList] at hi hj;have:=h i j (Nat.zero_le _) hij (by omega);rw[aav,getElem!_pos (iQ key l.toArray) j hj,getElem!_pos (iQ key l.toArray) i hi] at this;simp only[mQ,Array.getElem_toList];simp at this;exact this
theorem vR (l:List α):decide ((mQ key l).Pairwise fun a b=>key a<key b)=decide (l.map key).Nodup:=by
 rw[decide_eq_decide];have hp:=(qy key l).map key;rw[←hp.nodup_iff];unfold List.Nodup;rw[List.pairwise_map];constructor
 ·intro h;exact h.imp fun {a b} h=>by omega
 intro h;exact ((H9 key l).and h).imp fun {a b} h=>by omega
end
def aiy (p:Pn)(n:Int):Bool:=decide (n≥1)&&(decide (n≤(p.channels.length:Int))&&j6 p)
theorem aat {a b:Int}(h:0≤a+b∧a+b≤18446744073709551615):dO a b=a+b:=vN h.1 h.2
def aiz (p:Pn):Prop:=∀l∈p.af,y8 l.last
theorem gZ {p:Pn}{id:Int}{l:Lg}(h:bg p id=some l):l∈p.af∧l.id=id:=by
 unfold bg at h;exact⟨List.mem_of_find?_eq_some h,by simpa using List.find?_some h⟩
section
variable {p:Pn}{n sure:Int}(hh:aiy p n=true)(hr:aiz p)(h0:0≤(bq p n).first)(hs:0≤sure)
include hh hr
include h0 hs
end
structure ZG (l:Lg):Prop where
 aA:l.aA.length≤1000000
 aI:∀f∈l.aA,f.aI.length≤1000000
theorem ZG.ok {l:Lg}(h:ZG l):l.ok:=fun x hx=>by have:=h.aI x hx;omega
structure ChB (c:Ch):Prop where
 af:c.af.length≤1000000
 seen:c.seen.length≤1000000
 au:c.au.length≤1000000
structure tK (p:Pn):Prop where
 channels:p.channels.length≤1000000
 af:p.af.length≤1000000
 past:p.past.length≤1000000
 ch:∀c∈p.channels,ChB c
 lg:∀l∈p.af,ZG l
 named:(gY p).length≤1000000
def dm (p:Pn)(id:Int):Lg:=(bg p id).getD UB
theorem Nc {α:Type}(q:α→Bool)(l:List α):(qo q l = -1∧l.find? q=none)∨∃k,∃hk:k<l.length,qo q l=(k:Nat)∧l.find? q=some l[k]:=by
 rcases nK q l with ⟨h1,h2⟩|⟨k,hk,h1,h2,h3⟩
 ·exact .inl ⟨h1,by rw[List.find?_eq_none];intro x hx;rw[h2 x hx];decide⟩
 refine .inr ⟨k,hk,h1,?_⟩;rw[List.find?_eq_some_iff_getElem];exact⟨h2,k,hk,rfl,fun j hj=>by rw[h3 j (by omega) hj];rfl⟩
theorem XH (p:Pn)(id:Int):(qo (fun l=>l.id==id) p.af = -1∧bg p id=none)∨∃k,∃hk:k<p.af.length,qo (fun l=>l.id==id) p.af=(k:Nat)∧bg p id=some p.af[k]:=Nc _ _
theorem aiA (a b:Int):decide (a≤b) = !decide (a>b):=by
 rw[Bool.eq_iff_iff];simp
theorem aaw {p:Pn}{n:Int}(h:fU p n=true):∃i:Nat,∃hi:i<p.channels.length,n=((i+1:Nat):Int)∧bq p n=p.channels[i]:=by
 simp only[fU,Bool.and_eq_true,decide_eq_true_eq] at h;refine⟨(n-1).toNat,by omega,by omega,?_⟩;unfold bq;rw[getElem!_pos p.channels _ (by omega)]
theorem adO {p:Pn}{k:Nat}(hk:k<p.channels.length):fU p ((k+1:Nat):Int)=true∧bq p ((k+1:Nat):Int)=p.channels[k]:=by
 refine⟨?_,?_⟩
 ·simp only[fU,Bool.and_eq_true,decide_eq_true_eq];omega
 unfold bq;rw[show (((k+1:Nat):Int)-1).toNat=k from by omega,getElem!_pos p.channels k hk]
theorem Jq {α β:Type}(f:α→List β)(l:List α)(k:Nat)(h:k<l.length):(l.take (k+1)).flatMap f=(l.take k).flatMap f++f l[k]:=by
 rw[List.take_succ_eq_append_getElem h,List.flatMap_append];simp
theorem KC {α β:Type}(f:α→List β)(l:List α)(k:Nat)(h:k<l.length):((l.take k).flatMap f).length+(f l[k]).length≤(l.flatMap f).length:=by
 have:(l.take (k+1)).flatMap f <+: l.flatMap f:=by
  conv=>rhs;rw[←List.take_append_drop (k+1) l,List.flatMap_append]
  exact List.prefix_append _ _
 have:=this.length_le;rw[Jq f l k h,List.length_append] at this;exact this
theorem xD {α:Type}(f:α→Int)(l:List α):j5 (l.map f)=decide (l.Pairwise fun a b=>f a<f b):=by
 unfold j5;exact decide_eq_decide.2 List.pairwise_map
theorem getLast?_get {α:Type}(l:List α)(h:0<l.length):l.getLast? = some l[l.length-1]:=by
 rw[List.getLast?_eq_getElem?,List.getElem?_eq_getElem (by omega)]
theorem jM (p:Pn):∀(r:List Int),qP p r=true↔∀i (hi:i<r.length),(bg p r[i]).isSome=true∧((dm p r[i]).closed=0→i+1=r.length)
 |[]=>by simp[qP]
 | id::r=>by
   have ih:=jM p r;simp only[qP,Bool.and_eq_true,ih];constructor
   ·rintro⟨h1,h2⟩ i hi
    cases i with
    | zero=>
      simp only[List.getElem_cons_zero,List.length_cons];cases hf:bg p id with
      |none=>rw[hf] at h1;cases h1
      | some l=>
        rw[hf] at h1;refine⟨rfl,fun h0=>?_⟩;simp only[dm,hf,Option.getD_some] at h0;simp[h0] at h1;simp[h1]
    | succ i=>
      simp only[List.getElem_cons_succ,List.length_cons];have:=h2 i (by simpa using hi);exact⟨this.1,fun h=>by have:=this.2 h;omega⟩
   intro h;refine⟨?_,fun i hi=>?_⟩
   ·have h0:=h 0 (by simp);simp only[List.getElem_cons_zero,List.length_cons] at h0;cases hf:bg p id with
    |none=>rw[hf] at h0;cases h0.1
    | some l=>
      simp only[dm,hf,Option.getD_some] at h0;simp only[Bool.not_eq_true',Bool.and_eq_false_iff,beq_eq_false_iff_ne,ne_eq,Bool.not_eq_false',List.isEmpty_iff];by_cases hc:l.closed=0
      ·right
       have:=h0.2 hc;exact List.eq_nil_of_length_eq_zero (by omega)
      exact .inl hc
   have:=h (i+1) (by simpa using hi);simp only[List.getElem_cons_succ,List.length_cons] at this;exact⟨this.1,fun h=>by have:=this.2 h;omega⟩
open Go.Sort
structure Rnd (D:Array Int)(a b lim:Nat)(wb wp:Bool)(d1:Array Int)(lZ p:Nat)(hh:Hint)(d2:Array Int)(pv:Nat)(hint:Hint)(E:Array Int)(fin:Bool):Prop where
 bt:wb=true→d1=D∧lZ=lim
 bf:wb=false→d1=breakPatterns D a b∧lZ=lim-1
 c:choosePivot ltInt d1 a b=(p,hh)
 hd:hh=.decreasing→d2=reverseRange d1 a b∧pv=(b-1)-(p-a)∧hint=.increasing
 hn:hh ≠ .decreasing→d2=d1∧pv=p∧hint=hh
 py:wb=true→wp=true→hint=.increasing→partialInsertionSort ltInt d2 a b=(E,fin)
 pn:¬(wb=true∧wp=true∧hint=.increasing)→E=d2∧fin=false
 s1:d1.size=D.size
 s2:d2.size=D.size
 s3:E.size=D.size
 pa:a≤p
 pb:p<b
 va:a≤pv
 vb:pv<b
 le:lZ≤lim
 done:fin=true→pdq ltInt D a b lim wb wp=E
 eq:fin=false→0<a→ltInt E[a-1]! E[pv]! = false→∀mid d4,partitionEqual ltInt E a b pv=(mid,d4) →
  a<mid∧mid≤b∧d4.size=D.size∧Below ltInt mid b d4∧pdq ltInt D a b lim wb wp=pdq ltInt d4 mid b lZ wb wp
 pt:fin=false→(a=0∨ltInt E[a-1]! E[pv]! = true)→∀mid ap d4,partition ltInt E a b pv=(mid,ap,d4) →
  a≤mid∧mid<b∧d4.size=D.size∧Below ltInt a mid d4∧Below ltInt (mid+1) b d4 ∧
  (mid-a<b-mid→(pdq ltInt d4 a mid lZ true true).size=D.size∧Below ltInt (mid+1) b (pdq ltInt d4 a mid lZ true true) ∧
   pdq ltInt D a b lim wb wp=pdq ltInt (pdq ltInt d4 a mid lZ true true) (mid+1) b lZ (decide (mid-a≥(b-a) / 8)) ap) ∧
  (¬mid-a<b-mid→(pdq ltInt d4 (mid+1) b lZ true true).size=D.size∧Below ltInt a mid (pdq ltInt d4 (mid+1) b lZ true true) ∧
   pdq ltInt D a b lim wb wp=pdq ltInt (pdq ltInt d4 (mid+1) b lZ true true) a mid lZ (decide (b-mid≥(b-a) / 8)) ap)
theorem aau {D:Array Int}{a b lim:Nat}{wb wp:Bool}(h12:¬b-a≤12)(h0:¬lim=0)(hb:b≤D.size)(hB:Below ltInt a b D) :
  ∃d1 lZ p hh d2 pv hint E fin,Rnd D a b lim wb wp d1 lZ p hh d2 pv hint E fin:=by
 obtain⟨s1,B1,⟨hc1,hc2⟩,s2,B2,⟨hv1,hv2⟩,s3,B3⟩:=rd_facts (limit:=lim) (wb:=wb) (wp:=wp) swo_ltInt partialInsertionSort_holds reverseRange_holds (show a<b by omega) hb hB;refine⟨(rd ltInt D a b lim wb wp).d1,(rd ltInt D a b lim wb wp).lim,(rd ltInt D a b lim wb wp).c.1,(rd ltInt D a b lim wb wp).c.2,(rd ltInt D a b lim wb wp).d2,(rd ltInt D a b lim wb wp).pivot,
  (rd ltInt D a b lim wb wp).hint,(rd ltInt D a b lim wb wp).pi.1,(rd ltInt D a b lim wb wp).pi.2,?_⟩
 refine { bt:=?_,bf:=?_,c:=rfl,hd:=rd_dec,hn:=rd_not,py:=?_,pn:=?_,s1:=s1,s2:=s2,s3:=s3,pa:=hc1,pb:=hc2,va:=hv1,vb:=hv2,le:=rd_lim_le,done:=fun h=>pdq_done h12 h0 h,eq:=?_,pt:=?_ }
 ·rintro rfl;exact rd_true
 ·rintro rfl;exact rd_false
 ·intro h1 h2 h3;subst h1 h2;rw[rd_pi_yes (by simp[h3])]
 ·intro h;rw[rd_pi_no (by cases hx:wb<;>cases hy:wp<;>simp_all)];exact⟨rfl,rfl⟩
 ·intro hf ha hl mid d4 e;obtain⟨h1,h2,h3,h4,_⟩:=round_eq swo_ltInt (partitionEqual_holds ltInt) ha hv1 hv2 (by rw[s3];exact hb) B3 hl e;have h5:=pdq_eq (lt:=ltInt) (d:=D) (a:=a) (b:=b) (limit:=lim) (wb:=wb) (wp:=wp) h12 h0 hf (by simp[ha,hl]) (by rw[e];exact⟨h1,h2⟩);rw[e] at h5;exact⟨h1,h2,h3.trans s3,h4,h5⟩
 intro hf hl mid ap d4 e;obtain⟨h1,h2,h3,h4,h5,h6,h7⟩:=round_part swo_ltInt (partition_holds ltInt) hv1 hv2 (by rw[s3];exact hb) B3 e;have hl':(decide (a>0) && !ltInt (rd ltInt D a b lim wb wp).pi.1[a-1]! (rd ltInt D a b lim wb wp).pi.1[(rd ltInt D a b lim wb wp).pivot]!)=false:=by
  rcases hl with h|h<;>simp[h]
 refine⟨h1,h2,h3.trans s3,h4,h5,fun hlt=>?_,fun hlt=>?_⟩
 ·have hp:=pdq_sorts ltInt swo_ltInt d4 a mid (rd ltInt D a b lim wb wp).lim true true h1 (by omega) h4;have h8:=pdq_left (lt:=ltInt) (d:=D) (a:=a) (b:=b) (limit:=lim) (wb:=wb) (wp:=wp) h12 h0 hf hl' (by rw[e];exact⟨h1,h2⟩) (by rw[e];exact hlt);rw[e] at h8;exact⟨hp.1.1.trans (h3.trans s3),(h6 _ hp.1 hp.2).1,h8⟩
 have hp:=pdq_sorts ltInt swo_ltInt d4 (mid+1) b (rd ltInt D a b lim wb wp).lim true true (by omega) (by omega) h5;have h8:=pdq_right (lt:=ltInt) (d:=D) (a:=a) (b:=b) (limit:=lim) (wb:=wb) (wp:=wp) h12 h0 hf hl' (by rw[e];exact⟨h1,h2⟩) (by rw[e];exact hlt);rw[e] at h8;exact⟨hp.1.1.trans (h3.trans s3),(h7 _ hp.1 hp.2).1,h8⟩
theorem Qw (l:List Int):(pdq ltInt l.toArray 0 l.toArray.size (bitsLen l.toArray.size) true true).toList=l.mergeSort (fun x y=>decide (x≤y)):=sortInt l
theorem UC (h:Hint):h=.decreasing∨h ≠ .decreasing:=by cases h<;>simp
end Go.AX
end
section
namespace Go.AX
end Go.AX
end
section
namespace Go.AX
structure Und (n:Int)(S:List Pl)(a0:Nat)(has:Pl)(f:Ft)(now:Int)(J:Nat)(pend:Bool):Prop where
 good:XE n f
 done:f.done=0
 set:f.set=S
 at_:f.at_=(((a0+J)%S.length:Nat):Int)
 since:f.since≤now
 seen:∀i,1≤i→i≤J→(i<J∨pend=false)→S[(a0+i)%S.length]! ≠ has
theorem Und.passed {n:Int}{S:List Pl}{a0:Nat}{has:Pl}{f:Ft}{now:Int}{J:Nat}(u:Und n S a0 has f now J true)(hne:(acz f).to≠has):Und n S a0 has f now J false:=by
 refine⟨u.good,u.done,u.set,u.at_,u.since,fun i h1 h2 h3=>?_⟩;by_cases c:i<J
 ·exact u.seen i h1 h2 (.inl c)
 have e:i=J:=by omega
 subst e;intro hx;apply hne;simp only[acz,u.set,u.at_,Int.toNat_natCast];exact hx
structure Cp where
 l:Lg
 from_:Pl
 to:Pl
 phase:Int
 n:Int
 none:List Pl
 body:List UInt8
 born:Int
 since:Int
deriving DecidableEq
def Cp.c (x:Cp):List PV:=[uu x.l.id,ii x.l.w,ii x.l.a,p8 x.l.aA,ii x.l.closed,uu x.l.last,ii x.from_.node,uu x.from_.dB,ii x.to.node,uu x.to.dB,ii x.phase,uu x.n,vP x.none,bys x.body,uu x.born,uu x.since]
def Cp.v (x:Cp)(no:AV):List AV:=[.pv (uu x.l.id),.pv (ii x.l.w),.pv (ii x.l.a),.pv (p8 x.l.aA),.pv (ii x.l.closed),.pv (uu x.l.last),.pv (ii x.from_.node),.pv (uu x.from_.dB),.pv (ii x.to.node),.pv (uu x.to.dB),.pv (ii x.phase),.pv (uu x.n),no,.pv (bys x.body),.pv (uu x.born),.pv (uu x.since)]
structure Cp.sm (c:Cp):Prop where
 h1:c.none.length≤8796093022208
 h2:c.body.length≤140737488355328
 h3:c.l.aA.length≤4398046511104
 h4:c.l.ok
def Cp.z:List AV:=[.pv (uu 0),.pv (ii 0),.pv (ii 0),.pv adJ,.pv (ii 0),.pv (uu 0),.pv (ii 0),.pv (uu 0),.pv (ii 0),.pv (uu 0),.pv (ii 0),.pv (uu 0),.pv adJ,.pv adJ,.pv (uu 0),.pv (uu 0)]
theorem aas {s s':AS}(ids:List Nat)(h:match J2 s.hp ids with|some fs=>aaf (s.app fs) s'|none=>False)(c:Ctx)(R:Real)(a:Act)(w:World)(g:bD c R s a w):∃R',bD c R' s' a w:=by
 split at h
 ·rename_i fs hfs;obtain⟨g1,_⟩:=jQ g (fun _ _ h=>h) _ _ hfs;exact ak h c R a w g1
 exact h.elim
structure aV where
 who:Int
 inc:Int
 n:Int
 kind:Int
 channel:Int
 aY:Int
 bA:Int
 at_:Int
 now:Int
 sub:Int
 w:Int
 a:Int
 aA:List Fr
 seen:List Mk
 from_:Pl
 nD:Pl
deriving DecidableEq,Inhabited
def aV.c (o:aV):List PV:=[ii o.who,uu o.inc,uu o.n,ii o.kind,ii o.channel,uu o.aY,uu o.bA,uu o.at_,uu o.now,ii o.sub,ii o.w,ii o.a,p8 o.aA,qp o.seen]++(o.from_.c++o.nD.c)
def Da:Pl:=⟨0,0⟩
def fQ (o:aV)(b:Nat→Bool):aV:=
 { who:=o.who,inc:=o.inc,n:=o.n,kind:=o.kind,channel:=if b 0 then o.channel else 0,aY:=if b 1 then o.aY else 0,bA:=if b 2 then o.bA else 0,at_:=if b 3 then o.at_ else 0
   now:=if b 4 then o.now else 0,sub:=if b 5 then o.sub else 0,w:=if b 6 then o.w else 0,a:=if b 6 then o.a else 0,aA:=if b 7 then o.aA else [],seen:=if b 8 then o.seen else []
   from_:=if b 9 then o.from_ else Da,nD:=if b 9 then o.nD else Da }
def KD (x:Pl):Bool:=decide (x.node≥1)&&(decide (x.node≤15)&&(decide (x.dB≥1)&&decide (x.dB≤4611686018427387903)))
def kg (l:List Pa)(o:aV):Option (Option Oc):=
 match l with
 |[]=>none
 | x::r=>if x.who≠o.who then kg r o
   else if x.inc=o.inc∧x.n=o.n then some (some x.out)
   else if x.inc>o.inc∨(x.inc=o.inc∧x.n>o.n) then some none
   else kg r o
def bT (l:List Pa)(o:aV)(out:Oc):List Pa:=(iQ Pa.who (l.filter (fun x=>!(x.who==o.who))++[(⟨o.who,o.inc,o.n,out⟩:Pa)]).toArray).toList
def bS:Oc:=⟨0,0,0,0,0⟩
def ig (n:Int):Oc:=⟨n,0,0,0,0⟩
def kF (a b:Int)(A:List Ch)(c:Ch)(B:List Ch)(L:List Lg)(Q:List Pa):Pn:=⟨a,b,A++c::B,L,Q⟩
def vS (c:Ch)(o:aV):Ch:={ c with eB:=if o.now>c.eB then o.now else c.eB }
def Nf (c:Ch)(o:aV):Bool:=(c.aY==0)||((c.owner==o.who)||(decide (o.now≥c.eB)&&decide (IntKind.u64.wrap (o.now-c.eB)≥12)))
def mE (c:Ch)(o:aV):Ch×Oc:=
 if !Nf c o then (c,{ bS with code:=5,aY:=c.aY,owner:=c.owner })
 else if c.aY==4611686018427387903 then (c,ig 3)
 else ({ c with aY:=IntKind.u64.wrap (c.aY+1),owner:=o.who,inc:=o.inc,eB:=o.now },{ bS with aY:=IntKind.u64.wrap (c.aY+1),owner:=o.who })
def nM (a b:Int):Int:=if b>a then b else a
def ko (p:Pn)(c:Ch)(o:aV):Ch×Oc:=
 if decide (o.at_>(if (gX p o.channel).isSome then IntKind.u64.wrap (kV p o.channel+8) else kV p o.channel)) then (c,ig 1)
 else ({ c with trim:=nM c.trim o.at_ },{ bS with at_:=nM c.trim o.at_ })
def zf (l:List Cu)(n:Int):Int:=match l.find? fun x=>x.sub==n with
 |some x=>x.at_
 |none=>0
def Fv (l:List Cu)(o:aV)(at_:Int):List Cu:=(iQ Cu.sub (l.filter (fun x=>!(x.sub==o.sub))++[(⟨o.sub,at_⟩:Cu)]).toArray).toList
def Au (c:Ch)(o:aV)(at_:Int):Ch×Oc:=({ c with au:=Fv c.au o at_ },{ bS with at_:=at_ })
def iL (p:Pn)(c:Ch)(o:aV):Option (Ch×Lg×Oc)×Oc:=
 if (gX p o.channel).isSome||(c.aY==0) then (none,ig 5)
 else if (decide ((c.af.length:Int)=8)||decide (p.next>4611686018427387903))||decide (dO (kV p o.channel) 16>4611686018427387903) then (none,ig 3)
 else (some ({ c with af:=c.af++[p.next] },⟨p.next,o.w,o.a,o.aA,0,0⟩,{ bS with bA:=p.next }),bS)
def pK (p:Pn)(o:aV):Option Lg:=match gX p o.channel with
 |some x=>if x.id==o.bA then some x else none
 |none=>none
def vT (w:Int)(f:Fr):Bool:=!(decide (f.first>9)||decide (f.first<1))&&fw w [{ f with first:=1 }]
def SA (l:List Fr):Fr:=l.headD fr0
def aay (l:List Fr):Fr:=l.getLast?.getD fr0
def Ng (l:List Fr)(f:Fr):List Fr:=(if f.first==(aay l).first then l.dropLast else l)++[f]
def kN (p:Pn)(l:Lg):Pn:={ p with af:=p.af.map fun x=>if x.id==l.id then l else x }
def dU (p:Pn)(o:aV):Option Lg×Oc:=match pK p o with
 |none=>(none,ig 5)
 | some l=>
   let f:=SA o.aA
   let e:=aay l.aA
   if (decide (f.first≥e.first)&&(decide ((l.aA.length:Int)=6)&&(decide ((Ng l.aA f).length>l.aA.length)&&vT l.w f))) then (none,ig 3)
   else if decide (f.first<e.first) || !fw l.w (Ng l.aA f) then (none,ig 5)
   else (some { l with aA:=Ng l.aA f },bS)
def dV (p:Pn)(c:Ch)(o:aV):Option Lg×Oc:=match pK p o with
 |none=>(none,ig 5)
 | some l=>if !fw l.w o.aA||(decide (o.at_>8)||decide (c.trim>dO (kV p o.channel) o.at_)) then (none,ig 5)
   else (some { l with aA:=o.aA,closed:=1,last:=o.at_ },bS)
def fG (p:Pn)(trim:Int):List Int→Int→Nat×Int
 |[],first=>(0,first)
 | id::r,first=>
   let l:=dm p id
   if (l.closed==0)||decide (dO first l.last>trim) then (0,first)
   else let y:=fG p trim r (dO first l.last);(y.1+1,y.2)
def l6 (rest:List Int)(n:Int):Bool:=match rest with
 |[]=>n==0
 |x::_=>n==x
def nE (p:Pn)(c:Ch)(o:aV):Option (Ch×List Lg)×Oc:=
 let y:=fG p c.trim c.af c.first
 if !l6 (c.af.drop y.1) o.bA||o.seen.any (fun x=>decide (x.offset≥y.2)) then (none,ig 5)
 else (some ({ c with af:=c.af.drop y.1,first:=y.2,seen:=o.seen },p.af.filter fun l=>!(c.af.take y.1).contains l.id),{ bS with at_:=y.2 })
def nN (o:aV)(l:Lg):Bool:=(l.id==o.bA)&&(l.closed==1)
def kD (o:aV)(f:Fr):Int:=qo (fun y=>y==o.from_) f.aI
def Nh (o:aV)(f:Fr):Int:=qo (fun y=>y.node==o.nD.node) f.aI
def oh (o:aV)(f:Fr):Bool:=decide (kD o f≥0)&&(decide (Nh o f≥0)&&(Nh o f != kD o f))
def jk (o:aV)(f:Fr):Fr:=if decide (kD o f≥0) then { f with aI:=f.aI.set (kD o f).toNat o.nD } else f
def fA (p:Pn)(o:aV):Option Lg×Oc:=match p.af.find? (nN o) with
 |none=>(none,ig 5)
 | some l=>if l.aA.any (oh o) then (none,ig 5)
   else if l.aA.any (fun f=>decide (kD o f≥0)) then (some { l with aA:=l.aA.map (jk o) },bS)
   else (none,ig 5)
def eO (p:Pn)(n:Int)(c:Ch):Pn:={ p with channels:=p.channels.set (n-1).toNat c }
def jV (p:Pn)(y:Option Lg×Oc):Pn×Oc:=(match y.1 with|some l=>kN p l|none=>p,y.2)
def gW (p:Pn)(c:Ch)(o:aV):Pn×Oc:=match (iL p c o).1 with
 |some y=>({ eO p o.channel y.1 with af:=p.af++[y.2.1],next:=dO p.next 1 },y.2.2)
 |none=>(p,(iL p c o).2)
def iD (p:Pn)(c:Ch)(o:aV):Pn×Oc:=match (nE p c o).1 with
 |some y=>({ eO p o.channel y.1 with af:=y.2 },(nE p c o).2)
 |none=>(p,(nE p c o).2)
def fH (p:Pn)(o:aV):Pn×Oc:=
 let c:=bq p o.channel
 if o.kind=1 then (eO p o.channel (mE c o).1,(mE c o).2)
 else if o.kind=2 then (eO p o.channel (vS c o),bS)
 else if o.kind=3 then (p,{ bS with at_:=c.trim })
 else if o.kind=4 then gW p c o
 else if o.kind=5 then jV p (dU p o)
 else if o.kind=6 then jV p (dV p c o)
 else if o.kind=7 then (eO p o.channel (ko p c o).1,(ko p c o).2)
 else if o.kind=8 then iD p c o
 else if o.kind=9 then (eO p o.channel (Au c o (nM (zf c.au o.sub) o.at_)).1,(Au c o (nM (zf c.au o.sub) o.at_)).2)
 else if o.kind=10 then (eO p o.channel (Au c o o.at_).1,(Au c o o.at_).2)
 else if o.kind=11 then (p,{ bS with at_:=zf c.au o.sub })
 else jV p (fA p o)
def XJ (n:Int):Nat:=
 if n=1 then 17 else if n=2 then 19 else if n=3 then 3 else if n=4 then 195 else if n=5 then 135 else if n=6 then 143 else if n=7 then 11 else if n=8 then 263 else if n=9 then 43 else if n=10 then 43 else if n=11 then 35 else if n=12 then 516 else 0
def dZ (n:Int)(i:Nat):Bool:=(XJ n).testBit i
def zh (l:List Mk):Bool:=decide ((l.length:Int)≤6)&&(l.all (fun x=>bR x.producer 1 15&&(bR x.seq 1 4611686018427387903&&cnt x.offset))&&(j5 (l.map (·.producer))&&decide (l.map (·.offset)).Nodup))
def XK (f:Fr):Bool:=cnt f.first&&f.aI.all fun x=>cnt x.dB
def pM (o:aV):Bool:=o.aA.all XK &&
 (if o.kind=4 then decide ((o.aA.length:Int)=1)&&(decide (o.a≥1)&&(decide (o.a≤o.w)&&fw o.w o.aA)) else if o.kind=5 then decide ((o.aA.length:Int)=1) else if o.kind=6 then decide ((o.aA.length:Int)≥1) else true)
def jW (o:aV):Bool:=bR o.kind 1 12&&(bR o.who 1 15&&(decide (o.inc≥1)&&(decide (o.n≥1)&&(decide (o=fQ o (dZ o.kind)) &&
 ([o.inc,o.n,o.aY,o.bA,o.at_,o.now].all cnt&&((!dZ o.kind 0||bR o.channel 1 3)&&((!dZ o.kind 5||bR o.sub 1 3) &&
 ((!dZ o.kind 9||(KD o.from_&&(KD o.nD&&decide (o.from_≠o.nD))))&&(pM o&&zh o.seen)))))))))
def gJ (p:Pn)(o:aV):Bool:=dZ o.kind 1&&(decide (o.channel≤(p.channels.length:Int))&&decide ((bq p o.channel).aY≠o.aY))
def doM (p:Pn)(o:aV):Pn×Oc:=
 let y:=if o.channel>(p.channels.length:Int) then (p,ig 4) else fH p o
 ({ y.1 with version:=dO p.version 1,past:=bT p.past o y.2 },y.2)
def aS (p:Pn)(o:aV):Pn×Oc:=
 if !j6 p || !jW o then (p,ig 1)
 else match kg p.past o with
  |some (some out)=>(p,out)
  |some none=>(p,ig 9)
  | none=>if p.version=4611686018427387903 then (p,ig 3)
    else if gJ p o then (p,{ bS with code:=8,aY:=(bq p o.channel).aY,owner:=(bq p o.channel).owner })
    else doM p o
section
variable {P:Program}{c:Ctx}{R:Real}{s:AS}{a:Act}{w:World}
theorem bD.cut (g:bD c R s a w){b:Nat}{e:TypeId}{ver st:Nat}{rows:List (List PV)}(hb':lk s.hp b=some (.arr e ver st rows)){m:Nat}(hm0:m≤rows.length) :
  bD c R (s.app [(b,.arr e (ver+1) st (rows.take m))]) a w∧aj (aU c R ([(b,.arr e (ver+1) st (rows.take m))]++s.hp)) w ([(b,.arr e (ver+1) st (rows.take m))]++s.hp) R (.aF b (ver+1)) (jD st 0 m (bW R b rows.length)):=by
 have hR:∀b',b'≠b→R.blk b'=R.blk b'∧R.nil b'=R.nil b'∧R.cap b'=R.cap b':=fun _ _=>⟨rfl,rfl,rfl⟩
 have hlen:(rows.take m).length=m:=by simp;omega
 have hre:=g.boxes b _ hb';have hown2:∃ys,w.ownsRow 0 e st (bW R b (rows.take m).length) (rows.take m).length ys∧bL (aU c R s.hp) w st (rows.take m) ys:=by
  cases hn:R.nil b with
  | true=>
    have:=qm (g.boxes b _ hb') hn;subst this;exact⟨[],⟨by simp,.inl ⟨by simp[bW,hn],by simp⟩⟩,by simp[bL]⟩
  | false=>
    obtain⟨cur,hg,hs,hle,hm,hr,_⟩:=gM (g.boxes b _ hb') hn;have hr2:=lS (i:=m) hr;obtain⟨t1,t2,t3⟩:=fV hr2;rw[hlen] at t1 t2;refine⟨cur.toList.take (m*st),⟨?_,.inr ⟨R.blk b,(R.cap b).1,cur,by simp[bW,hn],Nat.zero_le _,hg,?_,hm,hs,by rw[hlen]⟩⟩,t2⟩
    ·rw[List.length_take,hlen];omega
    rw[hlen];omega
 obtain⟨ys,ho,hr⟩:=hown2;obtain⟨g2,hr2⟩:=g.sH (b:=b) (e:=e) (ver:=ver+1) (st:=st) (rows:=rows.take m) (R':=R) (.inr ⟨_,_,_,_,hb',by omega⟩) hR (nR.refl _ w)
  (fun hn=>.inl (by rw[hb'];exact⟨hn,rfl⟩)) ho hr
 refine⟨g2,?_⟩;have:jD st 0 m (bW R b rows.length)=bW R b (rows.take m).length:=by
  rw[hlen];unfold bW;split
  ·rfl
  simp only[jD,Nat.sub_zero,Nat.zero_mul];split<;>rfl
 rw[this];exact hr2
theorem KN {f:FuncId}{args:List AV}{hp:List (Nat×aD)}{b:Nat}{e:TypeId}{ver st m:Nat}{rows:List (List PV)}{rest:List (Nat×aD)}
  (h:dR P f args hp (.sub b ver st 0 m) ((b,.arr e ver st rows)::rest)) (hm:m≤rows.length):dR P f args hp (.aF b (ver+1)) ((b,.arr e (ver+1) st (rows.take m))::rest):=by
 refine⟨h.1,fun c R w dw hh ha=>(h.2 c R w dw hh ha).mono ?_⟩;rintro ex w' ⟨v,r0,nT,R',rfl,⟨e1,e2⟩,O9,hr⟩
 rw[e1,e2] at hr;rw[e2] at O9;have g:bD c R' ⟨[],0,(b,.arr e ver st rows)::rest⟩ { tmps:=Array.replicate c.n undef,defers:=[] } w':=
  O9.WL (fun t v h=>by simp[lk] at h) (by simp) ⟨[],⟨fun d h=>by simp at h,rfl,by simp,fun d h=>by simp at h,fun d h=>by simp at h⟩⟩
 have hb:lk ((b,aD.arr e ver st rows)::rest) b=some (.arr e ver st rows):=by rw[aB,if_pos rfl]
 obtain⟨g1,h1⟩:=g.cut hb hm;simp only[aj,hb,aT] at hr;obtain⟨u,⟨_,_,hu⟩,_,rfl⟩:=hr;rw[hu (by trivial)];have hc:∀k,lk ((b,aD.arr e (ver+1) st (rows.take m))::rest) k=lk ([(b,.arr e (ver+1) st (rows.take m))]++(b,aD.arr e ver st rows)::rest) k:=by
  intro k;simp only[List.cons_append,List.nil_append,aB];split<;>rfl
 obtain⟨g2,m2⟩:=XF hc g1.hap;exact⟨_,_,_,R',rfl,⟨rfl,rfl⟩,g2,m2 _ _ h1⟩
end
section
variable {P:Program}{c:Ctx}{R:Real}{s:AS}{a:Act}{w:World}
end
section
variable {P:Program}{c:Ctx}{R:Real}{s:AS}{a:Act}{w:World}
end
section
variable {P:Program}{c:Ctx}{R:Real}{s:AS}{a:Act}{w:World}
theorem NF {N:Nat→Prop}:∀{ps:List PV} {vs r:List Value},FL (bG N w) ps vs→(∀v∈vs,v.oneCell'=true)→fP N w ps (vs++r)
 |[],vs,r,h,_=>by simp only[fP]
 | p::ps,vs,r,h,h1=>by
   obtain⟨v,r',rfl,h2,h3⟩:=h;simp only[fP,List.cons_append];exact⟨v,r'++r,rfl,h1 v (by simp),h2,NF h3 fun u hu=>h1 u (by simp[hu])⟩
theorem bD.X6 (g:bD c R s a w){b:Nat}{e:TypeId}{v st:Nat}{pre post:List (List PV)}{row:List AV}{ps:List PV}{fs:List (Nat×aD)}(hb:lk s.hp b=some (.dM e v st pre row post))
  (hps:IC s.hp row=some ps) (hfs:J2 s.hp (dY row)=some fs) (hbf:lk fs b=none) :
  bD c R (s.app ((b,.arr e v st (pre++ps::post))::fs)) a w∧∀u x,aj (aU c R s.hp) w s.hp R u x→aj (aU c R ((b,.arr e v st (pre++ps::post))::(fs++s.hp))) w ((b,.arr e v st (pre++ps::post))::(fs++s.hp)) R u x:=by
 obtain⟨xs,k1,k2,k3,hrow,k5⟩:=g.boxes b _ hb;obtain⟨g1,m1,n1,o1⟩:=jQ g (fun _ _ h=>h) _ _ hfs;have hFC:=(bI _ _ _ _ _ _).1 hrow;have hL:bQ (aU c R s.hp) w s.hp R row ((xs.drop (pre.length*st)).take st):=by
  have:∀(l:List AV) (vs:List Value),bO (aU c R s.hp) w s.hp R l vs→bQ (aU c R s.hp) w s.hp R l vs:=by
   intro l;induction l with
   |nil=>intro vs h;simpa only[bO,bQ] using h
   | cons y l ih=>
     intro vs h;simp only[bO,bQ] at h ⊢;obtain⟨z,r,e,_,h1,h2⟩:=h;exact⟨z,r,e,h1,ih _ h2⟩
  exact this _ _ hrow
 have hP:=iF g (fun _ _ h=>h) n1 row ps _ (fun b hb=>o1 b (.inr hb)) hps hL;have hb1:lk (s.app fs).hp b=some (.dM e v st pre row post):=by
  show lk (fs++s.hp) b=_
  rw[fM,hbf];exact hb
 have hl:(pre++ps::post).length=pre.length+(1+post.length):=by simp[Nat.add_comm]
 obtain⟨g2,m2⟩:=g1.JA (bH:=.arr e v st (pre++ps::post)) hb1 (fun off v h=>h.elim) (fun ver u h=>by simpa only[aT,hl] using h) (fun ver i off u h=>h) (fun r h=>h) (fun hm hN=>by
  refine⟨xs,by rw[hl];exact k1,BX (aW (fun r _ h=>n1 r (hN r h)) (fun _ _ _=>rfl) _ _ _ k2) ?_ ?_ (aW (fun r _ h=>n1 r (hN r h)) (fun _ _ _=>rfl) _ _ _ k5)⟩
  ·rw[jG] at hP;rw[←hP.length,hFC.length];exact k3
  have hP2:=oI (fun r _ h=>hN r h) (fun _ _ _=>rfl) _ _ hP;rw[jG] at hP2;have:=NF (r:=(xs.drop (pre.length*st)).drop st) hP2 hFC.one;rwa [List.take_append_drop] at this)
 exact⟨g2,fun u x h=>m2 u x (m1 u x h)⟩
theorem jr {f:FuncId}{args:List AV}{hp:List (Nat×aD)}{r r2:AV}{hp' hp2:List (Nat×aD)}(h:dR P f args hp r hp')(b:Nat){e:TypeId}{v st:Nat}{pre post:List (List PV)}{row:List AV}{ps:List PV}
  {fs:List (Nat×aD)} (hb:lk hp' b=some (.dM e v st pre row post)) (hps:IC hp' row=some ps) (hfs:J2 hp' (dY row)=some fs) (hbf:lk fs b=none)
  (e2:PU ((b,.arr e v st (pre++ps::post))::(fs++hp')) r (fun x h=>x=r2∧h=hp2)):dR P f args hp r2 hp2:=by
 refine⟨h.1,fun c R w dw hh ha=>(h.2 c R w dw hh ha).mono ?_⟩;rintro ex w' ⟨x,r0,nT,R',rfl,⟨e1,e3⟩,O9,hr⟩
 rw[e1,e3] at hr;rw[e3] at O9;have g:bD c R' ⟨[],0,hp'⟩ { tmps:=Array.replicate c.n undef,defers:=[] } w':=
  O9.WL (fun t v h=>by simp[lk] at h) (by simp) ⟨[],⟨fun d h=>by simp at h,rfl,by simp,fun d h=>by simp at h,fun d h=>by simp at h⟩⟩
 obtain⟨g1,m1⟩:=g.X6 hb hps hfs hbf;obtain⟨r',HZ,R'',hQ,h1,h2⟩:=mM e2 g1.hap (m1 _ _ hr);exact⟨x,r',HZ,R'',rfl,hQ,h1,h2⟩
end
section
variable {c:Ctx}{R:Real}{s:AS}{a:Act}{w:World}
theorem bD.swap (g:bD c R s a w){R':Real}{fs:List (Nat×aD)}(hY:R'.Y=R.Y)
  (hR:∀b,lk fs b=none→R'.blk b=R.blk b∧R'.nil b=R.nil b∧R'.cap b=R.cap b)
  (r1:∀b box,lk fs b=some box→∀off v,aX R b off v (lk s.hp b)→aX R' b off v (some box))
  (r2:∀b box,lk fs b=some box→∀ver v,aT R b ver v (lk s.hp b)→aT R' b ver v (some box))
  (r3:∀b box,lk fs b=some box→∀ver i off v,aZ R b ver i off v (lk s.hp b)→aZ R' b ver i off v (some box))
  (ho:∀r,owned R' (fs++s.hp) r→owned R s.hp r)
  (hinj:∀b b' r,aN R' b r (lk (fs++s.hp) b)→aN R' b' r (lk (fs++s.hp) b')→b=b')
  (ER:(∀r,aU c R' (fs++s.hp) r→aU c R s.hp r)→(∀u x,aj (aU c R s.hp) w s.hp R u x→aj (aU c R' (fs++s.hp)) w (fs++s.hp) R' u x) →
   ∀b box,lk fs b=some box→eG (aU c R' (fs++s.hp)) w (fs++s.hp) R' b box) :
  bD c R' (s.app fs) a w∧∀u x,aj (aU c R s.hp) w s.hp R u x→aj (aU c R' (fs++s.hp)) w (fs++s.hp) R' u x:=by
 have hN:∀r,aU c R' (fs++s.hp) r→aU c R s.hp r:=fun r h=>h.imp id (ho r)
 have q1:∀b off v,aX R b off v (lk s.hp b)→aX R' b off v (lk (fs++s.hp) b):=fun b off v h=>by
  rw[fM];cases hb:lk fs b with
  |none=>exact jT (hR b hb) h
  |some box=>exact r1 b box hb off v h
 have q2:∀b ver v,aT R b ver v (lk s.hp b)→aT R' b ver v (lk (fs++s.hp) b):=fun b ver v h=>by
  rw[fM];cases hb:lk fs b with
  |none=>exact lF (hR b hb) h
  |some box=>exact r2 b box hb ver v h
 have q3:∀b ver i off v,aZ R b ver i off v (lk s.hp b)→aZ R' b ver i off v (lk (fs++s.hp) b):=fun b ver i off v h=>by
  rw[fM];cases hb:lk fs b with
  |none=>exact lG (hR b hb) h
  |some box=>exact r3 b box hb ver i off v h
 have hm:∀u x,aj (aU c R s.hp) w s.hp R u x→aj (aU c R' (fs++s.hp)) w (fs++s.hp) R' u x:=
  fun u x h=>bX (fun r _ hr=>hN r hr) (fun _ _ _=>rfl) q1 q2 q3 u x h
 refine⟨⟨?_,g.size,by rw[hY];exact g.lo,?_,?_,?_,hinj,fun r h=>g.free r (ho r h),g.jE,fun r h=>g.iN r (ho r h),fun v x h=>hm v x (g.kept v x h)⟩,hm⟩
 ·intro t v hv;obtain⟨x,hx,hr⟩:=g.slots t v hv;exact⟨x,hx,hm _ _ hr⟩
 ·obtain⟨Ds,h⟩:=g.marks;exact⟨Ds,h.low,h.eq,h.nodup,h.obj,fun D hD hx=>h.free D hD (ho D hx)⟩
 ·exact⟨g.fixed.obj,fun r o hr hx=>g.fixed.free r o hr (ho r hx),g.fixed.nc⟩
 intro b box hb;have hb:lk (fs++s.hp) b=some box:=hb;cases hf:lk fs b with
 | none=>
   rw[fM,hf] at hb;obtain⟨e1,e2,e3⟩:=hR b hf;exact zq hN q1 q2 q3 hY e1 e2 e3 (g.boxes b box hb)
 | some bx=>
   rw[fM,hf] at hb;cases hb;exact ER hN hm b _ hf
theorem aaV {N:Nat→Prop}{ed:TypeId}{sd:Nat}{rr:List (List PV)}{v:Value}{ys:List Value}(a3:w.ownsRow 0 ed sd v rr.length ys)(a4:bL N w sd rr ys)(hN:∀k,v.ownBlock=some k→¬N k):bG N w (.sl false sd rr) v:=by
 obtain⟨q1,q2⟩:=a3;simp only[bG];rcases q2 with ⟨q2,q3⟩|⟨g',cap,cur,e1,_,hg,hle,hm,hs,ht⟩
 ·exact⟨none,0,0,q2,q3.symm,⟨Nat.le_refl _,by omega⟩,fun _=>⟨by trivial,by trivial⟩,fun ad ha=>by cases ha⟩
 refine⟨_,_,_,e1,rfl,⟨hle,by unfold maxLen at hm;omega⟩,fun hp=>(by cases hp),fun ad ha=>?_⟩;cases ha;refine .inr ⟨rfl,hN _ (by rw[e1];rfl),cur,_,_,hg,?_⟩;have:=oW (cur.toList.drop (rr.length*sd)) a4;rw[←ht,List.take_append_drop] at this;simpa using this
theorem FT {N:Nat→Prop}{q:PV}{v:Value}(hv:bG N w q v):∀(r:List PV) (j:Nat) (xs:List Value),r[j]? = some q→fP N w (r.set j (.sc v)) xs→fP N w r xs
 |[],j,xs,h,_=>by simp at h
 | p::r,0,xs,h,h'=>by
   simp only[List.getElem?_cons_zero,Option.some.injEq] at h;subst h;simp only[List.set_cons_zero,fP] at h' ⊢;obtain⟨u,t,e,b1,b2,b3⟩:=h';simp only[bG] at b2;subst b2;exact⟨u,t,e,b1,hv,b3⟩
 | p::r,j+1,xs,h,h'=>by
   simp only[List.getElem?_cons_succ] at h;simp only[List.set_cons_succ,fP] at h' ⊢;obtain⟨u,t,e,b1,b2,b3⟩:=h';exact⟨u,t,e,b1,b2,FT hv r j _ h b3⟩
theorem zw {N N':Nat→Prop}(hN:∀r,N' r→N r){st j:Nat}{ed:TypeId}{sd:Nat}:∀{hs:List (Option Value)} {rs:List (Bool×List PV)} {xs:List Value},(∀v,some v∈hs→∀k,v.ownBlock=some k→¬N' k) →
  dI N w st j ed sd hs rs xs→bL N' w st (rs.map (·.2)) xs
 |[],[],xs,_,_=>by simp only[List.map_nil,bL]
 |[],_::_,xs,_,h=>by simp only[dI] at h
 |_::_,[],xs,_,h=>by simp only[dI] at h
 | h::hs,(fl,r)::rs,xs,hk,hh=>by
   simp only[dI] at hh;obtain⟨h1,h2,h3⟩:=hh;simp only[List.map_cons,bL];refine⟨h1,?_,zw hN (fun v hv=>hk v (by simp[hv])) h3⟩;cases h with
   | none=>cases fl with
     |false=>exact bV (fun r _ h=>hN r h) (fun _ _ _=>rfl) _ _ h2
     |true=>exact h2.elim
   | some v=>cases fl with
     |false=>exact h2.elim
     | true=>
       obtain⟨rr,ys,a1,a0,a2,a3,a4⟩:=h2;exact FT (aaV a3 (aW (fun r _ h=>hN r h) (fun _ _ _=>rfl) _ _ _ a4) (hk v (by simp))) r j xs a1 (bV (fun r _ h=>hN r h) (fun _ _ _=>rfl) _ _ a2)
theorem bD.Yi (g:bD c R s a w){b:Nat}{e:TypeId}{ver st j:Nat}{ed:TypeId}{sd:Nat}{pre post:List (Bool×List PV)}(hb:lk s.hp b=some (.fK e ver st j ed sd pre [] post)) :
  bD c R (s.app [(b,.arr e ver st (pre.map (·.2)++post.map (·.2)))]) a w ∧
   ∀u x,aj (aU c R s.hp) w s.hp R u x→aj (aU c R ((b,.arr e ver st (pre.map (·.2)++post.map (·.2)))::s.hp)) w ((b,.arr e ver st (pre.map (·.2)++post.map (·.2)))::s.hp) R u x:=by
 have hl:(pre.map (·.2)++post.map (·.2)).length=pre.length+(dH []+post.length):=by simp[dH]
 obtain⟨xs,hs1,hs2,a1,a2,a3,a4,a5,a6,a7⟩:=g.boxes b _ hb;refine g.JA hb (fun off v h=>h.elim) (fun ver u h=>by simpa only[aT,hl] using h) (fun ver i off u h=>h) (fun r h=>.inl h) (fun hm hN=>?_);have hp:∀v,some v∈hs1++hs2→∀k,v.ownBlock=some k→¬aU c R ((b,aD.arr e ver st (pre.map (·.2)++post.map (·.2)))::s.hp) k:=by
  intro v hv k hk;have NS:aN R b k (lk s.hp b):=by rw[hb];exact .inr ⟨v,by rw[a1];exact hv,hk⟩
  rintro (hF|⟨b',ho⟩)
  ·exact g.free k ⟨b,NS⟩ hF
  rw[aB] at ho;split at ho
  ·rename_i e1;subst e1;exact a7.2 v k (by rw[a1];exact hv) hk ho.1 ho.2
  rename_i e1;exact e1 (g.inj b' b k ho NS).symm
 refine⟨xs,by rw[hl];exact a2,Al (zw hN (fun v hv=>hp v (by simp[hv])) a3) ?_⟩;rw[List.length_map];have:=zw hN (fun v hv=>hp v (by simp[hv])) a6;simpa[dH] using this
end
theorem wF {N:Nat→Prop}{w:World}{st j:Nat}{ed:TypeId}{sd:Nat}:∀{hs1 hs2:List (Option Value)} {r1 r2:List (Bool×List PV)} {xs:List Value},
  dI N w st j ed sd hs1 r1 xs→dI N w st j ed sd hs2 r2 (xs.drop (r1.length*st))→dI N w st j ed sd (hs1++hs2) (r1++r2) xs
 |[],hs2,[],r2,xs,_,h=>by simpa using h
 |[],_,_::_,_,xs,h,_=>by simp only[dI] at h
 |_::_,_,[],_,xs,h,_=>by simp only[dI] at h
 | h::hs1,hs2,(fl,r)::r1,r2,xs,hh,h2=>by
   simp only[List.cons_append,dI] at hh ⊢;obtain⟨a1,a2,a3⟩:=hh;refine⟨a1,a2,wF a3 ?_⟩;rw[List.drop_drop,show st+r1.length*st=((fl,r)::r1).length*st by rw[List.length_cons,Nat.succ_mul];omega];exact h2
theorem aaW (R:Real)(b n:Nat):(bW R b n).oneCell'=true:=by unfold bW;split<;>rfl
theorem aaX {R:Real}{b n r:Nat}(h:(bW R b n).ownBlock=some r):R.nil b=false∧R.blk b=r:=by
 simp only[bW] at h;cases hnil:R.nil b with
 |true=>simp[hnil,Value.ownBlock] at h
 |false=>simp[hnil,Value.ownBlock] at h;exact⟨rfl,h⟩
theorem S9 {N:Nat→Prop}{w:World}{hp:List (Nat×aD)}{R:Real}{d vd:Nat}{hv:Value}(hr:∀v,aT R d vd v (lk hp d)→v=hv) :
  ∀(cs:List PV) (j:Nat) (vs:List Value),bO N w hp R ((cs.map AV.pv).set j (.aF d vd)) vs→FC (bG N w) (cs.set j (.sc hv)) vs
 |[],j,vs,h=>by simpa only[List.map_nil,List.set_nil,bO,FC] using h
 | p::cs,0,vs,h=>by
   simp only[List.map_cons,List.set_cons_zero,bO,FC] at h ⊢;obtain⟨v,r,e,h1,h2,h3⟩:=h;refine⟨v,r,e,h1,?_,?_⟩
   ·simp only[aj] at h2;simp only[bG];exact hr v h2
   rw[bI] at h3;have:∀(cs:List PV) (vs:List Value),FC (aj N w hp R) (cs.map AV.pv) vs→FC (bG N w) cs vs:=by
    intro cs;induction cs with
    |nil=>intro vs h;exact h
    | cons p cs ih=>
      intro vs h;obtain⟨v,r,e,h1,h2,h3⟩:=h;exact⟨v,r,e,h1,by simpa only[aj] using h2,ih _ h3⟩
   exact this cs r h3
 | p::cs,j+1,vs,h=>by
   simp only[List.map_cons,List.set_cons_succ,bO,FC] at h ⊢;obtain⟨v,r,e,h1,h2,h3⟩:=h;exact⟨v,r,e,h1,by simpa only[aj] using h2,S9 hr cs j r h3⟩
theorem Ta {N:Nat→Prop}{w:World}{hp:List (Nat×aD)}{R:Real}{d vd:Nat}{hv:Value}(hr:aT R d vd hv (lk hp d)) :
  ∀(cs:List PV) (j:Nat) (vs:List Value),FC (bG N w) (cs.set j (.sc hv)) vs→bO N w hp R ((cs.map AV.pv).set j (.aF d vd)) vs
 |[],j,vs,h=>by simpa only[List.map_nil,List.set_nil,bO,FC] using h
 | p::cs,0,vs,h=>by
   simp only[List.map_cons,List.set_cons_zero,bO,FC] at h ⊢;obtain⟨v,r,e,h1,h2,h3⟩:=h;refine⟨v,r,e,h1,?_,?_⟩
   ·simp only[bG] at h2;subst h2;simp only[aj];exact hr
   rw[bI];have:∀(cs:List PV) (vs:List Value),FC (bG N w) cs vs→FC (aj N w hp R) (cs.map AV.pv) vs:=by
    intro cs;induction cs with
    |nil=>intro vs h;exact h
    | cons p cs ih=>
      intro vs h;obtain⟨v,r,e,h1,h2,h3⟩:=h;exact⟨v,r,e,h1,by simpa only[aj] using h2,ih _ h3⟩
   exact this cs r h3
 | p::cs,j+1,vs,h=>by
   simp only[List.map_cons,List.set_cons_succ,bO,FC] at h ⊢;obtain⟨v,r,e,h1,h2,h3⟩:=h;exact⟨v,r,e,h1,by simpa only[aj] using h2,Ta hr cs j r h3⟩
theorem aee {l:List (Option Value)}{r:Nat}(h:r∈l.filterMap fun h=>h.bind Value.ownBlock):∃v,some v∈l∧v.ownBlock=some r:=by
 obtain⟨o,h1,h2⟩:=List.mem_filterMap.1 h;cases o with
 |none=>cases h2
 |some v=>exact⟨v,h1,h2⟩
theorem aaY {l:List (Option Value)}{r:Nat}{v:Value}(h:some v∈l)(h2:v.ownBlock=some r):r∈l.filterMap fun h=>h.bind Value.ownBlock:=
 List.mem_filterMap.2 ⟨some v,h,h2⟩
section
variable {c:Ctx}{R:Real}{s:AS}{a:Act}{w:World}
theorem bD.aef (g:bD c R s a w){b d:Nat}{e:TypeId}{ver st j:Nat}{ed:TypeId}{sd:Nat}{pre post:List (Bool×List PV)}{row:List AV}{vd:Nat}{rr:List (List PV)}{cs:List PV}
  (hb:lk s.hp b=some (.fK e ver st j ed sd pre row post)) (hd:lk s.hp d=some (.arr ed vd sd rr)) (hcs:cs[j]? = some (.sl false sd rr)) (hrow:row=(cs.map AV.pv).set j (.aF d vd)) :
  ∃R',bD c R' (s.app [(b,.fK e ver st j ed sd (pre++[(true,cs)]) [] post),(d,.kG (vd+1) sd [])]) a w ∧
   ∀u x,aj (aU c R s.hp) w s.hp R u x→aj (aU c R' ([(b,.fK e ver st j ed sd (pre++[(true,cs)]) [] post),(d,.kG (vd+1) sd [])]++s.hp)) w ([(b,.fK e ver st j ed sd (pre++[(true,cs)]) [] post),(d,.kG (vd+1) sd [])]++s.hp) R' u x:=by
 obtain⟨xs,hs1,hs2,a1,a2,a3,a4,a5,a6,a7⟩:=g.boxes b _ hb;obtain⟨ys,d1,d2⟩:=g.boxes d _ hd;have hdb:d≠b:=fun e1=>by rw[e1,hb] at hd;cases hd
 have hjl:j<cs.length:=(List.getElem?_eq_some_iff.1 hcs).1;have hrl:row.length=cs.length:=by rw[hrow];simp
 have hO:dH row=1:=by
  cases hq:row with
  |nil=>rw[hq] at hrl;simp at hrl;omega
  |cons _ _=>rfl
 simp only[hO,Nat.one_mul] at a2 a4 a5 a6;obtain⟨R',hR'⟩:∃R',R'=qX R b (hs1++some (bW R d rr.length)::hs2):=⟨_,rfl⟩;have hcap:(R'.cap b).2=hs1++some (bW R d rr.length)::hs2:=by subst hR';simp[qX]
 have hsl:∀b' n,bW R' b' n=bW R b' n:=fun b' n=>by subst hR';exact NR
 have hbl:R'.blk=R.blk∧R'.nil=R.nil∧R'.Y=R.Y:=by subst hR';exact⟨rfl,rfl,rfl⟩
 have hRc:∀b',b'≠b→R'.cap b'=R.cap b':=fun b' h=>by subst hR';exact SY h
 obtain⟨B,hB⟩:∃B,B=aD.fK e ver st j ed sd (pre++[(true,cs)]) [] post:=⟨_,rfl⟩;rw[←hB];have l1:∀{b':Nat} {box:aD},lk [(b,B),(d,aD.kG (vd+1) sd [])] b'=some box→(b'=b∧box=B)∨(b'=d∧box=.kG (vd+1) sd []):=by
  intro b' box h;rw[aB] at h;split at h
  ·rename_i e1;cases h;exact .inl ⟨e1.symm,rfl⟩
  rw[aB] at h;split at h
  ·rename_i e1;cases h;exact .inr ⟨e1.symm,rfl⟩
  simp[lk] at h
 have hod:∀r,(bW R d rr.length).ownBlock=some r→aN R d r (lk s.hp d):=fun r h=>by rw[hd];exact aaX h
 have ZH:∀v r,some v∈hs1++hs2→v.ownBlock=some r→aN R b r (lk s.hp b):=fun v r h h2=>by rw[hb];exact .inr ⟨v,by rw[a1];exact h,h2⟩
 have ho:∀b' r,aN R' b' r (lk ([(b,B),(d,aD.kG (vd+1) sd [])]++s.hp) b')→b'≠d∧(aN R b' r (lk s.hp b')∨(b'=b∧aN R d r (lk s.hp d))):=by
  intro b' r h;by_cases e1:b'=b
  ·subst e1;refine⟨fun e2=>hdb e2.symm,?_⟩;rw[fM,aB,if_pos rfl,hB] at h;rcases h with h|⟨v,hv,hr⟩
   ·left;rw[hb];rw[hbl.1,hbl.2.1] at h;exact .inl h
   rw[hcap] at hv;rcases List.mem_append.1 hv with hv|hv
   ·exact .inl (ZH v r (by simp[hv]) hr)
   rcases List.mem_cons.1 hv with e2|hv
   ·cases e2;exact .inr ⟨rfl,hod r hr⟩
   exact .inl (ZH v r (by simp[hv]) hr)
  by_cases e2:b'=d
  ·subst e2;rw[fM,aB,if_neg (fun e=>e1 e.symm),aB,if_pos rfl] at h;exact h.elim
  rw[fM,aB,if_neg (fun e=>e1 e.symm),aB,if_neg (fun e=>e2 e.symm)] at h;exact⟨e2,.inl (fO ⟨by rw[hbl.1],by rw[hbl.2.1],hRc b' e1⟩ hbl.2.2 h)⟩
 obtain⟨g1,m1⟩:=g.swap (R':=R') (fs:=[(b,B),(d,aD.kG (vd+1) sd [])]) hbl.2.2 (fun b' h=>by
   have hne:b'≠b:=fun e1=>by subst e1;rw[aB,if_pos rfl] at h;cases h
   exact⟨by rw[hbl.1],by rw[hbl.2.1],hRc b' hne⟩)
  (fun b' box h off v hr=>by
   rcases l1 h with ⟨rfl,rfl⟩|⟨rfl,rfl⟩
   ·rw[hb] at hr;exact hr.elim
   rw[hd] at hr;exact hr.elim)
  (fun b' box h vr v hr=>by
   rcases l1 h with ⟨rfl,rfl⟩|⟨rfl,rfl⟩
   ·rw[hb] at hr;rw[hB];simp only[aT,hO] at hr;simp only[aT,hsl,dH,List.length_append,List.length_cons,List.length_nil,Nat.zero_add];rwa [show pre.length+1+post.length=pre.length+(1+post.length) by omega]
   rw[hd] at hr;exact⟨by have:=hr.1;omega,hr.2.1,fun e2=>by have:=hr.1;omega⟩)
  (fun b' box h vr i off v hr=>by
   rcases l1 h with ⟨rfl,rfl⟩|⟨rfl,rfl⟩
   ·rw[hb] at hr;rw[hB];simpa only[aZ,hbl.1,hbl.2.1] using hr
   rw[hd] at hr;exact⟨by have:=hr.1;omega,hr.2.1,fun e2=>by have:=hr.1;omega⟩)
  (fun r ⟨b',h⟩=>by
   rcases (ho b' r h).2 with h|⟨_,h⟩
   ·exact⟨b',h⟩
   exact⟨d,h⟩)
  (fun b1 b2 r h1 h2=>by
   obtain⟨n1,h1⟩:=ho b1 r h1;obtain⟨n2,h2⟩:=ho b2 r h2;rcases h1 with h1|⟨e1,h1⟩<;>rcases h2 with h2|⟨e2,h2⟩
   ·exact g.inj b1 b2 r h1 h2
   ·exact absurd (g.inj b1 d r h1 h2) n1
   ·exact absurd (g.inj b2 d r h2 h1) n2
   rw[e1,e2])
  (fun hN hm b' box h=>by
   generalize hNN:aU c R' ([(b,B),(d,aD.kG (vd+1) sd [])]++s.hp)=N' at hN hm ⊢;generalize [(b,B),(d,aD.kG (vd+1) sd [])]++s.hp=hp' at hm ⊢;rcases l1 h with ⟨rfl,e9⟩|⟨rfl,e9⟩<;>rw[e9]
   ·rw[hB];have hmono:∀{hs:List (Option Value)} {rs:List (Bool×List PV)} {zs:List Value},dI (aU c R s.hp) w st j ed sd hs rs zs→dI N' w st j ed sd hs rs zs:=
     fun h=>lH (fun r _ h=>hN r h) (fun _ _ _=>rfl) (fun _ _ _ _=>rfl) h
    have hrw:FC (bG (aU c R s.hp) w) (cs.set j (.sc (bW R d rr.length))) ((xs.drop (pre.length*st)).take st):=by
     refine S9 (hp:=s.hp) (R:=R) (d:=d) (vd:=vd) (fun v hv=>?_) cs j _ (by rw[←hrow];exact a5);rw[hd] at hv;exact hv.2.2 rfl
    have hfp:=FP.app ((xs.drop (pre.length*st)).drop st) hrw.fp;rw[List.take_append_drop] at hfp;refine⟨xs,hs1++[some (bW R d rr.length)],hs2,by rw[hcap];simp,?_,wF (hmono a3) ?_,by simp[dH],by simp only[dH,Nat.zero_mul,List.take_zero,bO],?_,?_⟩
    ·rw[hsl];simp only[dH,List.length_append,List.length_cons,List.length_nil,Nat.zero_add];rw[show pre.length+1+post.length=pre.length+(1+post.length) by omega];exact a2
    ·refine hmono ?_;simp only[dI];refine⟨by rw[←hrl];exact a4,⟨rr,ys,hcs,aaW _ _ _,?_,d1,d2⟩,trivial⟩;rw[cZ];exact hfp
    ·have e5:(xs.drop ((pre++[(true,cs)]).length*st)).drop (dH []*st)=(xs.drop (pre.length*st)).drop st:=by
      simp only[dH,Nat.zero_mul,List.drop_zero,List.length_append,List.length_cons,List.length_nil,Nat.zero_add,List.drop_drop];rw[Nat.succ_mul,Nat.add_zero]
     rw[e5];exact hmono a6
    unfold Dz;rw[hcap,hbl.1,hbl.2.1];have hnew:∀r,(bW R d rr.length).ownBlock=some r→¬∃v,some v∈hs1++hs2∧v.ownBlock=some r:=by
     rintro r hr ⟨v,hv,h2⟩
     exact hdb (g.inj d b' r (hod r hr) (ZH v r hv h2))
    refine⟨?_,?_⟩
    ·have h7:=a7.1;rw[a1] at h7;rw[List.filterMap_append] at h7 ⊢;simp only[List.filterMap_cons,Option.bind_some];cases hq:(bW R d rr.length).ownBlock with
     |none=>simpa using h7
     | some r=>
       simp only;rw[List.perm_middle.nodup_iff,List.nodup_cons];refine⟨fun hm=>hnew r hq ?_,h7⟩;rw[←List.filterMap_append] at hm;exact aee hm
    intro v r hv hr hn he;rcases List.mem_append.1 hv with hv|hv
    ·exact a7.2 v r (by rw[a1];simp[hv]) hr hn he
    rcases List.mem_cons.1 hv with e2|hv
    ·cases e2;exact hdb (g.inj d b' r (hod r hr) (by rw[hb];exact .inl ⟨hn,he⟩))
    exact a7.2 v r (by rw[a1];simp[hv]) hr hn he
   simp only[eG,bG,List.length_nil];rw[hsl];unfold bW;split
   ·exact⟨none,0,0,rfl,rfl,⟨Nat.le_refl _,by omega⟩,fun _=>⟨by trivial,by trivial⟩,fun a ha=>by cases ha⟩
   rename_i hnil;rcases d1.2 with ⟨h3,_⟩|⟨g',cap,cur,e4,_,hg,hle,hm2,_⟩
   ·simp[bW,hnil] at h3
   simp only[bW,hnil,Bool.false_eq_true,if_false,Value.slice.injEq] at e4;refine⟨_,0,_,rfl,rfl,⟨Nat.zero_le _,?_⟩,fun hh=>(by cases hh),fun a ha=>.inl (by trivial)⟩;have:=e4.2.2;unfold maxLen at hm2;omega)
 exact⟨R',g1,m1⟩
theorem bD.aeg (g:bD c R s a w){b:Nat}(d:Nat){e:TypeId}{ver st j:Nat}{ed:TypeId}{sd:Nat}{pre post:List (Bool×List PV)}{rr:List (List PV)}{cs:List PV}
  (hb:lk s.hp b=some (.fK e ver st j ed sd pre [] ((true,cs)::post))) (hd:lk s.hp d=none) (hcs:cs[j]? = some (.sl false sd rr)) :
  ∃R',bD c R' (s.app [(b,.fK e ver st j ed sd pre ((cs.map AV.pv).set j (.aF d 0)) post),(d,.arr ed 0 sd rr)]) a w ∧
   ∀u x,aj (aU c R s.hp) w s.hp R u x→aj (aU c R' ([(b,.fK e ver st j ed sd pre ((cs.map AV.pv).set j (.aF d 0)) post),(d,.arr ed 0 sd rr)]++s.hp)) w ([(b,.fK e ver st j ed sd pre ((cs.map AV.pv).set j (.aF d 0)) post),(d,.arr ed 0 sd rr)]++s.hp) R' u x:=by
 obtain⟨xs,hs1,hs2,a1,a2,a3,a4,a5,a6,a7⟩:=g.boxes b _ hb;have hdb:d≠b:=fun e1=>by rw[e1,hb] at hd;cases hd
 have hjl:j<cs.length:=(List.getElem?_eq_some_iff.1 hcs).1;simp only[dH,Nat.zero_mul,Nat.zero_add,List.drop_zero,List.take_zero,List.length_cons] at a2 a4 a5 a6;cases hs2 with
 |nil=>simp only[dI] at a6
 |cons h hs2=>
 simp only[dI] at a6;obtain⟨b1,b2,b3⟩:=a6;cases h with
 |none=>exact b2.elim
 |some hv=>
 obtain⟨rr',ys,c1,c0,c2,c3,c4⟩:=b2;rw[hcs] at c1;simp only[Option.some.injEq,PV.sl.injEq,true_and] at c1;subst c1;obtain⟨gb,gn,gc,hgv,hgo⟩:∃gb gn gc,hv=(if gn then .slice none 0 0 else .slice (some ⟨gb,0,none⟩) rr.length gc)∧(gn=false→hv.ownBlock=some gb):=by
  rcases c3.2 with ⟨h3,_⟩|⟨g',cap,cur,e4,_⟩
  ·exact⟨0,true,0,by simpa using h3,fun h=>by cases h⟩
  exact⟨g',false,cap,by simpa using e4,fun _=>by rw[e4];rfl⟩
 obtain⟨R',hR'⟩:∃R',R'=qX (R.at d gb gn gc) b (hs1++hs2):=⟨_,rfl⟩;have hcapb:(R'.cap b)=((R.cap b).1,hs1++hs2):=by subst hR';simp[qX,Real.at,show ¬b=d from fun e=>hdb e.symm]
 have uM:R'.blk b=R.blk b∧R'.nil b=R.nil b:=by subst hR';simp[qX,Real.at,show ¬b=d from fun e=>hdb e.symm]
 have hdd:R'.blk d=gb∧R'.nil d=gn∧R'.cap d=(gc,[]):=by subst hR';simp[qX,Real.at,hdb]
 have hoth:∀b',b'≠b→b'≠d→R'.blk b'=R.blk b'∧R'.nil b'=R.nil b'∧R'.cap b'=R.cap b':=fun b' h1 h2=>by subst hR';simp[qX,Real.at,h1,h2]
 have hY:R'.Y=R.Y:=by subst hR';rfl
 have agC:∀n,bW R' b n=bW R b n:=fun n=>by simp only[bW,uM.1,uM.2,hcapb]
 have agD:bW R' d rr.length=hv:=by simp only[bW,hdd.1,hdd.2.1,hdd.2.2,hgv]
 obtain⟨row,hrow⟩:∃row,row=(cs.map AV.pv).set j (.aF d 0):=⟨_,rfl⟩;have hrl:row.length=cs.length:=by rw[hrow];simp
 have hO:dH row=1:=by
  cases hq:row with
  |nil=>rw[hq] at hrl;simp at hrl;omega
  |cons _ _=>rfl
 rw[←hrow];obtain⟨B,hB⟩:∃B,B=aD.fK e ver st j ed sd pre row post:=⟨_,rfl⟩;rw[←hB];have l1:∀{b':Nat} {box:aD},lk [(b,B),(d,aD.arr ed 0 sd rr)] b'=some box→(b'=b∧box=B)∨(b'=d∧box=.arr ed 0 sd rr):=by
  intro b' box h;rw[aB] at h;split at h
  ·rename_i e1;cases h;exact .inl ⟨e1.symm,rfl⟩
  rw[aB] at h;split at h
  ·rename_i e1;cases h;exact .inr ⟨e1.symm,rfl⟩
  simp[lk] at h
 have ZH:∀v r,some v∈hs1++some hv::hs2→v.ownBlock=some r→aN R b r (lk s.hp b):=fun v r h h2=>by rw[hb];exact .inr ⟨v,by rw[a1];exact h,h2⟩
 have hnd:=a7.1;rw[a1] at hnd;have hnew:∀r v,hv.ownBlock=some r→some v∈hs1++hs2→v.ownBlock=some r→False:=by
  intro r v h1 h2 h3;rw[List.filterMap_append,List.filterMap_cons,Option.bind_some,h1] at hnd;simp only at hnd;rw[List.perm_middle.nodup_iff,List.nodup_cons,←List.filterMap_append] at hnd;exact hnd.1 (aaY h2 h3)
 have ho:∀b' r,aN R' b' r (lk ([(b,B),(d,aD.arr ed 0 sd rr)]++s.hp) b') →
   (b'≠d∧b'≠b∧aN R b' r (lk s.hp b'))∨(b'=d∧hv.ownBlock=some r)∨(b'=b∧((R.nil b=false∧R.blk b=r)∨∃v,some v∈hs1++hs2∧v.ownBlock=some r)):=by
  intro b' r h;by_cases e1:b'=b
  ·subst e1;right;right
   rw[fM,aB,if_pos rfl,hB] at h;refine⟨rfl,?_⟩;rcases h with h|⟨v,hv,hr⟩
   ·rw[uM.1,uM.2] at h;exact .inl h
   rw[hcapb] at hv;exact .inr ⟨v,hv,hr⟩
  by_cases e2:b'=d
  ·subst e2;right;left
   rw[fM,aB,if_neg (fun e=>e1 e.symm),aB,if_pos rfl] at h;have h':R'.nil b'=false∧R'.blk b'=r:=h;rw[hdd.1,hdd.2.1] at h';exact⟨rfl,by rw[hgo h'.1,h'.2]⟩
  rw[fM,aB,if_neg (fun e=>e1 e.symm),aB,if_neg (fun e=>e2 e.symm)] at h;exact .inl ⟨e2,e1,fO (hoth b' e1 e2) hY h⟩
 have hin:∀b' r,((b'=d∧hv.ownBlock=some r)∨(b'=b∧((R.nil b=false∧R.blk b=r)∨∃v,some v∈hs1++hs2∧v.ownBlock=some r)))→aN R b r (lk s.hp b):=by
  intro b' r h;rcases h with ⟨_,h⟩|⟨_,h|⟨v,h1,h2⟩⟩
  ·exact ZH hv r (by simp) h
  ·rw[hb];exact .inl h
  exact ZH v r (by rcases List.mem_append.1 h1 with h1|h1<;>simp[h1]) h2
 obtain⟨g1,m1⟩:=g.swap (R':=R') (fs:=[(b,B),(d,aD.arr ed 0 sd rr)]) hY (fun b' h=>by
   have hne:b'≠b:=fun e1=>by subst e1;rw[aB,if_pos rfl] at h;cases h
   have hne2:b'≠d:=fun e1=>by subst e1;rw[aB,if_neg (fun e=>hne e.symm),aB,if_pos rfl] at h;cases h
   exact hoth b' hne hne2)
  (fun b' box h off v hr=>by
   rcases l1 h with ⟨rfl,rfl⟩|⟨rfl,rfl⟩
   ·rw[hb] at hr;exact hr.elim
   rw[hd] at hr;exact hr.elim)
  (fun b' box h vr v hr=>by
   rcases l1 h with ⟨rfl,rfl⟩|⟨rfl,rfl⟩
   ·rw[hb] at hr;rw[hB];simp only[aT,dH,Nat.zero_add,List.length_cons] at hr;simp only[aT,agC,hO];rwa [show pre.length+(1+post.length)=pre.length+(post.length+1) by omega]
   rw[hd] at hr;exact hr.elim)
  (fun b' box h vr i off v hr=>by
   rcases l1 h with ⟨rfl,rfl⟩|⟨rfl,rfl⟩
   ·rw[hb] at hr;rw[hB];simpa only[aZ,uM.1,uM.2] using hr
   rw[hd] at hr;exact hr.elim)
  (fun r ⟨b',h⟩=>by
   rcases ho b' r h with ⟨_,_,h⟩|h
   ·exact⟨b',h⟩
   exact⟨b,hin b' r h⟩)
  (fun b1 b2 r h1 h2=>by
   rcases ho b1 r h1 with ⟨n1,n2,h1⟩|h1<;>rcases ho b2 r h2 with ⟨m1,m2,h2⟩|h2
   ·exact g.inj b1 b2 r h1 h2
   ·exact absurd (g.inj b1 b r h1 (hin b2 r h2)) n2
   ·exact absurd (g.inj b2 b r h2 (hin b1 r h1)) m2
   have key:hv.ownBlock=some r→((R.nil b=false∧R.blk b=r)∨∃v,some v∈hs1++hs2∧v.ownBlock=some r)→False:=by
    rintro k1 (⟨k2,k3⟩|⟨v,k2,k3⟩)
    ·exact a7.2 hv r (by rw[a1];simp) k1 k2 k3
    exact hnew r v k1 k2 k3
   rcases h1 with ⟨e1,h1⟩|⟨e1,h1⟩<;>rcases h2 with ⟨e2,h2⟩|⟨e2,h2⟩
   ·rw[e1,e2]
   ·exact (key h1 h2).elim
   ·exact (key h2 h1).elim
   rw[e1,e2])
  (fun hN hm b' box h=>by
   have hld:lk ([(b,B),(d,aD.arr ed 0 sd rr)]++s.hp) d=some (.arr ed 0 sd rr):=by
    rw[fM,aB,if_neg (fun e=>hdb e.symm),aB,if_pos rfl]
   generalize hNN:aU c R' ([(b,B),(d,aD.arr ed 0 sd rr)]++s.hp)=N' at hN hm ⊢;generalize [(b,B),(d,aD.arr ed 0 sd rr)]++s.hp=hp' at hm hld ⊢;rcases l1 h with ⟨rfl,e9⟩|⟨rfl,e9⟩<;>rw[e9]
   ·rw[hB];have hmono:∀{hs:List (Option Value)} {rs:List (Bool×List PV)} {zs:List Value},dI (aU c R s.hp) w st j ed sd hs rs zs→dI N' w st j ed sd hs rs zs:=
     fun h=>lH (fun r _ h=>hN r h) (fun _ _ _=>rfl) (fun _ _ _ _=>rfl) h
    have hsz:(cs.set j (.sc hv)).length=st:=by rw[List.length_set];exact b1
    refine⟨xs,hs1,hs2,by rw[hcapb],?_,hmono a3,by rw[hO,Nat.one_mul,hrl];exact b1,?_,?_,?_⟩
    ·rw[agC,hO,show pre.length+(1+post.length)=pre.length+(post.length+1) by omega];exact a2
    ·rw[hO,Nat.one_mul,hrow];refine Ta (hv:=hv) ?_ cs j _ ?_
     ·rw[hld];exact⟨Nat.le_refl _,c0,fun _=>agD.symm⟩
     have c2':=bV (N':=N') (fun r _ h=>hN r h) (fun _ _ _=>rfl) _ _ c2;rw[cZ] at c2';have:=c2'.take;rwa [hsz] at this
    ·rw[hO,Nat.one_mul];exact hmono b3
    unfold Dz;rw[hcapb,uM.1,uM.2];refine⟨?_,fun v r hv' hr hn he=>a7.2 v r (by rw[a1];rcases List.mem_append.1 hv' with h1|h1<;>simp[h1]) hr hn he⟩;refine List.Sublist.nodup ?_ hnd;exact List.Sublist.filterMap _ (List.Sublist.append (List.Sublist.refl _) (List.sublist_cons_self _ _))
   exact⟨ys,by rw[agD];exact c3,aW (fun r _ h=>hN r h) (fun _ _ _=>rfl) _ _ _ c4⟩)
 exact⟨R',g1,m1⟩
end
def tmT (H:List (Nat×aD)):List (Nat×AV)→List (Nat×AV)
 |[]=>[]
 |(t,v)::r=>(t,thA H v)::tmT H r
theorem X8 (H:List (Nat×aD)):∀(tm:List (Nat×AV)) (t:Nat),lk (tmT H tm) t=(lk tm t).map (thA H)
 |[],t=>rfl
 | (k,v)::r,t=>by
   simp only[tmT,aB];split
   ·rfl
   exact X8 H r t
theorem bD.told {c:Ctx}{R:Real}{s:AS}{a:Act}{w:World}(g:bD c R s a w):bD c R ⟨tmT s.hp s.tm,s.nx,s.hp⟩ a w:=by
 refine⟨?_,g.size,g.lo,g.marks,g.fixed,g.boxes,g.inj,g.free,g.jE,g.iN,g.kept⟩;intro t v hv;rw[X8] at hv;cases h:lk s.tm t with
 |none=>rw[h] at hv;cases hv
 | some v0=>
   rw[h] at hv;simp only[Option.map_some,Option.some.injEq] at hv;subst hv;obtain⟨x,hx,hr⟩:=g.slots t v0 h;exact⟨x,hx,UY g hr⟩
theorem gU {s s':AS}(b d:Nat){e:TypeId}{ver st j:Nat}{ed:TypeId}{sd:Nat}{pre post:List (Bool×List PV)}{row:List AV}{vd:Nat}{rr:List (List PV)}(cs:List PV)
  (hb:lk s.hp b=some (.fK e ver st j ed sd pre row post)) (hd:lk s.hp d=some (.arr ed vd sd rr)) (hcs:cs[j]? = some (.sl false sd rr)) (hrow:row=(cs.map AV.pv).set j (.aF d vd))
  (h:qM ⟨s.tm,s.nx,(b,.fK e ver st j ed sd (pre++[(true,cs)]) [] post)::(d,.kG (vd+1) sd [])::s.hp⟩ s'):qM s s':=
 fun c R a w g=>by
  obtain⟨R',g1,_⟩:=g.aef hb hd hcs hrow;exact h c R' a w g1
theorem kX {s s':AS}(b d:Nat){e:TypeId}{ver st j:Nat}{ed:TypeId}{sd:Nat}{pre post:List (Bool×List PV)}{rr:List (List PV)}{cs:List PV}
  (hb:lk s.hp b=some (.fK e ver st j ed sd pre [] ((true,cs)::post))) (hd:lk s.hp d=none) (hcs:cs[j]? = some (.sl false sd rr))
  (h:qM ⟨s.tm,s.nx,(b,.fK e ver st j ed sd pre ((cs.map AV.pv).set j (.aF d 0)) post)::(d,.arr ed 0 sd rr)::s.hp⟩ s'):qM s s':=
 fun c R a w g=>by
  obtain⟨R',g1,_⟩:=g.aeg d hb hd hcs;exact h c R' a w g1
section
variable {P:Program}
theorem KR {f:FuncId}{args:List AV}{hp:List (Nat×aD)}{r r2:AV}{hp' hp2:List (Nat×aD)}(h:dR P f args hp r hp')(b:Nat){e:TypeId}{ver st j:Nat}{ed:TypeId}{sd:Nat}{pre post:List (Bool×List PV)}
  (hb:lk hp' b=some (.fK e ver st j ed sd pre [] post))
  (e2:PU ((b,.arr e ver st (pre.map (·.2)++post.map (·.2)))::hp') r (fun x h=>x=r2∧h=hp2)):dR P f args hp r2 hp2:=by
 refine⟨h.1,fun c R w dw hh ha=>(h.2 c R w dw hh ha).mono ?_⟩;rintro ex w' ⟨x,r0,nT,R',rfl,⟨e1,e3⟩,O9,hr⟩
 rw[e1,e3] at hr;rw[e3] at O9;have g:bD c R' ⟨[],0,hp'⟩ { tmps:=Array.replicate c.n undef,defers:=[] } w':=
  O9.WL (fun t v h=>by simp[lk] at h) (by simp) ⟨[],⟨fun d h=>by simp at h,rfl,by simp,fun d h=>by simp at h,fun d h=>by simp at h⟩⟩
 obtain⟨g1,m1⟩:=g.Yi hb;obtain⟨r',HZ,R'',hQ,h1,h2⟩:=mM e2 g1.hap (m1 _ _ hr);exact⟨x,r',HZ,R'',rfl,hQ,h1,h2⟩
end
def pin (T:Tab):Tab:=
 match T with
 |x::y::r=>x::y::y::r
 |T=>T
theorem U2 {P:Program}{T:Tab}(h:bP P T):bP P (pin T):=by
 intro t i hi;refine h t i ?_;unfold pin at hi;split at hi
 ·rename_i x y r;rw[aB,aB,aB] at hi;rw[aB,aB];by_cases e1:x.1=t
  ·rw[if_pos e1] at hi ⊢;exact hi
  rw[if_neg e1] at hi ⊢;by_cases e2:y.1=t
  ·rw[if_pos e2] at hi ⊢;exact hi
  rw[if_neg e2] at hi;rw[if_neg e2] at hi ⊢;exact hi
 exact hi
end Go.AX
namespace Go.AX
theorem FU {N:Nat→Prop}{w:World}{st j:Nat}{ed:TypeId}{sd:Nat}:∀{r1 r2:List (Bool×List PV)} {hs:List (Option Value)} {xs:List Value},dI N w st j ed sd hs (r1++r2) xs →
  ∃h1 h2,hs=h1++h2∧dI N w st j ed sd h1 r1 xs∧dI N w st j ed sd h2 r2 (xs.drop (r1.length*st))
 |[],r2,hs,xs,h=>⟨[],hs,rfl,by simp only[dI],by simpa using h⟩
 |(fl,r)::r1,r2,[],xs,h=>by simp only[List.cons_append,dI] at h
 | (fl,r)::r1,r2,h0::hs,xs,h=>by
   simp only[List.cons_append,dI] at h;obtain⟨a1,a2,a3⟩:=h;obtain⟨h1,h2,e,b1,b2⟩:=FU a3;refine⟨h0::h1,h2,by rw[e];rfl,?_,?_⟩
   ·simp only[dI];exact⟨a1,a2,b1⟩
   rw[List.drop_drop,show st+r1.length*st=((fl,r)::r1).length*st by rw[List.length_cons,Nat.succ_mul];omega] at b2;exact b2
section
variable {c:Ctx}{R:Real}{s:AS}{a:Act}{w:World}
theorem bD.Yj (g:bD c R s a w){b:Nat}{e:TypeId}{ver st j:Nat}{ed:TypeId}{sd:Nat}{pre post pre' post':List (Bool×List PV)}(hb:lk s.hp b=some (.fK e ver st j ed sd pre [] post))(he:pre++post=pre'++post') :
  bD c R (s.app [(b,.fK e ver st j ed sd pre' [] post')]) a w:=by
 have hl:pre'.length+(dH []+post'.length)=pre.length+(dH []+post.length):=by
  have:=congrArg List.length he;simp only[List.length_append,dH] at this ⊢;omega
 obtain⟨xs,hs1,hs2,a1,a2,a3,a4,a5,a6,a7⟩:=g.boxes b _ hb;refine (g.JA (bH:=.fK e ver st j ed sd pre' [] post') hb (fun off v h=>h.elim) (fun vr u h=>by simp only[aT] at h ⊢;rw[hl];exact h) (fun vr i off u h=>h) (fun r h=>h) (fun hm hN=>?_)).1;have h6:dI (aU c R s.hp) w st j ed sd hs2 post (xs.drop (pre.length*st)):=by simpa[dH] using a6
 have h7:=wF a3 h6;rw[he] at h7;obtain⟨k1,k2,e1,b1,b2⟩:=FU h7;have mono:∀{hs:List (Option Value)} {rs:List (Bool×List PV)} {zs:List Value},dI (aU c R s.hp) w st j ed sd hs rs zs→dI (aU c R ((b,aD.fK e ver st j ed sd pre' [] post')::s.hp)) w st j ed sd hs rs zs:=
  fun h=>lH (fun r _ h=>hN r h) (fun _ _ _=>rfl) (fun _ _ _ _=>rfl) h
 refine⟨xs,k1,k2,a1.trans e1,by rw[hl];exact a2,mono b1,by simp[dH],by simp only[dH,Nat.zero_mul,List.take_zero,bO],?_,a7⟩;simpa[dH] using mono b2
end
theorem eD {s s':AS}(b:Nat){e:TypeId}{ver st j:Nat}{ed:TypeId}{sd:Nat}{pre post:List (Bool×List PV)}(pre' post':List (Bool×List PV))
  (hb:lk s.hp b=some (.fK e ver st j ed sd pre [] post)) (he:pre++post=pre'++post') (h:qM ⟨s.tm,s.nx,(b,.fK e ver st j ed sd pre' [] post')::s.hp⟩ s'):qM s s':=
 fun c R a w g=>h c R a w (g.Yj hb he)
theorem AP (e:TypeId)(v st:Nat)(rows:List (List PV)):0+oz (.arr e v st rows)=v:=Nat.zero_add _
theorem AQ (e:TypeId)(v st:Nat)(pre:List (List PV))(row:List AV)(post:List (List PV)):0+oz (.dM e v st pre row post)=v:=Nat.zero_add _
end Go.AX
end
section
namespace Go.AX
end Go.AX
end
section
namespace Go.AX
theorem Sp.aiB (a b:Sp)(h:(!(a.offset==b.offset&&(a.bA==b.bA&&a.n==b.n)))=false):a=b:=by
 cases a;cases b;simp at h;simp[h]
theorem Int.aiB (a b:Int)(h:(a != b)=false):a=b:=by simpa using h
end Go.AX
end
section
namespace Go.AX
end Go.AX
end
section
namespace Go.AX
theorem xE (c:Ch):y9 c=true↔(c.aY=0→c.owner=0∧c.inc=0∧c.af.length=0)∧(c.aY≠0→1≤c.owner∧c.owner≤15∧1≤c.inc∧c.inc≤4611686018427387903):=by
 unfold y9;by_cases h:c.aY=0
 ·rw[if_pos (by simpa using h)];simp only[Bool.and_eq_true,beq_iff_eq,decide_eq_true_eq];constructor
  ·rintro⟨h1,h2,h3⟩
   exact⟨fun _=>⟨h1,h2,by omega⟩,fun h'=>absurd h h'⟩
  rintro⟨h1,_⟩
  obtain⟨a,b,d⟩:=h1 h;exact⟨a,b,by omega⟩
 rw[if_neg (by simpa using h)];simp only[Bool.and_eq_true,bR,decide_eq_true_eq];constructor
 ·rintro⟨⟨h1,h2⟩,h3,h4⟩
  exact⟨fun h'=>absurd h' h,fun _=>⟨h1,h2,h3,h4⟩⟩
 rintro⟨_,h1⟩
 obtain⟨a,b,d,e⟩:=h1 h;exact⟨⟨a,b⟩,d,e⟩
theorem l5 (n:Int):cnt n=true↔n≤4611686018427387903:=by simp[cnt]
end Go.AX
end
section
namespace Go.AX
end Go.AX
end
section
namespace Go.AX
structure ChG (p:Pn)(c:Ch):Prop where
 e1:c.aY≤4611686018427387903
 e2:c.eB≤4611686018427387903
 e3:c.first≤4611686018427387903
 ow:y9 c=true
 len:c.af.length≤8
 pO:c.af.Pairwise (· < ·)
 t1:c.first≤c.trim
 t2:c.trim≤mD p c
 t3:dO (dL p c) 8≤4611686018427387903
 KF:qP p c.af=true
 seen:Ap c=true
 k0:c.au.length≤3
 k1:j5 (c.au.map (·.sub))=true
 k2:c.au.all nV=true
theorem Jr (p:Pn)(c:Ch):qQ p c=true↔ChG p c:=by
 unfold qQ;simp only[Bool.and_eq_true,l5,bR,decide_eq_true_eq];constructor
 ·rintro⟨⟨h1,h2,h3⟩,h4,h6,h7,⟨h8,h9⟩,h10,h11,h12,h16,h17,h18⟩
  exact⟨h1,h2,h3,h4,by omega,by simpa[j5] using h7,h8,h9,h10,h11,h12,by omega,h17,h18⟩
 intro F;exact⟨⟨F.e1,F.e2,F.e3⟩,F.ow,by have:=F.len;omega,by simpa[j5] using F.pO,⟨F.t1,F.t2⟩,F.t3,F.KF,F.seen,by have:=F.k0;omega,F.k1,F.k2⟩
structure gF (p:Pn):Prop where
 v0:0≤p.version
 v:p.version≤4611686018427387903
 n1:1≤p.next
 n2:p.next≤4611686018427387904
 c1:1≤p.channels.length
 c2:p.channels.length≤3
 lg:∀l∈p.af,mr l=true∧l.id<p.next∧0≤l.last
 pO:(nL p).Pairwise (· < ·)
 perm:(gY p).Perm (nL p)
 ch:∀c∈p.channels,ChG p c∧0≤c.aY∧0≤c.first∧((gN p c).isSome=true→dL p c+16≤4611686018427387903)
 p1:p.past.all qR=true
 p2:(p.past.map (·.who)).Pairwise (· < ·)
theorem Qx (l:List Int):(Jp l).Perm l:=List.mergeSort_perm l _
theorem KG (l:List Int):(Jp l).Pairwise (· ≤ ·):=by
 have:=List.pairwise_mergeSort (le:=fun x y:Int=>decide (x≤y)) (fun a b c h1 h2=>by simp at *;omega) (fun a b=>by simp;omega) l;exact this.imp fun h=>by simpa using h
theorem gF.may {p:Pn}(h:gF p):j6 p=true:=by
 unfold j6;simp only[Bool.and_eq_true,l5,bR,decide_eq_true_eq,List.all_eq_true];refine⟨h.v,⟨h.n1,h.n2⟩,⟨by have:=h.c1;omega,by have:=h.c2;omega⟩,fun l hl=>⟨(h.lg l hl).1,(h.lg l hl).2.1⟩,by simpa[j5] using h.pO,?_,fun c hc=>(Jr p c).2 (h.ch c hc).1,by simpa[j5] using h.p2,by simpa using h.p1⟩;have hs:(Jp (gY p)).Perm (nL p):=(Qx _).trans h.perm;refine hs.eq_of_pairwise (le:=fun a b:Int=>a≤b) (fun a b _ _ h1 h2=>by omega) (KG _) ?_;exact h.pO.imp fun h=>by omega
theorem SB:∀{L:List Lg},(L.map (·.id)).Pairwise (· < ·)→∀{l:Lg},l∈L→L.find? (fun x=>x.id==l.id)=some l
 |[],_,_,hl=>by cases hl
 | x::L,hr,l,hl=>by
   rw[List.map_cons,List.pairwise_cons] at hr;rw[List.find?_cons];rcases List.mem_cons.1 hl with rfl|hl
   ·simp
   have:=hr.1 l.id (List.mem_map.2 ⟨l,hl,rfl⟩);have e:(x.id==l.id)=false:=by simp;omega
   rw[e];exact SB hr.2 hl
theorem gF.find {p:Pn}(h:gF p){l:Lg}(hl:l∈p.af):bg p l.id=some l:=SB h.pO hl
theorem gF.named {p:Pn}(h:gF p){c:Ch}(hc:c∈p.channels){id:Int}(hid:id∈c.af):∃l∈p.af,l.id=id∧bg p id=some l:=by
 have:id∈nL p:=h.perm.mem_iff.1 (by unfold gY;exact List.mem_flatMap.2 ⟨c,hc,hid⟩);obtain⟨l,hl,e⟩:=List.mem_map.1 this;exact⟨l,hl,e,by rw[←e];exact h.find hl⟩
theorem Fw {l:Lg}(h:mr l=true):(l.closed=0∨l.closed=1)∧l.last≤8*l.closed:=by
 simp only[mr,Bool.and_eq_true,bR,decide_eq_true_eq] at h;obtain⟨⟨a1,a2⟩,⟨a3,a4⟩,a5,a6,⟨a7,a8⟩,a9⟩:=h;omega
theorem gF.last {p:Pn}(h:gF p)(id:Int):0≤(dm p id).last∧(dm p id).last≤8∧((dm p id).closed=0→(dm p id).last=0)∧((dm p id).closed=0∨(dm p id).closed=1):=by
 unfold dm;cases hf:bg p id with
 |none=>simp[UB]
 | some l=>
   have hm:=(gZ hf).1;have h1:=h.lg l hm;have h2:=Fw h1.1;simp only[Option.getD_some];omega
def jy (f:Int→Int):List Int→Int
 |[]=>0
 |x::r=>f x+jy f r
theorem Ni (f:Int→Int)(a b:List Int):jy f (a++b)=jy f a+jy f b:=by
 induction a with
 |nil=>simp[jy]
 |cons x a ih=>simp only[List.cons_append,jy,ih];omega
theorem tL {f:Int→Int}:∀{l:List Int},(∀x∈l,0≤f x∧f x≤8)→0≤jy f l∧jy f l≤8*l.length
 |[],_=>by simp[jy]
 | x::l,h=>by
   have h1:=h x (by simp);have h2:=tL (f:=f) (l:=l) fun y hy=>h y (by simp[hy])
   simp only[jy,List.length_cons];omega
theorem eY {a b:Int}(h0:0≤a+b)(h1:a+b<18446744073709551616):dO a b=a+b:=aat ⟨h0,by omega⟩
theorem kW (f:Int→Int):∀(ids:List Int) (e:Int),(∀x∈ids,0≤f x∧f x≤8)→0≤e→e+8*ids.length<18446744073709551616→ids.foldl (fun e id=>dO e (f id)) e=e+jy f ids
 |[],e,_,_,_=>by simp[jy]
 | x::l,e,h,h0,h1=>by
   have hx:=h x (by simp);simp only[List.length_cons] at h1;simp only[List.foldl_cons,jy];rw[eY (by omega) (by omega),kW f l (e+f x) (fun y hy=>h y (by simp[hy])) (by omega) (by omega)];omega
def dJ (p:Pn)(id:Int):Int:=(dm p id).last
theorem gF.dL {p:Pn}(h:gF p){c:Ch}(hl:c.af.length≤8)(h0:0≤c.first)(h1:c.first≤4611686018427387903):Go.AX.dL p c=c.first+jy (dJ p) c.af∧0≤jy (dJ p) c.af∧jy (dJ p) c.af≤64:=by
 have hb:∀x∈c.af,0≤dJ p x∧dJ p x≤8:=fun x _=>⟨(h.last x).1,(h.last x).2.1⟩
 have h2:=tL hb;refine⟨?_,h2.1,by omega⟩;unfold Go.AX.dL;exact kW (dJ p) c.af c.first hb h0 (by omega)
theorem BQ {β:Type}{f g:β→Int→β}:∀{l:List Int} {e:β},(∀x∈l,∀e,f e x=g e x)→l.foldl f e=l.foldl g e
 |[],_,_=>rfl
 | x::l,e,h=>by
   simp only[List.foldl_cons];rw[h x (by simp) e];exact BQ fun y hy=>h y (by simp[hy])
def BR (l:Lg):Int×Int:=(l.closed,l.last)
theorem iJ {p p':Pn}{c:Ch}(h:∀id∈c.af,(bg p' id).map BR=(bg p id).map BR):dL p' c=dL p c:=by
 unfold dL;refine BQ fun x hx e=>?_
 have:=h x hx;cases h1:bg p' x<;>cases h2:bg p x<;>rw[h1,h2] at this<;>simp[BR] at this ⊢
 rw[this.2]
theorem vU {p p':Pn}{c:Ch}(h:∀id∈c.af,(bg p' id).map BR=(bg p id).map BR):(gN p' c).isSome=(gN p c).isSome:=by
 unfold gN;cases hg:c.af.getLast? with
 |none=>rfl
 | some id=>
   have:=h id (List.mem_of_getLast? hg);simp only;cases h1:bg p' id<;>cases h2:bg p id<;>rw[h1,h2] at this<;>simp[BR] at this ⊢
   rw[this.1];split<;>rfl
theorem tN {p p':Pn}:∀{ids:List Int},(∀id∈ids,(bg p' id).map BR=(bg p id).map BR)→qP p' ids=qP p ids
 |[],_=>rfl
 | id::r,h=>by
   have:=h id (by simp);simp only[qP];rw[tN fun x hx=>h x (by simp[hx])];congr 1
   cases h1:bg p' id<;>cases h2:bg p id<;>rw[h1,h2] at this<;>simp[BR] at this ⊢
   rw[this.1]
theorem Nj {p p':Pn}{c:Ch}(h:∀id∈c.af,(bg p' id).map BR=(bg p id).map BR):mD p' c=mD p c:=by
 unfold mD;rw[iJ h,vU h]
theorem ChG.congr {p p':Pn}{c:Ch}(h:∀id∈c.af,(bg p' id).map BR=(bg p id).map BR)(g:ChG p c):ChG p' c:=
 ⟨g.e1,g.e2,g.e3,g.ow,g.len,g.pO,g.t1,by rw[Nj h];exact g.t2,by rw[iJ h];exact g.t3,by rw[tN h];exact g.KF,g.seen,g.k0,g.k1,g.k2⟩
theorem mR {p p':Pn}{c:Ch}(h:∀id∈c.af,(bg p' id).map BR=(bg p id).map BR)(g:ChG p c∧0≤c.aY∧0≤c.first∧((gN p c).isSome=true→dL p c+16≤4611686018427387903)) :
  ChG p' c∧0≤c.aY∧0≤c.first∧((gN p' c).isSome=true→dL p' c+16≤4611686018427387903):=
 ⟨g.1.congr h,g.2.1,g.2.2.1,by rw[vU h,iJ h];exact g.2.2.2⟩
theorem iR {p:Pn}{n:Int}(h:fU p n=true):∃hi:(n-1).toNat<p.channels.length,bq p n=p.channels[(n-1).toNat]:=by
 simp only[fU,Bool.and_eq_true,decide_eq_true_eq] at h;have hi:(n-1).toNat<p.channels.length:=by omega
 exact⟨hi,by unfold bq;rw[getElem!_pos p.channels _ hi]⟩
theorem fJ {p:Pn}{n:Int}(h:fU p n=true):bq p n∈p.channels:=by
 obtain⟨hi,e⟩:=iR h;rw[e];exact List.getElem_mem hi
theorem XL {L:List Ch}{i:Nat}{c:Ch}(hi:i<L.length)(h:c.af=L[i].af):(L.set i c).flatMap (·.af)=L.flatMap (·.af):=by
 have:(L.set i c).map (·.af)=L.map (·.af):=by
  rw[List.map_set,h];apply List.ext_getElem (by simp);intro j h1 h2;rw[List.getElem_set];split
  ·rename_i e;subst e;simp
  rfl
 rw[List.flatMap_def,List.flatMap_def,this]
theorem mem_set {L:List Ch}{i:Nat}{c x:Ch}(h:x∈L.set i c):x=c∨x∈L:=by
 rcases List.mem_or_eq_of_mem_set h with h|h
 ·exact .inr h
 exact .inl h
theorem xG {p:Pn}(h:gF p){n:Int}(hn:fU p n=true){c':Ch}(h1:c'.af=(bq p n).af)(h2:c'.first=(bq p n).first)(hg:ChG p c')(h0:0≤c'.aY):gF (eO p n c'):=by
 obtain⟨hi,e⟩:=iR hn;have hc:=h.ch _ (fJ hn);have hE:dL p c'=dL p (bq p n):=by unfold dL;rw[h1,h2]
 have hO:gN p c'=gN p (bq p n):=by unfold gN;rw[h1]
 refine⟨h.v0,h.v,h.n1,h.n2,by simpa[eO] using h.c1,by simpa[eO] using h.c2,h.lg,h.pO,?_,?_,h.p1,h.p2⟩
 ·have:gY (eO p n c')=gY p:=XL hi (by rw[h1,e]);rw[this];exact h.perm
 intro c hcm;refine mR (p:=p) (fun id _=>rfl) ?_;rcases mem_set hcm with rfl|hcm
 ·refine⟨hg,h0,by rw[h2];exact hc.2.2.1,?_⟩;rw[hO,hE];exact hc.2.2.2
 exact h.ch c hcm
theorem UD (L:List Lg)(l':Lg)(id:Int):(L.map fun x=>if x.id==l'.id then l' else x).find? (fun x=>x.id==id)=(L.find? (fun x=>x.id==id)).map fun x=>if x.id==l'.id then l' else x:=by
 induction L with
 |nil=>rfl
 | cons x L ih=>
   rw[List.map_cons,List.find?_cons,List.find?_cons];have e:((if x.id==l'.id then l' else x).id==id)=(x.id==id):=by
    split
    ·rename_i h;rw[beq_iff_eq] at h;rw[h]
    rfl
   rw[e];cases (x.id==id) with
   |true=>rfl
   |false=>exact ih
theorem Fx (p:Pn)(l':Lg):nL (kN p l')=nL p:=by
 unfold nL kN;rw[List.map_map];apply List.map_congr_left;intro x _;simp only[Function.comp];split
 ·rename_i h;rw[beq_iff_eq] at h;exact h.symm
 rfl
theorem jN (p:Pn)(l':Lg)(id:Int):bg (kN p l') id=(bg p id).map fun x=>if x.id==l'.id then l' else x:=UD _ _ _
theorem SC {p:Pn}(h:gF p){l l':Lg}(hl:l∈p.af)(h1:l'.id=l.id)(h2:mr l'=true)(h3:0≤l'.last)(hch:∀c∈p.channels,ChG (kN p l') c∧0≤c.aY∧0≤c.first∧((gN (kN p l') c).isSome=true→dL (kN p l') c+16≤4611686018427387903)):gF (kN p l'):=by
 refine⟨h.v0,h.v,h.n1,h.n2,h.c1,h.c2,?_,by rw[Fx];exact h.pO,by rw[Fx];exact h.perm,hch,h.p1,h.p2⟩;intro x hx;unfold kN at hx;obtain⟨y,hy,rfl⟩:=List.mem_map.1 hx;split
 ·exact⟨h2,by rw[h1];exact (h.lg l hl).2.1,h3⟩
 exact h.lg y hy
theorem Nk {p:Pn}(h:gF p){l l':Lg}(hl:l∈p.af)(h1:l'.id=l.id)(h2:mr l'=true)(h3:BR l'=BR l):gF (kN p l'):=by
 have e3:l'.last=l.last:=by simp only[BR,Prod.mk.injEq] at h3;exact h3.2
 refine SC h hl h1 h2 (by rw[e3];exact (h.lg l hl).2.2) fun c hc=>mR (fun id hid=>?_) (h.ch c hc)
 rw[jN];cases hf:bg p id with
 |none=>rfl
 | some x=>
   simp only[Option.map_some];split
   ·rename_i e;rw[beq_iff_eq] at e;obtain⟨hm,Qy⟩:=gZ hf;have:bg p l.id=some l:=h.find hl;rw[←h1,←e,Qy,hf] at this;rw[h3,Option.some.inj this]
   rfl
structure Fy (o:aV):Prop where
 k1:1≤o.kind
 k2:o.kind≤12
 w1:1≤o.who
 w2:o.who≤15
 i1:1≤o.inc
 i2:o.inc≤4611686018427387903
 n1:1≤o.n
 n2:o.n≤4611686018427387903
 at1:o.at_≤4611686018427387903
 af2:o.now≤4611686018427387903
 bare:o=fQ o (dZ o.kind)
 ch:dZ o.kind 0=true→1≤o.channel∧o.channel≤3
 sub:dZ o.kind 5=true→1≤o.sub∧o.sub≤3
 pl:dZ o.kind 9=true→KD o.from_=true∧KD o.nD=true
 fr:pM o=true
 UE:zh o.seen=true
theorem l7 {o:aV}(h:jW o=true):Fy o:=by
 unfold jW at h;simp only[Bool.and_eq_true,Bool.or_eq_true,Bool.not_eq_true',bR,decide_eq_true_eq,List.all_cons,List.all_nil,l5] at h;obtain⟨⟨h1,h2⟩,⟨h3,h4⟩,h5,h6,h7,⟨h8,h9,h10,h11,h12,h13,_⟩,h14,h15,h16,h17,h18⟩:=h;refine⟨h1,h2,h3,h4,h5,h8,h6,h9,h12,h13,h7,fun e=>?_,fun e=>?_,fun e=>?_,h17,h18⟩
 ·rcases h14 with h|h
  ·rw[e] at h;cases h
  exact h
 ·rcases h15 with h|h
  ·rw[e] at h;cases h
  exact h
 rcases h16 with h|h
 ·rw[e] at h;cases h
 exact⟨h.1,h.2.1⟩
def l8 (x:Oc):Bool:=bR x.code 0 9&&(bR x.owner 0 15&&(cnt x.aY&&(cnt x.at_&&cnt x.bA)))
theorem jX {x:Oc}(h1:0≤x.code∧x.code≤9)(h2:0≤x.owner∧x.owner≤15)(h3:x.aY≤4611686018427387903)(h4:x.at_≤4611686018427387903)(h5:x.bA≤4611686018427387903):l8 x=true:=by
 unfold l8;simp only[Bool.and_eq_true,bR,decide_eq_true_eq,l5];exact⟨h1,h2,h3,h4,h5⟩
theorem qz {n:Int}(h:0≤n∧n≤9):l8 (ig n)=true:=jX h ⟨by simp[ig],by simp[ig]⟩ (by simp[ig]) (by simp[ig]) (by simp[ig])
theorem SE:l8 bS=true:=by decide
theorem Nl (l:List Pa)(o:aV)(out:Oc):bT l o out=mQ Pa.who (l.filter (fun x=>!(x.who==o.who))++[⟨o.who,o.inc,o.n,out⟩]):=rfl
theorem aaB {l:List Pa}{o:aV}{out:Oc}(ho:Fy o)(hx:l8 out=true)(h1:l.all qR=true)(h2:(l.map (·.who)).Pairwise (· < ·)) :
  (bT l o out).all qR=true∧((bT l o out).map (·.who)).Pairwise (· < ·):=by
 rw[Nl];refine⟨?_,?_⟩
 ·rw[List.all_eq_true] at h1 ⊢;intro x hx2;have:=(qy Pa.who _).mem_iff.1 hx2;rcases List.mem_append.1 this with h|h
  ·exact h1 x (List.mem_filter.1 h).1
  rw[List.mem_singleton] at h;subst h;unfold l8 at hx;unfold qR;simp only[Bool.and_eq_true,bR,decide_eq_true_eq] at hx ⊢;exact⟨⟨ho.w1,ho.w2⟩,⟨ho.i1,ho.i2⟩,⟨ho.n1,ho.n2⟩,hx⟩
 have:=vR Pa.who (l.filter (fun x=>!(x.who==o.who))++[(⟨o.who,o.inc,o.n,out⟩:Pa)]);rw[decide_eq_decide] at this;rw[List.pairwise_map];refine this.2 ?_;rw[List.map_append,List.nodup_append];refine⟨?_,by simp,?_⟩
 ·rw[List.pairwise_map] at h2;have h3:(l.filter fun x=>!(x.who==o.who)).Pairwise fun a b=>a.who<b.who:=h2.filter _
  rw[List.nodup_iff_pairwise_ne,List.pairwise_map];exact h3.imp fun h=>by omega
 intro a ha b hb;obtain⟨x,hx,rfl⟩:=List.mem_map.1 ha;simp only[List.map_cons,List.map_nil,List.mem_singleton] at hb;subst hb;have:=(List.mem_filter.1 hx).2;simpa using this
theorem aaC {p:Pn}(h:gF p){o:aV}{out:Oc}(ho:Fy o)(hx:l8 out=true)(hv:p.version≠4611686018427387903):gF { p with version:=dO p.version 1,past:=bT p.past o out }:=by
 have e:dO p.version 1=p.version+1:=eY (by have:=h.v0;omega) (by have:=h.v;omega);have hp:=aaB ho hx h.p1 h.p2;refine⟨by show 0≤dO p.version 1;rw[e];have:=h.v0;omega,by show dO p.version 1≤_;rw[e];have:=h.v;omega,h.n1,h.n2,h.c1,h.c2,h.lg,h.pO,h.perm,fun c hc=>mR (p:=p) (fun _ _=>rfl) (h.ch c hc),hp.1,hp.2⟩
section
variable {p:Pn}(h:gF p){o:aV}(ho:Fy o)(hn:fU p o.channel=true)
include h hn
theorem KH:kV p o.channel=dL p (bq p o.channel):=by unfold kV;rw[if_pos hn]
theorem Av:gX p o.channel=gN p (bq p o.channel):=by unfold gX;rw[if_pos hn]
theorem BS:dL p (bq p o.channel)=(bq p o.channel).first+jy (dJ p) (bq p o.channel).af∧0≤jy (dJ p) (bq p o.channel).af∧jy (dJ p) (bq p o.channel).af≤64∧dL p (bq p o.channel)+8≤4611686018427387903∧0≤dL p (bq p o.channel) ∧
  dO (dL p (bq p o.channel)) 8=dL p (bq p o.channel)+8:=by
 have hc:=h.ch _ (fJ hn);have h1:=h.dL hc.1.len hc.2.2.1 hc.1.e3;have h2:=hc.1.t3;have h3:=hc.1.e3;have h4:=hc.2.2.1;have h5:dO (dL p (bq p o.channel)) 8=dL p (bq p o.channel)+8:=eY (by omega) (by omega);rw[h5] at h2;exact⟨h1.1,h1.2.1,h1.2.2,h2,by omega,h5⟩
theorem SF:mD p (bq p o.channel)≤4611686018427387903:=by
 have:=BS h hn;unfold mD;split<;>omega
theorem SG:(bq p o.channel).trim≤4611686018427387903:=by
 have h1:=(h.ch _ (fJ hn)).1.t2;have h2:=SF h hn;omega
include ho
theorem aaD:gF (eO p o.channel (mE (bq p o.channel) o).1)∧l8 (mE (bq p o.channel) o).2=true:=by
 have hc:=h.ch _ (fJ hn);have hw1:=ho.w1;have hw2:=ho.w2;have hi1:=ho.i1;have hi2:=ho.i2;have hse:∀c,c=bq p o.channel→gF (eO p o.channel c):=fun c e=>by subst e;exact xG h hn rfl rfl hc.1 hc.2.1
 unfold mE;split
 ·refine⟨hse _ rfl,?_⟩;have how:=hc.1.ow;rw[xE] at how;refine jX ⟨by simp[bS],by simp[bS]⟩ ?_ hc.1.e1 (by simp[bS]) (by simp[bS]);by_cases e0:(bq p o.channel).aY=0
  ·have:=how.1 e0;simp only;omega
  have:=how.2 e0;simp only;omega
 split
 ·exact⟨hse _ rfl,qz ⟨by decide,by decide⟩⟩
 rename_i hne;have he1:=hc.1.e1;have he0:=hc.2.1;have hne2:(bq p o.channel).aY≠4611686018427387903:=by simpa using hne
 have e:IntKind.u64.wrap ((bq p o.channel).aY+1)=(bq p o.channel).aY+1:=vN (by omega) (by omega);rw[e];refine⟨xG h hn rfl rfl ?_ (by simp only;omega),jX ⟨by simp[bS],by simp[bS]⟩ ⟨by simp only[bS];omega,by simp only;omega⟩ (by simp only;omega) (by simp[bS]) (by simp[bS])⟩;have g:=hc.1;refine⟨by simp only;omega,ho.af2,g.e3,?_,g.len,g.pO,g.t1,g.t2,g.t3,g.KF,g.seen,g.k0,g.k1,g.k2⟩;rw[xE];exact⟨fun e0=>by simp only at e0;omega,fun _=>⟨hw1,hw2,hi1,hi2⟩⟩
theorem XM:gF (eO p o.channel (vS (bq p o.channel) o)):=by
 have hc:=h.ch _ (fJ hn);have g:=hc.1;unfold vS;refine xG h hn rfl rfl ⟨g.e1,?_,g.e3,g.ow,g.len,g.pO,g.t1,g.t2,g.t3,g.KF,g.seen,g.k0,g.k1,g.k2⟩ hc.2.1;simp only;split
 ·exact ho.af2
 exact g.e2
theorem aaE:gF (eO p o.channel (ko p (bq p o.channel) o).1)∧l8 (ko p (bq p o.channel) o).2=true:=by
 have hc:=h.ch _ (fJ hn);have g:=hc.1;have eT:ko p (bq p o.channel) o=if decide (o.at_>mD p (bq p o.channel)) then ((bq p o.channel),ig 1) else ({ (bq p o.channel) with trim:=nM (bq p o.channel).trim o.at_ },{ bS with at_:=nM (bq p o.channel).trim o.at_ }):=by
  unfold ko;rw[KH h hn,Av h hn];rfl
 rw[eT];split
 ·exact⟨xG h hn rfl rfl g hc.2.1,qz ⟨by decide,by decide⟩⟩
 rename_i hle;have hm:o.at_≤mD p (bq p o.channel):=by
  simp only[decide_eq_true_eq] at hle;omega
 have ht2:=g.t2;have ht1:=g.t1;have hmx:=SF h hn;have hb:(bq p o.channel).first≤nM (bq p o.channel).trim o.at_∧nM (bq p o.channel).trim o.at_≤mD p (bq p o.channel):=by
  unfold nM;split<;>omega
 refine⟨xG h hn rfl rfl ⟨g.e1,g.e2,g.e3,g.ow,g.len,g.pO,hb.1,hb.2,g.t3,g.KF,g.seen,g.k0,g.k1,g.k2⟩ hc.2.1,jX ⟨by simp[bS],by simp[bS]⟩ ⟨by simp[bS],by simp[bS]⟩ (by simp[bS]) (by simp only;omega) (by simp[bS])⟩
omit ho
theorem Qz:l8 { bS with at_:=(bq p o.channel).trim }=true:=
 jX ⟨by simp[bS],by simp[bS]⟩ ⟨by simp[bS],by simp[bS]⟩ (by simp[bS]) (by have:=SG h hn;simpa using this) (by simp[bS])
theorem XO:zf (bq p o.channel).au o.sub≤4611686018427387903:=by
 have g:=(h.ch _ (fJ hn)).1.k2;rw[List.all_eq_true] at g;unfold zf;split
 ·rename_i x hx;have:=g x (List.mem_of_find?_eq_some hx);simp only[nV,Bool.and_eq_true,l5] at this;exact this.2
 decide
theorem SH:∀{l:List Int} {lo hi:Int},l.Pairwise (· < ·)→(∀x∈l,lo<x∧x≤hi)→lo≤hi→(l.length:Int)≤hi-lo
 |[],lo,hi,_,_,hle=>by simp;omega
 | x::l,lo,hi,hp,hb,hle=>by
   rw[List.pairwise_cons] at hp;have hx:=hb x (by simp);have:=SH (l:=l) (lo:=x) (hi:=hi) hp.2 (fun y hy=>⟨hp.1 y hy,(hb y (by simp[hy])).2⟩) (by omega);simp only[List.length_cons];omega
include ho
theorem adQ (hs:dZ o.kind 5=true){a:Int}(ha:a≤4611686018427387903):gF (eO p o.channel (Au (bq p o.channel) o a).1)∧l8 (Au (bq p o.channel) o a).2=true:=by
 have hc:=h.ch _ (fJ hn);have g:=hc.1;have hsb:=ho.sub hs;obtain⟨L,hL⟩:∃L,L=(bq p o.channel).au.filter (fun x=>!(x.sub==o.sub))++[(⟨o.sub,a⟩:Cu)]:=⟨_,rfl⟩;have hK:Fv (bq p o.channel).au o a=mQ Cu.sub L:=by rw[hL];rfl
 have k2:=g.k2;rw[List.all_eq_true] at k2;have hall:∀x∈L,nV x=true:=by
  intro x hx;rw[hL] at hx;rcases List.mem_append.1 hx with hx|hx
  ·exact k2 x (List.mem_filter.1 hx).1
  rw[List.mem_singleton] at hx;subst hx;simp only[nV,Bool.and_eq_true,l5,bR,decide_eq_true_eq];exact⟨hsb,ha⟩
 have hnd:(L.map Cu.sub).Nodup:=by
  rw[hL,List.map_append,List.nodup_append];refine⟨?_,by simp,?_⟩
  ·have k1:=g.k1;unfold j5 at k1;rw[decide_eq_true_eq,List.pairwise_map] at k1;have h3:=k1.filter (fun x:Cu=>!(x.sub==o.sub));rw[List.nodup_iff_pairwise_ne,List.pairwise_map];exact h3.imp fun h=>by omega
  intro x hx y hy;obtain⟨z,hz,rfl⟩:=List.mem_map.1 hx;simp only[List.map_cons,List.map_nil,List.mem_singleton] at hy;subst hy;have:=(List.mem_filter.1 hz).2;simpa using this
 have hr:(mQ Cu.sub L).Pairwise fun a b=>a.sub<b.sub:=(decide_eq_decide.1 (vR Cu.sub L)).2 hnd
 have acB:∀x∈mQ Cu.sub L,nV x=true:=fun x hx=>hall x ((qy Cu.sub L).mem_iff.1 hx)
 have hr2:((mQ Cu.sub L).map Cu.sub).Pairwise (· < ·):=by rw[List.pairwise_map];exact hr
 have hlen:((mQ Cu.sub L).length:Int)≤3:=by
  have:=SH h hn (l:=(mQ Cu.sub L).map Cu.sub) (lo:=0) (hi:=3) hr2 (fun x hx=>by
   obtain⟨y,hy,rfl⟩:=List.mem_map.1 hx;have:=acB y hy;simp only[nV,Bool.and_eq_true,l5,bR,decide_eq_true_eq] at this;omega) (by decide)
  rw[List.length_map] at this;omega
 unfold Au;rw[hK];refine⟨xG h hn rfl rfl ⟨g.e1,g.e2,g.e3,g.ow,g.len,g.pO,g.t1,g.t2,g.t3,g.KF,g.seen,by simp only;omega,?_,?_⟩ hc.2.1,jX ⟨by simp[bS],by simp[bS]⟩ ⟨by simp[bS],by simp[bS]⟩ (by simp[bS]) ha (by simp[bS])⟩
 ·unfold j5;rw[decide_eq_true_eq];exact hr2
 rw[List.all_eq_true];exact acB
end
section
variable {α:Type}
def dF (p:α→Bool)(l:List α)(j:Nat):List α:=(l.take j).filter fun x=>!p x
def KE (p:α→Bool)(l:List α)(jm:Nat×List α):Prop:=jm.1≤l.length∧jm.2.length=l.length∧jm.2.take (dF p l jm.1).length=dF p l jm.1∧jm.2.drop jm.1=l.drop jm.1
theorem Ar (p:α→Bool)(l:List α)(j:Nat)(h:j≤l.length):(dF p l j).length≤j:=by
 refine Nat.le_trans (List.length_filter_le _ _) ?_;simp;omega
theorem pJ (p:α→Bool)(l:List α)(j:Nat)(h:j<l.length):dF p l (j+1)=if p l[j] then dF p l j else dF p l j++[l[j]]:=by
 unfold dF;rw[List.take_succ_eq_append_getElem h,List.filter_append];cases hp:p l[j]<;>simp[hp]
theorem za {p:α→Bool}{l:List α}{j:Nat}(h:j<l.length)(hp:p l[j]=false):(dF p l (j+1)).length=(dF p l j).length+1:=by
 rw[pJ p l j h,hp];simp
theorem zb {p:α→Bool}{l:List α}{j:Nat}(h:j<l.length)(hp:p l[j]=true):(dF p l (j+1)).length=(dF p l j).length:=by
 rw[pJ p l j h,hp];simp
theorem Fu {p:α→Bool}{l:List α}{j:Nat}{m:List α}(h:KE p l (j,m))(hj:j<l.length):∃hm:j<m.length,m[j]=l[j]:=by
 obtain⟨_,h2,_,h4⟩:=h;simp only at h2 h4;have hm:j<m.length:=by omega
 refine⟨hm,?_⟩;have:=congrArg (fun x=>x[0]?) h4;simpa[hm,hj] using this
theorem BO {p:α→Bool}{l:List α}{j:Nat}{m:List α}(h:KE p l (j,m))(hj:j<l.length)(hp:p l[j]=true):KE p l (j+1,m):=by
 obtain⟨h1,h2,h3,h4⟩:=h;refine⟨hj,h2,?_,?_⟩
 ·simp only[pJ p l j hj,hp,if_true];exact h3
 simp only at h4 ⊢;have:=congrArg (fun x=>x.drop 1) h4;simpa using this
theorem BP {p:α→Bool}{l:List α}{j:Nat}{m:List α}(h:KE p l (j,m))(hj:j<l.length)(hp:p l[j]=false):KE p l (j+1,m.set (dF p l j).length l[j]):=by
 have hk:=Ar p l j (Nat.le_of_lt hj);obtain⟨h1,h2,h3,h4⟩:=h;simp only at h2 h3 h4;refine⟨hj,by simpa using h2,?_,?_⟩
 ·simp only[pJ p l j hj,hp,Bool.false_eq_true,if_false,List.length_append,List.length_singleton];rw[List.take_succ_eq_append_getElem (by simp;omega),List.take_set_of_le (Nat.le_refl _),h3];simp
 simp only;have:=congrArg (fun x=>x.drop 1) h4;rw[List.drop_set_of_lt (by omega)];simpa using this
theorem ze {p:α→Bool}{l:List α}(k:Nat)(hk:k<l.length)(h:∀j (hj:j<l.length),j<k→p l[j]=false)(hp:p l[k]=true):KE p l (k+1,l)∧(dF p l (k+1)).length=k:=by
 have h1:dF p l k=l.take k:=by
  unfold dF;rw[List.filter_eq_self];intro x hx;obtain⟨j,hj,rfl⟩:=List.getElem_of_mem hx;rw[List.length_take] at hj;rw[List.getElem_take,h j (by omega) (by omega)];rfl
 have h2:dF p l (k+1)=l.take k:=by rw[pJ p l k hk,hp,if_pos rfl,h1]
 have h3:(l.take k).length=k:=by simp;omega
 exact⟨⟨hk,rfl,by simp only[h2,h3],rfl⟩,by rw[h2,h3]⟩
end
section
variable {P:Program}{c:Ctx}{R:Real}{s:AS}{a:Act}{w:World}
theorem yx {N:Nat→Prop}{hp:List (Nat×aD)}:∀{ps:List PV} {vs:List Value},fP N w ps vs→bO N w hp R (ps.map .pv) (vs.take ps.length)
 |[],vs,_=>by simp[bO]
 | p::ps,vs,h=>by
   simp only[fP] at h;obtain⟨v,r,rfl,h1,h2,h3⟩:=h;simp only[List.map_cons,List.length_cons,List.take_succ_cons,bO];exact⟨v,_,rfl,h1,by simpa only[aj] using h2,yx h3⟩
theorem bD.aaP (g:bD c R s a w){b:Nat}{e:TypeId}{v st:Nat}{pre post:List (List PV)}{ps:List PV}(hb:lk s.hp b=some (.arr e v st (pre++ps::post))) :
  bD c R (s.app [(b,.dM e v st pre (ps.map .pv) post)]) a w∧∀u x,aj (aU c R s.hp) w s.hp R u x→aj (aU c R ((b,.dM e v st pre (ps.map .pv) post)::s.hp)) w ((b,.dM e v st pre (ps.map .pv) post)::s.hp) R u x:=by
 obtain⟨xs,k1,k2⟩:=g.boxes b _ hb;have hl:(pre++ps::post).length=pre.length+(1+post.length):=by simp[Nat.add_comm]
 obtain⟨m1,m2,m3,m4⟩:=vZ k2;exact g.JA (bH:=.dM e v st pre (ps.map .pv) post) hb (fun off v h=>h.elim) (fun ver u h=>by simpa only[aT,hl] using h) (fun ver i off u h=>h) (fun r h=>h) (fun hm hN=>by
  refine⟨xs,by rw[←hl];exact k1,aW (fun r _ h=>hN r h) (fun _ _ _=>rfl) _ _ _ m1,by rw[List.length_map];exact m2,?_,aW (fun r _ h=>hN r h) (fun _ _ _=>rfl) _ _ _ m4⟩;have:=yx (R:=R) (hp:=(b,.dM e v st pre (ps.map .pv) post)::s.hp) (bV (fun r _ h=>hN r h) (fun _ _ _=>rfl) _ _ m3);rw[m2] at this;exact this)
theorem NI {f:FuncId}{args:List AV}{hp:List (Nat×aD)}{r r2:AV}{hp' hp2:List (Nat×aD)}(h:dR P f args hp r hp')(b:Nat){e:TypeId}{v st:Nat}{pre post:List (List PV)}{ps:List PV}
  (hb:lk hp' b=some (.arr e v st (pre++ps::post)))
  (e2:PU ((b,.dM e v st pre (ps.map .pv) post)::hp') r (fun x h=>x=r2∧h=hp2)):dR P f args hp r2 hp2:=by
 refine⟨h.1,fun c R w dw hh ha=>(h.2 c R w dw hh ha).mono ?_⟩;rintro ex w' ⟨x,r0,nT,R',rfl,⟨e1,e3⟩,O9,hr⟩
 rw[e1,e3] at hr;rw[e3] at O9;have g:bD c R' ⟨[],0,hp'⟩ { tmps:=Array.replicate c.n undef,defers:=[] } w':=
  O9.WL (fun t v h=>by simp[lk] at h) (by simp) ⟨[],⟨fun d h=>by simp at h,rfl,by simp,fun d h=>by simp at h,fun d h=>by simp at h⟩⟩
 obtain⟨g1,m1⟩:=g.aaP hb;obtain⟨r',HZ,R'',hQ,h1,h2⟩:=mM e2 g1.hap (m1 _ _ hr);exact⟨x,r',HZ,R'',rfl,hQ,h1,h2⟩
end
theorem BZ {s s':AS}(ids:List Nat)(h:match J2 s.hp ids with|some fs=>aaf ⟨(s.app fs).tm,(s.app fs).nx,QN (s.app fs).hp (s.app fs).hp⟩ s'|none=>False)(c:Ctx)(R:Real)(a:Act)(w:World)(g:bD c R s a w):∃R',bD c R' s' a w:=by
 split at h;rotate_left;exact h.elim
 rename_i fs hfs;obtain⟨g1,_⟩:=jQ g (fun _ _ h=>h) _ _ hfs;obtain⟨g2,_⟩:=JG g1;exact ak h c R a w g2
theorem Js:∀{L:List Ch},(L.flatMap (·.af)).Nodup→∀{i j:Nat} (hi:i<L.length) (hj:j<L.length),i≠j→∀{x:Int},x∈L[i].af→x∈L[j].af→False
 |[],_,_,_,hi,_,_,_,_,_=>by simp at hi
 | c::L,h,i,j,hi,hj,hne,x,h1,h2=>by
   rw[List.flatMap_cons,List.nodup_append] at h;obtain⟨_,h4,h5⟩:=h;cases i with
   | zero=>
     cases j with
     |zero=>exact hne rfl
     | succ j=>
       simp only[List.getElem_cons_zero,List.getElem_cons_succ] at h1 h2;exact h5 x h1 x (List.mem_flatMap.2 ⟨_,List.getElem_mem _,h2⟩) rfl
   | succ i=>
     cases j with
     | zero=>
       simp only[List.getElem_cons_zero,List.getElem_cons_succ] at h1 h2;exact h5 x h2 x (List.mem_flatMap.2 ⟨_,List.getElem_mem _,h1⟩) rfl
     | succ j=>
       simp only[List.getElem_cons_succ] at h1 h2;exact Js h4 (by simpa using hi) (by simpa using hj) (by omega) h1 h2
theorem gF.nodup {p:Pn}(h:gF p):(gY p).Nodup:=by
 rw[h.perm.nodup_iff,List.nodup_iff_pairwise_ne];exact h.pO.imp fun h=>by omega
theorem gF.once {p:Pn}(h:gF p){i j:Nat}(hi:i<p.channels.length)(hj:j<p.channels.length){x:Int}(h1:x∈p.channels[i].af)(h2:x∈p.channels[j].af):i=j:=
 Classical.byContradiction fun hne=>Js h.nodup hi hj hne h1 h2
section
variable {p:Pn}(h:gF p){o:aV}(ho:Fy o)(hn:fU p o.channel=true)
include h hn
theorem adR {c:Ch}(hc:c∈p.channels){x:Int}(h1:x∈c.af)(h2:x∈(bq p o.channel).af):c=bq p o.channel:=by
 obtain⟨i,hi,rfl⟩:=List.getElem_of_mem hc;obtain⟨hj,e⟩:=iR hn;rw[e] at h2 ⊢;have:=h.once hi hj h1 h2;subst this;rfl
theorem oC {l:Lg}(hl:gX p o.channel=some l):l∈p.af∧(bq p o.channel).af.getLast? = some l.id∧l.closed=0∧bg p l.id=some l:=by
 rw[Av h hn] at hl;unfold gN at hl;split at hl
 ·cases hl
 rename_i id hg;split at hl
 ·cases hl
 rename_i l2 hf;split at hl
 ·rename_i h0;have:=Option.some.inj hl;subst this;obtain⟨h1,h2⟩:=gZ hf;exact⟨h1,by rw[hg,h2],by simpa using h0,by rw[h2];exact hf⟩
 cases hl
theorem oD {l:Lg}(hl:pK p o=some l):gX p o.channel=some l∧l.id=o.bA:=by
 unfold pK at hl;split at hl
 ·rename_i x hx;split at hl
  ·rename_i e;have:=Option.some.inj hl;subst this;exact⟨hx,by simpa using e⟩
  cases hl
 cases hl
include ho
theorem UF:gF (jV p (dU p o)).1∧l8 (jV p (dU p o)).2=true:=by
 unfold dU;split
 ·exact⟨h,qz ⟨by decide,by decide⟩⟩
 rename_i l hl;obtain⟨hop,hid⟩:=oD h hn hl;obtain⟨hm,hg,hc0,hf⟩:=oC h hn hop;simp only;split
 ·exact⟨h,qz ⟨by decide,by decide⟩⟩
 split
 ·exact⟨h,qz ⟨by decide,by decide⟩⟩
 rename_i hmf;have aiD:fw l.w (Ng l.aA (SA o.aA))=true:=by
  cases hb:fw l.w (Ng l.aA (SA o.aA)) with
  |true=>rfl
  |false=>rw[hb] at hmf;simp at hmf
 refine⟨Nk h hm rfl ?_ rfl,SE⟩;have:=(h.lg l hm).1;unfold mr at this ⊢;simp only[Bool.and_eq_true] at this ⊢;exact⟨this.1,this.2.1,this.2.2.1,aiD,this.2.2.2.2⟩
omit ho
theorem QA {l:Lg}(hg:(bq p o.channel).af.getLast? = some l.id):∃r,(bq p o.channel).af=r++[l.id]∧∀x∈r,x≠l.id:=by
 obtain⟨r,hr⟩:=List.getLast?_eq_some_iff.1 hg;refine⟨r,hr,fun x hx=>?_⟩;have:=(h.ch _ (fJ hn)).1.pO;rw[hr,List.pairwise_append] at this;have:=this.2.2 x hx l.id (by simp);omega
theorem QB {q:Pn}{id:Int}(e:bg q id=bg p id):dm q id=dm p id:=by unfold dm;rw[e]
theorem UG (h0:0≤o.at_):gF (jV p (dV p (bq p o.channel) o)).1∧l8 (jV p (dV p (bq p o.channel) o)).2=true:=by
 unfold dV;split
 ·exact⟨h,qz ⟨by decide,by decide⟩⟩
 rename_i l hl;obtain⟨hop,hid⟩:=oD h hn hl;obtain⟨hm,hg,hc0,hf⟩:=oC h hn hop;obtain⟨r,hr,hrn⟩:=QA h hn hg;split
 ·exact⟨h,qz ⟨by decide,by decide⟩⟩
 rename_i Aw;simp only[Bool.or_eq_true,Bool.not_eq_true',decide_eq_true_eq,not_or,Bool.not_eq_false] at Aw;obtain⟨hmf,ha8,htr⟩:=Aw;rw[KH h hn] at htr;obtain⟨e1,e2,e3,e4,e5,e6⟩:=BS h hn;have hop2:(gN p (bq p o.channel)).isSome=true:=by rw[←Av h hn,hop];rfl
 have h16:=(h.ch _ (fJ hn)).2.2.2 hop2;refine⟨?_,SE⟩;simp only[jV];have hfs:∀id,id≠l.id→bg (kN p { l with aA:=o.aA,closed:=1,last:=o.at_ }) id=bg p id:=fun id hne=>by
  rw[jN];cases hfi:bg p id with
  |none=>rfl
  | some x=>
    have:=(gZ hfi).2;simp only[Option.map_some];rw[if_neg (by rw[beq_iff_eq];omega)]
 have hfl:bg (kN p { l with aA:=o.aA,closed:=1,last:=o.at_ }) l.id=some { l with aA:=o.aA,closed:=1,last:=o.at_ }:=by
  rw[jN,hf];simp
 refine SC h hm rfl ?_ h0 ?_
 ·have:=(h.lg l hm).1;unfold mr at this ⊢;simp only[Bool.and_eq_true] at this ⊢;exact⟨this.1,this.2.1,this.2.2.1,hmf,by decide,by rw[decide_eq_true_eq];show o.at_≤8*1;omega⟩
 intro c hc;by_cases hown:l.id∈c.af
 ·have ec:c=bq p o.channel:=adR h hn hc hown (by rw[hr];simp);subst ec;obtain⟨g,g0,g1,g2⟩:=h.ch _ hc;have hend:dL (kN p { l with aA:=o.aA,closed:=1,last:=o.at_ }) (bq p o.channel)=dL p (bq p o.channel)+o.at_:=by
   have ep:dL p (bq p o.channel)=dO (r.foldl (fun e id=>dO e ((bg p id).getD UB).last) (bq p o.channel).first) l.last:=by
    unfold dL;rw[hr,List.foldl_append];simp only[List.foldl_cons,List.foldl_nil,hf,Option.getD_some]
   have el:l.last=0:=by
    have h1:=Fw (h.lg l hm).1;have h2:=(h.lg l hm).2.2;omega
   have eq:dL (kN p { l with aA:=o.aA,closed:=1,last:=o.at_ }) (bq p o.channel)=dO (r.foldl (fun e id=>dO e ((bg p id).getD UB).last) (bq p o.channel).first) o.at_:=by
    unfold dL;rw[hr,List.foldl_append];simp only[List.foldl_cons,List.foldl_nil,hfl,Option.getD_some];congr 1
    exact BQ fun x hx e=>by rw[hfs x (hrn x hx)]
   have hb:∀x∈r,0≤dJ p x∧dJ p x≤8:=fun x _=>⟨(h.last x).1,(h.last x).2.1⟩
   have hrl:r.length≤8:=by have:=g.len;rw[hr,List.length_append] at this;simp at this;omega
   have hs:=tL hb;have hg3:=g.e3;have hfo:r.foldl (fun e id=>dO e ((bg p id).getD UB).last) (bq p o.channel).first=(bq p o.channel).first+jy (dJ p) r:=kW (dJ p) r _ hb g1 (by omega)
   rw[hfo] at ep eq;rw[el,eY (by omega) (by omega)] at ep;rw[eq,eY (by omega) (by omega)];omega
  have af4:(gN (kN p { l with aA:=o.aA,closed:=1,last:=o.at_ }) (bq p o.channel))=none:=by
   unfold gN;rw[hg];simp only[hfl];rfl
  rw[eY (by omega) (by omega)] at htr;refine⟨⟨g.e1,g.e2,g.e3,g.ow,g.len,g.pO,g.t1,?_,?_,?_,g.seen,g.k0,g.k1,g.k2⟩,g0,g1,?_⟩
  ·unfold mD;rw[af4,hend];simp only[Option.isSome_none,Bool.false_eq_true,if_false];omega
  ·rw[hend,eY (by omega) (by omega)];omega
  ·rw[jM];have hl:=g.KF;rw[jM] at hl;intro i hi;have h3:=hl i hi;by_cases ei:(bq p o.channel).af[i]=l.id
   ·rw[ei];unfold dm;rw[hfl];refine⟨rfl,fun e=>?_⟩;simp at e
   unfold dm;rw[hfs _ ei];exact h3
  intro e;rw[af4] at e;cases e
 exact mR (p:=p) (fun id hid=>by rw[hfs id (fun e=>hown (e▸hid))]) (h.ch c hc)
end
theorem tQ {L:List Lg}{l:Lg}{id:Int}{x:Lg}(h:L.find? (fun x=>x.id==id)=some x):(L++[l]).find? (fun x=>x.id==id)=some x:=by
 rw[List.find?_append,h];rfl
theorem BU {α:Type}(L:List α)(i:Nat)(hi:i<L.length)(c:α):L.set i c=L.take i++c::L.drop (i+1)∧L=L.take i++L[i]::L.drop (i+1):=by
 refine⟨List.set_eq_take_append_cons_drop .. |>.trans (by rw[if_pos hi]),?_⟩;rw[List.getElem_cons_drop,List.take_append_drop]
theorem Jt {p:Pn}{n:Int}(hn:fU p n=true)(c':Ch)(L:List Lg)(x:Int):∃A B:List Int,gY p=A++(bq p n).af++B∧gY { eO p n c' with af:=L,next:=x }=A++c'.af++B:=by
 obtain⟨hi,e⟩:=iR hn;obtain⟨h1,h2⟩:=BU p.channels _ hi c';refine⟨(p.channels.take (n-1).toNat).flatMap (·.af),(p.channels.drop ((n-1).toNat+1)).flatMap (·.af),?_,?_⟩
 ·unfold gY;conv=>lhs;rw[h2]
  rw[List.flatMap_append,List.flatMap_cons,e,List.append_assoc]
 unfold gY eO;simp only;rw[h1,List.flatMap_append,List.flatMap_cons,List.append_assoc]
section
variable {p:Pn}(h:gF p){o:aV}(ho:Fy o)(hn:fU p o.channel=true)
include h hn
theorem Nn {c x:Ch}(hx:x∈(eO p o.channel c).channels):x=c∨(x∈p.channels∧∀id∈x.af,id∉(bq p o.channel).af):=by
 obtain⟨hi,e⟩:=iR hn;unfold eO at hx;obtain⟨j,hj,rfl⟩:=List.getElem_of_mem hx;simp only at hj ⊢;rw[List.length_set] at hj;rw[List.getElem_set];split
 ·exact .inl rfl
 rename_i hne;refine .inr ⟨List.getElem_mem _,fun id h1 h2=>?_⟩;rw[e] at h2;exact hne (h.once hj hi h1 h2).symm
include ho
theorem UH (hk:o.kind=4):gF (gW p (bq p o.channel) o).1∧l8 (gW p (bq p o.channel) o).2=true:=by
 unfold gW iL;split
 ·rename_i y hy;split at hy
  ·cases hy
  rename_i hc1;split at hy
  ·cases hy
  rename_i hc2;have:=Option.some.inj hy;subst this;simp only[Bool.or_eq_true,beq_iff_eq,not_or,decide_eq_true_eq] at hc1 hc2;obtain⟨hop,hep⟩:=hc1;obtain⟨⟨hl8,hnx⟩,h16⟩:=hc2;have hop2:gN p (bq p o.channel)=none:=by
   rw[Av h hn] at hop;cases hq:gN p (bq p o.channel) with
   |none=>rfl
   |some _=>rw[hq] at hop;simp at hop
  obtain⟨e1,e2,e3,e4,e5,e6⟩:=BS h hn;rw[KH h hn,eY (by omega) (by omega)] at h16;obtain⟨g,g0,g1,g2⟩:=h.ch _ (fJ hn);have hn1:=h.n1;have hn2:=h.n2;have hnx2:dO p.next 1=p.next+1:=eY (by omega) (by omega);have hfr:=ho.fr;unfold pM at hfr;rw[if_pos hk] at hfr;simp only[Bool.and_eq_true,decide_eq_true_eq] at hfr;obtain⟨hfk,hf1,hfa,hfw,hfm⟩:=hfr;have hw5:o.w≤5:=by
   have hm:=hfm;unfold fw at hm;simp only[Bool.and_eq_true,List.all_eq_true] at hm;have hl:o.aA.length=1:=by omega
   have:=hm.2.2.1 (o.aA[0]'(by omega)) (List.getElem_mem _);unfold Ao at this;simp only[Bool.and_eq_true,bR,decide_eq_true_eq] at this;omega
  simp only;refine⟨?_,jX ⟨by simp[bS],by simp[bS]⟩ ⟨by simp[bS],by simp[bS]⟩ (by simp[bS]) (by simp[bS]) (by show p.next≤_;omega)⟩;obtain⟨q,hq⟩:∃q:Pn,q={ eO p o.channel { bq p o.channel with af:=(bq p o.channel).af++[p.next] } with af:=p.af++[⟨p.next,o.w,o.a,o.aA,0,0⟩],next:=dO p.next 1 }:=⟨_,rfl⟩;rw[←hq];have Np:q.af=p.af++[⟨p.next,o.w,o.a,o.aA,0,0⟩]:=by rw[hq]
  have hqc:q.channels=(eO p o.channel { bq p o.channel with af:=(bq p o.channel).af++[p.next] }).channels:=by rw[hq]
  have af5:nL q=nL p++[p.next]:=by unfold nL;rw[Np,List.map_append];rfl
  have hlt:∀x∈nL p,x<p.next:=fun x hx=>by
   obtain⟨l,hl,rfl⟩:=List.mem_map.1 hx;exact (h.lg l hl).2.1
  have hnew:bg q p.next=some ⟨p.next,o.w,o.a,o.aA,0,0⟩:=by
   unfold bg;rw[Np,List.find?_append];have:p.af.find? (fun l=>l.id==p.next)=none:=by
    rw[List.find?_eq_none];intro l hl;have:=(h.lg l hl).2.1;simp;omega
   rw[this];simp
  have hold:∀c∈p.channels,∀id∈c.af,bg q id=bg p id:=fun c hc id hid=>by
   obtain⟨l,_,_,hf⟩:=h.named hc hid;rw[hf];unfold bg at hf ⊢;rw[Np];exact tQ hf
  refine⟨by rw[hq];exact h.v0,by rw[hq];exact h.v,by rw[hq];show 1≤dO p.next 1;omega,by rw[hq];show dO p.next 1≤_;omega,by rw[hqc];simpa[eO] using h.c1,by rw[hqc];simpa[eO] using h.c2,?_,?_,?_,?_,by rw[hq];exact h.p1,by rw[hq];exact h.p2⟩
  ·have hqn:q.next=p.next+1:=by rw[hq];exact hnx2
   rw[Np,hqn];intro l hl;rcases List.mem_append.1 hl with hl|hl
   ·have:=h.lg l hl;exact⟨this.1,by omega,this.2.2⟩
   rw[List.mem_singleton] at hl;subst hl;refine⟨?_,by simp only;omega,Int.le_refl 0⟩;unfold mr;simp only[Bool.and_eq_true,bR,decide_eq_true_eq];exact⟨⟨hn1,by omega⟩,⟨hfa,hfw⟩,hw5,hfm,⟨Int.le_refl 0,Int.zero_le_ofNat 1⟩,Int.le_refl 0⟩
  ·rw[af5,List.pairwise_append];exact⟨h.pO,by simp,fun a ha b hb=>by rw[List.mem_singleton] at hb;subst hb;exact hlt a ha⟩
  ·rw[af5];obtain⟨A,B,n1,n2⟩:=Jt hn { bq p o.channel with af:=(bq p o.channel).af++[p.next] } (p.af++[⟨p.next,o.w,o.a,o.aA,0,0⟩]) (dO p.next 1);rw[hq,n2];have h3:=h.perm;rw[n1] at h3;refine List.Perm.trans ?_ (h3.append_right [p.next]);simp only[List.append_assoc];refine List.Perm.append_left A (List.Perm.append_left _ ?_);exact List.perm_append_comm
  intro c hc;rw[hqc] at hc;rcases Nn h hn hc with rfl|⟨hc,_⟩
  ·have af6:dL q (bq p o.channel)=dL p (bq p o.channel):=iJ fun id hid=>by rw[hold _ (fJ hn) id hid]
   have hend:dL q { bq p o.channel with af:=(bq p o.channel).af++[p.next] }=dL p (bq p o.channel):=by
    have e0:dL q { bq p o.channel with af:=(bq p o.channel).af++[p.next] }=dO (dL q (bq p o.channel)) 0:=by
     unfold dL;simp only[List.foldl_append,List.foldl_cons,List.foldl_nil,hnew,Option.getD_some]
    rw[e0,af6,eY (by omega) (by omega),Int.add_zero]
   have aiG:gN q { bq p o.channel with af:=(bq p o.channel).af++[p.next] }=some ⟨p.next,o.w,o.a,o.aA,0,0⟩:=by
    unfold gN;simp only[List.getLast?_append,List.getLast?_singleton,Option.some_or,hnew];rfl
   have hmp:mD p (bq p o.channel)=dL p (bq p o.channel):=by unfold mD;rw[hop2];rfl
   have ht2:=g.t2;rw[hmp] at ht2;refine⟨⟨g.e1,g.e2,g.e3,?_,?_,?_,g.t1,?_,?_,?_,g.seen,g.k0,g.k1,g.k2⟩,g0,g1,?_⟩
   ·have:=g.ow;rw[xE] at this ⊢;exact⟨fun e=>absurd e hep,this.2⟩
   ·have:=g.len;simp only[List.length_append,List.length_singleton];omega
   ·rw[List.pairwise_append];refine⟨g.pO,by simp,fun a ha b hb=>?_⟩;rw[List.mem_singleton] at hb;subst hb;obtain⟨l,hl,e,_⟩:=h.named (fJ hn) ha;rw[←e];exact (h.lg l hl).2.1
   ·unfold mD;rw[aiG,hend,e6];simp only[Option.isSome_some,if_true];omega
   ·rw[hend,e6];exact e4
   ·rw[jM];intro i hi;simp only[List.length_append,List.length_singleton] at hi;have acC:=g.KF;rw[jM] at acC;by_cases hlt2:i<(bq p o.channel).af.length
    ·have h3:=acC i hlt2;have hmem:=List.getElem_mem hlt2;simp only[List.getElem_append_left hlt2,List.length_append,List.length_singleton];rw[QB h hn (hold _ (fJ hn) _ hmem),hold _ (fJ hn) _ hmem];refine⟨h3.1,fun e0=>?_⟩;exfalso;have h4:=h3.2 e0;have hgl:(bq p o.channel).af.getLast? = some (bq p o.channel).af[i]:=by
      rw[List.getLast?_eq_getElem?];rw[show (bq p o.channel).af.length-1=i from by omega,List.getElem?_eq_getElem hlt2]
     obtain⟨l,hl2,hid,hf⟩:=h.named (fJ hn) hmem;unfold gN at hop2;rw[hgl] at hop2;simp only[hf] at hop2;unfold dm at e0;rw[hf] at e0;simp only[Option.getD_some] at e0;rw[e0] at hop2;simp at hop2
    have hie:i=(bq p o.channel).af.length:=by omega
    subst hie;simp only[List.getElem_concat_length,hnew,List.length_append,List.length_singleton];simp
   intro _;rw[hend];omega
  exact mR (p:=p) (fun id hid=>by rw[hold c hc id hid]) (h.ch c hc)
 rename_i hy;split at hy
 ·rename_i hc;rw[if_pos hc];exact⟨h,qz ⟨by decide,by decide⟩⟩
 rename_i hc;split at hy
 ·rename_i hc2;rw[if_neg hc,if_pos hc2];exact⟨h,qz ⟨by decide,by decide⟩⟩
 cases hy
end
theorem qA {L:List Lg}{q:Lg→Bool}{id:Int}(hq:∀l∈L,l.id=id→q l=true):(L.filter q).find? (fun x=>x.id==id)=L.find? (fun x=>x.id==id):=by
 induction L with
 |nil=>rfl
 | cons x L ih=>
   have ih:=ih fun l hl=>hq l (by simp[hl])
   rw[List.filter_cons,List.find?_cons];cases he:(x.id==id) with
   | true=>
     rw[if_pos (hq x (by simp) (by simpa using he)),List.find?_cons,he]
   | false=>
     split
     ·rw[List.find?_cons,he];exact ih
     exact ih
theorem xH {p:Pn}(h:gF p)(trim:Int):∀(ids:List Int) (first:Int),0≤first→first+8*ids.length<18446744073709551616 →
  (fG p trim ids first).1≤ids.length∧(fG p trim ids first).2=first+jy (dJ p) (ids.take (fG p trim ids first).1)∧(first≤trim→(fG p trim ids first).2≤trim) ∧
  (∀id∈ids.take (fG p trim ids first).1,(dm p id).closed≠0)
 |[],first,_,_=>by simp[fG,jy]
 | id::r,first,h0,h1=>by
   have hl:=h.last id;simp only[List.length_cons] at h1;have e:dO first (dm p id).last=first+(dm p id).last:=eY (by omega) (by omega)
   have ih:=xH h trim r (first+(dm p id).last) (by omega) (by omega);unfold fG;simp only[e];split
   ·simp[jy]
   rename_i hc;simp only[Bool.or_eq_true,beq_iff_eq,decide_eq_true_eq,not_or] at hc;obtain⟨i1,i2,i3,i4⟩:=ih;refine⟨by simp only[List.length_cons];omega,?_,fun _=>i3 (by omega),?_⟩
   ·simp only[List.take_succ_cons,jy];rw[i2];show _=first+(dJ p id+_)
    unfold dJ;omega
   intro x hx;simp only[List.take_succ_cons] at hx;rcases List.mem_cons.1 hx with rfl|hx
   ·exact hc.1
   exact i4 x hx
section
variable {p:Pn}(h:gF p){o:aV}(ho:Fy o)(hn:fU p o.channel=true)
include h hn ho
theorem UI:gF (iD p (bq p o.channel) o).1∧l8 (iD p (bq p o.channel) o).2=true:=by
 obtain⟨g,g0,g1,g2⟩:=h.ch _ (fJ hn);obtain⟨e1,e2,e3,e4,e5,e6⟩:=BS h hn;have hgl:=g.len;have hg3:=g.e3;have hs:=xH h (bq p o.channel).trim (bq p o.channel).af (bq p o.channel).first g1 (by omega)
 unfold iD nE;generalize (fG p (bq p o.channel).trim (bq p o.channel).af (bq p o.channel).first)=y at hs ⊢;obtain⟨s1,s2,s3,s4⟩:=hs;have s3:=s3 g.t1;have RY:=SG h hn;simp only;split
 ·rename_i z hz;split at hz
  ·cases hz
  rename_i Aw;have:=Option.some.inj hz;subst this;rw[if_neg Aw];simp only[Bool.or_eq_true,Bool.not_eq_true',not_or,Bool.not_eq_false,List.any_eq_true,decide_eq_true_eq,not_exists,not_and] at Aw;obtain⟨hnm,hsn⟩:=Aw;refine⟨?_,jX ⟨by simp[bS],by simp[bS]⟩ ⟨by simp[bS],by simp[bS]⟩ (by simp[bS]) (by show y.2≤_;omega) (by simp[bS])⟩;obtain⟨T,hT⟩:∃T,T=(bq p o.channel).af.take y.1:=⟨_,rfl⟩;obtain⟨D,hD⟩:∃D,D=(bq p o.channel).af.drop y.1:=⟨_,rfl⟩;have Pg:(bq p o.channel).af=T++D:=by rw[hT,hD,List.take_append_drop]
  rw[←hT] at s2 s4;rw[←hD,←hT];simp only;obtain⟨q,hq⟩:∃q:Pn,q={ eO p o.channel { bq p o.channel with af:=D,first:=y.2,seen:=o.seen } with af:=p.af.filter fun l=>!T.contains l.id }:=⟨_,rfl⟩;rw[←hq];have Np:q.af=p.af.filter fun l=>!T.contains l.id:=by rw[hq]
  have hqc:q.channels=(eO p o.channel { bq p o.channel with af:=D,first:=y.2,seen:=o.seen }).channels:=by rw[hq]
  have hrT:=g.pO;rw[Pg,List.pairwise_append] at hrT;have UJ:∀x∈D,x∉T:=fun x hx hx2=>by have:=hrT.2.2 x hx2 x hx;omega
  have hold:∀id,id∉T→bg q id=bg p id:=fun id hid=>by
   unfold bg;rw[Np];refine qA fun l _ e=>?_
   rw[e];simp[hid]
  have hsum:jy (dJ p) (bq p o.channel).af=jy (dJ p) T+jy (dJ p) D:=by rw[Pg,Ni]
  have af7:D.length≤8:=by rw[Pg,List.length_append] at hgl;omega
  have hbT:∀x∈T,0≤dJ p x∧dJ p x≤8:=fun x _=>⟨(h.last x).1,(h.last x).2.1⟩
  have hbD:∀x∈D,0≤dJ p x∧dJ p x≤8:=fun x _=>⟨(h.last x).1,(h.last x).2.1⟩
  have hsT:=tL hbT;have hsD:=tL hbD;refine⟨by rw[hq];exact h.v0,by rw[hq];exact h.v,by rw[hq];exact h.n1,by rw[hq];exact h.n2,by rw[hqc];simpa[eO] using h.c1,by rw[hqc];simpa[eO] using h.c2,?_,?_,?_,?_,by rw[hq];exact h.p1,by rw[hq];exact h.p2⟩
  ·have hqn:q.next=p.next:=by rw[hq];rfl
   rw[Np,hqn];intro l hl;exact h.lg l (List.mem_filter.1 hl).1
  ·unfold nL;rw[Np];have:=h.pO;unfold nL at this;rw[List.pairwise_map] at this ⊢;exact this.filter _
  ·obtain⟨A,B,n1,n2⟩:=Jt hn { bq p o.channel with af:=D,first:=y.2,seen:=o.seen } (p.af.filter fun l=>!T.contains l.id) p.next;have hqe:q={ eO p o.channel { bq p o.channel with af:=D,first:=y.2,seen:=o.seen } with af:=p.af.filter fun l=>!T.contains l.id,next:=p.next }:=hq;have hid:nL q=(nL p).filter fun x=>!T.contains x:=by
    unfold nL;rw[Np,List.filter_map];rfl
   rw[hid,hqe,n2];have h3:=h.perm.filter fun x=>!T.contains x
   refine List.Perm.trans (List.Perm.of_eq ?_) h3;have hnd:=h.nodup;rw[n1,Pg] at hnd ⊢;have keep:∀{L:List Int},(∀x∈L,x∉T)→L.filter (fun x=>!T.contains x)=L:=fun hL=>by
    rw[List.filter_eq_self];intro x hx;have:=hL x hx;simp[this]
   have drop:T.filter (fun x=>!T.contains x)=[]:=by
    rw[List.filter_eq_nil_iff];intro x hx;simp[hx]
   rw[List.nodup_append] at hnd;obtain⟨hn1,hn2,hn3⟩:=hnd;rw[List.nodup_append] at hn1;obtain⟨hn4,hn5,hn6⟩:=hn1;rw[List.filter_append,List.filter_append,List.filter_append,drop,keep (L:=A) (fun x hx hx2=>hn6 x hx x (by simp[hx2]) rfl),keep UJ,keep (L:=B) (fun x hx hx2=>hn3 x (by simp[hx2]) x hx rfl)];rfl
  intro c hc;rw[hqc] at hc;rcases Nn h hn hc with rfl|⟨hc,hno⟩
  ·have hfD:∀id∈D,(bg q id).map BR=(bg p id).map BR:=fun id hid=>by rw[hold id (UJ id hid)]
   have hend:dL q { bq p o.channel with af:=D,first:=y.2,seen:=o.seen }=dL p (bq p o.channel):=by
    have:dL q { bq p o.channel with af:=D,first:=y.2,seen:=o.seen }=dL p { bq p o.channel with af:=D,first:=y.2,seen:=o.seen }:=iJ hfD;rw[this];have h4:dL p { bq p o.channel with af:=D,first:=y.2,seen:=o.seen }=y.2+jy (dJ p) D:=kW (dJ p) D y.2 hbD (by omega) (by omega);rw[h4,e1];omega
   have hop:(gN q { bq p o.channel with af:=D,first:=y.2,seen:=o.seen }).isSome=(gN p (bq p o.channel)).isSome:=by
    have:(gN q { bq p o.channel with af:=D,first:=y.2,seen:=o.seen }).isSome=(gN p { bq p o.channel with af:=D,first:=y.2,seen:=o.seen }).isSome:=vU hfD;rw[this];unfold gN;simp only[Pg];by_cases hDe:D=[]
    ·subst hDe;rw[List.append_nil];simp only[List.getLast?_nil,Option.isSome_none];cases hT2:T.getLast? with
     |none=>rfl
     | some id=>
       have hm:=List.mem_of_getLast? hT2;have hcl:=s4 id hm;obtain⟨l,_,_,hf⟩:=h.named (fJ hn) (id:=id) (by rw[Pg];simp[hm]);unfold dm at hcl;rw[hf] at hcl;simp only[hf];simp only[Option.getD_some] at hcl;rw[if_neg (by simpa using hcl)];rfl
    rw[List.getLast?_append];cases hD2:D.getLast? with
    |none=>exact absurd (List.getLast?_eq_none_iff.1 hD2) hDe
    |some id=>rfl
   have af8:mD q { bq p o.channel with af:=D,first:=y.2,seen:=o.seen }=mD p (bq p o.channel):=by
    unfold mD;rw[hop,hend]
   refine⟨⟨g.e1,g.e2,by show y.2≤_;omega,?_,af7,hrT.2.1,s3,by rw[af8];exact g.t2,by rw[hend];exact g.t3,?_,?_,g.k0,g.k1,g.k2⟩,g0,by show 0≤y.2;omega,?_⟩
   ·have:=g.ow;rw[xE] at this ⊢;refine⟨fun e=>?_,this.2⟩;obtain⟨a1,a2,a3⟩:=this.1 e;rw[Pg,List.length_append] at a3;exact⟨a1,a2,by simp only;omega⟩
   ·rw[tN hfD];have hl:=g.KF;rw[jM] at hl ⊢;intro i hi;have hi2:T.length+i<(bq p o.channel).af.length:=by have hi3:i<D.length:=hi;rw[Pg,List.length_append];omega
    have h3:=hl (T.length+i) hi2;have e3:(bq p o.channel).af[T.length+i]=D[i]:=by
     simp only[Pg];rw[List.getElem_append_right (by omega)];simp
    rw[e3] at h3;refine⟨h3.1,fun e=>?_⟩;have:=h3.2 e;rw[Pg,List.length_append] at this;show i+1=D.length
    omega
   ·have hmk:=ho.UE;unfold zh at hmk;simp only[Bool.and_eq_true,decide_eq_true_eq,List.all_eq_true,bR,l5] at hmk;obtain⟨m1,m2,m3,m4⟩:=hmk;unfold Ap;simp only[Bool.and_eq_true,decide_eq_true_eq,List.all_eq_true,BN,bR];refine⟨m1,m3,m4,fun x hx=>⟨(m2 x hx).1,(m2 x hx).2.1,?_⟩⟩;have:=hsn x hx;omega
   rw[hop,hend];exact g2
  refine mR (p:=p) (fun id hid=>?_) (h.ch c hc);rw[hold id fun hx=>hno id hid (by rw[Pg];simp[hx])]
 rename_i hz;split at hz
 ·rename_i hc;rw[if_pos hc];exact⟨h,qz ⟨by decide,by decide⟩⟩
 cases hz
end
theorem XP {o:aV}{w:Int}{f:Fr}(hto:Fp o.nD=true)(hf:Ao w f=true)(hb:oh o f=false):Ao w (jk o f)=true:=by
 unfold jk;split
 ·rename_i hi;rw[decide_eq_true_eq] at hi;unfold Ao at hf ⊢;simp only[Bool.and_eq_true,bR,decide_eq_true_eq,List.all_eq_true] at hf ⊢;obtain⟨h1,h2,h3,h4⟩:=hf;refine⟨h1,by rw[List.length_set];exact h2,fun x hx=>?_,?_⟩
  ·rcases List.mem_or_eq_of_mem_set hx with hx|rfl
   ·exact h3 x hx
   exact hto
  obtain⟨hk,hkp⟩:=Sy (fun y=>y==o.from_) hi;have hk2:(kD o f).toNat<f.aI.length:=hk;have hj:∀(j:Nat) (hj:j<f.aI.length),f.aI[j].node=o.nD.node→j=(kD o f).toNat:=by
   intro j hj e;unfold oh at hb;have hjj:decide (Nh o f≥0)=true:=by
    unfold Nh;rw[tF,List.any_eq_true];exact⟨_,List.getElem_mem hj,by simpa using e⟩
   rw[hjj] at hb;have hi2:decide (kD o f≥0)=true:=by rw[decide_eq_true_eq];exact hi
   rw[hi2] at hb;simp only[Bool.true_and,bne_eq_false_iff_eq] at hb;rw[decide_eq_true_eq] at hjj;obtain⟨hm,hmp⟩:∃hk:(Nh o f).toNat<f.aI.length,(f.aI[(Nh o f).toNat].node==o.nD.node)=true:=Sy (fun y:Pl=>y.node==o.nD.node) hjj;have e2:f.aI[(Nh o f).toNat].node=o.nD.node:=eq_of_beq hmp;have hnd:=List.pairwise_iff_getElem.1 (List.nodup_iff_pairwise_ne.1 h4);rcases Nat.lt_trichotomy j (Nh o f).toNat with hlt|heq|hgt
   ·exact (hnd j _ (by rw[List.length_map];exact hj) (by rw[List.length_map];exact hm) hlt (by rw[List.getElem_map,List.getElem_map,e,e2])).elim
   ·rw[heq,hb]
   exact (hnd _ j (by rw[List.length_map];exact hm) (by rw[List.length_map];exact hj) hgt (by rw[List.getElem_map,List.getElem_map,e,e2])).elim
  rw[List.map_set,List.nodup_iff_pairwise_ne,List.pairwise_iff_getElem];intro a b ha hb2 hab;rw[List.length_set,List.length_map] at ha hb2;have hnd:=List.pairwise_iff_getElem.1 (List.nodup_iff_pairwise_ne.1 h4) a b (by rw[List.length_map];exact ha) (by rw[List.length_map];exact hb2) hab;simp only[List.getElem_map] at hnd;rw[List.getElem_set,List.getElem_set];by_cases ea:(kD o f).toNat=a
  ·rw[if_pos ea,if_neg (by omega),List.getElem_map];intro e;have:=hj b hb2 e.symm;omega
  rw[if_neg ea,List.getElem_map];by_cases eb:(kD o f).toNat=b
  ·rw[if_pos eb];intro e;have:=hj a ha e;omega
  rw[if_neg eb,List.getElem_map];exact hnd
 exact hf
theorem vV (o:aV)(f:Fr):(jk o f).first=f.first:=by
 unfold jk;split<;>rfl
theorem QC {p:Pn}(h:gF p){o:aV}(hto:Fp o.nD=true):gF (jV p (fA p o)).1∧l8 (jV p (fA p o)).2=true:=by
 unfold fA;split
 ·exact⟨h,qz ⟨by decide,by decide⟩⟩
 rename_i l hl;have hm:=List.mem_of_find?_eq_some hl;split
 ·exact⟨h,qz ⟨by decide,by decide⟩⟩
 rename_i hbad;split
 ·refine⟨Nk h hm rfl ?_ rfl,SE⟩;have:=(h.lg l hm).1;unfold mr at this ⊢;simp only[Bool.and_eq_true] at this ⊢;refine⟨this.1,this.2.1,this.2.2.1,?_,this.2.2.2.2⟩;have hf:=this.2.2.2.1;unfold fw at hf ⊢;simp only[Bool.and_eq_true,List.all_eq_true,List.length_map,decide_eq_true_eq] at hf ⊢;obtain⟨f1,f2,f3,f4⟩:=hf;refine⟨f1,?_,fun x hx=>?_,?_⟩
  ·unfold Qt at f2 ⊢;split at f2
   ·cases f2
   rename_i f r e;rw[e,List.map_cons];simp only[vV];exact f2
  ·obtain⟨y,hy,rfl⟩:=List.mem_map.1 hx;refine XP hto (f3 y hy) ?_;cases hb:oh o y with
   |false=>rfl
   |true=>exact absurd (List.any_eq_true.2 ⟨y,hy,hb⟩) hbad
  rw[List.pairwise_map];exact f4.imp fun h=>by rw[vV,vV];exact h
 exact⟨h,qz ⟨by decide,by decide⟩⟩
theorem rQ {p:Pn}{n:Int}(hn:fU p n=true):eO p n (bq p n)=p:=by
 obtain⟨hi,e⟩:=iR hn;unfold eO;rw[e,List.set_getElem_self]
theorem oU {P:Pn×Oc→Prop}{p:Pn}{o:aV}
  (h1:o.kind=1→P (eO p o.channel (mE (bq p o.channel) o).1,(mE (bq p o.channel) o).2))
  (h2:o.kind=2→P (eO p o.channel (vS (bq p o.channel) o),bS))
  (h3:o.kind=3→P (p,{ bS with at_:=(bq p o.channel).trim }))
  (h4:o.kind=4→P (gW p (bq p o.channel) o))
  (h5:o.kind=5→P (jV p (dU p o)))
  (h6:o.kind=6→P (jV p (dV p (bq p o.channel) o)))
  (h7:o.kind=7→P (eO p o.channel (ko p (bq p o.channel) o).1,(ko p (bq p o.channel) o).2))
  (h8:o.kind=8→P (iD p (bq p o.channel) o))
  (h9:o.kind=9∨o.kind=10→∀a,(a=o.at_∨a=nM (zf (bq p o.channel).au o.sub) o.at_)→P (eO p o.channel (Au (bq p o.channel) o a).1,(Au (bq p o.channel) o a).2))
  (h11:o.kind=11→P (p,{ bS with at_:=zf (bq p o.channel).au o.sub }))
  (h12:(∀i:Int,1≤i→i≤11→o.kind≠i)→P (jV p (fA p o))):P (fH p o):=by
 unfold fH;by_cases e1:o.kind=1
 ·rw[if_pos e1];exact h1 e1
 rw[if_neg e1];by_cases e2:o.kind=2
 ·rw[if_pos e2];exact h2 e2
 rw[if_neg e2];by_cases e3:o.kind=3
 ·rw[if_pos e3];exact h3 e3
 rw[if_neg e3];by_cases e4:o.kind=4
 ·rw[if_pos e4];exact h4 e4
 rw[if_neg e4];by_cases e5:o.kind=5
 ·rw[if_pos e5];exact h5 e5
 rw[if_neg e5];by_cases e6:o.kind=6
 ·rw[if_pos e6];exact h6 e6
 rw[if_neg e6];by_cases e7:o.kind=7
 ·rw[if_pos e7];exact h7 e7
 rw[if_neg e7];by_cases e8:o.kind=8
 ·rw[if_pos e8];exact h8 e8
 rw[if_neg e8];by_cases e9:o.kind=9
 ·rw[if_pos e9];exact h9 (.inl e9) _ (.inr rfl)
 rw[if_neg e9];by_cases e10:o.kind=10
 ·rw[if_pos e10];exact h9 (.inr e10) _ (.inl rfl)
 rw[if_neg e10];by_cases e11:o.kind=11
 ·rw[if_pos e11];exact h11 e11
 rw[if_neg e11];exact h12 fun i a b=>by omega
theorem aaF {p:Pn}(h:gF p){o:aV}(ho:Fy o)(hn:o.kind≠12→fU p o.channel=true)(h0:0≤o.at_):gF (fH p o).1∧l8 (fH p o).2=true:=by
 refine oU (P:=fun y=>gF y.1∧l8 y.2=true) (fun e=>?_) (fun e=>?_) (fun e=>?_) (fun e=>?_) (fun e=>?_) (fun e=>?_) (fun e=>?_) (fun e=>?_) (fun e a ha=>?_) (fun e=>?_) (fun e=>?_)
 ·exact aaD h ho (hn (by omega))
 ·exact⟨XM h ho (hn (by omega)),SE⟩
 ·exact⟨h,Qz h (hn (by omega))⟩
 ·exact UH h ho (hn (by omega)) e
 ·exact UF h ho (hn (by omega))
 ·exact UG h (hn (by omega)) h0
 ·exact aaE h ho (hn (by omega))
 ·exact UI h ho (hn (by omega))
 ·have hb:=XO h (o:=o) (hn (by omega));have hat:=ho.at1;refine adQ h ho (hn (by omega)) (by rcases e with e|e<;>(rw[e];decide)) ?_;rcases ha with rfl|rfl
  ·exact hat
  unfold nM;split<;>omega
 ·have hb:=XO h (o:=o) (hn (by omega));exact⟨h,jX ⟨by simp[bS],by simp[bS]⟩ ⟨by simp[bS],by simp[bS]⟩ (by simp[bS]) (by simpa using hb) (by simp[bS])⟩
 have h12:o.kind=12:=by
  have a1:=ho.k1;have a2:=ho.k2;have:=e o.kind a1;omega
 refine QC h ?_;have:=(ho.pl (by rw[h12];decide)).2;unfold KD at this;unfold Fp;simp only[Bool.and_eq_true,decide_eq_true_eq,bR] at this ⊢;omega
theorem oF (p:Pn)(y:Option Lg×Oc):(jV p y).1.version=p.version∧(jV p y).1.past=p.past∧(jV p y).1.channels=p.channels∧(jV p y).1.next=p.next:=by
 unfold jV;cases y.1<;>exact⟨rfl,rfl,rfl,rfl⟩
theorem aaG (p:Pn)(o:aV):(fH p o).1.version=p.version∧(fH p o).1.past=p.past:=by
 refine oU (P:=fun y=>y.1.version=p.version∧y.1.past=p.past) (fun e=>⟨rfl,rfl⟩) (fun e=>⟨rfl,rfl⟩) (fun e=>⟨rfl,rfl⟩) (fun e=>?_) (fun e=>?_) (fun e=>?_) (fun e=>⟨rfl,rfl⟩) (fun e=>?_) (fun e a ha=>⟨rfl,rfl⟩) (fun e=>⟨rfl,rfl⟩) (fun e=>?_)
 ·unfold gW;split<;>exact⟨rfl,rfl⟩
 ·exact⟨(oF _ _).1,(oF _ _).2.1⟩
 ·exact⟨(oF _ _).1,(oF _ _).2.1⟩
 ·unfold iD;split<;>exact⟨rfl,rfl⟩
 exact⟨(oF _ _).1,(oF _ _).2.1⟩
def fB (p:Pn)(o:aV):Pn×Oc:=if o.channel>(p.channels.length:Int) then (p,ig 4) else fH p o
theorem gP (p:Pn)(o:aV):doM p o=({ (fB p o).1 with version:=dO p.version 1,past:=bT p.past o (fB p o).2 },(fB p o).2):=rfl
theorem adV {o:aV}(ho:Fy o)(h:o.kind=12):o.channel=0:=by
 have:=ho.bare;have e:o.channel=(fQ o (dZ o.kind)).channel:=by rw[←this]
 rw[e,h];rfl
theorem XQ {o:aV}(ho:Fy o)(h:o.kind≠12):dZ o.kind 0=true:=by
 have a1:=ho.k1;have a2:=ho.k2;rcases (by omega:o.kind=1∨o.kind=2∨o.kind=3∨o.kind=4∨o.kind=5∨o.kind=6∨o.kind=7∨o.kind=8∨o.kind=9∨o.kind=10∨o.kind=11) with e|e|e|e|e|e|e|e|e|e|e<;>rw[e]<;>decide
theorem qB {p:Pn}{o:aV}(ho:Fy o)(hle:¬o.channel>(p.channels.length:Int))(h:o.kind≠12):fU p o.channel=true:=by
 have:=ho.ch (XQ ho h);unfold fU;simp only[Bool.and_eq_true,decide_eq_true_eq];omega
theorem QD {p:Pn}(h:gF p){o:aV}(ho:Fy o)(h0:0≤o.at_):gF (fB p o).1∧l8 (fB p o).2=true:=by
 unfold fB;split
 ·exact⟨h,qz ⟨by decide,by decide⟩⟩
 rename_i hle;exact aaF h ho (qB ho hle) h0
theorem adW (p:Pn)(o:aV):(fB p o).1.version=p.version∧(fB p o).1.past=p.past:=by
 unfold fB;split
 ·exact⟨rfl,rfl⟩
 exact aaG p o
theorem af9 {p:Pn}(h:gF p){o:aV}(ho:Fy o)(h0:0≤o.at_)(hv:p.version≠4611686018427387903):gF (doM p o).1:=by
 rw[gP];have h1:=QD h ho h0;have h2:=adW p o;have:=aaC h1.1 ho h1.2 (by rw[h2.1];exact hv);rw[h2.1,h2.2] at this;exact this
theorem gK (p:Pn)(o:aV):((aS p o).1=p∧(j6 p=false∨jW o=false∧(aS p o).2=ig 1∨jW o=true∧(kg p.past o≠none∨p.version=4611686018427387903∨gJ p o=true))) ∨
  (j6 p=true∧jW o=true∧kg p.past o=none∧p.version≠4611686018427387903∧gJ p o=false∧aS p o=doM p o):=by
 unfold aS;split
 ·rename_i hc;left
  simp only[Bool.or_eq_true,Bool.not_eq_true'] at hc;refine⟨rfl,?_⟩;cases hm:j6 p with
  |false=>exact .inl rfl
  | true=>
    rw[hm] at hc;exact .inr (.inl ⟨by simpa using hc,rfl⟩)
 rename_i hc;simp only[Bool.or_eq_true,Bool.not_eq_true',not_or,Bool.not_eq_false] at hc;split
 ·rename_i ht;exact .inl ⟨rfl,.inr (.inr ⟨hc.2,.inl (by rw[ht];simp)⟩)⟩
 ·rename_i ht;exact .inl ⟨rfl,.inr (.inr ⟨hc.2,.inl (by rw[ht];simp)⟩)⟩
 rename_i ht;split
 ·rename_i hv;exact .inl ⟨rfl,.inr (.inr ⟨hc.2,.inr (.inl hv)⟩)⟩
 rename_i hv;split
 ·rename_i hs;exact .inl ⟨rfl,.inr (.inr ⟨hc.2,.inr (.inr hs)⟩)⟩
 rename_i hs;exact .inr ⟨hc.1,hc.2,ht,hv,by simpa using hs,rfl⟩
theorem gQ {p:Pn}(h:gF p){o:aV}(h0:0≤o.at_):gF (aS p o).1:=by
 rcases gK p o with ⟨e,_⟩|⟨_,hm,_,hv,_,e⟩
 ·rw[e];exact h
 rw[e];exact af9 h (l7 hm) h0 hv
theorem Fz {p:Pn}{y:Option Lg×Oc}(h:∀l,y.1=some l→y.2.code=0):(jV p y).2.code≠0→(jV p y).1=p:=by
 unfold jV;cases hy:y.1 with
 |none=>exact fun _=>rfl
 |some l=>exact fun hc=>absurd (h l hy) hc
theorem QE (p:Pn)(o:aV):∀l,(dU p o).1=some l→(dU p o).2.code=0:=by
 intro l hl;unfold dU at hl ⊢;split at hl
 ·cases hl
 rename_i x hx;dsimp only at hl ⊢
 split at hl
 ·cases hl
 rename_i hc1;split at hl
 ·cases hl
 rename_i hc2;rw[if_neg hc1,if_neg hc2];rfl
theorem QG (p:Pn)(c:Ch)(o:aV):∀l,(dV p c o).1=some l→(dV p c o).2.code=0:=by
 intro l hl;unfold dV at hl ⊢;split at hl
 ·cases hl
 split at hl
 ·cases hl
 rename_i hc1;rw[if_neg hc1];rfl
theorem Nq (p:Pn)(o:aV):∀l,(fA p o).1=some l→(fA p o).2.code=0:=by
 intro l hl;unfold fA at hl ⊢;split at hl
 ·cases hl
 split at hl
 ·cases hl
 rename_i hc1;split at hl
 ·rename_i hc2;rw[if_neg hc1,if_pos hc2];rfl
 cases hl
theorem XR (p:Pn)(c:Ch)(o:aV):(ko p c o).2.code≠0→(ko p c o).1=c:=by
 unfold ko;generalize (if (gX p o.channel).isSome then IntKind.u64.wrap (kV p o.channel+8) else kV p o.channel)=m;split
 ·exact fun _=>rfl
 exact fun hc=>absurd rfl hc
theorem XT (c:Ch)(o:aV):(mE c o).2.code≠0→(mE c o).1=c:=by
 unfold mE;split
 ·exact fun _=>rfl
 split
 ·exact fun _=>rfl
 exact fun hc=>absurd rfl hc
theorem KJ {p:Pn}{o:aV}(ho:Fy o)(hn:o.kind≠12→fU p o.channel=true):(fH p o).2.code≠0→(fH p o).1=p:=by
 have hself:o.kind≠12→eO p o.channel (bq p o.channel)=p:=fun e=>rQ (hn e)
 refine oU (P:=fun y=>y.2.code≠0→y.1=p) (fun e=>?_) (fun e=>?_) (fun e=>?_) (fun e=>?_) (fun e=>?_) (fun e=>?_) (fun e=>?_) (fun e=>?_) (fun e a ha=>?_) (fun e=>?_) (fun e=>?_)
 ·exact fun hc=>by show eO p o.channel _=p;rw[XT _ _ hc];exact hself (by omega)
 ·exact fun hc=>absurd rfl hc
 ·exact fun hc=>absurd rfl hc
 ·unfold gW;split
  ·rename_i y hy;unfold iL at hy;split at hy
   ·cases hy
   split at hy
   ·cases hy
   have:=Option.some.inj hy;subst this;exact fun hc=>absurd rfl hc
  exact fun _=>rfl
 ·exact Fz (QE p o)
 ·exact Fz (QG p _ o)
 ·exact fun hc=>by show eO p o.channel _=p;rw[XR _ _ _ hc];exact hself (by omega)
 ·unfold iD nE;simp only;split
  ·rename_i y hy;split at hy
   ·cases hy
   rename_i hc;rw[if_neg hc];exact fun hc=>absurd rfl hc
  exact fun _=>rfl
 ·exact fun hc=>absurd rfl hc
 ·exact fun hc=>absurd rfl hc
 exact Fz (Nq p o)
theorem Nr {p:Pn}{o:aV}(ho:Fy o):(fB p o).2.code≠0→(fB p o).1=p:=by
 unfold fB;split
 ·exact fun _=>rfl
 rename_i hle;exact KJ ho (qB ho hle)
end Go.AX
end
