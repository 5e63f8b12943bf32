/-
  Conditions: none. A framework for walks: abstract values, memory, and conditions that suffice; the chapters in plain terms.
-/
import Derived.Test.YtfoiekbkkbnpkaaGreatAe
import Derived.Shelf.SlSortCmp.WholeK
import Derived.Test.YtfoiekbkkbnpkaaGreatAd
import Derived.ProofKit
import Derived.OpenShut
set_option linter.unusedSectionVars false
set_option linter.unusedVariables false
set_option linter.unusedSimpArgs false
section
namespace Go.AX
open Go.Sort Go.Shelf Go.Proofs
theorem Bv {N:Nat→Prop}{w:World}:∀{vals vs:List Value},(∀v∈vals,v.oneCell'=true)→(∀j,j<vals.length→vs[j]? = vals[j]?)→dM N w (vals.map .sc) vs
 |[],vs,_,_=>by simp only[List.map_nil,dM]
 | v::r,vs,h1,h=>by
   have h0:=h 0 (by simp);match vs,h0 with
   | v'::Ju,h0=>
     simp only[List.getElem?_cons_zero,Option.some.injEq] at h0;subst h0;refine⟨v',Ju,rfl,h1 v' (by simp),by simp only[aU],Bv (fun u hu=>h1 u (by simp[hu])) fun j hj=>?_⟩;have:=h (j+1) (by simpa using hj);simpa using this
theorem Bw {N:Nat→Prop}{w:World}:∀{vals vs:List Value},dM N w (vals.map .sc) vs→∀j,j<vals.length→vs[j]? = vals[j]?
 |[],vs,_,j,hj=>by simp at hj
 | v::r,vs,h,j,hj=>by
   obtain⟨v',Ju,rfl,_,hv,h⟩:=h;simp only[aU] at hv;subst hv;cases j with
   |zero=>rfl
   |succ j=>simpa using Bw h j (by simpa using hj)
section
variable {α:Type}[Inhabited α]{P:Program}{f g:Nat}{enc:α→List Value}{st:Nat}{e:TypeId}
theorem Qg (sorted:Array α→Array α)(h0:0<st)(hl:∀x,(enc x).length=st)(h1:∀x,∀v∈enc x,v.oneCell'=true)(hsz:∀d,(sorted d).size=d.size)
  (VE:∀(blk cap:Nat) (d:Array α) (w:World),HoldsK enc st w blk 0 d→blk<w.heap.size→d.size<4611686018427387904 →
   Calls P f #[.slice (some ⟨blk,0,none⟩) d.size cap,.func (.func g) #[] #[]] w fun e w'=>e=.returned (.tuple #[])∧∃n os,w'=sortWorldK enc st w blk 0 n (sorted d) os)
  (hnil:dH P f [.sc (.slice none 0 0),.fn (.func g) [] []] (.fF [])) (l:List α) (hll:l.length<4611686018427387904) :
  gY P f [.aG 1 0,.pv (.fn (.func g) [] [])] [(1,.arr e 0 st (l.map fun x=>(enc x).map .sc))] (.pv (.fF [])) [(1,.arr e 0 st ((sorted l.toArray).toList.map fun x=>(enc x).map .sc))]:=by
 refine⟨hnil.1,fun c R w bG hh ha=>?_⟩;obtain⟨a,ha1,Yo⟩:∃a:Act,a.tmps.size=c.n∧a.defers=[]:=⟨{ tmps:=Array.replicate c.n undef,defers:=[] },by simp,rfl⟩;have gm:=hh.JA (tm:=[]) (nx:=0) (a:=a) (fun t v h=>by simp[lk] at h) ha1 (by rw[Yo];exact⟨[],Marks.nil⟩);have hbx:=hh.boxes 1 _ (show lk [(1,_)] 1=some _ from rfl);obtain⟨v1,r1,e1,hv1,v2,r2,rfl,hv2,rfl⟩:=ha;have Ti:bG = #[v1,v2]:=by rw[←Array.toList_inj,e1]
 subst Ti;simp only[ah,lk,Nat.beq,aD] at hv1;have hv1:=hv1.2.2 trivial;have Yp:v2=.func (.func g) #[] #[]:=by
  simp only[ah,aU,cZ] at hv2;obtain⟨fs,cs,rfl,h3,h4⟩:=hv2;rw[Array.toList_eq_nil_iff] at h3 h4;subst h3;subst h4;rfl
 subst Yp;cases hn:R.nil 1 with
 | true=>
   obtain⟨xs,⟨_,h3⟩,_⟩:=hbx;have hlz:l=[]:=by
    rcases h3 with ⟨_,h3⟩|⟨g',cap,cur,e1,_⟩
    ·simpa using h3
    simp[bA,hn] at e1
   subst hlz;have hsl:v1=.slice none 0 0:=by rw[hv1];simp[bA,hn]
   subst hsl;refine (hnil.2 (fun _=>False) w _ (fun r h=>h.elim) ?_).mono fun e' w' ⟨v,r,he,hr,hrep,hsame⟩=>?_
   ·exact⟨_,_,rfl,by simp only[aU],_,_,rfl,by simp only[aU];exact⟨#[],#[],rfl,by simp only[cZ],by simp only[cZ]⟩,by simp only[cZ]⟩
   subst hr;have hs0:(sorted (#[]:Array α)).toList=[]:=by
    have:=hsz #[];exact List.eq_nil_of_length_eq_zero (by simpa using this)
   refine⟨v,_,_,R,he,⟨rfl,rfl⟩,?_,?_⟩
   ·simp only[show ([]:List α).toArray = #[] from rfl,hs0];exact (gm.grow hsame).hap
   simp only[ah];simp only[aU] at hrep ⊢;obtain⟨vs,h5,h6⟩:=hrep;simp only[cZ] at h6 ⊢;exact⟨vs,h5,h6⟩
 | false=>
   obtain⟨cur,hg,hs,hle,hm,hr,_⟩:=d9 hbx hn;simp only[List.length_map] at hle hv1;have hsl:v1=.slice (some ⟨R.blk 1,0,none⟩) l.toArray.size ((R.cap 1).1):=by rw[hv1];simp[bA,hn]
   subst hsl;have hcell:∀i (hi:i<l.length) j,j<st→cur[i*st+j]? = (enc l[i])[j]? :=by
    intro i hi j hj;obtain⟨_,q⟩:=mR (i:=i) (row:=(enc l[i]).map .sc) hr (by simp[hi]);have:=Bw q j (by rw[hl];exact hj);rw[List.getElem?_drop,Array.getElem?_toList] at this;exact this
   have hK:HoldsK enc st w (R.blk 1) 0 l.toArray:=by
    intro j hj;rw[size_flatK] at hj;rw[get_flatK _ _ _ _ hj];have hi:j / st<l.length:=(Nat.div_lt_iff_lt_mul h0).2 hj;have hm:j%st<st:=Nat.mod_lt _ h0;have:=hcell _ hi _ hm;rw[show j / st*st+j%st=j from by rw[Nat.mul_comm];exact Nat.div_add_mod j st] at this;refine⟨?_,by simp[World.frozen?,hg]⟩;simp only[World.cell?,hg,Option.isSome_none,Bool.false_eq_true,if_false,Nat.zero_add,this,id];rw[getElem!_pos l.toArray _ (by simpa using hi),getElem!_pos _ _ (by simp only[List.getElem_toArray];rw[hl];exact hm)];simp only[List.getElem_toArray];rw[List.getElem?_eq_getElem (by rw[hl];exact hm)]
   have hblk:R.blk 1<w.heap.size:=size_of_getElem? hg;refine (VE (R.blk 1) ((R.cap 1).1) l.toArray w hK hblk (by simpa using hll)).mono fun e' w' ⟨he,n,os,hw⟩=>?_
   have xR:w'.heap=(w.heap.modify (R.blk 1) (onCells (putCells id 0 (Go.Sort.flatK enc st (sorted l.toArray)))))++os:=by subst hw;rfl
   have hbk:w'.heap[R.blk 1]? = some (.cells (putCells id 0 (Go.Sort.flatK enc st (sorted l.toArray)) cur) e (0,0)):=by
    rw[xR,Array.getElem?_append_left (by simpa using hblk),Array.getElem?_modify,if_pos rfl,hg];rfl
   have Tj:∀r,r<w.heap.size→r≠R.blk 1→w'.heap[r]? = w.heap[r]? :=by
    intro r hr hne;rw[xR,Array.getElem?_append_left (by simpa using hr),Array.getElem?_modify,if_neg (fun h=>hne h.symm)]
   have hworld:iZ (fun r=>ax R 1 r (lk [(1,av.arr e 0 st (l.map fun x=>(enc x).map .sc))] 1)) w w':=by
    refine⟨by rw[xR];simp,fun r hr hno=>Tj r hr fun h=>hno ?_,by subst hw;rfl,by subst hw;rfl,by subst hw;rfl⟩;subst h;exact⟨hn,rfl⟩
   have hlen:(sorted l.toArray).size=l.length:=by rw[hsz];simp
   have hR:∀b',b'≠1→R.blk b'=R.blk b'∧R.nil b'=R.nil b'∧R.cap b'=R.cap b':=fun _ _=>⟨rfl,rfl,rfl⟩
   have Yq:((sorted l.toArray).toList.map fun x=>(enc x).map PV.sc).length=(l.map fun x=>(enc x).map PV.sc).length:=by simp[hlen]
   have r1:∀off v,aI R 1 off v (lk [(1,av.arr e 0 st (l.map fun x=>(enc x).map .sc))] 1)→aI R 1 off v (some (.arr e 0 st ((sorted l.toArray).toList.map fun x=>(enc x).map .sc))):=fun off v h=>h
   have r2:∀ver v,aD R 1 ver v (lk [(1,av.arr e 0 st (l.map fun x=>(enc x).map .sc))] 1)→aD R 1 ver v (some (.arr e 0 st ((sorted l.toArray).toList.map fun x=>(enc x).map .sc))):=fun ver v h=>by
    simp only[lk,Nat.beq,aD,Yq] at h ⊢;exact h
   have r3:∀ver i off v,aK R 1 ver i off v (lk [(1,av.arr e 0 st (l.map fun x=>(enc x).map .sc))] 1)→aK R 1 ver i off v (some (.arr e 0 st ((sorted l.toArray).toList.map fun x=>(enc x).map .sc))):=fun ver i off v h=>h
   have hown:∀r,ax R 1 r (some (.arr e 0 st ((sorted l.toArray).toList.map fun x=>(enc x).map .sc)))→ax R 1 r (lk [(1,av.arr e 0 st (l.map fun x=>(enc x).map .sc))] 1)∨w.heap.size≤r:=fun r h=>.inl h
   have gm':=gm.upd (nx':=0) hR r1 r2 r3 hown hworld (by
    refine⟨(putCells id 0 (Go.Sort.flatK enc st (sorted l.toArray)) cur).toList.take ((sorted l.toArray).size*st),⟨?_,.inr ⟨R.blk 1,(R.cap 1).1,_,by simp[bA,hn],Nat.zero_le _,hbk,by simp only[List.length_map,Array.length_toList,hlen];exact hle,hm,?_,by simp⟩⟩,CY fun i hi=>?_⟩
    ·simp only[List.length_take,Array.length_toList,putCells,Array.size_mapIdx,List.length_map];have:(sorted l.toArray).size*st≤(R.cap 1).1*st:=Nat.mul_le_mul_right _ (by omega);omega
    ·simp only[putCells,Array.size_mapIdx];exact hs
    simp only[List.length_map,Array.length_toList] at hi;simp only[List.getElem_map,Array.getElem_toList,List.length_map];refine⟨hl _,Bv (h1 _) fun j hj=>?_⟩;rw[hl] at hj;have hij:i*st+j<(sorted l.toArray).size*st:=by
     have:(i+1)*st≤(sorted l.toArray).size*st:=Nat.mul_le_mul_right _ hi;rw[Nat.add_mul] at this;omega
    have hcs:i*st+j<cur.size:=by
     have:(sorted l.toArray).size*st≤(R.cap 1).1*st:=Nat.mul_le_mul_right _ (by omega);omega
    rw[List.getElem?_drop,List.getElem?_take,if_pos hij,Array.getElem?_toList];simp only[putCells,Array.getElem?_mapIdx,size_flatK,Nat.zero_le,Nat.zero_add,true_and,hij,if_true,Nat.sub_zero,id];rw[Array.getElem?_eq_getElem hcs];simp only[Option.map_some];rw[get_flatK _ _ _ _ hij];have e3:(i*st+j) / st=i:=by rw[Nat.mul_comm,Nat.mul_add_div h0,Nat.div_eq_of_lt hj,Nat.add_zero]
    have e4:(i*st+j)%st=j:=by rw[Nat.mul_comm,Nat.mul_add_mod,Nat.mod_eq_of_lt hj]
    rw[e3,e4,getElem!_pos (sorted l.toArray) _ hi,getElem!_pos (enc (sorted l.toArray)[i]) _ (by rw[hl];exact hj),List.getElem?_eq_getElem (by rw[hl];exact hj)])
   have H:Ns [(1,.old 1 0)] ((1,av.arr e 0 st ((sorted l.toArray).toList.map fun x=>(enc x).map .sc))::[(1,av.arr e 0 st (l.map fun x=>(enc x).map .sc))]) [(1,av.arr e 0 st ((sorted l.toArray).toList.map fun x=>(enc x).map .sc))]:=by
    refine CW (X:=True) rfl ?_;repeat' first|exact True.intro|exact rfl|exact id|exact bH _|((conv=>whnf);with_reducible apply And.intro)|((conv=>whnf);exact True.intro)
   refine⟨_,_,[(1,.arr e 0 st ((sorted l.toArray).toList.map fun x=>(enc x).map .sc))],_,he,⟨rfl,rfl⟩,gm'.hap.weaken H,?_⟩;simp only[ah,aU,cZ];exact⟨#[],rfl,rfl⟩
end
def dO (n l m:Int):Bool:=decide (l≤n)&&decide (n≤m)
def qO (x:Pl):Bool:=dO x.node 1 15&&dO x.aM 1 4611686018427387903
def BI (w:Int)(f:Fr):Bool:=dO f.first 1 9&&(dO f.ak.length w 5&&(f.ak.all qO&&decide (f.ak.map (·.node)).Nodup))
def pQ (l:List Fr):Bool:=
 match l with
 |[]=>false
 |f::_=>f.first==1
def iO (w:Int)(l:List Fr):Bool:=dO l.length 1 6&&(pQ l&&(l.all (BI w)&&decide (l.Pairwise fun a b=>a.first<b.first)))
def jO (l:Lg):Bool:=dO l.id 1 4611686018427387903&&(dO l.a 1 l.w&&(decide (l.w≤5)&&(iO l.w l.au&&(dO l.closed 0 1&&decide (l.last≤8*l.closed)))))
theorem nV {α:Type}{key:α→Int}{l:List α}(h:∀j (hj:j+1<l.length),key (l[j]'(by omega))<key l[j+1]):l.Pairwise fun a b=>key a<key b:=by
 rw[List.pairwise_iff_getElem];intro i j hi hj hij;induction j with
 |zero=>omega
 | succ j ih=>
   by_cases e:i=j
   ·subst e;exact h i hj
   exact Int.lt_trans (ih (by omega) (by omega)) (h j hj)
def vY (x y:Pl):Int:=Go.Lib.compareInt x.node y.node
def tO (d:Array Pl):Array Pl:=Go.Sort.pdq (Go.Proofs.ltOf vY) d 0 d.size (Go.Lib.bitLen d.size) true true
def sortPl (l:List Pl):List Pl:=(tO l.toArray).toList
theorem Qm (x y:Pl):Go.Proofs.ltOf vY x y=decide (x.node<y.node):=by
 unfold Go.Proofs.ltOf vY Go.Lib.compareInt;by_cases h1:x.node<y.node
 ·simp[h1]
 by_cases h2:y.node<x.node<;>simp[h1,h2]
theorem RO:Go.Sort.SWO (Go.Proofs.ltOf vY) where
 irrefl x:=by rw[Qm];simp
 trans x y z h1 h2:=by rw[Qm] at *;simp at *;omega
 ntrans x y z h1 h2:=by rw[Qm] at *;simp at *;omega
theorem pR (d:Array Pl):Go.Sort.PermIn 0 d.size d (tO d)∧Go.Sort.SortedIn (Go.Proofs.ltOf vY) 0 d.size (tO d):=
 Go.Sort.pdq_sorts (Go.Proofs.ltOf vY) RO d 0 d.size (Go.Lib.bitLen d.size) true true (Nat.zero_le _) (Nat.le_refl _) (Or.inl rfl)
theorem yY (d:Array Pl):(tO d).size=d.size:=(pR d).1.1
theorem Ff (l:List Pl):(sortPl l).Perm l:=by
 have h:=(pR l.toArray).1;have h1:=h.1;have h2:=h.2.2;rw[show (tO l.toArray).extract 0 l.toArray.size=tO l.toArray from by rw[←h1];simp,show l.toArray.extract 0 l.toArray.size=l.toArray from by simp] at h2;exact h2
theorem Ap (l:List Pl):(sortPl l).Pairwise fun a b=>a.node≤b.node:=by
 have h:=(pR l.toArray).2;have h1:=yY l.toArray;rw[List.pairwise_iff_getElem];intro i j hi hj hij;simp only[sortPl,Array.length_toList] at hi hj;have:=h i j (Nat.zero_le _) hij (by omega);rw[Qm,getElem!_pos (tO l.toArray) j hj,getElem!_pos (tO l.toArray) i hi] at this;simp only[sortPl,Array.getElem_toList];simp at this;exact this
theorem Fg (l:List Pl):decide ((sortPl l).Pairwise fun a b=>a.node<b.node)=decide (l.map (·.node)).Nodup:=by
 rw[decide_eq_decide];have hp:=(Ff l).map (·.node);rw[←hp.nodup_iff];unfold List.Nodup;rw[List.pairwise_map];constructor
 ·intro h;exact h.imp fun {a b} h=>by omega
 intro h;exact ((Ap l).and h).imp fun {a b} h=>by omega
def Lg.ok (l:Lg):Prop:=∀x∈l.au,x.ak.length≤8796093022208
section
variable {α:Type}
def Fr.ok (f:Fr):Prop:=0≤f.first∧f.first≤18446744073709551615∧f.ak.length≤8796093022208
def fB (l:List Fr):Prop:=∀x∈l,x.ok
def kX (p:α→Bool)(l:List α):Option α:=l.foldl (fun o x=>if p x then some x else o) none
theorem Iu {β:Type}(f:β→α→β)(a:β)(l:List α)(k:Nat)(h:k<l.length):(l.take (k+1)).foldl f a=f ((l.take k).foldl f a) l[k]:=by
 rw[List.take_succ_eq_append_getElem h,List.foldl_append];rfl
theorem qo (p:α→Bool):∀(l:List α) (x:α),kX p l=some x→x∈l∧p x=true:=by
 have:∀(l:List α) (o:Option α) (x:α),l.foldl (fun o x=>if p x then some x else o) o=some x→(x∈l∧p x=true)∨o=some x:=by
  intro l;induction l with
  |nil=>intro o x h;exact .inr h
  | cons y l ih=>
    intro o x h;rcases ih _ x h with ⟨h1,h2⟩|h1
    ·exact .inl ⟨by simp[h1],h2⟩
    simp only at h1;split at h1
    ·simp only[Option.some.injEq] at h1;subst h1;rename_i hp;exact .inl ⟨by simp,hp⟩
    exact .inr h1
 intro l x h;rcases this l none x h with h|h
 ·exact h
 cases h
def kY (l:List Fr)(n:Int):Option Fr:=kX (fun f=>decide (f.first≤n)) l
def Tx:Fr:=⟨0,[]⟩
def fD (l:List Pl)(k w:Nat):List Pl:=(List.range w).map fun i=>l[(k+i)%l.length]!
def setOf (l:List Fr)(w n:Int):List Pl:=
 match kY l n with
 |none=>[]
 |some f=>if 1≤w∧w≤f.ak.length then fD f.ak ((n-f.first)%f.ak.length).toNat w.toNat else []
theorem qp {l:List Fr}(h:fB l){n:Int}{f:Fr}(hf:kY l n=some f):f.ok∧f.first≤n:=by
 obtain⟨h1,h2⟩:=qo _ _ _ hf;exact⟨h f h1,by simpa using h2⟩
theorem Iw {l:List Fr}(h:fB l)(n:Int):((kY l n).getD Tx).ak.length≤8796093022208:=by
 cases hf:kY l n with
 |none=>simp[Tx]
 |some f=>exact (qp h hf).1.2.2
def RP (f:Ft):Rq:={ to:=f.set[f.at_.toNat]!,kind:=3,bO:=f.bO,n:=f.n,dz:=f.tag,sure:=0,copy:=0,body:=[],keep:=[] }
structure Hd (p:Prop):Prop where
 out:p
def jW (p:α→Bool):List α→Int
 |[]=>-1
 | x::r=>match jW p r with
   |.ofNat n=>n+1
   |.negSucc _=>if p x then 0 else -1
theorem pU (p:α→Bool):∀{l:List α},(∀x∈l,p x=false)→jW p l = -1
 |[],_=>rfl
 | x::r,h=>by
   have e:=pU p (l:=r) fun y hy=>h y (by simp[hy])
   simp only[jW,e,h x (by simp)];rfl
theorem BJ (p:α→Bool):∀{l:List α} {k:Nat} (hk:k<l.length),(∀j (hj:j<l.length),k<j→p l[j]=false)→p l[k]=true→jW p l=k
 |[],k,hk,_,_=>by simp at hk
 | x::r,0,_,h,h'=>by
   have e:=pU p (l:=r) fun y hy=>by
    obtain⟨j,hj,rfl⟩:=List.getElem_of_mem hy;have:=h (j+1) (by simpa using hj) (by omega);simpa using this
   simp only[List.getElem_cons_zero] at h';simp only[jW,e,h'];rfl
 | x::r,k+1,hk,h,h'=>by
   simp only[List.getElem_cons_succ] at h';have e:=BJ p (l:=r) (k:=k) (by simpa using hk) (fun j hj hlt=>by
    have:=h (j+1) (by simpa using hj) (by omega);simpa using this) h'
   simp only[jW,e];show ((k:Int)+1=_)
   omega
theorem yZ (p:α→Bool)(x:α)(r:List α):kX p (x::r)=(kX p r).or (if p x then some x else none):=by
 have:∀(l:List α) (o:Option α),l.foldl (fun o x=>if p x then some x else o) o=(l.foldl (fun o x=>if p x then some x else o) none).or o:=by
  intro l;induction l with
  |nil=>intro o;simp
  | cons y l ih=>
    intro o;simp only[List.foldl_cons];rw[ih,ih (if p y then some y else none)];split<;>simp
 simp only[kX,List.foldl_cons];rw[this]
theorem tQ (p:α→Bool):∀(l:List α),(jW p l = -1∧kX p l=none)∨∃k,∃hk:k<l.length,jW p l=(k:Nat)∧kX p l=some l[k]
 |[]=>.inl ⟨rfl,rfl⟩
 | x::r=>by
   rw[yZ];rcases tQ p r with ⟨h1,h2⟩|⟨k,hk,h1,h2⟩
   ·cases hx:p x with
    | true=>
      refine .inr ⟨0,by simp,?_,by simp[h2]⟩;simp only[jW,h1,hx];rfl
    | false=>
      refine .inl ⟨?_,by simp[h2]⟩;simp only[jW,h1,hx];rfl
   refine .inr ⟨k+1,by simpa using hk,?_,by simp[h2]⟩;simp only[jW,h1];show ((k:Int)+1=_)
   omega
def rM (w:Int)(l:List Fr)(j:Nat)(hj:j<l.length):Prop:=
 l[j].first≤9∧(∀h:0<j,(l[j-1]'(by omega)).first<l[j].first)∧w≤l[j].ak.length∧l[j].ak.length≤5∧l[j].ak.all qO=true∧(l[j].ak.map (·.node)).Nodup
theorem rO (l:List Fr):pQ l=true↔∃h:0<l.length,l[0].first=1:=by
 cases l with
 |nil=>simp[pQ]
 |cons f r=>simp[pQ]
theorem iP (w:Int)(l:List Fr):iO w l=true↔1≤l.length∧l.length≤6∧pQ l=true∧∀j (hj:j<l.length),rM w l j hj:=by
 simp only[iO,Bool.and_eq_true,dO,decide_eq_true_eq,List.all_eq_true];constructor
 ·rintro⟨⟨h1,h2⟩,h3,h4,h5⟩
  refine⟨by omega,by omega,h3,fun j hj=>?_⟩;have:=h4 l[j] (List.getElem_mem hj);simp only[BI,Bool.and_eq_true,dO,decide_eq_true_eq,List.all_eq_true] at this;obtain⟨⟨a1,a2⟩,⟨a3,a4⟩,a5,a6⟩:=this;refine⟨a2,fun h=>?_,a3,by omega,List.all_eq_true.2 a5,a6⟩;exact List.pairwise_iff_getElem.1 h5 (j-1) j (by omega) hj (by omega)
 rintro⟨h1,h2,h3,h4⟩
 refine⟨⟨by omega,by omega⟩,h3,fun x hx=>?_,?_⟩
 ·obtain⟨j,hj,rfl⟩:=List.getElem_of_mem hx;obtain⟨a2,a1,a3,a4,a5,a6⟩:=h4 j hj;simp only[BI,Bool.and_eq_true,dO,decide_eq_true_eq];refine⟨⟨?_,a2⟩,⟨a3,by omega⟩,a5,a6⟩;obtain⟨h0,e0⟩:=(rO l).1 h3;have:∀j (hj:j<l.length),1≤l[j].first:=by
   intro j;induction j with
   |zero=>intro hj;omega
   | succ j ih=>
     intro hj;have:=ih (by omega);have:=(h4 (j+1) hj).2.1 (by omega);simp only[Nat.add_sub_cancel] at this;omega
  exact this j hj
 exact nV (key:=fun f:Fr=>f.first) fun j hj=>by
  have:=(h4 (j+1) hj).2.1 (by omega);simp only[Nat.add_sub_cancel] at this;exact this
theorem Iy {w:Int}{l:List Fr}{j:Nat}(hj:j<l.length)(h:¬rM w l j hj):iO w l=false:=by
 cases e:iO w l with
 |false=>rfl
 |true=>exact absurd (((iP w l).1 e).2.2.2 j hj) h
theorem Iz {l:List Pl}{k:Nat}(hk:k<l.length)(h:((l.take k).map (·.node)).Nodup)(h':∀i (hi:i<l.length),i<k→l[i].node≠l[k].node):((l.take (k+1)).map (·.node)).Nodup:=by
 rw[List.take_succ_eq_append_getElem hk,List.map_append];rw[List.nodup_append];refine⟨h,by simp,?_⟩;intro a ha b hb;simp only[List.map_cons,List.map_nil,List.mem_singleton] at hb;subst hb;obtain⟨x,hx,rfl⟩:=List.mem_map.1 ha;obtain⟨i,hi,rfl⟩:=List.getElem_of_mem hx;rw[List.length_take] at hi;rw[List.getElem_take];exact h' i (by omega) (by omega)
theorem y5 {w n:Int}{l:List Fr}(h:iO w l=true)(hn:1≤n):∃f,kY l n=some f∧f∈l:=by
 obtain⟨h1,h2,h3,h4⟩:=(iP w l).1 h;obtain⟨h0,e0⟩:=(rO l).1 h3;cases hf:kY l n with
 |some f=>exact⟨f,rfl,(qo _ _ _ hf).1⟩
 | none=>
   exfalso;have:∀(l:List Fr),kX (fun f:Fr=>decide (f.first≤n)) l=none→∀x∈l,¬x.first≤n:=by
    intro l;induction l with
    |nil=>intro _ x hx;simp at hx
    | cons y l ih=>
      intro hn x hx;rw[yZ] at hn;simp only[Option.or_eq_none_iff] at hn;rcases List.mem_cons.1 hx with rfl|hx
      ·intro hle;have:=hn.2;simp[hle] at this
      exact ih hn.1 x hx
   exact this l hf l[0] (List.getElem_mem h0) (by omega)
theorem Li {l:Lg}(h:jO l=true){n:Int}(hn:1≤n):(setOf l.au l.w n).length=l.w.toNat∧1≤l.w∧l.w≤5:=by
 simp only[jO,Bool.and_eq_true,dO,decide_eq_true_eq] at h;obtain⟨⟨a1,a2⟩,⟨a3,a4⟩,a5,a6,⟨a7,a8⟩,a9⟩:=h;obtain⟨f,hf,hm⟩:=y5 a6 hn;obtain⟨j,hj,rfl⟩:=List.getElem_of_mem hm;have g:=((iP _ _).1 a6).2.2.2 j hj;refine⟨?_,by omega,a5⟩;simp only[setOf,hf];rw[if_pos ⟨by omega,g.2.2.1⟩];simp[fD]
theorem mod_succ (a n:Nat)(h:0<n):(a+1)%n=if a%n+1=n then 0 else a%n+1:=by
 have h1:=Nat.div_add_mod a n;have h2:=Nat.mod_lt a h;split
 ·rename_i e;have:a+1=n*(a / n+1):=by rw[Nat.mul_add];omega
  rw[this,Nat.mul_mod_right]
 have:a+1=n*(a / n)+(a%n+1):=by omega
 rw[this,Nat.mul_add_mod,Nat.mod_eq_of_lt (by omega)]
end
structure Cl where
 what:Int
 own:Int
 now:Int
 r:Rs
 l:Lg
deriving DecidableEq,Inhabited
def Cl.c (x:Cl):List PV:=[ii x.what,ii x.own,uu x.now,ii x.r.from_.node,uu x.r.from_.aM,ii x.r.kind,ii x.r.code,uu x.r.bO,uu x.r.n,uu x.r.dz,uu x.r.sure,xC x.r.body,
 uu x.l.id,ii x.l.w,ii x.l.a,gH x.l.au,ii x.l.closed,uu x.l.last]
def gL (n:Int):Prop:=0≤n∧n≤18446744073709551615
def y7 (n:Int):Prop:=-9223372036854775808≤n∧n≤9223372036854775807
def lgR (l:Lg):Prop:=gL l.id∧y7 l.w∧y7 l.a∧y7 l.closed∧gL l.last∧∀f∈l.au,gL f.first
structure NT (n:Int)(f:Ft):Prop where
 n:f.n=n
 pos:0<f.set.length
 len:f.set.length≤5
 at0:0≤f.at_
 at1:f.at_<f.set.length
 body:f.body.length≤5000
 since:gL f.since
 done:f.done=0∨f.done=1
theorem NT.sm {n:Int}{f:Ft}(h:NT n f):f.set.length≤8796093022208∧f.body.length≤140737488355328:=⟨by have:=h.len;omega,by have:=h.body;omega⟩
structure Mk where
 producer:Int
 seq:Int
 offset:Int
deriving DecidableEq,Inhabited
def Mk.c (x:Mk):List PV:=[ii x.producer,uu x.seq,uu x.offset]
def slM (l:List Mk):PV:=.sl false 3 (l.map Mk.c)
structure Cu where
 sub:Int
 at_:Int
deriving DecidableEq,Inhabited
def Cu.c (x:Cu):List PV:=[ii x.sub,uu x.at_]
def slK (l:List Cu):PV:=.sl false 2 (l.map Cu.c)
structure Ch where
 dz:Int
 owner:Int
 inc:Int
 Dg:Int
 first:Int
 trim:Int
 eY:List Int
 seen:List Mk
 tT:List Cu
deriving DecidableEq,Inhabited
def Ch.c (x:Ch):List PV:=[uu x.dz,ii x.owner,uu x.inc,uu x.Dg,uu x.first,uu x.trim,xD x.eY,slM x.seen,slK x.tT]
def slH (l:List Ch):PV:=.sl false 9 (l.map Ch.c)
def YB (l:List Lg):PV:=.sl false 6 (l.map Lg.c)
structure Oc where
 code:Int
 dz:Int
 at_:Int
 bO:Int
 owner:Int
deriving DecidableEq,Inhabited
def Oc.c (x:Oc):List PV:=[ii x.code,uu x.dz,uu x.at_,uu x.bO,ii x.owner]
structure Pa where
 who:Int
 inc:Int
 n:Int
 out:Oc
deriving DecidableEq,Inhabited
def Pa.c (x:Pa):List PV:=[ii x.who,uu x.inc,uu x.n,ii x.out.code,uu x.out.dz,uu x.out.at_,uu x.out.bO,ii x.out.owner]
def slA (l:List Pa):PV:=.sl false 8 (l.map Pa.c)
structure Pn where
 version:Int
 next:Int
 channels:List Ch
 eY:List Lg
 past:List Pa
deriving DecidableEq,Inhabited
def Pn.c (x:Pn):List PV:=[uu x.version,uu x.next,slH x.channels,YB x.eY,slA x.past]
def cnt (n:Int):Bool:=!decide (n>4611686018427387903)
def lg0:Lg:=⟨0,0,0,[],0,0⟩
def Oa (p:Pn)(id:Int):Option Lg:=p.eY.find? fun l=>l.id==id
def VW (p:Pn):List Int:=p.eY.map (·.id)
def TA (p:Pn):List Int:=p.channels.flatMap (·.eY)
def TB (a b:Int):Int:=IntKind.u64.wrap (a+b)
def TD (p:Pn)(c:Ch):Int:=c.eY.foldl (fun e id=>TB e ((Oa p id).getD lg0).last) c.first
def VX (p:Pn)(c:Ch):Option Lg:=
 match c.eY.getLast? with
 |none=>none
 | some id=>match Oa p id with
   |none=>none
   |some l=>if l.closed==0 then some l else none
def chP (p:Pn)(n:Int):Ch:=p.channels[(n-1).toNat]!
def TF (c:Ch):Bool:=
 if c.dz==0 then (c.owner==0&&(c.inc==0&&decide ((c.eY.length:Int)=0))) else dO c.owner 1 15&&dO c.inc 1 4611686018427387903
def Fq (l:List Int):Bool:=decide (l.Pairwise (· < ·))
def VY (l:List Int):List Int:=l.mergeSort fun x y=>decide (x≤y)
def TG (c:Ch)(x:Mk):Bool:=dO x.producer 1 15&&(dO x.seq 1 4611686018427387903&&decide (x.offset<c.first))
def VZ (c:Ch):Bool:=decide ((c.seen.length:Int)≤6)&&(Fq (c.seen.map (·.producer))&&(decide (c.seen.map (·.offset)).Nodup&&c.seen.all (TG c)))
def TH (x:Cu):Bool:=dO x.sub 1 3&&cnt x.at_
def Ob (p:Pn):List Int→Bool
 |[]=>true
 | id::r=>(match Oa p id with
   |none=>false
   |some l=>!(l.closed==0 && !r.isEmpty))&&Ob p r
def V3 (p:Pn)(c:Ch):Int:=if (VX p c).isSome then TB (TD p c) 8 else TD p c
def TJ (p:Pn)(c:Ch):Bool:=
 (cnt c.dz&&(cnt c.Dg&&cnt c.first))&&(TF c&&(decide ((c.eY.length:Int)≤8)&&(Fq c.eY&&(dO c.trim c.first (V3 p c)&&(cnt (TB (TD p c) 8) &&
 (Ob p c.eY&&(VZ c&&(decide ((c.tT.length:Int)≤3)&&(Fq (c.tT.map (·.sub))&&c.tT.all TH)))))))))
def TK (x:Pa):Bool:=dO x.who 1 15&&(dO x.inc 1 4611686018427387903&&(dO x.n 1 4611686018427387903&&(dO x.out.code 0 9&&(dO x.out.owner 0 15&&(cnt x.out.dz&&(cnt x.out.at_&&cnt x.out.bO))))))
def V4 (p:Pn):Bool:=
 cnt p.version&&(dO p.next 1 4611686018427387904&&(dO p.channels.length 1 3&&(p.eY.all (fun l=>jO l&&decide (l.id<p.next))&&(Fq (VW p)&&(decide (VY (TA p)=VW p) &&
 (p.channels.all (TJ p)&&(Fq (p.past.map (·.who))&&p.past.all TK)))))))
structure Sp where
 offset:Int
 bO:Int
 n:Int
deriving DecidableEq,Inhabited
def Sp.c (x:Sp):List PV:=[uu x.offset,uu x.bO,uu x.n]
def YC (p:Pn)(n:Int):Bool:=decide (n≥1)&&(decide (n≤(p.channels.length:Int))&&V4 p)
def YD (p:Pn):Prop:=∀l∈p.eY,gL l.last
section
variable {p:Pn}{n sure:Int}(hh:YC p n=true)(hr:YD p)(h0:0≤(chP p n).first)(hs:0≤sure)
include hh hr
include h0 hs
end
structure LgB (l:Lg):Prop where
 au:l.au.length≤1000000
 ak:∀f∈l.au,f.ak.length≤1000000
theorem LgB.ok {l:Lg}(h:LgB l):l.ok:=fun x hx=>by have:=h.ak x hx;omega
end Go.AX
end
section
namespace Go.AX
end Go.AX
end
section
namespace Go.AX
structure Yz (n:Int)(S:List Pl)(a0:Nat)(has:Pl)(f:Ft)(now:Int)(J:Nat)(pend:Bool):Prop where
 good:NT n f
 done:f.done=0
 set:f.set=S
 at_:f.at_=(((a0+J)%S.length:Nat):Int)
 since:f.since≤now
 seen:∀i,1≤i→i≤J→(i<J∨pend=false)→S[(a0+i)%S.length]! ≠ has
theorem Yz.passed {n:Int}{S:List Pl}{a0:Nat}{has:Pl}{f:Ft}{now:Int}{J:Nat}(u:Yz n S a0 has f now J true)(hne:(RP f).to≠has):Yz n S a0 has f now J false:=by
 refine⟨u.good,u.done,u.set,u.at_,u.since,fun i h1 h2 h3=>?_⟩;by_cases c:i<J
 ·exact u.seen i h1 h2 (.inl c)
 have e:i=J:=by omega
 subst e;intro hx;apply hne;simp only[RP,u.set,u.at_,Int.toNat_natCast];exact hx
structure Cp where
 l:Lg
 from_:Pl
 to:Pl
 phase:Int
 n:Int
 none:List Pl
 body:List UInt8
 born:Int
 since:Int
deriving DecidableEq
def Cp.c (x:Cp):List PV:=[uu x.l.id,ii x.l.w,ii x.l.a,gH x.l.au,ii x.l.closed,uu x.l.last,ii x.from_.node,uu x.from_.aM,ii x.to.node,uu x.to.aM,ii x.phase,uu x.n,iX x.none,xC x.body,uu x.born,uu x.since]
def Cp.v (x:Cp)(no:AV):List AV:=[.pv (uu x.l.id),.pv (ii x.l.w),.pv (ii x.l.a),.pv (gH x.l.au),.pv (ii x.l.closed),.pv (uu x.l.last),.pv (ii x.from_.node),.pv (uu x.from_.aM),.pv (ii x.to.node),.pv (uu x.to.aM),.pv (ii x.phase),.pv (uu x.n),no,.pv (xC x.body),.pv (uu x.born),.pv (uu x.since)]
def Fj (p:Pl)(known:List Pl):Bool:=known.any fun q=>q.node==p.node&&q.aM != p.aM
def jP (l:List Pl)(from_ to:Pl):Bool:=l.any fun p=>p.node==to.node&&p != from_
def oH (l:Lg)(from_ to:Pl):Bool:=
 (l.au.all fun f=>!(f.ak.any (· == from_)) || !jP f.ak from_ to)&&(l.au.any fun f=>f.ak.any (· == from_))&&from_ != to
def gJ (l:Lg):Bool:=jO l&&l.closed==1
structure Cp.sm (c:Cp):Prop where
 h1:c.none.length≤8796093022208
 h2:c.body.length≤140737488355328
 h3:c.l.au.length≤4398046511104
 h4:c.l.ok
def Cp.z:List AV:=[.pv (uu 0),.pv (ii 0),.pv (ii 0),.pv bK,.pv (ii 0),.pv (uu 0),.pv (ii 0),.pv (uu 0),.pv (ii 0),.pv (uu 0),.pv (ii 0),.pv (uu 0),.pv bK,.pv bK,.pv (uu 0),.pv (uu 0)]
def cO (l:Lg)(from_:Pl)(behind:Int)(k:Nat):List Int:=
 ((List.range' k ((l.last-behind).toNat-k)).map fun (i:Nat)=>behind+1+(i:Int)).filter fun n=>(setOf l.au l.w n).any (· == from_)
theorem gW (l:Lg)(from_:Pl)(behind:Int)(k:Nat)(h:¬behind+1+(k:Int)≤l.last):cO l from_ behind k=[]:=by
 have:(l.last-behind).toNat-k=0:=by omega
 simp[cO,this]
theorem j5 (l:Lg)(from_:Pl)(behind:Int)(k:Nat)(h:behind+1+(k:Int)≤l.last):cO l from_ behind k =
  if (setOf l.au l.w (behind+1+(k:Int))).any (· == from_) then (behind+1+(k:Int))::cO l from_ behind (k+1) else cO l from_ behind (k+1):=by
 obtain⟨m,hm⟩:∃m,(l.last-behind).toNat-k=m+1:=⟨(l.last-behind).toNat-k-1,by omega⟩;have hm':(l.last-behind).toNat-(k+1)=m:=by omega
 simp only[cO,hm,hm',List.range'_succ,List.map_cons,List.filter_cons]
def dQ (l:Lg)(from_:Pl)(behind:Int):List Int:=
 if gJ l&&decide (behind<l.last) then cO l from_ behind 0 else []
def others (c:Cp):List Pl:=(setOf c.l.au c.l.w c.n).filter fun p=>!(p==c.from_)
def iC (c:Cp)(now:Int):Cp×List Rq:=
 if c.phase=2 then ({ c with since:=now },[⟨c.to,1,c.l.id,c.n,0,c.l.last,1,c.body,[]⟩])
 else
  let none':=if (others c).all fun p=>c.none.any (· == p) then [] else c.none
  ({ c with since:=now,none:=none' },((others c).filter fun p=>!none'.any (· == p)).map fun p=>⟨p,3,c.l.id,c.n,0,0,0,[],[]⟩)
def y8 (c:Cp)(now:Int):Cp×List Rq:=
 match dQ c.l c.from_ c.n with
 |n::_=>iC { c with none:=[],body:=[],phase:=1,n:=n,born:=now } now
 |[]=>({ c with none:=[],body:=[],phase:=3,n:=0 },[])
theorem JS {s s':AS}(ids:List Nat)(h:match D7 s.hp ids with|some fs=>Td (s.app fs) s'|none=>False)(c:Ctx)(R:Real)(a:Act)(w:World)(g:aR c R s a w):∃R',aR c R' s' a w:=by
 split at h
 ·rename_i fs hfs;obtain⟨g1,_⟩:=iR g (fun _ _ h=>h) _ _ hfs;exact aA h c R a w g1
 exact h.elim
theorem any_take_succ {α:Type}(p:α→Bool)(l:List α)(k:Nat)(h:k<l.length):(l.take (k+1)).any p=((l.take k).any p||p l[k]):=by
 rw[List.take_succ_eq_append_getElem h,List.any_append];simp
theorem Fp {l:Lg}{from_ to:Pl}(k:Nat)(h:k<l.au.length)(h1:(l.au[k].ak.any (· == from_))=true)(h2:jP l.au[k].ak from_ to=true):oH l from_ to=false:=by
 have:(l.au.all fun f=>!(f.ak.any (· == from_)) || !jP f.ak from_ to)=false:=by
  rw[List.all_eq_false];exact⟨l.au[k],List.getElem_mem h,by simp[h1,h2]⟩
 simp[oH,this]
theorem Lj {l:Lg}{from_ to:Pl}(h:∀j (hj:j<l.au.length),(l.au[j].ak.any (· == from_)&&jP l.au[j].ak from_ to)=false) :
  oH l from_ to=((l.au.any fun f=>f.ak.any (· == from_))&&from_ != to):=by
 have:(l.au.all fun f=>!(f.ak.any (· == from_)) || !jP f.ak from_ to)=true:=by
  rw[List.all_eq_true];intro f hf;obtain⟨j,hj,rfl⟩:=List.getElem_of_mem hf;have:=h j hj;simpa[←Bool.not_and] using this
 rw[oH,this,Bool.true_and]
end Go.AX
end
section
namespace Go.AX
end Go.AX
end
section
namespace Go.AX
theorem Sp.YE (a b:Sp)(h:(!(a.offset==b.offset&&(a.bO==b.bO&&a.n==b.n)))=false):a=b:=by
 cases a;cases b;simp at h;simp[h]
theorem Int.YE (a b:Int)(h:(a != b)=false):a=b:=by simpa using h
def wo (c:Ch):Bool:=decide ((c.eY.length:Int)>60)||(decide ((c.seen.length:Int)>60)||decide ((c.tT.length:Int)>60))
end Go.AX
end
section
namespace Go.AX
end Go.AX
end
section
namespace Go.AX
end Go.AX
end
section
namespace Go.AX
theorem vZ {l:Lg}{from_:Pl}{behind:Int}{k:Nat}{n:Int}(h:n∈cO l from_ behind k):behind<n∧n≤l.last∧(setOf l.au l.w n).any (· == from_)=true:=by
 unfold cO at h;rw[List.mem_filter,List.mem_map] at h;obtain⟨⟨i,hi,rfl⟩,h2⟩:=h;rw[List.mem_range'_1] at hi;exact⟨by omega,by omega,h2⟩
theorem pV {l:Lg}(hcl:gJ l=true):l.last≤8∧jO l=true:=by
 unfold gJ at hcl;simp only[Bool.and_eq_true,beq_iff_eq] at hcl;refine⟨?_,hcl.1⟩;have h8:=hcl.1;unfold jO at h8;simp only[Bool.and_eq_true,decide_eq_true_eq] at h8;have:=h8.2.2.2.2.2;omega
theorem jQ {l:Lg}{from_:Pl}{behind:Int}{n:Int}(h:n∈dQ l from_ behind):behind<n∧n≤l.last∧l.last≤8∧(setOf l.au l.w n).any (· == from_)=true:=by
 unfold dQ at h;split at h
 ·rename_i hc;simp only[Bool.and_eq_true] at hc;obtain⟨h1,h2,h3⟩:=vZ h;exact⟨h1,h2,(pV hc.1).1,h3⟩
 simp at h
def takeC (c:Cp)(now:Int)(r:Rs):Cp×List Rq:=
 if r.bO != c.l.id||(r.n != c.n||r.dz != 0) then (c,[])
 else if c.phase==1&&(r.kind==3&&(others c).any (· == r.from_)) then
  if r.code==0 then iC { c with phase:=2,body:=r.body } now
  else if r.code==3 then (if c.none.any (· == r.from_) then c else { c with none:=c.none++[r.from_] },[])
  else (c,[])
 else if c.phase==2&&(r.kind==1&&r.from_.node==c.to.node) then
  if r.code==0&&r.from_==c.to then y8 c now
  else if r.code==4||(r.code==2&&r.from_==c.to) then ({ c with phase:=4 },[])
  else (c,[])
 else (c,[])
def iD (now RQ:Int):Int:=if now<RQ then 0 else now-RQ
def dB (c:Cp)(now:Int):Cp×List Rq:=
 if c.phase != 1&&c.phase != 2 then (c,[])
 else if decide (iD now c.born≥9) then ({ c with phase:=4 },[])
 else if decide (iD now c.since≥3) then iC c now
 else (c,[])
def Me (l:Lg)(from_:Pl)(n:Int):List Pl:=(setOf l.au l.w n).filter fun p=>!(p==from_)
def rP (l:Lg)(n:Int)(p:Pl):Rq:=⟨p,3,l.id,n,0,0,0,[],[]⟩
def IA (l:Lg)(to:Pl)(n:Int)(b:List UInt8):Rq:=⟨to,1,l.id,n,0,l.last,1,b,[]⟩
theorem pW (l:List Pl):(l.filter fun p=>!([]:List Pl).any (· == p))=l:=by simp
theorem NV {c:Cp}{n:Int}{r:List Int}(h:dQ c.l c.from_ c.n=n::r)(now:Int) :
  y8 c now=(⟨c.l,c.from_,c.to,1,n,[],[],now,now⟩,(Me c.l c.from_ n).map (rP c.l n)):=by
 unfold y8;rw[h];simp only[iC];rw[if_neg (by omega)];simp only[ite_self,pW];rfl
theorem Qn {c:Cp}(h:dQ c.l c.from_ c.n=[])(now:Int):y8 c now=(⟨c.l,c.from_,c.to,3,0,[],[],c.born,c.since⟩,[]):=by
 unfold y8;rw[h]
theorem Df {l:Lg}{f:Pl}:∀(m k:Nat) {b n:Int} {r:List Int},(l.last-b).toNat-k=m→cO l f b k=n::r→b<n∧n≤l.last∧cO l f n 0=r:=by
 intro m;induction m with
 | zero=>
   intro k b n r hm h;rw[gW l f b k (by omega)] at h;cases h
 | succ m ih=>
   intro k b n r hm h;rw[j5 l f b k (by omega)] at h;split at h
   ·rename_i hp;simp only[List.cons.injEq] at h;obtain⟨rfl,rfl⟩:=h;refine⟨by omega,by omega,?_⟩;unfold cO;congr 1
    apply List.ext_getElem
    ·simp only[List.length_map,List.length_range'];omega
    intro i h1 h2;simp only[List.getElem_map,List.getElem_range'];omega
   exact ih (k+1) (by omega) h
theorem Ll {l:Lg}{f:Pl}{b n:Int}{r:List Int}(h:dQ l f b=n::r):dQ l f n=r:=by
 unfold dQ at h;split at h
 ·rename_i hc;simp only[Bool.and_eq_true,decide_eq_true_eq] at hc;obtain⟨h1,h2,h3⟩:=Df _ 0 rfl h;unfold dQ;split
  ·exact h3
  rename_i hn;simp only[Bool.and_eq_true,decide_eq_true_eq] at hn;have:¬n<l.last:=fun hlt=>hn ⟨hc.1,hlt⟩
  rw[gW l f n 0 (by omega)] at h3;exact h3
 cases h
def wm (n:Int):List UInt8:=[101,UInt8.ofNat (48+(n%10).toNat)]
def IB (l:Lg)(lost fresh:Pl)(has:List ByteArray)(r:Rq):Rs×List ByteArray:=
 if r.to==fresh&&r.kind==1 then (⟨r.to,r.kind,0,r.bO,r.n,r.dz,0,[]⟩,if decide (r.n<has.length) then has.set r.n.toNat ⟨r.body.toArray⟩ else has)
 else if r.to==lost||r.to==fresh then (⟨r.to,r.kind,4,r.bO,r.n,r.dz,0,[]⟩,has)
 else if r.kind==3&&(setOf l.au l.w r.n).any (· == r.to) then (⟨r.to,r.kind,0,r.bO,r.n,r.dz,0,wm r.n⟩,has)
 else (⟨r.to,r.kind,3,r.bO,r.n,r.dz,0,[]⟩,has)
theorem getElem!_mem' {l:List Pl}(h:0<l.length)(k:Nat):l[k%l.length]! ∈ l:=by
 rw[getElem!_pos l _ (Nat.mod_lt _ h)];exact List.getElem_mem _
theorem IC {l:Lg}{n:Int}{p:Pl}(h:p∈setOf l.au l.w n):∃f∈l.au,(∀q∈setOf l.au l.w n,q∈f.ak):=by
 unfold setOf at h ⊢;split at h
 ·simp at h
 rename_i f hf;refine⟨f,(qo _ _ _ hf).1,?_⟩;intro q hq;split at hq
 ·rename_i hw;simp only[fD,List.mem_map] at hq;obtain⟨i,_,rfl⟩:=hq;exact getElem!_mem' (by omega) _
 simp at hq
theorem Qo {l:Lg}{f t:Pl}(hF:oH l f t=true){n:Int}(hf:(setOf l.au l.w n).any (· == f)=true){p:Pl}(hp:p∈setOf l.au l.w n)(hne:p≠f):p≠t:=by
 rintro rfl
 obtain⟨g,hg,hall⟩:=IC hp;obtain⟨q,hq,e⟩:=List.any_eq_true.1 hf;obtain rfl:q=f:=by simpa using e
 have h1:g.ak.any (· == q)=true:=List.any_eq_true.2 ⟨q,hall q hq,by simp⟩;have h2:jP g.ak q p=true:=List.any_eq_true.2 ⟨p,hall p hp,by simp[hne]⟩;obtain⟨i,hi,rfl⟩:=List.getElem_of_mem hg;rw[Fp i hi h1 h2] at hF;cases hF
theorem Qp {l:Lg}(h:jO l=true)(hw:l.w≠1){n:Int}(hn:1≤n)(f:Pl):∃p r,Me l f n=p::r:=by
 obtain⟨hlen,hw1,hw5⟩:=Li h hn;have hw2:2≤l.w:=by omega
 cases ho:Me l f n with
 |cons p r=>exact⟨p,r,rfl⟩
 | nil=>
   exfalso;have hall:∀x∈setOf l.au l.w n,x=f:=by
    intro x hx;have:=List.filter_eq_nil_iff.1 ho x hx;simpa using this
   simp only[jO,Bool.and_eq_true,dO,decide_eq_true_eq] at h;obtain⟨_,_,_,a6,_⟩:=h;obtain⟨g,hg,hm⟩:=y5 a6 hn;obtain⟨j,hj,e⟩:=List.getElem_of_mem hm;have hgood:=((iP _ _).1 a6).2.2.2 j hj;simp only[setOf,hg] at hall;have hlw:l.w≤g.ak.length:=by
    simp only[rM] at hgood;rw[e] at hgood;exact hgood.2.2.1
   rw[if_pos ⟨by omega,hlw⟩] at hall;obtain⟨k,hk⟩:∃k,k=((n-g.first)%g.ak.length).toNat:=⟨_,rfl⟩;rw[←hk] at hall;have hpos:0<g.ak.length:=by omega
   have h0:=hall (g.ak[(k+0)%g.ak.length]!) (List.mem_map.2 ⟨0,by simp;omega,rfl⟩);have h1:=hall (g.ak[(k+1)%g.ak.length]!) (List.mem_map.2 ⟨1,by simp;omega,rfl⟩);rw[getElem!_pos g.ak _ (Nat.mod_lt _ hpos)] at h0 h1;have hnd:(g.ak.map (·.node)).Nodup:=by
    simp only[rM] at hgood;rw[e] at hgood;exact hgood.2.2.2.2.2
   have VR:=Nat.mod_lt (k+0) hpos;have hlt1:=Nat.mod_lt (k+1) hpos;have hne:(k+0)%g.ak.length≠(k+1)%g.ak.length:=by
    rw[Nat.add_zero,mod_succ k _ hpos];split<;>omega
   rcases Nat.lt_or_gt_of_ne hne with hlt|hlt
   ·have:=List.pairwise_iff_getElem.1 hnd _ _ (by simpa using VR) (by simpa using hlt1) hlt;simp only[List.getElem_map,h0,h1,ne_eq,not_true_eq_false] at this
   have:=List.pairwise_iff_getElem.1 hnd _ _ (by simpa using hlt1) (by simpa using VR) hlt;simp only[List.getElem_map,h0,h1,ne_eq,not_true_eq_false] at this
inductive kZ (l:Lg)(f t:Pl)(now:Int):Nat→Cp→List Rq→Prop
 |get (m:Int) (R:List Int) (hR:dQ l f m=R) (hm:m∈dQ l f 0):kZ l f t now (2*R.length+2) ⟨l,f,t,1,m,[],[],now,now⟩ ((Me l f m).map (rP l m))
 |add (m:Int) (R:List Int) (b:List UInt8) (hb:b.length=2) (hR:dQ l f m=R) (hm:m∈dQ l f 0):kZ l f t now (2*R.length+1) ⟨l,f,t,2,m,[],b,now,now⟩ [IA l t m b]
 |done (born since:Int):kZ l f t now 0 ⟨l,f,t,3,0,[],[],born,since⟩ []
theorem kZ.zero {l:Lg}{f t:Pl}{now:Int}{c:Cp}{q:List Rq}(h:kZ l f t now 0 c q):c.phase=3∧q=[]:=by
 generalize hk:0=k at h;cases h with
 |get=>omega
 |add=>omega
 |done=>exact⟨rfl,rfl⟩
theorem kZ.step {l:Lg}{f t:Pl}{now:Int}(hmay:jO l=true)(hF:oH l f t=true)(hw:l.w≠1){k:Nat}{c:Cp}{q:List Rq}(h:kZ l f t now (k+1) c q)(has:List ByteArray) :
  ∃q0 r,q=q0::r∧(c.phase=1∨c.phase=2)∧(IB l f t has q0).1.body.length≤2∧q0.body.length≤2∧(0≤q0.n∧q0.n≤8)∧kZ l f t now k (takeC c now (IB l f t has q0).1).1 (takeC c now (IB l f t has q0).1).2:=by
 have hft:f≠t:=by
  simp only[oH,Bool.and_eq_true,bne_iff_ne] at hF;exact hF.2
 generalize hk:k+1=k1 at h;cases h with
 | get m R hR hm=>
   have XP:=jQ hm;obtain⟨p,r,hp⟩:=Qp hmay hw (n:=m) (by omega) f;have hpm:p∈Me l f m:=by rw[hp];simp
   have NY:=hpm;simp only[Me,List.mem_filter,Bool.not_eq_true',beq_eq_false_iff_ne] at NY;have hpt:=Qo hF XP.2.2.2 NY.1 NY.2;have NZ:IB l f t has (rP l m p)=(⟨p,3,0,l.id,m,0,0,wm m⟩,has):=by
    unfold IB;rw[if_neg (by simp[rP]),if_neg (by simp[rP,NY.2,hpt]),if_pos]
    ·rfl
    simp only[Bool.and_eq_true];exact⟨by simp[rP],List.any_eq_true.2 ⟨p,NY.1,by simp[rP]⟩⟩
   refine⟨rP l m p,r.map (rP l m),by rw[hp];rfl,.inl rfl,by rw[NZ];simp[wm],by simp[rP],by simp only[rP];omega,?_⟩;rw[NZ];have Qq:(others ⟨l,f,t,1,m,[],[],now,now⟩).any (· == p)=true:=List.any_eq_true.2 ⟨p,hpm,by simp⟩;have N7:takeC ⟨l,f,t,1,m,[],[],now,now⟩ now ⟨p,3,0,l.id,m,0,0,wm m⟩=(⟨l,f,t,2,m,[],wm m,now,now⟩,[IA l t m (wm m)]):=by
    unfold takeC;rw[if_neg (by simp),if_pos (by simp only[Qq];simp),if_pos (by simp)];unfold iC;rw[if_pos rfl];rfl
   rw[N7];obtain rfl:k=2*R.length+1:=by omega
   exact kZ.add m R (wm m) (by simp[wm]) hR hm
 | add m R b hb hR hm=>
   have XP:=jQ hm;have NZ:(IB l f t has (IA l t m b)).1=⟨t,1,0,l.id,m,0,0,[]⟩:=by
    unfold IB;rw[if_pos (by simp[IA])];rfl
   refine⟨IA l t m b,[],rfl,.inr rfl,by rw[NZ];simp,by simp[IA];omega,by simp only[IA];omega,?_⟩;rw[NZ];have N7:takeC ⟨l,f,t,2,m,[],b,now,now⟩ now ⟨t,1,0,l.id,m,0,0,[]⟩=y8 ⟨l,f,t,2,m,[],b,now,now⟩ now:=by
    unfold takeC;rw[if_neg (by simp),if_neg (by simp),if_pos (by simp),if_pos (by simp)]
   rw[N7];obtain rfl:k=2*R.length:=by omega
   cases R with
   | nil=>
     rw[Qn (c:=⟨l,f,t,2,m,[],b,now,now⟩) hR];exact kZ.done now now
   | cons n r=>
     rw[NV (c:=⟨l,f,t,2,m,[],b,now,now⟩) hR];exact kZ.get n r (Ll hR) (by
      have h1:n∈dQ l f m:=by rw[hR];simp
      unfold dQ at h1 ⊢;split at h1
      ·rename_i hc;simp only[Bool.and_eq_true,decide_eq_true_eq] at hc;rw[if_pos (by simp only[Bool.and_eq_true,decide_eq_true_eq];exact⟨hc.1,by omega⟩)];obtain⟨g1,g2,g3⟩:=vZ h1;unfold cO;rw[List.mem_filter,List.mem_map];refine⟨⟨(n-0-1).toNat,?_,by omega⟩,g3⟩;rw[List.mem_range'_1];omega
      simp at h1)
 |done=>omega
structure Rv where
 l:Lg
 dz:Int
 phase:Int
 heard:List Pl
 sure:Int
 n:Int
 none:List Pl
 has:List Pl
 body:List UInt8
 au:List Fr
 bad:List Pl
 born:Int
 since:Int
def Rv.c (x:Rv):List PV:=[uu x.l.id,ii x.l.w,ii x.l.a,gH x.l.au,ii x.l.closed,uu x.l.last,uu x.dz,ii x.phase,iX x.heard,uu x.sure,uu x.n,iX x.none,iX x.has,xC x.body,gH x.au,iX x.bad,uu x.born,uu x.since]
def Rv.v (x:Rv)(heard none has au bad out:AV):List AV:=
 [.pv (uu x.l.id),.pv (ii x.l.w),.pv (ii x.l.a),.pv (gH x.l.au),.pv (ii x.l.closed),.pv (uu x.l.last),.pv (uu x.dz),.pv (ii x.phase),heard,.pv (uu x.sure),.pv (uu x.n),none,has,.pv (xC x.body),au,bad,.pv (uu x.born),.pv (uu x.since),out]
def VS (x:Rv):Fr:=x.l.au[x.l.au.length-1]!
def Oh (H:List (Nat×av))(b ver:Nat):AV:=
 match lk H b with
 | some (.bX v st rows)=>match Nat.beq ver v with
   |true=>.pv (.sl false st rows)
   |false=>.aG b ver
 |_=>.aG b ver
def Oi (H:List (Nat×av))(b ver st lo hi:Nat):AV:=
 match Oh H b ver with
 | .pv (.sl _ st' rows)=>match Nat.beq st st' with
   |true=>.pv (.sl false st (zT rows lo hi))
   |false=>.sub b ver st lo hi
 |_=>.sub b ver st lo hi
def Wd (H:List (Nat×av)):List AV→List AV
 |[]=>[]
 |.aG b ver::r=>Oh H b ver::Wd H r
 |.sub b ver st lo hi::r=>Oi H b ver st lo hi::Wd H r
 |x::r=>x::Wd H r
def RU (H:List (Nat×av)):AV→AV
 |.agg cs=>.agg (Wd H cs)
 |.aG b ver=>Oh H b ver
 |x=>x
section
variable {P:Program}{c:Ctx}{R:Real}{s:AS}{a:Act}{w:World}
theorem rR (g:aR c R s a w){b ver:Nat}{u:Value}(h:ah (aH c R s.hp) w s.hp R (.aG b ver) u):ah (aH c R s.hp) w s.hp R (Oh s.hp b ver) u:=by
 unfold Oh;split
 ·rename_i v st rows hb;split
  ·rename_i hv;simp only[ah] at h ⊢;exact kV (N':=aH c R s.hp) g (b:=b) (ver:=ver) (by rw[hb];simp[oJ,hv]) (fun r h=>h) (fun r ho=>by rw[hb] at ho;exact ho.elim) h
  exact h
 exact h
theorem Fx (g:aR c R s a w){b ver st lo hi:Nat}{u:Value}(h:ah (aH c R s.hp) w s.hp R (.sub b ver st lo hi) u):ah (aH c R s.hp) w s.hp R (Oi s.hp b ver st lo hi) u:=by
 unfold Oi;split
 ·rename_i nn st' rows he;split
  ·rename_i hv;have hv:=Nat.eq_of_beq_eq_true hv;subst hv;simp only[ah] at h;obtain⟨u0,h1,h2,rfl⟩:=h;have h3:ah (aH c R s.hp) w s.hp R (.aG b ver) u0:=by simp only[ah];exact h1
   have h4:=rR g h3;rw[he] at h4;simp only[ah] at h4 ⊢;exact (JO h4 h2).1
  exact h
 exact h
theorem qx (g:aR c R s a w):∀{cs:List AV} {us:List Value},FC (ah (aH c R s.hp) w s.hp R) cs us→FC (ah (aH c R s.hp) w s.hp R) (Wd s.hp cs) us
 |[],us,h=>h
 | x::r,us,h=>by
   obtain⟨v,t,e,h1,h2,h3⟩:=h;cases x with
   |aG b ver=>exact⟨v,t,e,h1,rR g h2,qx g h3⟩
   |sub b ver st lo hi=>exact⟨v,t,e,h1,Fx g h2,qx g h3⟩
   |_=>exact⟨v,t,e,h1,h2,qx g h3⟩
theorem qy (g:aR c R s a w){x:AV}{u:Value}(h:ah (aH c R s.hp) w s.hp R x u):ah (aH c R s.hp) w s.hp R (RU s.hp x) u:=by
 cases x with
 | agg cs=>
   simp only[RU,ah] at h ⊢;obtain⟨vs,e,h⟩:=h;rw[aY] at h;exact⟨vs,e,by rw[aY];exact qx g h⟩
 |aG b ver=>exact rR g h
 |_=>exact h
theorem Oj {f:FuncId}{args:List AV}{hp:List (Nat×av)}{r:AV}{hp':List (Nat×av)}(h:gY P f args hp r hp')(ids:List Nat){r2:AV}{hp2:List (Nat×av)}
  (e:match D7 hp' ids with|some fs=>Kz (fs++hp') (RU (fs++hp') r) (fun x h=>x=r2∧h=hp2)|none=>False):gY P f args hp r2 hp2:=by
 refine⟨h.1,fun c R w bG hh ha=>(h.2 c R w bG hh ha).mono ?_⟩;rintro ex w' ⟨v,r0,dY,R',rfl,⟨e1,e2⟩,KA,hr⟩
 rw[e1,e2] at hr;rw[e2] at KA;split at e
 ·rename_i fs hfs;have g:aR c R' ⟨[],0,hp'⟩ { tmps:=Array.replicate c.n undef,defers:=[] } w':=
   KA.JA (fun t v h=>by simp[lk] at h) (by simp) ⟨[],⟨fun d h=>by simp at h,rfl,by simp,fun d h=>by simp at h,fun d h=>by simp at h⟩⟩
  obtain⟨g1,m1,_⟩:=iR g (fun _ _ h=>h) _ _ hfs;obtain⟨r',EU,Wh,hQ,h1,h2⟩:=kM e g1.hap (qy g1 (m1 _ _ hr));exact⟨v,r',EU,Wh,rfl,hQ,h1,h2⟩
 exact e.elim
end
section
variable {P:Program}{c:Ctx}{R:Real}{s:AS}{a:Act}{w:World}
end
theorem zvA (e:TypeId)(v st:Nat)(rows:List (List PV)):0+j4 (.arr e v st rows)=v:=Nat.zero_add _
theorem zvO (e:TypeId)(v st:Nat)(pre:List (List PV))(row:List AV)(post:List (List PV)):0+j4 (.dL e v st pre row post)=v:=Nat.zero_add _
def Rv.w (x:Rv)(lf heard none has au bad out:AV):List AV:=
 [.pv (uu x.l.id),.pv (ii x.l.w),.pv (ii x.l.a),lf,.pv (ii x.l.closed),.pv (uu x.l.last),.pv (uu x.dz),.pv (ii x.phase),heard,.pv (uu x.sure),.pv (uu x.n),none,has,.pv (xC x.body),au,bad,.pv (uu x.born),.pv (uu x.since),out]
structure Rv.sm (x:Rv):Prop where
 f1:x.l.au.length≤1000∧∀f∈x.l.au,f.ak.length≤1000
 f2:x.au.length≤1000∧∀f∈x.au,f.ak.length≤1000
 h:x.heard.length≤1000000
 no:x.none.length≤1000000
 ha:x.has.length≤1000000
 ba:x.bad.length≤1000000
 bo:x.body.length≤1000000
theorem N8 (bs:ByteArray):∀(d i:Nat) (r:List UInt8),bs.size-i=d→ByteArray.toList.loop bs i r=r.reverse++bs.data.toList.drop i:=by
 intro d;induction d with
 | zero=>
   intro i r h;unfold ByteArray.toList.loop;have:¬i<bs.size:=by omega
   rw[if_neg this];have hd:bs.data.toList.length≤i:=by rw[Array.length_toList];show bs.size≤i;omega
   rw[List.drop_eq_nil_of_le hd,List.append_nil]
 | succ d ih=>
   intro i r h;unfold ByteArray.toList.loop;have hi:i<bs.size:=by omega
   rw[if_pos hi,ih (i+1) _ (by omega)];have hd:i<bs.data.toList.length:=by rw[Array.length_toList];exact hi
   rw[List.drop_eq_getElem_cons hd,List.reverse_cons,List.append_assoc];congr 1
   show [bs.get! i]++_=_
   have:bs.get! i=bs.data.toList[i]:=by
    show bs.data[i]! = _
    rw[getElem!_pos bs.data i hi,Array.getElem_toList]
   rw[this];rfl
theorem bsl (l:List UInt8):(⟨l.toArray⟩:ByteArray).toList=l:=by
 unfold ByteArray.toList;rw[N8 _ _ 0 [] rfl];simp
theorem Qr (a b:List UInt8):((⟨a.toArray⟩:ByteArray).toList==(⟨b.toArray⟩:ByteArray).toList)=decide (a=b):=by
 rw[bsl,bsl];exact Bool.beq_eq_decide_eq a b
theorem N9 {c:Ctx}{R:Real}{hp hp':List (Nat×av)}{w:World}(hh:∀b,lk hp' b=lk hp b)(g:xk c R hp w) :
  xk c R hp' w∧∀v x,ah (aH c R hp) w hp R v x→ah (aH c R hp') w hp' R v x:=by
 have ho:∀r,owned R hp' r↔owned R hp r:=fun r=>by simp only[owned,hh]
 have hN:∀r,r<w.heap.size→aH c R hp' r→aH c R hp r:=fun r _ h=>h.imp id (ho r).1
 have hw:∀r,r<w.heap.size→¬aH c R hp r→w.heap[r]? = w.heap[r]? :=fun _ _ _=>rfl
 have h1:∀b off v,aI R b off v (lk hp b)→aI R b off v (lk hp' b):=fun b off v h=>by rw[hh];exact h
 have h2:∀b ver v,aD R b ver v (lk hp b)→aD R b ver v (lk hp' b):=fun b ver v h=>by rw[hh];exact h
 have h3:∀b ver i off v,aK R b ver i off v (lk hp b)→aK R b ver i off v (lk hp' b):=fun b ver i off v h=>by rw[hh];exact h
 have hr:=bF hN hw h1 h2 h3;obtain⟨a,ha1,Yo⟩:∃a:Act,a.tmps.size=c.n∧a.defers=[]:=⟨{ tmps:=Array.replicate c.n undef,defers:=[] },by simp,rfl⟩;have gm:=g.JA (tm:=[]) (nx:=0) (a:=a) (fun t v h=>by simp[lk] at h) ha1 (by rw[Yo];exact⟨[],Marks.nil⟩);exact⟨(gm.congr (tm':=[]) (hp':=hp') (fun _=>rfl) hh).hap,hr⟩
section
variable {P:Program}{T:Tab}
end
section
variable {P:Program}{c:Ctx}{R:Real}{s:AS}{a:Act}{w:World}
theorem aR.cut (g:aR c R s a w){b:Nat}{e:TypeId}{ver st:Nat}{rows:List (List PV)}(hb':lk s.hp b=some (.arr e ver st rows)){m:Nat}(hm0:m≤rows.length) :
  aR c R (s.app [(b,.arr e (ver+1) st (rows.take m))]) a w∧ah (aH c R ([(b,.arr e (ver+1) st (rows.take m))]++s.hp)) w ([(b,.arr e (ver+1) st (rows.take m))]++s.hp) R (.aG b (ver+1)) (gK st 0 m (bA R b rows.length)):=by
 have hR:∀b',b'≠b→R.blk b'=R.blk b'∧R.nil b'=R.nil b'∧R.cap b'=R.cap b':=fun _ _=>⟨rfl,rfl,rfl⟩
 have hlen:(rows.take m).length=m:=by simp;omega
 have hre:=g.boxes b _ hb';have hown2:∃ys,w.ownsRow 0 e st (bA R b (rows.take m).length) (rows.take m).length ys∧bf (aH c R s.hp) w st (rows.take m) ys:=by
  cases hn:R.nil b with
  | true=>
    have:=lX (g.boxes b _ hb') hn;subst this;exact⟨[],⟨by simp,.inl ⟨by simp[bA,hn],by simp⟩⟩,by simp[bf]⟩
  | false=>
    obtain⟨cur,hg,hs,hle,hm,hr,_⟩:=d9 (g.boxes b _ hb') hn;have hr2:=jb (i:=m) hr;obtain⟨t1,t2,t3⟩:=dR hr2;rw[hlen] at t1 t2;refine⟨cur.toList.take (m*st),⟨?_,.inr ⟨R.blk b,(R.cap b).1,cur,by simp[bA,hn],Nat.zero_le _,hg,?_,hm,hs,by rw[hlen]⟩⟩,t2⟩
    ·rw[List.length_take,hlen];omega
    rw[hlen];omega
 obtain⟨ys,ho,hr⟩:=hown2;obtain⟨g2,hr2⟩:=g.nA (b:=b) (e:=e) (ver:=ver+1) (st:=st) (rows:=rows.take m) (R':=R) (.inr ⟨_,_,_,_,hb',by omega⟩) hR (iZ.refl _ w)
  (fun hn=>.inl (by rw[hb'];exact⟨hn,rfl⟩)) ho hr
 refine⟨g2,?_⟩;have:gK st 0 m (bA R b rows.length)=bA R b (rows.take m).length:=by
  rw[hlen];unfold bA;split
  ·rfl
  simp only[gK,Nat.sub_zero,Nat.zero_mul];split<;>rfl
 rw[this];exact hr2
theorem JV {f:FuncId}{args:List AV}{hp:List (Nat×av)}{b:Nat}{e:TypeId}{ver st m:Nat}{rows:List (List PV)}{rest:List (Nat×av)}
  (h:gY P f args hp (.sub b ver st 0 m) ((b,.arr e ver st rows)::rest)) (hm:m≤rows.length):gY P f args hp (.aG b (ver+1)) ((b,.arr e (ver+1) st (rows.take m))::rest):=by
 refine⟨h.1,fun c R w bG hh ha=>(h.2 c R w bG hh ha).mono ?_⟩;rintro ex w' ⟨v,r0,dY,R',rfl,⟨e1,e2⟩,KA,hr⟩
 rw[e1,e2] at hr;rw[e2] at KA;have g:aR c R' ⟨[],0,(b,.arr e ver st rows)::rest⟩ { tmps:=Array.replicate c.n undef,defers:=[] } w':=
  KA.JA (fun t v h=>by simp[lk] at h) (by simp) ⟨[],⟨fun d h=>by simp at h,rfl,by simp,fun d h=>by simp at h,fun d h=>by simp at h⟩⟩
 have hb:lk ((b,av.arr e ver st rows)::rest) b=some (.arr e ver st rows):=by rw[aj,if_pos rfl]
 obtain⟨g1,h1⟩:=g.cut hb hm;simp only[ah,hb,aD] at hr;obtain⟨u,⟨_,_,hu⟩,_,rfl⟩:=hr;rw[hu (by trivial)];have hc:∀k,lk ((b,av.arr e (ver+1) st (rows.take m))::rest) k=lk ([(b,.arr e (ver+1) st (rows.take m))]++(b,av.arr e ver st rows)::rest) k:=by
  intro k;simp only[List.cons_append,List.nil_append,aj];split<;>rfl
 obtain⟨g2,m2⟩:=N9 hc g1.hap;exact⟨_,_,_,R',rfl,⟨rfl,rfl⟩,g2,m2 _ _ h1⟩
end
section
variable {P:Program}{c:Ctx}{R:Real}{s:AS}{a:Act}{w:World}
end
section
variable {P:Program}{c:Ctx}{R:Real}{s:AS}{a:Act}{w:World}
end
section
variable {P:Program}{c:Ctx}{R:Real}{s:AS}{a:Act}{w:World}
end
section
variable {c:Ctx}{R:Real}{s:AS}{a:Act}{w:World}
theorem aR.swap (g:aR c R s a w){R':Real}{fs:List (Nat×av)}(hY:R'.Y=R.Y)
  (hR:∀b,lk fs b=none→R'.blk b=R.blk b∧R'.nil b=R.nil b∧R'.cap b=R.cap b)
  (r1:∀b box,lk fs b=some box→∀off v,aI R b off v (lk s.hp b)→aI R' b off v (some box))
  (r2:∀b box,lk fs b=some box→∀ver v,aD R b ver v (lk s.hp b)→aD R' b ver v (some box))
  (r3:∀b box,lk fs b=some box→∀ver i off v,aK R b ver i off v (lk s.hp b)→aK R' b ver i off v (some box))
  (ho:∀r,owned R' (fs++s.hp) r→owned R s.hp r)
  (hinj:∀b b' r,ax R' b r (lk (fs++s.hp) b)→ax R' b' r (lk (fs++s.hp) b')→b=b')
  (yE:(∀r,aH c R' (fs++s.hp) r→aH c R s.hp r)→(∀u x,ah (aH c R s.hp) w s.hp R u x→ah (aH c R' (fs++s.hp)) w (fs++s.hp) R' u x) →
   ∀b box,lk fs b=some box→dm (aH c R' (fs++s.hp)) w (fs++s.hp) R' b box) :
  aR c R' (s.app fs) a w∧∀u x,ah (aH c R s.hp) w s.hp R u x→ah (aH c R' (fs++s.hp)) w (fs++s.hp) R' u x:=by
 have hN:∀r,aH c R' (fs++s.hp) r→aH c R s.hp r:=fun r h=>h.imp id (ho r)
 have q1:∀b off v,aI R b off v (lk s.hp b)→aI R' b off v (lk (fs++s.hp) b):=fun b off v h=>by
  rw[dS];cases hb:lk fs b with
  |none=>exact eP (hR b hb) h
  |some box=>exact r1 b box hb off v h
 have q2:∀b ver v,aD R b ver v (lk s.hp b)→aD R' b ver v (lk (fs++s.hp) b):=fun b ver v h=>by
  rw[dS];cases hb:lk fs b with
  |none=>exact fM (hR b hb) h
  |some box=>exact r2 b box hb ver v h
 have q3:∀b ver i off v,aK R b ver i off v (lk s.hp b)→aK R' b ver i off v (lk (fs++s.hp) b):=fun b ver i off v h=>by
  rw[dS];cases hb:lk fs b with
  |none=>exact fO (hR b hb) h
  |some box=>exact r3 b box hb ver i off v h
 have hm:∀u x,ah (aH c R s.hp) w s.hp R u x→ah (aH c R' (fs++s.hp)) w (fs++s.hp) R' u x:=
  fun u x h=>bF (fun r _ hr=>hN r hr) (fun _ _ _=>rfl) q1 q2 q3 u x h
 refine⟨⟨?_,g.size,by rw[hY];exact g.lo,?_,?_,?_,hinj,fun r h=>g.free r (ho r h),g.gq,fun r h=>g.eG r (ho r h),fun v x h=>hm v x (g.kept v x h)⟩,hm⟩
 ·intro t v hv;obtain⟨x,hx,hr⟩:=g.slots t v hv;exact⟨x,hx,hm _ _ hr⟩
 ·obtain⟨Ds,h⟩:=g.marks;exact⟨Ds,h.low,h.eq,h.nodup,h.obj,fun D hD hx=>h.free D hD (ho D hx)⟩
 ·exact⟨g.fixed.obj,fun r o hr hx=>g.fixed.free r o hr (ho r hx),g.fixed.nc⟩
 intro b box hb;have hb:lk (fs++s.hp) b=some box:=hb;cases hf:lk fs b with
 | none=>
   rw[dS,hf] at hb;obtain⟨e1,e2,e3⟩:=hR b hf;exact lF hN q1 q2 q3 hY e1 e2 e3 (g.boxes b box hb)
 | some bx=>
   rw[dS,hf] at hb;cases hb;exact yE hN hm b _ hf
theorem JZ {N:Nat→Prop}{ed:TypeId}{sd:Nat}{rr:List (List PV)}{v:Value}{ys:List Value}(a3:w.ownsRow 0 ed sd v rr.length ys)(a4:bf N w sd rr ys)(hN:∀k,v.ownBlock=some k→¬N k):aU N w (.sl false sd rr) v:=by
 obtain⟨q1,q2⟩:=a3;simp only[aU];rcases q2 with ⟨q2,q3⟩|⟨g',cap,cur,e1,_,hg,hle,hm,hs,ht⟩
 ·exact⟨none,0,0,q2,q3.symm,⟨Nat.le_refl _,by omega⟩,fun _=>⟨by trivial,by trivial⟩,fun ad ha=>by cases ha⟩
 refine⟨_,_,_,e1,rfl,⟨hle,by unfold maxLen at hm;omega⟩,fun hp=>(by cases hp),fun ad ha=>?_⟩;cases ha;refine .inr ⟨rfl,hN _ (by rw[e1];rfl),cur,_,_,hg,?_⟩;have:=jK (cur.toList.drop (rr.length*sd)) a4;rw[←ht,List.take_append_drop] at this;simpa using this
theorem zo {N:Nat→Prop}{q:PV}{v:Value}(hv:aU N w q v):∀(r:List PV) (j:Nat) (xs:List Value),r[j]? = some q→dM N w (r.set j (.sc v)) xs→dM N w r xs
 |[],j,xs,h,_=>by simp at h
 | p::r,0,xs,h,h'=>by
   simp only[List.getElem?_cons_zero,Option.some.injEq] at h;subst h;simp only[List.set_cons_zero,dM] at h' ⊢;obtain⟨u,t,e,b1,b2,b3⟩:=h';simp only[aU] at b2;subst b2;exact⟨u,t,e,b1,hv,b3⟩
 | p::r,j+1,xs,h,h'=>by
   simp only[List.getElem?_cons_succ] at h;simp only[List.set_cons_succ,dM] at h' ⊢;obtain⟨u,t,e,b1,b2,b3⟩:=h';exact⟨u,t,e,b1,b2,zo hv r j _ h b3⟩
theorem lD {N N':Nat→Prop}(hN:∀r,N' r→N r){st j:Nat}{ed:TypeId}{sd:Nat}:∀{hs:List (Option Value)} {rs:List (Bool×List PV)} {xs:List Value},(∀v,some v∈hs→∀k,v.ownBlock=some k→¬N' k) →
  bS N w st j ed sd hs rs xs→bf N' w st (rs.map (·.2)) xs
 |[],[],xs,_,_=>by simp only[List.map_nil,bf]
 |[],_::_,xs,_,h=>by simp only[bS] at h
 |_::_,[],xs,_,h=>by simp only[bS] at h
 | h::hs,(fl,r)::rs,xs,hk,hh=>by
   simp only[bS] at hh;obtain⟨h1,h2,h3⟩:=hh;simp only[List.map_cons,bf];refine⟨h1,?_,lD hN (fun v hv=>hk v (by simp[hv])) h3⟩;cases h with
   | none=>cases fl with
     |false=>exact bL (fun r _ h=>hN r h) (fun _ _ _=>rfl) _ _ h2
     |true=>exact h2.elim
   | some v=>cases fl with
     |false=>exact h2.elim
     | true=>
       obtain⟨rr,ys,a1,a0,a2,a3,a4⟩:=h2;exact zo (JZ a3 (aN (fun r _ h=>hN r h) (fun _ _ _=>rfl) _ _ _ a4) (hk v (by simp))) r j xs a1 (bL (fun r _ h=>hN r h) (fun _ _ _=>rfl) _ _ a2)
theorem aR.FI (g:aR c R s a w){b:Nat}{e:TypeId}{ver st j:Nat}{ed:TypeId}{sd:Nat}{pre post:List (Bool×List PV)}(hb:lk s.hp b=some (.bR e ver st j ed sd pre [] post)) :
  aR c R (s.app [(b,.arr e ver st (pre.map (·.2)++post.map (·.2)))]) a w ∧
   ∀u x,ah (aH c R s.hp) w s.hp R u x→ah (aH c R ((b,.arr e ver st (pre.map (·.2)++post.map (·.2)))::s.hp)) w ((b,.arr e ver st (pre.map (·.2)++post.map (·.2)))::s.hp) R u x:=by
 have hl:(pre.map (·.2)++post.map (·.2)).length=pre.length+(bJ []+post.length):=by simp[bJ]
 obtain⟨xs,hs1,hs2,a1,a2,a3,a4,a5,a6,a7⟩:=g.boxes b _ hb;refine g.JU hb (fun off v h=>h.elim) (fun ver u h=>by simpa only[aD,hl] using h) (fun ver i off u h=>h) (fun r h=>.inl h) (fun hm hN=>?_);have hp:∀v,some v∈hs1++hs2→∀k,v.ownBlock=some k→¬aH c R ((b,av.arr e ver st (pre.map (·.2)++post.map (·.2)))::s.hp) k:=by
  intro v hv k hk;have FM:ax R b k (lk s.hp b):=by rw[hb];exact .inr ⟨v,by rw[a1];exact hv,hk⟩
  rintro (hF|⟨b',ho⟩)
  ·exact g.free k ⟨b,FM⟩ hF
  rw[aj] at ho;split at ho
  ·rename_i e1;subst e1;exact a7.2 v k (by rw[a1];exact hv) hk ho.1 ho.2
  rename_i e1;exact e1 (g.inj b' b k ho FM).symm
 refine⟨xs,by rw[hl];exact a2,pO (lD hN (fun v hv=>hp v (by simp[hv])) a3) ?_⟩;rw[List.length_map];have:=lD hN (fun v hv=>hp v (by simp[hv])) a6;simpa[bJ] using this
theorem zq {N:Nat→Prop}{st j:Nat}{ed:TypeId}{sd:Nat}:∀{rows:List (List PV)} {xs:List Value},bf N w st rows xs→bS N w st j ed sd (rows.map fun _=>none) (rows.map fun r=>(false,r)) xs
 |[],xs,_=>by simp only[List.map_nil,bS]
 | r::rows,xs,h=>by
   simp only[bf] at h;simp only[List.map_cons,bS];exact⟨h.1,h.2.1,zq h.2.2⟩
theorem aR.OC (g:aR c R s a w){b:Nat}{e:TypeId}{ver st:Nat}(j:Nat)(ed:TypeId)(sd:Nat){rows:List (List PV)}(hb:lk s.hp b=some (.arr e ver st rows)) :
  ∃R',aR c R' (s.app [(b,.bR e ver st j ed sd [] [] (rows.map fun r=>(false,r)))]) a w ∧
   ∀u x,ah (aH c R s.hp) w s.hp R u x→ah (aH c R' ((b,.bR e ver st j ed sd [] [] (rows.map fun r=>(false,r)))::s.hp)) w ((b,.bR e ver st j ed sd [] [] (rows.map fun r=>(false,r)))::s.hp) R' u x:=by
 obtain⟨xs,a1,a2⟩:=g.boxes b _ hb;obtain⟨R',hR'⟩:∃R',R'=jX R b (rows.map fun _=>none):=⟨_,rfl⟩;have hcap:(R'.cap b).2=rows.map fun _=>none:=by subst hR';simp[jX]
 have hsl:∀b' n,bA R' b' n=bA R b' n:=fun b' n=>by subst hR';exact uh
 have hbl:R'.blk=R.blk∧R'.nil=R.nil∧R'.Y=R.Y:=by subst hR';exact⟨rfl,rfl,rfl⟩
 have hno:∀v,¬some v∈(R'.cap b).2:=fun v h=>by rw[hcap] at h;simp at h
 have l1:∀{b':Nat} {box:av},lk [(b,av.bR e ver st j ed sd [] [] (rows.map fun r=>(false,r)))] b'=some box→b'=b∧box=.bR e ver st j ed sd [] [] (rows.map fun r=>(false,r)):=by
  intro b' box h;rw[aj] at h;split at h
  ·rename_i e1;cases h;exact⟨e1.symm,rfl⟩
  simp[lk] at h
 have ho:∀b' r,ax R' b' r (lk ([(b,av.bR e ver st j ed sd [] [] (rows.map fun r=>(false,r)))]++s.hp) b')→ax R b' r (lk s.hp b'):=by
  intro b' r h;rw[List.singleton_append,aj] at h;split at h
  ·rename_i e1;subst e1;rw[hb];rcases h with h|⟨v,hv,_⟩
   ·rw[hbl.1,hbl.2.1] at h;exact h
   exact absurd hv (hno v)
  rename_i e1;refine bU ⟨by rw[hbl.1],by rw[hbl.2.1],?_⟩ hbl.2.2 h;subst hR';exact qA (fun e=>e1 e.symm)
 obtain⟨g1,m1⟩:=g.swap (R':=R') (fs:=[(b,.bR e ver st j ed sd [] [] (rows.map fun r=>(false,r)))]) hbl.2.2 (fun b' h=>by
   have hne:b'≠b:=fun e1=>by subst e1;rw[aj,if_pos rfl] at h;cases h
   exact⟨by rw[hbl.1],by rw[hbl.2.1],by subst hR';exact qA hne⟩)
  (fun b' box h off v hr=>by obtain⟨rfl,rfl⟩:=l1 h;rw[hb] at hr;exact hr.elim)
  (fun b' box h vr v hr=>by
   obtain⟨rfl,rfl⟩:=l1 h;rw[hb] at hr;simpa only[aD,hsl,bJ,List.length_nil,List.length_map,Nat.zero_add] using hr)
  (fun b' box h vr i off v hr=>by
   obtain⟨rfl,rfl⟩:=l1 h;rw[hb] at hr;simpa only[aK,hbl.1,hbl.2.1] using hr)
  (fun r ⟨b',h⟩=>⟨b',ho b' r h⟩) (fun b1 b2 r h1 h2=>g.inj b1 b2 r (ho b1 r h1) (ho b2 r h2))
  (fun hN hm b' box h=>by
   obtain⟨rfl,rfl⟩:=l1 h;refine⟨xs,[],rows.map fun _=>none,by rw[hcap];rfl,?_,by simp only[bS],by simp[bJ],by simp only[bJ,Nat.zero_mul,List.take_zero,bq],?_,?_⟩
   ·rw[hsl];simpa[bJ] using a1
   ·have:=zq (j:=j) (ed:=ed) (sd:=sd) (aN (fun r _ h=>hN r h) (fun _ _ _=>rfl) _ _ _ a2);simpa[bJ] using this
   refine⟨?_,fun v r hv=>absurd hv (hno v)⟩;rw[hcap];have:∀(l:List (List PV)),((l.map fun _=>(none:Option Value)).filterMap fun h=>h.bind Value.ownBlock)=[]:=by
    intro l;induction l with
    |nil=>rfl
    |cons _ _ ih=>simp[ih]
   rw[this];exact List.nodup_nil)
 exact⟨R',g1,m1⟩
end
theorem p9 {N:Nat→Prop}{w:World}{st j:Nat}{ed:TypeId}{sd:Nat}:∀{hs1 hs2:List (Option Value)} {r1 r2:List (Bool×List PV)} {xs:List Value},
  bS N w st j ed sd hs1 r1 xs→bS N w st j ed sd hs2 r2 (xs.drop (r1.length*st))→bS N w st j ed sd (hs1++hs2) (r1++r2) xs
 |[],hs2,[],r2,xs,_,h=>by simpa using h
 |[],_,_::_,_,xs,h,_=>by simp only[bS] at h
 |_::_,_,[],_,xs,h,_=>by simp only[bS] at h
 | h::hs1,hs2,(fl,r)::r1,r2,xs,hh,h2=>by
   simp only[List.cons_append,bS] at hh ⊢;obtain⟨a1,a2,a3⟩:=hh;refine⟨a1,a2,p9 a3 ?_⟩;rw[List.drop_drop,show st+r1.length*st=((fl,r)::r1).length*st by rw[List.length_cons,Nat.succ_mul];omega];exact h2
theorem J2 (R:Real)(b n:Nat):(bA R b n).oneCell'=true:=by unfold bA;split<;>rfl
theorem JY {R:Real}{b n r:Nat}(h:(bA R b n).ownBlock=some r):R.nil b=false∧R.blk b=r:=by
 simp only[bA] at h;cases hnil:R.nil b with
 |true=>simp[hnil,Value.ownBlock] at h
 |false=>simp[hnil,Value.ownBlock] at h;exact⟨rfl,h⟩
theorem J4 {N:Nat→Prop}{w:World}{hp:List (Nat×av)}{R:Real}{d vd:Nat}{hv:Value}(hr:∀v,aD R d vd v (lk hp d)→v=hv) :
  ∀(cs:List PV) (j:Nat) (vs:List Value),bq N w hp R ((cs.map AV.pv).set j (.aG d vd)) vs→FC (aU N w) (cs.set j (.sc hv)) vs
 |[],j,vs,h=>by simpa only[List.map_nil,List.set_nil,bq,FC] using h
 | p::cs,0,vs,h=>by
   simp only[List.map_cons,List.set_cons_zero,bq,FC] at h ⊢;obtain⟨v,r,e,h1,h2,h3⟩:=h;refine⟨v,r,e,h1,?_,?_⟩
   ·simp only[ah] at h2;simp only[aU];exact hr v h2
   rw[aY] at h3;have:∀(cs:List PV) (vs:List Value),FC (ah N w hp R) (cs.map AV.pv) vs→FC (aU N w) cs vs:=by
    intro cs;induction cs with
    |nil=>intro vs h;exact h
    | cons p cs ih=>
      intro vs h;obtain⟨v,r,e,h1,h2,h3⟩:=h;exact⟨v,r,e,h1,by simpa only[ah] using h2,ih _ h3⟩
   exact this cs r h3
 | p::cs,j+1,vs,h=>by
   simp only[List.map_cons,List.set_cons_succ,bq,FC] at h ⊢;obtain⟨v,r,e,h1,h2,h3⟩:=h;exact⟨v,r,e,h1,by simpa only[ah] using h2,J4 hr cs j r h3⟩
theorem J5 {N:Nat→Prop}{w:World}{hp:List (Nat×av)}{R:Real}{d vd:Nat}{hv:Value}(hr:aD R d vd hv (lk hp d)) :
  ∀(cs:List PV) (j:Nat) (vs:List Value),FC (aU N w) (cs.set j (.sc hv)) vs→bq N w hp R ((cs.map AV.pv).set j (.aG d vd)) vs
 |[],j,vs,h=>by simpa only[List.map_nil,List.set_nil,bq,FC] using h
 | p::cs,0,vs,h=>by
   simp only[List.map_cons,List.set_cons_zero,bq,FC] at h ⊢;obtain⟨v,r,e,h1,h2,h3⟩:=h;refine⟨v,r,e,h1,?_,?_⟩
   ·simp only[aU] at h2;subst h2;simp only[ah];exact hr
   rw[aY];have:∀(cs:List PV) (vs:List Value),FC (aU N w) cs vs→FC (ah N w hp R) (cs.map AV.pv) vs:=by
    intro cs;induction cs with
    |nil=>intro vs h;exact h
    | cons p cs ih=>
      intro vs h;obtain⟨v,r,e,h1,h2,h3⟩:=h;exact⟨v,r,e,h1,by simpa only[ah] using h2,ih _ h3⟩
   exact this cs r h3
 | p::cs,j+1,vs,h=>by
   simp only[List.map_cons,List.set_cons_succ,bq,FC] at h ⊢;obtain⟨v,r,e,h1,h2,h3⟩:=h;exact⟨v,r,e,h1,by simpa only[ah] using h2,J5 hr cs j r h3⟩
theorem Uc {l:List (Option Value)}{r:Nat}(h:r∈l.filterMap fun h=>h.bind Value.ownBlock):∃v,some v∈l∧v.ownBlock=some r:=by
 obtain⟨o,h1,h2⟩:=List.mem_filterMap.1 h;cases o with
 |none=>cases h2
 |some v=>exact⟨v,h1,h2⟩
theorem QC {l:List (Option Value)}{r:Nat}{v:Value}(h:some v∈l)(h2:v.ownBlock=some r):r∈l.filterMap fun h=>h.bind Value.ownBlock:=
 List.mem_filterMap.2 ⟨some v,h,h2⟩
section
variable {c:Ctx}{R:Real}{s:AS}{a:Act}{w:World}
theorem aR.Ud (g:aR c R s a w){b d:Nat}{e:TypeId}{ver st j:Nat}{ed:TypeId}{sd:Nat}{pre post:List (Bool×List PV)}{row:List AV}{vd:Nat}{rr:List (List PV)}{cs:List PV}
  (hb:lk s.hp b=some (.bR e ver st j ed sd pre row post)) (hd:lk s.hp d=some (.arr ed vd sd rr)) (hcs:cs[j]? = some (.sl false sd rr)) (hrow:row=(cs.map AV.pv).set j (.aG d vd)) :
  ∃R',aR c R' (s.app [(b,.bR e ver st j ed sd (pre++[(true,cs)]) [] post),(d,.bX (vd+1) sd [])]) a w ∧
   ∀u x,ah (aH c R s.hp) w s.hp R u x→ah (aH c R' ([(b,.bR e ver st j ed sd (pre++[(true,cs)]) [] post),(d,.bX (vd+1) sd [])]++s.hp)) w ([(b,.bR e ver st j ed sd (pre++[(true,cs)]) [] post),(d,.bX (vd+1) sd [])]++s.hp) R' u x:=by
 obtain⟨xs,hs1,hs2,a1,a2,a3,a4,a5,a6,a7⟩:=g.boxes b _ hb;obtain⟨ys,d1,d2⟩:=g.boxes d _ hd;have R6:d≠b:=fun e1=>by rw[e1,hb] at hd;cases hd
 have hjl:j<cs.length:=(List.getElem?_eq_some_iff.1 hcs).1;have hrl:row.length=cs.length:=by rw[hrow];simp
 have hO:bJ row=1:=by
  cases hq:row with
  |nil=>rw[hq] at hrl;simp at hrl;omega
  |cons _ _=>rfl
 simp only[hO,Nat.one_mul] at a2 a4 a5 a6;obtain⟨R',hR'⟩:∃R',R'=jX R b (hs1++some (bA R d rr.length)::hs2):=⟨_,rfl⟩;have hcap:(R'.cap b).2=hs1++some (bA R d rr.length)::hs2:=by subst hR';simp[jX]
 have hsl:∀b' n,bA R' b' n=bA R b' n:=fun b' n=>by subst hR';exact uh
 have hbl:R'.blk=R.blk∧R'.nil=R.nil∧R'.Y=R.Y:=by subst hR';exact⟨rfl,rfl,rfl⟩
 have R4:∀b',b'≠b→R'.cap b'=R.cap b':=fun b' h=>by subst hR';exact qA h
 obtain⟨B,hB⟩:∃B,B=av.bR e ver st j ed sd (pre++[(true,cs)]) [] post:=⟨_,rfl⟩;rw[←hB];have l1:∀{b':Nat} {box:av},lk [(b,B),(d,av.bX (vd+1) sd [])] b'=some box→(b'=b∧box=B)∨(b'=d∧box=.bX (vd+1) sd []):=by
  intro b' box h;rw[aj] at h;split at h
  ·rename_i e1;cases h;exact .inl ⟨e1.symm,rfl⟩
  rw[aj] at h;split at h
  ·rename_i e1;cases h;exact .inr ⟨e1.symm,rfl⟩
  simp[lk] at h
 have hod:∀r,(bA R d rr.length).ownBlock=some r→ax R d r (lk s.hp d):=fun r h=>by rw[hd];exact JY h
 have Pz:∀v r,some v∈hs1++hs2→v.ownBlock=some r→ax R b r (lk s.hp b):=fun v r h h2=>by rw[hb];exact .inr ⟨v,by rw[a1];exact h,h2⟩
 have ho:∀b' r,ax R' b' r (lk ([(b,B),(d,av.bX (vd+1) sd [])]++s.hp) b')→b'≠d∧(ax R b' r (lk s.hp b')∨(b'=b∧ax R d r (lk s.hp d))):=by
  intro b' r h;by_cases e1:b'=b
  ·subst e1;refine⟨fun e2=>R6 e2.symm,?_⟩;rw[dS,aj,if_pos rfl,hB] at h;rcases h with h|⟨v,hv,hr⟩
   ·left;rw[hb];rw[hbl.1,hbl.2.1] at h;exact .inl h
   rw[hcap] at hv;rcases List.mem_append.1 hv with hv|hv
   ·exact .inl (Pz v r (by simp[hv]) hr)
   rcases List.mem_cons.1 hv with e2|hv
   ·cases e2;exact .inr ⟨rfl,hod r hr⟩
   exact .inl (Pz v r (by simp[hv]) hr)
  by_cases e2:b'=d
  ·subst e2;rw[dS,aj,if_neg (fun e=>e1 e.symm),aj,if_pos rfl] at h;exact h.elim
  rw[dS,aj,if_neg (fun e=>e1 e.symm),aj,if_neg (fun e=>e2 e.symm)] at h;exact⟨e2,.inl (bU ⟨by rw[hbl.1],by rw[hbl.2.1],R4 b' e1⟩ hbl.2.2 h)⟩
 obtain⟨g1,m1⟩:=g.swap (R':=R') (fs:=[(b,B),(d,av.bX (vd+1) sd [])]) hbl.2.2 (fun b' h=>by
   have hne:b'≠b:=fun e1=>by subst e1;rw[aj,if_pos rfl] at h;cases h
   exact⟨by rw[hbl.1],by rw[hbl.2.1],R4 b' hne⟩)
  (fun b' box h off v hr=>by
   rcases l1 h with ⟨rfl,rfl⟩|⟨rfl,rfl⟩
   ·rw[hb] at hr;exact hr.elim
   rw[hd] at hr;exact hr.elim)
  (fun b' box h vr v hr=>by
   rcases l1 h with ⟨rfl,rfl⟩|⟨rfl,rfl⟩
   ·rw[hb] at hr;rw[hB];simp only[aD,hO] at hr;simp only[aD,hsl,bJ,List.length_append,List.length_cons,List.length_nil,Nat.zero_add];rwa [show pre.length+1+post.length=pre.length+(1+post.length) by omega]
   rw[hd] at hr;exact⟨by have:=hr.1;omega,hr.2.1,fun e2=>by have:=hr.1;omega⟩)
  (fun b' box h vr i off v hr=>by
   rcases l1 h with ⟨rfl,rfl⟩|⟨rfl,rfl⟩
   ·rw[hb] at hr;rw[hB];simpa only[aK,hbl.1,hbl.2.1] using hr
   rw[hd] at hr;exact⟨by have:=hr.1;omega,hr.2.1,fun e2=>by have:=hr.1;omega⟩)
  (fun r ⟨b',h⟩=>by
   rcases (ho b' r h).2 with h|⟨_,h⟩
   ·exact⟨b',h⟩
   exact⟨d,h⟩)
  (fun b1 b2 r h1 h2=>by
   obtain⟨n1,h1⟩:=ho b1 r h1;obtain⟨n2,h2⟩:=ho b2 r h2;rcases h1 with h1|⟨e1,h1⟩<;>rcases h2 with h2|⟨e2,h2⟩
   ·exact g.inj b1 b2 r h1 h2
   ·exact absurd (g.inj b1 d r h1 h2) n1
   ·exact absurd (g.inj b2 d r h2 h1) n2
   rw[e1,e2])
  (fun hN hm b' box h=>by
   generalize hNN:aH c R' ([(b,B),(d,av.bX (vd+1) sd [])]++s.hp)=N' at hN hm ⊢;generalize [(b,B),(d,av.bX (vd+1) sd [])]++s.hp=hp' at hm ⊢;rcases l1 h with ⟨rfl,e9⟩|⟨rfl,e9⟩<;>rw[e9]
   ·rw[hB];have hmono:∀{hs:List (Option Value)} {rs:List (Bool×List PV)} {zs:List Value},bS (aH c R s.hp) w st j ed sd hs rs zs→bS N' w st j ed sd hs rs zs:=
     fun h=>ic (fun r _ h=>hN r h) (fun _ _ _=>rfl) (fun _ _ _ _=>rfl) h
    have hrw:FC (aU (aH c R s.hp) w) (cs.set j (.sc (bA R d rr.length))) ((xs.drop (pre.length*st)).take st):=by
     refine J4 (hp:=s.hp) (R:=R) (d:=d) (vd:=vd) (fun v hv=>?_) cs j _ (by rw[←hrow];exact a5);rw[hd] at hv;exact hv.2.2 rfl
    have RA:=FP.app ((xs.drop (pre.length*st)).drop st) hrw.fp;rw[List.take_append_drop] at RA;refine⟨xs,hs1++[some (bA R d rr.length)],hs2,by rw[hcap];simp,?_,p9 (hmono a3) ?_,by simp[bJ],by simp only[bJ,Nat.zero_mul,List.take_zero,bq],?_,?_⟩
    ·rw[hsl];simp only[bJ,List.length_append,List.length_cons,List.length_nil,Nat.zero_add];rw[show pre.length+1+post.length=pre.length+(1+post.length) by omega];exact a2
    ·refine hmono ?_;simp only[bS];refine⟨by rw[←hrl];exact a4,⟨rr,ys,hcs,J2 _ _ _,?_,d1,d2⟩,trivial⟩;rw[bM];exact RA
    ·have e5:(xs.drop ((pre++[(true,cs)]).length*st)).drop (bJ []*st)=(xs.drop (pre.length*st)).drop st:=by
      simp only[bJ,Nat.zero_mul,List.drop_zero,List.length_append,List.length_cons,List.length_nil,Nat.zero_add,List.drop_drop];rw[Nat.succ_mul,Nat.add_zero]
     rw[e5];exact hmono a6
    unfold wO;rw[hcap,hbl.1,hbl.2.1];have hnew:∀r,(bA R d rr.length).ownBlock=some r→¬∃v,some v∈hs1++hs2∧v.ownBlock=some r:=by
     rintro r hr ⟨v,hv,h2⟩
     exact R6 (g.inj d b' r (hod r hr) (Pz v r hv h2))
    refine⟨?_,?_⟩
    ·have h7:=a7.1;rw[a1] at h7;rw[List.filterMap_append] at h7 ⊢;simp only[List.filterMap_cons,Option.bind_some];cases hq:(bA R d rr.length).ownBlock with
     |none=>simpa using h7
     | some r=>
       simp only;rw[List.perm_middle.nodup_iff,List.nodup_cons];refine⟨fun hm=>hnew r hq ?_,h7⟩;rw[←List.filterMap_append] at hm;exact Uc hm
    intro v r hv hr hn he;rcases List.mem_append.1 hv with hv|hv
    ·exact a7.2 v r (by rw[a1];simp[hv]) hr hn he
    rcases List.mem_cons.1 hv with e2|hv
    ·cases e2;exact R6 (g.inj d b' r (hod r hr) (by rw[hb];exact .inl ⟨hn,he⟩))
    exact a7.2 v r (by rw[a1];simp[hv]) hr hn he
   simp only[dm,aU,List.length_nil];rw[hsl];unfold bA;split
   ·exact⟨none,0,0,rfl,rfl,⟨Nat.le_refl _,by omega⟩,fun _=>⟨by trivial,by trivial⟩,fun a ha=>by cases ha⟩
   rename_i hnil;rcases d1.2 with ⟨h3,_⟩|⟨g',cap,cur,e4,_,hg,hle,hm2,_⟩
   ·simp[bA,hnil] at h3
   simp only[bA,hnil,Bool.false_eq_true,if_false,Value.slice.injEq] at e4;refine⟨_,0,_,rfl,rfl,⟨Nat.zero_le _,?_⟩,fun hh=>(by cases hh),fun a ha=>.inl (by trivial)⟩;have:=e4.2.2;unfold maxLen at hm2;omega)
 exact⟨R',g1,m1⟩
theorem aR.Ue (g:aR c R s a w){b:Nat}(d:Nat){e:TypeId}{ver st j:Nat}{ed:TypeId}{sd:Nat}{pre post:List (Bool×List PV)}{rr:List (List PV)}{cs:List PV}
  (hb:lk s.hp b=some (.bR e ver st j ed sd pre [] ((true,cs)::post))) (hd:lk s.hp d=none) (hcs:cs[j]? = some (.sl false sd rr)) :
  ∃R',aR c R' (s.app [(b,.bR e ver st j ed sd pre ((cs.map AV.pv).set j (.aG d 0)) post),(d,.arr ed 0 sd rr)]) a w ∧
   ∀u x,ah (aH c R s.hp) w s.hp R u x→ah (aH c R' ([(b,.bR e ver st j ed sd pre ((cs.map AV.pv).set j (.aG d 0)) post),(d,.arr ed 0 sd rr)]++s.hp)) w ([(b,.bR e ver st j ed sd pre ((cs.map AV.pv).set j (.aG d 0)) post),(d,.arr ed 0 sd rr)]++s.hp) R' u x:=by
 obtain⟨xs,hs1,hs2,a1,a2,a3,a4,a5,a6,a7⟩:=g.boxes b _ hb;have R6:d≠b:=fun e1=>by rw[e1,hb] at hd;cases hd
 have hjl:j<cs.length:=(List.getElem?_eq_some_iff.1 hcs).1;simp only[bJ,Nat.zero_mul,Nat.zero_add,List.drop_zero,List.take_zero,List.length_cons] at a2 a4 a5 a6;cases hs2 with
 |nil=>simp only[bS] at a6
 |cons h hs2=>
 simp only[bS] at a6;obtain⟨b1,b2,b3⟩:=a6;cases h with
 |none=>exact b2.elim
 |some hv=>
 obtain⟨rr',ys,c1,c0,c2,c3,c4⟩:=b2;rw[hcs] at c1;simp only[Option.some.injEq,PV.sl.injEq,true_and] at c1;subst c1;obtain⟨gb,gn,gc,hgv,hgo⟩:∃gb gn gc,hv=(if gn then .slice none 0 0 else .slice (some ⟨gb,0,none⟩) rr.length gc)∧(gn=false→hv.ownBlock=some gb):=by
  rcases c3.2 with ⟨h3,_⟩|⟨g',cap,cur,e4,_⟩
  ·exact⟨0,true,0,by simpa using h3,fun h=>by cases h⟩
  exact⟨g',false,cap,by simpa using e4,fun _=>by rw[e4];rfl⟩
 obtain⟨R',hR'⟩:∃R',R'=jX (R.at d gb gn gc) b (hs1++hs2):=⟨_,rfl⟩;have hcapb:(R'.cap b)=((R.cap b).1,hs1++hs2):=by subst hR';simp[jX,Real.at,show ¬b=d from fun e=>R6 e.symm]
 have oz:R'.blk b=R.blk b∧R'.nil b=R.nil b:=by subst hR';simp[jX,Real.at,show ¬b=d from fun e=>R6 e.symm]
 have hdd:R'.blk d=gb∧R'.nil d=gn∧R'.cap d=(gc,[]):=by subst hR';simp[jX,Real.at,R6]
 have hoth:∀b',b'≠b→b'≠d→R'.blk b'=R.blk b'∧R'.nil b'=R.nil b'∧R'.cap b'=R.cap b':=fun b' h1 h2=>by subst hR';simp[jX,Real.at,h1,h2]
 have hY:R'.Y=R.Y:=by subst hR';rfl
 have WG:∀n,bA R' b n=bA R b n:=fun n=>by simp only[bA,oz.1,oz.2,hcapb]
 have WH:bA R' d rr.length=hv:=by simp only[bA,hdd.1,hdd.2.1,hdd.2.2,hgv]
 obtain⟨row,hrow⟩:∃row,row=(cs.map AV.pv).set j (.aG d 0):=⟨_,rfl⟩;have hrl:row.length=cs.length:=by rw[hrow];simp
 have hO:bJ row=1:=by
  cases hq:row with
  |nil=>rw[hq] at hrl;simp at hrl;omega
  |cons _ _=>rfl
 rw[←hrow];obtain⟨B,hB⟩:∃B,B=av.bR e ver st j ed sd pre row post:=⟨_,rfl⟩;rw[←hB];have l1:∀{b':Nat} {box:av},lk [(b,B),(d,av.arr ed 0 sd rr)] b'=some box→(b'=b∧box=B)∨(b'=d∧box=.arr ed 0 sd rr):=by
  intro b' box h;rw[aj] at h;split at h
  ·rename_i e1;cases h;exact .inl ⟨e1.symm,rfl⟩
  rw[aj] at h;split at h
  ·rename_i e1;cases h;exact .inr ⟨e1.symm,rfl⟩
  simp[lk] at h
 have Pz:∀v r,some v∈hs1++some hv::hs2→v.ownBlock=some r→ax R b r (lk s.hp b):=fun v r h h2=>by rw[hb];exact .inr ⟨v,by rw[a1];exact h,h2⟩
 have hnd:=a7.1;rw[a1] at hnd;have hnew:∀r v,hv.ownBlock=some r→some v∈hs1++hs2→v.ownBlock=some r→False:=by
  intro r v h1 h2 h3;rw[List.filterMap_append,List.filterMap_cons,Option.bind_some,h1] at hnd;simp only at hnd;rw[List.perm_middle.nodup_iff,List.nodup_cons,←List.filterMap_append] at hnd;exact hnd.1 (QC h2 h3)
 have ho:∀b' r,ax R' b' r (lk ([(b,B),(d,av.arr ed 0 sd rr)]++s.hp) b') →
   (b'≠d∧b'≠b∧ax R b' r (lk s.hp b'))∨(b'=d∧hv.ownBlock=some r)∨(b'=b∧((R.nil b=false∧R.blk b=r)∨∃v,some v∈hs1++hs2∧v.ownBlock=some r)):=by
  intro b' r h;by_cases e1:b'=b
  ·subst e1;right;right
   rw[dS,aj,if_pos rfl,hB] at h;refine⟨rfl,?_⟩;rcases h with h|⟨v,hv,hr⟩
   ·rw[oz.1,oz.2] at h;exact .inl h
   rw[hcapb] at hv;exact .inr ⟨v,hv,hr⟩
  by_cases e2:b'=d
  ·subst e2;right;left
   rw[dS,aj,if_neg (fun e=>e1 e.symm),aj,if_pos rfl] at h;have h':R'.nil b'=false∧R'.blk b'=r:=h;rw[hdd.1,hdd.2.1] at h';exact⟨rfl,by rw[hgo h'.1,h'.2]⟩
  rw[dS,aj,if_neg (fun e=>e1 e.symm),aj,if_neg (fun e=>e2 e.symm)] at h;exact .inl ⟨e2,e1,bU (hoth b' e1 e2) hY h⟩
 have hin:∀b' r,((b'=d∧hv.ownBlock=some r)∨(b'=b∧((R.nil b=false∧R.blk b=r)∨∃v,some v∈hs1++hs2∧v.ownBlock=some r)))→ax R b r (lk s.hp b):=by
  intro b' r h;rcases h with ⟨_,h⟩|⟨_,h|⟨v,h1,h2⟩⟩
  ·exact Pz hv r (by simp) h
  ·rw[hb];exact .inl h
  exact Pz v r (by rcases List.mem_append.1 h1 with h1|h1<;>simp[h1]) h2
 obtain⟨g1,m1⟩:=g.swap (R':=R') (fs:=[(b,B),(d,av.arr ed 0 sd rr)]) hY (fun b' h=>by
   have hne:b'≠b:=fun e1=>by subst e1;rw[aj,if_pos rfl] at h;cases h
   have hne2:b'≠d:=fun e1=>by subst e1;rw[aj,if_neg (fun e=>hne e.symm),aj,if_pos rfl] at h;cases h
   exact hoth b' hne hne2)
  (fun b' box h off v hr=>by
   rcases l1 h with ⟨rfl,rfl⟩|⟨rfl,rfl⟩
   ·rw[hb] at hr;exact hr.elim
   rw[hd] at hr;exact hr.elim)
  (fun b' box h vr v hr=>by
   rcases l1 h with ⟨rfl,rfl⟩|⟨rfl,rfl⟩
   ·rw[hb] at hr;rw[hB];simp only[aD,bJ,Nat.zero_add,List.length_cons] at hr;simp only[aD,WG,hO];rwa [show pre.length+(1+post.length)=pre.length+(post.length+1) by omega]
   rw[hd] at hr;exact hr.elim)
  (fun b' box h vr i off v hr=>by
   rcases l1 h with ⟨rfl,rfl⟩|⟨rfl,rfl⟩
   ·rw[hb] at hr;rw[hB];simpa only[aK,oz.1,oz.2] using hr
   rw[hd] at hr;exact hr.elim)
  (fun r ⟨b',h⟩=>by
   rcases ho b' r h with ⟨_,_,h⟩|h
   ·exact⟨b',h⟩
   exact⟨b,hin b' r h⟩)
  (fun b1 b2 r h1 h2=>by
   rcases ho b1 r h1 with ⟨n1,n2,h1⟩|h1<;>rcases ho b2 r h2 with ⟨m1,m2,h2⟩|h2
   ·exact g.inj b1 b2 r h1 h2
   ·exact absurd (g.inj b1 b r h1 (hin b2 r h2)) n2
   ·exact absurd (g.inj b2 b r h2 (hin b1 r h1)) m2
   have key:hv.ownBlock=some r→((R.nil b=false∧R.blk b=r)∨∃v,some v∈hs1++hs2∧v.ownBlock=some r)→False:=by
    rintro k1 (⟨k2,k3⟩|⟨v,k2,k3⟩)
    ·exact a7.2 hv r (by rw[a1];simp) k1 k2 k3
    exact hnew r v k1 k2 k3
   rcases h1 with ⟨e1,h1⟩|⟨e1,h1⟩<;>rcases h2 with ⟨e2,h2⟩|⟨e2,h2⟩
   ·rw[e1,e2]
   ·exact (key h1 h2).elim
   ·exact (key h2 h1).elim
   rw[e1,e2])
  (fun hN hm b' box h=>by
   have hld:lk ([(b,B),(d,av.arr ed 0 sd rr)]++s.hp) d=some (.arr ed 0 sd rr):=by
    rw[dS,aj,if_neg (fun e=>R6 e.symm),aj,if_pos rfl]
   generalize hNN:aH c R' ([(b,B),(d,av.arr ed 0 sd rr)]++s.hp)=N' at hN hm ⊢;generalize [(b,B),(d,av.arr ed 0 sd rr)]++s.hp=hp' at hm hld ⊢;rcases l1 h with ⟨rfl,e9⟩|⟨rfl,e9⟩<;>rw[e9]
   ·rw[hB];have hmono:∀{hs:List (Option Value)} {rs:List (Bool×List PV)} {zs:List Value},bS (aH c R s.hp) w st j ed sd hs rs zs→bS N' w st j ed sd hs rs zs:=
     fun h=>ic (fun r _ h=>hN r h) (fun _ _ _=>rfl) (fun _ _ _ _=>rfl) h
    have hsz:(cs.set j (.sc hv)).length=st:=by rw[List.length_set];exact b1
    refine⟨xs,hs1,hs2,by rw[hcapb],?_,hmono a3,by rw[hO,Nat.one_mul,hrl];exact b1,?_,?_,?_⟩
    ·rw[WG,hO,show pre.length+(1+post.length)=pre.length+(post.length+1) by omega];exact a2
    ·rw[hO,Nat.one_mul,hrow];refine J5 (hv:=hv) ?_ cs j _ ?_
     ·rw[hld];exact⟨Nat.le_refl _,c0,fun _=>WH.symm⟩
     have c2':=bL (N':=N') (fun r _ h=>hN r h) (fun _ _ _=>rfl) _ _ c2;rw[bM] at c2';have:=c2'.take;rwa [hsz] at this
    ·rw[hO,Nat.one_mul];exact hmono b3
    unfold wO;rw[hcapb,oz.1,oz.2];refine⟨?_,fun v r hv' hr hn he=>a7.2 v r (by rw[a1];rcases List.mem_append.1 hv' with h1|h1<;>simp[h1]) hr hn he⟩;refine List.Sublist.nodup ?_ hnd;exact List.Sublist.filterMap _ (List.Sublist.append (List.Sublist.refl _) (List.sublist_cons_self _ _))
   exact⟨ys,by rw[WH];exact c3,aN (fun r _ h=>hN r h) (fun _ _ _=>rfl) _ _ _ c4⟩)
 exact⟨R',g1,m1⟩
end
def XZ (H:List (Nat×av)):List (Nat×AV)→List (Nat×AV)
 |[]=>[]
 |(t,v)::r=>(t,RU H v)::XZ H r
theorem Ol (H:List (Nat×av)):∀(tm:List (Nat×AV)) (t:Nat),lk (XZ H tm) t=(lk tm t).map (RU H)
 |[],t=>rfl
 | (k,v)::r,t=>by
   simp only[XZ,aj];split
   ·rfl
   exact Ol H r t
theorem aR.told {c:Ctx}{R:Real}{s:AS}{a:Act}{w:World}(g:aR c R s a w):aR c R ⟨XZ s.hp s.tm,s.nx,s.hp⟩ a w:=by
 refine⟨?_,g.size,g.lo,g.marks,g.fixed,g.boxes,g.inj,g.free,g.gq,g.eG,g.kept⟩;intro t v hv;rw[Ol] at hv;cases h:lk s.tm t with
 |none=>rw[h] at hv;cases hv
 | some v0=>
   rw[h] at hv;simp only[Option.map_some,Option.some.injEq] at hv;subst hv;obtain⟨x,hx,hr⟩:=g.slots t v0 h;exact⟨x,hx,qy g hr⟩
theorem jB {s s':AS}(b d:Nat){e:TypeId}{ver st j:Nat}{ed:TypeId}{sd:Nat}{pre post:List (Bool×List PV)}{row:List AV}{vd:Nat}{rr:List (List PV)}(cs:List PV)
  (hb:lk s.hp b=some (.bR e ver st j ed sd pre row post)) (hd:lk s.hp d=some (.arr ed vd sd rr)) (hcs:cs[j]? = some (.sl false sd rr)) (hrow:row=(cs.map AV.pv).set j (.aG d vd))
  (h:jU ⟨s.tm,s.nx,(b,.bR e ver st j ed sd (pre++[(true,cs)]) [] post)::(d,.bX (vd+1) sd [])::s.hp⟩ s'):jU s s':=
 fun c R a w g=>by
  obtain⟨R',g1,_⟩:=g.Ud hb hd hcs hrow;exact h c R' a w g1
theorem nZ {s s':AS}(b d:Nat){e:TypeId}{ver st j:Nat}{ed:TypeId}{sd:Nat}{pre post:List (Bool×List PV)}{rr:List (List PV)}{cs:List PV}
  (hb:lk s.hp b=some (.bR e ver st j ed sd pre [] ((true,cs)::post))) (hd:lk s.hp d=none) (hcs:cs[j]? = some (.sl false sd rr))
  (h:jU ⟨s.tm,s.nx,(b,.bR e ver st j ed sd pre ((cs.map AV.pv).set j (.aG d 0)) post)::(d,.arr ed 0 sd rr)::s.hp⟩ s'):jU s s':=
 fun c R a w g=>by
  obtain⟨R',g1,_⟩:=g.Ue d hb hd hcs;exact h c R' a w g1
theorem zu {s s':AS}(b:Nat){e:TypeId}{ver st:Nat}(j:Nat)(ed:TypeId)(sd:Nat){rows:List (List PV)}
  (hb:lk s.hp b=some (.arr e ver st rows)) (h:jU ⟨s.tm,s.nx,(b,.bR e ver st j ed sd [] [] (rows.map fun r=>(false,r)))::s.hp⟩ s'):jU s s':=
 fun c R a w g=>by
  obtain⟨R',g1,_⟩:=g.OC j ed sd hb;exact h c R' a w g1
section
variable {P:Program}
theorem og {f:FuncId}{args:List AV}{hp:List (Nat×av)}{r r2:AV}{hp' hp2:List (Nat×av)}(h:gY P f args hp r hp')(b:Nat){e:TypeId}{ver st j:Nat}{ed:TypeId}{sd:Nat}{pre post:List (Bool×List PV)}
  (hb:lk hp' b=some (.bR e ver st j ed sd pre [] post))
  (e2:Kz ((b,.arr e ver st (pre.map (·.2)++post.map (·.2)))::hp') r (fun x h=>x=r2∧h=hp2)):gY P f args hp r2 hp2:=by
 refine⟨h.1,fun c R w bG hh ha=>(h.2 c R w bG hh ha).mono ?_⟩;rintro ex w' ⟨x,r0,dY,R',rfl,⟨e1,e3⟩,KA,hr⟩
 rw[e1,e3] at hr;rw[e3] at KA;have g:aR c R' ⟨[],0,hp'⟩ { tmps:=Array.replicate c.n undef,defers:=[] } w':=
  KA.JA (fun t v h=>by simp[lk] at h) (by simp) ⟨[],⟨fun d h=>by simp at h,rfl,by simp,fun d h=>by simp at h,fun d h=>by simp at h⟩⟩
 obtain⟨g1,m1⟩:=g.FI hb;obtain⟨r',EU,Wh,hQ,h1,h2⟩:=kM e2 g1.hap (m1 _ _ hr);exact⟨x,r',EU,Wh,rfl,hQ,h1,h2⟩
end
def Y4 (T:Tab):Tab:=
 match T with
 |x::y::r=>x::y::y::r
 |T=>T
theorem LA {P:Program}{T:Tab}(h:bC P T):bC P (Y4 T):=by
 intro t i hi;refine h t i ?_;unfold Y4 at hi;split at hi
 ·rename_i x y r;rw[aj,aj,aj] at hi;rw[aj,aj];by_cases e1:x.1=t
  ·rw[if_pos e1] at hi ⊢;exact hi
  rw[if_neg e1] at hi ⊢;by_cases e2:y.1=t
  ·rw[if_pos e2] at hi ⊢;exact hi
  rw[if_neg e2] at hi;rw[if_neg e2] at hi ⊢;exact hi
 exact hi
end Go.AX
namespace Go.AX
theorem zw {N:Nat→Prop}{w:World}{st j:Nat}{ed:TypeId}{sd:Nat}:∀{r1 r2:List (Bool×List PV)} {hs:List (Option Value)} {xs:List Value},bS N w st j ed sd hs (r1++r2) xs →
  ∃h1 h2,hs=h1++h2∧bS N w st j ed sd h1 r1 xs∧bS N w st j ed sd h2 r2 (xs.drop (r1.length*st))
 |[],r2,hs,xs,h=>⟨[],hs,rfl,by simp only[bS],by simpa using h⟩
 |(fl,r)::r1,r2,[],xs,h=>by simp only[List.cons_append,bS] at h
 | (fl,r)::r1,r2,h0::hs,xs,h=>by
   simp only[List.cons_append,bS] at h;obtain⟨a1,a2,a3⟩:=h;obtain⟨h1,h2,e,b1,b2⟩:=zw a3;refine⟨h0::h1,h2,by rw[e];rfl,?_,?_⟩
   ·simp only[bS];exact⟨a1,a2,b1⟩
   rw[List.drop_drop,show st+r1.length*st=((fl,r)::r1).length*st by rw[List.length_cons,Nat.succ_mul];omega] at b2;exact b2
section
variable {c:Ctx}{R:Real}{s:AS}{a:Act}{w:World}
theorem aR.OG (g:aR c R s a w){b:Nat}{e:TypeId}{ver st j:Nat}{ed:TypeId}{sd:Nat}{pre post pre' post':List (Bool×List PV)}(hb:lk s.hp b=some (.bR e ver st j ed sd pre [] post))(he:pre++post=pre'++post') :
  aR c R (s.app [(b,.bR e ver st j ed sd pre' [] post')]) a w:=by
 have hl:pre'.length+(bJ []+post'.length)=pre.length+(bJ []+post.length):=by
  have:=congrArg List.length he;simp only[List.length_append,bJ] at this ⊢;omega
 obtain⟨xs,hs1,hs2,a1,a2,a3,a4,a5,a6,a7⟩:=g.boxes b _ hb;refine (g.JU (aV:=.bR e ver st j ed sd pre' [] post') hb (fun off v h=>h.elim) (fun vr u h=>by simp only[aD] at h ⊢;rw[hl];exact h) (fun vr i off u h=>h) (fun r h=>h) (fun hm hN=>?_)).1;have h6:bS (aH c R s.hp) w st j ed sd hs2 post (xs.drop (pre.length*st)):=by simpa[bJ] using a6
 have h7:=p9 a3 h6;rw[he] at h7;obtain⟨k1,k2,e1,b1,b2⟩:=zw h7;have mono:∀{hs:List (Option Value)} {rs:List (Bool×List PV)} {zs:List Value},bS (aH c R s.hp) w st j ed sd hs rs zs→bS (aH c R ((b,av.bR e ver st j ed sd pre' [] post')::s.hp)) w st j ed sd hs rs zs:=
  fun h=>ic (fun r _ h=>hN r h) (fun _ _ _=>rfl) (fun _ _ _ _=>rfl) h
 refine⟨xs,k1,k2,a1.trans e1,by rw[hl];exact a2,mono b1,by simp[bJ],by simp only[bJ,Nat.zero_mul,List.take_zero,bq],?_,a7⟩;simpa[bJ] using mono b2
end
theorem dZ {s s':AS}(b:Nat){e:TypeId}{ver st j:Nat}{ed:TypeId}{sd:Nat}{pre post:List (Bool×List PV)}(pre' post':List (Bool×List PV))
  (hb:lk s.hp b=some (.bR e ver st j ed sd pre [] post)) (he:pre++post=pre'++post') (h:jU ⟨s.tm,s.nx,(b,.bR e ver st j ed sd pre' [] post')::s.hp⟩ s'):jU s s':=
 fun c R a w g=>h c R a w (g.OG hb he)
section
variable {P:Program}{c:Ctx}{R:Real}{s:AS}{a:Act}{w:World}
theorem qP {N:Nat→Prop}{hp:List (Nat×av)}:∀{ps:List PV} {vs:List Value},dM N w ps vs→bq N w hp R (ps.map .pv) (vs.take ps.length)
 |[],vs,_=>by simp[bq]
 | p::ps,vs,h=>by
   simp only[dM] at h;obtain⟨v,r,rfl,h1,h2,h3⟩:=h;simp only[List.map_cons,List.length_cons,List.take_succ_cons,bq];exact⟨v,_,rfl,h1,by simpa only[ah] using h2,qP h3⟩
end
section
variable {c:Ctx}{R:Real}{s:AS}{a:Act}{w:World}
theorem aR.QD (g:aR c R s a w){b:Nat}{e:TypeId}{ver st j:Nat}{ed:TypeId}{sd:Nat}{pre post:List (Bool×List PV)}{cs:List PV}(hc:cs≠[])
  (hb:lk s.hp b=some (.bR e ver st j ed sd pre [] ((false,cs)::post))) :
  ∃R',aR c R' (s.app [(b,.bR e ver st j ed sd pre (cs.map AV.pv) post)]) a w:=by
 obtain⟨xs,hs1,hs2,a1,a2,a3,a4,a5,a6,a7⟩:=g.boxes b _ hb;simp only[bJ,Nat.zero_mul,Nat.zero_add,List.drop_zero,List.take_zero,List.length_cons] at a2 a4 a5 a6;cases hs2 with
 |nil=>simp only[bS] at a6
 |cons h hs2=>
 simp only[bS] at a6;obtain⟨b1,b2,b3⟩:=a6;cases h with
 |some hv=>exact b2.elim
 |none=>
 obtain⟨R',hR'⟩:∃R',R'=jX R b (hs1++hs2):=⟨_,rfl⟩;have hcap:(R'.cap b).2=hs1++hs2:=by subst hR';simp[jX]
 have hsl:∀b' n,bA R' b' n=bA R b' n:=fun b' n=>by subst hR';exact uh
 have hbl:R'.blk=R.blk∧R'.nil=R.nil∧R'.Y=R.Y:=by subst hR';exact⟨rfl,rfl,rfl⟩
 have hno:∀v,some v∈(R'.cap b).2→some v∈(R.cap b).2:=fun v h=>by rw[hcap] at h;rw[a1];simp at h ⊢;exact h
 have hO:bJ (cs.map AV.pv)=1:=by
  cases hq:cs with
  |nil=>exact absurd hq hc
  |cons _ _=>rfl
 have l1:∀{b':Nat} {box:av},lk [(b,av.bR e ver st j ed sd pre (cs.map AV.pv) post)] b'=some box→b'=b∧box=.bR e ver st j ed sd pre (cs.map AV.pv) post:=by
  intro b' box h;rw[aj] at h;split at h
  ·rename_i e1;cases h;exact⟨e1.symm,rfl⟩
  simp[lk] at h
 have ho:∀b' r,ax R' b' r (lk ([(b,av.bR e ver st j ed sd pre (cs.map AV.pv) post)]++s.hp) b')→ax R b' r (lk s.hp b'):=by
  intro b' r h;rw[List.singleton_append,aj] at h;split at h
  ·rename_i e1;subst e1;rw[hb];rcases h with h|⟨v,hv,h2⟩
   ·rw[hbl.1,hbl.2.1] at h;exact .inl h
   exact .inr ⟨v,hno v hv,h2⟩
  rename_i e1;refine bU ⟨by rw[hbl.1],by rw[hbl.2.1],?_⟩ hbl.2.2 h;subst hR';exact qA (fun e=>e1 e.symm)
 obtain⟨g1,m1⟩:=g.swap (R':=R') (fs:=[(b,.bR e ver st j ed sd pre (cs.map AV.pv) post)]) hbl.2.2 (fun b' h=>by
   have hne:b'≠b:=fun e1=>by subst e1;rw[aj,if_pos rfl] at h;cases h
   exact⟨by rw[hbl.1],by rw[hbl.2.1],by subst hR';exact qA hne⟩)
  (fun b' box h off v hr=>by obtain⟨rfl,rfl⟩:=l1 h;rw[hb] at hr;exact hr.elim)
  (fun b' box h vr v hr=>by
   obtain⟨rfl,rfl⟩:=l1 h;rw[hb] at hr;have h0:bJ ([]:List AV)=0:=rfl;simp only[aD,hsl,hO,h0,List.length_cons,Nat.zero_add] at hr ⊢;rw[show pre.length+(1+post.length)=pre.length+(post.length+1) by omega];exact hr)
  (fun b' box h vr i off v hr=>by
   obtain⟨rfl,rfl⟩:=l1 h;rw[hb] at hr;simpa only[aK,hbl.1,hbl.2.1] using hr)
  (fun r ⟨b',h⟩=>⟨b',ho b' r h⟩) (fun b1 b2 r h1 h2=>g.inj b1 b2 r (ho b1 r h1) (ho b2 r h2))
  (fun hN hm b' box h=>by
   obtain⟨rfl,rfl⟩:=l1 h;have mono:∀{hs:List (Option Value)} {rs:List (Bool×List PV)} {zs:List Value},bS (aH c R s.hp) w st j ed sd hs rs zs→bS (aH c R' ([(b',av.bR e ver st j ed sd pre (cs.map AV.pv) post)]++s.hp)) w st j ed sd hs rs zs:=
    fun h=>ic (fun r _ h=>hN r h) (fun _ _ _=>rfl) (fun _ _ _ _=>rfl) h
   refine⟨xs,hs1,hs2,hcap,?_,mono a3,by rw[hO,List.length_map,b1,Nat.one_mul],?_,?_,?_⟩
   ·rw[hsl,hO,show pre.length+(1+post.length)=pre.length+(post.length+1) by omega];exact a2
   ·rw[hO,Nat.one_mul,←b1];have:=qP (R:=R') (hp:=[(b',av.bR e ver st j ed sd pre (cs.map AV.pv) post)]++s.hp) (bL (fun r _ h=>hN r h) (fun _ _ _=>rfl) _ _ b2);exact b1▸this
   ·rw[hO,Nat.one_mul];exact mono b3
   refine⟨?_,fun v r hv h2=>?_⟩
   ·rw[hcap];have h7:=a7.1;rw[a1] at h7;simpa using h7
   rw[hbl.1,hbl.2.1];exact a7.2 v r (hno v hv) h2)
 exact⟨R',g1⟩
end
theorem wG {s s':AS}(b:Nat){e:TypeId}{ver st j:Nat}{ed:TypeId}{sd:Nat}{pre post:List (Bool×List PV)}{cs:List PV}(hc:cs≠[])
  (hb:lk s.hp b=some (.bR e ver st j ed sd pre [] ((false,cs)::post))) (h:jU ⟨s.tm,s.nx,(b,.bR e ver st j ed sd pre (cs.map AV.pv) post)::s.hp⟩ s'):jU s s':=
 fun c R a w g=>by
  obtain⟨R',g1⟩:=g.QD hc hb;exact h c R' a w g1
end Go.AX
end
section
namespace Go.AX
end Go.AX
end
section
namespace Go.AX
section
variable {x:Rv}{now:Int}{r:Rs}
section
variable (h1:(VS x).ak.any (· == r.from_)=true)(h2:x.heard.any (· == r.from_)=false)
include h1 h2
end
end
end Go.AX
namespace Go.AX
end Go.AX
end
section
namespace Go.AX
end Go.AX
end
section
namespace Go.AX
def Mf:PV→Bool
 |.sc _=>true
 |.junk=>true
 |_=>false
mutual
def IL:AV→Bool
 |.pv p=>Mf p
 |.agg cs=>IQ cs
 |.fF cs=>IQ cs
 |.fn _ _ _=>false
 |_=>true
def IQ:List AV→Bool
 |[]=>true
 |x::r=>IL x&&IQ r
end
def FD:List (List PV)→Bool
 |[]=>true
 |x::r=>x.all Mf&&FD r
def IU:av→Bool
 |.var cells=>IQ cells
 |.arr _ _ _ rows=>FD rows
 |.bX _ _ rows=>rows.isEmpty
 |.dL _ _ _ pre row post=>FD pre&&(IQ row&&FD post)
 |_=>false
def Mg:List (Nat×av)→Bool
 |[]=>true
 |(_,x)::r=>IU x&&Mg r
theorem Ox:∀{hp:List (Nat×av)} {b:Nat} {box:av},Mg hp=true→lk hp b=some box→IU box=true
 |[],b,box,_,h=>by simp[lk] at h
 | (k,x)::r,b,box,hn,h=>by
   simp only[Mg,Bool.and_eq_true] at hn;rw[aj] at h;split at h
   ·cases h;exact hn.1
   exact Ox hn.2 h
section
variable {N N':Nat→Prop}{w:World}
theorem Oy {p:PV}{v:Value}(h:Mf p=true)(hr:aU N w p v):aU N' w p v:=by
 cases p<;>first|(simp[Mf] at h;done)|(simp only[aU] at hr ⊢;first|exact hr|skip)
theorem JW:∀{ps:List PV} {vs:List Value},ps.all Mf=true→dM N w ps vs→dM N' w ps vs
 |[],vs,_,_=>by simp only[dM]
 | p::ps,vs,h,hr=>by
   simp only[List.all_cons,Bool.and_eq_true] at h;simp only[dM] at hr ⊢;obtain⟨v,r,h1,h2,h3,h4⟩:=hr;exact⟨v,r,h1,h2,Oy h.1 h3,JW h.2 h4⟩
theorem xE {st:Nat}:∀{rows:List (List PV)} {vs:List Value},FD rows=true→bf N w st rows vs→bf N' w st rows vs
 |[],vs,_,_=>by simp only[bf]
 | r::rows,vs,h,hr=>by
   simp only[FD,Bool.and_eq_true] at h;simp only[bf] at hr ⊢;exact⟨hr.1,JW h.1 hr.2.1,xE h.2 hr.2.2⟩
variable {hp hp':List (Nat×av)}{R R':Real}(h1:∀b off v,aI R b off v (lk hp b)→aI R' b off v (lk hp' b))(h2:∀b ver v,aD R b ver v (lk hp b)→aD R' b ver v (lk hp' b))
  (h3:∀b ver i off v,aK R b ver i off v (lk hp b)→aK R' b ver i off v (lk hp' b))
include h1 h2 h3
mutual
theorem xG:∀(x:AV) (v:Value),IL x=true→ah N w hp R x v→ah N' w hp' R' x v
 |.pv p,v,h,hr=>by simp only[ah] at hr ⊢;exact Oy (by simpa only[IL] using h) hr
 | .agg cs,v,h,hr=>by
   simp only[ah] at hr ⊢;obtain⟨vs,a,b⟩:=hr;exact⟨vs,a,uf cs _ (by simpa only[IL] using h) b⟩
 | .fF cs,v,h,hr=>by
   simp only[ah] at hr ⊢;obtain⟨vs,a,b⟩:=hr;exact⟨vs,a,FE cs _ (by simpa only[IL] using h) b⟩
 |.ptr b off,v,h,hr=>by simp only[ah] at hr ⊢;exact h1 b off v hr
 |.aG b ver,v,h,hr=>by simp only[ah] at hr ⊢;exact h2 b ver v hr
 | .sub b ver st lo hi,v,h,hr=>by
   simp only[ah] at hr ⊢;obtain⟨u,a,c⟩:=hr;exact⟨u,h2 b ver u a,c⟩
 |.cB b ver i off,v,h,hr=>by simp only[ah] at hr ⊢;exact h3 b ver i off v hr
 |.fn _ _ _,v,h,hr=>by simp only[IL] at h;cases h
theorem FE:∀(l:List AV) (vs:List Value),IQ l=true→bB N w hp R l vs→bB N' w hp' R' l vs
 |[],vs,_,hr=>by simp only[bB] at hr ⊢;exact hr
 | x::l,vs,h,hr=>by
   simp only[IQ,Bool.and_eq_true] at h;simp only[bB] at hr ⊢;obtain⟨v,r,a,b,c⟩:=hr;exact⟨v,r,a,xG x v h.1 b,FE l r h.2 c⟩
theorem uf:∀(l:List AV) (vs:List Value),IQ l=true→bq N w hp R l vs→bq N' w hp' R' l vs
 |[],vs,_,hr=>by simp only[bq] at hr ⊢;exact hr
 | x::l,vs,h,hr=>by
   simp only[IQ,Bool.and_eq_true] at h;simp only[bq] at hr ⊢;obtain⟨v,r,a,a0,b,c⟩:=hr;exact⟨v,r,a,a0,xG x v h.1 b,uf l r h.2 c⟩
end
theorem Oz {b:Nat}{box:av}(e1:R'.blk b=R.blk b)(e2:R'.nil b=R.nil b)(e3:R'.cap b=R.cap b)(hn:IU box=true)(h:dm N w hp R b box):dm N' w hp' R' b box:=by
 have es:∀n,bA R' b n=bA R b n:=fun n=>by simp only[bA,e1,e2,e3]
 cases box with
 | var cells=>
   obtain⟨cur,e,a1,a2⟩:=h;exact⟨cur,e,by rw[e1];exact a1,uf h1 h2 h3 _ _ (by simpa only[IU] using hn) a2⟩
 | arr e ver st rows=>
   obtain⟨xs,a1,a2⟩:=h;exact⟨xs,by rw[es];exact a1,xE (by simpa only[IU] using hn) a2⟩
 | bX ver st rows=>
   simp only[IU,List.isEmpty_iff] at hn;subst hn;simp only[dm,es,aU] at h ⊢;obtain⟨p,len,cap,a1,a2,a3,a4,a5⟩:=h;exact⟨p,len,cap,a1,a2,a3,a4,fun a ha=>.inl trivial⟩
 | dL e ver st pre row post=>
   simp only[IU,Bool.and_eq_true] at hn;obtain⟨xs,a1,a2,a3,a4,a5⟩:=h;exact⟨xs,by rw[es];exact a1,xE hn.1 a2,a3,uf h1 h2 h3 _ _ hn.2.1 a4,xE hn.2.2 a5⟩
 |_=>simp only[IU] at hn;cases hn
end
section
variable {P:Program}
theorem lq {f:FuncId}{args:List AV}{dY fw:List (Nat×av)}{r:AV}(b:Nat)(hb:Nat.blt b 1000=true){e:TypeId}{st j:Nat}{ed:TypeId}{sd:Nat}{pre post:List (Bool×List PV)}{rows:List (List PV)}
  (hrw:rows=pre.map (·.2)++post.map (·.2)) (h:gY P f args ((b,.bX 0 st rows)::dY) r ((b,.bX 0 st rows)::fw)) (hn:Mg fw=true) (hr:IL r=true) :
  gY P f args ((b,.bR e 0 st j ed sd pre [] post)::dY) r ((b,.bR e 0 st j ed sd pre [] post)::fw):=by
 have hlen:rows.length=pre.length+(bJ []+post.length):=by rw[hrw];simp[bJ]
 obtain⟨B,hB⟩:∃B,B=av.bR e 0 st j ed sd pre [] post:=⟨_,rfl⟩;refine⟨h.1,fun c R w bG g ha=>?_⟩;rw[←hB] at g ha;have lb:∀(x:av) (l:List (Nat×av)),lk ((b,x)::l) b=some x:=fun x l=>by rw[aj,if_pos rfl]
 have ln:∀(x y:av) (l:List (Nat×av)) (k:Nat),k≠b→lk ((b,x)::l) k=lk ((b,y)::l) k:=fun x y l k hk=>by rw[aj,aj,if_neg (Ne.symm hk),if_neg (Ne.symm hk)]
 have hsub:∀(R:Real) (l:List (Nat×av)) (x k:Nat),ax R x k (lk ((b,.bX 0 st rows)::l) x)→x≠b∧ax R x k (lk ((b,B)::l) x):=fun R l x k ho=>by
  by_cases hx:x=b
  ·subst hx;rw[lb] at ho;exact ho.elim
  exact⟨hx,by rw[ln B (.bX 0 st rows) l x hx];exact ho⟩
 have hN1:∀k,aH c R ((b,.bX 0 st rows)::dY) k→aH c R ((b,B)::dY) k:=fun k hk=>hk.imp id fun⟨x,ho⟩=>⟨x,(hsub R dY x k ho).2⟩
 have jy:dm (aH c R ((b,B)::dY)) w ((b,B)::dY) R b B:=g.boxes b B (lb _ _);have Qy:∀k,ax R b k (some B)→¬aH c R ((b,.bX 0 st rows)::dY) k:=by
  intro k hk;have hk':ax R b k (lk ((b,B)::dY) b):=by rw[lb];exact hk
  rintro (hF|⟨x,ho⟩)
  ·exact g.free k ⟨b,hk'⟩ hF
  obtain⟨hx,ho⟩:=hsub R dY x k ho;exact hx (g.inj x b k ho hk')
 have hlt:∀k,ax R b k (some B)→k<w.heap.size:=by
  intro k hk;rw[hB] at hk;rw[hB] at jy;obtain⟨xs,hs1,hs2,a1,a2,a3,a4,a5,a6,a7⟩:=jy;rcases hk with ⟨k1,k2⟩|⟨v,k1,k2⟩
  ·rcases a2.2 with hnil|⟨g',cap,cur,e4,hb4,hg,_⟩
   ·exfalso;have:=hnil.1;unfold bA at this;rw[k1] at this;simp at this
   unfold bA at e4;rw[k1] at e4;simp at e4;rw[←k2,e4.1];exact size_of_getElem? hg
  rw[a1,List.mem_append] at k1;rcases k1 with k1|k1
  ·obtain⟨cur,hc⟩:=lu a3 v k1 k k2;exact size_of_getElem? hc
  obtain⟨cur,hc⟩:=lu a6 v k1 k k2;exact size_of_getElem? hc
 have q1:∀x off v,aI R x off v (lk ((b,B)::dY) x)→aI R x off v (lk ((b,.bX 0 st rows)::dY) x):=fun x off v hv=>by
  by_cases hx:x=b
  ·subst hx;rw[lb,hB] at hv;exact hv.elim
  rw[ln _ B dY x hx];exact hv
 have q2:∀x ver v,aD R x ver v (lk ((b,B)::dY) x)→aD R x ver v (lk ((b,.bX 0 st rows)::dY) x):=fun x ver v hv=>by
  by_cases hx:x=b
  ·subst hx;rw[lb,hB] at hv;rw[lb];simp only[aD,hlen] at hv ⊢;exact hv
  rw[ln _ B dY x hx];exact hv
 have q3:∀x ver i off v,aK R x ver i off v (lk ((b,B)::dY) x)→aK R x ver i off v (lk ((b,.bX 0 st rows)::dY) x):=fun x ver i off v hv=>by
  by_cases hx:x=b
  ·subst hx;rw[lb,hB] at hv;rw[lb];exact hv
  rw[ln _ B dY x hx];exact hv
 have hK1:∀(v:AV) (x:Value),(c.K v x∨(v=.aG b 0∧x=bA R b rows.length))→fQ v=true:=fun v x hv=>by
  rcases hv with hv|⟨rfl,_⟩
  ·exact c.hK v x hv
  exact hb
 obtain⟨c1,hc1⟩:∃c1:Ctx,c1={ F:=c.F,O:=owned R ((b,.bX 0 st rows)::dY),w:=w,n:=c.n,hF:=fun r h=>Nat.lt_of_lt_of_le (c.hF r h) g.gq.size,K:=fun v x=>c.K v x∨(v=.aG b 0∧x=bA R b rows.length),hK:=hK1,fix:=c.fix,n0:=c.n0,lo:=c.lo }:=⟨_,rfl⟩;have hNc:∀R l,aH c1 R l=aH c R l:=fun R l=>by subst hc1;rfl
 have g1:xk c1 R ((b,.bX 0 st rows)::dY) w:=by
  refine⟨?_,?_,?_,?_,?_,?_,?_,?_⟩
  ·intro x box hx;rw[hNc];by_cases FH:x=b
   ·subst FH;rw[lb] at hx;cases hx;rw[hB] at jy;obtain⟨xs,hs1,hs2,a1,a2,a3,a4,a5,a6,a7⟩:=jy;have hp:∀v,some v∈hs1++hs2→∀k,v.ownBlock=some k→¬aH c R ((x,.bX 0 st rows)::dY) k:=fun v hv k hk=>Qy k (by rw[hB];exact .inr ⟨v,by rw[a1];exact hv,hk⟩)
    rw[←hlen] at a2;have JX:∀k,aH c R ((x,.bX 0 st rows)::dY) k→aH c R ((x,av.bR e 0 st j ed sd pre [] post)::dY) k:=fun k hk=>by rw[←hB];exact hN1 k hk
    have hh:∀k,(bA R x rows.length).ownBlock=some k→¬aH c R ((x,.bX 0 st rows)::dY) k:=fun k hk=>Qy k (by rw[hB];exact .inl (JY hk))
    show aU (aH c R ((x,.bX 0 st rows)::dY)) w (.sl false st rows) (bA R x rows.length)
    generalize aH c R ((x,.bX 0 st rows)::dY)=N1 at *;refine JZ a2 ?_ hh;rw[hrw];refine pO (lD JX (fun v hv=>hp v (by simp[hv])) a3) ?_;rw[List.length_map];have:=lD JX (fun v hv=>hp v (by simp[hv])) a6;simpa[bJ] using this
   rw[ln _ B dY x FH] at hx;exact lF hN1 q1 q2 q3 rfl rfl rfl rfl (g.boxes x box hx)
  ·intro x y k h1 h2;exact g.inj x y k (hsub R dY x k h1).2 (hsub R dY y k h2).2
  ·intro k ⟨x,ho⟩;have:=g.free k ⟨x,(hsub R dY x k ho).2⟩;subst hc1;exact this
  ·subst hc1;exact iZ.refl _ _
  ·intro k hk;subst hc1;exact .inl hk
  ·intro v x hv;rw[hNc];subst hc1;rcases hv with hv|⟨rfl,rfl⟩
   ·exact bF (fun k _ hk=>hN1 k hk) (fun _ _ _=>rfl) q1 q2 q3 v x (g.kept v x hv)
   simp only[ah];rw[lb];exact⟨Nat.le_refl _,J2 _ _ _,fun _=>rfl⟩
  ·subst hc1;exact⟨g.fixed.obj,fun k o h1 ⟨x,ho⟩=>g.fixed.free k o h1 ⟨x,(hsub R dY x k ho).2⟩,g.fixed.nc⟩
  subst hc1;exact g.lo
 refine (h.2 c1 R w bG g1 (by rw[hNc];exact kH (fun k _ hk=>hN1 k hk) (fun _ _ _=>rfl) q1 q2 q3 _ _ ha)).mono ?_;rintro ex w' ⟨v,r0,YV,R',rfl,⟨rfl,rfl⟩,g2,OA⟩
 rw[hNc] at OA;have OB:iZ (owned R ((b,.bX 0 st rows)::dY)) w w':=by have:=g2.gq;subst hc1;exact this
 have Ls:∀k,owned R' ((b,.bX 0 st rows)::fw) k→owned R ((b,.bX 0 st rows)::dY) k∨w.heap.size≤k:=by have:=g2.eG;subst hc1;exact this
 have hsl:bA R' b rows.length=bA R b rows.length:=by
  have:=g2.kept (.aG b 0) (bA R b rows.length) (by subst hc1;exact .inr ⟨rfl,rfl⟩);simp only[ah] at this;rw[lb] at this;exact (this.2.2 rfl).symm
 have hnb:R'.nil b=R.nil b∧(R.nil b=false→R'.blk b=R.blk b):=by
  unfold bA at hsl;cases h1:R'.nil b<;>cases h2:R.nil b<;>rw[h1,h2] at hsl<;>simp at hsl ⊢
  exact hsl.1
 obtain⟨R2,J3⟩:∃R2:Real,R2={ blk:=fun x=>if x=b then R.blk b else R'.blk x,nil:=fun x=>if x=b then R.nil b else R'.nil x,cap:=fun x=>if x=b then R.cap b else R'.cap x,Y:=R'.Y }:=⟨_,rfl⟩;have rb:R2.blk b=R.blk b∧R2.nil b=R.nil b∧R2.cap b=R.cap b:=by subst J3;simp
 have rn:∀x,x≠b→R2.blk x=R'.blk x∧R2.nil x=R'.nil x∧R2.cap x=R'.cap x:=fun x hx=>by subst J3;simp[hx]
 have rY:R2.Y=R'.Y:=by subst J3;rfl
 have hs2:∀n,bA R2 b n=bA R b n:=fun n=>by simp only[bA,rb.1,rb.2.1,rb.2.2]
 have o1:∀x k,ax R2 x k (lk ((b,B)::fw) x)→(x=b∧ax R b k (some B))∨(x≠b∧ax R' x k (lk ((b,.bX 0 st rows)::fw) x)):=fun x k ho=>by
  by_cases hx:x=b
  ·subst hx;rw[lb,hB] at ho;refine .inl ⟨rfl,?_⟩;rw[hB];simp only[ax,rb.1,rb.2.1,rb.2.2] at ho ⊢;exact ho
  rw[ln B (.bX 0 st rows) fw x hx] at ho;exact .inr ⟨hx,bU (rn x hx) rY ho⟩
 have Wv:∀k,ax R b k (some B)→¬owned R' ((b,.bX 0 st rows)::fw) k:=fun k hk ho=>by
  rcases Ls k ho with h1|h1
  ·exact Qy k hk (.inr h1)
  have:=hlt k hk;omega
 have hnew:∀k,k<w.heap.size→aH c R2 ((b,B)::fw) k→aH c R ((b,B)::dY) k:=fun k hk hN=>by
  rcases hN with hF|⟨x,ho⟩
  ·exact .inl hF
  rcases o1 x k ho with ⟨rfl,ho⟩|⟨hx,ho⟩
  ·exact .inr ⟨x,by rw[lb];exact ho⟩
  rcases Ls k ⟨x,ho⟩ with h1|h1
  ·exact hN1 k (.inr h1)
  omega
 have hkeep:∀k,k<w.heap.size→¬owned R ((b,.bX 0 st rows)::dY) k→w'.heap[k]? = w.heap[k]? :=OB.keep;have p1:∀x off v,aI R' x off v (lk ((b,.bX 0 st rows)::fw) x)→aI R2 x off v (lk ((b,B)::fw) x):=fun x off v hv=>by
  by_cases hx:x=b
  ·subst hx;rw[lb] at hv;exact hv.elim
  rw[ln B (.bX 0 st rows) fw x hx];exact eP (rn x hx) hv
 have p2:∀x ver v,aD R' x ver v (lk ((b,.bX 0 st rows)::fw) x)→aD R2 x ver v (lk ((b,B)::fw) x):=fun x ver v hv=>by
  by_cases hx:x=b
  ·subst hx;rw[lb] at hv;rw[lb,hB];simp only[aD,hsl] at hv;simp only[aD,hs2,←hlen];exact hv
  rw[ln B (.bX 0 st rows) fw x hx];exact fM (rn x hx) hv
 have p3:∀x ver i off v,aK R' x ver i off v (lk ((b,.bX 0 st rows)::fw) x)→aK R2 x ver i off v (lk ((b,B)::fw) x):=fun x ver i off v hv=>by
  by_cases hx:x=b
  ·subst hx;rw[lb] at hv;rw[lb,hB];simp only[aK] at hv;simp only[aK,rb.1,rb.2.1];refine⟨hv.1,hv.2.1,fun hv2=>?_⟩;obtain⟨h1,h2⟩:=hv.2.2 hv2;rw[hnb.1] at h1;exact⟨h1,by rw[h2,hnb.2 h1]⟩
  rw[ln B (.bX 0 st rows) fw x hx];exact fO (rn x hx) hv
 refine⟨v,r0,(b,B)::fw,R2,rfl,⟨rfl,by rw[hB]⟩,⟨?_,?_,?_,?_,?_,?_,?_,?_⟩,xG p1 p2 p3 _ _ hr OA⟩
 ·intro x box hx;by_cases FH:x=b
  ·subst FH;rw[lb] at hx;cases hx;subst hB;exact gQ hnew (fun k hk hN=>hkeep k hk fun ho=>hN (hN1 k (.inr ho))) rb.1 rb.2.1 rb.2.2 (fun k hk=>hkeep k (hlt k hk) fun ho=>Qy k hk (.inr ho)) rfl (fun vs hv=>by simp only[bq] at hv ⊢;exact hv) jy
  rw[ln B (.bX 0 st rows) fw x FH] at hx;have hx2:lk fw x=some box:=by rw[aj,if_neg (Ne.symm FH)] at hx;exact hx
  exact Oz p1 p2 p3 (rn x FH).1 (rn x FH).2.1 (rn x FH).2.2 (Ox hn hx2) (g2.boxes x box hx)
 ·intro x y k h1 h2;rcases o1 x k h1 with ⟨rfl,h1⟩|⟨hx,h1⟩<;>rcases o1 y k h2 with ⟨rfl,h2⟩|⟨hy,h2⟩
  ·rfl
  ·exact absurd ⟨y,h2⟩ (Wv k h1)
  ·exact absurd ⟨x,h1⟩ (Wv k h2)
  exact g2.inj x y k h1 h2
 ·intro k ⟨x,ho⟩;rcases o1 x k ho with ⟨rfl,ho⟩|⟨hx,ho⟩
  ·exact g.free k ⟨x,by rw[lb];exact ho⟩
  have:=g2.free k ⟨x,ho⟩;subst hc1;exact this
 ·refine g.gq.trans OB fun k hk ho=>?_
  rcases g.eG k (by obtain⟨x,ho⟩:=ho;exact⟨x,(hsub R dY x k ho).2⟩) with h1|h1
  ·exact h1
  omega
 ·intro k ⟨x,ho⟩;rcases o1 x k ho with ⟨rfl,ho⟩|⟨hx,ho⟩
  ·exact g.eG k ⟨x,by rw[lb];exact ho⟩
  rcases Ls k ⟨x,ho⟩ with ⟨y,h1⟩|h1
  ·exact g.eG k ⟨y,(hsub R dY y k h1).2⟩
  exact .inr (Nat.le_trans g.gq.size h1)
 ·intro v x hv;have hl:=c.hK v x hv;have hnv:IL v=true:=by
   cases v<;>simp only[fQ] at hl<;>first|(cases hl;done)|rfl
  have:=g2.kept v x (by subst hc1;exact .inl hv);exact xG p1 p2 p3 v x hnv this
 ·refine⟨?_,?_,g.fixed.nc⟩
  ·have:=g2.fixed.obj;subst hc1;exact this
  intro k o h1 ⟨x,ho⟩;rcases o1 x k ho with ⟨rfl,ho⟩|⟨hx,ho⟩
  ·exact g.fixed.free k o h1 ⟨x,by rw[lb];exact ho⟩
  have:=g2.fixed.free k o (by subst hc1;exact h1);exact this ⟨x,ho⟩
 have:=g2.lo;rw[rY];subst hc1;exact this
end
section
variable {P:Program}
theorem QA {f:FuncId}{fw:List (Nat×av)}{r:AV}{st:Nat}{rows:List (List PV)}
  (h:gY P f [.pv (.sl false st rows)] [] r fw) (h0:lk fw 1=none):gY P f [.aG 1 0] [(1,.bX 0 st rows)] r ((1,.bX 0 st rows)::fw):=by
 refine⟨h.1,fun c R w bG g ha=>?_⟩;have lb:∀(l:List (Nat×av)),lk ((1,av.bX 0 st rows)::l) 1=some (.bX 0 st rows):=fun l=>by rw[aj,if_pos rfl]
 have ln:∀(l:List (Nat×av)) (k:Nat),k≠1→lk ((1,av.bX 0 st rows)::l) k=lk l k:=fun l k hk=>by rw[aj,if_neg (Ne.symm hk)]
 have lz:∀k,k≠1→lk [(1,av.bX 0 st rows)] k=none:=fun k hk=>by rw[ln _ _ hk];rfl
 have Ww:∀(R:Real) x k,¬ax R x k (lk ([]:List (Nat×av)) x):=fun R x k ho=>by simp only[lk,ax] at ho
 have no1:∀x k,¬ax R x k (lk [(1,av.bX 0 st rows)] x):=fun x k ho=>by
  by_cases hx:x=1
  ·subst hx;rw[lb] at ho;exact ho.elim
  rw[lz x hx] at ho;exact ho.elim
 have jy:aU (aH c R [(1,av.bX 0 st rows)]) w (.sl false st rows) (bA R 1 rows.length):=g.boxes 1 _ (lb _);obtain⟨c1,hc1⟩:∃c1:Ctx,c1={ F:=c.F,O:=fun _=>False,w:=w,n:=c.n,hF:=fun r h=>Nat.lt_of_lt_of_le (c.hF r h) g.gq.size,K:=fun _ _=>False,hK:=fun _ _ h=>h.elim,fix:=c.fix,n0:=c.n0,lo:=c.lo }:=⟨_,rfl⟩;have hNc:∀R l,aH c1 R l=aH c R l:=fun R l=>by subst hc1;rfl
 have g1:xk c1 R [] w:=by
  refine⟨?_,?_,?_,?_,?_,?_,?_,?_⟩
  ·intro x box hx;simp[lk] at hx
  ·intro x y k h1;exact absurd h1 (Ww R x k)
  ·rintro k ⟨x,ho⟩;exact absurd ho (Ww R x k)
  ·subst hc1;exact iZ.refl _ _
  ·rintro k ⟨x,ho⟩;exact absurd ho (Ww R x k)
  ·intro v x hv;subst hc1;exact hv.elim
  ·subst hc1;exact⟨g.fixed.obj,fun k o h1 ⟨x,ho⟩=>absurd ho (Ww R x k),g.fixed.nc⟩
  subst hc1;exact g.lo
 have YW:bB (aH c1 R []) w [] R [.pv (.sl false st rows)] bG.toList:=by
  rw[hNc];simp only[bB,ah] at ha ⊢;obtain⟨v,l,e1,e2,e3⟩:=ha;rw[lb] at e2;refine⟨v,l,e1,?_,e3⟩;rw[e2.2.2 rfl];refine bN (fun k _ hk=>?_) (fun _ _ _=>rfl) _ _ jy;rcases hk with hF|⟨x,ho⟩
  ·exact .inl hF
  exact absurd ho (Ww R x k)
 refine (h.2 c1 R w bG g1 YW).mono ?_;rintro ex w' ⟨v,r0,YV,R',rfl,⟨e1,e2⟩,g2,OA⟩
 have e1:=e1.symm;have e2:=e2.symm;subst e1;subst e2;rw[hNc] at OA;have OB:iZ (fun _=>False) w w':=by have:=g2.gq;subst hc1;exact this
 have Ls:∀k,owned R' fw k→w.heap.size≤k:=fun k hk=>by
  have:=g2.eG k hk;subst hc1;exact this.elim (fun h=>h.elim) id
 obtain⟨R2,J3⟩:∃R2:Real,R2={ blk:=fun x=>if x=1 then R.blk 1 else R'.blk x,nil:=fun x=>if x=1 then R.nil 1 else R'.nil x,cap:=fun x=>if x=1 then R.cap 1 else R'.cap x,Y:=R'.Y }:=⟨_,rfl⟩;have rb:R2.blk 1=R.blk 1∧R2.nil 1=R.nil 1∧R2.cap 1=R.cap 1:=by subst J3;simp
 have rn:∀x,x≠1→R2.blk x=R'.blk x∧R2.nil x=R'.nil x∧R2.cap x=R'.cap x:=fun x hx=>by subst J3;simp[hx]
 have rY:R2.Y=R'.Y:=by subst J3;rfl
 have hs2:∀n,bA R2 1 n=bA R 1 n:=fun n=>by simp only[bA,rb.1,rb.2.1,rb.2.2]
 have o1:∀x k,ax R2 x k (lk ((1,av.bX 0 st rows)::fw) x)→x≠1∧ax R' x k (lk fw x):=fun x k ho=>by
  by_cases hx:x=1
  ·subst hx;rw[lb] at ho;exact ho.elim
  rw[ln _ x hx] at ho;exact⟨hx,bU (rn x hx) rY ho⟩
 have hsub:∀k,aH c R2 ((1,av.bX 0 st rows)::fw) k→aH c R' fw k:=fun k hN=>hN.imp id fun⟨x,ho⟩=>⟨x,(o1 x k ho).2⟩
 have p1:∀x off v,aI R' x off v (lk fw x)→aI R2 x off v (lk ((1,av.bX 0 st rows)::fw) x):=fun x off v hv=>by
  by_cases hx:x=1
  ·subst hx;rw[h0] at hv;exact hv.elim
  rw[ln _ x hx];exact eP (rn x hx) hv
 have p2:∀x ver v,aD R' x ver v (lk fw x)→aD R2 x ver v (lk ((1,av.bX 0 st rows)::fw) x):=fun x ver v hv=>by
  by_cases hx:x=1
  ·subst hx;rw[h0] at hv;exact hv.elim
  rw[ln _ x hx];exact fM (rn x hx) hv
 have p3:∀x ver i off v,aK R' x ver i off v (lk fw x)→aK R2 x ver i off v (lk ((1,av.bX 0 st rows)::fw) x):=fun x ver i off v hv=>by
  by_cases hx:x=1
  ·subst hx;rw[h0] at hv;exact hv.elim
  rw[ln _ x hx];exact fO (rn x hx) hv
 refine⟨v,r,(1,.bX 0 st rows)::fw,R2,rfl,⟨rfl,rfl⟩,⟨?_,?_,?_,?_,?_,?_,?_,?_⟩,bF (fun k _ hk=>hsub k hk) (fun _ _ _=>rfl) p1 p2 p3 _ _ OA⟩
 ·intro x box hx;by_cases FH:x=1
  ·subst FH;rw[lb] at hx;cases hx;show aU _ w' (.sl false st rows) (bA R2 1 rows.length)
   rw[hs2];refine bN (fun k hk hN=>?_) (fun k hk _=>OB.keep k hk (fun h=>h)) _ _ jy;rcases hsub k hN with hF|ho
   ·exact .inl hF
   have:=Ls k ho;omega
  rw[ln _ x FH] at hx;have hh:=g2.boxes x box hx;rw[hNc] at hh;exact lF hsub p1 p2 p3 rY (rn x FH).1 (rn x FH).2.1 (rn x FH).2.2 hh
 ·intro x y k h1 h2;exact g2.inj x y k (o1 x k h1).2 (o1 y k h2).2
 ·rintro k ⟨x,ho⟩
  have:=g2.free k ⟨x,(o1 x k ho).2⟩;subst hc1;exact this
 ·exact g.gq.trans OB fun k hk ho=>ho.elim
 ·rintro k ⟨x,ho⟩
  exact .inr (Nat.le_trans g.gq.size (Ls k ⟨x,(o1 x k ho).2⟩))
 ·intro v x hv;have hl:=c.hK v x hv;have hk:=g.kept v x hv;cases v with
  | ptr b off=>
    simp only[ah] at hk;by_cases hb:b=1
    ·subst hb;rw[lb] at hk;exact hk.elim
    rw[lz b hb] at hk;exact hk.elim
  | aG b ver=>
    simp only[ah] at hk ⊢;by_cases hb:b=1
    ·subst hb;rw[lb] at hk ⊢;simp only[aD,hs2] at hk ⊢;exact hk
    rw[lz b hb] at hk;exact hk.elim
  | cB b ver i off=>
    simp only[ah] at hk ⊢;by_cases hb:b=1
    ·subst hb;rw[lb] at hk ⊢;simp only[aK,rb.1,rb.2.1] at hk ⊢;exact hk
    rw[lz b hb] at hk;exact hk.elim
  |_=>simp only[fQ] at hl;cases hl
 ·refine⟨?_,?_,g.fixed.nc⟩
  ·have:=g2.fixed.obj;subst hc1;exact this
  rintro k o h1 ⟨x,ho⟩
  exact g2.fixed.free k o (by subst hc1;exact h1) ⟨x,(o1 x k ho).2⟩
 have:=g2.lo;rw[rY];subst hc1;exact this
end
section
variable {P:Program}
theorem Lu {f:FuncId}{args:List AV}{dY fw:List (Nat×av)}{r:AV}(b:Nat)(hb:Nat.blt b 1000=true){e:TypeId}{st:Nat}{rows:List (List PV)}
  (h:gY P f args ((b,.bX 0 st rows)::dY) r ((b,.bX 0 st rows)::fw)) (hn:Mg fw=true) (hr:IL r=true) :
  gY P f args ((b,.arr e 0 st rows)::dY) r ((b,.arr e 0 st rows)::fw):=by
 have h1:=lq (pre:=[]) (post:=rows.map fun x=>(false,x)) (e:=e) (j:=0) (ed:=0) (sd:=0) b hb (by rw[List.map_map];exact (List.map_id' rows).symm) h hn hr;obtain⟨F,hF⟩:∃F,F=av.bR e 0 st 0 0 0 [] [] (rows.map fun x=>(false,x)):=⟨_,rfl⟩;have hlk:∀(x y:av) (l:List (Nat×av)) (k:Nat),lk ((b,x)::l) k=lk ((b,x)::(b,y)::l) k:=fun x y l k=>by
  rw[aj,aj,aj];split<;>rfl
 refine⟨h1.1,fun c R w bG g ha=>?_⟩;have g0:aR c R ⟨[],0,(b,.arr e 0 st rows)::dY⟩ { tmps:=Array.replicate c.n undef,defers:=[] } w:=
  g.JA (fun t v h=>by simp[lk] at h) (by simp) ⟨[],⟨fun d h=>by simp at h,rfl,by simp,fun d h=>by simp at h,fun d h=>by simp at h⟩⟩
 obtain⟨R1,ga,m1⟩:=g0.OC (e:=e) (ver:=0) (st:=st) (rows:=rows) 0 0 0 (b:=b) (by simp[aj]);have YX:=aR.congr (tm':=[]) (hp':=(b,.bR e 0 st 0 0 0 [] [] (rows.map fun x=>(false,x)))::dY) ga (fun _=>rfl) (hlk _ _ _);refine (h1.2 c R1 w bG YX.hap ?_).mono ?_
 ·rw[bZ] at ha ⊢;exact FL.imp ha fun p v hv=>jI (hlk _ _ _) (m1 p v hv)
 rintro ex w' ⟨v,r0,YV,R',rfl,⟨e1,e2⟩,g2,OA⟩
 rw[e1,e2] at OA;rw[e2] at g2;have g3:aR c R' ⟨[],0,(b,.bR e 0 st 0 0 0 [] [] (rows.map fun x=>(false,x)))::fw⟩ { tmps:=Array.replicate c.n undef,defers:=[] } w':=
  g2.JA (fun t v h=>by simp[lk] at h) (by simp) ⟨[],⟨fun d h=>by simp at h,rfl,by simp,fun d h=>by simp at h,fun d h=>by simp at h⟩⟩
 obtain⟨g4,m4⟩:=g3.FI (b:=b) (e:=e) (ver:=0) (st:=st) (j:=0) (ed:=0) (sd:=0) (pre:=[]) (post:=rows.map fun x=>(false,x)) (by simp[aj]);have Mt:List.map (fun x=>x.2) ([]:List (Bool×List PV))++List.map (fun x=>x.2) (rows.map fun x=>(false,x))=rows:=by rw[List.map_nil,List.nil_append,List.map_map];exact List.map_id' rows
 rw[Mt] at g4 m4;have g5:=aR.congr (tm':=[]) (hp':=(b,.arr e 0 st rows)::fw) g4 (fun _=>rfl) (hlk _ _ _);exact⟨v,r,_,R',rfl,⟨rfl,rfl⟩,g5.hap,jI (hlk _ _ _) (m4 _ _ OA)⟩
theorem ng {f:FuncId}{args:List AV}{hp hp2 hp' Ua:List (Nat×av)}{r:AV}(h:gY P f args hp r hp')(e1:∀k,lk hp k=lk hp2 k)(e2:∀k,lk Ua k=lk hp' k):gY P f args hp2 r Ua:=by
 refine⟨h.1,fun c R w bG g ha=>?_⟩;have g0:aR c R ⟨[],0,hp2⟩ { tmps:=Array.replicate c.n undef,defers:=[] } w:=
  g.JA (fun t v h=>by simp[lk] at h) (by simp) ⟨[],⟨fun d h=>by simp at h,rfl,by simp,fun d h=>by simp at h,fun d h=>by simp at h⟩⟩
 have YX:=aR.congr (tm':=[]) (hp':=hp) g0 (fun _=>rfl) e1;refine (h.2 c R w bG YX.hap ?_).mono ?_
 ·rw[bZ] at ha ⊢;exact FL.imp ha fun p v hv=>jI e1 hv
 rintro ex w' ⟨v,r0,YV,R',rfl,⟨e3,e4⟩,g2,OA⟩
 rw[e3,e4] at OA;rw[e4] at g2;have g3:aR c R' ⟨[],0,hp'⟩ { tmps:=Array.replicate c.n undef,defers:=[] } w':=
  g2.JA (fun t v h=>by simp[lk] at h) (by simp) ⟨[],⟨fun d h=>by simp at h,rfl,by simp,fun d h=>by simp at h,fun d h=>by simp at h⟩⟩
 have g5:=aR.congr (tm':=[]) (hp':=Ua) g3 (fun _=>rfl) e2;exact⟨v,r,_,R',rfl,⟨rfl,rfl⟩,g5.hap,jI e2 OA⟩
theorem iM {α:Type}(a b:Nat)(x y:α)(l:List (Nat×α))(h:Nat.beq a b=false)(k:Nat):lk ((a,x)::(b,y)::l) k=lk ((b,y)::(a,x)::l) k:=by
 have:=Nat.ne_of_beq_eq_false h;simp only[aj];split<;>split<;>first|rfl|omega
end
def YZ (H:List (Nat×av)):AV→AV
 |.fF cs=>.fF (cs.map (RU H))
 |x=>RU H x
section
variable {P:Program}{c:Ctx}{R:Real}{s:AS}{a:Act}{w:World}
theorem BS (g:aR c R s a w):∀{cs:List AV} {us:List Value},bB (aH c R s.hp) w s.hp R cs us→bB (aH c R s.hp) w s.hp R (cs.map (RU s.hp)) us
 |[],us,h=>h
 | x::r,us,h=>by
   simp only[List.map_cons,bB] at h ⊢;obtain⟨v,XV,e,h1,h2⟩:=h;exact⟨v,XV,e,qy g h1,BS g h2⟩
theorem Lv (g:aR c R s a w){x:AV}{u:Value}(h:ah (aH c R s.hp) w s.hp R x u):ah (aH c R s.hp) w s.hp R (YZ s.hp x) u:=by
 cases x with
 | fF cs=>
   simp only[YZ,ah] at h ⊢;obtain⟨vs,e,h⟩:=h;exact⟨vs,e,BS g h⟩
 |_=>exact qy g h
theorem kE {f:FuncId}{args:List AV}{hp:List (Nat×av)}{r:AV}{hp':List (Nat×av)}(h:gY P f args hp r hp')(ids:List Nat){r2:AV}{hp2:List (Nat×av)}
  (e:match D7 hp' ids with|some fs=>Kz (fs++hp') (YZ (fs++hp') r) (fun x h=>x=r2∧h=hp2)|none=>False):gY P f args hp r2 hp2:=by
 refine⟨h.1,fun c R w bG hh ha=>(h.2 c R w bG hh ha).mono ?_⟩;rintro ex w' ⟨v,r0,dY,R',rfl,⟨e1,e2⟩,KA,hr⟩
 rw[e1,e2] at hr;rw[e2] at KA;split at e
 ·rename_i fs hfs;have g:aR c R' ⟨[],0,hp'⟩ { tmps:=Array.replicate c.n undef,defers:=[] } w':=
   KA.JA (fun t v h=>by simp[lk] at h) (by simp) ⟨[],⟨fun d h=>by simp at h,rfl,by simp,fun d h=>by simp at h,fun d h=>by simp at h⟩⟩
  obtain⟨g1,m1,_⟩:=iR g (fun _ _ h=>h) _ _ hfs;obtain⟨r',EU,Wh,hQ,h1,h2⟩:=kM e g1.hap (Lv g1 (m1 _ _ hr));exact⟨v,r',EU,Wh,rfl,hQ,h1,h2⟩
 exact e.elim
end
open Go.ChangeShapes Go.WideShapes Go.RowKit
section
variable {H:Type}{enc:TypeId×Value→H}{P:Program}
theorem qN (hl:laidOutB P=true){W W':World}(hb:Below W.heap.size W W'){sp:Nat→Bool}:∀{ts:List TypeId} {vs:List Value} {ds:List (DataW H)} {ps:List MemPlace},
  (∀t∈ts,P.readableRec t=true∧t<P.types.size)→DataW.TrodAll enc P W 0 (fun _=>true) true ts vs ds ps→(∀p∈ps,p.block<W.heap.size)→(∀p∈ps,sp p.block=true) →
  DataW.TrodAll enc P W' 0 sp true ts vs ds ps
 |[],[],[],_,_,h,_,_=>h
 |[],_::_,_,_,_,h,_,_=>h.elim
 |[],[],_::_,_,_,h,_,_=>h.elim
 |_::_,[],_,_,_,h,_,_=>h.elim
 |_::_,_::_,[],_,_,h,_,_=>h.elim
 | t::ts,v::vs,d::ds,_,hr,h,hlt,hsp=>by
   obtain⟨p,q,h1,h2,rfl⟩:=h;have ht:=hr t (by simp);exact⟨p,q,WideElems.Trod_stays hl ht.1 ht.2 h1 (fun x hx=>hb.same (hlt x (by simp[hx]))) (fun x hx=>hsp x (by simp[hx])),
    qN hl hb (fun t' ht'=>hr t' (by simp[ht'])) h2 (fun x hx=>hlt x (by simp[hx])) (fun x hx=>hsp x (by simp[hx])),rfl⟩
theorem NG {f:FuncId}{fn:Func}{s:ChangeSpec}{W:World}{args:Array Value}{ds gs:List (DataW H)}{before:List MemPlace}{pvs:List PV}{bt:TypeId}
  (hl:laidOutB P=true) (hrd:(fn.params.toList.all fun t=>P.readableRec t&&decide (t<P.types.size))=true) (hrt:fn.resultTypes = #[bt]) (hbt:P.underlying bt=some .bool)
  (hvars:s.vars=[]) (hfn:s.fn H (ds++gs)={ results:=[.lit (.bool true)],args:=ds })
  (hW:DataW.Whole enc P fn.params.toList s.vars false W args.toList ds gs before) (hc:dH P f pvs (.sc (.bool true))) (hr:cZ N0 W pvs args.toList) :
  Calls P f args W fun e W'=>∃v,e=.returned v∧s.post enc P fn false true false false W args v W':=by
 refine (hc.2 N0 W args (fun r h=>h.elim) hr).mono fun e W' ⟨v,r,he,hq,hrep,hsame⟩=>⟨v,he,?_⟩
 subst hq;simp only[aU] at hrep;subst hrep;have hb:Below W.heap.size W W':=⟨hsame.os,hsame.tape,hsame.output,hsame.size,fun k hk=>hsame.keep k hk id⟩;have hold:∀p∈before,(fun b=>decide (b<W.heap.size)) p.block=true:=fun p hp=>by simpa using hW.lt p hp
 have Tk:∀p∈before,p.block<W.heap.size:=fun p hp=>hW.lt p hp
 have XR:=hW;obtain⟨p,q,hA,hV,rfl,hz,hn⟩:=hW;rw[hvars] at hV;obtain⟨rfl,rfl⟩:=trodVars_none hV;simp only[List.append_nil] at Tk hold hz hn XR hfn;have hres:∀(b:Nat) (sp:Nat→Bool) (hd:Bool),DataW.TrodAll enc P W' b sp hd fn.resultTypes.toList ((Value.bool true).resultList fn.resultTypes.size) (s.fn H (ds++[])).results []:=by
  intro b sp hd;simp only[List.append_nil,hfn,hrt];exact trodAll_mk1 (shut_bool hbt true)
 have hargs:∀sp:Nat→Bool,(∀x∈p,sp x.block=true)→DataW.TrodAll enc P W' 0 sp true fn.params.toList args.toList (s.fn H (ds++[])).args p:=by
  intro sp hsp;simp only[List.append_nil,hfn];exact qN hl hb (fun t ht=>by simpa using List.all_eq_true.1 hrd t ht) hA Tk hsp
 have hvv:∀sp:Nat→Bool,DataW.TrodVars enc P W' sp s.vars (s.fn H (ds++[])).vars []:=by
  intro sp;simp only[List.append_nil,hfn,hvars];exact rfl
 refine⟨ds,[],p,[],p,[],XR,hres _ _ _,hargs _ hold,hvv _,hb.frame _,fun _=>?_⟩;refine⟨ok_one hrt rfl (okWide_bool_mk hbt true),_,_,([]++p)++[],⟨[]++p,[],trodAll_append (hargs _ (fun _ _=>rfl)) (hres _ _ _),hvv _,rfl,?_,?_⟩,?_⟩
 ·intro b off hp;simp only[List.nil_append,List.append_nil] at hp;have:=Tk _ hp;rw[hb.frozen (p:=⟨b,off,none⟩) this];exact hz b off hp
 ·intro ha;simpa using hn ha
 intro x hx _;simpa using hx
end
theorem xB {α:Type}{c:α→List PV}{R:α→Prop}:∀{rows:List (List PV)},(∀r∈rows,∃x:α,r=c x∧R x)→∃l:List α,rows=l.map c∧∀x∈l,R x
 |[],_=>⟨[],rfl,by simp⟩
 | r::rows,h=>by
   obtain⟨x,rfl,hx⟩:=h r (by simp);obtain⟨l,rfl,hl⟩:=xB (rows:=rows) (c:=c) (R:=R) fun r hr=>h r (by simp[hr])
   exact⟨x::l,rfl,by simpa using ⟨hx,hl⟩⟩
theorem wf_i64 {i:Int}(h:(Lit.int .i64 i).wf=true) : -9223372036854775808≤i∧i≤9223372036854775807:=by
 simpa[Lit.wf,IntKind.min,IntKind.max,IntKind.signed,IntKind.bits] using h
theorem wf_u64 {i:Int}(h:(Lit.int .u64 i).wf=true):0≤i∧i≤18446744073709551615:=by
 simpa[Lit.wf,IntKind.min,IntKind.max,IntKind.signed,IntKind.bits] using h
theorem wf_u8 {i:Int}(h:(Lit.int .u8 i).wf=true):0≤i∧i≤255:=by
 simpa[Lit.wf,IntKind.min,IntKind.max,IntKind.signed,IntKind.bits] using h
end Go.AX
end
