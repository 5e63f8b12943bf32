/-
  Conditions: none. A framework for walks: abstract values, memory, and conditions that suffice; the chapters in plain terms.
-/
import Derived.Test.YtfoiekbkkbnpkaaGreatAe
import Derived.Shelf.SlSortCmp.WholeK
import Derived.Test.YtfoiekbkkbnpkaaGreatAd
set_option linter.unusedSectionVars false
set_option linter.unusedVariables false
set_option linter.unusedSimpArgs false
section
namespace Go.AX
open Go.Sort Go.Shelf Go.Proofs
theorem EA {N:Nat→Prop}{w:World}:∀{vals vs:List Value},(∀v∈vals,v.oneCell'=true)→(∀j,j<vals.length→vs[j]? = vals[j]?)→eY N w (vals.map .sc) vs
 |[],vs,_,_=>by simp only[List.map_nil,eY]
 | v::r,vs,h1,h=>by
   have h0:=h 0 (by simp);match vs,h0 with
   | v'::MH,h0=>
     simp only[List.getElem?_cons_zero,Option.some.injEq] at h0;subst h0;refine⟨v',MH,rfl,h1 v' (by simp),by simp only[aU],EA (fun u hu=>h1 u (by simp[hu])) fun j hj=>?_⟩;have:=h (j+1) (by simpa using hj);simpa using this
theorem EB {N:Nat→Prop}{w:World}:∀{vals vs:List Value},eY N w (vals.map .sc) vs→∀j,j<vals.length→vs[j]? = vals[j]?
 |[],vs,_,j,hj=>by simp at hj
 | v::r,vs,h,j,hj=>by
   obtain⟨v',MH,rfl,_,hv,h⟩:=h;simp only[aU] at hv;subst hv;cases j with
   |zero=>rfl
   |succ j=>simpa using EB h j (by simpa using hj)
section
variable {α:Type}[Inhabited α]{P:Program}{f g:Nat}{enc:α→List Value}{st:Nat}{e:TypeId}
theorem VE (sorted:Array α→Array α)(h0:0<st)(hl:∀x,(enc x).length=st)(h1:∀x,∀v∈enc x,v.oneCell'=true)(hsz:∀d,(sorted d).size=d.size)
  (aaB:∀(blk cap:Nat) (d:Array α) (w:World),HoldsK enc st w blk 0 d→blk<w.heap.size→d.size<4611686018427387904 →
   Calls P f #[.slice (some ⟨blk,0,none⟩) d.size cap,.func (.func g) #[] #[]] w fun e w'=>e=.returned (.tuple #[])∧∃n os,w'=sortWorldK enc st w blk 0 n (sorted d) os)
  (hnil:dP P f [.sc (.slice none 0 0),.fn (.func g) [] []] (.fM [])) (l:List α) (hll:l.length<4611686018427387904) :
  lg P f [.aZ 1 0,.pv (.fn (.func g) [] [])] [(1,.arr e 0 st (l.map fun x=>(enc x).map .sc))] (.pv (.fM [])) [(1,.arr e 0 st ((sorted l.toArray).toList.map fun x=>(enc x).map .sc))]:=by
 refine⟨hnil.1,fun c R w bQ hh ha=>?_⟩;obtain⟨a,ha1,ha2⟩:∃a:Act,a.tmps.size=c.n∧a.defers=[]:=⟨{ tmps:=Array.replicate c.n undef,defers:=[] },by simp,rfl⟩;have gm:=hh.U1 (tm:=[]) (nx:=0) (a:=a) (fun t v h=>by simp[lk] at h) ha1 (by rw[ha2];exact⟨[],Marks.nil⟩);have hbx:=hh.boxes 1 _ (show lk [(1,_)] 1=some _ from rfl);obtain⟨v1,r1,e1,hv1,v2,r2,rfl,hv2,rfl⟩:=ha;have Yl:bQ = #[v1,v2]:=by rw[←Array.toList_inj,e1]
 subst Yl;simp only[ai,lk,Nat.beq,aD] at hv1;have hv1:=hv1.2.2 trivial;have ado:v2=.func (.func g) #[] #[]:=by
  simp only[ai,aU,dI] at hv2;obtain⟨fs,cs,rfl,h3,h4⟩:=hv2;rw[Array.toList_eq_nil_iff] at h3 h4;subst h3;subst h4;rfl
 subst ado;cases hn:R.nil 1 with
 | true=>
   obtain⟨xs,⟨_,h3⟩,_⟩:=hbx;have hlz:l=[]:=by
    rcases h3 with ⟨_,h3⟩|⟨g',cap,cur,e1,_⟩
    ·simpa using h3
    simp[bO,hn] at e1
   subst hlz;have hsl:v1=.slice none 0 0:=by rw[hv1];simp[bO,hn]
   subst hsl;refine (hnil.2 (fun _=>False) w _ (fun r h=>h.elim) ?_).mono fun e' w' ⟨v,r,he,hr,hrep,hsame⟩=>?_
   ·exact⟨_,_,rfl,by simp only[aU],_,_,rfl,by simp only[aU];exact⟨#[],#[],rfl,by simp only[dI],by simp only[dI]⟩,by simp only[dI]⟩
   subst hr;have hs0:(sorted (#[]:Array α)).toList=[]:=by
    have:=hsz #[];exact List.eq_nil_of_length_eq_zero (by simpa using this)
   refine⟨v,_,_,R,he,⟨rfl,rfl⟩,?_,?_⟩
   ·simp only[show ([]:List α).toArray = #[] from rfl,hs0];exact (gm.grow hsame).hap
   simp only[ai];simp only[aU] at hrep ⊢;obtain⟨vs,h5,h6⟩:=hrep;simp only[dI] at h6 ⊢;exact⟨vs,h5,h6⟩
 | false=>
   obtain⟨cur,hg,hs,hle,hm,hr,_⟩:=eO hbx hn;simp only[List.length_map] at hle hv1;have hsl:v1=.slice (some ⟨R.blk 1,0,none⟩) l.toArray.size ((R.cap 1).1):=by rw[hv1];simp[bO,hn]
   subst hsl;have hcell:∀i (hi:i<l.length) j,j<st→cur[i*st+j]? = (enc l[i])[j]? :=by
    intro i hi j hj;obtain⟨_,q⟩:=oV (i:=i) (row:=(enc l[i]).map .sc) hr (by simp[hi]);have:=EB q j (by rw[hl];exact hj);rw[List.getElem?_drop,Array.getElem?_toList] at this;exact this
   have hK:HoldsK enc st w (R.blk 1) 0 l.toArray:=by
    intro j hj;rw[size_flatK] at hj;rw[get_flatK _ _ _ _ hj];have hi:j / st<l.length:=(Nat.div_lt_iff_lt_mul h0).2 hj;have hm:j%st<st:=Nat.mod_lt _ h0;have:=hcell _ hi _ hm;rw[show j / st*st+j%st=j from by rw[Nat.mul_comm];exact Nat.div_add_mod j st] at this;refine⟨?_,by simp[World.frozen?,hg]⟩;simp only[World.cell?,hg,Option.isSome_none,Bool.false_eq_true,if_false,Nat.zero_add,this,id];rw[getElem!_pos l.toArray _ (by simpa using hi),getElem!_pos _ _ (by simp only[List.getElem_toArray];rw[hl];exact hm)];simp only[List.getElem_toArray];rw[List.getElem?_eq_getElem (by rw[hl];exact hm)]
   have hblk:R.blk 1<w.heap.size:=size_of_getElem? hg;refine (aaB (R.blk 1) ((R.cap 1).1) l.toArray w hK hblk (by simpa using hll)).mono fun e' w' ⟨he,n,os,hw⟩=>?_
   have AZ:w'.heap=(w.heap.modify (R.blk 1) (onCells (putCells id 0 (Go.Sort.flatK enc st (sorted l.toArray)))))++os:=by subst hw;rfl
   have hbk:w'.heap[R.blk 1]? = some (.cells (putCells id 0 (Go.Sort.flatK enc st (sorted l.toArray)) cur) e (0,0)):=by
    rw[AZ,Array.getElem?_append_left (by simpa using hblk),Array.getElem?_modify,if_pos rfl,hg];rfl
   have Ym:∀r,r<w.heap.size→r≠R.blk 1→w'.heap[r]? = w.heap[r]? :=by
    intro r hr hne;rw[AZ,Array.getElem?_append_left (by simpa using hr),Array.getElem?_modify,if_neg (fun h=>hne h.symm)]
   have hworld:kK (fun r=>ax R 1 r (lk [(1,au.arr e 0 st (l.map fun x=>(enc x).map .sc))] 1)) w w':=by
    refine⟨by rw[AZ];simp,fun r hr hno=>Ym r hr fun h=>hno ?_,by subst hw;rfl,by subst hw;rfl,by subst hw;rfl⟩;subst h;exact⟨hn,rfl⟩
   have hlen:(sorted l.toArray).size=l.length:=by rw[hsz];simp
   have hR:∀b',b'≠1→R.blk b'=R.blk b'∧R.nil b'=R.nil b'∧R.cap b'=R.cap b':=fun _ _=>⟨rfl,rfl,rfl⟩
   have adp:((sorted l.toArray).toList.map fun x=>(enc x).map PV.sc).length=(l.map fun x=>(enc x).map PV.sc).length:=by simp[hlen]
   have r1:∀off v,aH R 1 off v (lk [(1,au.arr e 0 st (l.map fun x=>(enc x).map .sc))] 1)→aH R 1 off v (some (.arr e 0 st ((sorted l.toArray).toList.map fun x=>(enc x).map .sc))):=fun off v h=>h
   have r2:∀ver v,aD R 1 ver v (lk [(1,au.arr e 0 st (l.map fun x=>(enc x).map .sc))] 1)→aD R 1 ver v (some (.arr e 0 st ((sorted l.toArray).toList.map fun x=>(enc x).map .sc))):=fun ver v h=>by
    simp only[lk,Nat.beq,aD,adp] at h ⊢;exact h
   have r3:∀ver i off v,aJ R 1 ver i off v (lk [(1,au.arr e 0 st (l.map fun x=>(enc x).map .sc))] 1)→aJ R 1 ver i off v (some (.arr e 0 st ((sorted l.toArray).toList.map fun x=>(enc x).map .sc))):=fun ver i off v h=>h
   have hown:∀r,ax R 1 r (some (.arr e 0 st ((sorted l.toArray).toList.map fun x=>(enc x).map .sc)))→ax R 1 r (lk [(1,au.arr e 0 st (l.map fun x=>(enc x).map .sc))] 1)∨w.heap.size≤r:=fun r h=>.inl h
   have gm':=gm.upd (nx':=0) hR r1 r2 r3 hown hworld (by
    refine⟨(putCells id 0 (Go.Sort.flatK enc st (sorted l.toArray)) cur).toList.take ((sorted l.toArray).size*st),⟨?_,.inr ⟨R.blk 1,(R.cap 1).1,_,by simp[bO,hn],Nat.zero_le _,hbk,by simp only[List.length_map,Array.length_toList,hlen];exact hle,hm,?_,by simp⟩⟩,F7 fun i hi=>?_⟩
    ·simp only[List.length_take,Array.length_toList,putCells,Array.size_mapIdx,List.length_map];have:(sorted l.toArray).size*st≤(R.cap 1).1*st:=Nat.mul_le_mul_right _ (by omega);omega
    ·simp only[putCells,Array.size_mapIdx];exact hs
    simp only[List.length_map,Array.length_toList] at hi;simp only[List.getElem_map,Array.getElem_toList,List.length_map];refine⟨hl _,EA (h1 _) fun j hj=>?_⟩;rw[hl] at hj;have hij:i*st+j<(sorted l.toArray).size*st:=by
     have:(i+1)*st≤(sorted l.toArray).size*st:=Nat.mul_le_mul_right _ hi;rw[Nat.add_mul] at this;omega
    have hcs:i*st+j<cur.size:=by
     have:(sorted l.toArray).size*st≤(R.cap 1).1*st:=Nat.mul_le_mul_right _ (by omega);omega
    rw[List.getElem?_drop,List.getElem?_take,if_pos hij,Array.getElem?_toList];simp only[putCells,Array.getElem?_mapIdx,size_flatK,Nat.zero_le,Nat.zero_add,true_and,hij,if_true,Nat.sub_zero,id];rw[Array.getElem?_eq_getElem hcs];simp only[Option.map_some];rw[get_flatK _ _ _ _ hij];have e3:(i*st+j) / st=i:=by rw[Nat.mul_comm,Nat.mul_add_div h0,Nat.div_eq_of_lt hj,Nat.add_zero]
    have e4:(i*st+j)%st=j:=by rw[Nat.mul_comm,Nat.mul_add_mod,Nat.mod_eq_of_lt hj]
    rw[e3,e4,getElem!_pos (sorted l.toArray) _ hi,getElem!_pos (enc (sorted l.toArray)[i]) _ (by rw[hl];exact hj),List.getElem?_eq_getElem (by rw[hl];exact hj)])
   have H:RI [(1,.old 1 0)] ((1,au.arr e 0 st ((sorted l.toArray).toList.map fun x=>(enc x).map .sc))::[(1,au.arr e 0 st (l.map fun x=>(enc x).map .sc))]) [(1,au.arr e 0 st ((sorted l.toArray).toList.map fun x=>(enc x).map .sc))]:=by
    refine F4 (X:=True) rfl ?_;repeat' first|exact True.intro|exact rfl|exact id|exact aC _|((conv=>whnf);with_reducible apply And.intro)|((conv=>whnf);exact True.intro)
   refine⟨_,_,[(1,.arr e 0 st ((sorted l.toArray).toList.map fun x=>(enc x).map .sc))],_,he,⟨rfl,rfl⟩,gm'.hap.weaken H,?_⟩;simp only[ai,aU,dI];exact⟨#[],rfl,rfl⟩
end
def bR (n l m:Int):Bool:=decide (l≤n)&&decide (n≤m)
def rY (x:Pl):Bool:=bR x.node 1 15&&bR x.bf 1 4611686018427387903
def jY (w:Int)(f:Fr):Bool:=bR f.first 1 9&&(bR f.ah.length w 5&&(f.ah.all rY&&decide (f.ah.map (·.node)).Nodup))
def oh (l:List Fr):Bool:=
 match l with
 |[]=>false
 |f::_=>f.first==1
def bL (w:Int)(l:List Fr):Bool:=bR l.length 1 6&&(oh l&&(l.all (jY w)&&decide (l.Pairwise fun a b=>a.first<b.first)))
def eH (l:Lg):Bool:=bR l.id 1 4611686018427387903&&(bR l.a 1 l.w&&(decide (l.w≤5)&&(bL l.w l.aj&&(bR l.closed 0 1&&decide (l.last≤8*l.closed)))))
theorem qw {α:Type}{key:α→Int}{l:List α}(h:∀j (hj:j+1<l.length),key (l[j]'(by omega))<key l[j+1]):l.Pairwise fun a b=>key a<key b:=by
 rw[List.pairwise_iff_getElem];intro i j hi hj hij;induction j with
 |zero=>omega
 | succ j ih=>
   by_cases e:i=j
   ·subst e;exact h i hj
   exact Int.lt_trans (ih (by omega) (by omega)) (h j hj)
def zx (x y:Pl):Int:=Go.Lib.compareInt x.node y.node
def wS (d:Array Pl):Array Pl:=Go.Sort.pdq (Go.Proofs.ltOf zx) d 0 d.size (Go.Lib.bitLen d.size) true true
def sortPl (l:List Pl):List Pl:=(wS l.toArray).toList
theorem VK (x y:Pl):Go.Proofs.ltOf zx x y=decide (x.node<y.node):=by
 unfold Go.Proofs.ltOf zx Go.Lib.compareInt;by_cases h1:x.node<y.node
 ·simp[h1]
 by_cases h2:y.node<x.node<;>simp[h1,h2]
theorem Xw:Go.Sort.SWO (Go.Proofs.ltOf zx) where
 irrefl x:=by rw[VK];simp
 trans x y z h1 h2:=by rw[VK] at *;simp at *;omega
 ntrans x y z h1 h2:=by rw[VK] at *;simp at *;omega
theorem rZ (d:Array Pl):Go.Sort.PermIn 0 d.size d (wS d)∧Go.Sort.SortedIn (Go.Proofs.ltOf zx) 0 d.size (wS d):=
 Go.Sort.pdq_sorts (Go.Proofs.ltOf zx) Xw d 0 d.size (Go.Lib.bitLen d.size) true true (Nat.zero_le _) (Nat.le_refl _) (Or.inl rfl)
theorem BP (d:Array Pl):(wS d).size=d.size:=(rZ d).1.1
theorem IV (l:List Pl):(sortPl l).Perm l:=by
 have h:=(rZ l.toArray).1;have h1:=h.1;have h2:=h.2.2;rw[show (wS l.toArray).extract 0 l.toArray.size=wS l.toArray from by rw[←h1];simp,show l.toArray.extract 0 l.toArray.size=l.toArray from by simp] at h2;exact h2
theorem DK (l:List Pl):(sortPl l).Pairwise fun a b=>a.node≤b.node:=by
 have h:=(rZ l.toArray).2;have h1:=BP l.toArray;rw[List.pairwise_iff_getElem];intro i j hi hj hij;simp only[sortPl,Array.length_toList] at hi hj;have:=h i j (Nat.zero_le _) hij (by omega);rw[VK,getElem!_pos (wS l.toArray) j hj,getElem!_pos (wS l.toArray) i hi] at this;simp only[sortPl,Array.getElem_toList];simp at this;exact this
theorem IW (l:List Pl):decide ((sortPl l).Pairwise fun a b=>a.node<b.node)=decide (l.map (·.node)).Nodup:=by
 rw[decide_eq_decide];have hp:=(IV l).map (·.node);rw[←hp.nodup_iff];unfold List.Nodup;rw[List.pairwise_map];constructor
 ·intro h;exact h.imp fun {a b} h=>by omega
 intro h;exact ((DK l).and h).imp fun {a b} h=>by omega
def Lg.ok (l:Lg):Prop:=∀x∈l.aj,x.ah.length≤8796093022208
section
variable {α:Type}
def Fr.ok (f:Fr):Prop:=0≤f.first∧f.first≤18446744073709551615∧f.ah.length≤8796093022208
def iN (l:List Fr):Prop:=∀x∈l,x.ok
def jZ (p:α→Bool)(l:List α):Option α:=l.foldl (fun o x=>if p x then some x else o) none
theorem K6 {β:Type}(f:β→α→β)(a:β)(l:List α)(k:Nat)(h:k<l.length):(l.take (k+1)).foldl f a=f ((l.take k).foldl f a) l[k]:=by
 rw[List.take_succ_eq_append_getElem h,List.foldl_append];rfl
theorem tX (p:α→Bool):∀(l:List α) (x:α),jZ p l=some x→x∈l∧p x=true:=by
 have:∀(l:List α) (o:Option α) (x:α),l.foldl (fun o x=>if p x then some x else o) o=some x→(x∈l∧p x=true)∨o=some x:=by
  intro l;induction l with
  |nil=>intro o x h;exact .inr h
  | cons y l ih=>
    intro o x h;rcases ih _ x h with ⟨h1,h2⟩|h1
    ·exact .inl ⟨by simp[h1],h2⟩
    simp only at h1;split at h1
    ·simp only[Option.some.injEq] at h1;subst h1;rename_i hp;exact .inl ⟨by simp,hp⟩
    exact .inr h1
 intro l x h;rcases this l none x h with h|h
 ·exact h
 cases h
def gT (l:List Fr)(n:Int):Option Fr:=jZ (fun f=>decide (f.first≤n)) l
def jI:Fr:=⟨0,[]⟩
def dZ (l:List Pl)(k w:Nat):List Pl:=(List.range w).map fun i=>l[(k+i)%l.length]!
def setOf (l:List Fr)(w n:Int):List Pl:=
 match gT l n with
 |none=>[]
 |some f=>if 1≤w∧w≤f.ah.length then dZ f.ah ((n-f.first)%f.ah.length).toNat w.toNat else []
theorem yH {l:List Fr}(h:iN l){n:Int}{f:Fr}(hf:gT l n=some f):f.ok∧f.first≤n:=by
 obtain⟨h1,h2⟩:=tX _ _ _ hf;exact⟨h f h1,by simpa using h2⟩
theorem K7 {l:List Fr}(h:iN l)(n:Int):((gT l n).getD jI).ah.length≤8796093022208:=by
 cases hf:gT l n with
 |none=>simp[jI]
 |some f=>exact (yH h hf).1.2.2
def VL (f:Ft)(a now:Int):Ft:={ f with at_:=(max a 0).tmod f.set.length,since:=now }
def Xx (f:Ft):Rq:={ to:=f.set[f.at_.toNat]!,kind:=3,dM:=f.dM,n:=f.n,aX:=f.tag,sure:=0,copy:=0,body:=[],keep:=[] }
structure Hd (p:Prop):Prop where
 out:p
def lu (p:α→Bool):List α→Int
 |[]=>-1
 | x::r=>match lu p r with
   |.ofNat n=>n+1
   |.negSucc _=>if p x then 0 else -1
theorem r9 (p:α→Bool):∀{l:List α},(∀x∈l,p x=false)→lu p l = -1
 |[],_=>rfl
 | x::r,h=>by
   have e:=r9 p (l:=r) fun y hy=>h y (by simp[hy])
   simp only[lu,e,h x (by simp)];rfl
theorem EJ (p:α→Bool):∀{l:List α} {k:Nat} (hk:k<l.length),(∀j (hj:j<l.length),k<j→p l[j]=false)→p l[k]=true→lu p l=k
 |[],k,hk,_,_=>by simp at hk
 | x::r,0,_,h,h'=>by
   have e:=r9 p (l:=r) fun y hy=>by
    obtain⟨j,hj,rfl⟩:=List.getElem_of_mem hy;have:=h (j+1) (by simpa using hj) (by omega);simpa using this
   simp only[List.getElem_cons_zero] at h';simp only[lu,e,h'];rfl
 | x::r,k+1,hk,h,h'=>by
   simp only[List.getElem_cons_succ] at h';have e:=EJ p (l:=r) (k:=k) (by simpa using hk) (fun j hj hlt=>by
    have:=h (j+1) (by simpa using hj) (by omega);simpa using this) h'
   simp only[lu,e];show ((k:Int)+1=_)
   omega
theorem BQ (p:α→Bool)(x:α)(r:List α):jZ p (x::r)=(jZ p r).or (if p x then some x else none):=by
 have:∀(l:List α) (o:Option α),l.foldl (fun o x=>if p x then some x else o) o=(l.foldl (fun o x=>if p x then some x else o) none).or o:=by
  intro l;induction l with
  |nil=>intro o;simp
  | cons y l ih=>
    intro o;simp only[List.foldl_cons];rw[ih,ih (if p y then some y else none)];split<;>simp
 simp only[jZ,List.foldl_cons];rw[this]
theorem wU (p:α→Bool):∀(l:List α),(lu p l = -1∧jZ p l=none)∨∃k,∃hk:k<l.length,lu p l=(k:Nat)∧jZ p l=some l[k]
 |[]=>.inl ⟨rfl,rfl⟩
 | x::r=>by
   rw[BQ];rcases wU p r with ⟨h1,h2⟩|⟨k,hk,h1,h2⟩
   ·cases hx:p x with
    | true=>
      refine .inr ⟨0,by simp,?_,by simp[h2]⟩;simp only[lu,h1,hx];rfl
    | false=>
      refine .inl ⟨?_,by simp[h2]⟩;simp only[lu,h1,hx];rfl
   refine .inr ⟨k+1,by simpa using hk,?_,by simp[h2]⟩;simp only[lu,h1];show ((k:Int)+1=_)
   omega
def sj (w:Int)(l:List Fr)(j:Nat)(hj:j<l.length):Prop:=
 l[j].first≤9∧(∀h:0<j,(l[j-1]'(by omega)).first<l[j].first)∧w≤l[j].ah.length∧l[j].ah.length≤5∧l[j].ah.all rY=true∧(l[j].ah.map (·.node)).Nodup
theorem vg (l:List Fr):oh l=true↔∃h:0<l.length,l[0].first=1:=by
 cases l with
 |nil=>simp[oh]
 |cons f r=>simp[oh]
theorem jw (w:Int)(l:List Fr):bL w l=true↔1≤l.length∧l.length≤6∧oh l=true∧∀j (hj:j<l.length),sj w l j hj:=by
 simp only[bL,Bool.and_eq_true,bR,decide_eq_true_eq,List.all_eq_true];constructor
 ·rintro⟨⟨h1,h2⟩,h3,h4,h5⟩
  refine⟨by omega,by omega,h3,fun j hj=>?_⟩;have:=h4 l[j] (List.getElem_mem hj);simp only[jY,Bool.and_eq_true,bR,decide_eq_true_eq,List.all_eq_true] at this;obtain⟨⟨a1,a2⟩,⟨a3,a4⟩,a5,a6⟩:=this;refine⟨a2,fun h=>?_,a3,by omega,List.all_eq_true.2 a5,a6⟩;exact List.pairwise_iff_getElem.1 h5 (j-1) j (by omega) hj (by omega)
 rintro⟨h1,h2,h3,h4⟩
 refine⟨⟨by omega,by omega⟩,h3,fun x hx=>?_,?_⟩
 ·obtain⟨j,hj,rfl⟩:=List.getElem_of_mem hx;obtain⟨a2,a1,a3,a4,a5,a6⟩:=h4 j hj;simp only[jY,Bool.and_eq_true,bR,decide_eq_true_eq];refine⟨⟨?_,a2⟩,⟨a3,by omega⟩,a5,a6⟩;obtain⟨h0,e0⟩:=(vg l).1 h3;have:∀j (hj:j<l.length),1≤l[j].first:=by
   intro j;induction j with
   |zero=>intro hj;omega
   | succ j ih=>
     intro hj;have:=ih (by omega);have:=(h4 (j+1) hj).2.1 (by omega);simp only[Nat.add_sub_cancel] at this;omega
  exact this j hj
 exact qw (key:=fun f:Fr=>f.first) fun j hj=>by
  have:=(h4 (j+1) hj).2.1 (by omega);simp only[Nat.add_sub_cancel] at this;exact this
theorem K8 {w:Int}{l:List Fr}{j:Nat}(hj:j<l.length)(h:¬sj w l j hj):bL w l=false:=by
 cases e:bL w l with
 |false=>rfl
 |true=>exact absurd (((jw w l).1 e).2.2.2 j hj) h
theorem K9 {l:List Pl}{k:Nat}(hk:k<l.length)(h:((l.take k).map (·.node)).Nodup)(h':∀i (hi:i<l.length),i<k→l[i].node≠l[k].node):((l.take (k+1)).map (·.node)).Nodup:=by
 rw[List.take_succ_eq_append_getElem hk,List.map_append];rw[List.nodup_append];refine⟨h,by simp,?_⟩;intro a ha b hb;simp only[List.map_cons,List.map_nil,List.mem_singleton] at hb;subst hb;obtain⟨x,hx,rfl⟩:=List.mem_map.1 ha;obtain⟨i,hi,rfl⟩:=List.getElem_of_mem hx;rw[List.length_take] at hi;rw[List.getElem_take];exact h' i (by omega) (by omega)
theorem BR {w n:Int}{l:List Fr}(h:bL w l=true)(hn:1≤n):∃f,gT l n=some f∧f∈l:=by
 obtain⟨h1,h2,h3,h4⟩:=(jw w l).1 h;obtain⟨h0,e0⟩:=(vg l).1 h3;cases hf:gT l n with
 |some f=>exact⟨f,rfl,(tX _ _ _ hf).1⟩
 | none=>
   exfalso;have:∀(l:List Fr),jZ (fun f:Fr=>decide (f.first≤n)) l=none→∀x∈l,¬x.first≤n:=by
    intro l;induction l with
    |nil=>intro _ x hx;simp at hx
    | cons y l ih=>
      intro hn x hx;rw[BQ] at hn;simp only[Option.or_eq_none_iff] at hn;rcases List.mem_cons.1 hx with rfl|hx
      ·intro hle;have:=hn.2;simp[hle] at this
      exact ih hn.1 x hx
   exact this l hf l[0] (List.getElem_mem h0) (by omega)
theorem O7 {l:Lg}(h:eH l=true){n:Int}(hn:1≤n):(setOf l.aj l.w n).length=l.w.toNat∧1≤l.w∧l.w≤5:=by
 simp only[eH,Bool.and_eq_true,bR,decide_eq_true_eq] at h;obtain⟨⟨a1,a2⟩,⟨a3,a4⟩,a5,a6,⟨a7,a8⟩,a9⟩:=h;obtain⟨f,hf,hm⟩:=BR a6 hn;obtain⟨j,hj,rfl⟩:=List.getElem_of_mem hm;have g:=((jw _ _).1 a6).2.2.2 j hj;refine⟨?_,by omega,a5⟩;simp only[setOf,hf];rw[if_pos ⟨by omega,g.2.2.1⟩];simp[dZ]
theorem mod_succ (a n:Nat)(h:0<n):(a+1)%n=if a%n+1=n then 0 else a%n+1:=by
 have h1:=Nat.div_add_mod a n;have h2:=Nat.mod_lt a h;split
 ·rename_i e;have:a+1=n*(a / n+1):=by rw[Nat.mul_add];omega
  rw[this,Nat.mul_mod_right]
 have:a+1=n*(a / n)+(a%n+1):=by omega
 rw[this,Nat.mul_add_mod,Nat.mod_eq_of_lt (by omega)]
end
structure Cl where
 what:Int
 own:Int
 now:Int
 r:Rs
 l:Lg
deriving DecidableEq,Inhabited
def Cl.c (x:Cl):List PV:=[ii x.what,ii x.own,uu x.now,ii x.r.from_.node,uu x.r.from_.bf,ii x.r.kind,ii x.r.code,uu x.r.dM,uu x.r.n,uu x.r.aX,uu x.r.sure,Db x.r.body,
 uu x.l.id,ii x.l.w,ii x.l.a,eT x.l.aj,ii x.l.closed,uu x.l.last]
def zy (l:List Fr):Bool:=decide (l.length>30)||l.any fun f=>decide ((f.ah.length:Int)>30)
def eD (n:Int):Prop:=0≤n∧n≤18446744073709551615
def wV (n:Int):Prop:=-9223372036854775808≤n∧n≤9223372036854775807
def lgR (l:Lg):Prop:=eD l.id∧wV l.w∧wV l.a∧wV l.closed∧eD l.last∧∀f∈l.aj,eD f.first
theorem IY {l:Lg}(h:lgR l)(hl:zy l.aj=false):iN l.aj∧l.ok:=by
 simp only[zy,Bool.or_eq_false_iff,List.any_eq_false,decide_eq_true_eq] at hl;refine⟨fun f hf=>?_,fun f hf=>?_⟩
 ·have:=h.2.2.2.2.2 f hf;have:=hl.2 f hf;exact⟨by simp only[eD] at *;omega,by simp only[eD] at *;omega,by omega⟩
 have:=hl.2 f hf;omega
structure IZ (n:Int)(f:Ft):Prop where
 n:f.n=n
 pos:0<f.set.length
 len:f.set.length≤5
 at0:0≤f.at_
 at1:f.at_<f.set.length
 body:f.body.length≤5000
 since:eD f.since
 done:f.done=0∨f.done=1
theorem IZ.sm {n:Int}{f:Ft}(h:IZ n f):f.set.length≤8796093022208∧f.body.length≤140737488355328:=⟨by have:=h.len;omega,by have:=h.body;omega⟩
theorem O8 {n:Int}{f:Ft}{a now:Int}(hn:f.n=n)(hp:0<f.set.length)(hl:f.set.length≤5)(hb:f.body.length≤5000)(hd:f.done=0∨f.done=1)(Ae:eD now):IZ n (VL f a now):=by
 have h0:0≤(max a 0).tmod f.set.length:=Int.tmod_nonneg _ (by omega);have h1:(max a 0).tmod f.set.length<f.set.length:=by
  rw[Int.tmod_eq_emod_of_nonneg (by omega)];exact Int.emod_lt_of_pos _ (by omega)
 exact⟨hn,hp,hl,h0,h1,hb,Ae,hd⟩
end Go.AX
end
section
namespace Go.AX
end Go.AX
end
section
namespace Go.AX
theorem VN {n:Int}{f:Ft}(h:IZ n f){j:Nat}(hj:f.at_=((j%f.set.length:Nat):Int))(now:Int):(VL f (f.at_+1) now).at_=(((j+1)%f.set.length:Nat):Int):=by
 have hl:=h.pos;simp only[VL];rw[hj,show max (((j%f.set.length:Nat):Int)+1) 0=((j%f.set.length+1:Nat):Int) from by omega,←Int.ofNat_tmod];congr 1
 rw[Nat.mod_add_mod]
structure Zz (n:Int)(S:List Pl)(a0:Nat)(has:Pl)(f:Ft)(now:Int)(J:Nat)(pend:Bool):Prop where
 good:IZ n f
 done:f.done=0
 set:f.set=S
 at_:f.at_=(((a0+J)%S.length:Nat):Int)
 since:f.since≤now
 seen:∀i,1≤i→i≤J→(i<J∨pend=false)→S[(a0+i)%S.length]! ≠ has
theorem Zz.ask {n:Int}{S:List Pl}{a0:Nat}{has:Pl}{f:Ft}{now VO:Int}{J:Nat}(u:Zz n S a0 has f now J false)(Ae:eD VO):Zz n S a0 has (VL f (f.at_+1) VO) VO (J+1) true:=by
 have hs:=u.set;refine⟨O8 u.good.n u.good.pos u.good.len u.good.body u.good.done Ae,u.done,u.set,?_,Int.le_refl _,fun i h1 h2 h3=>u.seen i h1 (by rcases h3 with h3|h3;(omega);(cases h3)) (.inr rfl)⟩;have:=VN u.good (j:=a0+J) (by rw[u.at_,hs]) VO;rw[this,hs];rfl
theorem Zz.passed {n:Int}{S:List Pl}{a0:Nat}{has:Pl}{f:Ft}{now:Int}{J:Nat}(u:Zz n S a0 has f now J true)(hne:(Xx f).to≠has):Zz n S a0 has f now J false:=by
 refine⟨u.good,u.done,u.set,u.at_,u.since,fun i h1 h2 h3=>?_⟩;by_cases c:i<J
 ·exact u.seen i h1 h2 (.inl c)
 have e:i=J:=by omega
 subst e;intro hx;apply hne;simp only[Xx,u.set,u.at_,Int.toNat_natCast];exact hx
structure Cp where
 l:Lg
 from_:Pl
 to:Pl
 phase:Int
 n:Int
 none:List Pl
 body:List UInt8
 born:Int
 since:Int
deriving DecidableEq
def Cp.c (x:Cp):List PV:=[uu x.l.id,ii x.l.w,ii x.l.a,eT x.l.aj,ii x.l.closed,uu x.l.last,ii x.from_.node,uu x.from_.bf,ii x.to.node,uu x.to.bf,ii x.phase,uu x.n,dO x.none,Db x.body,uu x.born,uu x.since]
def Cp.v (x:Cp)(no:AV):List AV:=[.pv (uu x.l.id),.pv (ii x.l.w),.pv (ii x.l.a),.pv (eT x.l.aj),.pv (ii x.l.closed),.pv (uu x.l.last),.pv (ii x.from_.node),.pv (uu x.from_.bf),.pv (ii x.to.node),.pv (uu x.to.bf),.pv (ii x.phase),.pv (uu x.n),no,.pv (Db x.body),.pv (uu x.born),.pv (uu x.since)]
def wW (l:List Pl)(from_ to:Pl):Bool:=l.any fun p=>p.node==to.node&&p != from_
def BS (l:Lg)(from_ to:Pl):Bool:=
 (l.aj.all fun f=>!(f.ah.any (· == from_)) || !wW f.ah from_ to)&&(l.aj.any fun f=>f.ah.any (· == from_))&&from_ != to
def wX (l:Lg):Bool:=eH l&&l.closed==1
structure Cp.sm (c:Cp):Prop where
 h1:c.none.length≤8796093022208
 h2:c.body.length≤140737488355328
 h3:c.l.aj.length≤4398046511104
 h4:c.l.ok
def Cp.z:List AV:=[.pv (uu 0),.pv (ii 0),.pv (ii 0),.pv dV,.pv (ii 0),.pv (uu 0),.pv (ii 0),.pv (uu 0),.pv (ii 0),.pv (uu 0),.pv (ii 0),.pv (uu 0),.pv dV,.pv dV,.pv (uu 0),.pv (uu 0)]
def iV (l:Lg)(from_:Pl)(behind:Int)(k:Nat):List Int:=
 ((List.range' k ((l.last-behind).toNat-k)).map fun (i:Nat)=>behind+1+(i:Int)).filter fun n=>(setOf l.aj l.w n).any (· == from_)
theorem zA (l:Lg)(from_:Pl)(behind:Int)(k:Nat)(h:¬behind+1+(k:Int)≤l.last):iV l from_ behind k=[]:=by
 have:(l.last-behind).toNat-k=0:=by omega
 simp[iV,this]
theorem Gd (l:Lg)(from_:Pl)(behind:Int)(k:Nat)(h:behind+1+(k:Int)≤l.last):iV l from_ behind k =
  if (setOf l.aj l.w (behind+1+(k:Int))).any (· == from_) then (behind+1+(k:Int))::iV l from_ behind (k+1) else iV l from_ behind (k+1):=by
 obtain⟨m,hm⟩:∃m,(l.last-behind).toNat-k=m+1:=⟨(l.last-behind).toNat-k-1,by omega⟩;have hm':(l.last-behind).toNat-(k+1)=m:=by omega
 simp only[iV,hm,hm',List.range'_succ,List.map_cons,List.filter_cons]
def qx (l:Lg)(from_:Pl)(behind:Int):List Int:=
 if wX l&&decide (behind<l.last) then iV l from_ behind 0 else []
def others (c:Cp):List Pl:=(setOf c.l.aj c.l.w c.n).filter fun p=>!(p==c.from_)
def VP (c:Cp)(now:Int):Cp×List Rq:=
 if c.phase=2 then ({ c with since:=now },[⟨c.to,1,c.l.id,c.n,0,c.l.last,1,c.body,[]⟩])
 else
  let none':=if (others c).all fun p=>c.none.any (· == p) then [] else c.none
  ({ c with since:=now,none:=none' },((others c).filter fun p=>!none'.any (· == p)).map fun p=>⟨p,3,c.l.id,c.n,0,0,0,[],[]⟩)
def U4 (c:Cp)(now:Int):Cp×List Rq:=
 match qx c.l c.from_ c.n with
 |n::_=>VP { c with none:=[],body:=[],phase:=1,n:=n,born:=now } now
 |[]=>({ c with none:=[],body:=[],phase:=3,n:=0 },[])
theorem VQ {s s':AS}(ids:List Nat)(h:match DZ s.hp ids with|some fs=>RN (s.app fs) s'|none=>False)(c:Ctx)(R:Real)(a:Act)(w:World)(g:aS c R s a w):∃R',aS c R' s' a w:=by
 split at h
 ·rename_i fs hfs;obtain⟨g1,_⟩:=iy g (fun _ _ h=>h) _ _ hfs;exact ay h c R a w g1
 exact h.elim
theorem Sn {l:Lg}{from_ to:Pl}(k:Nat)(h:k<l.aj.length)(h1:(l.aj[k].ah.any (· == from_))=true)(h2:wW l.aj[k].ah from_ to=true):BS l from_ to=false:=by
 have:(l.aj.all fun f=>!(f.ah.any (· == from_)) || !wW f.ah from_ to)=false:=by
  rw[List.all_eq_false];exact⟨l.aj[k],List.getElem_mem h,by simp[h1,h2]⟩
 simp[BS,this]
theorem zB {l:Lg}{from_:Pl}{behind:Int}{k:Nat}{n:Int}(h:n∈iV l from_ behind k):behind<n∧n≤l.last∧(setOf l.aj l.w n).any (· == from_)=true:=by
 unfold iV at h;rw[List.mem_filter,List.mem_map] at h;obtain⟨⟨i,hi,rfl⟩,h2⟩:=h;rw[List.mem_range'_1] at hi;exact⟨by omega,by omega,h2⟩
theorem I4 {l:Lg}(hcl:wX l=true):l.last≤8∧eH l=true:=by
 unfold wX at hcl;simp only[Bool.and_eq_true,beq_iff_eq] at hcl;refine⟨?_,hcl.1⟩;have h8:=hcl.1;unfold eH at h8;simp only[Bool.and_eq_true,decide_eq_true_eq] at h8;have:=h8.2.2.2.2.2;omega
theorem I5 {l:Lg}{from_:Pl}{behind:Int}{n:Int}(h:n∈qx l from_ behind):behind<n∧n≤l.last∧l.last≤8∧(setOf l.aj l.w n).any (· == from_)=true:=by
 unfold qx at h;split at h
 ·rename_i hc;simp only[Bool.and_eq_true] at hc;obtain⟨h1,h2,h3⟩:=zB h;exact⟨h1,h2,(I4 hc.1).1,h3⟩
 simp at h
def Gf (l:Lg)(from_ to:Pl)(now:Int):Cp×List Rq×Int:=
 if wX l&&BS l from_ to then ((U4 ⟨l,from_,to,0,0,[],[],now,now⟩ now).1,(U4 ⟨l,from_,to,0,0,[],[],now,now⟩ now).2,0)
 else (⟨⟨0,0,0,[],0,0⟩,⟨0,0⟩,⟨0,0⟩,0,0,[],[],0,0⟩,[],1)
def takeC (c:Cp)(now:Int)(r:Rs):Cp×List Rq:=
 if r.dM != c.l.id||(r.n != c.n||r.aX != 0) then (c,[])
 else if c.phase==1&&(r.kind==3&&(others c).any (· == r.from_)) then
  if r.code==0 then VP { c with phase:=2,body:=r.body } now
  else if r.code==3 then (if c.none.any (· == r.from_) then c else { c with none:=c.none++[r.from_] },[])
  else (c,[])
 else if c.phase==2&&(r.kind==1&&r.from_.node==c.to.node) then
  if r.code==0&&r.from_==c.to then U4 c now
  else if r.code==4||(r.code==2&&r.from_==c.to) then ({ c with phase:=4 },[])
  else (c,[])
 else (c,[])
def VD (l:Lg)(from_:Pl)(n:Int):List Pl:=(setOf l.aj l.w n).filter fun p=>!(p==from_)
def Af (l:Lg)(n:Int)(p:Pl):Rq:=⟨p,3,l.id,n,0,0,0,[],[]⟩
def La (l:Lg)(to:Pl)(n:Int)(b:List UInt8):Rq:=⟨to,1,l.id,n,0,l.last,1,b,[]⟩
theorem BU (l:List Pl):(l.filter fun p=>!([]:List Pl).any (· == p))=l:=by simp
theorem I6 {c:Cp}{n:Int}{r:List Int}(h:qx c.l c.from_ c.n=n::r)(now:Int) :
  U4 c now=(⟨c.l,c.from_,c.to,1,n,[],[],now,now⟩,(VD c.l c.from_ n).map (Af c.l n)):=by
 unfold U4;rw[h];simp only[VP];rw[if_neg (by omega)];simp only[ite_self,BU];rfl
theorem Nb {c:Cp}(h:qx c.l c.from_ c.n=[])(now:Int):U4 c now=(⟨c.l,c.from_,c.to,3,0,[],[],c.born,c.since⟩,[]):=by
 unfold U4;rw[h]
theorem Gg {l:Lg}{f:Pl}:∀(m k:Nat) {b n:Int} {r:List Int},(l.last-b).toNat-k=m→iV l f b k=n::r→b<n∧n≤l.last∧iV l f n 0=r:=by
 intro m;induction m with
 | zero=>
   intro k b n r hm h;rw[zA l f b k (by omega)] at h;cases h
 | succ m ih=>
   intro k b n r hm h;rw[Gd l f b k (by omega)] at h;split at h
   ·rename_i hp;simp only[List.cons.injEq] at h;obtain⟨rfl,rfl⟩:=h;refine⟨by omega,by omega,?_⟩;unfold iV;congr 1
    apply List.ext_getElem
    ·simp only[List.length_map,List.length_range'];omega
    intro i h1 h2;simp only[List.getElem_map,List.getElem_range'];omega
   exact ih (k+1) (by omega) h
theorem EL {l:Lg}{f:Pl}{b n:Int}{r:List Int}(h:qx l f b=n::r):qx l f n=r:=by
 unfold qx at h;split at h
 ·rename_i hc;simp only[Bool.and_eq_true,decide_eq_true_eq] at hc;obtain⟨h1,h2,h3⟩:=Gg _ 0 rfl h;unfold qx;split
  ·exact h3
  rename_i hn;simp only[Bool.and_eq_true,decide_eq_true_eq] at hn;have:¬n<l.last:=fun hlt=>hn ⟨hc.1,hlt⟩
  rw[zA l f n 0 (by omega)] at h3;exact h3
 cases h
theorem VR {l:Lg}{f t:Pl}{now:Int}(h:(Gf l f t now).2.2=0):wX l=true∧BS l f t=true∧Gf l f t now=((U4 ⟨l,f,t,0,0,[],[],now,now⟩ now).1,(U4 ⟨l,f,t,0,0,[],[],now,now⟩ now).2,0):=by
 unfold Gf at h ⊢;split
 ·rename_i hc;simp only[Bool.and_eq_true] at hc;exact⟨hc.1,hc.2,rfl⟩
 rename_i hc;rw[if_neg hc] at h;simp at h
theorem Lb {l:Lg}{f t:Pl}{now:Int}(h:(Gf l f t now).2.2=0) :
  (∃n r,qx l f 0=n::r∧Gf l f t now=(⟨l,f,t,1,n,[],[],now,now⟩,(VD l f n).map (Af l n),0)) ∨
  (qx l f 0=[]∧Gf l f t now=(⟨l,f,t,3,0,[],[],now,now⟩,[],0)):=by
 obtain⟨h1,h2,h3⟩:=VR h;rw[h3];cases hL:qx l f 0 with
 | nil=>
   refine .inr ⟨rfl,?_⟩;rw[Nb (c:=⟨l,f,t,0,0,[],[],now,now⟩) hL]
 | cons n r=>
   refine .inl ⟨n,r,rfl,?_⟩;rw[I6 (c:=⟨l,f,t,0,0,[],[],now,now⟩) hL]
def zC (n:Int):List UInt8:=[101,UInt8.ofNat (48+(n%10).toNat)]
def Lc (l:Lg)(lost fresh:Pl)(has:List ByteArray)(r:Rq):Rs×List ByteArray:=
 if r.to==fresh&&r.kind==1 then (⟨r.to,r.kind,0,r.dM,r.n,r.aX,0,[]⟩,if decide (r.n<has.length) then has.set r.n.toNat ⟨r.body.toArray⟩ else has)
 else if r.to==lost||r.to==fresh then (⟨r.to,r.kind,4,r.dM,r.n,r.aX,0,[]⟩,has)
 else if r.kind==3&&(setOf l.aj l.w r.n).any (· == r.to) then (⟨r.to,r.kind,0,r.dM,r.n,r.aX,0,zC r.n⟩,has)
 else (⟨r.to,r.kind,3,r.dM,r.n,r.aX,0,[]⟩,has)
theorem getElem!_mem' {l:List Pl}(h:0<l.length)(k:Nat):l[k%l.length]! ∈ l:=by
 rw[getElem!_pos l _ (Nat.mod_lt _ h)];exact List.getElem_mem _
theorem Ld {l:Lg}{n:Int}{p:Pl}(h:p∈setOf l.aj l.w n):∃f∈l.aj,(∀q∈setOf l.aj l.w n,q∈f.ah):=by
 unfold setOf at h ⊢;split at h
 ·simp at h
 rename_i f hf;refine⟨f,(tX _ _ _ hf).1,?_⟩;intro q hq;split at hq
 ·rename_i hw;simp only[dZ,List.mem_map] at hq;obtain⟨i,_,rfl⟩:=hq;exact getElem!_mem' (by omega) _
 simp at hq
theorem VS {l:Lg}{f t:Pl}(hF:BS l f t=true){n:Int}(hf:(setOf l.aj l.w n).any (· == f)=true){p:Pl}(hp:p∈setOf l.aj l.w n)(hne:p≠f):p≠t:=by
 rintro rfl
 obtain⟨g,hg,hall⟩:=Ld hp;obtain⟨q,hq,e⟩:=List.any_eq_true.1 hf;obtain rfl:q=f:=by simpa using e
 have h1:g.ah.any (· == q)=true:=List.any_eq_true.2 ⟨q,hall q hq,by simp⟩;have h2:wW g.ah q p=true:=List.any_eq_true.2 ⟨p,hall p hp,by simp[hne]⟩;obtain⟨i,hi,rfl⟩:=List.getElem_of_mem hg;rw[Sn i hi h1 h2] at hF;cases hF
theorem VT {l:Lg}(h:eH l=true)(hw:l.w≠1){n:Int}(hn:1≤n)(f:Pl):∃p r,VD l f n=p::r:=by
 obtain⟨hlen,hw1,hw5⟩:=O7 h hn;have hw2:2≤l.w:=by omega
 cases ho:VD l f n with
 |cons p r=>exact⟨p,r,rfl⟩
 | nil=>
   exfalso;have hall:∀x∈setOf l.aj l.w n,x=f:=by
    intro x hx;have:=List.filter_eq_nil_iff.1 ho x hx;simpa using this
   simp only[eH,Bool.and_eq_true,bR,decide_eq_true_eq] at h;obtain⟨_,_,_,a6,_⟩:=h;obtain⟨g,hg,hm⟩:=BR a6 hn;obtain⟨j,hj,e⟩:=List.getElem_of_mem hm;have hgood:=((jw _ _).1 a6).2.2.2 j hj;simp only[setOf,hg] at hall;have hlw:l.w≤g.ah.length:=by
    simp only[sj] at hgood;rw[e] at hgood;exact hgood.2.2.1
   rw[if_pos ⟨by omega,hlw⟩] at hall;obtain⟨k,hk⟩:∃k,k=((n-g.first)%g.ah.length).toNat:=⟨_,rfl⟩;rw[←hk] at hall;have hpos:0<g.ah.length:=by omega
   have h0:=hall (g.ah[(k+0)%g.ah.length]!) (List.mem_map.2 ⟨0,by simp;omega,rfl⟩);have h1:=hall (g.ah[(k+1)%g.ah.length]!) (List.mem_map.2 ⟨1,by simp;omega,rfl⟩);rw[getElem!_pos g.ah _ (Nat.mod_lt _ hpos)] at h0 h1;have hnd:(g.ah.map (·.node)).Nodup:=by
    simp only[sj] at hgood;rw[e] at hgood;exact hgood.2.2.2.2.2
   have aaO:=Nat.mod_lt (k+0) hpos;have hlt1:=Nat.mod_lt (k+1) hpos;have hne:(k+0)%g.ah.length≠(k+1)%g.ah.length:=by
    rw[Nat.add_zero,mod_succ k _ hpos];split<;>omega
   rcases Nat.lt_or_gt_of_ne hne with hlt|hlt
   ·have:=List.pairwise_iff_getElem.1 hnd _ _ (by simpa using aaO) (by simpa using hlt1) hlt;simp only[List.getElem_map,h0,h1,ne_eq,not_true_eq_false] at this
   have:=List.pairwise_iff_getElem.1 hnd _ _ (by simpa using hlt1) (by simpa using aaO) hlt;simp only[List.getElem_map,h0,h1,ne_eq,not_true_eq_false] at this
inductive jy (l:Lg)(f t:Pl)(now:Int):Nat→Cp→List Rq→Prop
 |get (m:Int) (R:List Int) (hR:qx l f m=R) (hm:m∈qx l f 0):jy l f t now (2*R.length+2) ⟨l,f,t,1,m,[],[],now,now⟩ ((VD l f m).map (Af l m))
 |add (m:Int) (R:List Int) (b:List UInt8) (hb:b.length=2) (hR:qx l f m=R) (hm:m∈qx l f 0):jy l f t now (2*R.length+1) ⟨l,f,t,2,m,[],b,now,now⟩ [La l t m b]
 |done (born since:Int):jy l f t now 0 ⟨l,f,t,3,0,[],[],born,since⟩ []
theorem jy.start {l:Lg}{f t:Pl}{now:Int}(h:(Gf l f t now).2.2=0):jy l f t now (2*(qx l f 0).length) (Gf l f t now).1 (Gf l f t now).2.1:=by
 rcases Lb h with ⟨n,r,hL,e⟩|⟨hL,e⟩
 ·rw[e,hL];exact jy.get n r (EL hL) (by rw[hL];simp)
 rw[e,hL];exact jy.done now now
theorem jy.zero {l:Lg}{f t:Pl}{now:Int}{c:Cp}{q:List Rq}(h:jy l f t now 0 c q):c.phase=3∧q=[]:=by
 generalize hk:0=k at h;cases h with
 |get=>omega
 |add=>omega
 |done=>exact⟨rfl,rfl⟩
theorem jy.step {l:Lg}{f t:Pl}{now:Int}(hmay:eH l=true)(hF:BS l f t=true)(hw:l.w≠1){k:Nat}{c:Cp}{q:List Rq}(h:jy l f t now (k+1) c q)(has:List ByteArray) :
  ∃q0 r,q=q0::r∧(c.phase=1∨c.phase=2)∧(Lc l f t has q0).1.body.length≤2∧q0.body.length≤2∧(0≤q0.n∧q0.n≤8)∧jy l f t now k (takeC c now (Lc l f t has q0).1).1 (takeC c now (Lc l f t has q0).1).2:=by
 have hft:f≠t:=by
  simp only[BS,Bool.and_eq_true,bne_iff_ne] at hF;exact hF.2
 generalize hk:k+1=k1 at h;cases h with
 | get m R hR hm=>
   have Zt:=I5 hm;obtain⟨p,r,hp⟩:=VT hmay hw (n:=m) (by omega) f;have hpm:p∈VD l f m:=by rw[hp];simp
   have Sq:=hpm;simp only[VD,List.mem_filter,Bool.not_eq_true',beq_eq_false_iff_ne] at Sq;have hpt:=VS hF Zt.2.2.2 Sq.1 Sq.2;have Sr:Lc l f t has (Af l m p)=(⟨p,3,0,l.id,m,0,0,zC m⟩,has):=by
    unfold Lc;rw[if_neg (by simp[Af]),if_neg (by simp[Af,Sq.2,hpt]),if_pos]
    ·rfl
    simp only[Bool.and_eq_true];exact⟨by simp[Af],List.any_eq_true.2 ⟨p,Sq.1,by simp[Af]⟩⟩
   refine⟨Af l m p,r.map (Af l m),by rw[hp];rfl,.inl rfl,by rw[Sr];simp[zC],by simp[Af],by simp only[Af];omega,?_⟩;rw[Sr];have VU:(others ⟨l,f,t,1,m,[],[],now,now⟩).any (· == p)=true:=List.any_eq_true.2 ⟨p,hpm,by simp⟩;have Sv:takeC ⟨l,f,t,1,m,[],[],now,now⟩ now ⟨p,3,0,l.id,m,0,0,zC m⟩=(⟨l,f,t,2,m,[],zC m,now,now⟩,[La l t m (zC m)]):=by
    unfold takeC;rw[if_neg (by simp),if_pos (by simp only[VU];simp),if_pos (by simp)];unfold VP;rw[if_pos rfl];rfl
   rw[Sv];obtain rfl:k=2*R.length+1:=by omega
   exact jy.add m R (zC m) (by simp[zC]) hR hm
 | add m R b hb hR hm=>
   have Zt:=I5 hm;have Sr:(Lc l f t has (La l t m b)).1=⟨t,1,0,l.id,m,0,0,[]⟩:=by
    unfold Lc;rw[if_pos (by simp[La])];rfl
   refine⟨La l t m b,[],rfl,.inr rfl,by rw[Sr];simp,by simp[La];omega,by simp only[La];omega,?_⟩;rw[Sr];have Sv:takeC ⟨l,f,t,2,m,[],b,now,now⟩ now ⟨t,1,0,l.id,m,0,0,[]⟩=U4 ⟨l,f,t,2,m,[],b,now,now⟩ now:=by
    unfold takeC;rw[if_neg (by simp),if_neg (by simp),if_pos (by simp),if_pos (by simp)]
   rw[Sv];obtain rfl:k=2*R.length:=by omega
   cases R with
   | nil=>
     rw[Nb (c:=⟨l,f,t,2,m,[],b,now,now⟩) hR];exact jy.done now now
   | cons n r=>
     rw[I6 (c:=⟨l,f,t,2,m,[],b,now,now⟩) hR];exact jy.get n r (EL hR) (by
      have h1:n∈qx l f m:=by rw[hR];simp
      unfold qx at h1 ⊢;split at h1
      ·rename_i hc;simp only[Bool.and_eq_true,decide_eq_true_eq] at hc;rw[if_pos (by simp only[Bool.and_eq_true,decide_eq_true_eq];exact⟨hc.1,by omega⟩)];obtain⟨g1,g2,g3⟩:=zB h1;unfold iV;rw[List.mem_filter,List.mem_map];refine⟨⟨(n-0-1).toNat,?_,by omega⟩,g3⟩;rw[List.mem_range'_1];omega
      simp at h1)
 |done=>omega
def om (set bW:List Pl):Nat→Nat
 |0=>0
 |k+1=>om set bW k+(if h:k<set.length then (if bW.any (· == set[k]) && !(set.take k).any (· == set[k]) then 1 else 0) else 0)
def Le (set bW:List Pl):Nat:=om set bW set.length
theorem yJ (set bW:List Pl)(k:Nat)(h:k<set.length):om set bW (k+1)=om set bW k+(if bW.any (· == set[k]) && !(set.take k).any (· == set[k]) then 1 else 0):=by
 rw[om,dif_pos h]
theorem Nc (set bW:List Pl)(k:Nat):om set bW k≤k:=by
 induction k with
 |zero=>exact Nat.le_refl _
 | succ k ih=>
   rw[om];split
   ·split<;>omega
   omega
def fT (set:List Pl)(a:Int)(from_:List Pl):Bool:=decide (a≥1)&&decide ((Le set from_:Int)≥a)
structure Rv where
 l:Lg
 aX:Int
 phase:Int
 heard:List Pl
 sure:Int
 n:Int
 none:List Pl
 has:List Pl
 body:List UInt8
 aj:List Fr
 bad:List Pl
 born:Int
 since:Int
def Rv.c (x:Rv):List PV:=[uu x.l.id,ii x.l.w,ii x.l.a,eT x.l.aj,ii x.l.closed,uu x.l.last,uu x.aX,ii x.phase,dO x.heard,uu x.sure,uu x.n,dO x.none,dO x.has,Db x.body,eT x.aj,dO x.bad,uu x.born,uu x.since]
def Rv.v (x:Rv)(heard none has aj bad out:AV):List AV:=
 [.pv (uu x.l.id),.pv (ii x.l.w),.pv (ii x.l.a),.pv (eT x.l.aj),.pv (ii x.l.closed),.pv (uu x.l.last),.pv (uu x.aX),.pv (ii x.phase),heard,.pv (uu x.sure),.pv (uu x.n),none,has,.pv (Db x.body),aj,bad,.pv (uu x.born),.pv (uu x.since),out]
def aaP (x:Rv):Fr:=x.l.aj[x.l.aj.length-1]!
def Rv.w (x:Rv)(lf heard none has aj bad out:AV):List AV:=
 [.pv (uu x.l.id),.pv (ii x.l.w),.pv (ii x.l.a),lf,.pv (ii x.l.closed),.pv (uu x.l.last),.pv (uu x.aX),.pv (ii x.phase),heard,.pv (uu x.sure),.pv (uu x.n),none,has,.pv (Db x.body),aj,bad,.pv (uu x.born),.pv (uu x.since),out]
structure Rv.sm (x:Rv):Prop where
 f1:x.l.aj.length≤1000∧∀f∈x.l.aj,f.ah.length≤1000
 f2:x.aj.length≤1000∧∀f∈x.aj,f.ah.length≤1000
 h:x.heard.length≤1000000
 no:x.none.length≤1000000
 ha:x.has.length≤1000000
 ba:x.bad.length≤1000000
 bo:x.body.length≤1000000
def fD (is:Pl→Bool)(b:List Pl):List Pl→List Pl
 |[]=>b
 |p::r=>fD is (if is p && !b.any (· == p) then b++[p] else b) r
end Go.AX
end
section
namespace Go.AX
end Go.AX
end
section
namespace Go.AX
theorem Lf (is:Pl→Bool)(l m:List Pl):∀b,fD is b (l++m)=fD is (fD is b l) m:=by
 induction l with
 |nil=>intro b;rfl
 |cons p l ih=>intro b;rw[List.cons_append,fD,fD,ih]
theorem zD (is:Pl→Bool)(b l:List Pl)(k:Nat)(h:k<l.length):fD is b (l.take (k+1))=(if is l[k] && !(fD is b (l.take k)).any (· == l[k]) then fD is b (l.take k)++[l[k]] else fD is b (l.take k)):=by
 rw[List.take_succ_eq_append_getElem h,Lf,fD,fD]
theorem qy (is:Pl→Bool)(l:List Pl):∀b,(fD is b l).length≤b.length+l.length:=by
 induction l with
 |nil=>intro b;simp[fD]
 | cons p l ih=>
   intro b;rw[fD];refine Nat.le_trans (ih _) ?_;split<;>simp<;>omega
section
variable {x:Rv}{now:Int}{r:Rs}
section
variable (h1:(aaP x).ah.any (· == r.from_)=true)(h2:x.heard.any (· == r.from_)=false)
include h1 h2
end
end
end Go.AX
namespace Go.AX
structure Rv.big (x:Rv):Prop where
 sm:x.sm
 hf:iN x.l.aj
 XO:iN x.aj
 h0:0<x.l.aj.length
 hn:0≤x.n∧x.n≤1000
 hs:0≤x.sure
 hw:0≤x.l.w∧x.l.w≤9223372036854775807
 ha:0≤x.l.a
 hset:∀n,(setOf x.l.aj x.l.w n).length≤1000
 afu:∀n,(setOf x.aj x.l.w n).length≤1000
def mO (k node:Int)(l:List Pl):Nat→Bool
 |0=>false
 |i+1=>mO k node l i||(if h:i<l.length then ((i:Int) != k)&&l[i].node==node else false)
theorem zF (k node:Int)(l:List Pl)(i:Nat)(h:i<l.length):mO k node l (i+1)=(mO k node l i||(((i:Int) != k)&&l[i].node==node)):=by
 rw[mO,dif_pos h]
theorem I7 (k node:Int)(l:List Pl){i j:Nat}(h:i≤j)(hc:mO k node l i=true):mO k node l j=true:=by
 induction j with
 | zero => have:i=0:=by omega
           subst this;exact hc
 | succ j ih=>
   by_cases e:i=j+1
   ·subst e;exact hc
   rw[mO,ih (by omega),Bool.true_or]
def jJ (f:Fr)(old fresh:Pl):Option Fr:=
 if mO (qZ (· == old) f.ah) fresh.node f.ah f.ah.length then none
 else if qZ (· == old) f.ah<0 then none
 else some ⟨f.first,f.ah.set (qZ (· == old) f.ah).toNat fresh⟩
def iq (f:Fr)(old:Pl):List Pl→Fr×Bool
 |[]=>(f,false)
 | p::r=>match jJ f old p with
   |some g=>(g,true)
   |none=>iq f old r
theorem Lh (f:Fr)(old:Pl)(l:List Pl)(k:Nat)(h:k<l.length):iq f old (l.drop k)=match jJ f old l[k] with
  |some g=>(g,true)
  |none=>iq f old (l.drop (k+1)):=by
 rw[List.drop_eq_getElem_cons h,iq]
def yK (bad kn:List Pl)(st:Fr×List Pl×Bool)(old:Pl):Fr×List Pl×Bool:=
 if bad.any (· == old) then
  (if (iq st.1 old kn).2 then ((iq st.1 old kn).1,st.2.1,true) else ((iq st.1 old kn).1,st.2.1++[old],st.2.2))
 else st
def Li (w:Int)(st:List Pl×Bool)(old:Pl):List Pl×Bool:=
 if decide ((st.1.length:Int)>w)&&decide (qZ (· == old) st.1≥0) then (st.1.eraseIdx (qZ (· == old) st.1).toNat,true) else st
def O9 (e:Int)(b:List Pl)(p:Pl):List Pl:=
 if decide ((b.length:Int)<(if 5<e then 5 else e)) && !(b.any fun y=>y.node==p.node) then b++[p] else b
def j3 (f:Fr)(bad kn:List Pl):Fr×List Pl×Bool:=f.ah.foldl (yK bad kn) (f,[],false)
def sD (w:Int)(x:Fr×List Pl×Bool):List Pl×Bool:=x.2.1.foldl (Li w) (x.1.ah,x.2.2)
def fit (bad known:List Pl):List Pl:=known.filter fun p=>!bad.any (· == p)
def gU (f:Fr)(w e:Int)(bad known:List Pl):Fr×Bool:=
 if (sD w (j3 f bad (fit bad known))).2 then (⟨(j3 f bad (fit bad known)).1.first,(fit bad known).foldl (O9 e) (sD w (j3 f bad (fit bad known))).1⟩,true)
 else (jI,false)
theorem lD {α β:Type}(f:β→α→β)(b:β)(l:List α)(k:Nat)(h:k<l.length):(l.take (k+1)).foldl f b=f ((l.take k).foldl f b) l[k]:=by
 rw[List.take_succ_eq_append_getElem h,List.foldl_append];rfl
theorem Pb {f g:Fr}{a b:Pl}(h:jJ f a b=some g):g.ah.length=f.ah.length∧g.first=f.first:=by
 unfold jJ at h;split at h
 ·cases h
 split at h
 ·cases h
 simp only[Option.some.injEq] at h;subst h;simp
theorem EM (f:Fr)(old:Pl):∀l,(iq f old l).1.ah.length=f.ah.length∧(iq f old l).1.first=f.first
 |[]=>⟨rfl,rfl⟩
 | p::r=>by
   rw[iq];cases h:jJ f old p with
   |some g=>exact Pb h
   |none=>exact EM f old r
theorem Aw (bad kn:List Pl):∀(l:List Pl) (st:Fr×List Pl×Bool),(l.foldl (yK bad kn) st).1.ah.length=st.1.ah.length∧(l.foldl (yK bad kn) st).1.first=st.1.first∧(l.foldl (yK bad kn) st).2.1.length≤st.2.1.length+l.length
 |[],st=>⟨rfl,rfl,Nat.le_refl _⟩
 | p::r,st=>by
   obtain⟨h1,h2,h3⟩:=Aw bad kn r (yK bad kn st p);have h4:=EM st.1 p kn;rw[List.foldl_cons];have h5:(yK bad kn st p).1.ah.length=st.1.ah.length∧(yK bad kn st p).1.first=st.1.first∧(yK bad kn st p).2.1.length≤st.2.1.length+1:=by
    unfold yK;split
    ·split
     ·exact⟨h4.1,h4.2,Nat.le_succ _⟩
     refine⟨h4.1,h4.2,?_⟩;simp
    exact⟨rfl,rfl,Nat.le_succ _⟩
   refine⟨h1.trans h5.1,h2.trans h5.2.1,?_⟩;simp only[List.length_cons];omega
theorem Ay (w:Int):∀(l:List Pl) (st:List Pl×Bool),(l.foldl (Li w) st).1.length≤st.1.length
 |[],st=>Nat.le_refl _
 | p::r,st=>by
   rw[List.foldl_cons];refine Nat.le_trans (Ay w r _) ?_;unfold Li;split
   ·exact List.length_eraseIdx_le ..
   exact Nat.le_refl _
theorem Ng (e:Int):∀(l:List Pl) (b:List Pl),(l.foldl (O9 e) b).length≤b.length+l.length
 |[],b=>Nat.le_refl _
 | p::r,b=>by
   rw[List.foldl_cons];refine Nat.le_trans (Ng e r _) ?_;have h:∀c:Bool,(if c=true then b++[p] else b).length≤b.length+1:=by intro c;cases c<;>simp
   have h2:(O9 e b p).length≤b.length+1:=h _;simp only[List.length_cons];omega
structure Wt where
 n:Int
 body:List UInt8
 from_:List Pl
 born:Int
 since:Int
deriving DecidableEq,Inhabited
structure Wr where
 l:Lg
 aX:Int
 next:Int
 sure:Int
 waits:List Wt
 bad:List Pl
 change:Fr
 fenced:Int
deriving DecidableEq,Inhabited
def bI (l:List Pl)(p:Pl):Bool:=l.any (· == p)
def bJ (w:Wr)(n:Int):List Pl:=setOf w.l.aj w.l.w n
def aO (l:List Fr):Fr:=l.getLast?.getD jI
def bX (w:Wr)(x:Wt):Bool:=fT (bJ w x.n) w.l.a x.from_&&((w.change.first==0)||decide (x.n<w.change.first))
def dR (w:Wr):Wr:={ w with sure:=((w.waits.takeWhile (bX w)).getLast?.map (·.n)).getD w.sure,waits:=w.waits.dropWhile (bX w) }
def gM (w:Wr)(x:Wt):List Rq:=((bJ w x.n).filter fun p=>!bI x.from_ p).map fun p=>⟨p,1,w.l.id,x.n,w.aX,w.sure,0,x.body,[]⟩
def nk (w:Wr)(is:Pl→Bool):Wr:={ w with bad:=(aO w.l.aj).ah.foldl (fun b x=>if is x && !bI b x then b++[x] else b) w.bad }
def kH (w:Wr)(p:Pl):Bool:=w.l.aj.any fun f=>bI f.ah p
def sJ (l:Lg)(aX:Int):Option Wr:=if eH l&&((l.closed==0)&&bR aX 1 4611686018427387903) then some ⟨l,aX,1,0,[],[],jI,0⟩ else none
def fV (w:Wr)(now:Int)(b:List UInt8):Wr×List Rq×Int:=
 if w.fenced=1 then (w,[],5)
 else if (b.length:Int)>2048 then (w,[],7)
 else if w.next>8 then (w,[],3)
 else ({ w with waits:=w.waits++[⟨w.next,b,[],now,now⟩],next:=w.next+1 },gM w ⟨w.next,b,[],now,now⟩,0)
def fE (w:Wr)(r:Rs)(k:Nat):Wr:={ w with waits:=w.waits.modify k fun x=>{ x with from_:=x.from_++[r.from_] } }
def fw (w:Wr)(r:Rs):Wr:=
 if !(r.kind==1)||(!(r.dM==w.l.id) || !(r.aX==w.aX)) then w
 else if r.code=0 then (match w.waits.findIdx? fun x=>x.n==r.n with
  |none=>w
  |some k=>if kH w r.from_ && !bI (w.waits[k]!).from_ r.from_ then dR (fE w r k) else w)
 else if r.code=1 then (if kH w r.from_ then { w with fenced:=1 } else w)
 else if r.code=2 then nk w fun x=>x==r.from_
 else if r.code=4 then nk w fun x=>(x.node==r.from_.node) && !(x.bf==r.from_.bf)
 else w
def eF (now since Nf:Int):Bool:=decide ((if since>now then since else now)-since≥Nf)
def zO (w:Wr)(x:Wt):Wr:=(bJ w x.n).foldl (fun w y=>if bI x.from_ y then w else nk w fun z=>z==y) w
def pF (now:Int)(st:Wr×List Rq)(i:Nat):Wr×List Rq:=
 let x:=st.1.waits[i]!
 let w:=if eF now x.born 9 then zO st.1 x else st.1
 if eF now x.since 3 then ({ w with waits:=w.waits.set i { x with since:=now } },st.2++gM w x) else (w,st.2)
def dw (w:Wr)(now:Int):Wr×List Rq:=if w.fenced=1 then (w,[]) else (List.range w.waits.length).foldl (pF now) (w,[])
def mR (w:Wr)(e:Int)(known:List Pl):Fr×Bool:=({ (gU (aO w.l.aj) w.l.w e w.bad known).1 with first:=w.sure+1 },(gU (aO w.l.aj) w.l.w e w.bad known).2)
def j4 (w:Wr)(e:Int)(known:List Pl):Wr×Fr×Bool:=
 if w.fenced=1∨w.change.first≠0∨w.bad=[] then (w,jI,false)
 else if !(mR w e known).2||(decide ((w.l.aj.length:Int)=6)&&decide ((mR w e known).1.first>(aO w.l.aj).first)) then ({ w with bad:=[] },jI,false)
 else ({ w with change:=(mR w e known).1 },(mR w e known).1,true)
def bn (l:List Fr)(f:Fr):List Fr:=(if (aO l).first==f.first then l.dropLast else l)++[f]
def jr (w:Wr)(ok:Bool):Wr:=dR { w with l:={ w.l with aj:=if ok then bn w.l.aj w.change else w.l.aj },change:=jI,bad:=[] }
def bM (w:Wr)(now:Int)(ok:Bool):Wr×List Rq:=
 if w.change.first=0 then (w,[])
 else ({ jr w ok with waits:=(jr w ok).waits.map fun x=>{ x with born:=now,since:=now } },(jr w ok).waits.flatMap (gM (jr w ok)))
structure Lt where
 ask:Bool
 q:Rq
 r:Rs
deriving DecidableEq,Inhabited
structure Hp where
 x:Pl
 n:Int
 body:List UInt8
deriving DecidableEq,Inhabited
structure Sg where
 w:Wr
 bZ:List Fr
 ask:Fr
 taken:Int
 now:Int
 cO:List Lt
 had:List Hp
 bK:List (List UInt8)
deriving Inhabited
def rq0:Rq:=⟨⟨0,0⟩,0,0,0,0,0,0,[],[]⟩
def rs0:Rs:=⟨⟨0,0⟩,0,0,0,0,0,0,[]⟩
def jc (s:Sg)(l:List Rq):Sg:={ s with cO:=s.cO++(l.take (80-s.cO.length)).map fun q=>⟨true,q,rs0⟩ }
def jO (q:Rq):Rs:=⟨q.to,q.kind,0,q.dM,q.n,q.aX,0,[]⟩
def iP (s:Sg)(r:Rs):Sg:=if (s.cO.length:Int)<80 then { s with cO:=s.cO++[⟨false,rq0,r⟩] } else s
def eZ (s:Sg)(x:Lt)(c:Int):Sg:=
 if x.ask=false then { s with w:=fw s.w x.r }
 else if c=6 then iP s { jO x.q with code:=2 }
 else if c=7 then iP s { jO x.q with code:=4,from_:=⟨x.q.to.node,IntKind.u64.wrap (x.q.to.bf+1)⟩ }
 else iP { s with had:=s.had++[⟨x.q.to,x.q.n,x.q.body⟩] } (jO x.q)
def sK (s:Sg)(b:List UInt8):Sg:=
 let y:=fV s.w s.now b
 if y.2.2=0 then jc { s with w:=y.1,bK:=s.bK++[b] } y.2.1 else s
def Ct (s:Sg)(now:Int):Sg:=jc { s with now:=now,w:=(dw s.w now).1 } (dw s.w now).2
def LA (s:Sg)(e:Int)(known:List Pl):Sg:=
 let y:=j4 s.w e known
 if y.2.2 then { s with w:=y.1,ask:=y.2.1,taken:=0 } else { s with w:=y.1 }
def j5 (s:Sg)(odd:Bool):Sg:=
 if s.ask.first=0∨s.taken>0 then s
 else if !odd&&(decide (s.ask.first≥(aO s.bZ).first)&&bL s.w.l.w (bn s.bZ s.ask)) then { s with bZ:=bn s.bZ s.ask,taken:=1 }
 else { s with taken:=2 }
def qN (s:Sg):Sg:=
 if s.ask.first=0∨s.taken=0 then s
 else jc { s with w:=(bM s.w s.now (s.taken==1)).1,ask:=jI } (bM s.w s.now (s.taken==1)).2
def uF (s:Sg)(k:Nat):Sg:={ s with cO:=s.cO.take k++s.cO.drop (k+1) }
def Np (s:Sg)(l:List Fr)(n:Int):Bool:=
 (s.had.all fun h=>!(h.n==n)||(decide (1≤n)&&(decide (n≤(s.bK.length:Int))&&(h.body==s.bK[(n-1).toNat]!)))) &&
 fT (setOf l s.w.l.w n) s.w.l.a ((s.had.filter fun h=>h.n==n).map (·.x))
def Wt.c (x:Wt):List PV:=[uu x.n,Db x.body,dO x.from_,uu x.born,uu x.since]
def nA (l:List Wt):PV:=.sl false 5 (l.map Wt.c)
def Wr.c (w:Wr):List PV:=[uu w.l.id,ii w.l.w,ii w.l.a,eT w.l.aj,ii w.l.closed,uu w.l.last,uu w.aX,uu w.next,uu w.sure,nA w.waits,dO w.bad,uu w.change.first,dO w.change.ah,ii w.fenced]
def XE (x:Wt)(f:AV):List AV:=[.pv (uu x.n),.pv (Db x.body),f,.pv (uu x.born),.pv (uu x.since)]
def nC (w:Wr)(F W B O:AV):List AV:=[.pv (uu w.l.id),.pv (ii w.l.w),.pv (ii w.l.a),F,.pv (ii w.l.closed),.pv (uu w.l.last),.pv (uu w.aX),.pv (uu w.next),.pv (uu w.sure),W,B,.pv (uu w.change.first),.pv (dO w.change.ah),.pv (ii w.fenced),O]
structure NC (x:Wt):Prop where
 n:eD x.n
 body:x.body.length≤100000
 from_:x.from_.length≤100000
 born:eD x.born
 since:eD x.since
structure U8 (w:Wr):Prop where
 fl:w.l.aj.length≤1000
 fb:∀f∈w.l.aj,f.ah.length≤1000
 fr:iN w.l.aj
 wl:w.waits.length≤1000
 wx:∀x∈w.waits,NC x
 bl:w.bad.length≤100000
 cl:w.change.ah.length≤1000
theorem qO (e:TypeId)(v st:Nat)(rows:List (List PV)):0+lI (.arr e v st rows)=v:=Nat.zero_add _
theorem qP (e:TypeId)(v st:Nat)(pre:List (List PV))(row:List AV)(post:List (List PV)):0+lI (.dX e v st pre row post)=v:=Nat.zero_add _
def SK (H:List (Nat×au))(b ver:Nat):AV:=
 match lk H b with
 | some (.gD v st rows)=>match Nat.beq ver v with
   |true=>.pv (.sl false st rows)
   |false=>.aZ b ver
 |_=>.aZ b ver
def Nj (H:List (Nat×au))(b ver st lo hi:Nat):AV:=
 match SK H b ver with
 | .pv (.sl _ st' rows)=>match Nat.beq st st' with
   |true=>.pv (.sl false st (jM rows lo hi))
   |false=>.sub b ver st lo hi
 |_=>.sub b ver st lo hi
def V3 (H:List (Nat×au)):List AV→List AV
 |[]=>[]
 |.aZ b ver::r=>SK H b ver::V3 H r
 |.sub b ver st lo hi::r=>Nj H b ver st lo hi::V3 H r
 |x::r=>x::V3 H r
def thA (H:List (Nat×au)):AV→AV
 |.agg cs=>.agg (V3 H cs)
 |.aZ b ver=>SK H b ver
 |x=>x
section
variable {P:Program}{c:Ctx}{R:Real}{s:AS}{a:Act}{w:World}
theorem vz (g:aS c R s a w){b ver:Nat}{u:Value}(h:ai (aG c R s.hp) w s.hp R (.aZ b ver) u):ai (aG c R s.hp) w s.hp R (SK s.hp b ver) u:=by
 unfold SK;split
 ·rename_i v st rows hb;split
  ·rename_i hv;simp only[ai] at h ⊢;exact mJ (N':=aG c R s.hp) g (b:=b) (ver:=ver) (by rw[hb];simp[qQ,hv]) (fun r h=>h) (fun r ho=>by rw[hb] at ho;exact ho.elim) h
  exact h
 exact h
theorem zN (g:aS c R s a w){b ver st lo hi:Nat}{u:Value}(h:ai (aG c R s.hp) w s.hp R (.sub b ver st lo hi) u):ai (aG c R s.hp) w s.hp R (Nj s.hp b ver st lo hi) u:=by
 unfold Nj;split
 ·rename_i nn st' rows he;split
  ·rename_i hv;have hv:=Nat.eq_of_beq_eq_true hv;subst hv;simp only[ai] at h;obtain⟨u0,h1,h2,rfl⟩:=h;have h3:ai (aG c R s.hp) w s.hp R (.aZ b ver) u0:=by simp only[ai];exact h1
   have h4:=vz g h3;rw[he] at h4;simp only[ai] at h4 ⊢;exact (M8 h4 h2).1
  exact h
 exact h
theorem lY (g:aS c R s a w):∀{cs:List AV} {us:List Value},FC (ai (aG c R s.hp) w s.hp R) cs us→FC (ai (aG c R s.hp) w s.hp R) (V3 s.hp cs) us
 |[],us,h=>h
 | x::r,us,h=>by
   obtain⟨v,t,e,h1,h2,h3⟩:=h;cases x with
   |aZ b ver=>exact⟨v,t,e,h1,vz g h2,lY g h3⟩
   |sub b ver st lo hi=>exact⟨v,t,e,h1,zN g h2,lY g h3⟩
   |_=>exact⟨v,t,e,h1,h2,lY g h3⟩
theorem ET (g:aS c R s a w){x:AV}{u:Value}(h:ai (aG c R s.hp) w s.hp R x u):ai (aG c R s.hp) w s.hp R (thA s.hp x) u:=by
 cases x with
 | agg cs=>
   simp only[thA,ai] at h ⊢;obtain⟨vs,e,h⟩:=h;rw[aW] at h;exact⟨vs,e,by rw[aW];exact lY g h⟩
 |aZ b ver=>exact vz g h
 |_=>exact h
end
theorem Nk (H:List (Nat×au)):∀(cs:List AV),(V3 H cs).length=cs.length
 |[]=>rfl
 |x::r=>by cases x<;>simp[V3,Nk H r]
def ZC (H:List (Nat×au))(box:au):au:=
 match box with
 |.var cells=>.var (V3 H cells)
 |.lM cells=>.lM cells
 |.arr e v st rows=>.arr e v st rows
 |.gD v st rows=>.gD v st rows
 |.tr y v rest st=>.tr y v rest st
 |.dX e v st pre row post=>.dX e v st pre (V3 H row) post
 |.mp kk kv es=>.mp kk kv es
 |.fZ e v st j ed sd pre row post=>.fZ e v st j ed sd pre row post
def Lu (H:List (Nat×au)):List (Nat×au)→List (Nat×au)
 |[]=>[]
 |(k,box)::r=>(k,ZC H box)::Lu H r
theorem SL (H:List (Nat×au)):∀(hp:List (Nat×au)) (x:Nat),lk (Lu H hp) x=(lk hp x).map (ZC H)
 |[],x=>rfl
 | (y,box)::r,x=>by
   simp only[Lu,ak];split
   ·rfl
   exact SL H r x
section
variable {P:Program}{c:Ctx}{R:Real}{s:AS}{a:Act}{w:World}
theorem EU (g:aS c R s a w):aS c R ⟨s.tm,s.nx,Lu s.hp s.hp⟩ a w∧∀v x,ai (aG c R s.hp) w s.hp R v x→ai (aG c R (Lu s.hp s.hp)) w (Lu s.hp s.hp) R v x:=by
 have hk:∀b,lk (Lu s.hp s.hp) b=(lk s.hp b).map (ZC s.hp):=SL s.hp s.hp;have Yw:∀b r,ax R b r (lk (Lu s.hp s.hp) b)↔ax R b r (lk s.hp b):=fun b r=>by
  rw[hk];cases lk s.hp b with
  |none=>exact Iff.rfl
  |some box=>cases box<;>exact Iff.rfl
 have ho:∀r,owned R (Lu s.hp s.hp) r↔owned R s.hp r:=fun r=>by simp only[owned,Yw]
 have hN:∀r,r<w.heap.size→aG c R (Lu s.hp s.hp) r→aG c R s.hp r:=fun r _ h=>h.imp id (ho r).1
 have hw:∀r,r<w.heap.size→¬aG c R s.hp r→w.heap[r]? = w.heap[r]? :=fun _ _ _=>rfl
 have h1:∀b off v,aH R b off v (lk s.hp b)→aH R b off v (lk (Lu s.hp s.hp) b):=fun b off v h=>by
  rw[hk];cases hb:lk s.hp b with
  |none=>rw[hb] at h;exact h.elim
  |some box=>rw[hb] at h;cases box<;>exact h
 have h2:∀b ver v,aD R b ver v (lk s.hp b)→aD R b ver v (lk (Lu s.hp s.hp) b):=fun b ver v h=>by
  rw[hk];cases hb:lk s.hp b with
  |none=>rw[hb] at h;exact h.elim
  |some box=>rw[hb] at h;cases box<;>exact h
 have h3:∀b ver i off v,aJ R b ver i off v (lk s.hp b)→aJ R b ver i off v (lk (Lu s.hp s.hp) b):=fun b ver i off v h=>by
  rw[hk];cases hb:lk s.hp b with
  |none=>rw[hb] at h;exact h.elim
  |some box=>rw[hb] at h;cases box<;>exact h
 have hr:=bP hN hw h1 h2 h3;refine⟨⟨fun t v hv=>?_,g.size,g.lo,g.marks.imp fun Ds hm=>hm.kept (fun _ _ _=>rfl) (fun r _ h=>(ho r).1 h),g.fixed.kept (fun _ _ _=>rfl) (fun r _ h=>(ho r).1 h),fun b box hb=>?_,fun b b' r hb hb'=>?_,fun r hr=>g.free r ((ho r).1 hr),g.iE,fun r hr=>g.fG r ((ho r).1 hr),fun v x h=>hr v x (g.kept v x h)⟩,hr⟩
 ·obtain⟨x,hx,h⟩:=g.slots t v hv;exact⟨x,hx,hr v x h⟩
 ·rw[hk] at hb;cases hl:lk s.hp b with
  |none=>rw[hl] at hb;cases hb
  | some bx=>
    rw[hl] at hb;simp only[Option.map_some,Option.some.injEq] at hb;subst hb;have hx:=g.boxes b bx hl;cases bx with
    | var cells=>
      simp only[dB] at hx;obtain⟨cur,e,ha,hc⟩:=hx;rw[aW] at hc;refine⟨cur,e,ha,aY hN hw h1 h2 h3 _ _ ?_⟩;rw[aW];exact lY g hc
    | lM cells=>
      simp only[ZC,dB] at hx ⊢;obtain⟨cur,e,fr,ha,hn,hb⟩:=hx;exact⟨cur,e,fr,ha,fun h=>hn (h.imp id (ho _).1),bY hN hw cells _ hb⟩
    | arr e ver st rows=>
      simp only[ZC,dB] at hx ⊢;obtain⟨xs,ha,hb⟩:=hx;exact⟨xs,ha,aI hN hw st rows xs hb⟩
    | gD ver st rows=>
      simp only[ZC,dB] at hx ⊢;exact bV hN hw _ _ hx
    | tr y ver rest st=>
      obtain⟨k0,kh,k1,k2,k3,k4⟩:=hx;exact⟨k0,kh,k1,k2,k3,fun r hr=>k4 r (hr.imp id (ho r).1)⟩
    |mp kk kv es=>exact hx
    |fZ e v st j ed sd pre row post=>exact gZ hN hw rfl rfl rfl (fun _ _=>rfl) rfl (fun vs h=>aY hN hw h1 h2 h3 _ _ h) hx
    | dX e v st pre row post=>
      obtain⟨xs,a1,a2,a3,a4,a5⟩:=hx;rw[aW] at a4;refine⟨xs,a1,aI hN hw _ _ _ a2,by rw[Nk];exact a3,aY hN hw h1 h2 h3 _ _ ?_,aI hN hw _ _ _ a5⟩;rw[aW];exact lY g a4
 exact g.inj b b' r ((Yw b r).1 hb) ((Yw b' r).1 hb')
theorem lZ {f:FuncId}{args:List AV}{hp:List (Nat×au)}{r:AV}{hp':List (Nat×au)}(h:lg P f args hp r hp')(ids:List Nat){r2:AV}{hp2:List (Nat×au)}
  (e:match DZ hp' ids with|some fs=>Vq (Lu (fs++hp') (fs++hp')) r (fun x h=>x=r2∧h=hp2)|none=>False):lg P f args hp r2 hp2:=by
 refine⟨h.1,fun c R w bQ hh ha=>(h.2 c R w bQ hh ha).mono ?_⟩;rintro ex w' ⟨v,r0,lq,R',rfl,⟨e1,e2⟩,Qv,hr⟩
 rw[e1,e2] at hr;rw[e2] at Qv;split at e
 ·rename_i fs hfs;have g:aS c R' ⟨[],0,hp'⟩ { tmps:=Array.replicate c.n undef,defers:=[] } w':=
   Qv.U1 (fun t v h=>by simp[lk] at h) (by simp) ⟨[],⟨fun d h=>by simp at h,rfl,by simp,fun d h=>by simp at h,fun d h=>by simp at h⟩⟩
  obtain⟨g1,m1,_⟩:=iy g (fun _ _ h=>h) _ _ hfs;obtain⟨g2,m2⟩:=EU g1;obtain⟨r',VA,R'',hQ,h1,h2⟩:=uV e g2.hap (m2 _ _ (m1 _ _ hr));exact⟨v,r',VA,R'',rfl,hQ,h1,h2⟩
 exact e.elim
end
def I8 (k:Nat):List (Nat×au)→List (Nat×au)
 |[]=>[]
 | (x,b)::r=>match Nat.beq x k with
   |true=>I8 k r
   |false=>(x,b)::I8 k r
def ddp:List (Nat×au)→List (Nat×au)
 |[]=>[]
 |(k,b)::r=>(k,b)::I8 k (ddp r)
theorem BZ (k:Nat):∀(l:List (Nat×au)) (t:Nat),t≠k→lk (I8 k l) t=lk l t
 |[],t,_=>rfl
 | (x,b)::r,t,h=>by
   simp only[I8];split
   ·rename_i e;have:=Nat.eq_of_beq_eq_true e;subst this;rw[ak,if_neg (fun e=>h e.symm)];exact BZ x r t h
   rw[ak,ak];split
   ·rfl
   exact BZ k r t h
theorem Sy:∀(l:List (Nat×au)) (t:Nat),lk (ddp l) t=lk l t
 |[],t=>rfl
 | (k,b)::r,t=>by
   simp only[ddp,ak];split
   ·rfl
   rename_i h;rw[BZ k _ t (fun e=>h e.symm)];exact Sy r t
def Sz (hp:List (Nat×au))(vs:List AV)(Q:AV→List (Nat×au)→Prop):Prop:=
 match vs with
 |[v]=>Q v (ddp hp)
 | _=>match MO vs with
   |v=>Q v (ddp hp)
def fnI (T:Tab)(rs:List ResultVar)(Q:AV→List (Nat×au)→Prop)(e:Exit)(s:AS):Prop:=
 match e with
 |.normal=>xY T s rs fun vs=>Sz s.hp vs Q
 |.ret=>xY T s rs fun vs=>Sz s.hp vs Q
 |_=>False
theorem Ca {c:Ctx}{R:Real}{hp hp':List (Nat×au)}{w:World}(hh:∀b,lk hp' b=lk hp b)(g:vZ c R hp w) :
  vZ c R hp' w∧∀v x,ai (aG c R hp) w hp R v x→ai (aG c R hp') w hp' R v x:=by
 have ho:∀r,owned R hp' r↔owned R hp r:=fun r=>by simp only[owned,hh]
 have hN:∀r,r<w.heap.size→aG c R hp' r→aG c R hp r:=fun r _ h=>h.imp id (ho r).1
 have hw:∀r,r<w.heap.size→¬aG c R hp r→w.heap[r]? = w.heap[r]? :=fun _ _ _=>rfl
 have h1:∀b off v,aH R b off v (lk hp b)→aH R b off v (lk hp' b):=fun b off v h=>by rw[hh];exact h
 have h2:∀b ver v,aD R b ver v (lk hp b)→aD R b ver v (lk hp' b):=fun b ver v h=>by rw[hh];exact h
 have h3:∀b ver i off v,aJ R b ver i off v (lk hp b)→aJ R b ver i off v (lk hp' b):=fun b ver i off v h=>by rw[hh];exact h
 have hr:=bP hN hw h1 h2 h3;obtain⟨a,ha1,ha2⟩:∃a:Act,a.tmps.size=c.n∧a.defers=[]:=⟨{ tmps:=Array.replicate c.n undef,defers:=[] },by simp,rfl⟩;have gm:=g.U1 (tm:=[]) (nx:=0) (a:=a) (fun t v h=>by simp[lk] at h) ha1 (by rw[ha2];exact⟨[],Marks.nil⟩);exact⟨(gm.congr (tm':=[]) (hp':=hp') (fun _=>rfl) hh).hap,hr⟩
theorem Lj {c:Ctx}{R:Real}{hp:List (Nat×au)}{w:World}(g:vZ c R hp w){vs:List AV}{us:List Value}{Q:AV→List (Nat×au)→Prop}(h:Sz hp vs Q)
  (hv:FL (ai (aG c R hp) w hp R) vs us):∃r hp' R',Q r hp'∧vZ c R' hp' w∧ai (aG c R' hp') w hp' R' r (if hu:us.toArray.size=1 then us.toArray[0] else .tuple us.toArray):=by
 obtain⟨g',hr⟩:=Ca (Sy hp) g;have hl:=hv.length;unfold Sz at h;split at h
 ·rename_i v;obtain⟨u,r,rfl,hu,hx⟩:=hv;simp only[FL] at hx;subst hx;exact⟨_,_,R,h,g',hr _ _ (by simpa using hu)⟩
 rename_i hne;have hsz:us.toArray.size≠1:=by
  intro e;simp only[List.size_toArray] at e;rw[e] at hl;match vs with
  |[v]=>exact hne v rfl
  |[]=>simp at hl
  |_::_::_=>simp at hl
 rw[dif_neg hsz];refine⟨_,_,R,h,g',hr _ _ ?_⟩;have hv':=(dn _ _ _ _ _ _).2 hv;unfold MO;split
 ·rename_i ps hps;have:=tH hps;subst this;simp only[ai,aU];exact⟨us.toArray,rfl,nI _ _ hv'⟩
 simp only[ai];exact⟨us.toArray,rfl,hv'⟩
section
variable {P:Program}{T:Tab}
theorem o7 (hT:bA P T)(jg:∀(c:Ctx) (R:Real) (s:AS) (a:Act) (w:World) (id:Nat) (ops:Array Oper) (K:Exit→AS→Prop) (ro:Option Nat),aS c R s a w→mg c.n ops.toList=true →
  VC P T (.region id ops true) s K→(Code.region id ops true).wpIn (W1 ro) 0 P (fun e a' w'=>∃R' s',K e s'∧aS c R' s' a' w') a w)
  {f:FuncId} {fn:Func} (hf:bG P f fn) {args:List AV} {hp:List (Nat×au)} (hl:Nat.ble args.length fn.ntmps=true) {Q:AV→List (Nat×au)→Prop}
  (h:Q8 args hp fun s=>VC P T (codeOf fn) s (fnI T fn.results.toList Q)):GC P f args hp Q:=by
 unfold Q8 at h;split at h
 case h_2=>exact h.elim
 rename_i Xg Q7;refine⟨⟨fn,hf.func,hf.body,hf.name⟩,fun c R w bQ hh hargs=>?_⟩;have hbody:fn.body=some (codeOf fn):=by
  have:=hf.body;unfold codeOf;cases hb:fn.body with
  |none=>rw[hb] at this;cases this
  |some c=>rfl
 have hl:=Nat.le_of_ble_eq_true hl;rw[dn] at hargs;have hcl:bQ.size=args.length:=by have:=hargs.length;simpa using this
 let c':Ctx:={ c with n:=fn.ntmps,lo:=w.heap.size }
 have Qv:vZ c' R hp w:=⟨hh.boxes,hh.inj,hh.free,hh.iE,hh.fG,hh.kept,hh.fixed,⟨hh.lo.1,Nat.le_trans hh.lo.2.1 hh.lo.2.2,Nat.le_refl _⟩⟩;refine callsIn_wide.1 (callsIn_of_wp_marks (n:=0) hf.func hbody trivial ?_);have g:aS c' R ⟨Xg,1000000000,hp⟩ { tmps:=bQ++Array.replicate (fn.ntmps-bQ.size) undef,defers:=[] } w:=by
  refine Qv.U1 ?_ ?_ ⟨[],Marks.nil⟩
  ·intro t v hv;obtain⟨_,hp⟩:=Bg lits 0 args Xg t v FU Q7 hv;obtain⟨x,hx,hr⟩:=hargs.get hp;have hx':bQ[t]? = some x:=by simpa using hx
   refine⟨x,?_,hr⟩;have:=size_of_getElem? hx';simp only;rw[Array.getElem?_append_left this];exact hx'
  show (bQ++Array.replicate (fn.ntmps-bQ.size) undef).size=fn.ntmps
  simp;omega
 refine Go.wpIn_mono (dY (c:=c') (ro:=none) hT jg (codeOf fn) ⟨fun _ h=>(by cases h),hh.fixed.nc⟩ g hf.ok h) ?_;rintro e a' Xh ⟨R',s',hK,Xi⟩
 obtain⟨Ds,mkD⟩:=Xi.marks;obtain⟨w',aad,g',hleave⟩:=qb (c:=c') (P:=P) (fn:=fn) (Rr:=fun e w'=>∃v r hp' R',e=.returned v∧Q r hp'∧vZ c R' hp' w'∧ai (aG c R' hp') w' hp' R' r v) hh.iE.size (fun r o h=>size_of_getElem? (hh.fixed.obj r o h)) Ds a' Xh Xi mkD;have fin:(xY T s' fn.results.toList fun vs=>Sz s'.hp vs Q)→LeavesInM Fence.wide 0 P fn a'.tmps (fun e w'=>∃v r hp' R',e=.returned v∧Q r hp'∧vZ c R' hp' w'∧ai (aG c R' hp') w' hp' R' r v) a'.defers .returning Xh:=by
  intro hK;refine hleave ?_;obtain⟨vs,us,h1,h2,h3⟩:=mh g' hT _ hK;obtain⟨r,hp',R2,h4,h5,h6⟩:=Lj g'.hap h2 h3;refine⟨_,?_,_,r,hp',R2,rfl,h4,⟨h5.boxes,h5.inj,h5.free,h5.iE,h5.fG,h5.kept,h5.fixed,⟨h5.lo.1,hh.lo.2.1,?_⟩⟩,h6⟩;rotate_left
  ·have h1:w.heap.size≤w'.heap.size:=h5.lo.2.2;exact Nat.le_trans hh.lo.2.2 h1
  have hres:results fn a'.tmps=(fn.results.mapM (FT P a'.tmps) >>= fun vs=>pure (if h:vs.size=1 then vs[0] else .tuple vs)):=by
   unfold results;congr 2
  have hm:(fn.results.mapM (FT P a'.tmps)).run P w'=.ok us.toArray w':=by
   rw[Array.mapM_eq_mapM_toList,Sem.run_map,h1];rfl
  rw[hres];simp only[Sem.run_bind,hm,Result.andThen_ok,Sem.run_pure]
 cases e with
 |normal=>exact fin hK
 |ret=>exact fin hK
 |exit i=>exact hK.elim
 |goto l=>exact hK.elim
 |panic ch=>exact hK.elim
 |outgrown=>exact hK.elim
end
section
variable {P:Program}{c:Ctx}{R:Real}{s:AS}{a:Act}{w:World}
theorem aS.cut (g:aS c R s a w){b:Nat}{e:TypeId}{ver st:Nat}{rows:List (List PV)}(hb':lk s.hp b=some (.arr e ver st rows)){m:Nat}(hm0:m≤rows.length) :
  aS c R (s.app [(b,.arr e (ver+1) st (rows.take m))]) a w∧ai (aG c R ([(b,.arr e (ver+1) st (rows.take m))]++s.hp)) w ([(b,.arr e (ver+1) st (rows.take m))]++s.hp) R (.aZ b (ver+1)) (gX st 0 m (bO R b rows.length)):=by
 have hR:∀b',b'≠b→R.blk b'=R.blk b'∧R.nil b'=R.nil b'∧R.cap b'=R.cap b':=fun _ _=>⟨rfl,rfl,rfl⟩
 have hlen:(rows.take m).length=m:=by simp;omega
 have hre:=g.boxes b _ hb';have hown2:∃ys,w.ownsRow 0 e st (bO R b (rows.take m).length) (rows.take m).length ys∧bB (aG c R s.hp) w st (rows.take m) ys:=by
  cases hn:R.nil b with
  | true=>
    have:=nO (g.boxes b _ hb') hn;subst this;exact⟨[],⟨by simp,.inl ⟨by simp[bO,hn],by simp⟩⟩,by simp[bB]⟩
  | false=>
    obtain⟨cur,hg,hs,hle,hm,hr,_⟩:=eO (g.boxes b _ hb') hn;have hr2:=jQ (i:=m) hr;obtain⟨t1,t2,t3⟩:=d9 hr2;rw[hlen] at t1 t2;refine⟨cur.toList.take (m*st),⟨?_,.inr ⟨R.blk b,(R.cap b).1,cur,by simp[bO,hn],Nat.zero_le _,hg,?_,hm,hs,by rw[hlen]⟩⟩,t2⟩
    ·rw[List.length_take,hlen];omega
    rw[hlen];omega
 obtain⟨ys,ho,hr⟩:=hown2;obtain⟨g2,hr2⟩:=g.pX (b:=b) (e:=e) (ver:=ver+1) (st:=st) (rows:=rows.take m) (R':=R) (.inr ⟨_,_,_,_,hb',by omega⟩) hR (kK.refl _ w)
  (fun hn=>.inl (by rw[hb'];exact⟨hn,rfl⟩)) ho hr
 refine⟨g2,?_⟩;have:gX st 0 m (bO R b rows.length)=bO R b (rows.take m).length:=by
  rw[hlen];unfold bO;split
  ·rfl
  simp only[gX,Nat.sub_zero,Nat.zero_mul];split<;>rfl
 rw[this];exact hr2
theorem Nl {f:FuncId}{args:List AV}{hp:List (Nat×au)}{b:Nat}{e:TypeId}{ver st m:Nat}{rows:List (List PV)}{rest:List (Nat×au)}
  (h:lg P f args hp (.sub b ver st 0 m) ((b,.arr e ver st rows)::rest)) (hm:m≤rows.length):lg P f args hp (.aZ b (ver+1)) ((b,.arr e (ver+1) st (rows.take m))::rest):=by
 refine⟨h.1,fun c R w bQ hh ha=>(h.2 c R w bQ hh ha).mono ?_⟩;rintro ex w' ⟨v,r0,lq,R',rfl,⟨e1,e2⟩,Qv,hr⟩
 rw[e1,e2] at hr;rw[e2] at Qv;have g:aS c R' ⟨[],0,(b,.arr e ver st rows)::rest⟩ { tmps:=Array.replicate c.n undef,defers:=[] } w':=
  Qv.U1 (fun t v h=>by simp[lk] at h) (by simp) ⟨[],⟨fun d h=>by simp at h,rfl,by simp,fun d h=>by simp at h,fun d h=>by simp at h⟩⟩
 have hb:lk ((b,au.arr e ver st rows)::rest) b=some (.arr e ver st rows):=by rw[ak,if_pos rfl]
 obtain⟨g1,h1⟩:=g.cut hb hm;simp only[ai,hb,aD] at hr;obtain⟨u,⟨_,_,hu⟩,_,rfl⟩:=hr;rw[hu (by trivial)];have hc:∀k,lk ((b,au.arr e (ver+1) st (rows.take m))::rest) k=lk ([(b,.arr e (ver+1) st (rows.take m))]++(b,au.arr e ver st rows)::rest) k:=by
  intro k;simp only[List.cons_append,List.nil_append,ak];split<;>rfl
 obtain⟨g2,m2⟩:=Ca hc g1.hap;exact⟨_,_,_,R',rfl,⟨rfl,rfl⟩,g2,m2 _ _ h1⟩
end
section
variable {P:Program}{c:Ctx}{R:Real}{s:AS}{a:Act}{w:World}
theorem SN {f:FuncId}{args:List AV}{hp:List (Nat×au)}{b:Nat}{e:TypeId}{ver st:Nat}{rows:List (List PV)}{rest:List (Nat×au)}
  (h:lg P f args hp (.aZ b ver) ((b,.arr e ver st rows)::rest)):lg P f args hp (.aZ b (ver+1)) ((b,.arr e (ver+1) st rows)::rest):=by
 refine⟨h.1,fun c R w bQ hh ha=>(h.2 c R w bQ hh ha).mono ?_⟩;rintro ex w' ⟨v,r0,lq,R',rfl,⟨e1,e2⟩,Qv,hr⟩
 rw[e1,e2] at hr;rw[e2] at Qv;have g:aS c R' ⟨[],0,(b,.arr e ver st rows)::rest⟩ { tmps:=Array.replicate c.n undef,defers:=[] } w':=
  Qv.U1 (fun t v h=>by simp[lk] at h) (by simp) ⟨[],⟨fun d h=>by simp at h,rfl,by simp,fun d h=>by simp at h,fun d h=>by simp at h⟩⟩
 have hb:lk ((b,au.arr e ver st rows)::rest) b=some (.arr e ver st rows):=by rw[ak,if_pos rfl]
 obtain⟨g1,h1⟩:=g.cut hb (Nat.le_refl _);simp only[ai,hb,aD] at hr;obtain⟨_,_,hu⟩:=hr;rw[hu (by trivial)];have hs:gX st 0 rows.length (bO R' b rows.length)=bO R' b rows.length:=by
  unfold bO;split
  ·rfl
  simp only[gX,Nat.sub_zero,Nat.zero_mul];split<;>rfl
 rw[hs,List.take_length] at h1;rw[List.take_length] at g1;have hc:∀k,lk ((b,au.arr e (ver+1) st rows)::rest) k=lk ([(b,.arr e (ver+1) st rows)]++(b,au.arr e ver st rows)::rest) k:=by
  intro k;simp only[List.cons_append,List.nil_append,ak];split<;>rfl
 obtain⟨g2,m2⟩:=Ca hc g1.hap;exact⟨_,_,_,R',rfl,⟨rfl,rfl⟩,g2,m2 _ _ h1⟩
end
section
variable {P:Program}{c:Ctx}{R:Real}{s:AS}{a:Act}{w:World}
end
section
variable {P:Program}{c:Ctx}{R:Real}{s:AS}{a:Act}{w:World}
theorem Je {N:Nat→Prop}:∀{ps:List PV} {vs r:List Value},FL (aU N w) ps vs→(∀v∈vs,v.oneCell'=true)→eY N w ps (vs++r)
 |[],vs,r,h,_=>by simp only[eY]
 | p::ps,vs,r,h,h1=>by
   obtain⟨v,r',rfl,h2,h3⟩:=h;simp only[eY,List.cons_append];exact⟨v,r'++r,rfl,h1 v (by simp),h2,Je h3 fun u hu=>h1 u (by simp[hu])⟩
theorem aS.SH (g:aS c R s a w){b:Nat}{e:TypeId}{v st:Nat}{pre post:List (List PV)}{row:List AV}{ps:List PV}{fs:List (Nat×au)}(hb:lk s.hp b=some (.dX e v st pre row post))
  (hps:D6 s.hp row=some ps) (hfs:DZ s.hp (dG row)=some fs) (hbf:lk fs b=none) :
  aS c R (s.app ((b,.arr e v st (pre++ps::post))::fs)) a w∧∀u x,ai (aG c R s.hp) w s.hp R u x→ai (aG c R ((b,.arr e v st (pre++ps::post))::(fs++s.hp))) w ((b,.arr e v st (pre++ps::post))::(fs++s.hp)) R u x:=by
 obtain⟨xs,k1,k2,k3,hrow,k5⟩:=g.boxes b _ hb;obtain⟨g1,m1,n1,o1⟩:=iy g (fun _ _ h=>h) _ _ hfs;have VJ:=(aW _ _ _ _ _ _).1 hrow;have hL:bD (aG c R s.hp) w s.hp R row ((xs.drop (pre.length*st)).take st):=by
  have:∀(l:List AV) (vs:List Value),bN (aG c R s.hp) w s.hp R l vs→bD (aG c R s.hp) w s.hp R l vs:=by
   intro l;induction l with
   |nil=>intro vs h;simpa only[bN,bD] using h
   | cons y l ih=>
     intro vs h;simp only[bN,bD] at h ⊢;obtain⟨z,r,e,_,h1,h2⟩:=h;exact⟨z,r,e,h1,ih _ h2⟩
  exact this _ _ hrow
 have hP:=fO g (fun _ _ h=>h) n1 row ps _ (fun b hb=>o1 b (.inr hb)) hps hL;have hb1:lk (s.app fs).hp b=some (.dX e v st pre row post):=by
  show lk (fs++s.hp) b=_
  rw[xQ,hbf];exact hb
 have hl:(pre++ps::post).length=pre.length+(1+post.length):=by simp[Nat.add_comm]
 obtain⟨g2,m2⟩:=g1.SE (aV:=.arr e v st (pre++ps::post)) hb1 (fun off v h=>h.elim) (fun ver u h=>by simpa only[aD,hl] using h) (fun ver i off u h=>h) (fun r h=>h) (fun hm hN=>by
  refine⟨xs,by rw[hl];exact k1,yL (aI (fun r _ h=>n1 r (hN r h)) (fun _ _ _=>rfl) _ _ _ k2) ?_ ?_ (aI (fun r _ h=>n1 r (hN r h)) (fun _ _ _=>rfl) _ _ _ k5)⟩
  ·rw[iJ] at hP;rw[←hP.length,VJ.length];exact k3
  have hP2:=lN (fun r _ h=>hN r h) (fun _ _ _=>rfl) _ _ hP;rw[iJ] at hP2;have:=Je (r:=(xs.drop (pre.length*st)).drop st) hP2 VJ.one;rwa [List.take_append_drop] at this)
 exact⟨g2,fun u x h=>m2 u x (m1 u x h)⟩
theorem Pf {s s':AS}(b:Nat){e:TypeId}{v st:Nat}{pre post:List (List PV)}{row:List AV}{ps:List PV}{fs:List (Nat×au)}(hb:lk s.hp b=some (.dX e v st pre row post))
  (hps:D6 s.hp row=some ps) (hfs:DZ s.hp (dG row)=some fs) (hbf:lk fs b=none) (h:rG ⟨s.tm,s.nx,(b,.arr e v st (pre++ps::post))::(fs++s.hp)⟩ s'):rG s s':=
 fun c R a w g=>h c R a w (g.SH hb hps hfs hbf).1
end
section
variable {c:Ctx}{R:Real}{s:AS}{a:Act}{w:World}
end
section
variable {c:Ctx}{R:Real}{s:AS}{a:Act}{w:World}
end
def tmT (H:List (Nat×au)):List (Nat×AV)→List (Nat×AV)
 |[]=>[]
 |(t,v)::r=>(t,thA H v)::tmT H r
theorem SQ (H:List (Nat×au)):∀(tm:List (Nat×AV)) (t:Nat),lk (tmT H tm) t=(lk tm t).map (thA H)
 |[],t=>rfl
 | (k,v)::r,t=>by
   simp only[tmT,ak];split
   ·rfl
   exact SQ H r t
theorem aS.told {c:Ctx}{R:Real}{s:AS}{a:Act}{w:World}(g:aS c R s a w):aS c R ⟨tmT s.hp s.tm,s.nx,s.hp⟩ a w:=by
 refine⟨?_,g.size,g.lo,g.marks,g.fixed,g.boxes,g.inj,g.free,g.iE,g.fG,g.kept⟩;intro t v hv;rw[SQ] at hv;cases h:lk s.tm t with
 |none=>rw[h] at hv;cases hv
 | some v0=>
   rw[h] at hv;simp only[Option.map_some,Option.some.injEq] at hv;subst hv;obtain⟨x,hx,hr⟩:=g.slots t v0 h;exact⟨x,hx,ET g hr⟩
section
variable {P:Program}
end
def pin (T:Tab):Tab:=
 match T with
 |x::y::r=>x::y::y::r
 |T=>T
theorem Pk {P:Program}{T:Tab}(h:bA P T):bA P (pin T):=by
 intro t i hi;refine h t i ?_;unfold pin at hi;split at hi
 ·rename_i x y r;rw[ak,ak,ak] at hi;rw[ak,ak];by_cases e1:x.1=t
  ·rw[if_pos e1] at hi ⊢;exact hi
  rw[if_neg e1] at hi ⊢;by_cases e2:y.1=t
  ·rw[if_pos e2] at hi ⊢;exact hi
  rw[if_neg e2] at hi;rw[if_neg e2] at hi ⊢;exact hi
 exact hi
end Go.AX
namespace Go.AX
section
variable {c:Ctx}{R:Real}{s:AS}{a:Act}{w:World}
end
section
variable {P:Program}{c:Ctx}{R:Real}{s:AS}{a:Act}{w:World}
end
section
variable (b n:Nat)
mutual
def Pd:AV→AV
 |.pv p=>.pv p
 |.agg cs=>.agg (Cb cs)
 |.fM cs=>.fM (Cb cs)
 |.ptr x o=>.ptr x o
 | .aZ x v=>match Nat.beq x b with
   |true=>.aZ n 0
   |false=>.aZ x v
 | .sub x v st lo hi=>match Nat.beq x b with
   |true=>.pv .junk
   |false=>.sub x v st lo hi
 | .bU x v i o=>match Nat.beq x b with
   |true=>.pv .junk
   |false=>.bU x v i o
 |.fn f a c=>.fn f (Cb a) (Cb c)
def Cb:List AV→List AV
 |[]=>[]
 |x::r=>Pd x::Cb r
end
def um (x:Nat)(box:au):au:=
 match box with
 |.var cells=>.var (Cb b n cells)
 | .arr e v st rows=>match Nat.beq x b with
   |true=>.gD 1 st []
   |false=>.arr e v st rows
 |.lM cells=>.lM cells
 |.gD v st rows=>.gD v st rows
 |.tr y v rest st=>.tr y v rest st
 |.dX e v st pre row post=>.dX e v st pre (Cb b n row) post
 |.mp kk kv es=>.mp kk kv es
 |.fZ e v st j ed sd pre row post=>.fZ e v st j ed sd pre (Cb b n row) post
def Lm:List (Nat×au)→List (Nat×au)
 |[]=>[]
 |(x,box)::r=>(x,um b n x box)::Lm r
end
theorem fU {x y:Nat}(h:x≠y):Nat.beq x y=false:=by
 cases h':Nat.beq x y with
 |false=>rfl
 |true=>exact absurd (Nat.eq_of_beq_eq_true h') h
def mvM (b n:Nat)(hp:List (Nat×au))(K:List (Nat×au)→Prop):Prop:=
 match lk hp b with
 | some (.arr e v st rows)=>match v with
   | 0=>match lk hp n with
     |none=>K ((n,.arr e 0 st rows)::Lm b n hp)
     |some _=>False
   |_=>False
 |_=>False
theorem SC (b n:Nat):∀(hp:List (Nat×au)) (x:Nat),lk (Lm b n hp) x=(lk hp x).map (um b n x)
 |[],x=>rfl
 | (y,box)::r,x=>by
   simp only[Lm,ak];split
   ·rename_i e;subst e;rfl
   exact SC b n r x
theorem wY (b n:Nat):∀(vs:List AV),(Cb b n vs).length=vs.length
 |[]=>rfl
 |v::r=>by simp[Cb,wY b n r]
def EN (b n:Nat)(R:Real):Real where
 blk x:=if x=n then R.blk b else R.blk x
 nil x:=if x=n then R.nil b else R.nil x
 cap x:=if x=n then R.cap b else R.cap x
 Y:=R.Y
section
variable {N:Nat→Prop}{w:World}{hp:List (Nat×au)}{R:Real}{b n:Nat}{e:TypeId}{st:Nat}{rows:List (List PV)}
variable (hb:lk hp b=some (.arr e 0 st rows))(hn:lk hp n=none)
include hb hn
theorem o8 {x:Nat}(h:x≠n):(EN b n R).blk x=R.blk x∧(EN b n R).nil x=R.nil x∧(EN b n R).cap x=R.cap x:=by simp[EN,h]
omit hn in
theorem YG:(EN b n R).blk n=R.blk b∧(EN b n R).nil n=R.nil b∧(EN b n R).cap n=R.cap b:=by simp[EN]
theorem zG (x:Nat)(h:x≠n):lk ((n,.arr e 0 st rows)::Lm b n hp) x=(lk hp x).map (um b n x):=by
 rw[ak,if_neg (fun h'=>h h'.symm),SC]
omit hb hn in
theorem iG {R R':Real}{x y k:Nat}(h1:R'.blk y=R.blk x)(h2:R'.nil y=R.nil x)(h3:R'.cap y=R.cap x):bO R' y k=bO R x k:=by
 simp only[bO,h1,h2,h3]
mutual
theorem Cc:∀(v:AV) (x:Value),ai N w hp R v x→ai N w ((n,.arr e 0 st rows)::Lm b n hp) (EN b n R) (Pd b n v) x
 |.pv p,x,h=>by simpa only[ai,Pd] using h
 | .agg cs,x,h=>by
   simp only[ai,Pd] at h ⊢;obtain⟨vs,h1,h2⟩:=h;exact⟨vs,h1,wZ cs _ h2⟩
 | .fM cs,x,h=>by
   simp only[ai,Pd] at h ⊢;obtain⟨vs,h1,h2⟩:=h;exact⟨vs,h1,xg cs _ h2⟩
 | .fn f a c,x,h=>by
   simp only[ai,Pd] at h ⊢;obtain⟨fs,cs,h1,h2,h3⟩:=h;exact⟨fs,cs,h1,xg a _ h2,xg c _ h3⟩
 | .ptr y o,x,h=>by
   simp only[ai,Pd] at h ⊢;by_cases hyn:y=n
   ·subst hyn;rw[hn] at h;exact h.elim
   rw[zG hb hn y hyn];obtain⟨e1,e2,e3⟩:=o8 (R:=R) hb hn hyn;cases hy:lk hp y with
   |none=>rw[hy] at h;exact h.elim
   | some box=>
     rw[hy] at h;cases box with
     |var cells=>simpa only[Option.map_some,um,aH,e1] using h
     |lM cells=>simpa only[Option.map_some,um,aH,e1] using h
     |arr _ _ _ _=>exact h.elim
     |gD _ _ _=>exact h.elim
     |tr _ _ _ _=>exact h.elim
     |mp _ _ _=>exact h.elim
     |fZ _ _ _ _ _ _ _ _ _=>exact h.elim
     |dX _ _ _ _ _ _=>exact h.elim
 | .aZ y v,x,h=>by
   simp only[ai,Pd] at h ⊢;by_cases hyb:y=b
   ·subst hyb;rw[hb] at h;obtain⟨h1,h2,h3⟩:=h;have hv:v=0:=by omega
    subst hv;rw[show Nat.beq y y=true from Nat.beq_refl y];simp only[ai,ak,if_true];refine⟨Nat.le_refl _,h2,fun _=>?_⟩;obtain⟨e1,e2,e3⟩:=YG (R:=R) (n:=n) hb;rw[iG e1 e2 e3];exact h3 rfl
   rw[show Nat.beq y b=false from fU hyb];simp only[ai];by_cases hyn:y=n
   ·subst hyn;rw[hn] at h;exact h.elim
   rw[zG hb hn y hyn];obtain⟨e1,e2,e3⟩:=o8 (R:=R) hb hn hyn;cases hy:lk hp y with
   |none=>rw[hy] at h;exact h.elim
   | some box=>
     rw[hy] at h;cases box with
     |var cells=>exact h.elim
     |lM cells=>exact h.elim
     | arr e' v' st' aB=>
       simp only[Option.map_some,um,show Nat.beq y b=false from fU hyb,aD,iG e1 e2 e3] at h ⊢;exact h
     | gD v' st' aB=>
       simp only[Option.map_some,um,aD,iG e1 e2 e3] at h ⊢;exact h
     |tr _ _ _ _=>exact h.elim
     |mp _ _ _=>exact h.elim
     | fZ _ _ _ _ _ _ _ _ _=>
       simp only[Option.map_some,um,aD,iG e1 e2 e3,oG (wY _ _ _)] at h ⊢;exact h
     | dX _ _ _ _ _ _=>
       simp only[Option.map_some,um,aD,iG e1 e2 e3] at h ⊢;exact h
 | .sub y v st' lo hi,x,h=>by
   simp only[Pd];by_cases hyb:y=b
   ·subst hyb;rw[show Nat.beq y y=true from Nat.beq_refl y];simp only[ai,aU]
   rw[show Nat.beq y b=false from fU hyb];simp only[ai] at h ⊢;obtain⟨u,h,h2,h3⟩:=h;refine⟨u,?_,h2,h3⟩;by_cases hyn:y=n
   ·subst hyn;rw[hn] at h;exact h.elim
   rw[zG hb hn y hyn];obtain⟨e1,e2,e3⟩:=o8 (R:=R) hb hn hyn;cases hy:lk hp y with
   |none=>rw[hy] at h;exact h.elim
   | some box=>
     rw[hy] at h;cases box with
     |var cells=>exact h.elim
     |lM cells=>exact h.elim
     | arr e' v' st' aB=>
       simp only[Option.map_some,um,show Nat.beq y b=false from fU hyb,aD,iG e1 e2 e3] at h ⊢;exact h
     | gD v' st' aB=>
       simp only[Option.map_some,um,aD,iG e1 e2 e3] at h ⊢;exact h
     |tr _ _ _ _=>exact h.elim
     |mp _ _ _=>exact h.elim
     | fZ _ _ _ _ _ _ _ _ _=>
       simp only[Option.map_some,um,aD,iG e1 e2 e3,oG (wY _ _ _)] at h ⊢;exact h
     | dX _ _ _ _ _ _=>
       simp only[Option.map_some,um,aD,iG e1 e2 e3] at h ⊢;exact h
 | .bU y v i o,x,h=>by
   simp only[Pd];by_cases hyb:y=b
   ·subst hyb;rw[show Nat.beq y y=true from Nat.beq_refl y];simp only[ai,aU]
   rw[show Nat.beq y b=false from fU hyb];simp only[ai] at h ⊢;by_cases hyn:y=n
   ·subst hyn;rw[hn] at h;exact h.elim
   rw[zG hb hn y hyn];obtain⟨e1,e2,e3⟩:=o8 (R:=R) hb hn hyn;cases hy:lk hp y with
   |none=>rw[hy] at h;exact h.elim
   | some box=>
     rw[hy] at h;cases box with
     |var cells=>exact h.elim
     |lM cells=>exact h.elim
     | arr e' v' st' aB=>
       simp only[Option.map_some,um,show Nat.beq y b=false from fU hyb,aJ,e1,e2] at h ⊢;exact h
     | gD v' st' aB=>
       simp only[Option.map_some,um,aJ,e1,e2] at h ⊢;exact h
     | tr _ _ _ _=>
       simp only[Option.map_some,um,aJ,e1,e2] at h ⊢;exact h
     | mp _ _ _=>
       simp only[Option.map_some,um,aJ,e1,e2] at h ⊢;exact h
     | fZ _ _ _ _ _ _ _ _ _=>
       simp only[Option.map_some,um,aJ,e1,e2] at h ⊢;exact h
     | dX _ _ _ _ _ _=>
       simp only[Option.map_some,um,aJ,e1,e2] at h ⊢;exact h
theorem xg:∀(vs:List AV) (xs:List Value),bD N w hp R vs xs→bD N w ((n,.arr e 0 st rows)::Lm b n hp) (EN b n R) (Cb b n vs) xs
 |[],xs,h=>by simpa only[bD,Cb] using h
 | v::vs,xs,h=>by
   simp only[bD,Cb] at h ⊢;obtain⟨x,r,h1,h2,h3⟩:=h;exact⟨x,r,h1,Cc v x h2,xg vs r h3⟩
theorem wZ:∀(vs:List AV) (xs:List Value),bN N w hp R vs xs→bN N w ((n,.arr e 0 st rows)::Lm b n hp) (EN b n R) (Cb b n vs) xs
 |[],xs,h=>by simpa only[bN,Cb] using h
 | v::vs,xs,h=>by
   simp only[bN,Cb] at h ⊢;obtain⟨x,r,h1,h0,h2,h3⟩:=h;exact⟨x,r,h1,h0,Cc v x h2,wZ vs r h3⟩
end
theorem Gh (y r:Nat):ax (EN b n R) y r (lk ((n,.arr e 0 st rows)::Lm b n hp) y)↔(y=n∧ax R b r (lk hp b))∨(y≠n∧y≠b∧ax R y r (lk hp y)):=by
 by_cases hyn:y=n
 ·subst hyn;obtain⟨e1,e2,e3⟩:=YG (R:=R) (n:=y) hb;simp only[ak,if_true,ax,hb,e1,e2,true_and,not_true_eq_false,false_and,or_false,ne_eq]
 rw[zG hb hn y hyn];obtain⟨e1,e2,e3⟩:=o8 (R:=R) hb hn hyn;by_cases hyb:y=b
 ·subst hyb;rw[hb];simp only[Option.map_some,um,show Nat.beq y y=true from Nat.beq_refl y,ax,hyn,false_and,ne_eq,not_true_eq_false,and_false,or_self]
 cases hy:lk hp y with
 |none=>simp[ax,hyn]
 | some box=>
   cases box with
   |var cells=>simp[um,ax,hyn,hyb,e1]
   |lM cells=>simp[um,ax,hyn]
   |arr e' v' st' aB=>simp[um,ax,hyn,hyb,e1,e2,show Nat.beq y b=false from fU hyb]
   |gD v' st' aB=>simp[um,ax,hyn]
   |tr _ _ _ _=>simp[um,ax,hyn,hyb,EN]
   |dX _ _ _ _ _ _=>simp[um,ax,hyn,hyb,e1,e2]
   |mp _ _ _=>simp[um,ax,hyn,hyb,e1,e2]
   |fZ _ _ _ _ _ _ _ _ _=>simp[um,ax,hyn,hyb,e1,e2,e3]
theorem Ja (r:Nat):owned (EN b n R) ((n,.arr e 0 st rows)::Lm b n hp) r↔owned R hp r:=by
 constructor
 ·rintro⟨y,hy⟩
  rcases (Gh hb hn y r).1 hy with ⟨_,h⟩|⟨_,_,h⟩
  ·exact⟨b,h⟩
  exact⟨y,h⟩
 rintro⟨y,hy⟩
 by_cases hyb:y=b
 ·subst hyb;exact⟨n,(Gh hb hn n r).2 (.inl ⟨rfl,hy⟩)⟩
 by_cases hyn:y=n
 ·subst hyn;rw[hn] at hy;exact hy.elim
 exact⟨y,(Gh hb hn y r).2 (.inr ⟨hyn,hyb,hy⟩)⟩
theorem YI {c:Ctx}(hn1:1000≤n)(h:vZ c R hp w):vZ c (EN b n R) ((n,.arr e 0 st rows)::Lm b n hp) w:=by
 have hown:=Ja (R:=R) hb hn;have adF:∀r,aG c (EN b n R) ((n,.arr e 0 st rows)::Lm b n hp) r↔aG c R hp r:=fun r=>by
  simp only[aG,hown]
 have aa0:aG c (EN b n R) ((n,.arr e 0 st rows)::Lm b n hp)=aG c R hp:=funext fun r=>propext (adF r)
 have adG:owned (EN b n R) ((n,.arr e 0 st rows)::Lm b n hp)=owned R hp:=funext fun r=>propext (hown r)
 have hbx:=h.boxes b _ hb;refine⟨?_,?_,?_,h.iE,?_,?_,by rw[adG];exact h.fixed,h.lo⟩
 ·intro y box hy;rw[aa0];by_cases hyn:y=n
  ·subst hyn;simp only[ak,if_true,Option.some.injEq] at hy;subst hy;obtain⟨xs,h1,h2⟩:=hbx;obtain⟨e1,e2,e3⟩:=YG (R:=R) (n:=y) hb;exact⟨xs,by rw[iG e1 e2 e3];exact h1,h2⟩
  rw[zG hb hn y hyn] at hy;obtain⟨e1,e2,e3⟩:=o8 (R:=R) hb hn hyn;cases hl:lk hp y with
  |none=>rw[hl] at hy;cases hy
  | some bx=>
    rw[hl] at hy;simp only[Option.map_some,Option.some.injEq] at hy;subst hy;have hr:=h.boxes y _ hl;cases bx with
    | var cells=>
      obtain⟨cur,t,h1,h2⟩:=hr;exact⟨cur,t,by rw[e1];exact h1,wZ hb hn cells _ h2⟩
    | lM cells=>
      obtain⟨cur,t,fr,h1,h2,h3⟩:=hr;exact⟨cur,t,fr,by rw[e1];exact h1,by rw[e1];exact h2,h3⟩
    | arr e' v' st' aB=>
      simp only[um];by_cases hyb:y=b
      ·subst hyb;rw[show Nat.beq y y=true from Nat.beq_refl y];rw[hb] at hl;cases hl;simp only[dB,iG e1 e2 e3];obtain⟨xs,⟨_,h3⟩,_⟩:=hbx;unfold bO;split
       ·simp only[aU];exact⟨none,0,0,rfl,rfl,⟨Nat.le_refl _,by omega⟩,fun _=>⟨by trivial,by trivial⟩,fun a ha=>by cases ha⟩
       rename_i hnil;rcases h3 with ⟨h3,_⟩|⟨g',cap,cur,e4,_,hg,hle,hm,_⟩
       ·simp[bO,hnil] at h3
       simp only[bO,hnil,Bool.false_eq_true,if_false,Value.slice.injEq] at e4;simp only[aU];refine⟨_,0,(R.cap y).1,rfl,rfl,⟨Nat.zero_le _,?_⟩,fun hh=>(by cases hh),fun a ha=>.inl (by trivial)⟩;have:=e4.2.2;unfold maxLen at hm;omega
      rw[fU hyb];obtain⟨xs,h1,h2⟩:=hr;exact⟨xs,by rw[iG e1 e2 e3];exact h1,h2⟩
    | gD v' st' aB=>
      simp only[um,dB,iG e1 e2 e3] at hr ⊢;exact hr
    | tr y' v' rest st'=>
      simp only[um,dB,e2] at hr ⊢;exact hr
    | mp kk kv es=>
      obtain⟨cur,clock,h1,h2,h3⟩:=hr;exact⟨cur,clock,by rw[e1];exact h1,by rw[e2];exact h2,h3⟩
    |fZ e' v' st' j ed sd pre row post=>exact gZ (fun _ _ x=>x) (fun _ _ _=>rfl) e1 e2 e3 (fun _ _=>rfl) (wY _ _ _) (fun vs h=>wZ hb hn row _ h) hr
    | dX e' v' st' pre row post=>
      obtain⟨xs,h1,h2,h3,h4,h5⟩:=hr;exact⟨xs,by rw[iG e1 e2 e3];exact h1,h2,by rw[wY];exact h3,wZ hb hn row _ h4,h5⟩
 ·intro y y' r h1 h2;rw[Gh hb hn] at h1 h2;rcases h1 with ⟨rfl,h1⟩|⟨a1,a2,h1⟩<;>rcases h2 with ⟨rfl,h2⟩|⟨b1,b2,h2⟩
  ·rfl
  ·exact absurd (h.inj _ _ _ h1 h2).symm b2
  ·exact absurd (h.inj _ _ _ h1 h2) a2
  exact h.inj _ _ _ h1 h2
 ·intro r hr;exact h.free r ((hown r).1 hr)
 ·intro r hr;exact h.fG r ((hown r).1 hr)
 intro v x hk;have hlow:=c.hK v x hk;have hold:=h.kept v x hk;rw[aa0];have key:∀y,y<1000→y≠n:=fun y hy=>by omega
 cases v with
 | ptr y o=>
   have:=Cc (b:=b) (n:=n) hb hn _ _ hold;simpa only[Pd] using this
 | aZ y v=>
   simp only[iD,Nat.blt_eq] at hlow;by_cases hyb:y=b
   ·subst hyb;simp only[ai,hb,aD] at hold;simp only[ai];rw[zG hb hn y (key y hlow),hb];simp only[Option.map_some,um,show Nat.beq y y=true from Nat.beq_refl y,aD];exact⟨by omega,hold.2.1,fun hh=>by omega⟩
   have:=Cc (b:=b) (n:=n) hb hn _ _ hold;simpa only[Pd,fU hyb] using this
 | bU y v i o=>
   simp only[iD,Bool.and_eq_true,Nat.blt_eq] at hlow;by_cases hyb:y=b
   ·subst hyb;simp only[ai,hb,aJ] at hold;simp only[ai];rw[zG hb hn y (key y hlow.1),hb];simp only[Option.map_some,um,show Nat.beq y y=true from Nat.beq_refl y,aJ];exact⟨by omega,hold.2.1,fun hh=>by omega⟩
   have:=Cc (b:=b) (n:=n) hb hn _ _ hold;simpa only[Pd,fU hyb] using this
 |pv p=>cases hlow
 |agg cs=>cases hlow
 |fM cs=>cases hlow
 |sub y v st lo hi=>cases hlow
 |fn f a c=>cases hlow
end
theorem Ce {P:Program}{f:FuncId}{args:List AV}{hp:List (Nat×au)}{Q:AV→List (Nat×au)→Prop}(b n:Nat)(hn1:Nat.ble 1000 n=true)
  (h:mvM b n hp fun hp2=>GC P f (Cb b n args) hp2 Q):GC P f args hp Q:=by
 unfold mvM at h;split at h;rotate_left;cases h
 rename_i e v st rows hb;split at h;rotate_left;cases h
 split at h;rotate_left;cases h
 rename_i hn;refine⟨h.1,fun c R w bQ hh hargs=>?_⟩;have hh2:=YI hb hn (Nat.le_of_ble_eq_true hn1) hh;have hN:aG c (EN b n R) ((n,.arr e 0 st rows)::Lm b n hp)=aG c R hp:=funext fun r=>propext (by simp only[aG,Ja (R:=R) hb hn])
 refine h.2 c (EN b n R) w bQ hh2 ?_;rw[hN];exact xg hb hn _ _ hargs
theorem EZ {set f g:List Pl}(h:∀p,p∈f→p∈g):∀k,om set f k≤om set g k
 |0=>Nat.le_refl _
 | k+1=>by
   have ih:=EZ (set:=set) h k;simp only[om];split
   ·rename_i hk;by_cases h1:(f.any (· == set[k]) && !(set.take k).any (· == set[k]))=true
    ·have h2:(g.any (· == set[k]) && !(set.take k).any (· == set[k]))=true:=by
      simp only[Bool.and_eq_true,List.any_eq_true,beq_iff_eq] at h1 ⊢;obtain⟨⟨x,hx,e⟩,h3⟩:=h1;exact⟨⟨x,h x hx,e⟩,h3⟩
     rw[if_pos h1,if_pos h2];omega
    rw[if_neg h1];omega
   omega
theorem Cv {set f g:List Pl}{a:Int}(h:∀p,p∈f→p∈g)(ha:fT set a f=true):fT set a g=true:=by
 simp only[fT,Bool.and_eq_true,decide_eq_true_eq] at ha ⊢;have:=EZ (set:=set) h set.length;unfold Le at *;omega
theorem E5 {q:Fr→Bool}{f:Fr}:∀{l:List Fr},q f=false→jZ q (l++[f])=jZ q l:=by
 intro l h;unfold jZ;rw[List.foldl_append];simp[h]
theorem LB {l:List Fr}{f:Fr}{n:Int}(h:n<f.first):gT (bn l f) n=gT l n:=by
 have hf:decide (f.first≤n)=false:=by simp;omega
 unfold bn gT;rw[E5 hf];split
 ·rename_i e;cases hl:l.getLast? with
  | none=>
    have:l=[]:=by simpa using hl
    rw[this];rfl
  | some g=>
    obtain⟨r,hr⟩:=List.getLast?_eq_some_iff.1 hl;have e2:g.first=f.first:=by
     simp only[aO,hl,Option.getD_some,beq_iff_eq] at e;exact e
    rw[hr,List.dropLast_concat];exact (E5 (by simp;omega)).symm
 rfl
theorem E8 {l:List Fr}{f:Fr}{w n:Int}(h:n<f.first):setOf (bn l f) w n=setOf l w n:=by
 unfold setOf;rw[LB h]
def dL (had:List Hp)(n:Int):List Pl:=(had.filter fun h=>h.n==n).map (·.x)
def sM (bK:List (List UInt8))(n:Int)(b:List UInt8):Prop:=1≤n∧n≤(bK.length:Int)∧b=bK[(n-1).toNat]!
structure nP (sure:Int)(waits:List Wt)(bK:List (List UInt8))(had:List Hp):Prop where
 s0:0≤sure
 len:sure+waits.length=bK.length
 num:∀i (h:i<waits.length),waits[i].n=sure+1+i
 body:∀x∈waits,sM bK x.n x.body
 from_:∀x∈waits,∀p∈x.from_,p∈dL had x.n
structure jA (s:Sg):Prop where
 wk:nP s.w.sure s.w.waits s.bK s.had
 nx:s.w.next=s.bK.length+1
 hd:∀h∈s.had,sM s.bK h.n h.body
 bq:∀m∈s.cO,m.ask=true→sM s.bK m.q.n m.q.body
 br:∀m∈s.cO,m.ask=false→m.r.code=0→m.r.from_∈dL s.had m.r.n
 ask:s.ask=s.w.change
 AA:s.ask.first≠0→s.w.sure<s.ask.first
 pl:s.bZ=if s.ask.first≠0∧s.taken=1 then bn s.w.l.aj s.ask else s.w.l.aj
 good:∀n,1≤n→n≤s.w.sure→fT (setOf s.bZ s.w.l.w n) s.w.l.a (dL s.had n)=true
theorem sN {had:List Hp}{h:Hp}{n:Int}{p:Pl}(hp:p∈dL had n):p∈dL (had++[h]) n:=by
 unfold dL at *;rw[List.filter_append,List.map_append];exact List.mem_append_left _ hp
theorem Jp (had:List Hp)(x:Pl)(n:Int)(b:List UInt8):x∈dL (had++[⟨x,n,b⟩]) n:=by
 unfold dL;rw[List.filter_append,List.map_append];exact List.mem_append_right _ (by simp)
theorem yO {bK:List (List UInt8)}{n:Int}{b c:List UInt8}(h:sM bK n b):sM (bK++[c]) n b:=by
 obtain⟨h1,h2,h3⟩:=h;refine⟨h1,by simp only[List.length_append];omega,?_⟩;have hi:(n-1).toNat<bK.length:=by omega
 rw[h3,getElem!_pos bK _ hi,getElem!_pos (bK++[c]) _ (by simp only[List.length_append];omega),List.getElem_append_left hi]
theorem getLast_take {α:Type}(q:α→Bool):∀(l:List α),(l.takeWhile q)=l.take (l.takeWhile q).length
 |[]=>rfl
 | x::r=>by
   rw[List.takeWhile_cons];split
   ·rw[List.length_cons,List.take_succ_cons,←getLast_take q r]
   rfl
theorem drop_take {α:Type}(q:α→Bool):∀(l:List α),(l.dropWhile q)=l.drop (l.takeWhile q).length
 |[]=>rfl
 | x::r=>by
   rw[List.takeWhile_cons,List.dropWhile_cons];split
   ·rw[List.length_cons,List.drop_succ_cons,drop_take q r]
   rfl
theorem Pm {w:Wr}{bK:List (List UInt8)}{had:List Hp}(h:nP w.sure w.waits bK had) :
  (dR w).sure=w.sure+(w.waits.takeWhile (bX w)).length∧(∀x∈w.waits.takeWhile (bX w),bX w x=true)∧nP (dR w).sure (dR w).waits bK had:=by
 have h1:(dR w).sure=w.sure+(w.waits.takeWhile (bX w)).length:=by
  unfold dR;simp only;cases hl:(w.waits.takeWhile (bX w)).getLast? with
  | none=>
    have:w.waits.takeWhile (bX w)=[]:=by simpa using hl
    rw[this];simp
  | some x=>
    obtain⟨r,hr⟩:=List.getLast?_eq_some_iff.1 hl;have hlen:(w.waits.takeWhile (bX w)).length=r.length+1:=by rw[hr];simp
    have hle:=List.takeWhile_prefix (bX w) (l:=w.waits) |>.length_le
    have hx:x=w.waits[r.length]'(by omega):=by
     have e:=getLast_take (bX w) w.waits;have:(w.waits.takeWhile (bX w))[r.length]? = some x:=by rw[hr];simp
     rw[e,List.getElem?_take,if_pos (by omega),List.getElem?_eq_getElem (by omega)] at this;exact (Option.some.inj this).symm
    simp only[Option.map_some,Option.getD_some];rw[hx,h.num r.length (by omega),hlen];omega
 have hle:=List.takeWhile_prefix (bX w) (l:=w.waits) |>.length_le
 refine⟨h1,fun x hx=>?_,?_⟩
 ·exact List.all_eq_true.1 (List.all_takeWhile (p:=bX w) (l:=w.waits)) x hx
 have hd:(dR w).waits=w.waits.drop (w.waits.takeWhile (bX w)).length:=drop_take _ _;rw[h1,hd];have hl:=h.len;have hs:=h.s0;refine⟨by omega,by rw[List.length_drop];omega,fun i hi=>?_,fun x hx=>h.body x (List.mem_of_mem_drop hx),fun x hx=>h.from_ x (List.mem_of_mem_drop hx)⟩;rw[List.getElem_drop,h.num];omega
theorem Jq {s:Sg}{w:Wr}(hw:nP w.sure w.waits s.bK s.had)(nx:w.next=s.bK.length+1)(hd:∀h∈s.had,sM s.bK h.n h.body)
  (bq:∀m∈s.cO,m.ask=true→sM s.bK m.q.n m.q.body) (br:∀m∈s.cO,m.ask=false→m.r.code=0→m.r.from_∈dL s.had m.r.n)
  (ask:s.ask=w.change) (AA:s.ask.first≠0→w.sure<s.ask.first) (pl:s.bZ=if s.ask.first≠0∧s.taken=1 then bn w.l.aj s.ask else w.l.aj)
  (good:∀n,1≤n→n≤w.sure→fT (setOf s.bZ w.l.w n) w.l.a (dL s.had n)=true):jA { s with w:=dR w }∧w.sure≤(dR w).sure:=by
 obtain⟨m1,m2,m3⟩:=Pm hw;have abt:∀n,w.sure<n→n≤(dR w).sure→∃x∈w.waits,x.n=n∧bX w x=true:=by
  intro n h1 h2;have hle:=List.takeWhile_prefix (bX w) (l:=w.waits) |>.length_le
  have hi:(n-w.sure-1).toNat<(w.waits.takeWhile (bX w)).length:=by omega
  have hx:=List.getElem_mem hi;refine⟨_,List.takeWhile_subset _ hx,?_,m2 _ hx⟩;have e:=getLast_take (bX w) w.waits;have:(w.waits.takeWhile (bX w))[(n-w.sure-1).toNat]=w.waits[(n-w.sure-1).toNat]'(by omega):=by
   have h3:(w.waits.takeWhile (bX w))[(n-w.sure-1).toNat]? = w.waits[(n-w.sure-1).toNat]? :=by
    conv=>lhs;rw[e]
    rw[List.getElem?_take,if_pos hi]
   rw[List.getElem?_eq_getElem hi,List.getElem?_eq_getElem (by omega)] at h3;exact Option.some.inj h3
  rw[this,hw.num];omega
 refine⟨⟨m3,nx,hd,bq,br,ask,fun h0=>?_,pl,fun n h1 h2=>?_⟩,by omega⟩
 ·show (dR w).sure<s.ask.first
  by_cases hc:w.sure<(dR w).sure
  ·obtain⟨x,hx,e,hs⟩:=abt (dR w).sure hc (Int.le_refl _);simp only[bX,Bool.and_eq_true,Bool.or_eq_true,beq_iff_eq,decide_eq_true_eq] at hs;rw[ask] at h0 ⊢;rcases hs.2 with h3|h3
   ·exact absurd h3 h0
   omega
  have:=AA h0;omega
 show fT (setOf s.bZ w.l.w n) w.l.a (dL s.had n)=true
 by_cases hc:n≤w.sure
 ·exact good n h1 hc
 obtain⟨x,hx,e,hs⟩:=abt n (by omega) h2;simp only[bX,Bool.and_eq_true,Bool.or_eq_true,beq_iff_eq,decide_eq_true_eq] at hs;have h4:setOf s.bZ w.l.w n=bJ w n:=by
  unfold bJ;rw[pl];split
  ·rename_i h5;rcases hs.2 with h3|h3
   ·rw[ask] at h5;exact absurd h3 h5.1
   rw[E8 (by rw[ask];omega)]
  rfl
 rw[h4,←e];exact Cv (hw.from_ x hx) hs.1
def gy (x:Wt):Int×List UInt8×List Pl:=(x.n,x.body,x.from_)
structure iw (w w':Wr):Prop where
 l:w'.l=w.l
 nx:w'.next=w.next
 su:w'.sure=w.sure
 ch:w'.change=w.change
 wt:w'.waits.map gy=w.waits.map gy
theorem iw.refl (w:Wr):iw w w:=⟨rfl,rfl,rfl,rfl,rfl⟩
theorem iw.trans {a b c:Wr}(h:iw a b)(k:iw b c):iw a c:=⟨k.l.trans h.l,k.nx.trans h.nx,k.su.trans h.su,k.ch.trans h.ch,k.wt.trans h.wt⟩
theorem Cw {l l':List Wt}(h:l'.map gy=l.map gy){x:Wt}(hx:x∈l'):∃y∈l,y.n=x.n∧y.body=x.body∧y.from_=x.from_:=by
 have:gy x∈l.map gy:=by rw[←h];exact List.mem_map.2 ⟨x,hx,rfl⟩
 obtain⟨y,hy,e⟩:=List.mem_map.1 this;simp only[gy,Prod.mk.injEq] at e;exact⟨y,hy,e.1,e.2.1,e.2.2⟩
theorem LC {sure:Int}{l l':List Wt}{bK:List (List UInt8)}{had:List Hp}(h:l'.map gy=l.map gy)(k:nP sure l bK had):nP sure l' bK had:=by
 have hl:l'.length=l.length:=by simpa using congrArg List.length h
 refine⟨k.s0,by rw[hl];exact k.len,fun i hi=>?_,fun x hx=>?_,fun x hx p hp=>?_⟩
 ·have:(l'.map gy)[i]? = (l.map gy)[i]? :=by rw[h]
  rw[List.getElem?_map,List.getElem?_map,List.getElem?_eq_getElem hi,List.getElem?_eq_getElem (by omega)] at this;have:=congrArg Prod.fst (Option.some.inj this);simp only[gy] at this;rw[this,k.num]
 ·obtain⟨y,hy,e1,e2,_⟩:=Cw h hx;rw[←e1,←e2];exact k.body y hy
 obtain⟨y,hy,e1,_,e3⟩:=Cw h hx;rw[←e1];exact k.from_ y hy p (by rw[e3];exact hp)
theorem sO {s:Sg}(h:jA s){w:Wr}(hw:iw s.w w):jA { s with w:=w }:=by
 refine⟨?_,by rw[hw.nx];exact h.nx,h.hd,h.bq,h.br,by rw[hw.ch];exact h.ask,fun h0=>?_,by rw[hw.l];exact h.pl,fun n h1 h2=>?_⟩
 ·show nP w.sure w.waits s.bK s.had
  rw[hw.su];exact LC hw.wt h.wk
 ·show w.sure<s.ask.first
  rw[hw.su];exact h.AA h0
 show fT (setOf s.bZ w.l.w n) w.l.a (dL s.had n)=true
 rw[hw.l];exact h.good n h1 (by rw[←hw.su];exact h2)
theorem Cx (w:Wr)(is:Pl→Bool):iw w (nk w is):=⟨rfl,rfl,rfl,rfl,rfl⟩
theorem yP {s:Sg}(h:jA s){l:List Rq}(hl:∀q∈l,sM s.bK q.n q.body):jA (jc s l):=by
 refine⟨h.wk,h.nx,h.hd,fun m hm ha=>?_,fun m hm ha=>?_,h.ask,h.AA,h.pl,h.good⟩
 ·rcases List.mem_append.1 hm with hm|hm
  ·exact h.bq m hm ha
  obtain⟨q,hq,rfl⟩:=List.mem_map.1 hm;exact hl q (List.mem_of_mem_take hq)
 rcases List.mem_append.1 hm with hm|hm
 ·exact h.br m hm ha
 obtain⟨q,hq,rfl⟩:=List.mem_map.1 hm;cases ha
theorem vD {w:Wr}{x:Wt}{q:Rq}(h:q∈gM w x):q.n=x.n∧q.body=x.body:=by
 obtain⟨p,hp,rfl⟩:=List.mem_map.1 h;exact⟨rfl,rfl⟩
theorem Tj {s:Sg}(h:jA s){r:Rs}(hr:r.code=0→r.from_∈dL s.had r.n):jA { s with w:=fw s.w r }∧s.w.sure≤(fw s.w r).sure:=by
 have same:∀w,iw s.w w→jA { s with w:=w }∧s.w.sure≤w.sure:=fun w hw=>⟨sO h hw,by rw[hw.su];exact Int.le_refl _⟩
 unfold fw;split
 ·exact same _ (iw.refl _)
 split
 ·rename_i hc;split
  ·exact same _ (iw.refl _)
  rename_i k hk;split
  ·obtain⟨hkl,hkn,_⟩:=List.findIdx?_eq_some_iff_getElem.1 hk;have hn:s.w.waits[k].n=r.n:=by simpa using hkn
   have hwk:=h.wk;have hW:nP (fE s.w r k).sure (fE s.w r k).waits s.bK s.had:=by
    unfold fE;refine⟨hwk.s0,by rw[List.length_modify];exact hwk.len,fun i hi=>?_,fun x hx=>?_,fun x hx p hp=>?_⟩
    ·rw[List.getElem_modify];rw[List.length_modify] at hi;split
     ·exact hwk.num i hi
     exact hwk.num i hi
    ·obtain⟨i,hi,rfl⟩:=List.getElem_of_mem hx;rw[List.length_modify] at hi;rw[List.getElem_modify];have:=hwk.body _ (List.getElem_mem hi);split<;>exact this
    obtain⟨i,hi,rfl⟩:=List.getElem_of_mem hx;rw[List.length_modify] at hi;rw[List.getElem_modify] at hp ⊢;have:=hwk.from_ _ (List.getElem_mem hi);split at hp
    ·rename_i e;subst e;rw[if_pos rfl];rcases List.mem_append.1 hp with hp|hp
     ·exact this p hp
     rw[List.mem_singleton] at hp;subst hp;show r.from_∈dL s.had s.w.waits[k].n
     rw[hn];exact hr hc
    rename_i e;rw[if_neg e];exact this p hp
   exact Jq (s:=s) (w:=fE s.w r k) hW h.nx h.hd h.bq h.br h.ask h.AA h.pl h.good
  exact same _ (iw.refl _)
 split
 ·split
  ·exact same _ ⟨rfl,rfl,rfl,rfl,rfl⟩
  exact same _ (iw.refl _)
 split
 ·exact same _ (Cx _ _)
 split
 ·exact same _ (Cx _ _)
 exact same _ (iw.refl _)
theorem Cy {s:Sg}(h:jA s){r:Rs}(hr:r.code=0→r.from_∈dL s.had r.n):jA (iP s r)∧(iP s r).w=s.w:=by
 unfold iP;split
 ·refine⟨⟨h.wk,h.nx,h.hd,fun m hm ha=>?_,fun m hm ha hc=>?_,h.ask,h.AA,h.pl,h.good⟩,rfl⟩
  ·rcases List.mem_append.1 hm with hm|hm
   ·exact h.bq m hm ha
   rw[List.mem_singleton] at hm;subst hm;cases ha
  rcases List.mem_append.1 hm with hm|hm
  ·exact h.br m hm ha hc
  rw[List.mem_singleton] at hm;subst hm;exact hr hc
 exact⟨h,rfl⟩
theorem Po {s:Sg}(h:jA s){x:Lt}(hq:x.ask=true→sM s.bK x.q.n x.q.body)(hr:x.ask=false→x.r.code=0→x.r.from_∈dL s.had x.r.n)(c:Int) :
  jA (eZ s x c)∧s.w.sure≤(eZ s x c).w.sure:=by
 unfold eZ;split
 ·rename_i ha;exact Tj h (hr ha)
 rename_i ha;have ha:x.ask=true:=by simpa using ha
 split
 ·obtain⟨a,b⟩:=Cy h (r:={ jO x.q with code:=2 }) (fun e=>by simp at e);exact⟨a,by rw[b];exact Int.le_refl _⟩
 split
 ·obtain⟨a,b⟩:=Cy h (r:={ jO x.q with code:=4,from_:=⟨x.q.to.node,IntKind.u64.wrap (x.q.to.bf+1)⟩ }) (fun e=>by simp at e);exact⟨a,by rw[b];exact Int.le_refl _⟩
 have h2:jA { s with had:=s.had++[⟨x.q.to,x.q.n,x.q.body⟩] }:=by
  have hw:=h.wk;refine⟨⟨hw.s0,hw.len,hw.num,hw.body,fun y hy p hp=>sN (hw.from_ y hy p hp)⟩,h.nx,fun y hy=>?_,h.bq,fun m hm ha hc=>sN (h.br m hm ha hc),h.ask,h.AA,h.pl,fun n h1 h2=>Cv (fun p hp=>sN hp) (h.good n h1 h2)⟩;rcases List.mem_append.1 hy with hy|hy
  ·exact h.hd y hy
  rw[List.mem_singleton] at hy;subst hy;exact hq ha
 obtain⟨a,b⟩:=Cy h2 (r:=jO x.q) (fun _=>Jp _ _ _ _);exact⟨a,by rw[b];exact Int.le_refl _⟩
theorem Tk {s:Sg}(h:jA s)(b:List UInt8):jA (sK s b)∧s.w.sure≤(sK s b).w.sure:=by
 unfold sK;simp only;split
 ·rename_i hc;have hw:=h.wk;have hnx:=h.nx;unfold fV at hc ⊢;by_cases h1:s.w.fenced=1
  ·rw[if_pos h1] at hc;cases hc
  rw[if_neg h1] at hc ⊢;by_cases h2:(b.length:Int)>2048
  ·rw[if_pos h2] at hc;cases hc
  rw[if_neg h2] at hc ⊢;by_cases h3:s.w.next>8
  ·rw[if_pos h3] at hc;cases hc
  rw[if_neg h3];have hb:sM (s.bK++[b]) s.w.next b:=by
   refine⟨by omega,by simp only[List.length_append,List.length_singleton];omega,?_⟩;rw[hnx,show ((s.bK.length:Int)+1-1).toNat=s.bK.length by omega,getElem!_pos _ _ (by simp)];simp
  refine⟨yP ?_ fun q hq=>?_,Int.le_refl _⟩
  ·have hl:=hw.len;refine⟨⟨hw.s0,by simp only[List.length_append,List.length_singleton];omega,fun i hi=>?_,fun x hx=>?_,fun x hx p hp=>?_⟩,by simp only[List.length_append,List.length_singleton];omega,fun y hy=>yO (h.hd y hy),fun m hm ha=>yO (h.bq m hm ha),h.br,h.ask,h.AA,h.pl,h.good⟩
   ·simp only[List.length_append,List.length_singleton] at hi;by_cases hlt:i<s.w.waits.length
    ·rw[List.getElem_append_left hlt];exact hw.num i hlt
    have hi2:i=s.w.waits.length:=by omega
    subst hi2;rw[List.getElem_append_right (Nat.le_refl _)];simp only[Nat.sub_self,List.getElem_cons_zero];omega
   ·rcases List.mem_append.1 hx with hx|hx
    ·exact yO (hw.body x hx)
    rw[List.mem_singleton] at hx;subst hx;exact hb
   rcases List.mem_append.1 hx with hx|hx
   ·exact hw.from_ x hx p hp
   rw[List.mem_singleton] at hx;subst hx;cases hp
  obtain⟨e1,e2⟩:=vD hq;rw[e1,e2];exact hb
 exact⟨h,Int.le_refl _⟩
theorem Pp (w:Wr)(x:Wt):iw w (zO w x):=by
 unfold zO;generalize bJ w x.n=l;induction l generalizing w with
 |nil=>exact iw.refl w
 | cons y l ih=>
   rw[List.foldl_cons];split
   ·exact ih w
   exact (Cx w _).trans (ih _)
theorem Pq {α:Type}{l:List α}{i:Nat}{a:α}(h:l[i]? = some a):l.set i a=l:=by
 apply List.ext_getElem?;intro j;rw[List.getElem?_set];split
 ·rename_i e;subst e;split
  ·exact h.symm
  rename_i hj;rw[List.getElem?_eq_none (by omega)]
 rfl
theorem E9 (now:Int):∀(l:List Nat) (st:Wr×List Rq),(∀i∈l,i<st.1.waits.length)→iw st.1 (l.foldl (pF now) st).1∧∀q∈(l.foldl (pF now) st).2,q∈st.2∨∃x∈st.1.waits,q.n=x.n∧q.body=x.body
 |[],st,_=>⟨iw.refl _,fun q hq=>.inl hq⟩
 | i::l,st,hi=>by
   have hlt:=hi i (by simp);have hw:iw st.1 (if eF now st.1.waits[i]!.born 9 then zO st.1 st.1.waits[i]! else st.1):=by
    split
    ·exact Pp _ _
    exact iw.refl _
   have h1:iw st.1 (pF now st i).1∧∀q∈(pF now st i).2,q∈st.2∨∃x∈st.1.waits,q.n=x.n∧q.body=x.body:=by
    unfold pF;simp only;generalize hw2:(if eF now st.1.waits[i]!.born 9 then zO st.1 st.1.waits[i]! else st.1)=w at hw;split
    ·refine⟨⟨hw.l,hw.nx,hw.su,hw.ch,?_⟩,fun q hq=>?_⟩
     ·show (w.waits.set i _).map gy=_
      rw[←hw.wt,List.map_set];have e:gy { st.1.waits[i]! with since:=now }=gy st.1.waits[i]! :=rfl;rw[e];have hl:w.waits.length=st.1.waits.length:=by simpa using congrArg List.length hw.wt
      have e2:(w.waits.map gy)[i]? = some (gy st.1.waits[i]!):=by
       rw[hw.wt,List.getElem?_map,List.getElem?_eq_getElem hlt,getElem!_pos st.1.waits i hlt];rfl
      exact Pq e2
     rcases List.mem_append.1 hq with hq|hq
     ·exact .inl hq
     obtain⟨e1,e2⟩:=vD hq;refine .inr ⟨st.1.waits[i]!,?_,e1,e2⟩;rw[getElem!_pos st.1.waits i hlt];exact List.getElem_mem hlt
    exact⟨hw,fun q hq=>.inl hq⟩
   rw[List.foldl_cons];have hl:(pF now st i).1.waits.length=st.1.waits.length:=by simpa using congrArg List.length h1.1.wt
   obtain⟨a,b⟩:=E9 now l (pF now st i) fun j hj=>by rw[hl];exact hi j (by simp[hj])
   refine⟨h1.1.trans a,fun q hq=>?_⟩;rcases b q hq with hq|⟨x,hx,e1,e2⟩
   ·exact h1.2 q hq
   obtain⟨y,hy,g1,g2,_⟩:=Cw h1.1.wt hx;exact .inr ⟨y,hy,by rw[e1,g1],by rw[e2,g2]⟩
theorem V8 {s:Sg}(h:jA s)(now:Int):jA { s with now:=now }:=⟨h.wk,h.nx,h.hd,h.bq,h.br,h.ask,h.AA,h.pl,h.good⟩
theorem Tm {s:Sg}(h:jA s)(now:Int):jA (Ct s now)∧s.w.sure≤(Ct s now).w.sure:=by
 have hb:iw s.w (dw s.w now).1∧∀q∈(dw s.w now).2,∃x∈s.w.waits,q.n=x.n∧q.body=x.body:=by
  unfold dw;split
  ·exact⟨iw.refl _,fun q hq=>by cases hq⟩
  obtain⟨a,b⟩:=E9 now (List.range s.w.waits.length) (s.w,[]) fun i hi=>List.mem_range.1 hi
  refine⟨a,fun q hq=>?_⟩;rcases b q hq with hq|hq
  ·cases hq
  exact hq
 unfold Ct;have h1:=sO (V8 h now) hb.1;refine⟨yP h1 fun q hq=>?_,?_⟩
 ·obtain⟨x,hx,e1,e2⟩:=hb.2 q hq;rw[e1,e2];exact h.wk.body x hx
 show s.w.sure≤(dw s.w now).1.sure
 rw[hb.1.su];exact Int.le_refl _
theorem V9 {s:Sg}(h:jA s)(e:Int)(known:List Pl):jA (LA s e known)∧s.w.sure≤(LA s e known).w.sure:=by
 unfold LA;simp only;unfold j4;by_cases h1:s.w.fenced=1∨s.w.change.first≠0∨s.w.bad=[]
 ·rw[if_pos h1];exact⟨sO h (iw.refl _),Int.le_refl _⟩
 rw[if_neg h1];split
 ·exact⟨sO h ⟨rfl,rfl,rfl,rfl,rfl⟩,Int.le_refl _⟩
 have h0:s.w.change.first=0:=Classical.byContradiction fun h2=>h1 (.inr (.inl h2))
 have hp:=h.pl;rw[if_neg (by rw[h.ask];exact fun h2=>h2.1 h0)] at hp;simp only[if_true];refine⟨⟨h.wk,h.nx,h.hd,h.bq,h.br,rfl,fun _=>?_,?_,h.good⟩,Int.le_refl _⟩
 ·show s.w.sure<s.w.sure+1
  omega
 show s.bZ=_
 rw[if_neg (fun h2=>by have:=h2.2;simp at this)];exact hp
theorem Ps {s:Sg}(h:jA s)(odd:Bool):jA (j5 s odd)∧s.w.sure≤(j5 s odd).w.sure:=by
 unfold j5;split
 ·exact⟨h,Int.le_refl _⟩
 rename_i h1;have ha:s.ask.first≠0:=fun e=>h1 (.inl e)
 have ht:¬s.taken>0:=fun e=>h1 (.inr e)
 have hp:=h.pl;rw[if_neg (fun h2=>ht (by omega))] at hp;split
 ·refine⟨⟨h.wk,h.nx,h.hd,h.bq,h.br,h.ask,h.AA,?_,fun n g1 g2=>?_⟩,Int.le_refl _⟩
  ·show bn s.bZ s.ask=_
   rw[if_pos ⟨ha,rfl⟩,hp]
  show fT (setOf (bn s.bZ s.ask) s.w.l.w n) s.w.l.a (dL s.had n)=true
  have:=h.AA ha;have g2:n≤s.w.sure:=g2;rw[E8 (by omega)];exact h.good n g1 g2
 refine⟨⟨h.wk,h.nx,h.hd,h.bq,h.br,h.ask,h.AA,?_,h.good⟩,Int.le_refl _⟩;show s.bZ=_
 rw[if_neg (fun h2=>by have:=h2.2;simp at this)];exact hp
theorem Tn {s:Sg}(h:jA s):jA (qN s)∧s.w.sure≤(qN s).w.sure:=by
 unfold qN;split
 ·exact⟨h,Int.le_refl _⟩
 rename_i h1;have ha:s.ask.first≠0:=fun e=>h1 (.inl e)
 have hc:s.w.change.first≠0:=by rw[←h.ask];exact ha
 have hpl:s.bZ=(if (s.taken==1)=true then bn s.w.l.aj s.w.change else s.w.l.aj):=by
  have:=h.pl;rw[h.ask] at this;rw[this];by_cases ht:s.taken=1
  ·rw[if_pos ⟨hc,ht⟩,if_pos (by simpa using ht)]
  rw[if_neg (fun h2=>ht h2.2),if_neg (by simpa using ht)]
 have hm:=Jq (s:={ s with ask:=jI }) (w:={ s.w with l:={ s.w.l with aj:=if (s.taken==1)=true then bn s.w.l.aj s.w.change else s.w.l.aj },change:=jI,bad:=[] })
  h.wk h.nx h.hd h.bq h.br rfl (fun h2=>absurd rfl h2) (by rw[if_neg (fun h2=>h2.1 rfl)];exact hpl) h.good
 unfold bM;rw[if_neg hc];have hsame:iw (jr s.w (s.taken==1)) { jr s.w (s.taken==1) with waits:=(jr s.w (s.taken==1)).waits.map fun x=>{ x with born:=s.now,since:=s.now } }:=⟨rfl,rfl,rfl,rfl,by rw[List.map_map];rfl⟩;have h3:=sO hm.1 hsame;refine⟨yP h3 fun q hq=>?_,hm.2⟩;obtain⟨x,hx,hq⟩:=List.mem_flatMap.1 hq;obtain⟨e1,e2⟩:=vD hq;rw[e1,e2];exact hm.1.wk.body x hx
theorem Tp {s:Sg}(h:jA s)(k:Nat):jA (uF s k):=by
 have hsub:∀m∈(uF s k).cO,m∈s.cO:=fun m hm=>by
  rcases List.mem_append.1 hm with hm|hm
  ·exact List.mem_of_mem_take hm
  exact List.mem_of_mem_drop hm
 exact⟨h.wk,h.nx,h.hd,fun m hm=>h.bq m (hsub m hm),fun m hm=>h.br m (hsub m hm),h.ask,h.AA,h.pl,h.good⟩
theorem Tq {s:Sg}(h:jA s){n:Int}(h1:1≤n)(h2:n≤s.w.sure):Np s s.bZ n=true:=by
 unfold Np;rw[Bool.and_eq_true];refine⟨?_,h.good n h1 h2⟩;rw[List.all_eq_true];intro y hy;by_cases e:y.n=n
 ·obtain⟨g1,g2,g3⟩:=h.hd y hy;rw[e] at g1 g2 g3;simp[e,g1,g2,g3]
 simp[e]
theorem Tt {s:Sg}(h:jA s):0≤s.w.sure∧s.w.sure≤(s.bK.length:Int):=by
 have:=h.wk.len;have:=h.wk.s0;omega
def pG (w:Wr):Sg:=⟨w,w.l.aj,jI,0,0,[],[],[]⟩
theorem Wd {l:Lg}{e:Int}{w:Wr}(h:sJ l e=some w):jA (pG w):=by
 unfold sJ at h;split at h
 ·have:=Option.some.inj h;subst this;exact⟨⟨Int.le_refl 0,by simp[pG],fun i hi=>by simp[pG] at hi,fun x hx=>by simp[pG] at hx,fun x hx=>by simp[pG] at hx⟩,by simp[pG],fun y hy=>by simp[pG] at hy,fun m hm=>by simp[pG] at hm,fun m hm=>by simp[pG] at hm,rfl,fun h=>absurd rfl h,by simp[pG,jI],fun n h1 h2=>by simp[pG] at h2;omega⟩
 cases h
def pI (known l:List Pl):Nat:=(l.filter fun p=>!bI known p).length
theorem Wh (known a b:List Pl):pI known (a++b)=pI known a+pI known b:=by simp[pI]
theorem kW (known:List Pl)(p:Pl)(l:List Pl):pI known (p::l)=(if bI known p then 0 else 1)+pI known l:=by
 unfold pI;rw[List.filter_cons];cases bI known p<;>simp<;>omega
theorem Nq {known:List Pl}:∀{l:List Pl} {k:Nat} (h:k<l.length) {p:Pl},bI known l[k]=false→bI known p=true→pI known (l.set k p)+1=pI known l
 | x::l,0,h,p,h1,h2=>by
   rw[List.set_cons_zero,kW,kW,h2];simp only[List.getElem_cons_zero] at h1;rw[h1];simp;omega
 | x::l,k+1,h,p,h1,h2=>by
   rw[List.set_cons_succ,kW,kW];have:=Nq (l:=l) (k:=k) (by simpa using h) (by simpa using h1) h2;omega
theorem Fa {known:List Pl}:∀{l:List Pl} {k:Nat} (h:k<l.length),bI known l[k]=false→pI known (l.eraseIdx k)+1=pI known l
 | x::l,0,h,h1=>by
   simp only[List.getElem_cons_zero] at h1;rw[List.eraseIdx_cons_zero,kW,h1];simp;omega
 | x::l,k+1,h,h1=>by
   rw[List.eraseIdx_cons_succ,kW,kW];have:=Fa (l:=l) (k:=k) (by simpa using h) (by simpa using h1);omega
theorem Tv {l:List Pl}{p:Pl}(h:p∈l):∃k,∃hk:k<l.length,qZ (· == p) l=(k:Nat)∧l[k]=p:=by
 rcases jo (· == p) l with ⟨h1,h2⟩|⟨k,hk,h1,h2,h3⟩
 ·obtain⟨i,hi,e⟩:=List.getElem_of_mem h;have:=h2 _ (List.getElem_mem hi);rw[e] at this;simp at this
 exact⟨k,hk,h1,by simpa using h2⟩
theorem yQ {k node:Int}{l:List Pl}:∀{i:Nat},i≤l.length→(mO k node l i=true↔∃j,∃hj:j<l.length,j<i∧(j:Int)≠k∧l[j].node=node)
 |0,_=>by simp[mO]
 | i+1,h=>by
   rw[zF k node l i (by omega),Bool.or_eq_true,yQ (by omega)];constructor
   ·rintro (⟨j,hj,h1,h2,h3⟩|h1)
    ·exact⟨j,hj,by omega,h2,h3⟩
    simp only[Bool.and_eq_true,bne_iff_ne,ne_eq,beq_iff_eq] at h1;exact⟨i,by omega,by omega,h1.1,h1.2⟩
   rintro⟨j,hj,h1,h2,h3⟩
   by_cases e:j=i
   ·subst e;refine .inr ?_;simp[h2,h3]
   exact .inl ⟨j,hj,by omega,h2,h3⟩
theorem Pt {f g:Fr}{old p:Pl}(h:jJ f old p=some g)(hn:(f.ah.map (·.node)).Nodup):∃k,∃hk:k<f.ah.length,f.ah[k]=old∧g=⟨f.first,f.ah.set k p⟩∧(g.ah.map (·.node)).Nodup:=by
 unfold jJ at h;split at h
 ·cases h
 rename_i hc;split at h
 ·cases h
 rename_i hi;rcases jo (· == old) f.ah with ⟨h1,_⟩|⟨k,hk,h1,h2,_⟩
 ·rw[h1] at hi;exact absurd (by decide) hi
 rw[h1] at h hc;have:=Option.some.inj h;subst this;refine⟨k,hk,by simpa using h2,by simp,?_⟩;simp only[Int.toNat_natCast];rw[yQ (Nat.le_refl _)] at hc;rw[List.nodup_iff_pairwise_ne,List.pairwise_iff_getElem] at hn ⊢;intro i j hi2 hj2 hij;simp only[List.length_map,List.length_set] at hi2 hj2;have hb:=hn i j (by simpa using hi2) (by simpa using hj2) hij;simp only[List.getElem_map] at hb ⊢;rw[List.getElem_set,List.getElem_set];split
 ·rename_i e;subst e;rw[if_neg (by omega)];intro e2;exact hc ⟨j,hj2,hj2,by omega,e2.symm⟩
 split
 ·rename_i e;subst e;intro e2;exact hc ⟨i,hi2,hi2,by omega,e2⟩
 exact hb
theorem Pv {f:Fr}{old p:Pl}(h:jJ f old p=none){k:Nat}(hk:k<f.ah.length)(hold:f.ah[k]=old)(hn:(f.ah.map (·.node)).Nodup):∃j,∃hj:j<f.ah.length,j≠k∧f.ah[j].node=p.node:=by
 obtain⟨k2,hk2,e1,e2⟩:=Tv (l:=f.ah) (p:=old) (by rw[←hold];exact List.getElem_mem hk);have hkk:k2=k:=by
  have h1:f.ah[k2].node=f.ah[k].node:=by rw[e2,hold]
  rw[List.nodup_iff_pairwise_ne,List.pairwise_iff_getElem] at hn;rcases Nat.lt_trichotomy k2 k with h3|h3|h3
  ·have:=hn k2 k (by simpa using hk2) (by simpa using hk) h3;simp only[List.getElem_map] at this;exact absurd h1 this
  ·exact h3
  have:=hn k k2 (by simpa using hk) (by simpa using hk2) h3;simp only[List.getElem_map] at this;exact absurd h1.symm this
 subst hkk;unfold jJ at h;rw[e1] at h;split at h
 ·rename_i hc;rw[yQ (Nat.le_refl _)] at hc;obtain⟨j,hj,_,h2,h3⟩:=hc;exact⟨j,hj,by omega,h3⟩
 split at h
 ·rename_i hi;omega
 cases h
theorem Nr {f:Fr}{old:Pl}:∀{kn:List Pl},(iq f old kn).2=true→∃p∈kn,jJ f old p=some (iq f old kn).1
 |[],h=>by cases h
 | p::r,h=>by
   unfold iq at h ⊢;cases hs:jJ f old p with
   |some g=>exact⟨p,by simp,by simp[hs]⟩
   | none=>
     rw[hs] at h;simp only at h ⊢;obtain⟨q,hq,e⟩:=Nr h;exact⟨q,by simp[hq],e⟩
theorem Ns {f:Fr}{old:Pl}:∀{kn:List Pl},(iq f old kn).2=false→(iq f old kn).1=f∧∀p∈kn,jJ f old p=none
 |[],h=>⟨rfl,fun p hp=>by cases hp⟩
 | p::r,h=>by
   unfold iq at h ⊢;cases hs:jJ f old p with
   |some g=>rw[hs] at h;cases h
   | none=>
     rw[hs] at h;simp only at h ⊢;obtain⟨a,b⟩:=Ns h;refine⟨a,fun q hq=>?_⟩;rcases List.mem_cons.1 hq with rfl|hq
     ·exact hs
     exact b q hq
theorem dF {l:List Pl}{p:Pl}:bI l p=true↔p∈l:=by simp[bI]
section
variable {w:Int}{bad known:List Pl}(hk:(known.map (·.node)).Nodup)(Tw:w≤(known.length:Int))(hbad:∀p,bI bad p=true→bI known p=false)
structure R1 (w:Int)(bad known f0:List Pl)(st:Fr×List Pl×Bool)(todo:List Pl):Prop where
 nd:(st.1.ah.map (·.node)).Nodup
 len:st.1.ah.length=f0.length
 mem:∀p∈st.1.ah,p∈known∨p∈f0
 todo:∀y∈todo,y∈st.1.ah∧y∉st.2.1
 left:∀y∈st.2.1,y∈st.1.ah∧bI bad y=true
 un:pI known st.1.ah≤pI known f0
 un2:st.2.2=true→pI known st.1.ah<pI known f0
 full:st.2.1≠[]→w<(f0.length:Int)
include hk Tw hbad
theorem Tx {f0:List Pl}{st:Fr×List Pl×Bool}{old:Pl}{todo:List Pl}(h:R1 w bad known f0 st (old::todo))(hn:old∉todo) :
  R1 w bad known f0 (yK bad (fit bad known) st old) todo∧(bI bad old=true→(yK bad (fit bad known) st old).2.2=true∨(yK bad (fit bad known) st old).2.1≠[]) ∧
  (st.2.2=true→(yK bad (fit bad known) st old).2.2=true)∧(st.2.1≠[]→(yK bad (fit bad known) st old).2.1≠[]):=by
 have hold:=h.todo old (by simp);by_cases hb:bI bad old=true
 ·have hb2:bad.any (· == old)=true:=hb;unfold yK;rw[if_pos hb2];cases hr:(iq st.1 old (fit bad known)).2 with
  | true=>
    rw[if_pos rfl];obtain⟨p,hp,hs⟩:=Nr hr;obtain⟨k,hkl,e1,e2,e3⟩:=Pt hs h.nd;have hpk:p∈known:=(List.mem_filter.1 hp).1;rw[e2] at e3;simp only[e2];have hu:=Nq (known:=known) hkl (p:=p) (by rw[e1];exact hbad old hb) (dF.2 hpk);have stay:∀y,y≠old→y∈st.1.ah→y∈st.1.ah.set k p:=fun y hy hm=>by
     obtain⟨j,hj,rfl⟩:=List.getElem_of_mem hm;rw[List.mem_iff_getElem];refine⟨j,by simpa using hj,?_⟩;rw[List.getElem_set_ne];intro e;subst e;exact hy e1
    have Qw:=h.un;have hlt:pI known (st.1.ah.set k p)<pI known f0:=by omega
    refine⟨⟨e3,by simp[h.len],fun q hq=>?_,fun y hy=>?_,fun y hy=>?_,Nat.le_of_lt hlt,fun _=>hlt,h.full⟩,fun _=>.inl trivial,fun _=>trivial,fun g=>g⟩
    ·rcases List.mem_or_eq_of_mem_set hq with hq|hq
     ·exact h.mem q hq
     exact .inl (hq▸hpk)
    ·have:=h.todo y (by simp[hy]);exact⟨stay y (fun e=>hn (e▸hy)) this.1,this.2⟩
    have:=h.left y hy;exact⟨stay y (fun e=>hold.2 (e▸hy)) this.1,this.2⟩
  | false=>
    rw[if_neg (by simp)];obtain⟨e1,e2⟩:=Ns hr;rw[e1];obtain⟨k,hkl,e3⟩:=List.getElem_of_mem hold.1;have hall:∀p∈known,∃j,∃hj:j<st.1.ah.length,j≠k∧st.1.ah[j].node=p.node:=fun p hp=>by
     refine Pv (e2 p (List.mem_filter.2 ⟨hp,?_⟩)) hkl e3 h.nd;cases hbp:bad.any (· == p) with
     |false=>rfl
     | true=>
       have:=hbad p hbp;rw[dF.2 hp] at this;cases this
    have hlen:known.length<st.1.ah.length:=by
     have hsub:∀x∈known.map (·.node),x∈(st.1.ah.eraseIdx k).map (·.node):=fun x hx=>by
      obtain⟨p,hp,rfl⟩:=List.mem_map.1 hx;obtain⟨j,hj,hjk,e⟩:=hall p hp;refine List.mem_map.2 ⟨st.1.ah[j],?_,e⟩;rw[List.mem_eraseIdx_iff_getElem];exact⟨j,hj,hjk,rfl⟩
     have:=hk.length_le_of_subset hsub;rw[List.length_map,List.length_map,List.length_eraseIdx,if_pos hkl] at this;omega
    have hL:=h.len;refine⟨⟨h.nd,h.len,h.mem,fun y hy=>?_,fun y hy=>?_,h.un,h.un2,fun _=>by omega⟩,fun _=>.inr (by simp),fun g=>g,fun _=>by simp⟩
    ·have:=h.todo y (by simp[hy]);refine⟨this.1,fun hm=>?_⟩;rcases List.mem_append.1 hm with hm|hm
     ·exact this.2 hm
     rw[List.mem_singleton] at hm;exact hn (hm▸hy)
    rcases List.mem_append.1 hy with hy|hy
    ·exact h.left y hy
    rw[List.mem_singleton] at hy;subst hy;exact⟨hold.1,hb⟩
 have hb2:¬bad.any (· == old)=true:=hb;unfold yK;rw[if_neg hb2];exact⟨⟨h.nd,h.len,h.mem,fun y hy=>h.todo y (by simp[hy]),h.left,h.un,h.un2,h.full⟩,fun g=>absurd g hb,fun g=>g,fun g=>g⟩
theorem Jr {f0:List Pl}:∀{todo:List Pl} {st:Fr×List Pl×Bool},R1 w bad known f0 st todo→todo.Nodup →
  R1 w bad known f0 (todo.foldl (yK bad (fit bad known)) st) []∧((∃y∈todo,bI bad y=true)∨st.2.2=true∨st.2.1≠[]→(todo.foldl (yK bad (fit bad known)) st).2.2=true∨(todo.foldl (yK bad (fit bad known)) st).2.1≠[])
 | [],st,h,_=>⟨h,fun g=>by
   rcases g with ⟨y,hy,_⟩|g
   ·cases hy
   exact g⟩
 | old::todo,st,h,hnd=>by
   rw[List.nodup_cons] at hnd;obtain⟨a,b,c,d⟩:=Tx hk Tw hbad h hnd.1;obtain⟨x,y⟩:=Jr a hnd.2;rw[List.foldl_cons];refine⟨x,fun g=>y ?_⟩;rcases g with ⟨z,hz,hzb⟩|g|g
   ·rcases List.mem_cons.1 hz with rfl|hz
    ·exact .inr (b hzb)
    exact .inl ⟨z,hz,hzb⟩
   ·exact .inr (.inl (c g))
   exact .inr (.inr (d g))
structure R2 (w:Int)(known f0:List Pl)(st:List Pl×Bool):Prop where
 nd:(st.1.map (·.node)).Nodup
 lo:w≤(st.1.length:Int)
 hi:st.1.length≤f0.length
 mem:∀p∈st.1,p∈known∨p∈f0
 un:pI known st.1≤pI known f0
 un2:st.2=true→pI known st.1<pI known f0
theorem Js {f0:List Pl}{st:List Pl×Bool}{old:Pl}(h:R2 w known f0 st)(ho:bI bad old=true):R2 w known f0 (Li w st old)∧(st.2=true→(Li w st old).2=true)∧(w<(st.1.length:Int)→old∈st.1→(Li w st old).2=true):=by
 unfold Li;split
 ·rename_i hc;simp only[Bool.and_eq_true,decide_eq_true_eq] at hc;have hm:old∈st.1:=by
   rcases jo (· == old) st.1 with ⟨h1,_⟩|⟨k,hkl,_,h2,_⟩
   ·rw[h1] at hc;omega
   have:st.1[k]=old:=by simpa using h2
   rw[←this];exact List.getElem_mem hkl
  obtain⟨k,hkl,e1,e2⟩:=Tv hm;rw[e1];simp only[Int.toNat_natCast];have hu:=Fa (known:=known) hkl (by rw[e2];exact hbad old ho);have Qw:=h.un;have hl:(st.1.eraseIdx k).length=st.1.length-1:=by rw[List.length_eraseIdx,if_pos hkl]
  have hhi:=h.hi;have hlt:pI known (st.1.eraseIdx k)<pI known f0:=by omega
  have hlo2:w≤((st.1.eraseIdx k).length:Int):=by rw[hl];omega
  have hhi2:(st.1.eraseIdx k).length≤f0.length:=by rw[hl];omega
  refine⟨⟨?_,hlo2,hhi2,fun p hp=>h.mem p (List.mem_of_mem_eraseIdx hp),Nat.le_of_lt hlt,fun _=>hlt⟩,fun _=>trivial,fun _ _=>trivial⟩;exact h.nd.sublist ((List.eraseIdx_sublist _ _).map _)
 rename_i hc;refine⟨h,fun g=>g,fun g1 g2=>?_⟩;obtain⟨k,hkl,e1,e2⟩:=Tv g2;exfalso;apply hc;rw[e1];simp only[Bool.and_eq_true,decide_eq_true_eq];omega
theorem Cz {f0:List Pl}:∀{l:List Pl} {st:List Pl×Bool},R2 w known f0 st→(∀y∈l,bI bad y=true)→R2 w known f0 (l.foldl (Li w) st)∧(st.2=true→(l.foldl (Li w) st).2=true)
 |[],st,h,_=>⟨h,fun g=>g⟩
 | old::l,st,h,hl=>by
   obtain⟨a,b,_⟩:=Js hk Tw hbad h (hl old (by simp));obtain⟨x,y⟩:=Cz (l:=l) a fun y hy=>hl y (by simp[hy])
   rw[List.foldl_cons];exact⟨x,fun g=>y (b g)⟩
structure R3 (known f0 b0:List Pl)(b:List Pl):Prop where
 nd:(b.map (·.node)).Nodup
 lo:b0.length≤b.length
 hi:b.length≤5
 mem:∀p∈b,p∈known∨p∈f0
 un:pI known b=pI known b0
omit hk Tw hbad in
theorem Jt {f0 b0:List Pl}:∀{l:List Pl} {b:List Pl},R3 known f0 b0 b→(∀y∈l,y∈known)→R3 known f0 b0 (l.foldl (O9 5) b)
 |[],b,h,_=>h
 | p::l,b,h,hl=>by
   rw[List.foldl_cons];refine Jt ?_ fun y hy=>hl y (by simp[hy])
   have hpk:=hl p (by simp);have e5:(if (5:Int)<5 then (5:Int) else 5)=5:=by decide
   unfold O9;rw[e5];by_cases hc:(decide ((b.length:Int)<5) && !(b.any fun y=>y.node==p.node))=true
   ·rw[if_pos hc];simp only[Bool.and_eq_true,decide_eq_true_eq,Bool.not_eq_true',List.any_eq_false,beq_iff_eq] at hc;have hlo:=h.lo;refine⟨?_,by simp only[List.length_append,List.length_singleton];omega,by simp only[List.length_append,List.length_singleton];omega,fun q hq=>?_,?_⟩
    ·rw[List.map_append,List.nodup_append];refine⟨h.nd,by simp,fun x hx y hy=>?_⟩;obtain⟨q,hq,rfl⟩:=List.mem_map.1 hx;simp only[List.map_cons,List.map_nil,List.mem_singleton] at hy;subst hy;exact hc.2 q hq
    ·rcases List.mem_append.1 hq with hq|hq
     ·exact h.mem q hq
     rw[List.mem_singleton] at hq;exact .inl (hq▸hpk)
    rw[Wh,h.un,kW,dF.2 hpk];simp[pI]
   rw[if_neg hc];exact h
theorem Ju {f:Fr}(hf:(f.ah.map (·.node)).Nodup)(h1:w≤(f.ah.length:Int))(h2:f.ah.length≤5)(hex:∃p∈f.ah,bI bad p=true) :
  (gU f w 5 bad known).2=true∧((gU f w 5 bad known).1.ah.map (·.node)).Nodup∧w≤((gU f w 5 bad known).1.ah.length:Int)∧(gU f w 5 bad known).1.ah.length≤5 ∧
  (∀p∈(gU f w 5 bad known).1.ah,p∈known∨p∈f.ah)∧pI known (gU f w 5 bad known).1.ah<pI known f.ah:=by
 have hfn:f.ah.Nodup:=by
  rw[List.nodup_iff_pairwise_ne] at hf ⊢;rw[List.pairwise_map] at hf;exact hf.imp fun h e=>h (by rw[e])
 obtain⟨r1,r2⟩:=Jr hk Tw hbad (f0:=f.ah) (todo:=f.ah) (st:=(f,[],false)) ⟨hf,rfl,fun p hp=>.inr hp,fun y hy=>⟨hy,by simp⟩,fun y hy=>(by simp at hy),Nat.le_refl _,fun h=>(by cases h),fun h=>absurd rfl h⟩ hfn;have r2:=r2 (.inl hex);have hl1:(j3 f bad (fit bad known)).1.ah.length=f.ah.length:=r1.len;have hS:R2 w known f.ah ((j3 f bad (fit bad known)).1.ah,(j3 f bad (fit bad known)).2.2):=⟨r1.nd,by show w≤((j3 f bad (fit bad known)).1.ah.length:Int);rw[hl1];exact h1,Nat.le_of_eq hl1,r1.mem,r1.un,r1.un2⟩;have hT:(sD w (j3 f bad (fit bad known))).2=true∧R2 w known f.ah (sD w (j3 f bad (fit bad known))):=by
  have hl:∀y∈(j3 f bad (fit bad known)).2.1,bI bad y=true:=fun y hy=>(r1.left y hy).2
  unfold sD;obtain⟨a,b⟩:=Cz hk Tw hbad hS hl;refine⟨?_,a⟩;rcases r2 with g|g
  ·exact b g
  cases hle:(j3 f bad (fit bad known)).2.1 with
  |nil=>exact absurd hle g
  | cons old rest=>
    have ho:old∈(j3 f bad (fit bad known)).2.1:=by rw[hle];simp
    have hlen:=r1.len;obtain⟨x,y,z⟩:=Js hk Tw hbad hS (hl old ho);have hz:=z (by have:=r1.full g;show w<((j3 f bad (fit bad known)).1.ah.length:Int);rw[hl1];exact this) (r1.left old ho).1;rw[List.foldl_cons];exact (Cz hk Tw hbad x fun y hy=>hl y (by rw[hle];simp[hy])).2 hz
 have hR:R3 known f.ah (sD w (j3 f bad (fit bad known))).1 (sD w (j3 f bad (fit bad known))).1:=⟨hT.2.nd,Nat.le_refl _,by have:=hT.2.hi;omega,hT.2.mem,rfl⟩;have hR3:=Jt (l:=fit bad known) hR fun y hy=>(List.mem_filter.1 hy).1
 unfold gU;rw[if_pos hT.1];have:=hT.2.un2 hT.1;have hlo:=hT.2.lo;have Qw:pI known ((fit bad known).foldl (O9 5) (sD w (j3 f bad (fit bad known))).1)<pI known f.ah:=by rw[hR3.un];exact this
 have hll:w≤(((fit bad known).foldl (O9 5) (sD w (j3 f bad (fit bad known))).1).length:Int):=by have:=hR3.lo;omega
 exact⟨rfl,hR3.nd,hll,hR3.hi,hR3.mem,Qw⟩
end
def nu (known:List Pl)(w:Wr)(q:Rq):Wr:=if bI known q.to then fw w (jO q) else w
structure Pw (m:Int)(w:Wr):Prop where
 LD:w.fenced=0
 AA:w.change.first=0
 s0:0≤w.sure
 len:w.sure+w.waits.length=m
 num:∀i (h:i<w.waits.length),w.waits[i].n=w.sure+1+i
 a1:1≤w.l.a
 aw:w.l.a≤w.l.w
 fr:bL w.l.w w.l.aj=true
 last:(aO w.l.aj).first≤w.sure+1
 head:∀x,w.waits.head? = some x→fT (bJ w x.n) w.l.a x.from_=false
structure eG (w w':Wr):Prop where
 l:w'.l=w.l
 bad:w'.bad=w.bad
 ep:w'.aX=w.aX
 su:w.sure≤w'.sure
 wt:∀x'∈w'.waits,∃x∈w.waits,x'.n=x.n∧x'.born=x.born∧x'.since=x.since∧x'.body=x.body∧∀p∈x.from_,p∈x'.from_
theorem eG.refl (w:Wr):eG w w:=⟨rfl,rfl,rfl,Int.le_refl _,fun x hx=>⟨x,hx,rfl,rfl,rfl,rfl,fun _ h=>h⟩⟩
theorem eG.trans {a b c:Wr}(h:eG a b)(k:eG b c):eG a c:=by
 refine⟨k.l.trans h.l,k.bad.trans h.bad,k.ep.trans h.ep,Int.le_trans h.su k.su,fun x hx=>?_⟩;obtain⟨y,hy,e1,e2,e3,e4,e5⟩:=k.wt x hx;obtain⟨z,hz,g1,g2,g3,g4,g5⟩:=h.wt y hy;exact⟨z,hz,e1.trans g1,e2.trans g2,e3.trans g3,e4.trans g4,fun p hp=>e5 p (g5 p hp)⟩
theorem sP {α:Type}(q:α→Bool):∀{l:List α} {x:α},(l.dropWhile q).head? = some x→q x=false
 |[],x,h=>by cases h
 | y::r,x,h=>by
   rw[List.dropWhile_cons] at h;split at h
   ·exact sP q h
   rename_i hq;simp only[List.head?_cons,Option.some.injEq] at h;subst h;simpa using hq
theorem Nt {m:Int}{w:Wr}(LD:w.fenced=0)(AA:w.change.first=0)(s0:0≤w.sure)(len:w.sure+w.waits.length=m)(num:∀i (h:i<w.waits.length),w.waits[i].n=w.sure+1+i)
  (a1:1≤w.l.a) (aw:w.l.a≤w.l.w) (fr:bL w.l.w w.l.aj=true) (last:(aO w.l.aj).first≤w.sure+1):Pw m (dR w)∧eG w (dR w):=by
 have hle:=List.takeWhile_prefix (bX w) (l:=w.waits) |>.length_le
 have h1:(dR w).sure=w.sure+(w.waits.takeWhile (bX w)).length:=by
  unfold dR;simp only;cases hl:(w.waits.takeWhile (bX w)).getLast? with
  | none=>
    have:w.waits.takeWhile (bX w)=[]:=by simpa using hl
    rw[this];simp
  | some x=>
    obtain⟨r,hr⟩:=List.getLast?_eq_some_iff.1 hl;have hlen:(w.waits.takeWhile (bX w)).length=r.length+1:=by rw[hr];simp
    have hx:x=w.waits[r.length]'(by omega):=by
     have e:=getLast_take (bX w) w.waits;have:(w.waits.takeWhile (bX w))[r.length]? = some x:=by rw[hr];simp
     rw[e,List.getElem?_take,if_pos (by omega),List.getElem?_eq_getElem (by omega)] at this;exact (Option.some.inj this).symm
    simp only[Option.map_some,Option.getD_some];rw[hx,num r.length (by omega),hlen];omega
 have hd:(dR w).waits=w.waits.drop (w.waits.takeWhile (bX w)).length:=drop_take _ _;refine⟨⟨LD,AA,by omega,by rw[h1,hd,List.length_drop];omega,fun i hi=>?_,a1,aw,fr,by rw[h1];show (aO w.l.aj).first≤_;omega,fun x hx=>?_⟩,⟨rfl,rfl,rfl,by omega,fun x hx=>?_⟩⟩
 ·have hi2:i<(w.waits.drop (w.waits.takeWhile (bX w)).length).length:=by rw[←hd];exact hi
  have:(dR w).waits[i]=(w.waits.drop (w.waits.takeWhile (bX w)).length)[i]:=by simp only[hd]
  rw[this,List.getElem_drop,num,h1];omega
 ·have:=sP (bX w) hx;unfold bX at this;rw[AA] at this;show fT (bJ w x.n) w.l.a x.from_=false
  simpa using this
 rw[hd] at hx;exact⟨x,List.mem_of_mem_drop hx,rfl,rfl,rfl,rfl,fun _ h=>h⟩
theorem Y1 {m:Int}{w:Wr}(h:Pw m w)(known:List Pl)(q:Rq):Pw m (nu known w q)∧eG w (nu known w q) ∧
  (q.kind=1→q.dM=w.l.id→q.aX=w.aX→kH w q.to=true→bI known q.to=true→∀x'∈(nu known w q).waits,x'.n=q.n→q.to∈x'.from_):=by
 unfold nu;by_cases hk:bI known q.to=true
 ·rw[if_pos hk];unfold fw;by_cases hc:(!((jO q).kind==1)||(!((jO q).dM==w.l.id) || !((jO q).aX==w.aX)))=true
  ·rw[if_pos hc];refine⟨h,eG.refl w,fun e1 e2 e3 _ _=>?_⟩;simp[jO,e1,e2,e3] at hc
  rw[if_neg hc,if_pos (show (jO q).code=0 from rfl)];cases hf:w.waits.findIdx? fun x=>x.n==(jO q).n with
  | none=>
    refine⟨h,eG.refl w,fun _ _ _ _ _ x' hx' e=>?_⟩;rw[List.findIdx?_eq_none_iff] at hf;have:=hf x' hx';simp only[beq_eq_false_iff_ne] at this;exact absurd e this
  | some k=>
    simp only;obtain⟨hkl,hkn,hkf⟩:=List.findIdx?_eq_some_iff_getElem.1 hf;have hn:w.waits[k].n=q.n:=by simpa[jO] using hkn
    have abw:∀x∈w.waits,x.n=q.n→x=w.waits[k]:=fun x hx e=>by
     obtain⟨j,hj,rfl⟩:=List.getElem_of_mem hx;have h1:=h.num j hj;have h2:=h.num k hkl;have:j=k:=by omega
     subst this;rfl
    split
    ·rename_i hin;have hgo:=Nt (m:=m) (w:=fE w (jO q) k) h.LD h.AA h.s0 (by show w.sure+((w.waits.modify k _).length:Int)=m;rw[List.length_modify];exact h.len) (fun i hi=>by
      have hi2:i<w.waits.length:=by simpa[fE] using hi
      have:(fE w (jO q) k).waits[i].n=w.waits[i].n:=by
       simp only[fE,List.getElem_modify];split<;>rfl
      rw[this];exact h.num i hi2) h.a1 h.aw h.fr h.last
     have hhd:eG w (fE w (jO q) k):=⟨rfl,rfl,rfl,Int.le_refl _,fun x' hx'=>by
      obtain⟨i,hi,rfl⟩:=List.getElem_of_mem hx';have hi2:i<w.waits.length:=by simpa[fE] using hi
      refine⟨w.waits[i],List.getElem_mem hi2,?_⟩;simp only[fE,List.getElem_modify];split
      ·exact⟨rfl,rfl,rfl,rfl,fun p hp=>List.mem_append_left _ hp⟩
      exact⟨rfl,rfl,rfl,rfl,fun p hp=>hp⟩⟩
     refine⟨hgo.1,hhd.trans hgo.2,fun _ _ _ _ _ x' hx' e=>?_⟩;have hx2:x'∈(fE w (jO q) k).waits:=by
      have hd:(dR (fE w (jO q) k)).waits=(fE w (jO q) k).waits.drop _:=drop_take _ _;rw[hd] at hx';exact List.mem_of_mem_drop hx'
     obtain⟨i,hi,rfl⟩:=List.getElem_of_mem hx2;have hi2:i<w.waits.length:=by simpa[fE] using hi
     simp only[fE,List.getElem_modify] at e ⊢;split at e
     ·rename_i eik;rw[if_pos eik];exact List.mem_append_right _ (by simp[jO])
     rename_i eik;exfalso;have h1:=h.num i hi2;have h2:=h.num k hkl;omega
    rename_i hin;refine⟨h,eG.refl w,fun _ _ _ U6 _ x' hx' e=>?_⟩;have:=abw x' hx' e;subst this;rw[Bool.and_eq_true,not_and] at hin;have h3:=hin U6;rw[getElem!_pos w.waits k hkl] at h3;simp only[Bool.not_eq_true',Bool.not_eq_false] at h3;exact dF.1 h3
 rw[if_neg hk];exact⟨h,eG.refl w,fun _ _ _ _ g=>absurd g hk⟩
theorem vE {m:Int}{known:List Pl}:∀{l:List Rq} {w:Wr},Pw m w→Pw m (l.foldl (nu known) w)∧eG w (l.foldl (nu known) w) ∧
  ∀q∈l,q.kind=1→q.dM=w.l.id→q.aX=w.aX→kH w q.to=true→bI known q.to=true→∀x'∈(l.foldl (nu known) w).waits,x'.n=q.n→q.to∈x'.from_
 |[],w,h=>⟨h,eG.refl w,fun q hq=>by cases hq⟩
 | q::l,w,h=>by
   obtain⟨a,b,c⟩:=Y1 h known q;obtain⟨x,y,z⟩:=vE (l:=l) a;rw[List.foldl_cons];refine⟨x,b.trans y,fun p hp e1 e2 e3 e4 e5 x' hx' e=>?_⟩;rcases List.mem_cons.1 hp with rfl|hp
   ·obtain⟨x0,hx0,g1,_,_,_,g5⟩:=y.wt x' hx';exact g5 _ (c e1 e2 e3 e4 e5 x0 hx0 (by rw[←g1];exact e))
   refine z p hp e1 (by rw[b.l];exact e2) (by rw[b.ep];exact e3) ?_ e5 x' hx' e;unfold kH at e4 ⊢;rw[b.l];exact e4
theorem Fb {is:Pl→Bool}{p:Pl}:∀{l b:List Pl},p∈l.foldl (fun b x=>if is x && !bI b x then b++[x] else b) b↔p∈b∨(p∈l∧is p=true)
 |[],b=>by simp
 | y::l,b=>by
   rw[List.foldl_cons,Fb];split
   ·rename_i hc;simp only[Bool.and_eq_true,Bool.not_eq_true'] at hc;constructor
    ·rintro (h|⟨h1,h2⟩)
     ·rcases List.mem_append.1 h with h|h
      ·exact .inl h
      rw[List.mem_singleton] at h;subst h;exact .inr ⟨by simp,hc.1⟩
     exact .inr ⟨by simp[h1],h2⟩
    rintro (h|⟨h1,h2⟩)
    ·exact .inl (List.mem_append_left _ h)
    rcases List.mem_cons.1 h1 with rfl|h1
    ·exact .inl (List.mem_append_right _ (by simp))
    exact .inr ⟨h1,h2⟩
   rename_i hc;constructor
   ·rintro (h|⟨h1,h2⟩)
    ·exact .inl h
    exact .inr ⟨by simp[h1],h2⟩
   rintro (h|⟨h1,h2⟩)
   ·exact .inl h
   rcases List.mem_cons.1 h1 with rfl|h1
   ·left
    rw[h2,Bool.true_and,Bool.not_eq_true,Bool.not_eq_false'] at hc;exact dF.1 hc
   exact .inr ⟨h1,h2⟩
theorem Ty {w:Wr}{is:Pl→Bool}{p:Pl}:p∈(nk w is).bad↔p∈w.bad∨(p∈(aO w.l.aj).ah∧is p=true):=Fb
theorem ug {x:Wt}:∀{l:List Pl} {w:Wr},l.foldl (fun w y=>if bI x.from_ y then w else nk w fun z=>z==y) w={ w with bad:=(l.foldl (fun w y=>if bI x.from_ y then w else nk w fun z=>z==y) w).bad } ∧
  ∀p,p∈(l.foldl (fun w y=>if bI x.from_ y then w else nk w fun z=>z==y) w).bad↔p∈w.bad∨(p∈(aO w.l.aj).ah∧p∈l∧p∉x.from_)
 |[],w=>⟨rfl,fun p=>by simp⟩
 | y::l,w=>by
   rw[List.foldl_cons];by_cases hy:bI x.from_ y=true
   ·rw[if_pos hy];obtain⟨a,b⟩:=ug (x:=x) (l:=l) (w:=w);refine⟨a,fun p=>?_⟩;rw[b];constructor
    ·rintro (h|⟨h1,h2,h3⟩)
     ·exact .inl h
     exact .inr ⟨h1,by simp[h2],h3⟩
    rintro (h|⟨h1,h2,h3⟩)
    ·exact .inl h
    rcases List.mem_cons.1 h2 with rfl|h2
    ·exact absurd (dF.1 hy) h3
    exact .inr ⟨h1,h2,h3⟩
   rw[if_neg hy];obtain⟨a,b⟩:=ug (x:=x) (l:=l) (w:=nk w fun z=>z==y);refine⟨by rw[a];rfl,fun p=>?_⟩;rw[b,Ty];have hl:(nk w fun z=>z==y).l=w.l:=rfl;rw[hl];constructor
   ·rintro ((h|⟨h1,h2⟩)|⟨h1,h2,h3⟩)
    ·exact .inl h
    ·have:p=y:=by simpa using h2
     subst this;exact .inr ⟨h1,by simp,fun e=>hy (dF.2 e)⟩
    exact .inr ⟨h1,by simp[h2],h3⟩
   rintro (h|⟨h1,h2,h3⟩)
   ·exact .inl (.inl h)
   rcases List.mem_cons.1 h2 with rfl|h2
   ·exact .inl (.inr ⟨h1,by simp⟩)
   exact .inr ⟨h1,h2,h3⟩
def Gn (t:Int)(x:Wt):Wt:=if eF t x.since 3 then { x with since:=t } else x
structure Nu (w:Wr)(t:Int)(i:Nat)(st:Wr×List Rq):Prop where
 eq:st.1={ w with waits:=(w.waits.take i).map (Gn t)++w.waits.drop i,bad:=st.1.bad }
 bad:∀p,p∈st.1.bad↔p∈w.bad∨∃x∈w.waits.take i,eF t x.born 9=true∧p∈(aO w.l.aj).ah∧p∈bJ w x.n∧p∉x.from_
 out:∀q,q∈st.2↔∃x∈w.waits.take i,eF t x.since 3=true∧q∈gM w x
theorem Px {w:Wr}{t:Int}{i:Nat}{st:Wr×List Rq}(h:Nu w t i st)(hi:i<w.waits.length):Nu w t (i+1) (pF t st i):=by
 have hlen:((w.waits.take i).map (Gn t)).length=i:=by rw[List.length_map,List.length_take];omega
 have hx:st.1.waits[i]! = w.waits[i]:=by
  have e:=congrArg Wr.waits h.eq;simp only at e;rw[e,getElem!_pos _ _ (by simp;omega),List.getElem_append_right (by omega),List.getElem_drop];simp only[hlen,Nat.sub_self,Nat.add_zero]
 have hl:st.1.l=w.l:=by rw[h.eq]
 have hsend:∀y,gM { st.1 with bad:=y } w.waits[i]=gM w w.waits[i]:=fun y=>by
  unfold gM bJ;have e1:st.1.aX=w.aX:=by rw[h.eq]
  have e2:st.1.sure=w.sure:=by rw[h.eq]
  simp only[hl,e1,e2]
 have htk:w.waits.take (i+1)=w.waits.take i++[w.waits[i]]:=List.take_succ_eq_append_getElem hi;have hdr:w.waits.drop i=w.waits[i]::w.waits.drop (i+1):=List.drop_eq_getElem_cons hi;obtain⟨w1,hw1⟩:∃w1,w1=if eF t w.waits[i].born 9 then zO st.1 w.waits[i] else st.1:=⟨_,rfl⟩
 have Wi:w1={ st.1 with bad:=w1.bad }:=by
  rw[hw1];split
  ·exact (ug (x:=w.waits[i]) (l:=bJ st.1 w.waits[i].n) (w:=st.1)).1
  rfl
 have hb:∀p,p∈w1.bad↔p∈w.bad∨∃x∈w.waits.take (i+1),eF t x.born 9=true∧p∈(aO w.l.aj).ah∧p∈bJ w x.n∧p∉x.from_:=fun p=>by
  have hpre:(p∈w.bad∨∃x∈w.waits.take (i+1),eF t x.born 9=true∧p∈(aO w.l.aj).ah∧p∈bJ w x.n∧p∉x.from_)↔p∈st.1.bad∨(eF t w.waits[i].born 9=true∧p∈(aO w.l.aj).ah∧p∈bJ w w.waits[i].n∧p∉w.waits[i].from_):=by
   rw[h.bad,htk];constructor
   ·rintro (g|⟨x,hx,g⟩)
    ·exact .inl (.inl g)
    rcases List.mem_append.1 hx with hx|hx
    ·exact .inl (.inr ⟨x,hx,g⟩)
    rw[List.mem_singleton] at hx;subst hx;exact .inr g
   rintro ((g|⟨x,hx,g⟩)|g)
   ·exact .inl g
   ·exact .inr ⟨x,List.mem_append_left _ hx,g⟩
   exact .inr ⟨_,List.mem_append_right _ (by simp),g⟩
  rw[hpre,hw1];split
  ·rename_i hg;have:=(ug (x:=w.waits[i]) (l:=bJ st.1 w.waits[i].n) (w:=st.1)).2 p;unfold zO;rw[this,hl];have e:bJ st.1 w.waits[i].n=bJ w w.waits[i].n:=by unfold bJ;rw[hl]
   rw[e];constructor
   ·rintro (g|g)
    ·exact .inl g
    exact .inr ⟨hg,g⟩
   rintro (g|⟨_,g⟩)
   ·exact .inl g
   exact .inr g
  rename_i hg;constructor
  ·exact fun g=>.inl g
  rintro (g|⟨g,_⟩)
  ·exact g
  exact absurd g hg
 have hset:∀y:Wt,(w1.waits.set i y)=(w.waits.take i).map (Gn t)++y::w.waits.drop (i+1):=fun y=>by
  have e:w1.waits=(w.waits.take i).map (Gn t)++w.waits.drop i:=by rw[Wi];show st.1.waits=_;rw[h.eq]
  rw[e,hdr,List.set_append_right _ _ (by omega),hlen,Nat.sub_self,List.set_cons_zero]
 have hmap:(w.waits.take (i+1)).map (Gn t)++w.waits.drop (i+1)=(w.waits.take i).map (Gn t)++Gn t w.waits[i]::w.waits.drop (i+1):=by
  rw[htk,List.map_append,List.append_assoc];rfl
 unfold pF;simp only[hx];rw[←hw1];by_cases hs:eF t w.waits[i].since 3=true
 ·rw[if_pos hs];refine⟨?_,hb,fun q=>?_⟩
  ·simp only[hset,hmap];have:Gn t w.waits[i]={ w.waits[i] with since:=t }:=by unfold Gn;rw[if_pos hs]
   rw[this,Wi,h.eq]
  simp only[List.mem_append];rw[h.out,Wi,hsend,htk];constructor
  ·rintro (⟨x,hx,g⟩|g)
   ·exact⟨x,List.mem_append_left _ hx,g⟩
   exact⟨_,List.mem_append_right _ (by simp),hs,g⟩
  rintro⟨x,hx,g⟩
  rcases List.mem_append.1 hx with hx|hx
  ·exact .inl ⟨x,hx,g⟩
  rw[List.mem_singleton] at hx;subst hx;exact .inr g.2
 rw[if_neg hs];refine⟨?_,hb,fun q=>?_⟩
 ·have:Gn t w.waits[i]=w.waits[i]:=by unfold Gn;rw[if_neg hs]
  simp only;rw[hmap,this,←hdr];conv=>lhs;rw[Wi,h.eq]
 simp only;rw[h.out,htk];constructor
 ·rintro⟨x,hx,g⟩
  exact⟨x,List.mem_append_left _ hx,g⟩
 rintro⟨x,hx,g⟩
 rcases List.mem_append.1 hx with hx|hx
 ·exact⟨x,hx,g⟩
 rw[List.mem_singleton] at hx;subst hx;exact absurd g.1 hs
theorem sQ {w:Wr}{t:Int}(hf:w.fenced≠1):Nu w t w.waits.length (dw w t):=by
 unfold dw;rw[if_neg hf];have:∀i,i≤w.waits.length→Nu w t i ((List.range i).foldl (pF t) (w,[])):=by
  intro i;induction i with
  |zero=>intro _;exact⟨by simp,fun p=>by simp,fun q=>by simp⟩
  | succ i ih=>
    intro hi;rw[List.range_succ,List.foldl_append];exact Px (ih (by omega)) (by omega)
 exact this _ (Nat.le_refl _)
def Rv.z:List AV:=[.pv (uu 0),.pv (ii 0),.pv (ii 0),.pv dV,.pv (ii 0),.pv (uu 0),.pv (uu 0),.pv (ii 0),.pv dV,.pv (uu 0),.pv (uu 0),.pv dV,.pv dV,.pv dV,.pv dV,.pv dV,.pv (uu 0),.pv (uu 0)]
section
variable {y:Rv}{now:Int}{r:Rs}
end
structure RBase (l:Lg)(k:Nat)(x:Rv):Prop where
 hl:x.l=l
 su:0≤x.sure∧x.sure≤8
 he:x.heard.length≤k
 fl:x.aj.length≤6
 fr:∀f∈x.aj,0≤f.first∧f.first≤9∧f.ah.length≤5
 bs:eD x.born∧eD x.since
structure RInv (l:Lg)(k:Nat)(x:Rv):Prop extends RBase l k x where
 ph:x.phase=1∨x.phase=2∨x.phase=3∨x.phase=4
 n0:0≤x.n∧x.n≤9
 n1:x.phase=1→x.n=0
 n3:x.phase=2∨x.phase=3→x.n≤8
 no:x.none.length≤k
 ha:x.has.length≤k+1
 ba:x.bad.length≤5*k
 bo:x.body.length≤5000
theorem RBase.up {l:Lg}{k:Nat}{x:Rv}(h:RBase l k x):RBase l (k+1) x:=⟨h.hl,h.su,Nat.le_succ_of_le h.he,h.fl,h.fr,h.bs⟩
theorem RInv.up {l:Lg}{k:Nat}{x:Rv}(h:RInv l k x):RInv l (k+1) x:=
 ⟨h.toRBase.up,h.ph,h.n0,h.n1,h.n3,Nat.le_succ_of_le h.no,Nat.le_succ_of_le h.ha,by have:=h.ba;omega,h.bo⟩
section
variable {l:Lg}{k:Nat}{x:Rv}{now:Int}{r:Rs}
end
theorem sF {l:Lg}(h:eH l=true):0<l.aj.length∧l.aj.length≤6∧(∀f∈l.aj,1≤f.first∧f.first≤9∧f.ah.length≤5)∧1≤l.a∧l.a≤l.w∧l.w≤5:=by
 simp only[eH,Bool.and_eq_true,bR,decide_eq_true_eq] at h;obtain⟨⟨a1,a2⟩,⟨a3,a4⟩,a5,a6,⟨a7,a8⟩,a9⟩:=h;simp only[bL,Bool.and_eq_true,bR,decide_eq_true_eq,List.all_eq_true] at a6;obtain⟨⟨h1,h2⟩,h3,h4,h5⟩:=a6;refine⟨by omega,by omega,fun f hf=>?_,a3,a4,a5⟩;have:=h4 f hf;simp only[jY,Bool.and_eq_true,bR,decide_eq_true_eq] at this;omega
theorem kV (fr:List Fr){w:Int}(hw:w≤5)(n:Int):(setOf fr w n).length≤5:=by
 unfold setOf;split
 ·simp
 split
 ·simp only[dZ,List.length_map,List.length_range];omega
 simp
theorem Nh (e:Int):∀(l b:List Pl),b.length≤5→(l.foldl (O9 e) b).length≤5
 |[],b,h=>h
 | p::r,b,h=>by
   rw[List.foldl_cons];refine Nh e r _ ?_;unfold O9;by_cases hc:(decide ((b.length:Int)<(if 5<e then 5 else e)) && !(b.any fun y=>y.node==p.node))=true
   ·rw[if_pos hc];simp only[Bool.and_eq_true,decide_eq_true_eq] at hc;rw[List.length_append,List.length_singleton];have h1:=hc.1;by_cases h5:(5:Int)<e
    ·rw[if_pos h5] at h1;omega
    rw[if_neg h5] at h1;omega
   rw[if_neg hc];exact h
theorem BX {f:Fr}(hf:f.ah.length≤5)(w e:Int)(bad known:List Pl):(gU f w e bad known).1.ah.length≤5:=by
 unfold gU;split
 ·refine Nh e _ _ ?_;unfold sD;refine Nat.le_trans (Ay w _ _) ?_;have:=(Aw bad (fit bad known) f.ah (f,[],false)).1;unfold j3;rw[this];exact hf
 simp[jI]
theorem RInv.big {l:Lg}{k:Nat}{x:Rv}(hmay:eH l=true)(h:RInv l k x)(hk:k≤1000):x.big:=by
 obtain⟨m1,m2,m3,m4,m5,m6⟩:=sF hmay;rw[←h.hl] at m1 m2 m3 m4 m5 m6;have hb:=h.fr;have:=h.he;have:=h.no;have:=h.ha;have:=h.ba;have:=h.bo;have:=h.n0;have:=h.fl;exact⟨⟨⟨by omega,fun f hf=>by have:=m3 f hf;omega⟩,⟨by omega,fun f hf=>by have:=hb f hf;omega⟩,by omega,by omega,by omega,by omega,by omega⟩,
  fun f hf=>by have:=m3 f hf;exact⟨by omega,by omega,by omega⟩,fun f hf=>by have:=hb f hf;exact⟨by omega,by omega,by omega⟩,m1,⟨by omega,by omega⟩,h.su.1,⟨by omega,by omega⟩,by omega,
  fun n=>Nat.le_trans (kV _ m6 n) (by decide),fun n=>Nat.le_trans (kV _ m6 n) (by decide)⟩
theorem pu {s s':AS}(ids:List Nat)(h:match DZ s.hp ids with|some fs=>RN ⟨(s.app fs).tm,(s.app fs).nx,Lu (s.app fs).hp (s.app fs).hp⟩ s'|none=>False)(c:Ctx)(R:Real)(a:Act)(w:World)(g:aS c R s a w):∃R',aS c R' s' a w:=by
 split at h;rotate_left;cases h
 rename_i fs hfs;obtain⟨g1,_⟩:=iy g (fun _ _ h=>h) _ _ hfs;obtain⟨g2,_⟩:=EU g1;exact ay h c R a w g2
def Ai (b:List UInt8):List PV:=[.sc (.string ⟨b.toArray⟩)]
def Hp.c (h:Hp):List PV:=[ii h.x.node,uu h.x.bf,uu h.n,.sc (.string ⟨h.body.toArray⟩)]
def Lt.c (m:Lt):List PV:=[bl m.ask,ii m.q.to.node,uu m.q.to.bf,ii m.q.kind,uu m.q.dM,uu m.q.n,uu m.q.aX,uu m.q.sure,ii m.q.copy,Db m.q.body,slU m.q.keep,ii m.r.from_.node,uu m.r.from_.bf,ii m.r.kind,ii m.r.code,uu m.r.dM,uu m.r.n,uu m.r.aX,uu m.r.sure,Db m.r.body]
structure Stp where
 what:Int
 which:Int
 BV:Int
 code:Int
 M4:Int
 e:Int
 body:List UInt8
 known:List Pl
def Stp.c (x:Stp):List PV:=[ii x.what,ii x.which,ii x.BV,ii x.code,ii x.M4,ii x.e,Db x.body,dO x.known]
def stA (s:Sg)(B H S:AV):List AV:=[.pv (uu s.w.l.id),.pv (ii s.w.l.w),.pv (ii s.w.l.a),.pv (eT s.w.l.aj),.pv (ii s.w.l.closed),.pv (uu s.w.l.last),.pv (uu s.w.aX),.pv (uu s.w.next),.pv (uu s.w.sure),.pv (nA s.w.waits),.pv (dO s.w.bad),.pv (uu s.w.change.first),.pv (dO s.w.change.ah),.pv (ii s.w.fenced),.pv (eT s.bZ),.pv (uu s.ask.first),.pv (dO s.ask.ah),.pv (ii s.taken),.pv (uu s.now),B,H,S]
def stP (s:Sg):List PV:=[uu s.w.l.id,ii s.w.l.w,ii s.w.l.a,eT s.w.l.aj,ii s.w.l.closed,uu s.w.l.last,uu s.w.aX,uu s.w.next,uu s.w.sure,nA s.w.waits,dO s.w.bad,uu s.w.change.first,dO s.w.change.ah,ii s.w.fenced,eT s.bZ,uu s.ask.first,dO s.ask.ah,ii s.taken,uu s.now,.sl false 20 (s.cO.map Lt.c),.sl false 4 (s.had.map Hp.c),.sl false 1 (s.bK.map Ai)]
def U9 (q:Rq):Lt:=⟨true,q,rs0⟩
def jd (a b:Int):Int:=IntKind.i64.wrap ((BitVec.toNat (BitVec.ofInt IntKind.i64.bits a &&& BitVec.ofInt IntKind.i64.bits b):Nat):Int)
end Go.AX
end
