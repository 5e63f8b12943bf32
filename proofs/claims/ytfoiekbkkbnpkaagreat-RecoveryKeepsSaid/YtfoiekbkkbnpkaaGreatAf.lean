/-
  Conditions: none. A framework for walks: abstract values, memory, and conditions that suffice; the chapters in plain terms.
-/
import Derived.Test.YtfoiekbkkbnpkaaGreatAe
import Derived.Shelf.SlSortCmp.WholeK
import Derived.Test.YtfoiekbkkbnpkaaGreatAd
set_option linter.unusedSectionVars false
set_option linter.unusedVariables false
set_option linter.unusedSimpArgs false
section
namespace Go.AX
open Go.Sort Go.Shelf Go.Proofs
theorem H8 {N:Nat→Prop}{w:World}:∀{vals vs:List Value},(∀v∈vals,v.oneCell'=true)→(∀j,j<vals.length→vs[j]? = vals[j]?)→gU N w (vals.map .sc) vs
 |[],vs,_,_=>by simp only[List.map_nil,gU]
 | v::r,vs,h1,h=>by
   have h0:=h 0 (by simp);match vs,h0 with
   | v'::Q8,h0=>
     simp only[List.getElem?_cons_zero,Option.some.injEq] at h0;subst h0;refine⟨v',Q8,rfl,h1 v' (by simp),by simp only[bJ],H8 (fun u hu=>h1 u (by simp[hu])) fun j hj=>?_⟩;have:=h (j+1) (by simpa using hj);simpa using this
theorem H9 {N:Nat→Prop}{w:World}:∀{vals vs:List Value},gU N w (vals.map .sc) vs→∀j,j<vals.length→vs[j]? = vals[j]?
 |[],vs,_,j,hj=>by simp at hj
 | v::r,vs,h,j,hj=>by
   obtain⟨v',Q8,rfl,_,hv,h⟩:=h;simp only[bJ] at hv;subst hv;cases j with
   |zero=>rfl
   |succ j=>simpa using H9 h j (by simpa using hj)
section
variable {α:Type}[Inhabited α]{P:Program}{f g:Nat}{enc:α→List Value}{st:Nat}{e:TypeId}
theorem abA (sorted:Array α→Array α)(h0:0<st)(hl:∀x,(enc x).length=st)(h1:∀x,∀v∈enc x,v.oneCell'=true)(hsz:∀d,(sorted d).size=d.size)
  (agy:∀(blk cap:Nat) (d:Array α) (w:World),HoldsK enc st w blk 0 d→blk<w.heap.size→d.size<4611686018427387904 →
   Calls P f #[.slice (some ⟨blk,0,none⟩) d.size cap,.func (.func g) #[] #[]] w fun e w'=>e=.returned (.tuple #[])∧∃n os,w'=sortWorldK enc st w blk 0 n (sorted d) os)
  (hnil:dB P f [.sc (.slice none 0 0),.fn (.func g) [] []] (.cO [])) (l:List α) (hll:l.length<4611686018427387904) :
  dU P f [.aO 1 0,.pv (.fn (.func g) [] [])] [(1,.arr e 0 st (l.map fun x=>(enc x).map .sc))] (.pv (.cO [])) [(1,.arr e 0 st ((sorted l.toArray).toList.map fun x=>(enc x).map .sc))]:=by
 refine⟨hnil.1,fun c R w dz hh ha=>?_⟩;obtain⟨a,ha1,xS⟩:∃a:Act,a.tmps.size=c.n∧a.defers=[]:=⟨{ tmps:=Array.replicate c.n undef,defers:=[] },by simp,rfl⟩;have gm:=hh.WR (tm:=[]) (nx:=0) (a:=a) (fun t v h=>by simp[lk] at h) ha1 (by rw[xS];exact⟨[],Marks.nil⟩);have hbx:=hh.boxes 1 _ (show lk [(1,_)] 1=some _ from rfl);obtain⟨v1,r1,e1,hv1,v2,r2,rfl,hv2,rfl⟩:=ha;have aes:dz = #[v1,v2]:=by rw[←Array.toList_inj,e1]
 subst aes;simp only[ak,lk,Nat.beq,aU] at hv1;have hv1:=hv1.2.2 trivial;have aiY:v2=.func (.func g) #[] #[]:=by
  simp only[ak,bJ,eY] at hv2;obtain⟨fs,cs,rfl,h3,h4⟩:=hv2;rw[Array.toList_eq_nil_iff] at h3 h4;subst h3;subst h4;rfl
 subst aiY;cases hn:R.nil 1 with
 | true=>
   obtain⟨xs,⟨_,h3⟩,_⟩:=hbx;have hlz:l=[]:=by
    rcases h3 with ⟨_,h3⟩|⟨g',cap,cur,e1,_⟩
    ·simpa using h3
    simp[dH,hn] at e1
   subst hlz;have hsl:v1=.slice none 0 0:=by rw[hv1];simp[dH,hn]
   subst hsl;refine (hnil.2 (fun _=>False) w _ (fun r h=>h.elim) ?_).mono fun e' w' ⟨v,r,he,hr,hrep,hsame⟩=>?_
   ·exact⟨_,_,rfl,by simp only[bJ],_,_,rfl,by simp only[bJ];exact⟨#[],#[],rfl,by simp only[eY],by simp only[eY]⟩,by simp only[eY]⟩
   subst hr;have hs0:(sorted (#[]:Array α)).toList=[]:=by
    have:=hsz #[];exact List.eq_nil_of_length_eq_zero (by simpa using this)
   refine⟨v,_,_,R,he,⟨rfl,rfl⟩,?_,?_⟩
   ·simp only[show ([]:List α).toArray = #[] from rfl,hs0];exact (gm.grow hsame).hap
   simp only[ak];simp only[bJ] at hrep ⊢;obtain⟨vs,h5,h6⟩:=hrep;simp only[eY] at h6 ⊢;exact⟨vs,h5,h6⟩
 | false=>
   obtain⟨cur,hg,hs,hle,hm,hr,_⟩:=gQ hbx hn;simp only[List.length_map] at hle hv1;have hsl:v1=.slice (some ⟨R.blk 1,0,none⟩) l.toArray.size ((R.cap 1).1):=by rw[hv1];simp[dH,hn]
   subst hsl;have hcell:∀i (hi:i<l.length) j,j<st→cur[i*st+j]? = (enc l[i])[j]? :=by
    intro i hi j hj;obtain⟨_,q⟩:=ru (i:=i) (row:=(enc l[i]).map .sc) hr (by simp[hi]);have:=H9 q j (by rw[hl];exact hj);rw[List.getElem?_drop,Array.getElem?_toList] at this;exact this
   have hK:HoldsK enc st w (R.blk 1) 0 l.toArray:=by
    intro j hj;rw[size_flatK] at hj;rw[get_flatK _ _ _ _ hj];have hi:j / st<l.length:=(Nat.div_lt_iff_lt_mul h0).2 hj;have hm:j%st<st:=Nat.mod_lt _ h0;have:=hcell _ hi _ hm;rw[show j / st*st+j%st=j from by rw[Nat.mul_comm];exact Nat.div_add_mod j st] at this;refine⟨?_,by simp[World.frozen?,hg]⟩;simp only[World.cell?,hg,Option.isSome_none,Bool.false_eq_true,if_false,Nat.zero_add,this,id];rw[getElem!_pos l.toArray _ (by simpa using hi),getElem!_pos _ _ (by simp only[List.getElem_toArray];rw[hl];exact hm)];simp only[List.getElem_toArray];rw[List.getElem?_eq_getElem (by rw[hl];exact hm)]
   have hblk:R.blk 1<w.heap.size:=size_of_getElem? hg;refine (agy (R.blk 1) ((R.cap 1).1) l.toArray w hK hblk (by simpa using hll)).mono fun e' w' ⟨he,n,os,hw⟩=>?_
   have Ec:w'.heap=(w.heap.modify (R.blk 1) (onCells (putCells id 0 (Go.Sort.flatK enc st (sorted l.toArray)))))++os:=by subst hw;rfl
   have hbk:w'.heap[R.blk 1]? = some (.cells (putCells id 0 (Go.Sort.flatK enc st (sorted l.toArray)) cur) e (0,0)):=by
    rw[Ec,Array.getElem?_append_left (by simpa using hblk),Array.getElem?_modify,if_pos rfl,hg];rfl
   have aeu:∀r,r<w.heap.size→r≠R.blk 1→w'.heap[r]? = w.heap[r]? :=by
    intro r hr hne;rw[Ec,Array.getElem?_append_left (by simpa using hr),Array.getElem?_modify,if_neg (fun h=>hne h.symm)]
   have hworld:mr (fun r=>aL R 1 r (lk [(1,aF.arr e 0 st (l.map fun x=>(enc x).map .sc))] 1)) w w':=by
    refine⟨by rw[Ec];simp,fun r hr hno=>aeu r hr fun h=>hno ?_,by subst hw;rfl,by subst hw;rfl,by subst hw;rfl⟩;subst h;exact⟨hn,rfl⟩
   have hlen:(sorted l.toArray).size=l.length:=by rw[hsz];simp
   have hR:∀b',b'≠1→R.blk b'=R.blk b'∧R.nil b'=R.nil b'∧R.cap b'=R.cap b':=fun _ _=>⟨rfl,rfl,rfl⟩
   have aiZ:((sorted l.toArray).toList.map fun x=>(enc x).map PV.sc).length=(l.map fun x=>(enc x).map PV.sc).length:=by simp[hlen]
   have r1:∀off v,aY R 1 off v (lk [(1,aF.arr e 0 st (l.map fun x=>(enc x).map .sc))] 1)→aY R 1 off v (some (.arr e 0 st ((sorted l.toArray).toList.map fun x=>(enc x).map .sc))):=fun off v h=>h
   have r2:∀ver v,aU R 1 ver v (lk [(1,aF.arr e 0 st (l.map fun x=>(enc x).map .sc))] 1)→aU R 1 ver v (some (.arr e 0 st ((sorted l.toArray).toList.map fun x=>(enc x).map .sc))):=fun ver v h=>by
    simp only[lk,Nat.beq,aU,aiZ] at h ⊢;exact h
   have r3:∀ver i off v,bf R 1 ver i off v (lk [(1,aF.arr e 0 st (l.map fun x=>(enc x).map .sc))] 1)→bf R 1 ver i off v (some (.arr e 0 st ((sorted l.toArray).toList.map fun x=>(enc x).map .sc))):=fun ver i off v h=>h
   have hown:∀r,aL R 1 r (some (.arr e 0 st ((sorted l.toArray).toList.map fun x=>(enc x).map .sc)))→aL R 1 r (lk [(1,aF.arr e 0 st (l.map fun x=>(enc x).map .sc))] 1)∨w.heap.size≤r:=fun r h=>.inl h
   have gm':=gm.upd (nx':=0) hR r1 r2 r3 hown hworld (by
    refine⟨(putCells id 0 (Go.Sort.flatK enc st (sorted l.toArray)) cur).toList.take ((sorted l.toArray).size*st),⟨?_,.inr ⟨R.blk 1,(R.cap 1).1,_,by simp[dH,hn],Nat.zero_le _,hbk,by simp only[List.length_map,Array.length_toList,hlen];exact hle,hm,?_,by simp⟩⟩,JG fun i hi=>?_⟩
    ·simp only[List.length_take,Array.length_toList,putCells,Array.size_mapIdx,List.length_map];have:(sorted l.toArray).size*st≤(R.cap 1).1*st:=Nat.mul_le_mul_right _ (by omega);omega
    ·simp only[putCells,Array.size_mapIdx];exact hs
    simp only[List.length_map,Array.length_toList] at hi;simp only[List.getElem_map,Array.getElem_toList,List.length_map];refine⟨hl _,H8 (h1 _) fun j hj=>?_⟩;rw[hl] at hj;have hij:i*st+j<(sorted l.toArray).size*st:=by
     have:(i+1)*st≤(sorted l.toArray).size*st:=Nat.mul_le_mul_right _ hi;rw[Nat.add_mul] at this;omega
    have hcs:i*st+j<cur.size:=by
     have:(sorted l.toArray).size*st≤(R.cap 1).1*st:=Nat.mul_le_mul_right _ (by omega);omega
    rw[List.getElem?_drop,List.getElem?_take,if_pos hij,Array.getElem?_toList];simp only[putCells,Array.getElem?_mapIdx,size_flatK,Nat.zero_le,Nat.zero_add,true_and,hij,if_true,Nat.sub_zero,id];rw[Array.getElem?_eq_getElem hcs];simp only[Option.map_some];rw[get_flatK _ _ _ _ hij];have e3:(i*st+j) / st=i:=by rw[Nat.mul_comm,Nat.mul_add_div h0,Nat.div_eq_of_lt hj,Nat.add_zero]
    have e4:(i*st+j)%st=j:=by rw[Nat.mul_comm,Nat.mul_add_mod,Nat.mod_eq_of_lt hj]
    rw[e3,e4,getElem!_pos (sorted l.toArray) _ hi,getElem!_pos (enc (sorted l.toArray)[i]) _ (by rw[hl];exact hj),List.getElem?_eq_getElem (by rw[hl];exact hj)])
   have H:Xq [(1,.old 1 0)] ((1,aF.arr e 0 st ((sorted l.toArray).toList.map fun x=>(enc x).map .sc))::[(1,aF.arr e 0 st (l.map fun x=>(enc x).map .sc))]) [(1,aF.arr e 0 st ((sorted l.toArray).toList.map fun x=>(enc x).map .sc))]:=by
    refine JD (X:=True) rfl ?_;repeat' first|exact True.intro|exact rfl|exact id|exact aB _|((conv=>whnf);with_reducible apply And.intro)|((conv=>whnf);exact True.intro)
   refine⟨_,_,[(1,.arr e 0 st ((sorted l.toArray).toList.map fun x=>(enc x).map .sc))],_,he,⟨rfl,rfl⟩,gm'.hap.weaken H,?_⟩;simp only[ak,bJ,eY];exact⟨#[],rfl,rfl⟩
end
def dI (n l m:Int):Bool:=decide (l≤n)&&decide (n≤m)
def vg (x:Pl):Bool:=dI x.node 1 15&&dI x.aI 1 4611686018427387903
def kW (w:Int)(f:Fr):Bool:=dI f.first 1 9&&(dI f.ah.length w 5&&(f.ah.all vg&&decide (f.ah.map (·.node)).Nodup))
def qE (l:List Fr):Bool:=
 match l with
 |[]=>false
 |f::_=>f.first==1
def dA (w:Int)(l:List Fr):Bool:=dI l.length 1 6&&(qE l&&(l.all (kW w)&&decide (l.Pairwise fun a b=>a.first<b.first)))
def d9 (l:Lg):Bool:=dI l.id 1 4611686018427387903&&(dI l.a 1 l.w&&(decide (l.w≤5)&&(dA l.w l.af&&(dI l.closed 0 1&&decide (l.last≤8*l.closed)))))
theorem sZ {α:Type}{key:α→Int}{l:List α}(h:∀j (hj:j+1<l.length),key (l[j]'(by omega))<key l[j+1]):l.Pairwise fun a b=>key a<key b:=by
 rw[List.pairwise_iff_getElem];intro i j hi hj hij;induction j with
 |zero=>omega
 | succ j ih=>
   by_cases e:i=j
   ·subst e;exact h i hj
   exact Int.lt_trans (ih (by omega) (by omega)) (h j hj)
def Co (x y:Pl):Int:=Go.Lib.compareInt x.node y.node
def zB (d:Array Pl):Array Pl:=Go.Sort.pdq (Go.Proofs.ltOf Co) d 0 d.size (Go.Lib.bitLen d.size) true true
def sortPl (l:List Pl):List Pl:=(zB l.toArray).toList
theorem abG (x y:Pl):Go.Proofs.ltOf Co x y=decide (x.node<y.node):=by
 unfold Go.Proofs.ltOf Co Go.Lib.compareInt;by_cases h1:x.node<y.node
 ·simp[h1]
 by_cases h2:y.node<x.node<;>simp[h1,h2]
theorem adx:Go.Sort.SWO (Go.Proofs.ltOf Co) where
 irrefl x:=by rw[abG];simp
 trans x y z h1 h2:=by rw[abG] at *;simp at *;omega
 ntrans x y z h1 h2:=by rw[abG] at *;simp at *;omega
theorem vk (d:Array Pl):Go.Sort.PermIn 0 d.size d (zB d)∧Go.Sort.SortedIn (Go.Proofs.ltOf Co) 0 d.size (zB d):=
 Go.Sort.pdq_sorts (Go.Proofs.ltOf Co) adx d 0 d.size (Go.Lib.bitLen d.size) true true (Nat.zero_le _) (Nat.le_refl _) (Or.inl rfl)
theorem ET (d:Array Pl):(zB d).size=d.size:=(vk d).1.1
theorem LP (l:List Pl):(sortPl l).Perm l:=by
 have h:=(vk l.toArray).1;have h1:=h.1;have h2:=h.2.2;rw[show (zB l.toArray).extract 0 l.toArray.size=zB l.toArray from by rw[←h1];simp,show l.toArray.extract 0 l.toArray.size=l.toArray from by simp] at h2;exact h2
theorem Gy (l:List Pl):(sortPl l).Pairwise fun a b=>a.node≤b.node:=by
 have h:=(vk l.toArray).2;have h1:=ET l.toArray;rw[List.pairwise_iff_getElem];intro i j hi hj hij;simp only[sortPl,Array.length_toList] at hi hj;have:=h i j (Nat.zero_le _) hij (by omega);rw[abG,getElem!_pos (zB l.toArray) j hj,getElem!_pos (zB l.toArray) i hi] at this;simp only[sortPl,Array.getElem_toList];simp at this;exact this
theorem LQ (l:List Pl):decide ((sortPl l).Pairwise fun a b=>a.node<b.node)=decide (l.map (·.node)).Nodup:=by
 rw[decide_eq_decide];have hp:=(LP l).map (·.node);rw[←hp.nodup_iff];unfold List.Nodup;rw[List.pairwise_map];constructor
 ·intro h;exact h.imp fun {a b} h=>by omega
 intro h;exact ((Gy l).and h).imp fun {a b} h=>by omega
def Lg.ok (l:Lg):Prop:=∀x∈l.af,x.ah.length≤8796093022208
section
variable {α:Type}
def Fr.ok (f:Fr):Prop:=0≤f.first∧f.first≤18446744073709551615∧f.ah.length≤8796093022208
def bg (l:List Fr):Prop:=∀x∈l,x.ok
def iK (p:α→Bool)(l:List α):Option α:=l.foldl (fun o x=>if p x then some x else o) none
theorem EU {β:Type}(f:β→α→β)(a:β)(l:List α)(k:Nat)(h:k<l.length):(l.take (k+1)).foldl f a=f ((l.take k).foldl f a) l[k]:=by
 rw[List.take_succ_eq_append_getElem h,List.foldl_append];rfl
theorem mM (p:α→Bool):∀(l:List α) (x:α),iK p l=some x→x∈l∧p x=true:=by
 have:∀(l:List α) (o:Option α) (x:α),l.foldl (fun o x=>if p x then some x else o) o=some x→(x∈l∧p x=true)∨o=some x:=by
  intro l;induction l with
  |nil=>intro o x h;exact .inr h
  | cons y l ih=>
    intro o x h;rcases ih _ x h with ⟨h1,h2⟩|h1
    ·exact .inl ⟨by simp[h1],h2⟩
    simp only at h1;split at h1
    ·simp only[Option.some.injEq] at h1;subst h1;rename_i hp;exact .inl ⟨by simp,hp⟩
    exact .inr h1
 intro l x h;rcases this l none x h with h|h
 ·exact h
 cases h
def eD (l:List Fr)(n:Int):Option Fr:=iK (fun f=>decide (f.first≤n)) l
def kQ:Fr:=⟨0,[]⟩
def fF (l:List Pl)(k w:Nat):List Pl:=(List.range w).map fun i=>l[(k+i)%l.length]!
def setOf (l:List Fr)(w n:Int):List Pl:=
 match eD l n with
 |none=>[]
 |some f=>if 1≤w∧w≤f.ah.length then fF f.ah ((n-f.first)%f.ah.length).toNat w.toNat else []
theorem wC {l:List Fr}(h:bg l){n:Int}{f:Fr}(hf:eD l n=some f):f.ok∧f.first≤n:=by
 obtain⟨h1,h2⟩:=mM _ _ _ hf;exact⟨h f h1,by simpa using h2⟩
theorem EW {l:List Fr}(h:bg l)(n:Int):((eD l n).getD kQ).ah.length≤8796093022208:=by
 cases hf:eD l n with
 |none=>simp[kQ]
 |some f=>exact (wC h hf).1.2.2
def abH (f:Ft)(a now:Int):Ft:={ f with at_:=(max a 0).tmod f.set.length,since:=now }
def ady (f:Ft):Rq:={ to:=f.set[f.at_.toNat]!,kind:=3,bP:=f.bP,n:=f.n,au:=f.tag,sure:=0,copy:=0,body:=[],keep:=[] }
structure Hd (p:Prop):Prop where
 out:p
def nK (p:α→Bool):List α→Int
 |[]=>-1
 | x::r=>match nK p r with
   |.ofNat n=>n+1
   |.negSucc _=>if p x then 0 else -1
theorem vo (p:α→Bool):∀{l:List α},(∀x∈l,p x=false)→nK p l = -1
 |[],_=>rfl
 | x::r,h=>by
   have e:=vo p (l:=r) fun y hy=>h y (by simp[hy])
   simp only[nK,e,h x (by simp)];rfl
theorem Ih (p:α→Bool):∀{l:List α} {k:Nat} (hk:k<l.length),(∀j (hj:j<l.length),k<j→p l[j]=false)→p l[k]=true→nK p l=k
 |[],k,hk,_,_=>by simp at hk
 | x::r,0,_,h,h'=>by
   have e:=vo p (l:=r) fun y hy=>by
    obtain⟨j,hj,rfl⟩:=List.getElem_of_mem hy;have:=h (j+1) (by simpa using hj) (by omega);simpa using this
   simp only[List.getElem_cons_zero] at h';simp only[nK,e,h'];rfl
 | x::r,k+1,hk,h,h'=>by
   simp only[List.getElem_cons_succ] at h';have e:=Ih p (l:=r) (k:=k) (by simpa using hk) (fun j hj hlt=>by
    have:=h (j+1) (by simpa using hj) (by omega);simpa using this) h'
   simp only[nK,e];show ((k:Int)+1=_)
   omega
theorem EX (p:α→Bool)(x:α)(r:List α):iK p (x::r)=(iK p r).or (if p x then some x else none):=by
 have:∀(l:List α) (o:Option α),l.foldl (fun o x=>if p x then some x else o) o=(l.foldl (fun o x=>if p x then some x else o) none).or o:=by
  intro l;induction l with
  |nil=>intro o;simp
  | cons y l ih=>
    intro o;simp only[List.foldl_cons];rw[ih,ih (if p y then some y else none)];split<;>simp
 simp only[iK,List.foldl_cons];rw[this]
theorem zC (p:α→Bool):∀(l:List α),(nK p l = -1∧iK p l=none)∨∃k,∃hk:k<l.length,nK p l=(k:Nat)∧iK p l=some l[k]
 |[]=>.inl ⟨rfl,rfl⟩
 | x::r=>by
   rw[EX];rcases zC p r with ⟨h1,h2⟩|⟨k,hk,h1,h2⟩
   ·cases hx:p x with
    | true=>
      refine .inr ⟨0,by simp,?_,by simp[h2]⟩;simp only[nK,h1,hx];rfl
    | false=>
      refine .inl ⟨?_,by simp[h2]⟩;simp only[nK,h1,hx];rfl
   refine .inr ⟨k+1,by simpa using hk,?_,by simp[h2]⟩;simp only[nK,h1];show ((k:Int)+1=_)
   omega
def xV (w:Int)(l:List Fr)(j:Nat)(hj:j<l.length):Prop:=
 l[j].first≤9∧(∀h:0<j,(l[j-1]'(by omega)).first<l[j].first)∧w≤l[j].ah.length∧l[j].ah.length≤5∧l[j].ah.all vg=true∧(l[j].ah.map (·.node)).Nodup
theorem xW (l:List Fr):qE l=true↔∃h:0<l.length,l[0].first=1:=by
 cases l with
 |nil=>simp[qE]
 |cons f r=>simp[qE]
theorem jX (w:Int)(l:List Fr):dA w l=true↔1≤l.length∧l.length≤6∧qE l=true∧∀j (hj:j<l.length),xV w l j hj:=by
 simp only[dA,Bool.and_eq_true,dI,decide_eq_true_eq,List.all_eq_true];constructor
 ·rintro⟨⟨h1,h2⟩,h3,h4,h5⟩
  refine⟨by omega,by omega,h3,fun j hj=>?_⟩;have:=h4 l[j] (List.getElem_mem hj);simp only[kW,Bool.and_eq_true,dI,decide_eq_true_eq,List.all_eq_true] at this;obtain⟨⟨a1,a2⟩,⟨a3,a4⟩,a5,a6⟩:=this;refine⟨a2,fun h=>?_,a3,by omega,List.all_eq_true.2 a5,a6⟩;exact List.pairwise_iff_getElem.1 h5 (j-1) j (by omega) hj (by omega)
 rintro⟨h1,h2,h3,h4⟩
 refine⟨⟨by omega,by omega⟩,h3,fun x hx=>?_,?_⟩
 ·obtain⟨j,hj,rfl⟩:=List.getElem_of_mem hx;obtain⟨a2,a1,a3,a4,a5,a6⟩:=h4 j hj;simp only[kW,Bool.and_eq_true,dI,decide_eq_true_eq];refine⟨⟨?_,a2⟩,⟨a3,by omega⟩,a5,a6⟩;obtain⟨h0,e0⟩:=(xW l).1 h3;have:∀j (hj:j<l.length),1≤l[j].first:=by
   intro j;induction j with
   |zero=>intro hj;omega
   | succ j ih=>
     intro hj;have:=ih (by omega);have:=(h4 (j+1) hj).2.1 (by omega);simp only[Nat.add_sub_cancel] at this;omega
  exact this j hj
 exact sZ (key:=fun f:Fr=>f.first) fun j hj=>by
  have:=(h4 (j+1) hj).2.1 (by omega);simp only[Nat.add_sub_cancel] at this;exact this
theorem Pg {w:Int}{l:List Fr}{j:Nat}(hj:j<l.length)(h:¬xV w l j hj):dA w l=false:=by
 cases e:dA w l with
 |false=>rfl
 |true=>exact absurd (((jX w l).1 e).2.2.2 j hj) h
theorem Ph {l:List Pl}{k:Nat}(hk:k<l.length)(h:((l.take k).map (·.node)).Nodup)(h':∀i (hi:i<l.length),i<k→l[i].node≠l[k].node):((l.take (k+1)).map (·.node)).Nodup:=by
 rw[List.take_succ_eq_append_getElem hk,List.map_append];rw[List.nodup_append];refine⟨h,by simp,?_⟩;intro a ha b hb;simp only[List.map_cons,List.map_nil,List.mem_singleton] at hb;subst hb;obtain⟨x,hx,rfl⟩:=List.mem_map.1 ha;obtain⟨i,hi,rfl⟩:=List.getElem_of_mem hx;rw[List.length_take] at hi;rw[List.getElem_take];exact h' i (by omega) (by omega)
theorem EY {w n:Int}{l:List Fr}(h:dA w l=true)(hn:1≤n):∃f,eD l n=some f∧f∈l:=by
 obtain⟨h1,h2,h3,h4⟩:=(jX w l).1 h;obtain⟨h0,e0⟩:=(xW l).1 h3;cases hf:eD l n with
 |some f=>exact⟨f,rfl,(mM _ _ _ hf).1⟩
 | none=>
   exfalso;have:∀(l:List Fr),iK (fun f:Fr=>decide (f.first≤n)) l=none→∀x∈l,¬x.first≤n:=by
    intro l;induction l with
    |nil=>intro _ x hx;simp at hx
    | cons y l ih=>
      intro hn x hx;rw[EX] at hn;simp only[Option.or_eq_none_iff] at hn;rcases List.mem_cons.1 hx with rfl|hx
      ·intro hle;have:=hn.2;simp[hle] at this
      exact ih hn.1 x hx
   exact this l hf l[0] (List.getElem_mem h0) (by omega)
theorem Uc {l:Lg}(h:d9 l=true){n:Int}(hn:1≤n):(setOf l.af l.w n).length=l.w.toNat∧1≤l.w∧l.w≤5:=by
 simp only[d9,Bool.and_eq_true,dI,decide_eq_true_eq] at h;obtain⟨⟨a1,a2⟩,⟨a3,a4⟩,a5,a6,⟨a7,a8⟩,a9⟩:=h;obtain⟨f,hf,hm⟩:=EY a6 hn;obtain⟨j,hj,rfl⟩:=List.getElem_of_mem hm;have g:=((jX _ _).1 a6).2.2.2 j hj;refine⟨?_,by omega,a5⟩;simp only[setOf,hf];rw[if_pos ⟨by omega,g.2.2.1⟩];simp[fF]
theorem mod_succ (a n:Nat)(h:0<n):(a+1)%n=if a%n+1=n then 0 else a%n+1:=by
 have h1:=Nat.div_add_mod a n;have h2:=Nat.mod_lt a h;split
 ·rename_i e;have:a+1=n*(a / n+1):=by rw[Nat.mul_add];omega
  rw[this,Nat.mul_mod_right]
 have:a+1=n*(a / n)+(a%n+1):=by omega
 rw[this,Nat.mul_add_mod,Nat.mod_eq_of_lt (by omega)]
end
structure Cl where
 what:Int
 own:Int
 now:Int
 r:Rs
 l:Lg
deriving DecidableEq,Inhabited
def Cl.c (x:Cl):List PV:=[ii x.what,ii x.own,uu x.now,ii x.r.from_.node,uu x.r.from_.aI,ii x.r.kind,ii x.r.code,uu x.r.bP,uu x.r.n,uu x.r.au,uu x.r.sure,Cn x.r.body,
 uu x.l.id,ii x.l.w,ii x.l.a,cB x.l.af,ii x.l.closed,uu x.l.last]
def Cq (l:List Fr):Bool:=decide (l.length>30)||l.any fun f=>decide ((f.ah.length:Int)>30)
def gF (n:Int):Prop:=0≤n∧n≤18446744073709551615
def LV (n:Int):Prop:=-9223372036854775808≤n∧n≤9223372036854775807
def lgR (l:Lg):Prop:=gF l.id∧LV l.w∧LV l.a∧LV l.closed∧gF l.last∧∀f∈l.af,gF f.first
theorem LW {l:Lg}(h:lgR l)(hl:Cq l.af=false):bg l.af∧l.ok:=by
 simp only[Cq,Bool.or_eq_false_iff,List.any_eq_false,decide_eq_true_eq] at hl;refine⟨fun f hf=>?_,fun f hf=>?_⟩
 ·have:=h.2.2.2.2.2 f hf;have:=hl.2 f hf;exact⟨by simp only[gF] at *;omega,by simp only[gF] at *;omega,by omega⟩
 have:=hl.2 f hf;omega
structure LX (n:Int)(f:Ft):Prop where
 n:f.n=n
 pos:0<f.set.length
 len:f.set.length≤5
 at0:0≤f.at_
 at1:f.at_<f.set.length
 body:f.body.length≤5000
 since:gF f.since
 done:f.done=0∨f.done=1
theorem LX.sm {n:Int}{f:Ft}(h:LX n f):f.set.length≤8796093022208∧f.body.length≤140737488355328:=⟨by have:=h.len;omega,by have:=h.body;omega⟩
theorem Ud {n:Int}{f:Ft}{a now:Int}(hn:f.n=n)(hp:0<f.set.length)(hl:f.set.length≤5)(hb:f.body.length≤5000)(hd:f.done=0∨f.done=1)(dx:gF now):LX n (abH f a now):=by
 have h0:0≤(max a 0).tmod f.set.length:=Int.tmod_nonneg _ (by omega);have h1:(max a 0).tmod f.set.length<f.set.length:=by
  rw[Int.tmod_eq_emod_of_nonneg (by omega)];exact Int.emod_lt_of_pos _ (by omega)
 exact⟨hn,hp,hl,h0,h1,hb,dx,hd⟩
end Go.AX
end
section
namespace Go.AX
end Go.AX
end
section
namespace Go.AX
theorem abI {n:Int}{f:Ft}(h:LX n f){j:Nat}(hj:f.at_=((j%f.set.length:Nat):Int))(now:Int):(abH f (f.at_+1) now).at_=(((j+1)%f.set.length:Nat):Int):=by
 have hl:=h.pos;simp only[abH];rw[hj,show max (((j%f.set.length:Nat):Int)+1) 0=((j%f.set.length+1:Nat):Int) from by omega,←Int.ofNat_tmod];congr 1
 rw[Nat.mod_add_mod]
structure Und (n:Int)(S:List Pl)(a0:Nat)(has:Pl)(f:Ft)(now:Int)(J:Nat)(pend:Bool):Prop where
 good:LX n f
 done:f.done=0
 set:f.set=S
 at_:f.at_=(((a0+J)%S.length:Nat):Int)
 since:f.since≤now
 seen:∀i,1≤i→i≤J→(i<J∨pend=false)→S[(a0+i)%S.length]! ≠ has
theorem Und.ask {n:Int}{S:List Pl}{a0:Nat}{has:Pl}{f:Ft}{now abJ:Int}{J:Nat}(u:Und n S a0 has f now J false)(dx:gF abJ):Und n S a0 has (abH f (f.at_+1) abJ) abJ (J+1) true:=by
 have hs:=u.set;refine⟨Ud u.good.n u.good.pos u.good.len u.good.body u.good.done dx,u.done,u.set,?_,Int.le_refl _,fun i h1 h2 h3=>u.seen i h1 (by rcases h3 with h3|h3;(omega);(cases h3)) (.inr rfl)⟩;have:=abI u.good (j:=a0+J) (by rw[u.at_,hs]) abJ;rw[this,hs];rfl
theorem Und.passed {n:Int}{S:List Pl}{a0:Nat}{has:Pl}{f:Ft}{now:Int}{J:Nat}(u:Und n S a0 has f now J true)(hne:(ady f).to≠has):Und n S a0 has f now J false:=by
 refine⟨u.good,u.done,u.set,u.at_,u.since,fun i h1 h2 h3=>?_⟩;by_cases c:i<J
 ·exact u.seen i h1 h2 (.inl c)
 have e:i=J:=by omega
 subst e;intro hx;apply hne;simp only[ady,u.set,u.at_,Int.toNat_natCast];exact hx
structure Cp where
 l:Lg
 from_:Pl
 to:Pl
 phase:Int
 n:Int
 none:List Pl
 body:List UInt8
 born:Int
 since:Int
deriving DecidableEq
def Cp.c (x:Cp):List PV:=[uu x.l.id,ii x.l.w,ii x.l.a,cB x.l.af,ii x.l.closed,uu x.l.last,ii x.from_.node,uu x.from_.aI,ii x.to.node,uu x.to.aI,ii x.phase,uu x.n,ax x.none,Cn x.body,uu x.born,uu x.since]
def Cp.v (x:Cp)(no:AV):List AV:=[.pv (uu x.l.id),.pv (ii x.l.w),.pv (ii x.l.a),.pv (cB x.l.af),.pv (ii x.l.closed),.pv (uu x.l.last),.pv (ii x.from_.node),.pv (uu x.from_.aI),.pv (ii x.to.node),.pv (uu x.to.aI),.pv (ii x.phase),.pv (uu x.n),no,.pv (Cn x.body),.pv (uu x.born),.pv (uu x.since)]
def zD (l:List Pl)(from_ to:Pl):Bool:=l.any fun p=>p.node==to.node&&p != from_
def LY (l:Lg)(from_ to:Pl):Bool:=
 (l.af.all fun f=>!(f.ah.any (· == from_)) || !zD f.ah from_ to)&&(l.af.any fun f=>f.ah.any (· == from_))&&from_ != to
def JM (l:Lg):Bool:=d9 l&&l.closed==1
structure Cp.sm (c:Cp):Prop where
 h1:c.none.length≤8796093022208
 h2:c.body.length≤140737488355328
 h3:c.l.af.length≤4398046511104
 h4:c.l.ok
def Cp.z:List AV:=[.pv (uu 0),.pv (ii 0),.pv (ii 0),.pv fQ,.pv (ii 0),.pv (uu 0),.pv (ii 0),.pv (uu 0),.pv (ii 0),.pv (uu 0),.pv (ii 0),.pv (uu 0),.pv fQ,.pv fQ,.pv (uu 0),.pv (uu 0)]
def kE (l:Lg)(from_:Pl)(behind:Int)(k:Nat):List Int:=
 ((List.range' k ((l.last-behind).toNat-k)).map fun (i:Nat)=>behind+1+(i:Int)).filter fun n=>(setOf l.af l.w n).any (· == from_)
theorem Cr (l:Lg)(from_:Pl)(behind:Int)(k:Nat)(h:¬behind+1+(k:Int)≤l.last):kE l from_ behind k=[]:=by
 have:(l.last-behind).toNat-k=0:=by omega
 simp[kE,this]
theorem JN (l:Lg)(from_:Pl)(behind:Int)(k:Nat)(h:behind+1+(k:Int)≤l.last):kE l from_ behind k =
  if (setOf l.af l.w (behind+1+(k:Int))).any (· == from_) then (behind+1+(k:Int))::kE l from_ behind (k+1) else kE l from_ behind (k+1):=by
 obtain⟨m,hm⟩:∃m,(l.last-behind).toNat-k=m+1:=⟨(l.last-behind).toNat-k-1,by omega⟩;have hm':(l.last-behind).toNat-(k+1)=m:=by omega
 simp only[kE,hm,hm',List.range'_succ,List.map_cons,List.filter_cons]
def xX (l:Lg)(from_:Pl)(behind:Int):List Int:=
 if JM l&&decide (behind<l.last) then kE l from_ behind 0 else []
def others (c:Cp):List Pl:=(setOf c.l.af c.l.w c.n).filter fun p=>!(p==c.from_)
def abK (c:Cp)(now:Int):Cp×List Rq:=
 if c.phase=2 then ({ c with since:=now },[⟨c.to,1,c.l.id,c.n,0,c.l.last,1,c.body,[]⟩])
 else
  let none':=if (others c).all fun p=>c.none.any (· == p) then [] else c.none
  ({ c with since:=now,none:=none' },((others c).filter fun p=>!none'.any (· == p)).map fun p=>⟨p,3,c.l.id,c.n,0,0,0,[],[]⟩)
def onC (c:Cp)(now:Int):Cp×List Rq:=
 match xX c.l c.from_ c.n with
 |n::_=>abK { c with none:=[],body:=[],phase:=1,n:=n,born:=now } now
 |[]=>({ c with none:=[],body:=[],phase:=3,n:=0 },[])
theorem abL {s s':AS}(ids:List Nat)(h:match Je s.hp ids with|some fs=>abv (s.app fs) s'|none=>False)(c:Ctx)(R:Real)(a:Act)(w:World)(g:bG c R s a w):∃R',bG c R' s' a w:=by
 split at h
 ·rename_i fs hfs;obtain⟨g1,_⟩:=ku g (fun _ _ h=>h) _ _ hfs;exact aH h c R a w g1
 exact h.elim
theorem XQ {l:Lg}{from_ to:Pl}(k:Nat)(h:k<l.af.length)(h1:(l.af[k].ah.any (· == from_))=true)(h2:zD l.af[k].ah from_ to=true):LY l from_ to=false:=by
 have:(l.af.all fun f=>!(f.ah.any (· == from_)) || !zD f.ah from_ to)=false:=by
  rw[List.all_eq_false];exact⟨l.af[k],List.getElem_mem h,by simp[h1,h2]⟩
 simp[LY,this]
theorem Cs {l:Lg}{from_:Pl}{behind:Int}{k:Nat}{n:Int}(h:n∈kE l from_ behind k):behind<n∧n≤l.last∧(setOf l.af l.w n).any (· == from_)=true:=by
 unfold kE at h;rw[List.mem_filter,List.mem_map] at h;obtain⟨⟨i,hi,rfl⟩,h2⟩:=h;rw[List.mem_range'_1] at hi;exact⟨by omega,by omega,h2⟩
theorem LZ {l:Lg}(hcl:JM l=true):l.last≤8∧d9 l=true:=by
 unfold JM at hcl;simp only[Bool.and_eq_true,beq_iff_eq] at hcl;refine⟨?_,hcl.1⟩;have h8:=hcl.1;unfold d9 at h8;simp only[Bool.and_eq_true,decide_eq_true_eq] at h8;have:=h8.2.2.2.2.2;omega
theorem L6 {l:Lg}{from_:Pl}{behind:Int}{n:Int}(h:n∈xX l from_ behind):behind<n∧n≤l.last∧l.last≤8∧(setOf l.af l.w n).any (· == from_)=true:=by
 unfold xX at h;split at h
 ·rename_i hc;simp only[Bool.and_eq_true] at hc;obtain⟨h1,h2,h3⟩:=Cs h;exact⟨h1,h2,(LZ hc.1).1,h3⟩
 simp at h
def takeC (c:Cp)(now:Int)(r:Rs):Cp×List Rq:=
 if r.bP != c.l.id||(r.n != c.n||r.au != 0) then (c,[])
 else if c.phase==1&&(r.kind==3&&(others c).any (· == r.from_)) then
  if r.code==0 then abK { c with phase:=2,body:=r.body } now
  else if r.code==3 then (if c.none.any (· == r.from_) then c else { c with none:=c.none++[r.from_] },[])
  else (c,[])
 else if c.phase==2&&(r.kind==1&&r.from_.node==c.to.node) then
  if r.code==0&&r.from_==c.to then onC c now
  else if r.code==4||(r.code==2&&r.from_==c.to) then ({ c with phase:=4 },[])
  else (c,[])
 else (c,[])
def oth (l:Lg)(from_:Pl)(n:Int):List Pl:=(setOf l.af l.w n).filter fun p=>!(p==from_)
def EZ (l:Lg)(n:Int)(p:Pl):Rq:=⟨p,3,l.id,n,0,0,0,[],[]⟩
def Pj (l:Lg)(to:Pl)(n:Int)(b:List UInt8):Rq:=⟨to,1,l.id,n,0,l.last,1,b,[]⟩
theorem E5 (l:List Pl):(l.filter fun p=>!([]:List Pl).any (· == p))=l:=by simp
theorem XR {c:Cp}{n:Int}{r:List Int}(h:xX c.l c.from_ c.n=n::r)(now:Int) :
  onC c now=(⟨c.l,c.from_,c.to,1,n,[],[],now,now⟩,(oth c.l c.from_ n).map (EZ c.l n)):=by
 unfold onC;rw[h];simp only[abK];rw[if_neg (by omega)];simp only[ite_self,E5];rfl
theorem abM {c:Cp}(h:xX c.l c.from_ c.n=[])(now:Int):onC c now=(⟨c.l,c.from_,c.to,3,0,[],[],c.born,c.since⟩,[]):=by
 unfold onC;rw[h]
theorem JO {l:Lg}{f:Pl}:∀(m k:Nat) {b n:Int} {r:List Int},(l.last-b).toNat-k=m→kE l f b k=n::r→b<n∧n≤l.last∧kE l f n 0=r:=by
 intro m;induction m with
 | zero=>
   intro k b n r hm h;rw[Cr l f b k (by omega)] at h;cases h
 | succ m ih=>
   intro k b n r hm h;rw[JN l f b k (by omega)] at h;split at h
   ·rename_i hp;simp only[List.cons.injEq] at h;obtain⟨rfl,rfl⟩:=h;refine⟨by omega,by omega,?_⟩;unfold kE;congr 1
    apply List.ext_getElem
    ·simp only[List.length_map,List.length_range'];omega
    intro i h1 h2;simp only[List.getElem_map,List.getElem_range'];omega
   exact ih (k+1) (by omega) h
theorem Ue {l:Lg}{f:Pl}{b n:Int}{r:List Int}(h:xX l f b=n::r):xX l f n=r:=by
 unfold xX at h;split at h
 ·rename_i hc;simp only[Bool.and_eq_true,decide_eq_true_eq] at hc;obtain⟨h1,h2,h3⟩:=JO _ 0 rfl h;unfold xX;split
  ·exact h3
  rename_i hn;simp only[Bool.and_eq_true,decide_eq_true_eq] at hn;have:¬n<l.last:=fun hlt=>hn ⟨hc.1,hlt⟩
  rw[Cr l f n 0 (by omega)] at h3;exact h3
 cases h
def Ct (n:Int):List UInt8:=[101,UInt8.ofNat (48+(n%10).toNat)]
def Pk (l:Lg)(lost fresh:Pl)(has:List ByteArray)(r:Rq):Rs×List ByteArray:=
 if r.to==fresh&&r.kind==1 then (⟨r.to,r.kind,0,r.bP,r.n,r.au,0,[]⟩,if decide (r.n<has.length) then has.set r.n.toNat ⟨r.body.toArray⟩ else has)
 else if r.to==lost||r.to==fresh then (⟨r.to,r.kind,4,r.bP,r.n,r.au,0,[]⟩,has)
 else if r.kind==3&&(setOf l.af l.w r.n).any (· == r.to) then (⟨r.to,r.kind,0,r.bP,r.n,r.au,0,Ct r.n⟩,has)
 else (⟨r.to,r.kind,3,r.bP,r.n,r.au,0,[]⟩,has)
theorem getElem!_mem' {l:List Pl}(h:0<l.length)(k:Nat):l[k%l.length]! ∈ l:=by
 rw[getElem!_pos l _ (Nat.mod_lt _ h)];exact List.getElem_mem _
theorem Pm {l:Lg}{n:Int}{p:Pl}(h:p∈setOf l.af l.w n):∃f∈l.af,(∀q∈setOf l.af l.w n,q∈f.ah):=by
 unfold setOf at h ⊢;split at h
 ·simp at h
 rename_i f hf;refine⟨f,(mM _ _ _ hf).1,?_⟩;intro q hq;split at hq
 ·rename_i hw;simp only[fF,List.mem_map] at hq;obtain⟨i,_,rfl⟩:=hq;exact getElem!_mem' (by omega) _
 simp at hq
theorem abN {l:Lg}{f t:Pl}(hF:LY l f t=true){n:Int}(hf:(setOf l.af l.w n).any (· == f)=true){p:Pl}(hp:p∈setOf l.af l.w n)(hne:p≠f):p≠t:=by
 rintro rfl
 obtain⟨g,hg,hall⟩:=Pm hp;obtain⟨q,hq,e⟩:=List.any_eq_true.1 hf;obtain rfl:q=f:=by simpa using e
 have h1:g.ah.any (· == q)=true:=List.any_eq_true.2 ⟨q,hall q hq,by simp⟩;have h2:zD g.ah q p=true:=List.any_eq_true.2 ⟨p,hall p hp,by simp[hne]⟩;obtain⟨i,hi,rfl⟩:=List.getElem_of_mem hg;rw[XQ i hi h1 h2] at hF;cases hF
theorem abO {l:Lg}(h:d9 l=true)(hw:l.w≠1){n:Int}(hn:1≤n)(f:Pl):∃p r,oth l f n=p::r:=by
 obtain⟨hlen,hw1,RD⟩:=Uc h hn;have hw2:2≤l.w:=by omega
 cases ho:oth l f n with
 |cons p r=>exact⟨p,r,rfl⟩
 | nil=>
   exfalso;have hall:∀x∈setOf l.af l.w n,x=f:=by
    intro x hx;have:=List.filter_eq_nil_iff.1 ho x hx;simpa using this
   simp only[d9,Bool.and_eq_true,dI,decide_eq_true_eq] at h;obtain⟨_,_,_,a6,_⟩:=h;obtain⟨g,hg,hm⟩:=EY a6 hn;obtain⟨j,hj,e⟩:=List.getElem_of_mem hm;have hgood:=((jX _ _).1 a6).2.2.2 j hj;simp only[setOf,hg] at hall;have hlw:l.w≤g.ah.length:=by
    simp only[xV] at hgood;rw[e] at hgood;exact hgood.2.2.1
   rw[if_pos ⟨by omega,hlw⟩] at hall;obtain⟨k,hk⟩:∃k,k=((n-g.first)%g.ah.length).toNat:=⟨_,rfl⟩;rw[←hk] at hall;have hpos:0<g.ah.length:=by omega
   have h0:=hall (g.ah[(k+0)%g.ah.length]!) (List.mem_map.2 ⟨0,by simp;omega,rfl⟩);have h1:=hall (g.ah[(k+1)%g.ah.length]!) (List.mem_map.2 ⟨1,by simp;omega,rfl⟩);rw[getElem!_pos g.ah _ (Nat.mod_lt _ hpos)] at h0 h1;have hnd:(g.ah.map (·.node)).Nodup:=by
    simp only[xV] at hgood;rw[e] at hgood;exact hgood.2.2.2.2.2
   have agM:=Nat.mod_lt (k+0) hpos;have hlt1:=Nat.mod_lt (k+1) hpos;have hne:(k+0)%g.ah.length≠(k+1)%g.ah.length:=by
    rw[Nat.add_zero,mod_succ k _ hpos];split<;>omega
   rcases Nat.lt_or_gt_of_ne hne with hlt|hlt
   ·have:=List.pairwise_iff_getElem.1 hnd _ _ (by simpa using agM) (by simpa using hlt1) hlt;simp only[List.getElem_map,h0,h1,ne_eq,not_true_eq_false] at this
   have:=List.pairwise_iff_getElem.1 hnd _ _ (by simpa using hlt1) (by simpa using agM) hlt;simp only[List.getElem_map,h0,h1,ne_eq,not_true_eq_false] at this
inductive o8 (l:Lg)(f t:Pl)(now:Int):Nat→Cp→List Rq→Prop
 |get (m:Int) (R:List Int) (hR:xX l f m=R) (hm:m∈xX l f 0):o8 l f t now (2*R.length+2) ⟨l,f,t,1,m,[],[],now,now⟩ ((oth l f m).map (EZ l m))
 |add (m:Int) (R:List Int) (b:List UInt8) (hb:b.length=2) (hR:xX l f m=R) (hm:m∈xX l f 0):o8 l f t now (2*R.length+1) ⟨l,f,t,2,m,[],b,now,now⟩ [Pj l t m b]
 |done (born since:Int):o8 l f t now 0 ⟨l,f,t,3,0,[],[],born,since⟩ []
theorem o8.zero {l:Lg}{f t:Pl}{now:Int}{c:Cp}{q:List Rq}(h:o8 l f t now 0 c q):c.phase=3∧q=[]:=by
 generalize hk:0=k at h;cases h with
 |get=>omega
 |add=>omega
 |done=>exact⟨rfl,rfl⟩
theorem o8.step {l:Lg}{f t:Pl}{now:Int}(hmay:d9 l=true)(hF:LY l f t=true)(hw:l.w≠1){k:Nat}{c:Cp}{q:List Rq}(h:o8 l f t now (k+1) c q)(has:List ByteArray) :
  ∃q0 r,q=q0::r∧(c.phase=1∨c.phase=2)∧(Pk l f t has q0).1.body.length≤2∧q0.body.length≤2∧(0≤q0.n∧q0.n≤8)∧o8 l f t now k (takeC c now (Pk l f t has q0).1).1 (takeC c now (Pk l f t has q0).1).2:=by
 have hft:f≠t:=by
  simp only[LY,Bool.and_eq_true,bne_iff_ne] at hF;exact hF.2
 generalize hk:k+1=k1 at h;cases h with
 | get m R hR hm=>
   have hmm:=L6 hm;obtain⟨p,r,hp⟩:=abO hmay hw (n:=m) (by omega) f;have hpm:p∈oth l f m:=by rw[hp];simp
   have XT:=hpm;simp only[oth,List.mem_filter,Bool.not_eq_true',beq_eq_false_iff_ne] at XT;have hpt:=abN hF hmm.2.2.2 XT.1 XT.2;have XU:Pk l f t has (EZ l m p)=(⟨p,3,0,l.id,m,0,0,Ct m⟩,has):=by
    unfold Pk;rw[if_neg (by simp[EZ]),if_neg (by simp[EZ,XT.2,hpt]),if_pos]
    ·rfl
    simp only[Bool.and_eq_true];exact⟨by simp[EZ],List.any_eq_true.2 ⟨p,XT.1,by simp[EZ]⟩⟩
   refine⟨EZ l m p,r.map (EZ l m),by rw[hp];rfl,.inl rfl,by rw[XU];simp[Ct],by simp[EZ],by simp only[EZ];omega,?_⟩;rw[XU];have abP:(others ⟨l,f,t,1,m,[],[],now,now⟩).any (· == p)=true:=List.any_eq_true.2 ⟨p,hpm,by simp⟩;have XV:takeC ⟨l,f,t,1,m,[],[],now,now⟩ now ⟨p,3,0,l.id,m,0,0,Ct m⟩=(⟨l,f,t,2,m,[],Ct m,now,now⟩,[Pj l t m (Ct m)]):=by
    unfold takeC;rw[if_neg (by simp),if_pos (by simp only[abP];simp),if_pos (by simp)];unfold abK;rw[if_pos rfl];rfl
   rw[XV];obtain rfl:k=2*R.length+1:=by omega
   exact o8.add m R (Ct m) (by simp[Ct]) hR hm
 | add m R b hb hR hm=>
   have hmm:=L6 hm;have XU:(Pk l f t has (Pj l t m b)).1=⟨t,1,0,l.id,m,0,0,[]⟩:=by
    unfold Pk;rw[if_pos (by simp[Pj])];rfl
   refine⟨Pj l t m b,[],rfl,.inr rfl,by rw[XU];simp,by simp[Pj];omega,by simp only[Pj];omega,?_⟩;rw[XU];have XV:takeC ⟨l,f,t,2,m,[],b,now,now⟩ now ⟨t,1,0,l.id,m,0,0,[]⟩=onC ⟨l,f,t,2,m,[],b,now,now⟩ now:=by
    unfold takeC;rw[if_neg (by simp),if_neg (by simp),if_pos (by simp),if_pos (by simp)]
   rw[XV];obtain rfl:k=2*R.length:=by omega
   cases R with
   | nil=>
     rw[abM (c:=⟨l,f,t,2,m,[],b,now,now⟩) hR];exact o8.done now now
   | cons n r=>
     rw[XR (c:=⟨l,f,t,2,m,[],b,now,now⟩) hR];exact o8.get n r (Ue hR) (by
      have h1:n∈xX l f m:=by rw[hR];simp
      unfold xX at h1 ⊢;split at h1
      ·rename_i hc;simp only[Bool.and_eq_true,decide_eq_true_eq] at hc;rw[if_pos (by simp only[Bool.and_eq_true,decide_eq_true_eq];exact⟨hc.1,by omega⟩)];obtain⟨g1,g2,g3⟩:=Cs h1;unfold kE;rw[List.mem_filter,List.mem_map];refine⟨⟨(n-0-1).toNat,?_,by omega⟩,g3⟩;rw[List.mem_range'_1];omega
      simp at h1)
 |done=>omega
def nL (set dV:List Pl):Nat→Nat
 |0=>0
 |k+1=>nL set dV k+(if h:k<set.length then (if dV.any (· == set[k]) && !(set.take k).any (· == set[k]) then 1 else 0) else 0)
def JP (set dV:List Pl):Nat:=nL set dV set.length
theorem Bd (set dV:List Pl)(k:Nat)(h:k<set.length):nL set dV (k+1)=nL set dV k+(if dV.any (· == set[k]) && !(set.take k).any (· == set[k]) then 1 else 0):=by
 rw[nL,dif_pos h]
theorem RF (set dV:List Pl)(k:Nat):nL set dV k≤k:=by
 induction k with
 |zero=>exact Nat.le_refl _
 | succ k ih=>
   rw[nL];split
   ·split<;>omega
   omega
def bI (set:List Pl)(a:Int)(from_:List Pl):Bool:=decide (a≥1)&&decide ((JP set from_:Int)≥a)
def fG (set:List Pl)(w a:Int)(from_:List Pl):Bool:=decide (w<a)||decide (w-a<(JP set from_:Int))
def nu (f:Fr)(w:Int):List (List Pl):=(List.range f.ah.length).map fun k=>fF f.ah k w.toNat
def fH (f:Fr)(w a:Int)(from_:List Pl):Bool:=
 if decide (w<1)||decide (w>(f.ah.length:Int)) then false else (nu f w).all fun s=>fG s w a from_
structure Rv where
 l:Lg
 au:Int
 phase:Int
 heard:List Pl
 sure:Int
 n:Int
 none:List Pl
 has:List Pl
 body:List UInt8
 af:List Fr
 bad:List Pl
 born:Int
 since:Int
def Rv.c (x:Rv):List PV:=[uu x.l.id,ii x.l.w,ii x.l.a,cB x.l.af,ii x.l.closed,uu x.l.last,uu x.au,ii x.phase,ax x.heard,uu x.sure,uu x.n,ax x.none,ax x.has,Cn x.body,cB x.af,ax x.bad,uu x.born,uu x.since]
def Rv.v (x:Rv)(heard none has af bad out:AV):List AV:=
 [.pv (uu x.l.id),.pv (ii x.l.w),.pv (ii x.l.a),.pv (cB x.l.af),.pv (ii x.l.closed),.pv (uu x.l.last),.pv (uu x.au),.pv (ii x.phase),heard,.pv (uu x.sure),.pv (uu x.n),none,has,.pv (Cn x.body),af,bad,.pv (uu x.born),.pv (uu x.since),out]
def aJ (x:Rv):List Pl:=setOf x.l.af x.l.w x.n
def aj (x:Rv):List Pl:=setOf x.af x.l.w x.n
def aW (x:Rv):Fr:=x.l.af[x.l.af.length-1]!
def JQ (x:Rv)(p:Pl):Rq:=⟨p,2,x.l.id,0,x.au,0,0,[],[]⟩
def jH (x:Rv)(p:Pl):Rq:=⟨p,3,x.l.id,x.n,x.au,0,0,[],[]⟩
def Cv (x:Rv)(p:Pl):Rq:=⟨p,1,x.l.id,x.n,x.au,x.sure,0,x.body,[]⟩
def jL (x:Rv)(l:List Pl):List Rq:=(l.filter fun p=>!x.heard.any (· == p)).map (JQ x)
def gN (x:Rv)(l:List Pl):List Rq:=(l.filter fun p=>x.heard.any (· == p) && !x.none.any (· == p)).map (jH x)
def bn (x:Rv)(l:List Pl):List Rq:=(l.filter fun p=>!x.has.any (· == p)).map (Cv x)
theorem fO {α β:Type}(p:α→Bool)(f:α→β)(l:List α)(k:Nat)(h:k<l.length):((l.take (k+1)).filter p).map f=if p l[k] then ((l.take k).filter p).map f++[f l[k]] else ((l.take k).filter p).map f:=by
 rw[List.take_succ_eq_append_getElem h,List.filter_append,List.map_append];cases hp:p l[k]<;>simp[hp]
theorem gD {α β:Type}(p:α→Bool)(f:α→β)(l:List α)(k:Nat):(((l.take k).filter p).map f).length≤l.length:=by
 rw[List.length_map];exact Nat.le_trans (List.length_filter_le _ _) (by rw[List.length_take];omega)
def Rv.w (x:Rv)(lf heard none has af bad out:AV):List AV:=
 [.pv (uu x.l.id),.pv (ii x.l.w),.pv (ii x.l.a),lf,.pv (ii x.l.closed),.pv (uu x.l.last),.pv (uu x.au),.pv (ii x.phase),heard,.pv (uu x.sure),.pv (uu x.n),none,has,.pv (Cn x.body),af,bad,.pv (uu x.born),.pv (uu x.since),out]
structure Rv.sm (x:Rv):Prop where
 f1:x.l.af.length≤1000∧∀f∈x.l.af,f.ah.length≤1000
 f2:x.af.length≤1000∧∀f∈x.af,f.ah.length≤1000
 h:x.heard.length≤1000000
 no:x.none.length≤1000000
 ha:x.has.length≤1000000
 ba:x.bad.length≤1000000
 bo:x.body.length≤1000000
def bQ (x:Rv)(n now:Int):Rv×List Rq:=
 let y:Rv:={ x with n:=n,none:=[],has:=[],body:=[],bad:=[] }
 if decide (n>8) then ({ y with phase:=4 },[])
 else ({ y with phase:=2,born:=now,since:=now },gN { y with phase:=2,born:=now,since:=now } (aJ { y with phase:=2,born:=now,since:=now }))
def bO (x:Rv)(now:Int):Rv×List Rq:=if bI (aj x) x.l.a x.has then bQ x (x.n+1) now else (x,[])
def lY (x:Rv)(now:Int)(p:Pl):Rv×List Rq:=if x.has.any (· == p) then (x,[]) else bO { x with has:=x.has++[p] } now
def gB (x:Rv)(now:Int)(r:Rs):Rv×List Rq:=
 if !(aW x).ah.any (· == r.from_)||x.heard.any (· == r.from_) then (x,[])
 else
  let y:Rv:={ x with heard:=x.heard++[r.from_],sure:=min (max x.sure r.sure) 8 }
  if y.phase==1&&fH (aW y) y.l.w y.l.a y.heard then bQ y (max (y.sure+1) (aW y).first) now
  else if y.phase==2&&(aJ y).any (· == r.from_) then (y,[jH y r.from_])
  else (y,[])
def aT (x:Rv)(now:Int)(r:Rs):Rv:={ x with has:=[r.from_],body:=r.body,phase:=3,born:=now,since:=now }
def ny (x:Rv)(now:Int)(r:Rs):Rv×List Rq:=
 if x.phase==2&&(r.code==0&&(aJ x).any (· == r.from_)) then
  ((bO (aT x now r) now).1,bn (aT x now r) (aj (aT x now r))++(bO (aT x now r) now).2)
 else if x.phase==2&&(r.code==3&&((aJ x).any (· == r.from_)&&(x.heard.any (· == r.from_) && !x.none.any (· == r.from_)))) then
  (if fG (aJ x) x.l.w x.l.a (x.none++[r.from_]) then { x with none:=x.none++[r.from_],phase:=4 } else { x with none:=x.none++[r.from_] },[])
 else if x.phase==3&&(r.code==0&&decide (r.body=x.body)) then lY x now r.from_
 else (x,[])
def aD (is:Pl→Bool)(b:List Pl):List Pl→List Pl
 |[]=>b
 |p::r=>aD is (if is p && !b.any (· == p) then b++[p] else b) r
def fT (x:Rv)(now:Int)(r:Rs):Rv×List Rq:=
 if r.code==0 then lY x now r.from_
 else if r.code==2 then ({ x with bad:=aD (· == r.from_) x.bad (aj x) },[])
 else if r.code==4 then ({ x with bad:=aD (fun y=>y.node==r.from_.node&&y.aI != r.from_.aI) x.bad (aj x) },[])
 else (x,[])
def bX (x:Rv)(now:Int)(r:Rs):Rv×List Rq:=
 if r.bP != x.l.id||r.au != x.au then (x,[])
 else if r.kind==2&&(r.code==0&&decide (x.phase<4)) then gB x now r
 else if r.kind==3&&r.n==x.n then ny x now r
 else if r.kind==1&&(r.n==x.n&&x.phase==3) then fT x now r
 else (x,[])
theorem XW (bs:ByteArray):∀(d i:Nat) (r:List UInt8),bs.size-i=d→ByteArray.toList.loop bs i r=r.reverse++bs.data.toList.drop i:=by
 intro d;induction d with
 | zero=>
   intro i r h;unfold ByteArray.toList.loop;have:¬i<bs.size:=by omega
   rw[if_neg this];have hd:bs.data.toList.length≤i:=by rw[Array.length_toList];show bs.size≤i;omega
   rw[List.drop_eq_nil_of_le hd,List.append_nil]
 | succ d ih=>
   intro i r h;unfold ByteArray.toList.loop;have hi:i<bs.size:=by omega
   rw[if_pos hi,ih (i+1) _ (by omega)];have hd:i<bs.data.toList.length:=by rw[Array.length_toList];exact hi
   rw[List.drop_eq_getElem_cons hd,List.reverse_cons,List.append_assoc];congr 1
   show [bs.get! i]++_=_
   have:bs.get! i=bs.data.toList[i]:=by
    show bs.data[i]! = _
    rw[getElem!_pos bs.data i hi,Array.getElem_toList]
   rw[this];rfl
theorem bsl (l:List UInt8):(⟨l.toArray⟩:ByteArray).toList=l:=by
 unfold ByteArray.toList;rw[XW _ _ 0 [] rfl];simp
theorem zF (a b:List UInt8):((⟨a.toArray⟩:ByteArray).toList==(⟨b.toArray⟩:ByteArray).toList)=decide (a=b):=by
 rw[bsl,bsl];exact Bool.beq_eq_decide_eq a b
theorem Pq (is:Pl→Bool)(l m:List Pl):∀b,aD is b (l++m)=aD is (aD is b l) m:=by
 induction l with
 |nil=>intro b;rfl
 |cons p l ih=>intro b;rw[List.cons_append,aD,aD,ih]
theorem ql (is:Pl→Bool)(b l:List Pl)(k:Nat)(h:k<l.length):aD is b (l.take (k+1))=(if is l[k] && !(aD is b (l.take k)).any (· == l[k]) then aD is b (l.take k)++[l[k]] else aD is b (l.take k)):=by
 rw[List.take_succ_eq_append_getElem h,Pq,aD,aD]
theorem jZ (is:Pl→Bool)(l:List Pl):∀b,(aD is b l).length≤b.length+l.length:=by
 induction l with
 |nil=>intro b;simp[aD]
 | cons p l ih=>
   intro b;rw[aD];refine Nat.le_trans (ih _) ?_;split<;>simp<;>omega
theorem Ii (x:Rv)(a:List Pl)(b:Int):aJ { x with heard:=a,sure:=b }=aJ x:=rfl
theorem L8 (x:Rv)(a:List Pl)(b:Int):aW { x with heard:=a,sure:=b }=aW x:=rfl
theorem Uf (x:Rv)(a:List Pl)(b:Int):jH { x with heard:=a,sure:=b }=jH x:=rfl
theorem Cw (x:Rv)(a:List Pl):aj { x with has:=a }=aj x:=rfl
section
variable {x:Rv}{now:Int}{r:Rs}
theorem xY (h1:(aW x).ah.any (· == r.from_)=false):gB x now r=(x,[]):=by
 simp only[gB,h1,Bool.not_false,Bool.true_or,↓reduceIte]
theorem xZ (h1:(aW x).ah.any (· == r.from_)=true)(h2:x.heard.any (· == r.from_)=true):gB x now r=(x,[]):=by
 simp only[gB,h1,h2,Bool.or_true,↓reduceIte]
section
variable (h1:(aW x).ah.any (· == r.from_)=true)(h2:x.heard.any (· == r.from_)=false)
include h1 h2
theorem Ij (p1:(x.phase==1)=false)(p2:(x.phase==2)=false):gB x now r=({ x with heard:=x.heard++[r.from_],sure:=min (max x.sure r.sure) 8 },[]):=by
 simp only[gB,h1,h2,p1,p2,Bool.not_true,Bool.or_self,Bool.false_and,Bool.false_eq_true,↓reduceIte]
theorem Ik (p1:(x.phase==1)=false)(p2:(x.phase==2)=true)(h3:(aJ x).any (· == r.from_)=false):gB x now r=({ x with heard:=x.heard++[r.from_],sure:=min (max x.sure r.sure) 8 },[]):=by
 simp only[gB,h1,h2,p1,p2,Ii,h3,Bool.not_true,Bool.or_self,Bool.false_and,Bool.true_and,Bool.false_eq_true,↓reduceIte]
theorem Il (p1:(x.phase==1)=false)(p2:(x.phase==2)=true)(h3:(aJ x).any (· == r.from_)=true):gB x now r=({ x with heard:=x.heard++[r.from_],sure:=min (max x.sure r.sure) 8 },[jH x r.from_]):=by
 simp only[gB,h1,h2,p1,p2,Ii,Uf,h3,Bool.not_true,Bool.or_self,Bool.false_and,Bool.true_and,Bool.false_eq_true,↓reduceIte]
theorem Im (p1:(x.phase==1)=true)(p2:(x.phase==2)=false)(h3:fH (aW x) x.l.w x.l.a (x.heard++[r.from_])=false):gB x now r=({ x with heard:=x.heard++[r.from_],sure:=min (max x.sure r.sure) 8 },[]):=by
 simp only[gB,h1,h2,p1,p2,L8,h3,Bool.not_true,Bool.or_self,Bool.false_and,Bool.true_and,Bool.false_eq_true,↓reduceIte]
theorem Io (p1:(x.phase==1)=true)(h3:fH (aW x) x.l.w x.l.a (x.heard++[r.from_])=true):gB x now r=bQ { x with heard:=x.heard++[r.from_],sure:=min (max x.sure r.sure) 8 } (max (min (max x.sure r.sure) 8+1) (aW x).first) now:=by
 simp only[gB,h1,h2,p1,L8,h3,Bool.not_true,Bool.or_self,Bool.true_and,Bool.false_eq_true,↓reduceIte]
end
theorem wE {x:Rv}{n now:Int}(h:8<n):(bQ x n now).2=[]:=by
 unfold bQ;rw[if_pos (by simp only[decide_eq_true_eq];omega)]
theorem iD (x:Rv)(n now:Int):(bQ x n now).1.heard=x.heard:=by unfold bQ;dsimp only;split<;>rfl
theorem jY (x:Rv)(n now:Int):(bQ x n now).1.none=[]:=by unfold bQ;dsimp only;split<;>rfl
theorem lD (x:Rv)(n now:Int):(bQ x n now).1.has=[]:=by unfold bQ;dsimp only;split<;>rfl
theorem iE (x:Rv)(n now:Int):(bQ x n now).1.af=x.af:=by unfold bQ;dsimp only;split<;>rfl
theorem lF (x:Rv)(n now:Int):(bQ x n now).1.bad=[]:=by unfold bQ;dsimp only;split<;>rfl
theorem E8 {p:Pl}(h:x.has.any (· == p)=true):lY x now p=(x,[]):=by
 simp only[lY,h,↓reduceIte]
theorem Po {p:Pl}(h:x.has.any (· == p)=false)(ha:bI (aj x) x.l.a (x.has++[p])=false):lY x now p=({ x with has:=x.has++[p] },[]):=by
 simp only[lY,bO,Cw,h,ha,Bool.false_eq_true,↓reduceIte]
theorem Pp {p:Pl}(h:x.has.any (· == p)=false)(ha:bI (aj x) x.l.a (x.has++[p])=true):lY x now p=bQ { x with has:=x.has++[p] } (x.n+1) now:=by
 simp only[lY,bO,Cw,h,ha,Bool.false_eq_true,↓reduceIte]
end
end Go.AX
namespace Go.AX
structure Rv.big (x:Rv):Prop where
 sm:x.sm
 hf:bg x.l.af
 eH:bg x.af
 h0:0<x.l.af.length
 hn:0≤x.n∧x.n≤1000
 hs:0≤x.sure
 hw:0≤x.l.w∧x.l.w≤9223372036854775807
 ha:0≤x.l.a
 hset:∀n,(setOf x.l.af x.l.w n).length≤1000
 Cx:∀n,(setOf x.af x.l.w n).length≤1000
theorem gq {a b c:Int}(h:(a==b)=true)(hc:b≠c):(a==c)=false:=by
 have:a=b:=by simpa using h
 subst this;simpa using hc
theorem rD {x:Rv}(h0:0<x.l.af.length):aW x∈x.l.af:=by
 unfold aW;rw[getElem!_pos x.l.af _ (by omega)];exact List.getElem_mem _
def pq (k node:Int)(l:List Pl):Nat→Bool
 |0=>false
 |i+1=>pq k node l i||(if h:i<l.length then ((i:Int) != k)&&l[i].node==node else false)
theorem Cy (k node:Int)(l:List Pl)(i:Nat)(h:i<l.length):pq k node l (i+1)=(pq k node l i||(((i:Int) != k)&&l[i].node==node)):=by
 rw[pq,dif_pos h]
theorem L9 (k node:Int)(l:List Pl){i j:Nat}(h:i≤j)(hc:pq k node l i=true):pq k node l j=true:=by
 induction j with
 | zero => have:i=0:=by omega
           subst this;exact hc
 | succ j ih=>
   by_cases e:i=j+1
   ·subst e;exact hc
   rw[pq,ih (by omega),Bool.true_or]
def mo (f:Fr)(old fresh:Pl):Option Fr:=
 if pq (uE (· == old) f.ah) fresh.node f.ah f.ah.length then none
 else if uE (· == old) f.ah<0 then none
 else some ⟨f.first,f.ah.set (uE (· == old) f.ah).toNat fresh⟩
def jc (f:Fr)(old:Pl):List Pl→Fr×Bool
 |[]=>(f,false)
 | p::r=>match mo f old p with
   |some g=>(g,true)
   |none=>jc f old r
theorem Ps (f:Fr)(old:Pl)(l:List Pl)(k:Nat)(h:k<l.length):jc f old (l.drop k)=match mo f old l[k] with
  |some g=>(g,true)
  |none=>jc f old (l.drop (k+1)):=by
 rw[List.drop_eq_getElem_cons h,jc]
def JR (bad kn:List Pl)(st:Fr×List Pl×Bool)(old:Pl):Fr×List Pl×Bool:=
 if bad.any (· == old) then
  (if (jc st.1 old kn).2 then ((jc st.1 old kn).1,st.2.1,true) else ((jc st.1 old kn).1,st.2.1++[old],st.2.2))
 else st
def NU (w:Int)(st:List Pl×Bool)(old:Pl):List Pl×Bool:=
 if decide ((st.1.length:Int)>w)&&decide (uE (· == old) st.1≥0) then (st.1.eraseIdx (uE (· == old) st.1).toNat,true) else st
def Ma (e:Int)(b:List Pl)(p:Pl):List Pl:=
 if decide ((b.length:Int)<(if 5<e then 5 else e)) && !(b.any fun y=>y.node==p.node) then b++[p] else b
def nO (f:Fr)(bad kn:List Pl):Fr×List Pl×Bool:=f.ah.foldl (JR bad kn) (f,[],false)
def Cz (w:Int)(x:Fr×List Pl×Bool):List Pl×Bool:=x.2.1.foldl (NU w) (x.1.ah,x.2.2)
def fit (bad known:List Pl):List Pl:=known.filter fun p=>!bad.any (· == p)
def jI (f:Fr)(w e:Int)(bad known:List Pl):Fr×Bool:=
 if (Cz w (nO f bad (fit bad known))).2 then (⟨(nO f bad (fit bad known)).1.first,(fit bad known).foldl (Ma e) (Cz w (nO f bad (fit bad known))).1⟩,true)
 else (kQ,false)
theorem nM {α β:Type}(f:β→α→β)(b:β)(l:List α)(k:Nat)(h:k<l.length):(l.take (k+1)).foldl f b=f ((l.take k).foldl f b) l[k]:=by
 rw[List.take_succ_eq_append_getElem h,List.foldl_append];rfl
theorem Ug {f g:Fr}{a b:Pl}(h:mo f a b=some g):g.ah.length=f.ah.length∧g.first=f.first:=by
 unfold mo at h;split at h
 ·cases h
 split at h
 ·cases h
 simp only[Option.some.injEq] at h;subst h;simp
theorem Iq (f:Fr)(old:Pl):∀l,(jc f old l).1.ah.length=f.ah.length∧(jc f old l).1.first=f.first
 |[]=>⟨rfl,rfl⟩
 | p::r=>by
   rw[jc];cases h:mo f old p with
   |some g=>exact Ug h
   |none=>exact Iq f old r
theorem zH (bad kn:List Pl):∀(l:List Pl) (st:Fr×List Pl×Bool),(l.foldl (JR bad kn) st).1.ah.length=st.1.ah.length∧(l.foldl (JR bad kn) st).1.first=st.1.first∧(l.foldl (JR bad kn) st).2.1.length≤st.2.1.length+l.length
 |[],st=>⟨rfl,rfl,Nat.le_refl _⟩
 | p::r,st=>by
   obtain⟨h1,h2,h3⟩:=zH bad kn r (JR bad kn st p);have h4:=Iq st.1 p kn;rw[List.foldl_cons];have h5:(JR bad kn st p).1.ah.length=st.1.ah.length∧(JR bad kn st p).1.first=st.1.first∧(JR bad kn st p).2.1.length≤st.2.1.length+1:=by
    unfold JR;split
    ·split
     ·exact⟨h4.1,h4.2,Nat.le_succ _⟩
     refine⟨h4.1,h4.2,?_⟩;simp
    exact⟨rfl,rfl,Nat.le_succ _⟩
   refine⟨h1.trans h5.1,h2.trans h5.2.1,?_⟩;simp only[List.length_cons];omega
theorem DR (w:Int):∀(l:List Pl) (st:List Pl×Bool),(l.foldl (NU w) st).1.length≤st.1.length
 |[],st=>Nat.le_refl _
 | p::r,st=>by
   rw[List.foldl_cons];refine Nat.le_trans (DR w r _) ?_;unfold NU;split
   ·exact List.length_eraseIdx_le ..
   exact Nat.le_refl _
theorem RG (e:Int):∀(l:List Pl) (b:List Pl),(l.foldl (Ma e) b).length≤b.length+l.length
 |[],b=>Nat.le_refl _
 | p::r,b=>by
   rw[List.foldl_cons];refine Nat.le_trans (RG e r _) ?_;have h:∀c:Bool,(if c=true then b++[p] else b).length≤b.length+1:=by intro c;cases c<;>simp
   have h2:(Ma e b p).length≤b.length+1:=h _;simp only[List.length_cons];omega
def fw (now since Ip:Int):Bool:=decide ((if since>now then since else now)-since≥Ip)
def jM (x:Rv)(now:Int):Rv:=if x.phase==3&&fw now x.born 9 then { x with bad:=aD (fun p=>!x.has.any (· == p)) x.bad (aj x),born:=now } else x
def gJ (x:Rv):Fr:=(eD x.af x.n).getD kQ
def jq (x:Rv):List Fr:=if (gJ x).first==x.n&&decide ((x.af.length:Int)>0) then x.af.take (x.af.length-1) else x.af
def dG (x:Rv)(known:List Pl):Fr×Bool:=jI (gJ x) x.l.w (gJ x).ah.length x.bad known
def dW (x:Rv)(known:List Pl):Rv×Bool:=
 if (dG x known).2 && !(((jq x).length:Int)==6) then ({ x with bad:=[],af:=jq x++[⟨x.n,(dG x known).1.ah⟩] },true)
 else ({ x with bad:=[] },false)
def vz (x:Rv)(now:Int):Rv×List Rq:=
 ({ x with since:=now },if x.phase==1 then jL x (aW x).ah else if x.phase==2 then gN x (aJ x) else if x.phase==3 then bn x (aj x) else [])
def dO (x:Rv)(now:Int)(known:List Pl):Rv×List Rq:=
 let y:=jM x now
 if y.phase==3&&decide ((y.bad.length:Int)>0) then
  if (dW y known).2 then
   let z:Rv:={ (dW y known).1 with phase:=3,born:=now,since:=now }
   ((bO z now).1,bn z (aj z)++(bO z now).2)
  else if fw now y.since 3 then vz (dW y known).1 now else ((dW y known).1,[])
 else if y.phase != 4&&fw now y.since 3 then vz y now else (y,[])
def pu (l:Lg)(au now:Int):Rv×List Rq×Int:=
 if !d9 l||l.closed != 0||decide (au<1)||decide (au>4611686018427387903) then (⟨⟨0,0,0,[],0,0⟩,0,0,[],0,0,[],[],[],[],[],0,0⟩,[],1)
 else (⟨l,au,1,[],0,0,[],[],[],l.af,[],now,now⟩,jL ⟨l,au,1,[],0,0,[],[],[],l.af,[],now,now⟩ (aW ⟨l,au,1,[],0,0,[],[],[],l.af,[],now,now⟩).ah,0)
structure Wt where
 n:Int
 body:List UInt8
 from_:List Pl
 born:Int
 since:Int
deriving DecidableEq,Inhabited
structure Wr where
 l:Lg
 au:Int
 next:Int
 sure:Int
 waits:List Wt
 bad:List Pl
 change:Fr
 fenced:Int
deriving DecidableEq,Inhabited
def gY (l:List Pl)(p:Pl):Bool:=l.any (· == p)
def eT (w:Wr)(n:Int):List Pl:=setOf w.l.af w.l.w n
def bH (l:List Fr):Fr:=l.getLast?.getD kQ
def fI (w:Wr)(x:Wt):Bool:=bI (eT w x.n) w.l.a x.from_&&((w.change.first==0)||decide (x.n<w.change.first))
def kK (w:Wr):Wr:={ w with sure:=((w.waits.takeWhile (fI w)).getLast?.map (·.n)).getD w.sure,waits:=w.waits.dropWhile (fI w) }
def kJ (w:Wr)(x:Wt):List Rq:=((eT w x.n).filter fun p=>!gY x.from_ p).map fun p=>⟨p,1,w.l.id,x.n,w.au,w.sure,0,x.body,[]⟩
def vB (w:Wr)(is:Pl→Bool):Wr:={ w with bad:=(bH w.l.af).ah.foldl (fun b x=>if is x && !gY b x then b++[x] else b) w.bad }
def yB (w:Wr)(p:Pl):Bool:=w.l.af.any fun f=>gY f.ah p
def Fp (l:Lg)(au:Int):Option Wr:=if d9 l&&((l.closed==0)&&dI au 1 4611686018427387903) then some ⟨l,au,1,0,[],[],kQ,0⟩ else none
def gP (w:Wr)(now:Int)(b:List UInt8):Wr×List Rq×Int:=
 if w.fenced=1 then (w,[],5)
 else if (b.length:Int)>2048 then (w,[],7)
 else if w.next>8 then (w,[],3)
 else ({ w with waits:=w.waits++[⟨w.next,b,[],now,now⟩],next:=w.next+1 },kJ w ⟨w.next,b,[],now,now⟩,0)
def qI (w:Wr)(r:Rs)(k:Nat):Wr:={ w with waits:=w.waits.modify k fun x=>{ x with from_:=x.from_++[r.from_] } }
def iT (w:Wr)(r:Rs):Wr:=
 if !(r.kind==1)||(!(r.bP==w.l.id) || !(r.au==w.au)) then w
 else if r.code=0 then (match w.waits.findIdx? fun x=>x.n==r.n with
  |none=>w
  |some k=>if yB w r.from_ && !gY (w.waits[k]!).from_ r.from_ then kK (qI w r k) else w)
 else if r.code=1 then (if yB w r.from_ then { w with fenced:=1 } else w)
 else if r.code=2 then vB w fun x=>x==r.from_
 else if r.code=4 then vB w fun x=>(x.node==r.from_.node) && !(x.aI==r.from_.aI)
 else w
def pF (now since Ip:Int):Bool:=decide ((if since>now then since else now)-since≥Ip)
def CG (w:Wr)(x:Wt):Wr:=(eT w x.n).foldl (fun w y=>if gY x.from_ y then w else vB w fun z=>z==y) w
def mq (now:Int)(st:Wr×List Rq)(i:Nat):Wr×List Rq:=
 let x:=st.1.waits[i]!
 let w:=if pF now x.born 9 then CG st.1 x else st.1
 if pF now x.since 3 then ({ w with waits:=w.waits.set i { x with since:=now } },st.2++kJ w x) else (w,st.2)
def jv (w:Wr)(now:Int):Wr×List Rq:=if w.fenced=1 then (w,[]) else (List.range w.waits.length).foldl (mq now) (w,[])
def FI (w:Wr)(e:Int)(known:List Pl):Fr×Bool:=({ (jI (bH w.l.af) w.l.w e w.bad known).1 with first:=w.sure+1 },(jI (bH w.l.af) w.l.w e w.bad known).2)
def gL (w:Wr)(e:Int)(known:List Pl):Wr×Fr×Bool:=
 if w.fenced=1∨w.change.first≠0∨w.bad=[] then (w,kQ,false)
 else if !(FI w e known).2||(decide ((w.l.af.length:Int)=6)&&decide ((FI w e known).1.first>(bH w.l.af).first)) then ({ w with bad:=[] },kQ,false)
 else ({ w with change:=(FI w e known).1 },(FI w e known).1,true)
def dX (l:List Fr)(f:Fr):List Fr:=(if (bH l).first==f.first then l.dropLast else l)++[f]
def jO (w:Wr)(ok:Bool):Wr:=kK { w with l:={ w.l with af:=if ok then dX w.l.af w.change else w.l.af },change:=kQ,bad:=[] }
def dK (w:Wr)(now:Int)(ok:Bool):Wr×List Rq:=
 if w.change.first=0 then (w,[])
 else ({ jO w ok with waits:=(jO w ok).waits.map fun x=>{ x with born:=now,since:=now } },(jO w ok).waits.flatMap (kJ (jO w ok)))
structure Lt where
 ask:Bool
 q:Rq
 r:Rs
deriving DecidableEq,Inhabited
structure Hp where
 x:Pl
 n:Int
 body:List UInt8
deriving DecidableEq,Inhabited
structure Sg where
 w:Wr
 Dv:List Fr
 ask:Fr
 taken:Int
 now:Int
 eG:List Lt
 had:List Hp
 bT:List (List UInt8)
deriving Inhabited
def rq0:Rq:=⟨⟨0,0⟩,0,0,0,0,0,0,[],[]⟩
def rs0:Rs:=⟨⟨0,0⟩,0,0,0,0,0,0,[]⟩
def PX (s:Sg)(l:List Rq):Sg:={ s with eG:=s.eG++(l.take (80-s.eG.length)).map fun q=>⟨true,q,rs0⟩ }
def Bh (q:Rq):Rs:=⟨q.to,q.kind,0,q.bP,q.n,q.au,0,[]⟩
def Sb (s:Sg)(b:List UInt8):Sg:=
 let y:=gP s.w s.now b
 if y.2.2=0 then PX { s with w:=y.1,bT:=s.bT++[b] } y.2.1 else s
def ab1 (s:Sg)(e:Int)(known:List Pl):Sg:=
 let y:=gL s.w e known
 if y.2.2 then { s with w:=y.1,ask:=y.2.1,taken:=0 } else { s with w:=y.1 }
def Sc (s:Sg):Sg:=
 if s.ask.first=0∨s.taken=0 then s
 else PX { s with w:=(dK s.w s.now (s.taken==1)).1,ask:=kQ } (dK s.w s.now (s.taken==1)).2
def Wt.c (x:Wt):List PV:=[uu x.n,Cn x.body,ax x.from_,uu x.born,uu x.since]
def rJ (l:List Wt):PV:=.sl false 5 (l.map Wt.c)
def Wr.c (w:Wr):List PV:=[uu w.l.id,ii w.l.w,ii w.l.a,cB w.l.af,ii w.l.closed,uu w.l.last,uu w.au,uu w.next,uu w.sure,rJ w.waits,ax w.bad,uu w.change.first,ax w.change.ah,ii w.fenced]
def wtA (x:Wt)(f:AV):List AV:=[.pv (uu x.n),.pv (Cn x.body),f,.pv (uu x.born),.pv (uu x.since)]
def pX (w:Wr)(F W B O:AV):List AV:=[.pv (uu w.l.id),.pv (ii w.l.w),.pv (ii w.l.a),F,.pv (ii w.l.closed),.pv (uu w.l.last),.pv (uu w.au),.pv (uu w.next),.pv (uu w.sure),W,B,.pv (uu w.change.first),.pv (ax w.change.ah),.pv (ii w.fenced),O]
structure Sq (x:Wt):Prop where
 n:gF x.n
 body:x.body.length≤100000
 from_:x.from_.length≤100000
 born:gF x.born
 since:gF x.since
structure WrB (w:Wr):Prop where
 fl:w.l.af.length≤1000
 fb:∀f∈w.l.af,f.ah.length≤1000
 fr:bg w.l.af
 wl:w.waits.length≤1000
 wx:∀x∈w.waits,Sq x
 bl:w.bad.length≤100000
 cl:w.change.ah.length≤1000
theorem pY (e:TypeId)(v st:Nat)(rows:List (List PV)):0+nU (.arr e v st rows)=v:=Nat.zero_add _
theorem p8 (e:TypeId)(v st:Nat)(pre:List (List PV))(row:List AV)(post:List (List PV)):0+nU (.gy e v st pre row post)=v:=Nat.zero_add _
def YD (H:List (Nat×aF))(b ver:Nat):AV:=
 match lk H b with
 | some (.dS v st rows)=>match Nat.beq ver v with
   |true=>.pv (.sl false st rows)
   |false=>.aO b ver
 |_=>.aO b ver
def YE (H:List (Nat×aF))(b ver st lo hi:Nat):AV:=
 match YD H b ver with
 | .pv (.sl _ st' rows)=>match Nat.beq st st' with
   |true=>.pv (.sl false st (jF rows lo hi))
   |false=>.sub b ver st lo hi
 |_=>.sub b ver st lo hi
def thC (H:List (Nat×aF)):List AV→List AV
 |[]=>[]
 |.aO b ver::r=>YD H b ver::thC H r
 |.sub b ver st lo hi::r=>YE H b ver st lo hi::thC H r
 |x::r=>x::thC H r
def thA (H:List (Nat×aF)):AV→AV
 |.agg cs=>.agg (thC H cs)
 |.aO b ver=>YD H b ver
 |x=>x
section
variable {P:Program}{c:Ctx}{R:Real}{s:AS}{a:Act}{w:World}
theorem yw (g:bG c R s a w){b ver:Nat}{u:Value}(h:ak (aV c R s.hp) w s.hp R (.aO b ver) u):ak (aV c R s.hp) w s.hp R (YD s.hp b ver) u:=by
 unfold YD;split
 ·rename_i v st rows hb;split
  ·rename_i hv;simp only[ak] at h ⊢;exact oZ (N':=aV c R s.hp) g (b:=b) (ver:=ver) (by rw[hb];simp[uq,hv]) (fun r h=>h) (fun r ho=>by rw[hb] at ho;exact ho.elim) h
  exact h
 exact h
theorem MH (g:bG c R s a w){b ver st lo hi:Nat}{u:Value}(h:ak (aV c R s.hp) w s.hp R (.sub b ver st lo hi) u):ak (aV c R s.hp) w s.hp R (YE s.hp b ver st lo hi) u:=by
 unfold YE;split
 ·rename_i nn st' rows he;split
  ·rename_i hv;have hv:=Nat.eq_of_beq_eq_true hv;subst hv;simp only[ak] at h;obtain⟨u0,h1,h2,rfl⟩:=h;have h3:ak (aV c R s.hp) w s.hp R (.aO b ver) u0:=by simp only[ak];exact h1
   have h4:=yw g h3;rw[he] at h4;simp only[ak] at h4 ⊢;exact (Rz h4 h2).1
  exact h
 exact h
theorem oC (g:bG c R s a w):∀{cs:List AV} {us:List Value},FC (ak (aV c R s.hp) w s.hp R) cs us→FC (ak (aV c R s.hp) w s.hp R) (thC s.hp cs) us
 |[],us,h=>h
 | x::r,us,h=>by
   obtain⟨v,t,e,h1,h2,h3⟩:=h;cases x with
   |aO b ver=>exact⟨v,t,e,h1,yw g h2,oC g h3⟩
   |sub b ver st lo hi=>exact⟨v,t,e,h1,MH g h2,oC g h3⟩
   |_=>exact⟨v,t,e,h1,h2,oC g h3⟩
theorem UC (g:bG c R s a w){x:AV}{u:Value}(h:ak (aV c R s.hp) w s.hp R x u):ak (aV c R s.hp) w s.hp R (thA s.hp x) u:=by
 cases x with
 | agg cs=>
   simp only[thA,ak] at h ⊢;obtain⟨vs,e,h⟩:=h;rw[bM] at h;exact⟨vs,e,by rw[bM];exact oC g h⟩
 |aO b ver=>exact yw g h
 |_=>exact h
end
theorem Sm (H:List (Nat×aF)):∀(cs:List AV),(thC H cs).length=cs.length
 |[]=>rfl
 |x::r=>by cases x<;>simp[thC,Sm H r]
def thB (H:List (Nat×aF))(box:aF):aF:=
 match box with
 |.var cells=>.var (thC H cells)
 |.nR cells=>.nR cells
 |.arr e v st rows=>.arr e v st rows
 |.dS v st rows=>.dS v st rows
 |.tr y v rest st=>.tr y v rest st
 |.gy e v st pre row post=>.gy e v st pre (thC H row) post
 |.mp kk kv es=>.mp kk kv es
 |.iM e v st j ed sd pre row post=>.iM e v st j ed sd pre row post
def PU (H:List (Nat×aF)):List (Nat×aF)→List (Nat×aF)
 |[]=>[]
 |(k,box)::r=>(k,thB H box)::PU H r
theorem YF (H:List (Nat×aF)):∀(hp:List (Nat×aF)) (x:Nat),lk (PU H hp) x=(lk hp x).map (thB H)
 |[],x=>rfl
 | (y,box)::r,x=>by
   simp only[PU,aC];split
   ·rfl
   exact YF H r x
section
variable {P:Program}{c:Ctx}{R:Real}{s:AS}{a:Act}{w:World}
theorem IK (g:bG c R s a w):bG c R ⟨s.tm,s.nx,PU s.hp s.hp⟩ a w∧∀v x,ak (aV c R s.hp) w s.hp R v x→ak (aV c R (PU s.hp s.hp)) w (PU s.hp s.hp) R v x:=by
 have hk:∀b,lk (PU s.hp s.hp) b=(lk s.hp b).map (thB s.hp):=YF s.hp s.hp;have XM:∀b r,aL R b r (lk (PU s.hp s.hp) b)↔aL R b r (lk s.hp b):=fun b r=>by
  rw[hk];cases lk s.hp b with
  |none=>exact Iff.rfl
  |some box=>cases box<;>exact Iff.rfl
 have ho:∀r,owned R (PU s.hp s.hp) r↔owned R s.hp r:=fun r=>by simp only[owned,XM]
 have hN:∀r,r<w.heap.size→aV c R (PU s.hp s.hp) r→aV c R s.hp r:=fun r _ h=>h.imp id (ho r).1
 have hw:∀r,r<w.heap.size→¬aV c R s.hp r→w.heap[r]? = w.heap[r]? :=fun _ _ _=>rfl
 have h1:∀b off v,aY R b off v (lk s.hp b)→aY R b off v (lk (PU s.hp s.hp) b):=fun b off v h=>by
  rw[hk];cases hb:lk s.hp b with
  |none=>rw[hb] at h;exact h.elim
  |some box=>rw[hb] at h;cases box<;>exact h
 have h2:∀b ver v,aU R b ver v (lk s.hp b)→aU R b ver v (lk (PU s.hp s.hp) b):=fun b ver v h=>by
  rw[hk];cases hb:lk s.hp b with
  |none=>rw[hb] at h;exact h.elim
  |some box=>rw[hb] at h;cases box<;>exact h
 have h3:∀b ver i off v,bf R b ver i off v (lk s.hp b)→bf R b ver i off v (lk (PU s.hp s.hp) b):=fun b ver i off v h=>by
  rw[hk];cases hb:lk s.hp b with
  |none=>rw[hb] at h;exact h.elim
  |some box=>rw[hb] at h;cases box<;>exact h
 have hr:=dF hN hw h1 h2 h3;refine⟨⟨fun t v hv=>?_,g.size,g.lo,g.marks.imp fun Ds hm=>hm.kept (fun _ _ _=>rfl) (fun r _ h=>(ho r).1 h),g.fixed.kept (fun _ _ _=>rfl) (fun r _ h=>(ho r).1 h),fun b box hb=>?_,fun b b' r hb hb'=>?_,fun r hr=>g.free r ((ho r).1 hr),g.jE,fun r hr=>g.iw r ((ho r).1 hr),fun v x h=>hr v x (g.kept v x h)⟩,hr⟩
 ·obtain⟨x,hx,h⟩:=g.slots t v hv;exact⟨x,hx,hr v x h⟩
 ·rw[hk] at hb;cases hl:lk s.hp b with
  |none=>rw[hl] at hb;cases hb
  | some bx=>
    rw[hl] at hb;simp only[Option.map_some,Option.some.injEq] at hb;subst hb;have hx:=g.boxes b bx hl;cases bx with
    | var cells=>
      simp only[dY] at hx;obtain⟨cur,e,ha,hc⟩:=hx;rw[bM] at hc;refine⟨cur,e,ha,bK hN hw h1 h2 h3 _ _ ?_⟩;rw[bM];exact oC g hc
    | nR cells=>
      simp only[thB,dY] at hx ⊢;obtain⟨cur,e,fr,ha,hn,hb⟩:=hx;exact⟨cur,e,fr,ha,fun h=>hn (h.imp id (ho _).1),dQ hN hw cells _ hb⟩
    | arr e ver st rows=>
      simp only[thB,dY] at hx ⊢;obtain⟨xs,ha,hb⟩:=hx;exact⟨xs,ha,aX hN hw st rows xs hb⟩
    | dS ver st rows=>
      simp only[thB,dY] at hx ⊢;exact dJ hN hw _ _ hx
    | tr y ver rest st=>
      obtain⟨k0,kh,k1,k2,k3,k4⟩:=hx;exact⟨k0,kh,k1,k2,k3,fun r hr=>k4 r (hr.imp id (ho r).1)⟩
    |mp kk kv es=>exact hx
    |iM e v st j ed sd pre row post=>exact iQ hN hw rfl rfl rfl (fun _ _=>rfl) rfl (fun vs h=>bK hN hw h1 h2 h3 _ _ h) hx
    | gy e v st pre row post=>
      obtain⟨xs,a1,a2,a3,a4,a5⟩:=hx;rw[bM] at a4;refine⟨xs,a1,aX hN hw _ _ _ a2,by rw[Sm];exact a3,bK hN hw h1 h2 h3 _ _ ?_,aX hN hw _ _ _ a5⟩;rw[bM];exact oC g a4
 exact g.inj b b' r ((XM b r).1 hb) ((XM b' r).1 hb')
theorem gu {f:FuncId}{args:List AV}{hp:List (Nat×aF)}{r:AV}{hp':List (Nat×aF)}(h:dU P f args hp r hp')(ids:List Nat){r2:AV}{hp2:List (Nat×aF)}
  (e:match Je hp' ids with|some fs=>abk (PU (fs++hp') (fs++hp')) r (fun x h=>x=r2∧h=hp2)|none=>False):dU P f args hp r2 hp2:=by
 refine⟨h.1,fun c R w dz hh ha=>(h.2 c R w dz hh ha).mono ?_⟩;rintro ex w' ⟨v,r0,mg,R',rfl,⟨e1,e2⟩,Oz,hr⟩
 rw[e1,e2] at hr;rw[e2] at Oz;split at e
 ·rename_i fs hfs;have g:bG c R' ⟨[],0,hp'⟩ { tmps:=Array.replicate c.n undef,defers:=[] } w':=
   Oz.WR (fun t v h=>by simp[lk] at h) (by simp) ⟨[],⟨fun d h=>by simp at h,rfl,by simp,fun d h=>by simp at h,fun d h=>by simp at h⟩⟩
  obtain⟨g1,m1,_⟩:=ku g (fun _ _ h=>h) _ _ hfs;obtain⟨g2,m2⟩:=IK g1;obtain⟨r',abx,R'',hQ,h1,h2⟩:=xL e g2.hap (m2 _ _ (m1 _ _ hr));exact⟨v,r',abx,R'',rfl,hQ,h1,h2⟩
 exact e.elim
end
def Md (k:Nat):List (Nat×aF)→List (Nat×aF)
 |[]=>[]
 | (x,b)::r=>match Nat.beq x k with
   |true=>Md k r
   |false=>(x,b)::Md k r
def ddp:List (Nat×aF)→List (Nat×aF)
 |[]=>[]
 |(k,b)::r=>(k,b)::Md k (ddp r)
theorem Fa (k:Nat):∀(l:List (Nat×aF)) (t:Nat),t≠k→lk (Md k l) t=lk l t
 |[],t,_=>rfl
 | (x,b)::r,t,h=>by
   simp only[Md];split
   ·rename_i e;have:=Nat.eq_of_beq_eq_true e;subst this;rw[aC,if_neg (fun e=>h e.symm)];exact Fa x r t h
   rw[aC,aC];split
   ·rfl
   exact Fa k r t h
theorem X4:∀(l:List (Nat×aF)) (t:Nat),lk (ddp l) t=lk l t
 |[],t=>rfl
 | (k,b)::r,t=>by
   simp only[ddp,aC];split
   ·rfl
   rename_i h;rw[Fa k _ t (fun e=>h e.symm)];exact X4 r t
def X5 (hp:List (Nat×aF))(vs:List AV)(Q:AV→List (Nat×aF)→Prop):Prop:=
 match vs with
 |[v]=>Q v (ddp hp)
 | _=>match Rf vs with
   |v=>Q v (ddp hp)
def fnI (T:Tab)(rs:List ResultVar)(Q:AV→List (Nat×aF)→Prop)(e:Exit)(s:AS):Prop:=
 match e with
 |.normal=>AB T s rs fun vs=>X5 s.hp vs Q
 |.ret=>AB T s rs fun vs=>X5 s.hp vs Q
 |_=>False
theorem zL {c:Ctx}{R:Real}{hp hp':List (Nat×aF)}{w:World}(hh:∀b,lk hp' b=lk hp b)(g:y8 c R hp w) :
  y8 c R hp' w∧∀v x,ak (aV c R hp) w hp R v x→ak (aV c R hp') w hp' R v x:=by
 have ho:∀r,owned R hp' r↔owned R hp r:=fun r=>by simp only[owned,hh]
 have hN:∀r,r<w.heap.size→aV c R hp' r→aV c R hp r:=fun r _ h=>h.imp id (ho r).1
 have hw:∀r,r<w.heap.size→¬aV c R hp r→w.heap[r]? = w.heap[r]? :=fun _ _ _=>rfl
 have h1:∀b off v,aY R b off v (lk hp b)→aY R b off v (lk hp' b):=fun b off v h=>by rw[hh];exact h
 have h2:∀b ver v,aU R b ver v (lk hp b)→aU R b ver v (lk hp' b):=fun b ver v h=>by rw[hh];exact h
 have h3:∀b ver i off v,bf R b ver i off v (lk hp b)→bf R b ver i off v (lk hp' b):=fun b ver i off v h=>by rw[hh];exact h
 have hr:=dF hN hw h1 h2 h3;obtain⟨a,ha1,xS⟩:∃a:Act,a.tmps.size=c.n∧a.defers=[]:=⟨{ tmps:=Array.replicate c.n undef,defers:=[] },by simp,rfl⟩;have gm:=g.WR (tm:=[]) (nx:=0) (a:=a) (fun t v h=>by simp[lk] at h) ha1 (by rw[xS];exact⟨[],Marks.nil⟩);exact⟨(gm.congr (tm':=[]) (hp':=hp') (fun _=>rfl) hh).hap,hr⟩
theorem Pv {c:Ctx}{R:Real}{hp:List (Nat×aF)}{w:World}(g:y8 c R hp w){vs:List AV}{us:List Value}{Q:AV→List (Nat×aF)→Prop}(h:X5 hp vs Q)
  (hv:FL (ak (aV c R hp) w hp R) vs us):∃r hp' R',Q r hp'∧y8 c R' hp' w∧ak (aV c R' hp') w hp' R' r (if hu:us.toArray.size=1 then us.toArray[0] else .tuple us.toArray):=by
 obtain⟨g',hr⟩:=zL (X4 hp) g;have hl:=hv.length;unfold X5 at h;split at h
 ·rename_i v;obtain⟨u,r,rfl,hu,hx⟩:=hv;simp only[FL] at hx;subst hx;exact⟨_,_,R,h,g',hr _ _ (by simpa using hu)⟩
 rename_i hne;have hsz:us.toArray.size≠1:=by
  intro e;simp only[List.size_toArray] at e;rw[e] at hl;match vs with
  |[v]=>exact hne v rfl
  |[]=>simp at hl
  |_::_::_=>simp at hl
 rw[dif_neg hsz];refine⟨_,_,R,h,g',hr _ _ ?_⟩;have hv':=(eF _ _ _ _ _ _).2 hv;unfold Rf;split
 ·rename_i ps hps;have:=vW hps;subst this;simp only[ak,bJ];exact⟨us.toArray,rfl,qc _ _ hv'⟩
 simp only[ak];exact⟨us.toArray,rfl,hv'⟩
section
variable {P:Program}{T:Tab}
theorem bZ (hT:bY P T)(jU:∀(c:Ctx) (R:Real) (s:AS) (a:Act) (w:World) (id:Nat) (ops:Array Oper) (K:Exit→AS→Prop) (ro:Option Nat),bG c R s a w→nN c.n ops.toList=true →
  VC P T (.region id ops true) s K→(Code.region id ops true).wpIn (W1 ro) 0 P (fun e a' w'=>∃R' s',K e s'∧bG c R' s' a' w') a w)
  {f:FuncId} {fn:Func} (hf:bR P f fn) {args:List AV} {hp:List (Nat×aF)} (hl:Nat.ble args.length fn.ntmps=true) {Q:AV→List (Nat×aF)→Prop}
  (h:WN args hp fun s=>VC P T (codeOf fn) s (fnI T fn.results.toList Q)):GC P f args hp Q:=by
 unfold WN at h;split at h
 case h_2=>exact h.elim
 rename_i WK Ox;refine⟨⟨fn,hf.func,hf.body,hf.name⟩,fun c R w dz hh hargs=>?_⟩;have hbody:fn.body=some (codeOf fn):=by
  have:=hf.body;unfold codeOf;cases hb:fn.body with
  |none=>rw[hb] at this;cases this
  |some c=>rfl
 have hl:=Nat.le_of_ble_eq_true hl;rw[eF] at hargs;have hcl:dz.size=args.length:=by have:=hargs.length;simpa using this
 let c':Ctx:={ c with n:=fn.ntmps,lo:=w.heap.size }
 have Oz:y8 c' R hp w:=⟨hh.boxes,hh.inj,hh.free,hh.jE,hh.iw,hh.kept,hh.fixed,⟨hh.lo.1,Nat.le_trans hh.lo.2.1 hh.lo.2.2,Nat.le_refl _⟩⟩;refine callsIn_wide.1 (callsIn_of_wp_marks (n:=0) hf.func hbody trivial ?_);have g:bG c' R ⟨WK,1000000000,hp⟩ { tmps:=dz++Array.replicate (fn.ntmps-dz.size) undef,defers:=[] } w:=by
  refine Oz.WR ?_ ?_ ⟨[],Marks.nil⟩
  ·intro t v hv;obtain⟨_,hp⟩:=Eo lits 0 args WK t v DC Ox hv;obtain⟨x,hx,hr⟩:=hargs.get hp;have hx':dz[t]? = some x:=by simpa using hx
   refine⟨x,?_,hr⟩;have:=size_of_getElem? hx';simp only;rw[Array.getElem?_append_left this];exact hx'
  show (dz++Array.replicate (fn.ntmps-dz.size) undef).size=fn.ntmps
  simp;omega
 refine Go.wpIn_mono (fU (c:=c') (ro:=none) hT jU (codeOf fn) ⟨fun _ h=>(by cases h),hh.fixed.nc⟩ g hf.ok h) ?_;rintro e a' WL ⟨R',s',hK,WM⟩
 obtain⟨Ds,mkD⟩:=WM.marks;obtain⟨w',aea,g',hleave⟩:=oM (c:=c') (P:=P) (fn:=fn) (Rr:=fun e w'=>∃v r hp' R',e=.returned v∧Q r hp'∧y8 c R' hp' w'∧ak (aV c R' hp') w' hp' R' r v) hh.jE.size (fun r o h=>size_of_getElem? (hh.fixed.obj r o h)) Ds a' WL WM mkD;have fin:(AB T s' fn.results.toList fun vs=>X5 s'.hp vs Q)→LeavesInM Fence.wide 0 P fn a'.tmps (fun e w'=>∃v r hp' R',e=.returned v∧Q r hp'∧y8 c R' hp' w'∧ak (aV c R' hp') w' hp' R' r v) a'.defers .returning WL:=by
  intro hK;refine hleave ?_;obtain⟨vs,us,h1,h2,h3⟩:=oL g' hT _ hK;obtain⟨r,hp',R2,h4,h5,h6⟩:=Pv g'.hap h2 h3;refine⟨_,?_,_,r,hp',R2,rfl,h4,⟨h5.boxes,h5.inj,h5.free,h5.jE,h5.iw,h5.kept,h5.fixed,⟨h5.lo.1,hh.lo.2.1,?_⟩⟩,h6⟩;rotate_left
  ·have h1:w.heap.size≤w'.heap.size:=h5.lo.2.2;exact Nat.le_trans hh.lo.2.2 h1
  have hres:results fn a'.tmps=(fn.results.mapM (En P a'.tmps) >>= fun vs=>pure (if h:vs.size=1 then vs[0] else .tuple vs)):=by
   unfold results;congr 2
  have hm:(fn.results.mapM (En P a'.tmps)).run P w'=.ok us.toArray w':=by
   rw[Array.mapM_eq_mapM_toList,Sem.run_map,h1];rfl
  rw[hres];simp only[Sem.run_bind,hm,Result.andThen_ok,Sem.run_pure]
 cases e with
 |normal=>exact fin hK
 |ret=>exact fin hK
 |exit i=>exact hK.elim
 |goto l=>exact hK.elim
 |panic ch=>exact hK.elim
 |outgrown=>exact hK.elim
end
section
variable {P:Program}{c:Ctx}{R:Real}{s:AS}{a:Act}{w:World}
theorem bG.cut (g:bG c R s a w){b:Nat}{e:TypeId}{ver st:Nat}{rows:List (List PV)}(hb':lk s.hp b=some (.arr e ver st rows)){m:Nat}(hm0:m≤rows.length) :
  bG c R (s.app [(b,.arr e (ver+1) st (rows.take m))]) a w∧ak (aV c R ([(b,.arr e (ver+1) st (rows.take m))]++s.hp)) w ([(b,.arr e (ver+1) st (rows.take m))]++s.hp) R (.aO b (ver+1)) (je st 0 m (dH R b rows.length)):=by
 have hR:∀b',b'≠b→R.blk b'=R.blk b'∧R.nil b'=R.nil b'∧R.cap b'=R.cap b':=fun _ _=>⟨rfl,rfl,rfl⟩
 have hlen:(rows.take m).length=m:=by simp;omega
 have hre:=g.boxes b _ hb';have hown2:∃ys,w.ownsRow 0 e st (dH R b (rows.take m).length) (rows.take m).length ys∧cK (aV c R s.hp) w st (rows.take m) ys:=by
  cases hn:R.nil b with
  | true=>
    have:=qj (g.boxes b _ hb') hn;subst this;exact⟨[],⟨by simp,.inl ⟨by simp[dH,hn],by simp⟩⟩,by simp[cK]⟩
  | false=>
    obtain⟨cur,hg,hs,hle,hm,hr,_⟩:=gQ (g.boxes b _ hb') hn;have hr2:=lN (i:=m) hr;obtain⟨t1,t2,t3⟩:=gG hr2;rw[hlen] at t1 t2;refine⟨cur.toList.take (m*st),⟨?_,.inr ⟨R.blk b,(R.cap b).1,cur,by simp[dH,hn],Nat.zero_le _,hg,?_,hm,hs,by rw[hlen]⟩⟩,t2⟩
    ·rw[List.length_take,hlen];omega
    rw[hlen];omega
 obtain⟨ys,ho,hr⟩:=hown2;obtain⟨g2,hr2⟩:=g.sj (b:=b) (e:=e) (ver:=ver+1) (st:=st) (rows:=rows.take m) (R':=R) (.inr ⟨_,_,_,_,hb',by omega⟩) hR (mr.refl _ w)
  (fun hn=>.inl (by rw[hb'];exact⟨hn,rfl⟩)) ho hr
 refine⟨g2,?_⟩;have:je st 0 m (dH R b rows.length)=dH R b (rows.take m).length:=by
  rw[hlen];unfold dH;split
  ·rfl
  simp only[je,Nat.sub_zero,Nat.zero_mul];split<;>rfl
 rw[this];exact hr2
theorem Sn {f:FuncId}{args:List AV}{hp:List (Nat×aF)}{b:Nat}{e:TypeId}{ver st m:Nat}{rows:List (List PV)}{rest:List (Nat×aF)}
  (h:dU P f args hp (.sub b ver st 0 m) ((b,.arr e ver st rows)::rest)) (hm:m≤rows.length):dU P f args hp (.aO b (ver+1)) ((b,.arr e (ver+1) st (rows.take m))::rest):=by
 refine⟨h.1,fun c R w dz hh ha=>(h.2 c R w dz hh ha).mono ?_⟩;rintro ex w' ⟨v,r0,mg,R',rfl,⟨e1,e2⟩,Oz,hr⟩
 rw[e1,e2] at hr;rw[e2] at Oz;have g:bG c R' ⟨[],0,(b,.arr e ver st rows)::rest⟩ { tmps:=Array.replicate c.n undef,defers:=[] } w':=
  Oz.WR (fun t v h=>by simp[lk] at h) (by simp) ⟨[],⟨fun d h=>by simp at h,rfl,by simp,fun d h=>by simp at h,fun d h=>by simp at h⟩⟩
 have hb:lk ((b,aF.arr e ver st rows)::rest) b=some (.arr e ver st rows):=by rw[aC,if_pos rfl]
 obtain⟨g1,h1⟩:=g.cut hb hm;simp only[ak,hb,aU] at hr;obtain⟨u,⟨_,_,hu⟩,_,rfl⟩:=hr;rw[hu (by trivial)];have hc:∀k,lk ((b,aF.arr e (ver+1) st (rows.take m))::rest) k=lk ([(b,.arr e (ver+1) st (rows.take m))]++(b,aF.arr e ver st rows)::rest) k:=by
  intro k;simp only[List.cons_append,List.nil_append,aC];split<;>rfl
 obtain⟨g2,m2⟩:=zL hc g1.hap;exact⟨_,_,_,R',rfl,⟨rfl,rfl⟩,g2,m2 _ _ h1⟩
end
section
variable {P:Program}{c:Ctx}{R:Real}{s:AS}{a:Act}{w:World}
theorem YG {f:FuncId}{args:List AV}{hp:List (Nat×aF)}{b:Nat}{e:TypeId}{ver st:Nat}{rows:List (List PV)}{rest:List (Nat×aF)}
  (h:dU P f args hp (.aO b ver) ((b,.arr e ver st rows)::rest)):dU P f args hp (.aO b (ver+1)) ((b,.arr e (ver+1) st rows)::rest):=by
 refine⟨h.1,fun c R w dz hh ha=>(h.2 c R w dz hh ha).mono ?_⟩;rintro ex w' ⟨v,r0,mg,R',rfl,⟨e1,e2⟩,Oz,hr⟩
 rw[e1,e2] at hr;rw[e2] at Oz;have g:bG c R' ⟨[],0,(b,.arr e ver st rows)::rest⟩ { tmps:=Array.replicate c.n undef,defers:=[] } w':=
  Oz.WR (fun t v h=>by simp[lk] at h) (by simp) ⟨[],⟨fun d h=>by simp at h,rfl,by simp,fun d h=>by simp at h,fun d h=>by simp at h⟩⟩
 have hb:lk ((b,aF.arr e ver st rows)::rest) b=some (.arr e ver st rows):=by rw[aC,if_pos rfl]
 obtain⟨g1,h1⟩:=g.cut hb (Nat.le_refl _);simp only[ak,hb,aU] at hr;obtain⟨_,_,hu⟩:=hr;rw[hu (by trivial)];have hs:je st 0 rows.length (dH R' b rows.length)=dH R' b rows.length:=by
  unfold dH;split
  ·rfl
  simp only[je,Nat.sub_zero,Nat.zero_mul];split<;>rfl
 rw[hs,List.take_length] at h1;rw[List.take_length] at g1;have hc:∀k,lk ((b,aF.arr e (ver+1) st rows)::rest) k=lk ([(b,.arr e (ver+1) st rows)]++(b,aF.arr e ver st rows)::rest) k:=by
  intro k;simp only[List.cons_append,List.nil_append,aC];split<;>rfl
 obtain⟨g2,m2⟩:=zL hc g1.hap;exact⟨_,_,_,R',rfl,⟨rfl,rfl⟩,g2,m2 _ _ h1⟩
end
def fuC (b:Nat):List AV→List AV
 |[]=>[]
 | .sub b' ver st lo hi::r=>(match Nat.beq b' b with
   |true=>.aO b ver
   |false=>.sub b' ver st lo hi)::fuC b r
 |x::r=>x::fuC b r
def acd (b n:Nat):List AV→Prop
 |[]=>True
 |.sub b' _ _ lo hi::r=>(b'=b→lo=0∧hi=n)∧acd b n r
 |_::r=>acd b n r
section
variable {P:Program}{c:Ctx}{R:Real}{s:AS}{a:Act}{w:World}
theorem YI {N:Nat→Prop}{hp:List (Nat×aF)}{b ver st:Nat}{e:TypeId}{v Ap:Nat}{rows:List (List PV)}(hb:lk hp b=some (.arr e v Ap rows)){x:Value}
  (h:ak N w hp R (.sub b ver st 0 rows.length) x):ak N w hp R (.aO b ver) x:=by
 simp only[ak,hb,aU] at h ⊢;obtain⟨u,⟨hle,hone,hv⟩,hok,rfl⟩:=h;refine⟨hle,KF _ _ _ _,fun e=>?_⟩;rw[hv e];unfold dH;split
 ·rfl
 simp only[je,Nat.sub_zero,Nat.zero_mul];split<;>rfl
theorem BA {N:Nat→Prop}{hp:List (Nat×aF)}{b:Nat}{e:TypeId}{v Ap:Nat}{rows:List (List PV)}(hb:lk hp b=some (.arr e v Ap rows)) :
  ∀{cs:List AV} {us:List Value},acd b rows.length cs→FC (ak N w hp R) cs us→FC (ak N w hp R) (fuC b cs) us
 |[],us,_,h=>h
 | x::r,us,ho,h=>by
   obtain⟨y,t,e1,h1,h2,h3⟩:=h;cases x with
   | sub b' ver st lo hi=>
     obtain⟨o1,o2⟩:=ho;refine⟨y,t,e1,h1,?_,BA hb o2 h3⟩;split
     ·rename_i uM;have uM:=Nat.eq_of_beq_eq_true uM;subst uM;obtain⟨rfl,rfl⟩:=o1 rfl;exact YI hb h2
     exact h2
   |_=>exact⟨y,t,e1,h1,h2,BA hb (by exact ho) h3⟩
theorem bG.aeW (g:bG c R s a w){k:Nat}{cells cells':List AV}(hk0:lk s.hp k=some (.var cells))(hc:∀us,FC (ak (aV c R s.hp) w s.hp R) cells us→FC (ak (aV c R s.hp) w s.hp R) cells' us) :
  bG c R ⟨s.tm,s.nx,(k,.var cells')::s.hp⟩ a w∧∀v x,ak (aV c R s.hp) w s.hp R v x→ak (aV c R ((k,aF.var cells')::s.hp)) w ((k,aF.var cells')::s.hp) R v x:=by
 have hk:∀b,b≠k→lk ((k,aF.var cells')::s.hp) b=lk s.hp b:=fun b h=>by rw[aC,if_neg (fun e=>h e.symm)]
 have hkk:lk ((k,aF.var cells')::s.hp) k=some (.var cells'):=by rw[aC,if_pos rfl]
 have XM:∀b r,aL R b r (lk ((k,aF.var cells')::s.hp) b)↔aL R b r (lk s.hp b):=fun b r=>by
  by_cases h:b=k
  ·subst h;rw[hkk,hk0];exact Iff.rfl
  rw[hk b h]
 have ho:∀r,owned R ((k,aF.var cells')::s.hp) r↔owned R s.hp r:=fun r=>by simp only[owned,XM]
 have hN:∀r,r<w.heap.size→aV c R ((k,aF.var cells')::s.hp) r→aV c R s.hp r:=fun r _ h=>h.imp id (ho r).1
 have hw:∀r,r<w.heap.size→¬aV c R s.hp r→w.heap[r]? = w.heap[r]? :=fun _ _ _=>rfl
 have h1:∀b off v,aY R b off v (lk s.hp b)→aY R b off v (lk ((k,aF.var cells')::s.hp) b):=fun b off v h=>by
  by_cases e:b=k
  ·subst e;rw[hk0] at h;rw[hkk];exact h
  rw[hk b e];exact h
 have h2:∀b ver v,aU R b ver v (lk s.hp b)→aU R b ver v (lk ((k,aF.var cells')::s.hp) b):=fun b ver v h=>by
  by_cases e:b=k
  ·subst e;rw[hk0] at h;exact h.elim
  rw[hk b e];exact h
 have h3:∀b ver i off v,bf R b ver i off v (lk s.hp b)→bf R b ver i off v (lk ((k,aF.var cells')::s.hp) b):=fun b ver i off v h=>by
  by_cases e:b=k
  ·subst e;rw[hk0] at h;exact h.elim
  rw[hk b e];exact h
 have hr:=dF hN hw h1 h2 h3;refine⟨⟨fun t v hv=>?_,g.size,g.lo,g.marks.imp fun Ds hm=>hm.kept (fun _ _ _=>rfl) (fun r _ h=>(ho r).1 h),g.fixed.kept (fun _ _ _=>rfl) (fun r _ h=>(ho r).1 h),fun b box hb=>?_,fun b b' r hb hb'=>?_,fun r hr=>g.free r ((ho r).1 hr),g.jE,fun r hr=>g.iw r ((ho r).1 hr),fun v x h=>hr v x (g.kept v x h)⟩,hr⟩
 ·obtain⟨x,hx,h⟩:=g.slots t v hv;exact⟨x,hx,hr v x h⟩
 ·by_cases e:b=k
  ·subst e;rw[hkk] at hb;simp only[Option.some.injEq] at hb;subst hb;have hx:=g.boxes b _ hk0;simp only[dY] at hx;obtain⟨cur,e,ha,hcc⟩:=hx;rw[bM] at hcc;refine⟨cur,e,ha,bK hN hw h1 h2 h3 _ _ ?_⟩;rw[bM];exact hc _ hcc
  rw[hk b e] at hb;have hx:=g.boxes b box hb;cases box with
  | var cells=>
    simp only[dY] at hx ⊢;obtain⟨cur,e,ha,hc⟩:=hx;exact⟨cur,e,ha,bK hN hw h1 h2 h3 _ _ hc⟩
  | nR cells=>
    simp only[dY] at hx ⊢;obtain⟨cur,e,fr,ha,hn,hb⟩:=hx;exact⟨cur,e,fr,ha,fun h=>hn (h.imp id (ho _).1),dQ hN hw cells _ hb⟩
  | arr e ver st rows=>
    simp only[dY] at hx ⊢;obtain⟨xs,ha,hb⟩:=hx;exact⟨xs,ha,aX hN hw st rows xs hb⟩
  | dS ver st rows=>
    simp only[dY] at hx ⊢;exact dJ hN hw _ _ hx
  | tr y ver rest st=>
    obtain⟨k0,kh,k1,k2,k3,k4⟩:=hx;exact⟨k0,kh,k1,k2,k3,fun r hr=>k4 r (hr.imp id (ho r).1)⟩
  |mp kk kv es=>exact hx
  |iM e v st j ed sd pre row post=>exact iQ hN hw rfl rfl rfl (fun _ _=>rfl) rfl (fun vs h=>bK hN hw h1 h2 h3 _ _ h) hx
  | gy e v st pre row post=>
    obtain⟨xs,a1,a2,a3,a4,a5⟩:=hx;exact⟨xs,a1,aX hN hw _ _ _ a2,a3,bK hN hw h1 h2 h3 _ _ a4,aX hN hw _ _ _ a5⟩
 exact g.inj b b' r ((XM b r).1 hb) ((XM b' r).1 hb')
theorem YJ {f:FuncId}{args:List AV}{hp:List (Nat×aF)}{r:AV}{k b:Nat}{cells:List AV}{e:TypeId}{v Ap:Nat}{rows:List (List PV)}{rest:List (Nat×aF)}
  (h:dU P f args hp r ((k,.var cells)::(b,.arr e v Ap rows)::rest)) (hkb:k≠b) (ho:acd b rows.length cells) :
  dU P f args hp r ((k,.var (fuC b cells))::(b,.arr e v Ap rows)::rest):=by
 refine⟨h.1,fun c R w dz hh ha=>(h.2 c R w dz hh ha).mono ?_⟩;rintro ex w' ⟨x,r0,mg,R',rfl,⟨e1,e2⟩,Oz,hr⟩
 rw[e1,e2] at hr;rw[e2] at Oz;have g:bG c R' ⟨[],0,(k,.var cells)::(b,.arr e v Ap rows)::rest⟩ { tmps:=Array.replicate c.n undef,defers:=[] } w':=
  Oz.WR (fun t v h=>by simp[lk] at h) (by simp) ⟨[],⟨fun d h=>by simp at h,rfl,by simp,fun d h=>by simp at h,fun d h=>by simp at h⟩⟩
 have hk0:lk ((k,aF.var cells)::(b,aF.arr e v Ap rows)::rest) k=some (.var cells):=by rw[aC,if_pos rfl]
 have hb:lk ((k,aF.var cells)::(b,aF.arr e v Ap rows)::rest) b=some (.arr e v Ap rows):=by rw[aC,if_neg hkb,aC,if_pos rfl]
 obtain⟨g1,m1⟩:=g.aeW hk0 (fun us hu=>BA hb ho hu);have hc:∀j,lk ((k,aF.var (fuC b cells))::(b,aF.arr e v Ap rows)::rest) j=lk ((k,aF.var (fuC b cells))::(k,aF.var cells)::(b,aF.arr e v Ap rows)::rest) j:=by
  intro j;simp only[aC];split
  ·rfl
  rfl
 obtain⟨g2,m2⟩:=zL hc g1.hap;exact⟨_,_,_,R',rfl,⟨rfl,rfl⟩,g2,m2 _ _ (m1 _ _ hr)⟩
end
section
variable {P:Program}{c:Ctx}{R:Real}{s:AS}{a:Act}{w:World}
theorem MF {N:Nat→Prop}:∀{ps:List PV} {vs r:List Value},FL (bJ N w) ps vs→(∀v∈vs,v.oneCell'=true)→gU N w ps (vs++r)
 |[],vs,r,h,_=>by simp only[gU]
 | p::ps,vs,r,h,h1=>by
   obtain⟨v,r',rfl,h2,h3⟩:=h;simp only[gU,List.cons_append];exact⟨v,r'++r,rfl,h1 v (by simp),h2,MF h3 fun u hu=>h1 u (by simp[hu])⟩
theorem bG.YB (g:bG c R s a w){b:Nat}{e:TypeId}{v st:Nat}{pre post:List (List PV)}{row:List AV}{ps:List PV}{fs:List (Nat×aF)}(hb:lk s.hp b=some (.gy e v st pre row post))
  (hps:GL s.hp row=some ps) (hfs:Je s.hp (fq row)=some fs) (hbf:lk fs b=none) :
  bG c R (s.app ((b,.arr e v st (pre++ps::post))::fs)) a w∧∀u x,ak (aV c R s.hp) w s.hp R u x→ak (aV c R ((b,.arr e v st (pre++ps::post))::(fs++s.hp))) w ((b,.arr e v st (pre++ps::post))::(fs++s.hp)) R u x:=by
 obtain⟨xs,k1,k2,k3,hrow,k5⟩:=g.boxes b _ hb;obtain⟨g1,m1,n1,o1⟩:=ku g (fun _ _ h=>h) _ _ hfs;have hFC:=(bM _ _ _ _ _ _).1 hrow;have hL:dh (aV c R s.hp) w s.hp R row ((xs.drop (pre.length*st)).take st):=by
  have:∀(l:List AV) (vs:List Value),dD (aV c R s.hp) w s.hp R l vs→dh (aV c R s.hp) w s.hp R l vs:=by
   intro l;induction l with
   |nil=>intro vs h;simpa only[dD,dh] using h
   | cons y l ih=>
     intro vs h;simp only[dD,dh] at h ⊢;obtain⟨z,r,e,_,h1,h2⟩:=h;exact⟨z,r,e,h1,ih _ h2⟩
  exact this _ _ hrow
 have hP:=iG g (fun _ _ h=>h) n1 row ps _ (fun b hb=>o1 b (.inr hb)) hps hL;have hb1:lk (s.app fs).hp b=some (.gy e v st pre row post):=by
  show lk (fs++s.hp) b=_
  rw[Au,hbf];exact hb
 have hl:(pre++ps::post).length=pre.length+(1+post.length):=by simp[Nat.add_comm]
 obtain⟨g2,m2⟩:=g1.Yx (bL:=.arr e v st (pre++ps::post)) hb1 (fun off v h=>h.elim) (fun ver u h=>by simpa only[aU,hl] using h) (fun ver i off u h=>h) (fun r h=>h) (fun hm hN=>by
  refine⟨xs,by rw[hl];exact k1,Bw (aX (fun r _ h=>n1 r (hN r h)) (fun _ _ _=>rfl) _ _ _ k2) ?_ ?_ (aX (fun r _ h=>n1 r (hN r h)) (fun _ _ _=>rfl) _ _ _ k5)⟩
  ·rw[jk] at hP;rw[←hP.length,hFC.length];exact k3
  have hP2:=nX (fun r _ h=>hN r h) (fun _ _ _=>rfl) _ _ hP;rw[jk] at hP2;have:=MF (r:=(xs.drop (pre.length*st)).drop st) hP2 hFC.one;rwa [List.take_append_drop] at this)
 exact⟨g2,fun u x h=>m2 u x (m1 u x h)⟩
theorem UB {s s':AS}(b:Nat){e:TypeId}{v st:Nat}{pre post:List (List PV)}{row:List AV}{ps:List PV}{fs:List (Nat×aF)}(hb:lk s.hp b=some (.gy e v st pre row post))
  (hps:GL s.hp row=some ps) (hfs:Je s.hp (fq row)=some fs) (hbf:lk fs b=none) (h:uQ ⟨s.tm,s.nx,(b,.arr e v st (pre++ps::post))::(fs++s.hp)⟩ s'):uQ s s':=
 fun c R a w g=>h c R a w (g.YB hb hps hfs hbf).1
end
section
variable {c:Ctx}{R:Real}{s:AS}{a:Act}{w:World}
end
section
variable {c:Ctx}{R:Real}{s:AS}{a:Act}{w:World}
end
def tmT (H:List (Nat×aF)):List (Nat×AV)→List (Nat×AV)
 |[]=>[]
 |(t,v)::r=>(t,thA H v)::tmT H r
theorem YK (H:List (Nat×aF)):∀(tm:List (Nat×AV)) (t:Nat),lk (tmT H tm) t=(lk tm t).map (thA H)
 |[],t=>rfl
 | (k,v)::r,t=>by
   simp only[tmT,aC];split
   ·rfl
   exact YK H r t
theorem bG.told {c:Ctx}{R:Real}{s:AS}{a:Act}{w:World}(g:bG c R s a w):bG c R ⟨tmT s.hp s.tm,s.nx,s.hp⟩ a w:=by
 refine⟨?_,g.size,g.lo,g.marks,g.fixed,g.boxes,g.inj,g.free,g.jE,g.iw,g.kept⟩;intro t v hv;rw[YK] at hv;cases h:lk s.tm t with
 |none=>rw[h] at hv;cases hv
 | some v0=>
   rw[h] at hv;simp only[Option.map_some,Option.some.injEq] at hv;subst hv;obtain⟨x,hx,hr⟩:=g.slots t v0 h;exact⟨x,hx,UC g hr⟩
section
variable {P:Program}
end
def pin (T:Tab):Tab:=
 match T with
 |x::y::r=>x::y::y::r
 |T=>T
theorem UG {P:Program}{T:Tab}(h:bY P T):bY P (pin T):=by
 intro t i hi;refine h t i ?_;unfold pin at hi;split at hi
 ·rename_i x y r;rw[aC,aC,aC] at hi;rw[aC,aC];by_cases e1:x.1=t
  ·rw[if_pos e1] at hi ⊢;exact hi
  rw[if_neg e1] at hi ⊢;by_cases e2:y.1=t
  ·rw[if_pos e2] at hi ⊢;exact hi
  rw[if_neg e2] at hi;rw[if_neg e2] at hi ⊢;exact hi
 exact hi
end Go.AX
namespace Go.AX
section
variable {c:Ctx}{R:Real}{s:AS}{a:Act}{w:World}
end
section
variable {P:Program}{c:Ctx}{R:Real}{s:AS}{a:Act}{w:World}
end
section
variable (b n:Nat)
mutual
def Uz:AV→AV
 |.pv p=>.pv p
 |.agg cs=>.agg (Bv cs)
 |.cO cs=>.cO (Bv cs)
 |.ptr x o=>.ptr x o
 | .aO x v=>match Nat.beq x b with
   |true=>.aO n 0
   |false=>.aO x v
 | .sub x v st lo hi=>match Nat.beq x b with
   |true=>.pv .junk
   |false=>.sub x v st lo hi
 | .dM x v i o=>match Nat.beq x b with
   |true=>.pv .junk
   |false=>.dM x v i o
 |.fn f a c=>.fn f (Bv a) (Bv c)
def Bv:List AV→List AV
 |[]=>[]
 |x::r=>Uz x::Bv r
end
def wR (x:Nat)(box:aF):aF:=
 match box with
 |.var cells=>.var (Bv b n cells)
 | .arr e v st rows=>match Nat.beq x b with
   |true=>.dS 1 st []
   |false=>.arr e v st rows
 |.nR cells=>.nR cells
 |.dS v st rows=>.dS v st rows
 |.tr y v rest st=>.tr y v rest st
 |.gy e v st pre row post=>.gy e v st pre (Bv b n row) post
 |.mp kk kv es=>.mp kk kv es
 |.iM e v st j ed sd pre row post=>.iM e v st j ed sd pre (Bv b n row) post
def PL:List (Nat×aF)→List (Nat×aF)
 |[]=>[]
 |(x,box)::r=>(x,wR b n x box)::PL r
end
theorem iJ {x y:Nat}(h:x≠y):Nat.beq x y=false:=by
 cases h':Nat.beq x y with
 |false=>rfl
 |true=>exact absurd (Nat.eq_of_beq_eq_true h') h
def mvM (b n:Nat)(hp:List (Nat×aF))(K:List (Nat×aF)→Prop):Prop:=
 match lk hp b with
 | some (.arr e v st rows)=>match v with
   | 0=>match lk hp n with
     |none=>K ((n,.arr e 0 st rows)::PL b n hp)
     |some _=>False
   |_=>False
 |_=>False
theorem Yw (b n:Nat):∀(hp:List (Nat×aF)) (x:Nat),lk (PL b n hp) x=(lk hp x).map (wR b n x)
 |[],x=>rfl
 | (y,box)::r,x=>by
   simp only[PL,aC];split
   ·rename_i e;subst e;rfl
   exact Yw b n r x
theorem zN (b n:Nat):∀(vs:List AV),(Bv b n vs).length=vs.length
 |[]=>rfl
 |v::r=>by simp[Bv,zN b n r]
def IB (b n:Nat)(R:Real):Real where
 blk x:=if x=n then R.blk b else R.blk x
 nil x:=if x=n then R.nil b else R.nil x
 cap x:=if x=n then R.cap b else R.cap x
 Y:=R.Y
section
variable {N:Nat→Prop}{w:World}{hp:List (Nat×aF)}{R:Real}{b n:Nat}{e:TypeId}{st:Nat}{rows:List (List PV)}
variable (hb:lk hp b=some (.arr e 0 st rows))(hn:lk hp n=none)
include hb hn
theorem rM {x:Nat}(h:x≠n):(IB b n R).blk x=R.blk x∧(IB b n R).nil x=R.nil x∧(IB b n R).cap x=R.cap x:=by simp[IB,h]
omit hn in
theorem aeR:(IB b n R).blk n=R.blk b∧(IB b n R).nil n=R.nil b∧(IB b n R).cap n=R.cap b:=by simp[IB]
theorem CS (x:Nat)(h:x≠n):lk ((n,.arr e 0 st rows)::PL b n hp) x=(lk hp x).map (wR b n x):=by
 rw[aC,if_neg (fun h'=>h h'.symm),Yw]
omit hb hn in
theorem jP {R R':Real}{x y k:Nat}(h1:R'.blk y=R.blk x)(h2:R'.nil y=R.nil x)(h3:R'.cap y=R.cap x):dH R' y k=dH R x k:=by
 simp only[dH,h1,h2,h3]
mutual
theorem Fq:∀(v:AV) (x:Value),ak N w hp R v x→ak N w ((n,.arr e 0 st rows)::PL b n hp) (IB b n R) (Uz b n v) x
 |.pv p,x,h=>by simpa only[ak,Uz] using h
 | .agg cs,x,h=>by
   simp only[ak,Uz] at h ⊢;obtain⟨vs,h1,h2⟩:=h;exact⟨vs,h1,zO cs _ h2⟩
 | .cO cs,x,h=>by
   simp only[ak,Uz] at h ⊢;obtain⟨vs,h1,h2⟩:=h;exact⟨vs,h1,zP cs _ h2⟩
 | .fn f a c,x,h=>by
   simp only[ak,Uz] at h ⊢;obtain⟨fs,cs,h1,h2,h3⟩:=h;exact⟨fs,cs,h1,zP a _ h2,zP c _ h3⟩
 | .ptr y o,x,h=>by
   simp only[ak,Uz] at h ⊢;by_cases hyn:y=n
   ·subst hyn;rw[hn] at h;exact h.elim
   rw[CS hb hn y hyn];obtain⟨e1,e2,e3⟩:=rM (R:=R) hb hn hyn;cases hy:lk hp y with
   |none=>rw[hy] at h;exact h.elim
   | some box=>
     rw[hy] at h;cases box with
     |var cells=>simpa only[Option.map_some,wR,aY,e1] using h
     |nR cells=>simpa only[Option.map_some,wR,aY,e1] using h
     |arr _ _ _ _=>exact h.elim
     |dS _ _ _=>exact h.elim
     |tr _ _ _ _=>exact h.elim
     |mp _ _ _=>exact h.elim
     |iM _ _ _ _ _ _ _ _ _=>exact h.elim
     |gy _ _ _ _ _ _=>exact h.elim
 | .aO y v,x,h=>by
   simp only[ak,Uz] at h ⊢;by_cases hyb:y=b
   ·subst hyb;rw[hb] at h;obtain⟨h1,h2,h3⟩:=h;have hv:v=0:=by omega
    subst hv;rw[show Nat.beq y y=true from Nat.beq_refl y];simp only[ak,aC,if_true];refine⟨Nat.le_refl _,h2,fun _=>?_⟩;obtain⟨e1,e2,e3⟩:=aeR (R:=R) (n:=n) hb;rw[jP e1 e2 e3];exact h3 rfl
   rw[show Nat.beq y b=false from iJ hyb];simp only[ak];by_cases hyn:y=n
   ·subst hyn;rw[hn] at h;exact h.elim
   rw[CS hb hn y hyn];obtain⟨e1,e2,e3⟩:=rM (R:=R) hb hn hyn;cases hy:lk hp y with
   |none=>rw[hy] at h;exact h.elim
   | some box=>
     rw[hy] at h;cases box with
     |var cells=>exact h.elim
     |nR cells=>exact h.elim
     | arr e' v' st' aS=>
       simp only[Option.map_some,wR,show Nat.beq y b=false from iJ hyb,aU,jP e1 e2 e3] at h ⊢;exact h
     | dS v' st' aS=>
       simp only[Option.map_some,wR,aU,jP e1 e2 e3] at h ⊢;exact h
     |tr _ _ _ _=>exact h.elim
     |mp _ _ _=>exact h.elim
     | iM _ _ _ _ _ _ _ _ _=>
       simp only[Option.map_some,wR,aU,jP e1 e2 e3,qO (zN _ _ _)] at h ⊢;exact h
     | gy _ _ _ _ _ _=>
       simp only[Option.map_some,wR,aU,jP e1 e2 e3] at h ⊢;exact h
 | .sub y v st' lo hi,x,h=>by
   simp only[Uz];by_cases hyb:y=b
   ·subst hyb;rw[show Nat.beq y y=true from Nat.beq_refl y];simp only[ak,bJ]
   rw[show Nat.beq y b=false from iJ hyb];simp only[ak] at h ⊢;obtain⟨u,h,h2,h3⟩:=h;refine⟨u,?_,h2,h3⟩;by_cases hyn:y=n
   ·subst hyn;rw[hn] at h;exact h.elim
   rw[CS hb hn y hyn];obtain⟨e1,e2,e3⟩:=rM (R:=R) hb hn hyn;cases hy:lk hp y with
   |none=>rw[hy] at h;exact h.elim
   | some box=>
     rw[hy] at h;cases box with
     |var cells=>exact h.elim
     |nR cells=>exact h.elim
     | arr e' v' st' aS=>
       simp only[Option.map_some,wR,show Nat.beq y b=false from iJ hyb,aU,jP e1 e2 e3] at h ⊢;exact h
     | dS v' st' aS=>
       simp only[Option.map_some,wR,aU,jP e1 e2 e3] at h ⊢;exact h
     |tr _ _ _ _=>exact h.elim
     |mp _ _ _=>exact h.elim
     | iM _ _ _ _ _ _ _ _ _=>
       simp only[Option.map_some,wR,aU,jP e1 e2 e3,qO (zN _ _ _)] at h ⊢;exact h
     | gy _ _ _ _ _ _=>
       simp only[Option.map_some,wR,aU,jP e1 e2 e3] at h ⊢;exact h
 | .dM y v i o,x,h=>by
   simp only[Uz];by_cases hyb:y=b
   ·subst hyb;rw[show Nat.beq y y=true from Nat.beq_refl y];simp only[ak,bJ]
   rw[show Nat.beq y b=false from iJ hyb];simp only[ak] at h ⊢;by_cases hyn:y=n
   ·subst hyn;rw[hn] at h;exact h.elim
   rw[CS hb hn y hyn];obtain⟨e1,e2,e3⟩:=rM (R:=R) hb hn hyn;cases hy:lk hp y with
   |none=>rw[hy] at h;exact h.elim
   | some box=>
     rw[hy] at h;cases box with
     |var cells=>exact h.elim
     |nR cells=>exact h.elim
     | arr e' v' st' aS=>
       simp only[Option.map_some,wR,show Nat.beq y b=false from iJ hyb,bf,e1,e2] at h ⊢;exact h
     | dS v' st' aS=>
       simp only[Option.map_some,wR,bf,e1,e2] at h ⊢;exact h
     | tr _ _ _ _=>
       simp only[Option.map_some,wR,bf,e1,e2] at h ⊢;exact h
     | mp _ _ _=>
       simp only[Option.map_some,wR,bf,e1,e2] at h ⊢;exact h
     | iM _ _ _ _ _ _ _ _ _=>
       simp only[Option.map_some,wR,bf,e1,e2] at h ⊢;exact h
     | gy _ _ _ _ _ _=>
       simp only[Option.map_some,wR,bf,e1,e2] at h ⊢;exact h
theorem zP:∀(vs:List AV) (xs:List Value),dh N w hp R vs xs→dh N w ((n,.arr e 0 st rows)::PL b n hp) (IB b n R) (Bv b n vs) xs
 |[],xs,h=>by simpa only[dh,Bv] using h
 | v::vs,xs,h=>by
   simp only[dh,Bv] at h ⊢;obtain⟨x,r,h1,h2,h3⟩:=h;exact⟨x,r,h1,Fq v x h2,zP vs r h3⟩
theorem zO:∀(vs:List AV) (xs:List Value),dD N w hp R vs xs→dD N w ((n,.arr e 0 st rows)::PL b n hp) (IB b n R) (Bv b n vs) xs
 |[],xs,h=>by simpa only[dD,Bv] using h
 | v::vs,xs,h=>by
   simp only[dD,Bv] at h ⊢;obtain⟨x,r,h1,h0,h2,h3⟩:=h;exact⟨x,r,h1,h0,Fq v x h2,zO vs r h3⟩
end
theorem J3 (y r:Nat):aL (IB b n R) y r (lk ((n,.arr e 0 st rows)::PL b n hp) y)↔(y=n∧aL R b r (lk hp b))∨(y≠n∧y≠b∧aL R y r (lk hp y)):=by
 by_cases hyn:y=n
 ·subst hyn;obtain⟨e1,e2,e3⟩:=aeR (R:=R) (n:=y) hb;simp only[aC,if_true,aL,hb,e1,e2,true_and,not_true_eq_false,false_and,or_false,ne_eq]
 rw[CS hb hn y hyn];obtain⟨e1,e2,e3⟩:=rM (R:=R) hb hn hyn;by_cases hyb:y=b
 ·subst hyb;rw[hb];simp only[Option.map_some,wR,show Nat.beq y y=true from Nat.beq_refl y,aL,hyn,false_and,ne_eq,not_true_eq_false,and_false,or_self]
 cases hy:lk hp y with
 |none=>simp[aL,hyn]
 | some box=>
   cases box with
   |var cells=>simp[wR,aL,hyn,hyb,e1]
   |nR cells=>simp[wR,aL,hyn]
   |arr e' v' st' aS=>simp[wR,aL,hyn,hyb,e1,e2,show Nat.beq y b=false from iJ hyb]
   |dS v' st' aS=>simp[wR,aL,hyn]
   |tr _ _ _ _=>simp[wR,aL,hyn,hyb,IB]
   |gy _ _ _ _ _ _=>simp[wR,aL,hyn,hyb,e1,e2]
   |mp _ _ _=>simp[wR,aL,hyn,hyb,e1,e2]
   |iM _ _ _ _ _ _ _ _ _=>simp[wR,aL,hyn,hyb,e1,e2,e3]
theorem Mx (r:Nat):owned (IB b n R) ((n,.arr e 0 st rows)::PL b n hp) r↔owned R hp r:=by
 constructor
 ·rintro⟨y,hy⟩
  rcases (J3 hb hn y r).1 hy with ⟨_,h⟩|⟨_,_,h⟩
  ·exact⟨b,h⟩
  exact⟨y,h⟩
 rintro⟨y,hy⟩
 by_cases hyb:y=b
 ·subst hyb;exact⟨n,(J3 hb hn n r).2 (.inl ⟨rfl,hy⟩)⟩
 by_cases hyn:y=n
 ·subst hyn;rw[hn] at hy;exact hy.elim
 exact⟨y,(J3 hb hn y r).2 (.inr ⟨hyn,hyb,hy⟩)⟩
theorem aeS {c:Ctx}(hn1:1000≤n)(h:y8 c R hp w):y8 c (IB b n R) ((n,.arr e 0 st rows)::PL b n hp) w:=by
 have hown:=Mx (R:=R) hb hn;have ajh:∀r,aV c (IB b n R) ((n,.arr e 0 st rows)::PL b n hp) r↔aV c R hp r:=fun r=>by
  simp only[aV,hown]
 have ag2:aV c (IB b n R) ((n,.arr e 0 st rows)::PL b n hp)=aV c R hp:=funext fun r=>propext (ajh r)
 have aji:owned (IB b n R) ((n,.arr e 0 st rows)::PL b n hp)=owned R hp:=funext fun r=>propext (hown r)
 have hbx:=h.boxes b _ hb;refine⟨?_,?_,?_,h.jE,?_,?_,by rw[aji];exact h.fixed,h.lo⟩
 ·intro y box hy;rw[ag2];by_cases hyn:y=n
  ·subst hyn;simp only[aC,if_true,Option.some.injEq] at hy;subst hy;obtain⟨xs,h1,h2⟩:=hbx;obtain⟨e1,e2,e3⟩:=aeR (R:=R) (n:=y) hb;exact⟨xs,by rw[jP e1 e2 e3];exact h1,h2⟩
  rw[CS hb hn y hyn] at hy;obtain⟨e1,e2,e3⟩:=rM (R:=R) hb hn hyn;cases hl:lk hp y with
  |none=>rw[hl] at hy;cases hy
  | some bx=>
    rw[hl] at hy;simp only[Option.map_some,Option.some.injEq] at hy;subst hy;have hr:=h.boxes y _ hl;cases bx with
    | var cells=>
      obtain⟨cur,t,h1,h2⟩:=hr;exact⟨cur,t,by rw[e1];exact h1,zO hb hn cells _ h2⟩
    | nR cells=>
      obtain⟨cur,t,fr,h1,h2,h3⟩:=hr;exact⟨cur,t,fr,by rw[e1];exact h1,by rw[e1];exact h2,h3⟩
    | arr e' v' st' aS=>
      simp only[wR];by_cases hyb:y=b
      ·subst hyb;rw[show Nat.beq y y=true from Nat.beq_refl y];rw[hb] at hl;cases hl;simp only[dY,jP e1 e2 e3];obtain⟨xs,⟨_,h3⟩,_⟩:=hbx;unfold dH;split
       ·simp only[bJ];exact⟨none,0,0,rfl,rfl,⟨Nat.le_refl _,by omega⟩,fun _=>⟨by trivial,by trivial⟩,fun a ha=>by cases ha⟩
       rename_i hnil;rcases h3 with ⟨h3,_⟩|⟨g',cap,cur,e4,_,hg,hle,hm,_⟩
       ·simp[dH,hnil] at h3
       simp only[dH,hnil,Bool.false_eq_true,if_false,Value.slice.injEq] at e4;simp only[bJ];refine⟨_,0,(R.cap y).1,rfl,rfl,⟨Nat.zero_le _,?_⟩,fun hh=>(by cases hh),fun a ha=>.inl (by trivial)⟩;have:=e4.2.2;unfold maxLen at hm;omega
      rw[iJ hyb];obtain⟨xs,h1,h2⟩:=hr;exact⟨xs,by rw[jP e1 e2 e3];exact h1,h2⟩
    | dS v' st' aS=>
      simp only[wR,dY,jP e1 e2 e3] at hr ⊢;exact hr
    | tr y' v' rest st'=>
      simp only[wR,dY,e2] at hr ⊢;exact hr
    | mp kk kv es=>
      obtain⟨cur,clock,h1,h2,h3⟩:=hr;exact⟨cur,clock,by rw[e1];exact h1,by rw[e2];exact h2,h3⟩
    |iM e' v' st' j ed sd pre row post=>exact iQ (fun _ _ x=>x) (fun _ _ _=>rfl) e1 e2 e3 (fun _ _=>rfl) (zN _ _ _) (fun vs h=>zO hb hn row _ h) hr
    | gy e' v' st' pre row post=>
      obtain⟨xs,h1,h2,h3,h4,h5⟩:=hr;exact⟨xs,by rw[jP e1 e2 e3];exact h1,h2,by rw[zN];exact h3,zO hb hn row _ h4,h5⟩
 ·intro y y' r h1 h2;rw[J3 hb hn] at h1 h2;rcases h1 with ⟨rfl,h1⟩|⟨a1,a2,h1⟩<;>rcases h2 with ⟨rfl,h2⟩|⟨b1,b2,h2⟩
  ·rfl
  ·exact absurd (h.inj _ _ _ h1 h2).symm b2
  ·exact absurd (h.inj _ _ _ h1 h2) a2
  exact h.inj _ _ _ h1 h2
 ·intro r hr;exact h.free r ((hown r).1 hr)
 ·intro r hr;exact h.iw r ((hown r).1 hr)
 intro v x hk;have hlow:=c.hK v x hk;have hold:=h.kept v x hk;rw[ag2];have key:∀y,y<1000→y≠n:=fun y hy=>by omega
 cases v with
 | ptr y o=>
   have:=Fq (b:=b) (n:=n) hb hn _ _ hold;simpa only[Uz] using this
 | aO y v=>
   simp only[jD,Nat.blt_eq] at hlow;by_cases hyb:y=b
   ·subst hyb;simp only[ak,hb,aU] at hold;simp only[ak];rw[CS hb hn y (key y hlow),hb];simp only[Option.map_some,wR,show Nat.beq y y=true from Nat.beq_refl y,aU];exact⟨by omega,hold.2.1,fun hh=>by omega⟩
   have:=Fq (b:=b) (n:=n) hb hn _ _ hold;simpa only[Uz,iJ hyb] using this
 | dM y v i o=>
   simp only[jD,Bool.and_eq_true,Nat.blt_eq] at hlow;by_cases hyb:y=b
   ·subst hyb;simp only[ak,hb,bf] at hold;simp only[ak];rw[CS hb hn y (key y hlow.1),hb];simp only[Option.map_some,wR,show Nat.beq y y=true from Nat.beq_refl y,bf];exact⟨by omega,hold.2.1,fun hh=>by omega⟩
   have:=Fq (b:=b) (n:=n) hb hn _ _ hold;simpa only[Uz,iJ hyb] using this
 |pv p=>cases hlow
 |agg cs=>cases hlow
 |cO cs=>cases hlow
 |sub y v st lo hi=>cases hlow
 |fn f a c=>cases hlow
end
theorem nD {P:Program}{f:FuncId}{args:List AV}{hp:List (Nat×aF)}{Q:AV→List (Nat×aF)→Prop}(b n:Nat)(hn1:Nat.ble 1000 n=true)
  (h:mvM b n hp fun hp2=>GC P f (Bv b n args) hp2 Q):GC P f args hp Q:=by
 unfold mvM at h;split at h;rotate_left;cases h
 rename_i e v st rows hb;split at h;rotate_left;cases h
 split at h;rotate_left;cases h
 rename_i hn;refine⟨h.1,fun c R w dz hh hargs=>?_⟩;have hh2:=aeS hb hn (Nat.le_of_ble_eq_true hn1) hh;have hN:aV c (IB b n R) ((n,.arr e 0 st rows)::PL b n hp)=aV c R hp:=funext fun r=>propext (by simp only[aV,Mx (R:=R) hb hn])
 refine h.2 c (IB b n R) w dz hh2 ?_;rw[hN];exact zP hb hn _ _ hargs
theorem IU {set f g:List Pl}(h:∀p,p∈f→p∈g):∀k,nL set f k≤nL set g k
 |0=>Nat.le_refl _
 | k+1=>by
   have ih:=IU (set:=set) h k;simp only[nL];split
   ·rename_i hk;by_cases h1:(f.any (· == set[k]) && !(set.take k).any (· == set[k]))=true
    ·have h2:(g.any (· == set[k]) && !(set.take k).any (· == set[k]))=true:=by
      simp only[Bool.and_eq_true,List.any_eq_true,beq_iff_eq] at h1 ⊢;obtain⟨⟨x,hx,e⟩,h3⟩:=h1;exact⟨⟨x,h x hx,e⟩,h3⟩
     rw[if_pos h1,if_pos h2];omega
    rw[if_neg h1];omega
   omega
theorem pI {set f g:List Pl}{a:Int}(h:∀p,p∈f→p∈g)(ha:bI set a f=true):bI set a g=true:=by
 simp only[bI,Bool.and_eq_true,decide_eq_true_eq] at ha ⊢;have:=IU (set:=set) h set.length;unfold JP at *;omega
theorem IV {q:Fr→Bool}{f:Fr}:∀{l:List Fr},q f=false→iK q (l++[f])=iK q l:=by
 intro l h;unfold iK;rw[List.foldl_append];simp[h]
theorem PY {l:List Fr}{f:Fr}{n:Int}(h:n<f.first):eD (dX l f) n=eD l n:=by
 have hf:decide (f.first≤n)=false:=by simp;omega
 unfold dX eD;rw[IV hf];split
 ·rename_i e;cases hl:l.getLast? with
  | none=>
    have:l=[]:=by simpa using hl
    rw[this];rfl
  | some g=>
    obtain⟨r,hr⟩:=List.getLast?_eq_some_iff.1 hl;have e2:g.first=f.first:=by
     simp only[bH,hl,Option.getD_some,beq_iff_eq] at e;exact e
    rw[hr,List.dropLast_concat];exact (IV (by simp;omega)).symm
 rfl
theorem Bt {l:List Fr}{f:Fr}{w n:Int}(h:n<f.first):setOf (dX l f) w n=setOf l w n:=by
 unfold setOf;rw[PY h]
def bB (had:List Hp)(n:Int):List Pl:=(had.filter fun h=>h.n==n).map (·.x)
def jd (bT:List (List UInt8))(n:Int)(b:List UInt8):Prop:=1≤n∧n≤(bT.length:Int)∧b=bT[(n-1).toNat]!
structure qm (sure:Int)(waits:List Wt)(bT:List (List UInt8))(had:List Hp):Prop where
 s0:0≤sure
 len:sure+waits.length=bT.length
 num:∀i (h:i<waits.length),waits[i].n=sure+1+i
 body:∀x∈waits,jd bT x.n x.body
 from_:∀x∈waits,∀p∈x.from_,p∈bB had x.n
structure mO (s:Sg):Prop where
 wk:qm s.w.sure s.w.waits s.bT s.had
 nx:s.w.next=s.bT.length+1
 hd:∀h∈s.had,jd s.bT h.n h.body
 bq:∀m∈s.eG,m.ask=true→jd s.bT m.q.n m.q.body
 br:∀m∈s.eG,m.ask=false→m.r.code=0→m.r.from_∈bB s.had m.r.n
 ask:s.ask=s.w.change
 Uj:s.ask.first≠0→s.w.sure<s.ask.first
 pl:s.Dv=if s.ask.first≠0∧s.taken=1 then dX s.w.l.af s.ask else s.w.l.af
 good:∀n,1≤n→n≤s.w.sure→bI (setOf s.Dv s.w.l.w n) s.w.l.a (bB s.had n)=true
theorem CQ {had:List Hp}{h:Hp}{n:Int}{p:Pl}(hp:p∈bB had n):p∈bB (had++[h]) n:=by
 unfold bB at *;rw[List.filter_append,List.map_append];exact List.mem_append_left _ hp
theorem CP (had:List Hp)(x:Pl)(n:Int)(b:List UInt8):x∈bB (had++[⟨x,n,b⟩]) n:=by
 unfold bB;rw[List.filter_append,List.map_append];exact List.mem_append_right _ (by simp)
theorem rH {bT:List (List UInt8)}{n:Int}{b c:List UInt8}(h:jd bT n b):jd (bT++[c]) n b:=by
 obtain⟨h1,h2,h3⟩:=h;refine⟨h1,by simp only[List.length_append];omega,?_⟩;have hi:(n-1).toNat<bT.length:=by omega
 rw[h3,getElem!_pos bT _ hi,getElem!_pos (bT++[c]) _ (by simp only[List.length_append];omega),List.getElem_append_left hi]
theorem getLast_take {α:Type}(q:α→Bool):∀(l:List α),(l.takeWhile q)=l.take (l.takeWhile q).length
 |[]=>rfl
 | x::r=>by
   rw[List.takeWhile_cons];split
   ·rw[List.length_cons,List.take_succ_cons,←getLast_take q r]
   rfl
theorem drop_take {α:Type}(q:α→Bool):∀(l:List α),(l.dropWhile q)=l.drop (l.takeWhile q).length
 |[]=>rfl
 | x::r=>by
   rw[List.takeWhile_cons,List.dropWhile_cons];split
   ·rw[List.length_cons,List.drop_succ_cons,drop_take q r]
   rfl
theorem UH {w:Wr}{bT:List (List UInt8)}{had:List Hp}(h:qm w.sure w.waits bT had) :
  (kK w).sure=w.sure+(w.waits.takeWhile (fI w)).length∧(∀x∈w.waits.takeWhile (fI w),fI w x=true)∧qm (kK w).sure (kK w).waits bT had:=by
 have h1:(kK w).sure=w.sure+(w.waits.takeWhile (fI w)).length:=by
  unfold kK;simp only;cases hl:(w.waits.takeWhile (fI w)).getLast? with
  | none=>
    have:w.waits.takeWhile (fI w)=[]:=by simpa using hl
    rw[this];simp
  | some x=>
    obtain⟨r,hr⟩:=List.getLast?_eq_some_iff.1 hl;have hlen:(w.waits.takeWhile (fI w)).length=r.length+1:=by rw[hr];simp
    have hle:=List.takeWhile_prefix (fI w) (l:=w.waits) |>.length_le
    have hx:x=w.waits[r.length]'(by omega):=by
     have e:=getLast_take (fI w) w.waits;have:(w.waits.takeWhile (fI w))[r.length]? = some x:=by rw[hr];simp
     rw[e,List.getElem?_take,if_pos (by omega),List.getElem?_eq_getElem (by omega)] at this;exact (Option.some.inj this).symm
    simp only[Option.map_some,Option.getD_some];rw[hx,h.num r.length (by omega),hlen];omega
 have hle:=List.takeWhile_prefix (fI w) (l:=w.waits) |>.length_le
 refine⟨h1,fun x hx=>?_,?_⟩
 ·exact List.all_eq_true.1 (List.all_takeWhile (p:=fI w) (l:=w.waits)) x hx
 have hd:(kK w).waits=w.waits.drop (w.waits.takeWhile (fI w)).length:=drop_take _ _;rw[h1,hd];have hl:=h.len;have hs:=h.s0;refine⟨by omega,by rw[List.length_drop];omega,fun i hi=>?_,fun x hx=>h.body x (List.mem_of_mem_drop hx),fun x hx=>h.from_ x (List.mem_of_mem_drop hx)⟩;rw[List.getElem_drop,h.num];omega
theorem MR {s:Sg}{w:Wr}(hw:qm w.sure w.waits s.bT s.had)(nx:w.next=s.bT.length+1)(hd:∀h∈s.had,jd s.bT h.n h.body)
  (bq:∀m∈s.eG,m.ask=true→jd s.bT m.q.n m.q.body) (br:∀m∈s.eG,m.ask=false→m.r.code=0→m.r.from_∈bB s.had m.r.n)
  (ask:s.ask=w.change) (Uj:s.ask.first≠0→w.sure<s.ask.first) (pl:s.Dv=if s.ask.first≠0∧s.taken=1 then dX w.l.af s.ask else w.l.af)
  (good:∀n,1≤n→n≤w.sure→bI (setOf s.Dv w.l.w n) w.l.a (bB s.had n)=true):mO { s with w:=kK w }∧w.sure≤(kK w).sure:=by
 obtain⟨m1,m2,m3⟩:=UH hw;have ahm:∀n,w.sure<n→n≤(kK w).sure→∃x∈w.waits,x.n=n∧fI w x=true:=by
  intro n h1 h2;have hle:=List.takeWhile_prefix (fI w) (l:=w.waits) |>.length_le
  have hi:(n-w.sure-1).toNat<(w.waits.takeWhile (fI w)).length:=by omega
  have hx:=List.getElem_mem hi;refine⟨_,List.takeWhile_subset _ hx,?_,m2 _ hx⟩;have e:=getLast_take (fI w) w.waits;have:(w.waits.takeWhile (fI w))[(n-w.sure-1).toNat]=w.waits[(n-w.sure-1).toNat]'(by omega):=by
   have h3:(w.waits.takeWhile (fI w))[(n-w.sure-1).toNat]? = w.waits[(n-w.sure-1).toNat]? :=by
    conv=>lhs;rw[e]
    rw[List.getElem?_take,if_pos hi]
   rw[List.getElem?_eq_getElem hi,List.getElem?_eq_getElem (by omega)] at h3;exact Option.some.inj h3
  rw[this,hw.num];omega
 refine⟨⟨m3,nx,hd,bq,br,ask,fun h0=>?_,pl,fun n h1 h2=>?_⟩,by omega⟩
 ·show (kK w).sure<s.ask.first
  by_cases hc:w.sure<(kK w).sure
  ·obtain⟨x,hx,e,hs⟩:=ahm (kK w).sure hc (Int.le_refl _);simp only[fI,Bool.and_eq_true,Bool.or_eq_true,beq_iff_eq,decide_eq_true_eq] at hs;rw[ask] at h0 ⊢;rcases hs.2 with h3|h3
   ·exact absurd h3 h0
   omega
  have:=Uj h0;omega
 show bI (setOf s.Dv w.l.w n) w.l.a (bB s.had n)=true
 by_cases hc:n≤w.sure
 ·exact good n h1 hc
 obtain⟨x,hx,e,hs⟩:=ahm n (by omega) h2;simp only[fI,Bool.and_eq_true,Bool.or_eq_true,beq_iff_eq,decide_eq_true_eq] at hs;have h4:setOf s.Dv w.l.w n=eT w n:=by
  unfold eT;rw[pl];split
  ·rename_i h5;rcases hs.2 with h3|h3
   ·rw[ask] at h5;exact absurd h3 h5.1
   rw[Bt (by rw[ask];omega)]
  rfl
 rw[h4,←e];exact pI (hw.from_ x hx) hs.1
def nE (x:Wt):Int×List UInt8×List Pl:=(x.n,x.body,x.from_)
structure jw (w w':Wr):Prop where
 l:w'.l=w.l
 nx:w'.next=w.next
 su:w'.sure=w.sure
 ch:w'.change=w.change
 wt:w'.waits.map nE=w.waits.map nE
theorem jw.refl (w:Wr):jw w w:=⟨rfl,rfl,rfl,rfl,rfl⟩
theorem jw.trans {a b c:Wr}(h:jw a b)(k:jw b c):jw a c:=⟨k.l.trans h.l,k.nx.trans h.nx,k.su.trans h.su,k.ch.trans h.ch,k.wt.trans h.wt⟩
theorem FJ {l l':List Wt}(h:l'.map nE=l.map nE){x:Wt}(hx:x∈l'):∃y∈l,y.n=x.n∧y.body=x.body∧y.from_=x.from_:=by
 have:nE x∈l.map nE:=by rw[←h];exact List.mem_map.2 ⟨x,hx,rfl⟩
 obtain⟨y,hy,e⟩:=List.mem_map.1 this;simp only[nE,Prod.mk.injEq] at e;exact⟨y,hy,e.1,e.2.1,e.2.2⟩
theorem PZ {sure:Int}{l l':List Wt}{bT:List (List UInt8)}{had:List Hp}(h:l'.map nE=l.map nE)(k:qm sure l bT had):qm sure l' bT had:=by
 have hl:l'.length=l.length:=by simpa using congrArg List.length h
 refine⟨k.s0,by rw[hl];exact k.len,fun i hi=>?_,fun x hx=>?_,fun x hx p hp=>?_⟩
 ·have:(l'.map nE)[i]? = (l.map nE)[i]? :=by rw[h]
  rw[List.getElem?_map,List.getElem?_map,List.getElem?_eq_getElem hi,List.getElem?_eq_getElem (by omega)] at this;have:=congrArg Prod.fst (Option.some.inj this);simp only[nE] at this;rw[this,k.num]
 ·obtain⟨y,hy,e1,e2,_⟩:=FJ h hx;rw[←e1,←e2];exact k.body y hy
 obtain⟨y,hy,e1,_,e3⟩:=FJ h hx;rw[←e1];exact k.from_ y hy p (by rw[e3];exact hp)
theorem vD {s:Sg}(h:mO s){w:Wr}(hw:jw s.w w):mO { s with w:=w }:=by
 refine⟨?_,by rw[hw.nx];exact h.nx,h.hd,h.bq,h.br,by rw[hw.ch];exact h.ask,fun h0=>?_,by rw[hw.l];exact h.pl,fun n h1 h2=>?_⟩
 ·show qm w.sure w.waits s.bT s.had
  rw[hw.su];exact PZ hw.wt h.wk
 ·show w.sure<s.ask.first
  rw[hw.su];exact h.Uj h0
 show bI (setOf s.Dv w.l.w n) w.l.a (bB s.had n)=true
 rw[hw.l];exact h.good n h1 (by rw[←hw.su];exact h2)
theorem FK (w:Wr)(is:Pl→Bool):jw w (vB w is):=⟨rfl,rfl,rfl,rfl,rfl⟩
theorem IW {s:Sg}(h:mO s){l:List Rq}(hl:∀q∈l,jd s.bT q.n q.body):mO (PX s l):=by
 refine⟨h.wk,h.nx,h.hd,fun m hm ha=>?_,fun m hm ha=>?_,h.ask,h.Uj,h.pl,h.good⟩
 ·rcases List.mem_append.1 hm with hm|hm
  ·exact h.bq m hm ha
  obtain⟨q,hq,rfl⟩:=List.mem_map.1 hm;exact hl q (List.mem_of_mem_take hq)
 rcases List.mem_append.1 hm with hm|hm
 ·exact h.br m hm ha
 obtain⟨q,hq,rfl⟩:=List.mem_map.1 hm;cases ha
theorem pJ {w:Wr}{x:Wt}{q:Rq}(h:q∈kJ w x):q.n=x.n∧q.body=x.body:=by
 obtain⟨p,hp,rfl⟩:=List.mem_map.1 h;exact⟨rfl,rfl⟩
theorem Yi {s:Sg}(h:mO s){r:Rs}(hr:r.code=0→r.from_∈bB s.had r.n):mO { s with w:=iT s.w r }∧s.w.sure≤(iT s.w r).sure:=by
 have same:∀w,jw s.w w→mO { s with w:=w }∧s.w.sure≤w.sure:=fun w hw=>⟨vD h hw,by rw[hw.su];exact Int.le_refl _⟩
 unfold iT;split
 ·exact same _ (jw.refl _)
 split
 ·rename_i hc;split
  ·exact same _ (jw.refl _)
  rename_i k hk;split
  ·obtain⟨hkl,hkn,_⟩:=List.findIdx?_eq_some_iff_getElem.1 hk;have hn:s.w.waits[k].n=r.n:=by simpa using hkn
   have hwk:=h.wk;have hW:qm (qI s.w r k).sure (qI s.w r k).waits s.bT s.had:=by
    unfold qI;refine⟨hwk.s0,by rw[List.length_modify];exact hwk.len,fun i hi=>?_,fun x hx=>?_,fun x hx p hp=>?_⟩
    ·rw[List.getElem_modify];rw[List.length_modify] at hi;split
     ·exact hwk.num i hi
     exact hwk.num i hi
    ·obtain⟨i,hi,rfl⟩:=List.getElem_of_mem hx;rw[List.length_modify] at hi;rw[List.getElem_modify];have:=hwk.body _ (List.getElem_mem hi);split<;>exact this
    obtain⟨i,hi,rfl⟩:=List.getElem_of_mem hx;rw[List.length_modify] at hi;rw[List.getElem_modify] at hp ⊢;have:=hwk.from_ _ (List.getElem_mem hi);split at hp
    ·rename_i e;subst e;rw[if_pos rfl];rcases List.mem_append.1 hp with hp|hp
     ·exact this p hp
     rw[List.mem_singleton] at hp;subst hp;show r.from_∈bB s.had s.w.waits[k].n
     rw[hn];exact hr hc
    rename_i e;rw[if_neg e];exact this p hp
   exact MR (s:=s) (w:=qI s.w r k) hW h.nx h.hd h.bq h.br h.ask h.Uj h.pl h.good
  exact same _ (jw.refl _)
 split
 ·split
  ·exact same _ ⟨rfl,rfl,rfl,rfl,rfl⟩
  exact same _ (jw.refl _)
 split
 ·exact same _ (FK _ _)
 split
 ·exact same _ (FK _ _)
 exact same _ (jw.refl _)
theorem Yk {s:Sg}(h:mO s)(b:List UInt8):mO (Sb s b)∧s.w.sure≤(Sb s b).w.sure:=by
 unfold Sb;simp only;split
 ·rename_i hc;have hw:=h.wk;have hnx:=h.nx;unfold gP at hc ⊢;by_cases h1:s.w.fenced=1
  ·rw[if_pos h1] at hc;cases hc
  rw[if_neg h1] at hc ⊢;by_cases h2:(b.length:Int)>2048
  ·rw[if_pos h2] at hc;cases hc
  rw[if_neg h2] at hc ⊢;by_cases h3:s.w.next>8
  ·rw[if_pos h3] at hc;cases hc
  rw[if_neg h3];have hb:jd (s.bT++[b]) s.w.next b:=by
   refine⟨by omega,by simp only[List.length_append,List.length_singleton];omega,?_⟩;rw[hnx,show ((s.bT.length:Int)+1-1).toNat=s.bT.length by omega,getElem!_pos _ _ (by simp)];simp
  refine⟨IW ?_ fun q hq=>?_,Int.le_refl _⟩
  ·have hl:=hw.len;refine⟨⟨hw.s0,by simp only[List.length_append,List.length_singleton];omega,fun i hi=>?_,fun x hx=>?_,fun x hx p hp=>?_⟩,by simp only[List.length_append,List.length_singleton];omega,fun y hy=>rH (h.hd y hy),fun m hm ha=>rH (h.bq m hm ha),h.br,h.ask,h.Uj,h.pl,h.good⟩
   ·simp only[List.length_append,List.length_singleton] at hi;by_cases hlt:i<s.w.waits.length
    ·rw[List.getElem_append_left hlt];exact hw.num i hlt
    have hi2:i=s.w.waits.length:=by omega
    subst hi2;rw[List.getElem_append_right (Nat.le_refl _)];simp only[Nat.sub_self,List.getElem_cons_zero];omega
   ·rcases List.mem_append.1 hx with hx|hx
    ·exact rH (hw.body x hx)
    rw[List.mem_singleton] at hx;subst hx;exact hb
   rcases List.mem_append.1 hx with hx|hx
   ·exact hw.from_ x hx p hp
   rw[List.mem_singleton] at hx;subst hx;cases hp
  obtain⟨e1,e2⟩:=pJ hq;rw[e1,e2];exact hb
 exact⟨h,Int.le_refl _⟩
theorem Iu (w:Wr)(x:Wt):jw w (CG w x):=by
 unfold CG;generalize eT w x.n=l;induction l generalizing w with
 |nil=>exact jw.refl w
 | cons y l ih=>
   rw[List.foldl_cons];split
   ·exact ih w
   exact (FK w _).trans (ih _)
theorem UI {α:Type}{l:List α}{i:Nat}{a:α}(h:l[i]? = some a):l.set i a=l:=by
 apply List.ext_getElem?;intro j;rw[List.getElem?_set];split
 ·rename_i e;subst e;split
  ·exact h.symm
  rename_i hj;rw[List.getElem?_eq_none (by omega)]
 rfl
theorem Bj (now:Int):∀(l:List Nat) (st:Wr×List Rq),(∀i∈l,i<st.1.waits.length)→jw st.1 (l.foldl (mq now) st).1∧∀q∈(l.foldl (mq now) st).2,q∈st.2∨∃x∈st.1.waits,q.n=x.n∧q.body=x.body
 |[],st,_=>⟨jw.refl _,fun q hq=>.inl hq⟩
 | i::l,st,hi=>by
   have hlt:=hi i (by simp);have hw:jw st.1 (if pF now st.1.waits[i]!.born 9 then CG st.1 st.1.waits[i]! else st.1):=by
    split
    ·exact Iu _ _
    exact jw.refl _
   have h1:jw st.1 (mq now st i).1∧∀q∈(mq now st i).2,q∈st.2∨∃x∈st.1.waits,q.n=x.n∧q.body=x.body:=by
    unfold mq;simp only;generalize hw2:(if pF now st.1.waits[i]!.born 9 then CG st.1 st.1.waits[i]! else st.1)=w at hw;split
    ·refine⟨⟨hw.l,hw.nx,hw.su,hw.ch,?_⟩,fun q hq=>?_⟩
     ·show (w.waits.set i _).map nE=_
      rw[←hw.wt,List.map_set];have e:nE { st.1.waits[i]! with since:=now }=nE st.1.waits[i]! :=rfl;rw[e];have hl:w.waits.length=st.1.waits.length:=by simpa using congrArg List.length hw.wt
      have e2:(w.waits.map nE)[i]? = some (nE st.1.waits[i]!):=by
       rw[hw.wt,List.getElem?_map,List.getElem?_eq_getElem hlt,getElem!_pos st.1.waits i hlt];rfl
      exact UI e2
     rcases List.mem_append.1 hq with hq|hq
     ·exact .inl hq
     obtain⟨e1,e2⟩:=pJ hq;refine .inr ⟨st.1.waits[i]!,?_,e1,e2⟩;rw[getElem!_pos st.1.waits i hlt];exact List.getElem_mem hlt
    exact⟨hw,fun q hq=>.inl hq⟩
   rw[List.foldl_cons];have hl:(mq now st i).1.waits.length=st.1.waits.length:=by simpa using congrArg List.length h1.1.wt
   obtain⟨a,b⟩:=Bj now l (mq now st i) fun j hj=>by rw[hl];exact hi j (by simp[hj])
   refine⟨h1.1.trans a,fun q hq=>?_⟩;rcases b q hq with hq|⟨x,hx,e1,e2⟩
   ·exact h1.2 q hq
   obtain⟨y,hy,g1,g2,_⟩:=FJ h1.1.wt hx;exact .inr ⟨y,hy,by rw[e1,g1],by rw[e2,g2]⟩
theorem JY {s:Sg}(h:mO s)(now:Int):mO { s with now:=now }:=⟨h.wk,h.nx,h.hd,h.bq,h.br,h.ask,h.Uj,h.pl,h.good⟩
theorem ab0 {s:Sg}(h:mO s)(e:Int)(known:List Pl):mO (ab1 s e known)∧s.w.sure≤(ab1 s e known).w.sure:=by
 unfold ab1;simp only;unfold gL;by_cases h1:s.w.fenced=1∨s.w.change.first≠0∨s.w.bad=[]
 ·rw[if_pos h1];exact⟨vD h (jw.refl _),Int.le_refl _⟩
 rw[if_neg h1];split
 ·exact⟨vD h ⟨rfl,rfl,rfl,rfl,rfl⟩,Int.le_refl _⟩
 have h0:s.w.change.first=0:=Classical.byContradiction fun h2=>h1 (.inr (.inl h2))
 have hp:=h.pl;rw[if_neg (by rw[h.ask];exact fun h2=>h2.1 h0)] at hp;simp only[if_true];refine⟨⟨h.wk,h.nx,h.hd,h.bq,h.br,rfl,fun _=>?_,?_,h.good⟩,Int.le_refl _⟩
 ·show s.w.sure<s.w.sure+1
  omega
 show s.Dv=_
 rw[if_neg (fun h2=>by have:=h2.2;simp at this)];exact hp
theorem Yn {s:Sg}(h:mO s):mO (Sc s)∧s.w.sure≤(Sc s).w.sure:=by
 unfold Sc;split
 ·exact⟨h,Int.le_refl _⟩
 rename_i h1;have ha:s.ask.first≠0:=fun e=>h1 (.inl e)
 have hc:s.w.change.first≠0:=by rw[←h.ask];exact ha
 have hpl:s.Dv=(if (s.taken==1)=true then dX s.w.l.af s.w.change else s.w.l.af):=by
  have:=h.pl;rw[h.ask] at this;rw[this];by_cases ht:s.taken=1
  ·rw[if_pos ⟨hc,ht⟩,if_pos (by simpa using ht)]
  rw[if_neg (fun h2=>ht h2.2),if_neg (by simpa using ht)]
 have hm:=MR (s:={ s with ask:=kQ }) (w:={ s.w with l:={ s.w.l with af:=if (s.taken==1)=true then dX s.w.l.af s.w.change else s.w.l.af },change:=kQ,bad:=[] })
  h.wk h.nx h.hd h.bq h.br rfl (fun h2=>absurd rfl h2) (by rw[if_neg (fun h2=>h2.1 rfl)];exact hpl) h.good
 unfold dK;rw[if_neg hc];have hsame:jw (jO s.w (s.taken==1)) { jO s.w (s.taken==1) with waits:=(jO s.w (s.taken==1)).waits.map fun x=>{ x with born:=s.now,since:=s.now } }:=⟨rfl,rfl,rfl,rfl,by rw[List.map_map];rfl⟩;have h3:=vD hm.1 hsame;refine⟨IW h3 fun q hq=>?_,hm.2⟩;obtain⟨x,hx,hq⟩:=List.mem_flatMap.1 hq;obtain⟨e1,e2⟩:=pJ hq;rw[e1,e2];exact hm.1.wk.body x hx
theorem Yb {s:Sg}(h:mO s):0≤s.w.sure∧s.w.sure≤(s.bT.length:Int):=by
 have:=h.wk.len;have:=h.wk.s0;omega
def FM (w:Wr):Sg:=⟨w,w.l.af,kQ,0,0,[],[],[]⟩
theorem ab2 {l:Lg}{e:Int}{w:Wr}(h:Fp l e=some w):mO (FM w):=by
 unfold Fp at h;split at h
 ·have:=Option.some.inj h;subst this;exact⟨⟨Int.le_refl 0,by simp[FM],fun i hi=>by simp[FM] at hi,fun x hx=>by simp[FM] at hx,fun x hx=>by simp[FM] at hx⟩,by simp[FM],fun y hy=>by simp[FM] at hy,fun m hm=>by simp[FM] at hm,fun m hm=>by simp[FM] at hm,rfl,fun h=>absurd rfl h,by simp[FM,kQ],fun n h1 h2=>by simp[FM] at h2;omega⟩
 cases h
def unk (known l:List Pl):Nat:=(l.filter fun p=>!gY known p).length
theorem IX {k node:Int}{l:List Pl}:∀{i:Nat},i≤l.length→(pq k node l i=true↔∃j,∃hj:j<l.length,j<i∧(j:Int)≠k∧l[j].node=node)
 |0,_=>by simp[pq]
 | i+1,h=>by
   rw[Cy k node l i (by omega),Bool.or_eq_true,IX (by omega)];constructor
   ·rintro (⟨j,hj,h1,h2,h3⟩|h1)
    ·exact⟨j,hj,by omega,h2,h3⟩
    simp only[Bool.and_eq_true,bne_iff_ne,ne_eq,beq_iff_eq] at h1;exact⟨i,by omega,by omega,h1.1,h1.2⟩
   rintro⟨j,hj,h1,h2,h3⟩
   by_cases e:j=i
   ·subst e;refine .inr ?_;simp[h2,h3]
   exact .inl ⟨j,hj,by omega,h2,h3⟩
theorem Um {f g:Fr}{old p:Pl}(h:mo f old p=some g)(hn:(f.ah.map (·.node)).Nodup):∃k,∃hk:k<f.ah.length,f.ah[k]=old∧g=⟨f.first,f.ah.set k p⟩∧(g.ah.map (·.node)).Nodup:=by
 unfold mo at h;split at h
 ·cases h
 rename_i hc;split at h
 ·cases h
 rename_i hi;rcases nk (· == old) f.ah with ⟨h1,_⟩|⟨k,hk,h1,h2,_⟩
 ·rw[h1] at hi;exact absurd (by decide) hi
 rw[h1] at h hc;have:=Option.some.inj h;subst this;refine⟨k,hk,by simpa using h2,by simp,?_⟩;simp only[Int.toNat_natCast];rw[IX (Nat.le_refl _)] at hc;rw[List.nodup_iff_pairwise_ne,List.pairwise_iff_getElem] at hn ⊢;intro i j hi2 hj2 hij;simp only[List.length_map,List.length_set] at hi2 hj2;have hb:=hn i j (by simpa using hi2) (by simpa using hj2) hij;simp only[List.getElem_map] at hb ⊢;rw[List.getElem_set,List.getElem_set];split
 ·rename_i e;subst e;rw[if_neg (by omega)];intro e2;exact hc ⟨j,hj2,hj2,by omega,e2.symm⟩
 split
 ·rename_i e;subst e;intro e2;exact hc ⟨i,hi2,hi2,by omega,e2⟩
 exact hb
theorem RV {f:Fr}{old:Pl}:∀{kn:List Pl},(jc f old kn).2=true→∃p∈kn,mo f old p=some (jc f old kn).1
 |[],h=>by cases h
 | p::r,h=>by
   unfold jc at h ⊢;cases hs:mo f old p with
   |some g=>exact⟨p,by simp,by simp[hs]⟩
   | none=>
     rw[hs] at h;simp only at h ⊢;obtain⟨q,hq,e⟩:=RV h;exact⟨q,by simp[hq],e⟩
theorem RU {f:Fr}{old:Pl}:∀{kn:List Pl},(jc f old kn).2=false→(jc f old kn).1=f∧∀p∈kn,mo f old p=none
 |[],h=>⟨rfl,fun p hp=>by cases hp⟩
 | p::r,h=>by
   unfold jc at h ⊢;cases hs:mo f old p with
   |some g=>rw[hs] at h;cases h
   | none=>
     rw[hs] at h;simp only at h ⊢;obtain⟨a,b⟩:=RU h;refine⟨a,fun q hq=>?_⟩;rcases List.mem_cons.1 hq with rfl|hq
     ·exact hs
     exact b q hq
section
variable {w:Int}{bad known:List Pl}(hk:(known.map (·.node)).Nodup)(hkw:w≤(known.length:Int))(hbad:∀p,gY bad p=true→gY known p=false)
structure R1 (w:Int)(bad known f0:List Pl)(st:Fr×List Pl×Bool)(todo:List Pl):Prop where
 nd:(st.1.ah.map (·.node)).Nodup
 len:st.1.ah.length=f0.length
 mem:∀p∈st.1.ah,p∈known∨p∈f0
 todo:∀y∈todo,y∈st.1.ah∧y∉st.2.1
 left:∀y∈st.2.1,y∈st.1.ah∧gY bad y=true
 un:unk known st.1.ah≤unk known f0
 un2:st.2.2=true→unk known st.1.ah<unk known f0
 full:st.2.1≠[]→w<(f0.length:Int)
include hk hkw hbad
structure R2 (w:Int)(known f0:List Pl)(st:List Pl×Bool):Prop where
 nd:(st.1.map (·.node)).Nodup
 lo:w≤(st.1.length:Int)
 hi:st.1.length≤f0.length
 mem:∀p∈st.1,p∈known∨p∈f0
 un:unk known st.1≤unk known f0
 un2:st.2=true→unk known st.1<unk known f0
structure R3 (known f0 b0:List Pl)(b:List Pl):Prop where
 nd:(b.map (·.node)).Nodup
 lo:b0.length≤b.length
 hi:b.length≤5
 mem:∀p∈b,p∈known∨p∈f0
 un:unk known b=unk known b0
end
structure GoW (m:Int)(w:Wr):Prop where
 FN:w.fenced=0
 Uj:w.change.first=0
 s0:0≤w.sure
 len:w.sure+w.waits.length=m
 num:∀i (h:i<w.waits.length),w.waits[i].n=w.sure+1+i
 a1:1≤w.l.a
 aw:w.l.a≤w.l.w
 fr:dA w.l.w w.l.af=true
 last:(bH w.l.af).first≤w.sure+1
 head:∀x,w.waits.head? = some x→bI (eT w x.n) w.l.a x.from_=false
structure rR (w w':Wr):Prop where
 l:w'.l=w.l
 bad:w'.bad=w.bad
 ep:w'.au=w.au
 su:w.sure≤w'.sure
 wt:∀x'∈w'.waits,∃x∈w.waits,x'.n=x.n∧x'.born=x.born∧x'.since=x.since∧x'.body=x.body∧∀p∈x.from_,p∈x'.from_
theorem rR.refl (w:Wr):rR w w:=⟨rfl,rfl,rfl,Int.le_refl _,fun x hx=>⟨x,hx,rfl,rfl,rfl,rfl,fun _ h=>h⟩⟩
theorem rR.trans {a b c:Wr}(h:rR a b)(k:rR b c):rR a c:=by
 refine⟨k.l.trans h.l,k.bad.trans h.bad,k.ep.trans h.ep,Int.le_trans h.su k.su,fun x hx=>?_⟩;obtain⟨y,hy,e1,e2,e3,e4,e5⟩:=k.wt x hx;obtain⟨z,hz,g1,g2,g3,g4,g5⟩:=h.wt y hy;exact⟨z,hz,e1.trans g1,e2.trans g2,e3.trans g3,e4.trans g4,fun p hp=>e5 p (g5 p hp)⟩
end Go.AX
end
section
namespace Go.AX
end Go.AX
end
section
namespace Go.AX
theorem xk (x:Rv)(now:Int):(bO x now).1.af=x.af:=by
 unfold bO;split
 ·exact iE _ _ _
 rfl
def Rv.z:List AV:=[.pv (uu 0),.pv (ii 0),.pv (ii 0),.pv fQ,.pv (ii 0),.pv (uu 0),.pv (uu 0),.pv (ii 0),.pv fQ,.pv (uu 0),.pv (uu 0),.pv fQ,.pv fQ,.pv fQ,.pv fQ,.pv fQ,.pv (uu 0),.pv (uu 0)]
theorem CB (is:Pl→Bool)(p:Pl):∀(l b:List Pl),b.any (· == p)=true→(aD is b l).any (· == p)=true
 |[],b,h=>h
 | q::r,b,h=>by
   rw[aD];refine CB is p r _ ?_;split
   ·rw[List.any_append,h,Bool.true_or]
   exact h
theorem E9 (is:Pl→Bool)(p:Pl)(hp:is p=true):∀(l b:List Pl),p∈l→(aD is b l).any (· == p)=true
 |[],b,h=>by cases h
 | q::r,b,h=>by
   rw[aD];by_cases e:p=q
   ·subst e;refine CB is p r _ ?_;cases hb:b.any (· == p) with
    |true=>rw[if_neg (by simp)];exact hb
    |false=>rw[if_pos (by simp[hp]),List.any_append];simp
   exact E9 is p hp r _ ((List.mem_cons.1 h).resolve_left e)
theorem CF (is:Pl→Bool):∀(l b:List Pl),(∀p∈l,is p=true→b.any (· == p)=true)→aD is b l=b
 |[],b,h=>rfl
 | q::r,b,h=>by
   rw[aD];have hq:¬(is q && !b.any (· == q))=true:=by
    intro hc;simp only[Bool.and_eq_true] at hc;have:=h q (List.mem_cons_self ..) hc.1;rw[this] at hc;exact absurd hc.2 (by simp)
   rw[if_neg hq];exact CF is r b fun p hp=>h p (List.mem_cons_of_mem _ hp)
theorem JS (is:Pl→Bool)(l b:List Pl):aD is (aD is b l) l=aD is b l:=
 CF is l _ fun p hp hi=>E9 is p hi l b hp
section
variable {y:Rv}{now:Int}{r:Rs}
theorem tw4 (h:y.phase=4):bX y now r=(y,[]):=by
 have p2:(y.phase==2)=false:=by rw[h];rfl
 have p3:(y.phase==3)=false:=by rw[h];rfl
 have kp:decide (y.phase<4)=false:=by rw[h];rfl
 simp only[bX,ny,p2,p3,kp,Bool.and_false,Bool.false_and,Bool.false_eq_true,↓reduceIte,ite_self]
theorem twF (h2:y.heard.any (· == r.from_)=true)(k2:(r.kind==2)=true):bX y now r=(y,[]):=by
 have k3:=gq k2 (show (2:Int)≠3 by decide);have k1:=gq k2 (show (2:Int)≠1 by decide);have e:gB y now r=(y,[]):=by
  cases h1:(aW y).ah.any (· == r.from_) with
  |false=>exact xY h1
  |true=>exact xZ h1 h2
 simp only[bX,e,k3,k1,Bool.false_and,Bool.false_eq_true,↓reduceIte,ite_self]
theorem twN (k2:(r.kind==2)=false)(hn:(r.n==y.n)=false):bX y now r=(y,[]):=by
 simp only[bX,k2,hn,Bool.and_false,Bool.false_and,Bool.false_eq_true,↓reduceIte,ite_self]
theorem twG (k2:(r.kind==2)=false)(k3:(r.kind==3)=true)(p:(y.phase==3)=false)(k0:(r.code==0)=false)(h:y.none.any (· == r.from_)=true):bX y now r=(y,[]):=by
 have k1:=gq k3 (show (3:Int)≠1 by decide);simp only[bX,ny,k2,k1,p,k0,h,Bool.not_true,Bool.and_false,Bool.false_and,Bool.false_eq_true,↓reduceIte,ite_self]
theorem twH (k2:(r.kind==2)=false)(k3:(r.kind==3)=true)(p:(y.phase==2)=false)(h:y.has.any (· == r.from_)=true):bX y now r=(y,[]):=by
 have k1:=gq k3 (show (3:Int)≠1 by decide);have e:lY y now r.from_=(y,[]):=E8 h;simp only[bX,ny,e,k2,k1,p,Bool.and_false,Bool.false_and,Bool.false_eq_true,↓reduceIte,ite_self]
theorem tw1 (k2:(r.kind==2)=false)(k3:(r.kind==3)=false)(h:fT y now r=(y,[])):bX y now r=(y,[]):=by
 simp only[bX,h,k2,k3,Bool.and_false,Bool.false_and,Bool.false_eq_true,↓reduceIte,ite_self]
end
structure RBase (l:Lg)(k:Nat)(x:Rv):Prop where
 hl:x.l=l
 su:0≤x.sure∧x.sure≤8
 he:x.heard.length≤k
 fl:x.af.length≤6
 fr:∀f∈x.af,0≤f.first∧f.first≤9∧f.ah.length≤5
 bs:gF x.born∧gF x.since
structure RInv (l:Lg)(k:Nat)(x:Rv):Prop extends RBase l k x where
 ph:x.phase=1∨x.phase=2∨x.phase=3∨x.phase=4
 n0:0≤x.n∧x.n≤9
 n1:x.phase=1→x.n=0
 n3:x.phase=2∨x.phase=3→x.n≤8
 no:x.none.length≤k
 ha:x.has.length≤k+1
 ba:x.bad.length≤5*k
 bo:x.body.length≤5000
theorem RBase.up {l:Lg}{k:Nat}{x:Rv}(h:RBase l k x):RBase l (k+1) x:=⟨h.hl,h.su,Nat.le_succ_of_le h.he,h.fl,h.fr,h.bs⟩
theorem RInv.up {l:Lg}{k:Nat}{x:Rv}(h:RInv l k x):RInv l (k+1) x:=
 ⟨h.toRBase.up,h.ph,h.n0,h.n1,h.n3,Nat.le_succ_of_le h.no,Nat.le_succ_of_le h.ha,by have:=h.ba;omega,h.bo⟩
theorem zJ {l:Lg}{k:Nat}{y:Rv}(h:RBase l k y){n now:Int}(hn:1≤n∧n≤9)(dx:gF now):RInv l k (bQ y n now).1:=by
 unfold bQ;dsimp only
 split
 ·rename_i hd;simp only[decide_eq_true_eq] at hd;exact⟨⟨h.hl,h.su,h.he,h.fl,h.fr,h.bs⟩,.inr (.inr (.inr rfl)),⟨by show 0≤n;omega,hn.2⟩,fun e=>absurd e (by show ¬(4:Int)=1;decide),
   fun e=>(by
    rcases e with e|e
    ·exact absurd e (by show ¬(4:Int)=2;decide)
    exact absurd e (by show ¬(4:Int)=3;decide)),Nat.zero_le _,Nat.zero_le _,Nat.zero_le _,Nat.zero_le _⟩
 rename_i hd;simp only[decide_eq_true_eq] at hd;exact⟨⟨h.hl,h.su,h.he,h.fl,h.fr,⟨dx,dx⟩⟩,.inr (.inl rfl),⟨by show 0≤n;omega,hn.2⟩,fun e=>absurd e (by show ¬(2:Int)=1;decide),
  fun _=>(by show n≤8;omega),Nat.zero_le _,Nat.zero_le _,Nat.zero_le _,Nat.zero_le _⟩
theorem Be (y:Rv)(n now:Int):(bQ y n now).1.n=n:=by unfold bQ;dsimp only;split<;>rfl
theorem Bf (y:Rv)(n now:Int):(bQ y n now).1.sure=y.sure:=by unfold bQ;dsimp only;split<;>rfl
structure Bg (l:Lg)(k:Nat)(x:Rv)(now:Int)(r:Rs)(R:Rv×List Rq):Prop where
 inv:RInv l (k+1) R.1
 n:x.n≤R.1.n
 sure:x.sure≤R.1.sure
 same:x.phase=4→R.1=x
 zI:bX R.1 now r=(R.1,[])
section
variable {l:Lg}{k:Nat}{x:Rv}{now:Int}{r:Rs}
theorem ok0 (h:RInv l k x)(e:bX x now r=(x,[])):Bg l k x now r (x,[]):=⟨h.up,Int.le_refl _,Int.le_refl _,fun _=>rfl,e⟩
theorem zK (b:List Pl)(p:Pl):(b++[p]).any (· == p)=true:=by rw[List.any_append];simp
theorem abQ (hmay:d9 l=true)(h:RInv l k x)(dx:gF now)(hr:0≤r.sure)(hb:r.body.length≤5000):Bg l k x now r (bX x now r):=by
 have hlast:∀(f0:Fr),aW x=f0→f0.first≤9:=by
  intro f0 hf0;subst hf0;simp only[d9,Bool.and_eq_true,dI,decide_eq_true_eq] at hmay;obtain⟨⟨a1,a2⟩,⟨a3,a4⟩,a5,a6,⟨a7,a8⟩,a9⟩:=hmay;obtain⟨b1,b2,b3,b4⟩:=(jX _ _).1 a6;rw[←h.hl] at b1;have hm:=rD (x:=x) (by omega);obtain⟨j,hj,e⟩:=List.getElem_of_mem hm;rw[←e];have hj':j<l.af.length:=by rw[←h.hl];exact hj
  have:=b4 j hj';have e2:x.l.af[j]=l.af[j]:=by simp only[h.hl]
  rw[e2];exact this.1
 have hy:RBase l (k+1) { x with heard:=x.heard++[r.from_],sure:=min (max x.sure r.sure) 8 }:=
  ⟨h.hl,by show 0≤min (max x.sure r.sure) 8∧min (max x.sure r.sure) 8≤8;have:=h.su;omega,by show (x.heard++[r.from_]).length≤k+1;rw[List.length_append];have:=h.he;simp;omega,h.fl,h.fr,h.bs⟩
 cases g1:(r.bP != x.l.id) with
 | true=>
   have e:bX x now r=(x,[]):=by simp only[bX,g1,Bool.true_or,↓reduceIte]
   rw[e];exact ok0 h e
 |false=>
 cases g2:(r.au != x.au) with
 | true=>
   have e:bX x now r=(x,[]):=by simp only[bX,g1,g2,Bool.or_true,↓reduceIte]
   rw[e];exact ok0 h e
 |false=>
 cases k2:(r.kind==2) with
 | true=>
   have k3:=gq k2 (show (2:Int)≠3 by decide);have k1:=gq k2 (show (2:Int)≠1 by decide);cases k0:(r.code==0&&decide (x.phase<4)) with
   | false=>
     have e:bX x now r=(x,[]):=by simp only[bX,g1,g2,k2,k3,k1,k0,Bool.or_self,Bool.true_and,Bool.false_and,Bool.false_eq_true,↓reduceIte]
     rw[e];exact ok0 h e
   | true=>
     have e0:bX x now r=gB x now r:=by simp only[bX,g1,g2,k2,k0,Bool.or_self,Bool.and_self,Bool.false_eq_true,↓reduceIte]
     have RH:x.phase≠4:=by
      simp only[Bool.and_eq_true,decide_eq_true_eq] at k0;omega
     cases h1:(aW x).ah.any (· == r.from_) with
     |false=>have e:=e0.trans (xY h1);rw[e];exact ok0 h e
     |true=>
     cases h2:x.heard.any (· == r.from_) with
     |true=>have e:=e0.trans (xZ h1 h2);rw[e];exact ok0 h e
     |false=>
     have RI:Bg l k x now r ({ x with heard:=x.heard++[r.from_],sure:=min (max x.sure r.sure) 8 },[])∧Bg l k x now r ({ x with heard:=x.heard++[r.from_],sure:=min (max x.sure r.sure) 8 },[jH x r.from_]):=by
      have hi:RInv l (k+1) { x with heard:=x.heard++[r.from_],sure:=min (max x.sure r.sure) 8 }:=
       ⟨hy,h.ph,h.n0,h.n1,h.n3,Nat.le_succ_of_le h.no,Nat.le_succ_of_le h.ha,by have:=h.ba;show x.bad.length≤_;omega,h.bo⟩
      have hs:x.sure≤min (max x.sure r.sure) 8:=by have:=h.su;omega
      have ht:∀q,bX ({ x with heard:=x.heard++[r.from_],sure:=min (max x.sure r.sure) 8 },q).1 now r=(({ x with heard:=x.heard++[r.from_],sure:=min (max x.sure r.sure) 8 },q).1,[]):=fun q:List Rq=>twF (zK _ _) k2
      exact⟨⟨hi,Int.le_refl _,hs,fun e=>absurd e RH,ht []⟩,⟨hi,Int.le_refl _,hs,fun e=>absurd e RH,ht []⟩⟩
     cases p1:(x.phase==1) with
     | true=>
       have p2:=gq p1 (show (1:Int)≠2 by decide);cases h3:fH (aW x) x.l.w x.l.a (x.heard++[r.from_]) with
       |false=>rw[e0.trans (Im h1 h2 p1 p2 h3)];exact RI.1
       | true=>
         rw[e0.trans (Io h1 h2 p1 h3)];have hl9:=hlast _ rfl;have hn0:x.n=0:=h.n1 (by simpa using p1);have tq:=h.su;refine⟨zJ hy ⟨by omega,by omega⟩ dx,?_,?_,fun e=>absurd e RH,?_⟩
         ·rw[Be];omega
         ·rw[Bf];show x.sure≤min (max x.sure r.sure) 8;omega
         refine twF ?_ k2;rw[iD];exact zK _ _
     |false=>
     cases p2:(x.phase==2) with
     |false=>rw[e0.trans (Ij h1 h2 p1 p2)];exact RI.1
     |true=>
     cases h3:(aJ x).any (· == r.from_) with
     |false=>rw[e0.trans (Ik h1 h2 p1 p2 h3)];exact RI.1
     |true=>rw[e0.trans (Il h1 h2 p1 p2 h3)];exact RI.2
 |false=>
 have adz:∀(hp3:x.phase=3) (hkn:(r.n==x.n)=true) (tw:∀y:Rv,y.phase=3→y.n=x.n→y.has.any (· == r.from_)=true→bX y now r=(y,[])),Bg l k x now r (lY x now r.from_):=by
  intro hp3 hkn tw;have RH:x.phase≠4:=by omega
  have hn8:=h.n3 (.inr hp3);cases hh:x.has.any (· == r.from_) with
  |true=>rw[E8 hh];exact ok0 h (tw x hp3 rfl hh)
  |false=>
  have hb0:RBase l (k+1) { x with has:=x.has++[r.from_] }:=⟨h.hl,h.su,Nat.le_succ_of_le h.he,h.fl,h.fr,h.bs⟩;cases xS:bI (aj x) x.l.a (x.has++[r.from_]) with
  | false=>
    rw[Po hh xS];refine⟨⟨hb0,h.ph,h.n0,h.n1,h.n3,Nat.le_succ_of_le h.no,?_,by have:=h.ba;show x.bad.length≤_;omega,h.bo⟩,Int.le_refl _,Int.le_refl _,fun e=>absurd e RH,tw _ hp3 rfl (zK _ _)⟩;show (x.has++[r.from_]).length≤_
    rw[List.length_append];have:=h.ha;simp;omega
  | true=>
    rw[Pp hh xS];refine⟨zJ hb0 ⟨by have:=h.n0;omega,by omega⟩ dx,?_,?_,fun e=>absurd e RH,twN k2 ?_⟩
    ·rw[Be];omega
    ·rw[Bf];exact Int.le_refl _
    rw[Be];have:r.n=x.n:=by simpa using hkn
    rw[this];simp;omega
 cases k3:(r.kind==3) with
 | true=>
   have k1:=gq k3 (show (3:Int)≠1 by decide);cases kn:(r.n==x.n) with
   |false=>rw[twN k2 kn];exact ok0 h (twN k2 kn)
   | true=>
     have e0:bX x now r=ny x now r:=by simp only[bX,g1,g2,k2,k3,kn,Bool.or_self,Bool.and_self,Bool.false_and,Bool.false_eq_true,↓reduceIte]
     rw[e0];cases c1:(x.phase==2&&(r.code==0&&(aJ x).any (· == r.from_))) with
     | true=>
       have e2:ny x now r=((bO (aT x now r) now).1,bn (aT x now r) (aj (aT x now r))++(bO (aT x now r) now).2):=by simp only[ny,c1,↓reduceIte]
       rw[e2];simp only[Bool.and_eq_true] at c1;obtain⟨p2,k0,h1⟩:=c1;have hp2:x.phase=2:=by simpa using p2
       have RH:x.phase≠4:=by omega
       have hn8:=h.n3 (.inl hp2);have hb0:RBase l (k+1) (aT x now r):=⟨h.hl,h.su,Nat.le_succ_of_le h.he,h.fl,h.fr,⟨dx,dx⟩⟩;cases xS:bI (aj (aT x now r)) x.l.a [r.from_] with
       | false=>
         have e3:bO (aT x now r) now=(aT x now r,[]):=by
          unfold bO;exact if_neg (by show ¬(bI (aj (aT x now r)) x.l.a [r.from_]=true);rw[xS];decide)
         rw[e3];refine⟨⟨hb0,.inr (.inr (.inl rfl)),h.n0,fun e=>absurd e (by show ¬(3:Int)=1;decide),fun _=>hn8,Nat.le_succ_of_le h.no,(by show 1≤k+1+1;omega),(by have:=h.ba;show x.bad.length≤_;omega),hb⟩,Int.le_refl _,Int.le_refl _,fun e=>absurd e RH,?_⟩;exact twH k2 k3 rfl (by show [r.from_].any (· == r.from_)=true;simp)
       | true=>
         have e3:bO (aT x now r) now=bQ (aT x now r) (x.n+1) now:=by
          unfold bO;exact if_pos xS
         rw[e3];refine⟨zJ hb0 ⟨by have:=h.n0;omega,by omega⟩ dx,?_,?_,fun e=>absurd e RH,twN k2 ?_⟩
         ·show x.n≤(bQ _ _ _).1.n;rw[Be];omega
         ·show x.sure≤(bQ _ _ _).1.sure;rw[Bf];exact Int.le_refl _
         show (r.n==(bQ _ _ _).1.n)=false
         rw[Be];have:r.n=x.n:=by simpa using kn
         rw[this];simp;omega
     |false=>
     cases c2:(x.phase==2&&(r.code==3&&((aJ x).any (· == r.from_)&&(x.heard.any (· == r.from_) && !x.none.any (· == r.from_))))) with
     | true=>
       have e2:ny x now r=(if fG (aJ x) x.l.w x.l.a (x.none++[r.from_]) then { x with none:=x.none++[r.from_],phase:=4 } else { x with none:=x.none++[r.from_] },[]):=by
        simp only[ny,c1,c2,Bool.false_eq_true,↓reduceIte]
       rw[e2];simp only[Bool.and_eq_true] at c2;obtain⟨p2,Mc,h1,h2,h3⟩:=c2;have hp2:x.phase=2:=by simpa using p2
       have RH:x.phase≠4:=by omega
       have hn8:=h.n3 (.inl hp2);have k0:=gq Mc (show (3:Int)≠0 by decide);have hlen:(x.none++[r.from_]).length≤k+1:=by rw[List.length_append];have:=h.no;simp;omega
       have hb0:RBase l (k+1) x:=h.toRBase.up;cases h4:fG (aJ x) x.l.w x.l.a (x.none++[r.from_]) with
       | false=>
         rw[if_neg (by decide)];refine⟨⟨⟨hb0.hl,hb0.su,hb0.he,hb0.fl,hb0.fr,hb0.bs⟩,h.ph,h.n0,h.n1,h.n3,hlen,Nat.le_succ_of_le h.ha,(by have:=h.ba;show x.bad.length≤_;omega),h.bo⟩,Int.le_refl _,Int.le_refl _,fun e=>absurd e RH,?_⟩;exact twG k2 k3 (by show (x.phase==3)=false;rw[hp2];rfl) k0 (zK _ _)
       | true=>
         rw[if_pos rfl];refine⟨⟨⟨hb0.hl,hb0.su,hb0.he,hb0.fl,hb0.fr,hb0.bs⟩,.inr (.inr (.inr rfl)),h.n0,fun e=>absurd e (by show ¬(4:Int)=1;decide),fun _=>hn8,hlen,Nat.le_succ_of_le h.ha,(by have:=h.ba;show x.bad.length≤_;omega),h.bo⟩,Int.le_refl _,Int.le_refl _,fun e=>absurd e RH,?_⟩;exact tw4 rfl
     |false=>
     cases c3:(x.phase==3&&(r.code==0&&decide (r.body=x.body))) with
     | false=>
       have e2:ny x now r=(x,[]):=by simp only[ny,c1,c2,c3,Bool.false_eq_true,↓reduceIte]
       rw[e2];exact ok0 h (e0.trans e2)
     | true=>
       have e2:ny x now r=lY x now r.from_:=by simp only[ny,c1,c2,c3,Bool.false_eq_true,↓reduceIte]
       rw[e2];simp only[Bool.and_eq_true] at c3;exact adz (by simpa using c3.1) kn fun y hy _ hh=>twH k2 k3 (by rw[hy];rfl) hh
 |false=>
 cases k1:(r.kind==1) with
 | false=>
   have e:bX x now r=(x,[]):=by simp only[bX,g1,g2,k2,k3,k1,Bool.or_self,Bool.false_and,Bool.false_eq_true,↓reduceIte]
   rw[e];exact ok0 h e
 |true=>
 cases kn:(r.n==x.n) with
 |false=>rw[twN k2 kn];exact ok0 h (twN k2 kn)
 |true=>
 cases p3:(x.phase==3) with
 | false=>
   have e:bX x now r=(x,[]):=by simp only[bX,g1,g2,k2,k3,k1,kn,p3,Bool.or_self,Bool.true_and,Bool.false_and,Bool.and_false,Bool.false_eq_true,↓reduceIte]
   rw[e];exact ok0 h e
 | true=>
   have e0:bX x now r=fT x now r:=by simp only[bX,g1,g2,k2,k3,k1,kn,p3,Bool.or_self,Bool.and_self,Bool.false_and,Bool.false_eq_true,↓reduceIte]
   rw[e0];have hp3:x.phase=3:=by simpa using p3
   have RH:x.phase≠4:=by omega
   have RD:(aj x).length≤5:=by
    have hw:x.l.w≤5:=by
     rw[h.hl];simp only[d9,Bool.and_eq_true,dI,decide_eq_true_eq] at hmay;exact hmay.2.2.1
    unfold aj setOf;split
    ·simp
    split
    ·simp only[fF,List.length_map,List.length_range];omega
    simp
   have adA:∀is:Pl→Bool,(∀y:Rv,y.bad=aD is y.bad (aj y)→fT y now r=(y,[]))→Bg l k x now r ({ x with bad:=aD is x.bad (aj x) },[]):=by
    intro is hy;refine⟨⟨⟨h.hl,h.su,Nat.le_succ_of_le h.he,h.fl,h.fr,h.bs⟩,h.ph,h.n0,h.n1,h.n3,Nat.le_succ_of_le h.no,Nat.le_succ_of_le h.ha,?_,h.bo⟩,Int.le_refl _,Int.le_refl _,fun e=>absurd e RH,tw1 k2 k3 (hy _ ?_)⟩
    ·have:=jZ is (aj x) x.bad;have:=h.ba;show (aD is x.bad (aj x)).length≤_
     omega
    show aD is x.bad (aj x)=aD is (aD is x.bad (aj x)) (aj x)
    rw[JS]
   cases k0:(r.code==0) with
   | true=>
     rw[show fT x now r=lY x now r.from_ by simp only[fT,k0,↓reduceIte]];exact adz hp3 kn fun y hy _ hh=>tw1 k2 k3 (by simp only[fT,k0,↓reduceIte];exact E8 hh)
   |false=>
   cases DT:(r.code==2) with
   | true=>
     rw[show fT x now r=({ x with bad:=aD (· == r.from_) x.bad (aj x) },[]) by simp only[fT,k0,DT,Bool.false_eq_true,↓reduceIte]];exact adA _ fun y hy=>by
      simp only[fT,k0,DT,Bool.false_eq_true,↓reduceIte];rw[←hy]
   |false=>
   cases k4:(r.code==4) with
   | true=>
     rw[show fT x now r=({ x with bad:=aD (fun y=>y.node==r.from_.node&&y.aI != r.from_.aI) x.bad (aj x) },[]) by simp only[fT,k0,DT,k4,Bool.false_eq_true,↓reduceIte]];exact adA _ fun y hy=>by
      simp only[fT,k0,DT,k4,Bool.false_eq_true,↓reduceIte];rw[←hy]
   | false=>
     have e:fT x now r=(x,[]):=by simp only[fT,k0,DT,k4,Bool.false_eq_true,↓reduceIte]
     rw[e];exact ok0 h (e0.trans e)
end
end Go.AX
end
