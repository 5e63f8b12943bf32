/-
  Conditions: none. A framework for walks: abstract values, memory, and conditions that suffice; the chapters in plain terms.
-/
import Derived.Laws.AppendOwn
import Derived.Orders
import Derived.Tactics
import Derived.RangeFuncWrites
import Derived.Laws.Cells
import Derived.Laws.MakeOwn
import Derived.Laws.CopyRow
import Derived.Laws.StructEq
import Derived.Laws.BytesString
set_option linter.unusedSectionVars false
set_option linter.unusedVariables false
set_option linter.unusedSimpArgs false
section
namespace Go.AX
inductive PV where
 |sc (v:Value)
 |agg (cs:List PV)
 |cK (vs:List PV)
 |sl (nn:Bool) (st:Nat) (rows:List (List PV))
 |dU (row:List PV) (off:Nat)
 |fn (f:Fn) (first bD:List PV)
 |junk
 /-- a slice without room behind it -/
 |O8 (st:Nat) (rows:List (List PV))
inductive AV where
 |pv (p:PV)
 |agg (cs:List AV)
 |cK (vs:List AV)
 |ptr (b off:Nat)
 |eY (b ver i off:Nat)
 |aO (b ver:Nat)
 /-- the rows from lo to hi of a slice of uT own,of st cells each -/
 |sub (b ver st lo hi:Nat)
 |fn (f:Fn) (first bD:List AV)
inductive aI where
 |var (cells:List AV)
 |oN (cells:List PV)
 |arr (e:TypeId) (ver st:Nat) (rows:List (List PV))
 |d9 (ver st:Nat) (rows:List (List PV))
 /-- of an iterator: what is still to be yielded;has the loop been left? -/
 |tr (y:Program×Nat) (ver:Nat) (rest:List (List PV)) (st:Option Bool)
 /-- an array of uT own,one of Sr rows is laid open: it may have references -/
 |iP (e:TypeId) (ver st:Nat) (pre:List (List PV)) (row:List AV) (post:List (List PV))

structure AS where
 tm:List (Nat×AV)
 nx:Nat
 hp:List (Nat×aI)
def lk {α:Type}:List (Nat×α)→Nat→Option α
 |[],_=>none
 | (k,v)::r,t=>match Nat.beq k t with
   |true=>some v
   |false=>lk r t
theorem aG {α:Type}(k:Nat)(v:α)(r:List (Nat×α))(t:Nat):lk ((k,v)::r) t=if k=t then some v else lk r t:=by
 simp only[lk];cases h:Nat.beq k t with
 |true=>simp[Nat.eq_of_beq_eq_true h]
 |false=>simp[Nat.ne_of_beq_eq_false h]
section
variable (N:Nat→Prop)(w:World)
mutual
def bL:PV→Value→Prop
 |.sc x,v=>v=x
 |.agg cs,v=>∃vs:Array Value,v=.agg vs∧jk cs vs.toList
 |.cK cs,v=>∃vs:Array Value,v=.tuple vs∧fE cs vs.toList
 | .sl nn X G,v=>∃(p:Option Addr) (Q K:Nat),v=.slice p Q K∧Q=G.length∧(Q≤K∧K≤9223372036854775807)∧(p=none→nn=false∧K=0) ∧
   ∀a,p=some a→G=[]∨(a.spot=none∧¬N a.block∧∃J e S,w.heap[a.block]? = some (.cells J e S)∧dI X G (J.toList.drop a.off))
 | .dU V off,v=>∃(g base:Nat) (J:Array Value) (e:TypeId) (S:Nat×Nat),v=.pointer (some ⟨g,base+off,none⟩)∧¬N g ∧
   w.heap[g]? = some (.cells J e S)∧jD V (J.toList.drop base)
 |.fn f first bD,v=>∃fs cs:Array Value,v=.func f fs cs∧fE first fs.toList∧fE bD cs.toList
 |.junk,_=>True
 | .O8 X G,v=>∃a:Addr,v=.slice (some a) G.length G.length∧G.length≤9223372036854775807 ∧
   (G=[]∨(a.spot=none∧¬N a.block∧∃J e S,w.heap[a.block]? = some (.cells J e S)∧dI X G (J.toList.drop a.off)))
def fE:List PV→List Value→Prop
 |[],vs=>vs=[]
 |p::G,vs=>∃v r,vs=v::r∧bL p v∧fE G r
def jk:List PV→List Value→Prop
 |[],vs=>vs=[]
 |p::G,vs=>∃v r,vs=v::r∧v.oneCell'=true∧bL p v∧jk G r
def jD:List PV→List Value→Prop
 |[],_=>True
 |p::G,vs=>∃v r,vs=v::r∧v.oneCell'=true∧bL p v∧jD G r
def dI (st:Nat):List (List PV)→List Value→Prop
 |[],_=>True
 |row::G,vs=>row.length=st∧jD row vs∧dI st G (vs.drop st)
end
end
theorem size_of_getElem? {α:Type}{a:Array α}{i:Nat}{x:α}(h:a[i]? = some x):i<a.size:=(Array.getElem?_eq_some_iff.1 h).1
section
variable {N N':Nat→Prop}{w w':World}(hN:∀r,r<w.heap.size→N' r→N r)(hw:∀r,r<w.heap.size→¬N r→w'.heap[r]? = w.heap[r]?)
include hN hw
mutual
theorem dV:∀(p:PV) (v:Value),bL N w p v→bL N' w' p v
 |.sc x,v=>by simp only[bL];exact id
 |.agg cs,v=>by simp only[bL];rintro⟨vs,h1,h2⟩;exact⟨vs,h1,H9 cs _ h2⟩
 |.cK cs,v=>by simp only[bL];rintro⟨vs,h1,h2⟩;exact⟨vs,h1,oO cs _ h2⟩
 | .sl nn st K,v=>by
   simp only[bL];rintro⟨p,aa,X,h1,h2,h3,h4,h5⟩
   refine⟨p,aa,X,h1,h2,h3,h4,fun a ha=>?_⟩;rcases h5 a ha with G|⟨h6,G,J,e,S,Q,V⟩
   ·exact .inl G
   have hs:=size_of_getElem? Q;exact .inr ⟨h6,fun h=>G (hN _ hs h),J,e,S,(hw _ hs G).trans Q,bg st K _ V⟩
 | .dU ad off,v=>by
   simp only[bL];rintro⟨g,base,J,e,S,h1,G,Q,V⟩
   have hs:=size_of_getElem? Q;exact⟨g,base,J,e,S,h1,fun h=>G (hN _ hs h),(hw _ hs G).trans Q,fJ ad _ V⟩
 | .fn f first bD,v=>by
   simp only[bL];rintro⟨fs,cs,h1,h2,h3⟩;exact⟨fs,cs,h1,oO _ _ h2,oO _ _ h3⟩
 |.junk,v=>by simp only[bL];exact id
 | .O8 st K,v=>by
   simp only[bL];rintro⟨a,h1,h2,h5⟩
   refine⟨a,h1,h2,?_⟩;rcases h5 with G|⟨h6,G,J,e,S,Q,V⟩
   ·exact .inl G
   have hs:=size_of_getElem? Q;exact .inr ⟨h6,fun h=>G (hN _ hs h),J,e,S,(hw _ hs G).trans Q,bg st K _ V⟩
theorem oO:∀(ps:List PV) (vs:List Value),fE N w ps vs→fE N' w' ps vs
 |[],vs=>by simp only[fE];exact id
 |p::ps,vs=>by simp only[fE];rintro⟨v,r,h1,h2,h3⟩;exact⟨v,r,h1,dV p v h2,oO ps r h3⟩
theorem H9:∀(ps:List PV) (vs:List Value),jk N w ps vs→jk N' w' ps vs
 |[],vs=>by simp only[jk];exact id
 |p::ps,vs=>by simp only[jk];rintro⟨v,r,h1,G,h2,h3⟩;exact⟨v,r,h1,G,dV p v h2,H9 ps r h3⟩
theorem fJ:∀(ps:List PV) (vs:List Value),jD N w ps vs→jD N' w' ps vs
 |[],vs=>by simp only[jD];exact id
 |p::ps,vs=>by simp only[jD];rintro⟨v,r,h1,G,h2,h3⟩;exact⟨v,r,h1,G,dV p v h2,fJ ps r h3⟩
theorem bg (st:Nat):∀(rows:List (List PV)) (vs:List Value),dI N w st rows vs→dI N' w' st rows vs
 |[],vs=>by simp only[dI];exact id
 |row::rows,vs=>by simp only[dI];rintro⟨h1,h2,h3⟩;exact⟨h1,fJ row _ h2,bg st rows _ h3⟩
end
end
structure mV (O:Nat→Prop)(w w':World):Prop where
 size:w.heap.size≤w'.heap.size
 keep:∀r,r<w.heap.size→¬O r→w'.heap[r]? = w.heap[r]?
 os:w'.os=w.os
 tape:w'.tape=w.tape
 output:w'.output=w.output
theorem mV.refl (O:Nat→Prop)(w:World):mV O w w:=⟨Nat.le_refl _,fun _ _ _=>rfl,rfl,rfl,rfl⟩
theorem mV.trans {O O':Nat→Prop}{w Q S:World}(h:mV O w Q)(G:mV O' Q S)(V:∀r,r<w.heap.size→O' r→O r):mV O w S:=
 ⟨Nat.le_trans h.size G.size,fun r J K=>(G.keep r (Nat.lt_of_lt_of_le J h.size) fun x=>K (V r J x)).trans (h.keep r J K),
  G.os.trans h.os,G.tape.trans h.tape,G.output.trans h.output⟩
theorem mV.mono {O O':Nat→Prop}{w G:World}(h:mV O w G)(K:∀r,O r→O' r):mV O' w G:=
 ⟨h.size,fun r Q J=>h.keep r Q fun x=>J (K r x),h.os,h.tape,h.output⟩
structure DF (n0:Nat)(Z D:Nat→Prop)(w w':World):Prop where
 size:w.heap.size≤w'.heap.size
 keep:∀r o,w.heap[r]? = some o→¬Z r→(r<n0∨o.isCells=true∨D r)→w'.heap[r]? = some o
 os:w'.os=w.os
 tape:w'.tape=w.tape
 output:w'.output=w.output
theorem DF.refl (G:Nat)(Z D:Nat→Prop)(w:World):DF G Z D w w:=⟨Nat.le_refl _,fun _ _ h _ _=>h,rfl,rfl,rfl⟩
theorem DF.step {S:Nat}{Z D O:Nat→Prop}{w V X:World}(h:DF S Z D w V)(G:mV O V X)(ho:∀r,r<w.heap.size→O r→Z r):DF S Z D w X:=
 ⟨Nat.le_trans h.size G.size,fun r o K Q hc=>by
   have J:=(Array.getElem?_eq_some_iff.1 K).1;rw[G.keep r (Nat.lt_of_lt_of_le J h.size) fun x=>Q (ho r J x)];exact h.keep r o K Q hc,G.os.trans h.os,G.tape.trans h.tape,G.output.trans h.output⟩
structure YS where
 Z:Nat→Prop
 D:Nat→Prop
 wy:World
 n0:Nat×(List (List PV)→Bool→(Nat→Prop)→(Nat→Prop)→World→Prop)
def YH (y:Program×Nat)(S:Nat)(J:List (List PV)→Bool→(Nat→Prop)→(Nat→Prop)→World→Prop):Prop:=
 ∀(x:List PV) (rest:List (List PV)) (Z D:Nat→Prop) (K w:World) (G:Nat→Prop) (vs:List Value),J (x::rest) false Z D K→DF S Z D K w→(∀r,D r→r<K.heap.size) →
  (∀r,G r→Z r∨K.heap.size≤r)→(∀r,G r→r<w.heap.size)→(∀r,G r→¬D r)→fE (fun r=>D r∨G r) w x vs →
  YieldAt Fence.wide 0 y.1 y.2 vs.toArray w fun e w'=>∃(Q:Nat→Prop) (b:Bool),e=.returned (.bool b)∧mV D w w'∧(∀r,Q r→D r∨w.heap.size≤r)∧(∀r,Q r→r<w'.heap.size)∧J rest (!b) G Q w'
structure Real where
 blk:Nat→Nat
 nil:Nat→Bool
 /-- how aia room;the headers of a family;where in its block an array afI -/
 cap:Nat→Nat×List (Option Value)×Nat
 Y:YS
def dW (R:Real)(b n:Nat):Value:=if R.nil b then .slice none 0 0 else .slice (some ⟨R.blk b,(R.cap b).2.2,none⟩) n (R.cap b).1
def bf (R:Real)(b off:Nat)(v:Value):Option aI→Prop
 |some (.var _)=>v=.pointer (some ⟨R.blk b,off,none⟩)
 |some (.oN _)=>v=.pointer (some ⟨R.blk b,off,none⟩)
 |_=>False
def aX (R:Real)(b ver:Nat)(v:Value):Option aI→Prop
 |some (.arr _ J _ G)=>ver≤J∧v.oneCell'=true∧(ver=J→v=dW R b G.length)
 |some (.d9 J _ G)=>ver≤J∧v.oneCell'=true∧(ver=J→v=dW R b G.length)
 |some (.iP _ J _ pre _ post)=>ver≤J∧v.oneCell'=true∧(ver=J→v=dW R b (pre.length+(1+post.length)))
 |_=>False
def bC (R:Real)(b ver i off:Nat)(v:Value):Option aI→Prop
 |some (.arr _ G J _)=>ver≤G∧v.oneCell'=true∧(ver=G→R.nil b=false∧v=.pointer (some ⟨R.blk b,(R.cap b).2.2+i*J+off,none⟩))
 |some (.d9 G J _)=>ver≤G∧v.oneCell'=true∧(ver=G→R.nil b=false∧v=.pointer (some ⟨R.blk b,(R.cap b).2.2+i*J+off,none⟩))
 |some (.iP _ G J _ _ _)=>ver≤G∧v.oneCell'=true∧(ver=G→R.nil b=false∧v=.pointer (some ⟨R.blk b,(R.cap b).2.2+i*J+off,none⟩))
 |some (.tr _ G _ J)=>ver≤G∧v.oneCell'=true∧(ver=G→J=none→v=.bool (R.nil b != Nat.beq off 1))
 |_=>False
def iZ (st J hi:Nat):Value→Value
 |.slice (some a) _ G=>.slice (some (if G=J then a else a.add (J*st))) (hi-J) (G-J)
 |_=>.slice none 0 0
def pz (G hi:Nat):Value→Prop
 |.slice _ n _=>G≤hi∧hi≤n
 |_=>False
theorem Lu (st G hi:Nat)(u:Value):(iZ st G hi u).oneCell'=true:=by
 unfold iZ;split<;>rfl
section
variable (N:Nat→Prop)(w:World)(hp:List (Nat×aI))(R:Real)
mutual
def au:AV→Value→Prop
 |.pv p,v=>bL N w p v
 |.agg cs,v=>∃vs:Array Value,v=.agg vs∧dZ cs vs.toList
 |.cK cs,v=>∃vs:Array Value,v=.tuple vs∧dw cs vs.toList
 |.ptr b off,v=>bf R b off v (lk hp b)
 |.aO b ver,v=>aX R b ver v (lk hp b)
 |.sub b ver K J hi,v=>∃u,aX R b ver u (lk hp b)∧pz J hi u∧v=iZ K J hi u
 |.eY b ver i off,v=>bC R b ver i off v (lk hp b)
 |.fn f first bD,v=>∃G cs:Array Value,v=.func f G cs∧dw first G.toList∧dw bD cs.toList
def dw:List AV→List Value→Prop
 |[],vs=>vs=[]
 |p::G,vs=>∃v r,vs=v::r∧au p v∧dw G r
def dZ:List AV→List Value→Prop
 |[],vs=>vs=[]
 |p::G,vs=>∃v r,vs=v::r∧v.oneCell'=true∧au p v∧dZ G r
end
end
section
variable {N N':Nat→Prop}{w w':World}{hp hp':List (Nat×aI)}{R R':Real}
variable (hN:∀r,r<w.heap.size→N' r→N r)(hw:∀r,r<w.heap.size→¬N r→w'.heap[r]? = w.heap[r]?)
variable (h1:∀b off v,bf R b off v (lk hp b)→bf R' b off v (lk hp' b))
variable (h2:∀b ver v,aX R b ver v (lk hp b)→aX R' b ver v (lk hp' b))
variable (h3:∀b ver i off v,bC R b ver i off v (lk hp b)→bC R' b ver i off v (lk hp' b))
include hN hw h1 h2 h3
mutual
theorem dM:∀(p:AV) (v:Value),au N w hp R p v→au N' w' hp' R' p v
 |.pv p,v=>by simp only[au];exact dV hN hw p v
 |.agg cs,v=>by simp only[au];rintro⟨vs,a,b⟩;exact⟨vs,a,dK cs _ b⟩
 |.cK cs,v=>by simp only[au];rintro⟨vs,a,b⟩;exact⟨vs,a,sQ cs _ b⟩
 |.ptr b off,v=>by simp only[au];exact h1 b off v
 |.aO b ver,v=>by simp only[au];exact h2 b ver v
 |.sub b ver K J hi,v=>by simp only[au];rintro⟨u,a,c⟩;exact⟨u,h2 b ver u a,c⟩
 |.eY b ver i off,v=>by simp only[au];exact h3 b ver i off v
 | .fn f first bD,v=>by
   simp only[au];rintro⟨G,cs,a,b,c⟩;exact⟨G,cs,a,sQ _ _ b,sQ _ _ c⟩
theorem sQ:∀(ps:List AV) (vs:List Value),dw N w hp R ps vs→dw N' w' hp' R' ps vs
 |[],vs=>by simp only[dw];exact id
 |p::ps,vs=>by simp only[dw];rintro⟨v,r,a,b,c⟩;exact⟨v,r,a,dM p v b,sQ ps r c⟩
theorem dK:∀(ps:List AV) (vs:List Value),dZ N w hp R ps vs→dZ N' w' hp' R' ps vs
 |[],vs=>by simp only[dZ];exact id
 |p::ps,vs=>by simp only[dZ];rintro⟨v,r,a,d,b,c⟩;exact⟨v,r,a,d,dM p v b,dK ps r c⟩
end
end
def aQ (R:Real)(b r:Nat):Option aI→Prop
 |some (.var _)=>R.blk b=r
 |some (.arr _ _ _ _)=>R.nil b=false∧R.blk b=r
 |some (.tr _ _ _ _)=>R.Y.D r
 |some (.iP _ _ _ _ _ _)=>R.nil b=false∧R.blk b=r
 |_=>False
def owned (R:Real)(hp:List (Nat×aI))(r:Nat):Prop:=∃b,aQ R b r (lk hp b)
def O1 (w:World)(e:TypeId)(size:Nat)(v:Value)(n:Nat)(xs:List Value):Prop:=
 xs.length=n*size ∧
 ((v=.slice none 0 0∧n=0) ∨
  ∃g G J o,v=.slice (some ⟨g,o,none⟩) n G∧w.heap[g]? = some (.cells J e (0,0))∧n≤G∧G≤maxLen∧o+G*size≤J.size∧(J.toList.drop o).take (n*size)=xs)
theorem O1.lt {w:World}{e:TypeId}{size:Nat}{v:Value}{n:Nat}{xs:List Value}(h:O1 w e size v n xs):∀k,v.ownBlock=some k→0≤k∧k<w.heap.size:=by
 intro k G;rcases h.2 with ⟨rfl,_⟩|⟨g,J,K,o,rfl,Q,_⟩
 ·simp[Value.ownBlock] at G
 simp[Value.ownBlock] at G;subst G;exact⟨Nat.zero_le _,size_of_getElem? Q⟩
theorem acJ (w:World)(e:TypeId)(size:Nat):O1 w e size (.slice none 0 0) 0 []:=⟨by simp,.inl ⟨rfl,rfl⟩⟩
def fK (N:Nat→Prop)(w:World)(hp:List (Nat×aI))(R:Real)(b:Nat):aI→Prop
 |.var J=>∃Q e,w.heap[R.blk b]? = some (.cells Q e (0,0))∧dZ N w hp R J Q.toList
 |.oN J=>∃Q e V,w.heap[R.blk b]? = some (.cells Q e V)∧¬N (R.blk b)∧jD N w J Q.toList
 |.arr e _ K G=>∃xs,O1 w e K (dW R b G.length) G.length xs∧dI N w K G xs
 |.d9 _ K G=>bL N w (.sl false K G) (dW R b G.length)
 |.tr y _ rest K=>b=999∧YH y R.Y.n0.1 R.Y.n0.2∧R.Y.n0.2 rest (K.getD (!R.nil b)) R.Y.Z R.Y.D R.Y.wy∧DF R.Y.n0.1 R.Y.Z R.Y.D R.Y.wy w∧(∀r,R.Y.D r→r<R.Y.wy.heap.size)∧∀r,N r→R.Y.D r∨R.Y.Z r∨R.Y.wy.heap.size≤r
 |.iP e _ K pre S post=>∃xs,O1 w e K (dW R b (pre.length+(1+post.length))) (pre.length+(1+post.length)) xs∧dI N w K pre xs∧S.length=K∧dZ N w hp R S ((xs.drop (pre.length*K)).take K)∧dI N w K post ((xs.drop (pre.length*K)).drop K)
def jP:AV→Bool
 |.ptr b _=>Nat.blt b 1000
 |.eY b _ _ _=>Nat.blt b 1000 && !Nat.beq b 999
 |.aO b _=>Nat.blt b 1000
 |_=>false
structure Ctx where
 F:Nat→Prop
 O:Nat→Prop
 w:World
 n:Nat
 hF:∀r,F r→r<w.heap.size
 K:AV→Value→Prop
 hK:∀v x,K v x→jP v=true
 /-- akj that are no cells,and stay -/
 fix:Nat→Option Obj
 /-- the akK size when the Ew call amS;when this call did -/
 n0:Nat×(List (List PV)→Bool→(Nat→Prop)→(Nat→Prop)→World→Prop)
 lo:Nat
def bA (c:Ctx)(R:Real)(hp:List (Nat×aI))(r:Nat):Prop:=c.F r∨owned R hp r
def mark (D:Nat):Deferred:={ target:=.collected D,args:=#[] }
structure Marks (lo:Nat)(own:Nat→Prop)(w:World)(ds:List Deferred)(Ds:List Nat):Prop where
 low:∀D∈Ds,lo≤D
 eq:ds=Ds.map mark
 nodup:Ds.Nodup
 obj:∀D∈Ds,w.heap[D]? = some (.deferred (some []))
 free:∀D∈Ds,¬own D
structure uF (fix:Nat→Option Obj)(own:Nat→Prop)(w:World):Prop where
 obj:∀r o,fix r=some o→w.heap[r]? = some o
 free:∀r o,fix r=some o→¬own r
 nc:∀r o,fix r=some o→o.isCells=false
theorem Marks.kept {S:Nat}{G Q:Nat→Prop}{w w':World}{ds:List Deferred}{K:List Nat}(h:Marks S G w ds K)(hw:∀r,r<w.heap.size→¬G r→w'.heap[r]? = w.heap[r]?)
  (V:∀r,r<w.heap.size→Q r→G r):Marks S Q w' ds K:=
 ⟨h.low,h.eq,h.nodup,fun D J=>(hw D (size_of_getElem? (h.obj D J)) (h.free D J)).trans (h.obj D J),fun D J x=>h.free D J (V D (size_of_getElem? (h.obj D J)) x)⟩
theorem uF.kept {fix:Nat→Option Obj}{G K:Nat→Prop}{w w':World}(h:uF fix G w)(hw:∀r,r<w.heap.size→¬G r→w'.heap[r]? = w.heap[r]?)
  (Q:∀r,r<w.heap.size→K r→G r):uF fix K w':=
 ⟨fun r o J=>(hw r (size_of_getElem? (h.obj r o J)) (h.free r o J)).trans (h.obj r o J),fun r o J x=>h.free r o J (Q r (size_of_getElem? (h.obj r o J)) x),h.nc⟩
theorem uF.none {G:Nat→Prop}{w:World}:uF (fun _=>none) G w:=⟨fun _ _ h=>by simp at h,fun _ _ h=>by simp at h,fun _ _ h=>by simp at h⟩
theorem Marks.nil {J:Nat}{G:Nat→Prop}{w:World}:Marks J G w [] []:=⟨by simp,rfl,List.nodup_nil,by simp,by simp⟩
structure bN (c:Ctx)(R:Real)(s:AS)(a:Act)(w:World):Prop where
 slots:∀t v,lk s.tm t=some v→∃x,a.tmps[t]? = some x∧au (bA c R s.hp) w s.hp R v x
 size:a.tmps.size=c.n
 lo:R.Y.n0=c.n0∧c.n0.1≤c.lo∧c.lo≤w.heap.size
 marks:∃Ds,Marks c.lo (owned R s.hp) w a.defers Ds
 fixed:uF c.fix (owned R s.hp) w
 boxes:∀b box,lk s.hp b=some box→fK (bA c R s.hp) w s.hp R b box
 inj:∀b b' r,aQ R b r (lk s.hp b)→aQ R b' r (lk s.hp b')→b=b'
 free:∀r,owned R s.hp r→¬c.F r
 jV:mV c.O c.w w
 jy:∀r,owned R s.hp r→c.O r∨c.w.heap.size≤r
 kept:∀v x,c.K v x→au (bA c R s.hp) w s.hp R v x
theorem jL {R R':Real}{b n:Nat}(h:R'.blk b=R.blk b∧R'.nil b=R.nil b∧R'.cap b=R.cap b):dW R' b n=dW R b n:=by
 simp only[dW,h.1,h.2.1,h.2.2]
theorem oL {R R':Real}{b:Nat}(h:R'.blk b=R.blk b∧R'.nil b=R.nil b∧R'.cap b=R.cap b){off:Nat}{v:Value}{o:Option aI}
  (x:bf R b off v o):bf R' b off v o:=by
 cases o with
 |none=>exact x
 |some o=>cases o<;>simp only[bf,h.1] at x ⊢ <;> exact x
theorem qG {R R':Real}{b:Nat}(h:R'.blk b=R.blk b∧R'.nil b=R.nil b∧R'.cap b=R.cap b){ver:Nat}{v:Value}{o:Option aI}
  (x:aX R b ver v o):aX R' b ver v o:=by
 cases o with
 |none=>exact x
 |some o=>cases o<;>simp only[aX,jL h] at x ⊢ <;> exact x
theorem qH {R R':Real}{b:Nat}(h:R'.blk b=R.blk b∧R'.nil b=R.nil b∧R'.cap b=R.cap b){ver i off:Nat}{v:Value}{o:Option aI}
  (x:bC R b ver i off v o):bC R' b ver i off v o:=by
 cases o with
 |none=>exact x
 |some o=>cases o<;>simp only[bC,h.1,h.2.1,h.2.2] at x ⊢ <;> exact x
theorem iI {R R':Real}{b:Nat}(h:R'.blk b=R.blk b∧R'.nil b=R.nil b∧R'.cap b=R.cap b)(G:R'.Y=R.Y){r:Nat}{o:Option aI}
  (x:aQ R' b r o):aQ R b r o:=by
 cases o with
 |none=>exact x
 |some o=>cases o<;>simp only[aQ,h.1,h.2.1,h.2.2,G] at x ⊢ <;> exact x
theorem kZ {w w':World}{e size:Nat}{v:Value}{n:Nat}{xs:List Value}(h:O1 w e size v n xs)
  (Q:∀k,v.ownBlock=some k→w'.heap[k]? = w.heap[k]?):O1 w' e size v n xs:=by
 refine⟨h.1,?_⟩;rcases h.2 with S|⟨g,G,J,o,rfl,K,rest⟩
 ·exact .inl S
 exact .inr ⟨g,G,J,o,rfl,(Q g rfl).trans K,rest⟩
theorem mG {N:Nat→Prop}{w:World}{hp:List (Nat×aI)}{R:Real}{b r:Nat}{box:aI}(Q:fK N w hp R b box)(G:aQ R b r (some box)) :
  r<w.heap.size:=by
 cases box with
 | var J=>
   obtain⟨V,e,h,_⟩:=Q;simp only[aQ] at G;exact G▸size_of_getElem? h
 |oN J=>exact G.elim
 | arr e ver S K=>
   obtain⟨xs,h,_⟩:=Q;simp only[aQ] at G;exact (h.lt r (by simp[dW,G.1,G.2,Value.ownBlock])).2
 |d9 ver S K=>exact G.elim
 | tr y ver rest S=>
   obtain⟨_,_,_,X,h3,_⟩:=Q;exact Nat.lt_of_lt_of_le (h3 r G) X.size
 | iP e ver S pre aa post=>
   obtain⟨xs,h,_⟩:=Q;simp only[aQ] at G;exact (h.lt r (by simp[dW,G.1,G.2,Value.ownBlock])).2
theorem bN.mG {c:Ctx}{R:Real}{s:AS}{a:Act}{w:World}(g:bN c R s a w){b r:Nat}(G:aQ R b r (lk s.hp b)):r<w.heap.size:=by
 cases h:lk s.hp b with
 |none=>rw[h] at G;exact G.elim
 |some box=>rw[h] at G;exact AX.mG (g.boxes b box h) G
theorem bN.Nlt {c:Ctx}{R:Real}{s:AS}{a:Act}{w:World}(g:bN c R s a w){r:Nat}(h:bA c R s.hp r):r<w.heap.size:=by
 rcases h with h|⟨b,h⟩
 ·exact Nat.lt_of_lt_of_le (c.hF r h) g.jV.size
 exact g.mG h
theorem bN.G8 {c:Ctx}{R:Real}{s:AS}{a:Act}{w:World}(g:bN c R s a w){R':Real}{w':World}{b:Nat}{cZ:aI}
  (V:∀G,G≠b→R'.blk G=R.blk G∧R'.nil G=R.nil G∧R'.cap G=R.cap G)
  (r1:∀off v,bf R b off v (lk s.hp b)→bf R' b off v (some cZ))
  (r2:∀ver v,aX R b ver v (lk s.hp b)→aX R' b ver v (some cZ))
  (r3:∀ver i off v,bC R b ver i off v (lk s.hp b)→bC R' b ver i off v (some cZ))
  (K:∀r,aQ R' b r (some cZ)→aQ R b r (lk s.hp b)∨w.heap.size≤r)
  (J:mV (fun r=>aQ R b r (lk s.hp b)) w w') (hY:R'.Y=R.Y:=by rfl) :
  (∀r,r<w.heap.size→bA c R' ((b,cZ)::s.hp) r→bA c R s.hp r)∧(∀r,r<w.heap.size→¬bA c R s.hp r→w'.heap[r]? = w.heap[r]?) ∧
  (∀G off v,bf R G off v (lk s.hp G)→bf R' G off v (lk ((b,cZ)::s.hp) G)) ∧
  (∀G ver v,aX R G ver v (lk s.hp G)→aX R' G ver v (lk ((b,cZ)::s.hp) G)) ∧
  (∀G ver i off v,bC R G ver i off v (lk s.hp G)→bC R' G ver i off v (lk ((b,cZ)::s.hp) G)):=by
 have Q:lk ((b,cZ)::s.hp) b=some cZ:=by rw[aG,if_pos rfl]
 have S:∀G,G≠b→lk ((b,cZ)::s.hp) G=lk s.hp G:=fun G h=>by rw[aG,if_neg (fun e=>h e.symm)]
 refine⟨?_,?_,?_,?_,?_⟩
 ·rintro r X (h|⟨G,h⟩)
  ·exact .inl h
  by_cases e:G=b
  ·subst e;rw[Q] at h;exact .inr ⟨G,(K r h).resolve_right (by omega)⟩
  rw[S G e] at h;exact .inr ⟨G,iI (V G e) hY h⟩
 ·exact fun r X hn=>J.keep r X fun x=>hn (.inr ⟨b,x⟩)
 ·intro G off v h;by_cases e:G=b
  ·subst e;rw[Q];exact r1 off v h
  rw[S G e];exact oL (V G e) h
 ·intro G ver v h;by_cases e:G=b
  ·subst e;rw[Q];exact r2 ver v h
  rw[S G e];exact qG (V G e) h
 intro G ver i off v h;by_cases e:G=b
 ·subst e;rw[Q];exact r3 ver i off v h
 rw[S G e];exact qH (V G e) h
theorem bN.upd {c:Ctx}{R:Real}{s:AS}{a:Act}{w:World}(g:bN c R s a w){R':Real}{w':World}{b:Nat}{cZ:aI}{nx':Nat}
  (hR:∀G,G≠b→R'.blk G=R.blk G∧R'.nil G=R.nil G∧R'.cap G=R.cap G)
  (r1:∀off v,bf R b off v (lk s.hp b)→bf R' b off v (some cZ))
  (r2:∀ver v,aX R b ver v (lk s.hp b)→aX R' b ver v (some cZ))
  (r3:∀ver i off v,bC R b ver i off v (lk s.hp b)→bC R' b ver i off v (some cZ))
  (aa:∀r,aQ R' b r (some cZ)→aQ R b r (lk s.hp b)∨w.heap.size≤r)
  (J:mV (fun r=>aQ R b r (lk s.hp b)) w w')
  (Me:fK (bA c R' ((b,cZ)::s.hp)) w' ((b,cZ)::s.hp) R' b cZ) (hY:R'.Y=R.Y:=by rfl) :
  bN c R' ⟨s.tm,nx',(b,cZ)::s.hp⟩ a w':=by
 have DL:lk ((b,cZ)::s.hp) b=some cZ:=by rw[aG,if_pos rfl]
 have DR:∀G,G≠b→lk ((b,cZ)::s.hp) G=lk s.hp G:=fun G h=>by rw[aG,if_neg (fun e=>h e.symm)]
 have Kl:∀r,owned R' ((b,cZ)::s.hp) r→owned R s.hp r∨w.heap.size≤r:=by
  rintro r ⟨G,h⟩
  by_cases e:G=b
  ·subst e;rw[DL] at h;exact (aa r h).imp (fun x=>⟨G,x⟩) id
  rw[DR G e] at h;exact .inl ⟨G,iI (hR G e) hY h⟩
 have X:∀r,r<w.heap.size→bA c R' ((b,cZ)::s.hp) r→bA c R s.hp r:=by
  rintro r V (h|h)
  ·exact .inl h
  exact .inr ((Kl r h).resolve_right (by omega))
 have hw:∀r,r<w.heap.size→¬bA c R s.hp r→w'.heap[r]? = w.heap[r]? :=fun r V hn=>J.keep r V fun x=>hn (.inr ⟨b,x⟩)
 have p1:∀G off v,bf R G off v (lk s.hp G)→bf R' G off v (lk ((b,cZ)::s.hp) G):=fun G off v h=>by
  by_cases e:G=b
  ·subst e;rw[DL];exact r1 off v h
  rw[DR G e];exact oL (hR G e) h
 have p2:∀G ver v,aX R G ver v (lk s.hp G)→aX R' G ver v (lk ((b,cZ)::s.hp) G):=fun G ver v h=>by
  by_cases e:G=b
  ·subst e;rw[DL];exact r2 ver v h
  rw[DR G e];exact qG (hR G e) h
 have p3:∀G ver i off v,bC R G ver i off v (lk s.hp G)→bC R' G ver i off v (lk ((b,cZ)::s.hp) G):=fun G ver i off v h=>by
  by_cases e:G=b
  ·subst e;rw[DL];exact r3 ver i off v h
  rw[DR G e];exact qH (hR G e) h
 have ak:∀r,r<w.heap.size→¬owned R s.hp r→w'.heap[r]? = w.heap[r]? :=fun r V hn=>J.keep r V fun x=>hn ⟨b,x⟩
 have ai:∀r,r<w.heap.size→owned R' ((b,cZ)::s.hp) r→owned R s.hp r:=fun r V h=>(Kl r h).resolve_right (by omega)
 refine⟨?_,g.size,⟨by rw[hY];exact g.lo.1,g.lo.2.1,Nat.le_trans g.lo.2.2 J.size⟩,g.marks.imp fun Ds h=>h.kept ak ai,g.fixed.kept ak ai,?_,?_,?_,?_,?_,fun v x h=>dM X hw p1 p2 p3 v x (g.kept v x h)⟩
 ·intro t v h;obtain⟨x,hx,hv⟩:=g.slots t v h;exact⟨x,hx,dM X hw p1 p2 p3 v x hv⟩
 ·intro G box h;by_cases e:G=b
  ·subst e;simp only[DL,Option.some.injEq] at h;subst h;exact Me
  simp only[DR G e] at h;have V:=g.boxes G box h;have S:=hR G e;have Q:∀r,aQ R G r (lk s.hp G)→w'.heap[r]? = w.heap[r]? :=fun r ho=>
   J.keep r (g.mG ho) fun x=>e (g.inj G b r ho x)
  rw[h] at Q;cases box with
  | var ad=>
    obtain⟨ae,e',h8,h9⟩:=V;refine⟨ae,e',?_,dK X hw p1 p2 p3 _ _ h9⟩;rw[S.1,Q _ rfl];exact h8
  | oN ad=>
    obtain⟨ae,e',fr,h8,h7,h9⟩:=V;have hs:=size_of_getElem? h8;refine⟨ae,e',fr,?_,?_,fJ X hw _ _ h9⟩
    ·rw[S.1,hw _ hs h7];exact h8
    rw[S.1];exact fun x=>h7 (X _ hs x)
  | arr e' ver st al=>
    obtain⟨xs,h8,h9⟩:=V;refine⟨xs,?_,bg X hw _ _ _ h9⟩;rw[jL S];refine kZ h8 fun k hk=>Q k ?_
    simp only[dW] at hk;cases K:R.nil G with
    |true=>simp[K,Value.ownBlock] at hk
    |false=>simp[K,Value.ownBlock] at hk;exact⟨K,hk⟩
  | d9 ver st al=>
    simp only[fK,jL S] at V ⊢;exact dV X hw _ _ V
  | tr y ver rest st=>
    obtain⟨k0,kh,k1,k2,k3,k4⟩:=V;simp only[fK,hY,S.2.1];refine⟨k0,kh,k1,k2.step J fun r V ho=>?_,k3,fun r hn=>?_⟩
    ·rcases k4 r (.inr ⟨b,ho⟩) with hd|hz|hs
     ·exact absurd (g.inj G b r (by rw[h];exact hd) ho) e
     ·exact hz
     omega
    by_cases af:r<w.heap.size
    ·exact k4 r (X r af hn)
    exact .inr (.inr (by have:=k2.size;omega))
  | iP e' ver st pre aq post=>
    obtain⟨xs,h8,h9,am,ao,ap⟩:=V;refine⟨xs,?_,bg X hw _ _ _ h9,am,dK X hw p1 p2 p3 _ _ ao,bg X hw _ _ _ ap⟩;rw[jL S];refine kZ h8 fun k hk=>Q k ?_
    simp only[dW] at hk;cases K:R.nil G with
    |true=>simp[K,Value.ownBlock] at hk
    |false=>simp[K,Value.ownBlock] at hk;exact⟨K,hk⟩
 ·intro b1 b2 r h1 h2;by_cases e1:b1=b
  ·by_cases e2:b2=b
   ·rw[e1,e2]
   subst e1;simp only[DL,DR b2 e2] at h1 h2;have ah:=iI (hR b2 e2) hY h2;have af:=g.mG ah;exact g.inj _ _ r ((aa r h1).resolve_right (by omega)) ah
  by_cases e2:b2=b
  ·subst e2;simp only[DL,DR b1 e1] at h1 h2;have ag:=iI (hR b1 e1) hY h1;have af:=g.mG ag;exact g.inj _ _ r ag ((aa r h2).resolve_right (by omega))
  simp only[DR b1 e1,DR b2 e2] at h1 h2;exact g.inj _ _ r (iI (hR b1 e1) hY h1) (iI (hR b2 e2) hY h2)
 ·intro r h hF;rcases Kl r h with h|h
  ·exact g.free r h hF
  have:=c.hF r hF;have:=g.jV.size;omega
 ·refine g.jV.trans J fun r V ho=>?_
  exact (g.jy r ⟨b,ho⟩).resolve_right (by omega)
 intro r h;rcases Kl r h with h|h
 ·exact g.jy r h
 exact .inr (Nat.le_trans g.jV.size h)
theorem bN.grow {c:Ctx}{R:Real}{s:AS}{a:Act}{w w':World}(g:bN c R s a w)(h:mV (fun _=>False) w w'):bN c R s a w':=by
 have J:∀r,r<w.heap.size→w'.heap[r]? = w.heap[r]? :=fun r G=>h.keep r G id
 refine⟨?_,g.size,⟨g.lo.1,g.lo.2.1,Nat.le_trans g.lo.2.2 h.size⟩,g.marks.imp fun Ds h'=>h'.kept (fun r G _=>J r G) (fun _ _ x=>x),g.fixed.kept (fun r G _=>J r G) (fun _ _ x=>x),?_,g.inj,g.free,g.jV.trans h fun _ _ x=>x.elim,g.jy,
  fun v x hv=>dM (fun _ _ x=>x) (fun r G _=>J r G) (fun _ _ _ x=>x) (fun _ _ _ x=>x) (fun _ _ _ _ _ x=>x) v x (g.kept v x hv)⟩
 ·intro t v ht;obtain⟨x,hx,hv⟩:=g.slots t v ht;exact⟨x,hx,dM (fun _ _ x=>x) (fun r G _=>J r G) (fun _ _ _ x=>x) (fun _ _ _ x=>x) (fun _ _ _ _ _ x=>x) v x hv⟩
 intro b box hb;have G:=g.boxes b box hb;cases box with
 | var Q=>
   obtain⟨S,e',K,V⟩:=G;exact⟨S,e',(J _ (size_of_getElem? K)).trans K,dK (fun _ _ x=>x) (fun r G _=>J r G) (fun _ _ _ x=>x) (fun _ _ _ x=>x) (fun _ _ _ _ _ x=>x) _ _ V⟩
 | oN Q=>
   obtain⟨S,e',fr,K,h7,V⟩:=G;exact⟨S,e',fr,(J _ (size_of_getElem? K)).trans K,h7,fJ (fun _ _ x=>x) (fun r G _=>J r G) _ _ V⟩
 | arr e' ver st aa=>
   obtain⟨xs,K,V⟩:=G;exact⟨xs,kZ K fun k X=>J k (K.lt k X).2,bg (fun _ _ x=>x) (fun r G _=>J r G) _ _ _ V⟩
 |d9 ver st aa=>exact dV (fun _ _ x=>x) (fun r G _=>J r G) _ _ G
 | tr y ver rest st=>
   obtain⟨k0,kh,k1,k2,k3,k4⟩:=G;exact⟨k0,kh,k1,k2.step h fun _ _ x=>x.elim,k3,k4⟩
 | iP e' ver st pre ag post=>
   obtain⟨xs,K,V,ad,ae,af⟩:=G;exact⟨xs,kZ K fun k X=>J k (K.lt k X).2,bg (fun _ _ x=>x) (fun r G _=>J r G) _ _ _ V,ad,dK (fun _ _ x=>x) (fun r G _=>J r G) (fun _ _ _ x=>x) (fun _ _ _ x=>x) (fun _ _ _ _ _ x=>x) _ _ ae,bg (fun _ _ x=>x) (fun r G _=>J r G) _ _ _ af⟩
def AS.put (s:AS)(d:Option Tmp)(v:AV):AS:=
 match d with
 |some d=>{ s with tm:=(d,v)::s.tm }
 |none=>s
theorem bN.put {c:Ctx}{R:Real}{s:AS}{a:Act}{w:World}(g:bN c R s a w)(d:Option Tmp)(J:∀t,d=some t→t<c.n){v:AV}{x:Value}
  (Q:au (bA c R s.hp) w s.hp R v x):bN c R (s.put d v) (a.put d x) w:=by
 cases d with
 |none=>exact g
 | some d=>
   have G:=J d rfl;refine⟨?_,?_,g.lo,g.marks,g.fixed,g.boxes,g.inj,g.free,g.jV,g.jy,g.kept⟩
   ·intro t u h;simp only[AS.put,aG] at h;by_cases e:d=t
    ·subst e;simp only[if_true,Option.some.injEq] at h;subst h;refine⟨x,?_,Q⟩;simp only[Act.put];rw[Array.getElem?_setIfInBounds_self_of_lt (by rw[g.size];exact G)]
    simp only[if_neg e] at h;obtain⟨y,S,K⟩:=g.slots t u h;refine⟨y,?_,K⟩;simp only[Act.put];rw[Array.getElem?_setIfInBounds_ne e];exact S
   simp only[Act.put,Array.size_setIfInBounds];exact g.size
section
section cells
variable {α:Type}(R:α→Value→Prop)
def FC:List α→List Value→Prop
 |[],vs=>vs=[]
 |p::G,vs=>∃v r,vs=v::r∧v.oneCell'=true∧R p v∧FC G r
def FP:List α→List Value→Prop
 |[],_=>True
 |p::G,vs=>∃v r,vs=v::r∧v.oneCell'=true∧R p v∧FP G r
def FL:List α→List Value→Prop
 |[],vs=>vs=[]
 |p::G,vs=>∃v r,vs=v::r∧R p v∧FL G r
end cells
theorem iH (N:Nat→Prop)(w:World):∀(ps:List PV) (vs:List Value),jk N w ps vs↔FC (bL N w) ps vs
 |[],vs=>by simp only[jk,FC]
 |p::ps,vs=>by simp only[jk,FC,iH N w ps]
theorem fA (N:Nat→Prop)(w:World):∀(ps:List PV) (vs:List Value),jD N w ps vs↔FP (bL N w) ps vs
 |[],vs=>by simp only[jD,FP]
 |p::ps,vs=>by simp only[jD,FP,fA N w ps]
theorem jF (N:Nat→Prop)(w:World):∀(ps:List PV) (vs:List Value),fE N w ps vs↔FL (bL N w) ps vs
 |[],vs=>by simp only[fE,FL]
 |p::ps,vs=>by simp only[fE,FL,jF N w ps]
theorem bR (N:Nat→Prop)(w:World)(hp:List (Nat×aI))(R:Real):∀(ps:List AV) (vs:List Value),dZ N w hp R ps vs↔FC (au N w hp R) ps vs
 |[],vs=>by simp only[dZ,FC]
 |p::ps,vs=>by simp only[dZ,FC,bR N w hp R ps]
theorem eZ (N:Nat→Prop)(w:World)(hp:List (Nat×aI))(R:Real):∀(ps:List AV) (vs:List Value),dw N w hp R ps vs↔FL (au N w hp R) ps vs
 |[],vs=>by simp only[dw,FL]
 |p::ps,vs=>by simp only[dw,FL,eZ N w hp R ps]
section cells
variable {α β:Type}{R:α→Value→Prop}{S:β→Value→Prop}
theorem FC.length:∀{l:List α} {m:List Value},FC R l m→m.length=l.length
 |[],m,h=>by simp only[FC] at h;simp[h]
 |p::G,m,h=>by obtain⟨v,r,rfl,_,_,h⟩:=h;simp[h.length]
theorem FL.length:∀{l:List α} {m:List Value},FL R l m→m.length=l.length
 |[],m,h=>by simp only[FL] at h;simp[h]
 |p::G,m,h=>by obtain⟨v,r,rfl,_,h⟩:=h;simp[h.length]
theorem FP.length:∀{l:List α} {m:List Value},FP R l m→l.length≤m.length
 |[],m,_=>by simp
 |p::G,m,h=>by obtain⟨v,r,rfl,_,_,h⟩:=h;simp[h.length]
theorem FC.one:∀{l:List α} {m:List Value},FC R l m→∀u∈m,u.oneCell'=true
 |[],m,h=>by simp only[FC] at h;simp[h]
 | p::K,m,h=>by
   obtain⟨v,r,rfl,J,_,h⟩:=h;intro u G;rcases List.mem_cons.1 G with rfl|G
   ·exact J
   exact h.one u G
theorem FC.fp:∀{l:List α} {m:List Value},FC R l m→FP R l m
 |[],_,_=>trivial
 |p::K,m,h=>by obtain⟨v,r,rfl,G,J,h⟩:=h;exact⟨v,r,rfl,G,J,h.fp⟩
theorem FP.app:∀{l:List α} {m:List Value} (G:List Value),FP R l m→FP R l (m++G)
 |[],_,_,_=>trivial
 |p::Q,m,G,h=>by obtain⟨v,r,rfl,J,K,h⟩:=h;exact⟨v,r++G,rfl,J,K,h.app G⟩
theorem FP.take:∀{l:List α} {m:List Value},FP R l m→FC R l (m.take l.length)
 |[],m,_=>by simp[FC]
 |p::K,m,h=>by obtain⟨v,r,rfl,G,J,h⟩:=h;exact⟨v,r.take K.length,by simp,G,J,h.take⟩
theorem FC.imp:∀{l:List α} {m:List Value} {R':α→Value→Prop},(∀p v,R p v→R' p v)→FC R l m→FC R' l m
 |[],_,_,_,h=>h
 |p::K,m,R',hi,h=>by obtain⟨v,r,rfl,G,J,h⟩:=h;exact⟨v,r,rfl,G,hi _ _ J,h.imp hi⟩
theorem FC.map {f:α→β}(G:∀p v,R p v→S (f p) v):∀{l:List α} {m:List Value},FC R l m→FC S (l.map f) m
 |[],_,h=>h
 |p::Q,m,h=>by obtain⟨v,r,rfl,J,K,h⟩:=h;exact⟨v,r,rfl,J,G _ _ K,FC.map G h⟩
theorem FL.map {f:α→β}(G:∀p v,R p v→S (f p) v):∀{l:List α} {m:List Value},FL R l m→FL S (l.map f) m
 |[],_,h=>h
 |p::K,m,h=>by obtain⟨v,r,rfl,J,h⟩:=h;exact⟨v,r,rfl,G _ _ J,FL.map G h⟩
theorem FL.app:∀{l K:List α} {m G:List Value},FL R l m→FL R K G→FL R (l++K) (m++G)
 |[],_,m,_,h,J=>by simp only[FL] at h;simpa[h] using J
 |p::V,_,m,G,h,J=>by obtain⟨v,r,rfl,Q,h⟩:=h;exact⟨v,r++G,rfl,Q,h.app J⟩
theorem FL.get:∀{l:List α} {m:List Value} {i:Nat} {x:α},FL R l m→l[i]? = some x→∃v,m[i]? = some v∧R x v
 |[],_,_,_,_,G=>by simp at G
 | p::K,m,0,x,h,G=>by
   obtain⟨v,r,rfl,J,h⟩:=h;simp only[List.getElem?_cons_zero,Option.some.injEq] at G;subst G;exact⟨v,rfl,J⟩
 | p::K,m,i+1,x,h,G=>by
   obtain⟨v,r,rfl,J,h⟩:=h;simp only[List.getElem?_cons_succ] at G ⊢;exact h.get G
def kJ:Nat→List α→Option (List α)
 |0,_=>some []
 |_+1,[]=>none
 | n+1,a::r=>match kJ n r with
   |some t=>some (a::t)
   |none=>none
def kV:Nat→List α→Option (List α)
 |0,l=>some l
 |_+1,[]=>none
 |n+1,_::r=>kV n r
def part (off n:Nat)(l:List α):Option (List α):=
 match kV off l with
 |some r=>kJ n r
 |none=>none
def oH:List α→List α→Option (List α)
 |l,[]=>some l
 |[],_::_=>none
 | _::r,x::xs=>match oH r xs with
   |some t=>some (x::t)
   |none=>none
def oh:Nat→List α→List α→Option (List α)
 |0,l,xs=>oH l xs
 |_+1,[],_=>none
 | n+1,a::r,xs=>match oh n r xs with
   |some t=>some (a::t)
   |none=>none
theorem FP.kV:∀{n:Nat} {l x:List α} {m:List Value},FP R l m→kV n l=some x→n≤m.length∧FP R x (m.drop n)
 |0,l,x,m,h,e=>by simp only[AX.kV,Option.some.injEq] at e;subst e;exact⟨Nat.zero_le _,by simpa using h⟩
 |n+1,[],x,m,h,e=>by simp[AX.kV] at e
 | n+1,p::K,x,m,h,e=>by
   obtain⟨v,r,rfl,G,J,h⟩:=h;simp only[AX.kV] at e;have:=h.kV e;simpa using this
theorem FP.kJ:∀{n:Nat} {l x:List α} {m:List Value},FP R l m→kJ n l=some x→n≤m.length∧FC R x (m.take n)
 |0,l,x,m,h,e=>by simp only[AX.kJ,Option.some.injEq] at e;subst e;exact⟨Nat.zero_le _,by simp[FC]⟩
 |n+1,[],x,m,h,e=>by simp[AX.kJ] at e
 | n+1,p::Q,x,m,h,e=>by
   obtain⟨v,r,rfl,G,J,h⟩:=h;simp only[AX.kJ] at e;split at e
   ·rename_i t K;simp only[Option.some.injEq] at e;subst e;have:=h.kJ K;refine⟨by simpa using this.1,v,r.take n,by simp,G,J,this.2⟩
   cases e
theorem FP.part {off n:Nat}{l x:List α}{m:List Value}(h:FP R l m)(e:part off n l=some x):off+n≤m.length∧FC R x ((m.drop off).take n):=by
 simp only[AX.part] at e;split at e
 ·rename_i r Q;obtain⟨V,G⟩:=h.kV Q;obtain⟨J,K⟩:=G.kJ e;simp only[List.length_drop] at J;exact⟨by omega,K⟩
 cases e
theorem FC.oH:∀{l xs J:List α} {m ys:List Value},FC R l m→FC R xs ys→oH l xs=some J→ys.length≤m.length∧FC R J (ys++m.drop ys.length)
 | l,[],J,m,ys,h,G,e=>by
   have X:ys=[]:=by cases l<;>simpa only[FC] using G
   have e':l=J:=by cases l<;>simpa[AX.oH] using e
   subst X;subst e';exact⟨by simp,by simpa using h⟩
 |[],x::xs,J,m,ys,h,G,e=>by simp[AX.oH] at e
 | p::ps,x::xs,J,m,ys,h,G,e=>by
   obtain⟨v,r,rfl,h1,h2,h⟩:=h;obtain⟨u,s,rfl,K,Q,G⟩:=G;simp only[AX.oH] at e;split at e
   ·rename_i t V;simp only[Option.some.injEq] at e;subst e;obtain⟨a,b⟩:=FC.oH h G V;exact⟨by simpa using a,u,_,by simp,K,Q,b⟩
   cases e
theorem FC.oh:∀{off:Nat} {l xs G:List α} {m ys:List Value},FC R l m→FC R xs ys→oh off l xs=some G →
  off+ys.length≤m.length∧FC R G (m.take off++ys++m.drop (off+ys.length))
 | 0,l,xs,G,m,ys,h,J,e=>by
   simp only[AX.oh] at e;have:=FC.oH h J e;simpa using this
 |off+1,[],xs,G,m,ys,h,J,e=>by simp[AX.oh] at e
 | off+1,p::X,xs,G,m,ys,h,J,e=>by
   obtain⟨v,r,rfl,K,Q,h⟩:=h;simp only[AX.oh] at e;split at e
   ·rename_i t V;simp only[Option.some.injEq] at e;subst e;obtain⟨a,b⟩:=FC.oh h J V;rw[show off+1+ys.length=(off+ys.length)+1 from by omega];exact⟨by simp;omega,v,r.take off++ys++r.drop (off+ys.length),by simp,K,Q,b⟩
   cases e
theorem zU:∀{l xs G:List α},oH l xs=some G→G.length=l.length
 |l,[],G,e=>by cases l<;>simp[AX.oH] at e<;>simp[←e]
 |[],x::xs,G,e=>by simp[AX.oH] at e
 | p::K,x::xs,G,e=>by
   simp only[AX.oH] at e;split at e
   ·rename_i t J;simp only[Option.some.injEq] at e;subst e;simp[zU J]
   cases e
theorem CK:∀{off:Nat} {l xs G:List α},oh off l xs=some G→G.length=l.length
 |0,l,xs,G,e=>zU e
 |off+1,[],xs,G,e=>by simp[AX.oh] at e
 | off+1,p::K,xs,G,e=>by
   simp only[AX.oh] at e;split at e
   ·rename_i t J;simp only[Option.some.injEq] at e;subst e;simp[CK J]
   cases e
end cells
section rows
variable {N:Nat→Prop}{w:World}{st:Nat}
theorem gH:∀{rows:List (List PV)} {m:List Value},dI N w st rows m →
  rows.length*st≤m.length∧dI N w st rows (m.take (rows.length*st))∧∀u∈m.take (rows.length*st),u.oneCell'=true
 |[],m,_=>by simp[dI]
 | Q::rows,m,h=>by
   obtain⟨V,K,X⟩:=h;obtain⟨a,b,d⟩:=gH X;rw[fA] at K;have hl:=K.length;have e:(Q::rows).length*st=st+rows.length*st:=by rw[List.length_cons,Nat.add_mul];omega
   rw[e];have hs:m.take (st+rows.length*st)=m.take st++(m.drop st).take (rows.length*st):=by rw[List.take_add]
   have hc:=K.take;rw[V] at hc hl;simp only[List.length_drop] at a;have G:(m.take st).length=st:=by rw[List.length_take];omega
   refine⟨by omega,?_,?_⟩
   ·rw[hs];refine⟨V,?_,?_⟩
    ·rw[fA];exact hc.fp.app _
    rw[List.drop_left' G];exact b
   rw[hs];intro u J;rcases List.mem_append.1 J with J|J
   ·exact hc.one u J
   exact d u J
theorem jW:∀{rows G:List (List PV)} {m J:List Value},dI N w st rows m→m.length=rows.length*st→dI N w st G J →
  dI N w st (rows++G) (m++J)
 | [],G,m,J,_,Q,K=>by
   have:m=[]:=List.eq_nil_of_length_eq_zero (by simpa using Q);subst this;simpa using K
 | V::rows,G,m,J,h,Q,K=>by
   obtain⟨h1,X,h3⟩:=h;have e:(V::rows).length*st=st+rows.length*st:=by rw[List.length_cons,Nat.add_mul];omega
   rw[e] at Q;refine⟨h1,?_,?_⟩
   ·rw[fA] at X ⊢;exact X.app _
   rw[List.drop_append_of_le_length (by omega)];exact jW h3 (by simp only[List.length_drop];omega) K
theorem uV:∀{rows:List (List PV)} {m:List Value} (J:List Value),dI N w st rows m→dI N w st rows (m++J)
 |[],_,_,_=>trivial
 | row::rows,m,J,h=>by
   obtain⟨K,G,Q⟩:=h;have V:st≤m.length:=by rw[fA] at G;have:=G.length;omega
   refine⟨K,by rw[fA] at G ⊢;exact G.app _,?_⟩;rw[List.drop_append_of_le_length V];exact uV J Q
theorem rQ:∀{rows:List (List PV)} {m:List Value} {i:Nat} {row:List PV},dI N w st rows m→rows[i]? = some row →
  row.length=st∧jD N w row (m.drop (i*st))
 |[],_,_,_,_,G=>by simp at G
 | r0::rows,m,0,row,h,G=>by
   simp only[List.getElem?_cons_zero,Option.some.injEq] at G;subst G;exact⟨h.1,by simpa using h.2.1⟩
 | r0::rows,m,i+1,row,h,G=>by
   simp only[List.getElem?_cons_succ] at G;obtain⟨a,b⟩:=rQ h.2.2 G;refine⟨a,?_⟩;rw[List.drop_drop] at b;rw[show (i+1)*st=st+i*st from by rw[Nat.add_mul];omega];exact b
theorem lN:∀{rows:List (List PV)} {m:List Value} (i:Nat),dI N w st rows m→dI N w st (rows.drop i) (m.drop (i*st))
 |[],m,i,_=>by simp[dI]
 |r0::rows,m,0,h=>by simpa using h
 | r0::rows,m,i+1,h=>by
   have:=lN i h.2.2;rw[List.drop_drop] at this;rw[show (i+1)*st=st+i*st from by rw[Nat.add_mul];omega];simpa using this
theorem mD:∀{rows:List (List PV)} {m:List Value} (i:Nat),dI N w st rows m→dI N w st (rows.take i) m
 |[],m,i,_=>by simp[dI]
 |r0::rows,m,0,h=>by simp[dI]
 | r0::rows,m,i+1,h=>by
   obtain⟨G,J,K⟩:=h;exact⟨G,J,mD i K⟩
theorem ME:∀{rows:List (List PV)} {m:List Value} {i:Nat} {row:List PV} {ys:List Value},dI N w st rows m→i<rows.length→row.length=st →
  FC (bL N w) row ys→dI N w st (rows.set i row) (m.take (i*st)++ys++m.drop (i*st+ys.length))
 |[],_,_,_,_,_,hi,_,_=>by simp at hi
 | r0::rows,m,0,row,ys,h,_,Q,V=>by
   obtain⟨X,K,h3⟩:=h;have aa:=V.length;simp only[Nat.zero_mul,List.take_zero,List.nil_append,Nat.zero_add,List.set_cons_zero];refine⟨Q,by rw[fA];exact V.fp.app _,?_⟩;rw[List.drop_left' (by omega),aa,Q];exact h3
 | r0::rows,m,i+1,row,ys,h,hi,Q,V=>by
   obtain⟨X,K,h3⟩:=h;have ad:st≤m.length:=by rw[fA] at K;have:=K.length;omega
   have ih:=ME (i:=i) h3 (by simpa using hi) Q V;have e:(i+1)*st=st+i*st:=by rw[Nat.add_mul];omega
   have G:=K;rw[fA] at G;have hc:=G.take;rw[X] at hc;have J:(m.take st).length=st:=by rw[List.length_take];omega
   rw[e,List.take_add,List.append_assoc,List.append_assoc];refine⟨X,by rw[fA];exact hc.fp.app _,?_⟩;rw[List.drop_left' J,show st+i*st+ys.length=st+(i*st+ys.length) from by omega,←List.drop_drop,←List.append_assoc];exact ih
end rows
inductive DI where
 |str (fs:List (Nat×TypeId))
 |adh (n:Nat) (e:TypeId)
 |slt (e:TypeId)
 |Bc (k:IntKind)
 |YC
 |LB
 |He (e:TypeId)
 |DV
 |ak1 (k e:TypeId)
 |oth
def di:TypeDesc→DI
 |.struct G=>.str (G.toList.map fun f=>(f.offset,f.type))
 |.array n e=>.adh n e
 |.slice e=>.slt e
 |.int k=>.Bc k
 |.bool=>.YC
 |.string=>.LB
 |.pointer e=>.He e
 |.func _ _ _=>.DV
 |.map k e=>.ak1 k e
 |_=>.oth
inductive EK where
 |int (k:IntKind)
 |bool
 |str
structure TI where
 size:Nat
 bytes:Nat
 zero:List Value
 d:DI
 cmp:Option (List EK)
def tiF (i:TI)(K:Nat→Nat→Prop):Prop:=
 match i with
 |⟨sz,G,_,_,_⟩=>K sz G
theorem fF (i:TI)(K:Nat→Nat→Prop):tiF i K=K i.size i.bytes:=rfl
def DI.isAgg:DI→Bool
 |.str _=>true
 |.adh _ _=>true
 |_=>false
def eqV:EK→Value→Value→Option Bool
 | .int i,.int j a,.int k b=>match decide (i=j),decide (i=k) with
   |true,true=>some (a==b)
   |_,_=>none
 |.bool,.bool a,.bool b=>some (a==b)
 |.str,.string a,.string b=>some (a.toList==b.toList)
 |_,_,_=>none
def mo:List EK→List Value→List Value→Option Bool
 |[],[],[]=>some true
 | k::ks,x::xs,y::ys=>match eqV k x y with
   | some a=>match ks with
     | []=>match xs,ys with
       |[],[]=>some a
       |_,_=>none
     | _=>match mo ks xs ys with
       |some b=>some (a&&b)
       |none=>none
   |none=>none
 |_,_,_=>none
def af3 (P:Program)(t:TypeId)(ks:List EK):Prop:=∀(w:World) (xs ys:Array Value) (b:Bool),mo ks xs.toList ys.toList=some b →
 (Op.equal t (.agg xs) (.agg ys)).run P w=.ok b w
structure og (P:Program)(t:TypeId)(i:TI):Prop where
 info:(P.info? t).map (fun x=>(x.size,x.bytes,x.zero.map (·.cells.toList)))=some (i.size,i.bytes,some i.zero)
 desc:(P.underlying t).map di=some i.d
 Xz:i.zero.length=i.size
 XB:i.zero.all (·.oneCell')=true
 agg:i.d.isAgg=false→i.size=1
 ak2:i.d.isAgg=(((P.info? t).bind (·.zero)).map (fun z=>z matches .agg _)).getD false
 cmp:∀ks,i.cmp=some ks→af3 P t ks∧P.eqGuardType P.depth t=false
def dB (P:Program)(T:List (Nat×TI)):Prop:=∀t i,lk T t=some i→og P t i
section table
variable {P:Program}{t:TypeId}{i:TI}
theorem og.Ey (h:og P t i):∃x z,P.info? t=some x∧x.size=i.size∧x.bytes=i.bytes∧x.zero=some z∧z.cells.toList=i.zero:=by
 have:=h.info;cases J:P.info? t with
 |none=>rw[J] at this;cases this
 | some x=>
   rw[J] at this;simp only[Option.map_some,Option.some.injEq,Prod.mk.injEq] at this;obtain⟨a,b,c⟩:=this;cases G:x.zero with
   |none=>rw[G] at c;cases c
   | some z=>
     rw[G] at c;simp only[Option.map_some,Option.some.injEq] at c;exact⟨x,z,rfl,a,b,G,c⟩
theorem og.jr (h:og P t i):∃d,P.underlying t=some d∧di d=i.d:=by
 have:=h.desc;cases G:P.underlying t with
 |none=>rw[G] at this;cases this
 |some d=>rw[G] at this;simp only[Option.map_some,Option.some.injEq] at this;exact⟨d,rfl,this⟩
theorem og.run_sizeOf (h:og P t i)(w:World):(sizeOf t).run P w=.ok i.size w:=by
 obtain⟨x,z,G,J,_⟩:=h.Ey;simp[sizeOf,typeInfo,G,J]
theorem og.rR (h:og P t i)(w:World):(isAgg t).run P w=.ok i.d.isAgg w:=by
 obtain⟨d,G,J⟩:=h.jr;rw[←J];simp only[isAgg,Sem.run_bind,run_underlying G,Result.andThen_ok];cases d<;>simp[di,DI.isAgg]
theorem og.zx (h:og P t i)(w:World):∃z,(zeroValue t).run P w=.ok z w∧z.cells.toList=i.zero∧(i.d.isAgg=(z matches .agg _)):=by
 obtain⟨x,z,G,Q,V,J,K⟩:=h.Ey;refine⟨z,by simp[zeroValue,typeInfo,G,J],K,?_⟩;have:=h.ak2;simpa[G,J] using this
end table
section runs
variable {P:Program}{w:World}
theorem addr_add (g o n:Nat):(⟨g,o,none⟩:Addr).add n=⟨g,o+n,none⟩:=by
 unfold Addr.add;split
 ·rename_i h;simp[h]
 rfl
theorem zn {g j:Nat}{cur:Array Value}{e:TypeId}{G:Nat×Nat}(J:w.heap[g]? = some (.cells cur e G)):w.cell? ⟨g,j,none⟩=cur[j]? :=
 cell_of_row w g j cur e G J
theorem MF {g j:Nat}{cur:Array Value}{e:TypeId}{G:Nat×Nat}(J:w.heap[g]? = some (.cells cur e G)){v:Value}(K:cur[j]? = some v) :
  (load ⟨g,j,none⟩).run P w=.ok v w:=by
 rw[run_load,zn J,K]
theorem rT {g off n:Nat}{cur:Array Value}{e:TypeId}{J:Nat×Nat}(K:w.heap[g]? = some (.cells cur e J))(Q:off+n≤cur.size) :
  (loadCells ⟨g,off,none⟩ n).run P w=.ok ((cur.toList.drop off).take n).toArray w:=by
 have G:((cur.toList.drop off).take n).length=n:=by simp;omega
 have:=run_loadCells_list (P:=P) (w:=w) ⟨g,off,none⟩ ((cur.toList.drop off).take n) (fun j v h=>by
  rw[addr_add,zn K];rw[List.getElem?_take] at h;split at h
  ·rw[List.getElem?_drop] at h;simpa using h
  cases h)
 rw[G] at this;exact this
theorem mI {t:TypeId}{i:TI}(hi:og P t i){g off:Nat}{cur:Array Value}{e:TypeId}{K:Nat×Nat}(J:w.heap[g]? = some (.cells cur e K))
  (Q:off+i.size≤cur.size) :
  (loadVar t ⟨g,off,none⟩).run P w=.ok (if i.d.isAgg then .agg ((cur.toList.drop off).take i.size).toArray else cur[off]!) w:=by
 cases G:i.d.isAgg with
 | true=>
   simp only[loadVar,Sem.run_bind,hi.rR,Result.andThen_ok,G,if_true,hi.run_sizeOf,rT J Q,Sem.run_pure]
 | false=>
   have X:=hi.agg G;have V:cur[off]? = some cur[off]! :=by
    rw[getElem!_pos cur off (by omega)];exact Array.getElem?_eq_getElem (by omega)
   simp only[loadVar,Sem.run_bind,hi.rR,Result.andThen_ok,G,Bool.false_eq_true,if_false,MF J V]
theorem uH {t:TypeId}{i:TI}(hi:og P t i){g off:Nat}{cur:Array Value}{e:TypeId}{v:Value}(J:w.heap[g]? = some (.cells cur e (0,0)))
  (hs:v.cells.size=i.size) (K:off+i.size≤cur.size) (G:∀u∈v.cells.toList,u.oneCell'=true) :
  (storeVar t ⟨g,off,none⟩ v).run P w=.ok () (w.setRow g (cur.toList.take off++v.cells.toList++cur.toList.drop (off+v.cells.toList.length)).toArray):=by
 have:=run_storeCells_at P g off e v.cells.toList 0 cur w J (by simp;omega) G;simp only[Nat.add_zero] at this;simp[storeVar,hi.run_sizeOf,hs,this]
end runs
end
section
def Same (w w':World):Prop:=mV (fun _=>False) w w'
def Enters (P:Program)(f:FuncId):Prop:=∃fn,P.funcs[f]? = some fn∧fn.body.isSome=true∧(fn.name == "runtime.NumGoroutine")=false
def PC (P:Program)(f:FuncId)(args:List PV)(Q:PV→Prop):Prop:=
 Enters P f∧∀(F:Nat→Prop) (w:World) (G:Array Value),(∀r,F r→r<w.heap.size)→fE F w args G.toList →
  Calls P f G w fun e J=>∃v r,e=.returned v∧Q r∧bL F J r v∧Same w J
def dF (P:Program)(f:FuncId)(args:List PV)(r:PV):Prop:=PC P f args (fun x=>x=r)
abbrev Tab:=List (Nat×TI)
def cellP:PV→Bool
 |.sc v=>v.oneCell'
 |.sl _ _ _=>true
 |.dU _ _=>true
 |.fn _ _ _=>true
 |_=>false
def afg:AV→Bool
 |.pv p=>cellP p
 |.ptr _ _=>true
 |.eY _ _ _ _=>true
 |.aO _ _=>true
 |.sub _ _ _ _ _=>true
 |.fn _ _ _=>true
 |_=>false
def MG:List PV→Option (List AV)
 |[]=>some []
 | p::r=>match MG r with
   |some t=>some (.pv p::t)
   |none=>none
def zPV:List Value→Option (List PV)
 |[]=>some []
 | v::r=>match zPV r with
   |some t=>some (.sc v::t)
   |none=>none
def zAV:List Value→Option (List AV)
 |[]=>some []
 | v::r=>match zAV r with
   |some t=>some (.pv (.sc v)::t)
   |none=>none
def jE:List AV→Option (List PV)
 |[]=>some []
 | .pv p::r=>match jE r with
   |some G=>some (p::G)
   |none=>none
 |_::_=>none
def EA (cs:List AV):Option AV:=
 match jE cs with
 |some G=>some (.pv (.agg G))
 |none=>some (.agg cs)
def cellsOf (i:TI)(v:AV):Option (List AV):=
 match i.d.isAgg with
 | true=>match v with
   |.pv (.agg cs)=>MG cs
   |.agg cs=>some cs
   |_=>none
 | false=>match afg v with
   |true=>some [v]
   |false=>none
def mE (i:TI)(p:PV):Option (List PV):=
 match i.d.isAgg with
 | true=>match p with
   |.agg cs=>some cs
   |_=>none
 | false=>match cellP p with
   |true=>some [p]
   |false=>none
def uU (o:Option aI)(ver:Nat):Option PV:=
 match o with
 | some (.arr _ v J G)=>match Nat.beq ver v with
   |true=>some (.sl false J G)
   |false=>none
 | some (.d9 v J G)=>match Nat.beq ver v with
   |true=>some (.sl false J G)
   |false=>none
 |_=>none
def Td (o:Option aI)(off:Nat):Option PV:=
 match o with
 | some (.var G)=>match jE G with
   |some J=>some (.dU J off)
   |none=>none
 |some (.oN G)=>some (.dU G off)
 |_=>none
def jQ (rows:List (List PV))(G hi:Nat):List (List PV):=(rows.drop G).take (hi-G)
def afh (o:Option PV)(st K hi:Nat):Option PV:=
 match o with
 | some (.sl _ J G)=>match Nat.beq st J with
   |true=>some (.sl false J (jQ G K hi))
   |false=>none
 |_=>none
mutual
def vw (H:List (Nat×aI)):AV→Option PV
 |.pv p=>some p
 |.aO b ver=>uU (lk H b) ver
 |.sub b ver K J hi=>afh (uU (lk H b) ver) K J hi
 |.ptr b off=>Td (lk H b) off
 | .agg cs=>match Ie H cs with
   |some G=>some (.agg G)
   |none=>none
 | .cK cs=>match Ie H cs with
   |some G=>some (.cK G)
   |none=>none
 | .fn f a c=>match Ie H a,Ie H c with
   |some x,some y=>some (.fn f x y)
   |_,_=>none
 |.eY _ _ _ _=>none
def Ie (H:List (Nat×aI)):List AV→Option (List PV)
 |[]=>some []
 | v::r=>match vw H v with
   | some p=>match Ie H r with
     |some t=>some (p::t)
     |none=>none
   |none=>none
end
mutual
def refs:AV→List Nat
 |.pv _=>[]
 |.aO b _=>[b]
 |.sub b _ _ _ _=>[b]
 |.ptr b _=>[b]
 |.eY b _ _ _=>[b]
 |.agg cs=>fH cs
 |.cK cs=>fH cs
 |.fn _ a c=>fH a++fH c
def fH:List AV→List Nat
 |[]=>[]
 |v::r=>refs v++fH r
end
def JZ (H:List (Nat×aI)):List Nat→Option (List (Nat×aI))
 |[]=>some []
 | b::r=>match JZ H r with
   | some t=>match lk t b with
     |some _=>some t
     | none=>match lk H b with
       |some (.arr _ v Q J)=>some ((b,.d9 v Q J)::t)
       | some (.var G)=>match jE G with
         |some K=>some ((b,.oN K)::t)
         |none=>none
       |some (.d9 _ _ _)=>some t
       |some (.oN _)=>some t
       |some (.tr _ _ _ _)=>none
       |some (.iP _ _ _ _ _ _)=>none
       |none=>none
   |none=>none
mutual
def DK:PV→Bool
 |.sc _=>true
 |.junk=>true
 |.agg cs=>EL cs
 |.cK cs=>EL cs
 |_=>false
def EL:List PV→Bool
 |[]=>true
 | p::r=>match DK p with
   |true=>EL r
   |false=>false
end
def Ku:List EK→List PV→List PV→Option Bool
 |[],[],[]=>some true
 | k::ks,.sc x::xs,.sc y::ys=>match eqV k x y with
   | some a=>match ks with
     | []=>match xs,ys with
       |[],[]=>some a
       |_,_=>none
     | _=>match Ku ks xs ys with
       |some b=>some (a&&b)
       |none=>none
   |none=>none
 |_,_,_=>none
def UF (op:BinOp)(k:IntKind)(a b:Int)(K:AV→Prop):Prop:=
 match op with
 |.add=>K (.pv (.sc (.int k (k.wrap (a+b)))))
 |.sub=>K (.pv (.sc (.int k (k.wrap (a-b)))))
 |.mul=>K (.pv (.sc (.int k (k.wrap (a*b)))))
 |.quo=>b≠0∧K (.pv (.sc (.int k (k.wrap (a.tdiv b)))))
 |.rem=>b≠0∧K (.pv (.sc (.int k (a.tmod b))))
 |.and=>K (.pv (.sc (.int k (k.wrap (BitVec.toNat (BitVec.ofInt k.bits a &&& BitVec.ofInt k.bits b))))))
 |.or=>K (.pv (.sc (.int k (k.wrap (BitVec.toNat (BitVec.ofInt k.bits a ||| BitVec.ofInt k.bits b))))))
 |.xor=>K (.pv (.sc (.int k (k.wrap (BitVec.toNat (BitVec.ofInt k.bits a ^^^ BitVec.ofInt k.bits b))))))
 |.andNot=>K (.pv (.sc (.int k (k.wrap (BitVec.toNat (BitVec.ofInt k.bits a &&& ~~~ (BitVec.ofInt k.bits b)))))))
 |.eql=>K (.pv (.sc (.bool (a==b))))
 |.neq=>K (.pv (.sc (.bool (a != b))))
 |.lss=>K (.pv (.sc (.bool (decide (a<b)))))
 |.leq=>K (.pv (.sc (.bool (decide (a≤b)))))
 |.gtr=>K (.pv (.sc (.bool (decide (a>b)))))
 |.geq=>K (.pv (.sc (.bool (decide (a≥b)))))
 |_=>False
def Kv:BinOp→Bool
 |.shl=>true
 |.shr=>true
 |_=>false
def Bg (op:BinOp)(k:IntKind)(a b:Int)(K:AV→Prop):Prop:=
 match op with
 |.shl=>0≤b∧K (.pv (.sc (.int k (k.wrap (a*2 ^ (min b.toNat k.bits))))))
 |.shr=>0≤b∧K (.pv (.sc (.int k (a.fdiv (2 ^ (min b.toNat k.bits))))))
 |_=>False
def X7 (op:BinOp)(a b:ByteArray)(K:AV→Prop):Prop:=
 match op with
 |.eql=>K (.pv (.sc (.bool (a.toList==b.toList))))
 |.neq=>K (.pv (.sc (.bool (!(a.toList==b.toList)))))
 |.add=>a.size+b.size≤9223372036854775807∧K (.pv (.sc (.string (a++b))))
 |.lss=>K (.pv (.sc (.bool (Op.bytesLess a.toList b.toList))))
 |.leq=>K (.pv (.sc (.bool (Op.bytesLess a.toList b.toList||a.toList==b.toList))))
 |.gtr=>K (.pv (.sc (.bool (!(Op.bytesLess a.toList b.toList||a.toList==b.toList)))))
 |.geq=>K (.pv (.sc (.bool (!(Op.bytesLess a.toList b.toList)))))
 |_=>False
def SB (op:BinOp)(b:Bool)(K:AV→Prop):Prop:=
 match op with
 |.eql=>K (.pv (.sc (.bool b)))
 |.neq=>K (.pv (.sc (.bool (!b))))
 |_=>False
def LW:AV→Bool
 |.ptr _ _=>true
 |.pv (.dU _ _)=>true
 |_=>false
def adk:AV→Bool
 |.fn _ _ _=>true
 |.pv (.fn _ _ _)=>true
 |_=>false
def PL (i:TI)(op:BinOp)(x y:AV)(K:AV→Prop):Prop:=
 match i.d with
 | .YC=>match x,y with
   |.pv (.sc (.bool a)),.pv (.sc (.bool b))=>SB op (a==b) K
   |_,_=>False
 | .str _=>match x,y with
   | .pv (.agg xs),.pv (.agg ys)=>match i.cmp with
     | some ks=>match Ku ks xs ys with
       |some b=>SB op b K
       |none=>False
     |none=>False
   |_,_=>False
 | .He _=>match x,y with
   |.pv (.sc (.pointer none)),.pv (.sc (.pointer none))=>SB op true K
   | x,.pv (.sc (.pointer none))=>match LW x with
     |true=>SB op false K
     |false=>False
   |_,_=>False
 | .slt _=>match x,y with
   |.pv (.sc (.slice none _ _)),.pv (.sc (.slice none _ _))=>SB op true K
   |.pv (.sl true _ _),.pv (.sc (.slice none _ _))=>SB op false K
   |_,_=>False
 | .DV=>match x,y with
   |.pv (.sc .nilFunc),.pv (.sc .nilFunc)=>SB op true K
   | x,.pv (.sc .nilFunc)=>match adk x with
     |true=>SB op false K
     |false=>False
   |_,_=>False
 |_=>False
def Hf (T:Tab)(op:BinOp)(t:TypeId)(x y:AV)(K:AV→Prop):Prop:=
 match x,y with
 | .pv (.sc (.int k a)),.pv (.sc (.int j b))=>match Kv op with
   |true=>Bg op k a b K
   | false=>match decide (k=j) with
     |true=>UF op k a b K
     |false=>False
 |.pv (.sc (.string a)),.pv (.sc (.string b))=>X7 op a b K
 | x,y=>match lk T t with
   |some i=>PL i op x y K
   |none=>False
theorem I6 {N:Nat→Prop}{w:World}:∀{ks:List EK} {xs ys:List PV} {us vs:List Value} {b:Bool},FC (bL N w) xs us→FC (bL N w) ys vs→Ku ks xs ys=some b→mo ks us vs=some b
 | [],[],[],us,vs,b,G,J,e=>by
   simp only[FC] at G J;subst G;subst J;simpa[Ku,mo] using e
 |[],[],y::ys,us,vs,b,G,J,e=>by simp[Ku] at e
 |[],x::xs,ys,us,vs,b,G,J,e=>by simp[Ku] at e
 |k::ks,[],ys,us,vs,b,G,J,e=>by simp[Ku] at e
 |k::ks,x::xs,[],us,vs,b,G,J,e=>by cases x<;>simp[Ku] at e
 | k::ks,x::xs,y::ys,us,vs,b,G,J,e=>by
   obtain⟨u,us,rfl,_,S,G⟩:=G;obtain⟨v,vs,rfl,_,V,J⟩:=J;cases x<;>cases y<;>simp only[Ku] at e<;>try (cases e;done)
   simp only[bL] at S V;subst S;subst V;split at e
   ·rename_i a Q;split at e
    ·split at e
     ·simp only[FC] at G J;subst G;subst J;simp only[mo,Q];exact e
     cases e
    rename_i K;split at e
    ·rename_i b' X;have:=I6 G J X;cases ks with
     |nil=>exact (K rfl).elim
     |cons k2 ks=>simp only[mo,Q,this];exact e
    cases e
   cases e
section YG
variable {P:Program}{T:Tab}{N:Nat→Prop}{w:World}{hp:List (Nat×aI)}{R:Real}
theorem I7 {op:BinOp}{b:Bool}{K:AV→Prop}(h:SB op b K){t:TypeId}{x y:Value}(J:(Op.equal t x y).run P w=.ok b w)
  (G:(op=.eql→binOp op t x y=(do pure (.bool (←Op.equal t x y))))∧(op=.neq→binOp op t x y=(do pure (.bool (!(←Op.equal t x y)))))) :
  ∃v,(binOp op t x y).run P w=.ok v w∧∃p,K (.pv p)∧bL N w p v:=by
 cases op<;>simp only[SB] at h
 ·refine⟨.bool b,?_,_,h,by simp[bL]⟩;rw[G.1 rfl];simp[J]
 refine⟨.bool (!b),?_,_,h,by simp[bL]⟩;rw[G.2 rfl];simp[J]
theorem zF {b:AV}(h:LW b=true){v:Value}(G:au N w hp R b v):∃a,v=.pointer (some a):=by
 cases b with
 | ptr b off=>
   simp only[au] at G;cases J:lk hp b with
   |none=>rw[J] at G;exact G.elim
   |some box=>rw[J] at G;cases box<;>simp only[bf] at G<;>exact⟨_,G⟩
 | pv p=>
   cases p<;>simp[LW] at h
   simp only[au,bL] at G;obtain⟨g,base,K,e,S,Q,_⟩:=G;exact⟨_,Q⟩
 |_=>simp[LW] at h
theorem adl {b:AV}(h:adk b=true){v:Value}(G:au N w hp R b v):∃f a c,v=.func f a c:=by
 cases b with
 | fn f a c=>
   simp only[au] at G;obtain⟨K,cs,J,_⟩:=G;exact⟨_,_,_,J⟩
 | pv p=>
   cases p<;>simp[adk] at h
   simp only[au,bL] at G;obtain⟨K,cs,J,_⟩:=G;exact⟨_,_,_,J⟩
 |_=>simp[adk] at h
theorem iJ (op:BinOp)(t:TypeId)(x y:Operand)(u v:Value)(h:(∀a b,u=.agg a→v=.agg b→False)∧(u=.nilIface→v=.nilIface→False)) :
  (eqGuard op t x y u v).run P w=.ok () w:=by
 obtain⟨G,J⟩:=h;unfold eqGuard;cases op<;>simp<;>(split<;>first|rfl|(exfalso;first|exact J rfl rfl|exact G _ _ rfl rfl))
theorem run_eqGuard_agg (op:BinOp)(t:TypeId)(x y:Operand)(a b:Array Value)(h:P.eqGuardType P.depth t=false) :
  (eqGuard op t x y (.agg a) (.agg b)).run P w=.ok () w:=by
 unfold eqGuard;cases op<;>simp[h]
theorem Te {m:Sem Value}{r:Value}{K:AV→Prop}(h:K (.pv (.sc r)))(G:m.run P w=.ok r w) :
  ∃r,m.run P w=.ok r w∧∃p,K (.pv p)∧bL N w p r:=⟨r,G,_,h,by simp only[bL]⟩
theorem Qi {op:BinOp}{k:IntKind}{a b:Int}{K:AV→Prop}(h:UF op k a b K)(t:TypeId)(hs:op ≠ .shl∧op ≠ .shr) :
  ∃r,(binOp op t (.int k a) (.int k b)).run P w=.ok r w∧∃p,K (.pv p)∧bL N w p r:=by
 obtain⟨s1,s2⟩:=hs;cases op<;>simp only[UF] at h<;>try (exact h.elim)
 all_goals first
  |exact absurd rfl s1
  |exact absurd rfl s2
  | (obtain⟨G,h⟩:=h
     exact Te h (by simp[binOp,Op.intDiv,G]))
  |exact Te h (by simp[binOp,Op.intArith,Op.intCmp,Op.intBits])
theorem Qj {op:BinOp}{a b:ByteArray}{K:AV→Prop}(h:X7 op a b K)(t:TypeId) :
  ∃r,(binOp op t (.string a) (.string b)).run P w=.ok r w∧∃p,K (.pv p)∧bL N w p r:=by
 cases op<;>simp only[X7] at h<;>try (exact h.elim)
 all_goals first
  | (obtain⟨G,h⟩:=h
     refine Te h ?_;have:¬((a.size+b.size:Nat):Int)>IntKind.i64.max:=by
      have e:IntKind.i64.max=9223372036854775807:=by decide
      rw[e];omega
     simp only[binOp,Op.stringOp];rw[if_neg this];simp)
  |exact Te h (by simp[binOp,Op.stringOp])
theorem fin {op:BinOp}{b:Bool}{K:AV→Prop}(h:SB op b K){t:TypeId}{x y:Value}{xo yo:Operand}(V:(Op.equal t x y).run P w=.ok b w)
  (G:(op=.eql→binOp op t x y=(do pure (.bool (←Op.equal t x y))))∧(op=.neq→binOp op t x y=(do pure (.bool (!(←Op.equal t x y))))))
  (S:(∀a b,x=.agg a→y=.agg b→False)∧(x=.nilIface→y=.nilIface→False)) :
  ∃r,(do eqGuard op t xo yo x y;binOp op t x y:Sem Value).run P w=.ok r w∧∃p,K (.pv p)∧bL N w p r:=by
 obtain⟨r,J,Q⟩:=I7 (N:=N) h V G;exact⟨r,by rw[Sem.run_bind,iJ _ _ _ _ _ _ S];exact J,Q⟩
theorem agp (d:Nat){t G:TypeId}(h:P.underlying t=some (.pointer G)):(Op.equalIn (d+1) t (.pointer none) (.pointer none)).run P w=.ok true w:=by
 simp[Op.equalIn,run_underlying h]
theorem ae0 (d:Nat){t G:TypeId}(a:Addr)(h:P.underlying t=some (.pointer G)):(Op.equalIn (d+1) t (.pointer (some a)) (.pointer none)).run P w=.ok false w:=by
 simp[Op.equalIn,run_underlying h]
theorem agq (d:Nat){t G:TypeId}(a b c e:Nat)(h:P.underlying t=some (.slice G)):(Op.equalIn (d+1) t (.slice none a b) (.slice none c e)).run P w=.ok true w:=by
 simp[Op.equalIn,run_underlying h]
theorem aiO (d:Nat){t G:TypeId}(x:Addr)(a b c e:Nat)(h:P.underlying t=some (.slice G)):(Op.equalIn (d+1) t (.slice (some x) a b) (.slice none c e)).run P w=.ok false w:=by
 simp[Op.equalIn,run_underlying h]
theorem agr (d:Nat){t:TypeId}{a b:Array TypeId}{c:Bool}(h:P.underlying t=some (.func a b c)):(Op.equalIn (d+1) t .nilFunc .nilFunc).run P w=.ok true w:=by
 simp[Op.equalIn,run_underlying h]
theorem aiP (d:Nat){t:TypeId}{a b:Array TypeId}{c:Bool}(f:Fn)(x y:Array Value)(h:P.underlying t=some (.func a b c)):(Op.equalIn (d+1) t (.func f x y) .nilFunc).run P w=.ok false w:=by
 simp[Op.equalIn,run_underlying h]
theorem Qk (i:TI){t:TypeId}(hi:og P t i){op:BinOp}{x y:AV}{K:AV→Prop}(h:PL i op x y K){u v:Value}
  (S:au N w hp R x u) (Q:au N w hp R y v) (xo yo:Operand) :
  ∃r,(do eqGuard op t xo yo u v;binOp op t u v:Sem Value).run P w=.ok r w∧∃p,K (.pv p)∧bL N w p r:=by
 obtain⟨d,hd,X⟩:=hi.jr;unfold PL at h;split at h
 ·-- bool
  rename_i e;split at h;rotate_left;cases h
  simp only[au,bL] at S Q;subst S;subst Q;have J:P.underlying t=some .bool:=by
   rw[e] at X;cases d<;>simp[di] at X
   exact hd
  exact fin h (run_equalIn_bool w 9999 t _ _ J) ⟨fun e=>by subst e;rfl,fun e=>by subst e;rfl⟩ ⟨fun _ _ G _=>(by cases G),fun G _=>(by cases G)⟩
 ·-- struct
  rename_i fs e;split at h;rotate_left;cases h
  rename_i x' y' xs ys;split at h;rotate_left;cases h
  rename_i ks hc;split at h;rotate_left;cases h
  rename_i b hb;simp only[au,bL] at S Q;obtain⟨us,rfl,S⟩:=S;obtain⟨vs,rfl,Q⟩:=Q;rw[iH] at S Q;obtain⟨ho,hg⟩:=hi.cmp ks hc;have hr:=ho w us vs b (I6 S Q hb);obtain⟨r,h3,h4⟩:=I7 (N:=N) h hr ⟨fun e=>by subst e;rfl,fun e=>by subst e;rfl⟩;exact⟨r,by rw[Sem.run_bind,run_eqGuard_agg _ _ _ _ _ _ hg];exact h3,h4⟩
 ·-- pointer
  rename_i el e;have J:P.underlying t=some (.pointer el):=by
   rw[e] at X;cases d<;>simp[di] at X
   subst X;exact hd
  split at h
  ·simp only[au,bL] at S Q;subst S;subst Q;exact fin h (agp 9999 J) ⟨fun e=>by subst e;rfl,fun e=>by subst e;rfl⟩ ⟨fun _ _ G _=>(by cases G),fun G _=>(by cases G)⟩
  ·split at h
   ·rename_i V;obtain⟨a,rfl⟩:=zF V S;simp only[au,bL] at Q;subst Q;exact fin h (ae0 9999 a J) ⟨fun e=>by subst e;rfl,fun e=>by subst e;rfl⟩ ⟨fun _ _ G _=>(by cases G),fun G _=>(by cases G)⟩
   exact h.elim
  exact h.elim
 ·-- slice
  rename_i el e;have J:P.underlying t=some (.slice el):=by
   rw[e] at X;cases d<;>simp[di] at X
   subst X;exact hd
  split at h
  ·simp only[au,bL] at S Q;subst S;subst Q;exact fin h (agq 9999 _ _ _ _ J) ⟨fun e=>by subst e;rfl,fun e=>by subst e;rfl⟩ ⟨fun _ _ G _=>(by cases G),fun G _=>(by cases G)⟩
  ·simp only[au,bL] at S Q;subst Q;obtain⟨p,ad,aa,rfl,_,_,V,_⟩:=S;cases p with
   |none=>exact absurd (V rfl).1 (by simp)
   | some a=>
     exact fin h (aiO 9999 a _ _ _ _ J) ⟨fun e=>by subst e;rfl,fun e=>by subst e;rfl⟩ ⟨fun _ _ G _=>(by cases G),fun G _=>(by cases G)⟩
  exact h.elim
 ·-- func
  rename_i e;have J:∃a b c,P.underlying t=some (.func a b c):=by
   rw[e] at X;cases d<;>simp[di] at X
   exact⟨_,_,_,hd⟩
  obtain⟨fa,fb,fc,J⟩:=J;split at h
  ·simp only[au,bL] at S Q;subst S;subst Q;exact fin h (agr 9999 J) ⟨fun e=>by subst e;rfl,fun e=>by subst e;rfl⟩ ⟨fun _ _ G _=>(by cases G),fun G _=>(by cases G)⟩
  ·split at h
   ·rename_i V;obtain⟨f,a,b,rfl⟩:=adl V S;simp only[au,bL] at Q;subst Q;exact fin h (aiP 9999 f a b J) ⟨fun e=>by subst e;rfl,fun e=>by subst e;rfl⟩ ⟨fun _ _ G _=>(by cases G),fun G _=>(by cases G)⟩
   exact h.elim
  exact h.elim
 exact h.elim
theorem Po (hT:dB P T){t:TypeId}{op:BinOp}{x y:AV}{K:AV→Prop}(h:Hf T op t x y K){u v:Value}
  (Q:au N w hp R x u) (S:au N w hp R y v) (xo yo:Operand) :
  ∃r,(do eqGuard op t xo yo u v;binOp op t u v:Sem Value).run P w=.ok r w∧∃p,K (.pv p)∧bL N w p r:=by
 unfold Hf at h;split at h
 ·rename_i k a j b;simp only[au,bL] at Q S;subst Q;subst S;split at h
  ·unfold Bg at h;split at h
   ·obtain⟨h0,h⟩:=h;refine⟨_,by rw[Sem.run_bind,iJ _ _ _ _ _ _ ⟨fun _ _ G _=>(by cases G),fun G _=>(by cases G)⟩];simp only[Result.andThen_ok,binOp,Op.shift];rw[if_neg (by omega)];rfl,_,h,by simp only[bL]⟩
   ·obtain⟨h0,h⟩:=h;refine⟨_,by rw[Sem.run_bind,iJ _ _ _ _ _ _ ⟨fun _ _ G _=>(by cases G),fun G _=>(by cases G)⟩];simp only[Result.andThen_ok,binOp,Op.shift];rw[if_neg (by omega)];rfl,_,h,by simp only[bL]⟩
   exact h.elim
  rename_i J;split at h;rotate_left;cases h
  rename_i hk;have hk:=of_decide_eq_true hk;subst hk;have key:op ≠ .shl∧op ≠ .shr∧UF op k a b K:=⟨by rintro rfl;simp[Kv] at J,by rintro rfl;simp[Kv] at J,h⟩;obtain⟨r,V,X⟩:=Qi (P:=P) (N:=N) (w:=w) key.2.2 t ⟨key.1,key.2.1⟩;exact⟨r,by rw[Sem.run_bind,iJ _ _ _ _ _ _ ⟨fun _ _ G _=>(by cases G),fun G _=>(by cases G)⟩];exact V,X⟩
 ·simp only[au,bL] at Q S;subst Q;subst S;obtain⟨r,V,X⟩:=Qj (P:=P) (N:=N) (w:=w) h t;exact⟨r,by rw[Sem.run_bind,iJ _ _ _ _ _ _ ⟨fun _ _ G _=>(by cases G),fun G _=>(by cases G)⟩];exact V,X⟩
 split at h
 ·rename_i i hi;exact Qk i (hT t i hi) h Q S xo yo
 exact h.elim
end YG
end
def kX:Op→List Operand
 |.move x=>[x]
 |.assign x=>[x]
 |.pick c a b=>[c,a,b]
 |.alloc _=>[]
 |.box _ v=>[v]
 |.build _ G=>G.toList.map (·.2)
 |.buildSlice _ _ G=>G.toList.map (·.2)
 |.load _ a=>[a]
 |.store _ a v=>[a,v]
 |.nilCheck x=>[x]
 |.binOp _ _ x y _=>[x,y]
 |.unOp _ _ x=>[x]
 |.convert _ _ x=>[x]
 |.makeFunc _ f c=>f.toList++c.toList
 |.makeSlice _ l c=>[l,c]
 |.slice _ x l h m=>x::(l.toList++(h.toList++m.toList))
 |.fieldAddr _ x _=>[x]
 |.field _ x _=>[x]
 |.indexAddr _ x i=>[x,i]
 |.index _ x i=>[x,i]
 |.extract t _=>[t]
 |.makeMap _ r=>r.toList
 |.lookup _ m k _=>[m,k]
 |.mapUpdate _ m k v=>[m,k,v]
 | .call c=>match c.callee with
   |.value f=>f::c.args.toList
   |_=>c.args.toList
 |_=>[]
section
variable {α:Type}{R:α→Value→Prop}{f:Operand→Value}
theorem Xt {x:α}{a:Operand}(h:FL R [x] (List.map f [a])):R x (f a):=by
 obtain⟨v,r,e,G,_⟩:=h;simp only[List.map,List.cons.injEq] at e;rw[e.1];exact G
theorem FL2 {x y:α}{a b:Operand}(h:FL R [x,y] (List.map f [a,b])):R x (f a)∧R y (f b):=by
 obtain⟨v,r,e,J,u,s,e',K,_⟩:=h;simp only[List.map,List.cons.injEq] at e;obtain⟨G,rfl⟩:=e;simp only[List.cons.injEq] at e';rw[G,e'.1];exact⟨J,K⟩
theorem FL3 {x y z:α}{a b c:Operand}(h:FL R [x,y,z] (List.map f [a,b,c])):R x (f a)∧R y (f b)∧R z (f c):=by
 obtain⟨v,r,e,K,J⟩:=h;simp only[List.map,List.cons.injEq] at e;obtain⟨G,rfl⟩:=e;have:=FL2 (f:=f) (a:=b) (b:=c) (by simpa using J);rw[G];exact⟨K,this⟩
end
def AS.app (s:AS)(ws:List (Nat×aI)):AS:=⟨s.tm,s.nx,ws++s.hp⟩
def vz (i:TI)(cs:List AV)(K:AV→Prop):Prop:=
 match i.d.isAgg with
 | true=>match EA cs with
   |some v=>K v
   |none=>False
 | false=>match cs with
   |[v]=>K v
   |_=>False
def zJ (i:TI)(cs:List PV)(K:AV→Prop):Prop:=
 match i.d.isAgg with
 |true=>K (.pv (.agg cs))
 | false=>match cs with
   |[v]=>K (.pv v)
   |_=>False
def vk (T:Tab)(H:List (Nat×aI))(t:TypeId)(x:AV)(K:AV→Prop):Prop:=
 match lk T t with
 |none=>False
 | some i=>match x with
   | .ptr b off=>match lk H b with
     | some (.var G)=>match part off i.size G with
       |some cs=>vz i cs K
       |none=>False
     | some (.oN G)=>match part off i.size G with
       |some cs=>zJ i cs K
       |none=>False
     |_=>False
   | .pv (.dU J off)=>match part off i.size J with
     |some cs=>zJ i cs K
     |none=>False
   | .eY b ver k off=>match lk H b with
     | some (.arr _ v _ Q)=>match Nat.beq ver v with
       | true=>∃J,Q[k]? = some J∧match part off i.size J with
         |some cs=>zJ i cs K
         |none=>False
       |false=>False
     | some (.d9 v _ Q)=>match Nat.beq ver v with
       | true=>∃J,Q[k]? = some J∧match part off i.size J with
         |some cs=>zJ i cs K
         |none=>False
       |false=>False
     |_=>False
   |_=>False
section
variable {P:Program}{T:Tab}{N:Nat→Prop}{w:World}{hp:List (Nat×aI)}{R:Real}
theorem MH (i:TI){t:TypeId}(hi:og P t i){g off:Nat}{cur:Array Value}{e:TypeId}{fr:Nat×Nat}{cells cs:List AV}{K:AV→Prop}
  (hg:w.heap[g]? = some (.cells cur e fr)) (hc:FC (au N w hp R) cells cur.toList) (hp':part off i.size cells=some cs)
  (h:vz i cs K) :
  ∃x v,(loadVar t ⟨g,off,none⟩).run P w=.ok x w∧K v∧au N w hp R v x:=by
 obtain⟨hl,J⟩:=hc.fp.part hp';have G:=mI (w:=w) hi hg (by simpa using hl);cases S:i.d.isAgg with
 | true=>
   simp only[vz,S] at h;simp only[S] at G;unfold EA at h;split at h;rotate_left;cases h
   rename_i v X;refine⟨_,v,G,h,?_⟩;split at X
   ·rename_i Q aa;simp only[Option.some.injEq] at X;subst X;simp only[au,bL,if_true];refine⟨_,rfl,?_⟩;rw[iH];have:∀(cs:List AV) (Q:List PV) (vs:List Value),jE cs=some Q→FC (au N w hp R) cs vs→FC (bL N w) Q vs:=by
     intro cs;induction cs with
     |nil=>intro Q vs h h';simp only[jE,Option.some.injEq] at h;subst h;exact h'
     | cons c cs ih=>
       intro Q vs h h';obtain⟨v,r,rfl,h1,h2,h3⟩:=h';cases c<;>simp only[jE] at h<;>try (cases h;done)
       split at h
       ·rename_i ad uX;simp only[Option.some.injEq] at h;subst h;exact⟨v,r,rfl,h1,by simpa only[au] using h2,ih _ _ uX h3⟩
       cases h
    exact this cs Q _ aa (by simpa using J)
   simp only[Option.some.injEq] at X;subst X;simp only[au,if_true];refine⟨_,rfl,?_⟩;rw[bR];simpa using J
 | false=>
   have h1:=hi.agg S;simp only[vz,S] at h;simp only[S,Bool.false_eq_true,if_false] at G;split at h;rotate_left;cases h
   rename_i v;obtain⟨u,r,e1,e2,e3,e4⟩:=J;refine⟨_,_,G,h,?_⟩;have:cur[off]! = u:=by
    have V:off<cur.size:=by simp at hl;omega
    rw[getElem!_pos cur off V];have hh:((cur.toList.drop off).take i.size)[0]? = some u:=by rw[e1];rfl
    rw[h1] at hh;simp only[List.getElem?_take,Nat.zero_lt_one,if_true,List.getElem?_drop,Nat.add_zero] at hh;have h3:cur[off]? = some u:=by simpa using hh
    rw[Array.getElem?_eq_getElem V] at h3;exact Option.some.inj h3
   rw[this];exact e3
theorem qI (i:TI){t:TypeId}(hi:og P t i){g base off:Nat}{cur:Array Value}{e:TypeId}{fr:Nat×Nat}{cells cs:List PV}{K:AV→Prop}
  (hg:w.heap[g]? = some (.cells cur e fr)) (hc:FP (bL N w) cells (cur.toList.drop base)) (hp':part off i.size cells=some cs)
  (h:zJ i cs K) :
  ∃x v,(loadVar t ⟨g,base+off,none⟩).run P w=.ok x w∧K v∧au N w hp R v x:=by
 obtain⟨hl,J⟩:=hc.part hp';rw[List.drop_drop] at J;have aa:i.size=0∨base+off+i.size≤cur.size:=by simp at hl;omega
 cases Q:i.d.isAgg with
 | true=>
   simp only[zJ,Q] at h;by_cases X:base+off+i.size≤cur.size
   ·have G:=mI (w:=w) hi hg X;simp only[Q,if_true] at G;refine⟨_,_,G,h,?_⟩;simp only[au,bL];exact⟨_,rfl,by rw[iH];simpa using J⟩
   have V:=aa.resolve_right X;refine⟨.agg #[],_,?_,h,?_⟩
   ·simp[loadVar,hi.rR,Q,hi.run_sizeOf,V,loadCells,loadCellsFrom]
   simp only[au,bL];exact⟨_,rfl,by rw[iH];simpa[V] using J⟩
 | false=>
   have h1:=hi.agg Q;have X:base+off+i.size≤cur.size:=by omega
   have G:=mI (w:=w) hi hg X;simp only[zJ,Q] at h;simp only[Q,Bool.false_eq_true,if_false] at G;split at h;rotate_left;cases h
   rename_i v;obtain⟨u,r,e1,e2,e3,e4⟩:=J;refine⟨_,_,G,h,?_⟩;have:cur[base+off]! = u:=by
    have S:base+off<cur.size:=by omega
    rw[getElem!_pos cur (base+off) S];have hh:((cur.toList.drop (base+off)).take i.size)[0]? = some u:=by rw[e1];rfl
    rw[h1] at hh;simp only[List.getElem?_take,Nat.zero_lt_one,if_true,List.getElem?_drop,Nat.add_zero] at hh;have h3:cur[base+off]? = some u:=by simpa using hh
    rw[Array.getElem?_eq_getElem S] at h3;exact Option.some.inj h3
   rw[this];simpa only[au] using e3
end
section
variable {P:Program}{T:Tab}{c:Ctx}{R:Real}{s:AS}{a:Act}{w:World}
theorem gY {N:Nat→Prop}{hp:List (Nat×aI)}{b:Nat}{e:TypeId}{ver st:Nat}{rows:List (List PV)}(h:fK N w hp R b (.arr e ver st rows))(S:R.nil b=false) :
  ∃G,w.heap[R.blk b]? = some (.cells G e (0,0))∧(R.cap b).2.2+(R.cap b).1*st≤G.size∧rows.length≤(R.cap b).1∧(R.cap b).1≤maxLen∧dI N w st rows (G.toList.drop (R.cap b).2.2) ∧
   G.toList.take (rows.length*st)=G.toList.take (rows.length*st):=by
 obtain⟨xs,⟨h1,J⟩,X⟩:=h;rcases J with ⟨J,_⟩|⟨g,V,G,o,Q,hg,K,hm,hs,ht⟩
 ·simp[dW,S] at J
 simp only[dW,S,Bool.false_eq_true,if_false,Value.slice.injEq,Option.some.injEq,Addr.mk.injEq,and_true,true_and] at Q;obtain⟨⟨rfl,rfl⟩,rfl⟩:=Q;refine⟨G,hg,hs,K,hm,?_,rfl⟩;have:=uV ((G.toList.drop (R.cap b).2.2).drop (rows.length*st)) X;rw[←ht,List.take_append_drop] at this;exact this
theorem vo (g:bN c R s a w)(hT:dB P T){H:List (Nat×aI)}(hH:∀b box,lk H b=some box→lk s.hp b=some box){t:TypeId}{x:AV}{K:AV→Prop}
  (h:vk T H t x K) {u:Value} (Q:au (bA c R s.hp) w s.hp R x u) :
  ∃y v,(Instr.loadAt t u).run P w=.ok y w∧K v∧au (bA c R s.hp) w s.hp R v y:=by
 unfold vk at h;split at h
 ·exact h.elim
 rename_i i hi;have V:=hT t i hi;split at h
 ·rename_i b off;simp only[au] at Q;split at h
  ·rename_i aa hb;have G:=hH _ _ hb;rw[G] at Q;simp only[bf] at Q;subst Q;split at h;rotate_left;cases h
   rename_i cs J;obtain⟨X,e,hg,hc⟩:=(g.boxes b _ G);rw[bR] at hc;obtain⟨y,v,h1,h2,h3⟩:=MH i V hg hc J h;exact⟨y,v,by simpa[Instr.loadAt,Instr.sureAddr] using h1,h2,h3⟩
  ·rename_i aa hb;have G:=hH _ _ hb;rw[G] at Q;simp only[bf] at Q;subst Q;split at h;rotate_left;cases h
   rename_i cs J;obtain⟨X,e,fr,hg,hn,hc⟩:=(g.boxes b _ G);rw[fA] at hc;obtain⟨y,v,h1,h2,h3⟩:=qI (base:=0) (hp:=s.hp) (R:=R) i V hg (by simpa using hc) J h;exact⟨y,v,by simpa[Instr.loadAt,Instr.sureAddr] using h1,h2,h3⟩
  exact h.elim
 ·rename_i ae off;simp only[au,bL] at Q;obtain⟨gg,base,X,e,fr,rfl,hn,hg,hc⟩:=Q;rw[fA] at hc;split at h
  ·rename_i cs J;obtain⟨y,v,h1,h2,h3⟩:=qI (hp:=s.hp) (R:=R) i V hg hc J h;exact⟨y,v,by simpa[Instr.loadAt,Instr.sureAddr] using h1,h2,h3⟩
  exact h.elim
 ·rename_i b ver k off;simp only[au] at Q;split at h
  ·rename_i e v st af hb;have G:=hH _ _ hb;rw[G] at Q;simp only[bC] at Q;split at h;rotate_left;cases h
   rename_i hv;obtain⟨hn,rfl⟩:=Q.2.2 (Nat.eq_of_beq_eq_true hv);obtain⟨ae,S,h⟩:=h;split at h;rotate_left;cases h
   rename_i cs J;obtain⟨X,hg,hs,ah,hm,hr,_⟩:=gY (g.boxes b _ G) hn;obtain⟨hl,Tf⟩:=rQ hr S;rw[fA,List.drop_drop] at Tf;obtain⟨y,v,h1,h2,h3⟩:=qI (hp:=s.hp) (R:=R) i V hg Tf J h;exact⟨y,v,by simpa[Instr.loadAt,Instr.sureAddr] using h1,h2,h3⟩
  ·rename_i v st af hb;have G:=hH _ _ hb;rw[G] at Q;simp only[bC] at Q;split at h;rotate_left;cases h
   rename_i hv;obtain⟨hn,rfl⟩:=Q.2.2 (Nat.eq_of_beq_eq_true hv);obtain⟨ae,S,h⟩:=h;split at h;rotate_left;cases h
   rename_i cs J;have ad:=(g.boxes b _ G);simp only[fK,bL,dW,hn,Bool.false_eq_true,if_false] at ad;obtain⟨p,ai,ag,e1,e2,e3,_,e4⟩:=ad;simp only[Value.slice.injEq] at e1;obtain⟨rfl,rfl,rfl⟩:=e1;rcases e4 _ rfl with e5|⟨_,_,X,e,fr,hg,hr⟩
   ·subst e5;simp at S
   obtain⟨hl,Tf⟩:=rQ hr S;rw[fA,List.drop_drop] at Tf;obtain⟨y,v,h1,h2,h3⟩:=qI (hp:=s.hp) (R:=R) i V hg Tf J h;exact⟨y,v,by simpa[Instr.loadAt,Instr.sureAddr] using h1,h2,h3⟩
  exact h.elim
 exact h.elim
end
def nth {α:Type}:List α→Nat→Option α
 |[],_=>none
 |a::_,0=>some a
 |_::r,n+1=>nth r n
theorem ve {α:Type}:∀(l:List α) (n:Nat),nth l n=l[n]?
 |[],_=>by simp[nth]
 |a::_,0=>by simp[nth]
 |_::r,n+1=>by simp[nth,ve r n]
def zw (T:Tab)(t:TypeId)(f:Nat):Option (Nat×TI):=
 match lk T t with
 | some i=>match i.d with
   | .str G=>match nth G f with
     | some (off,J)=>match lk T J with
       |some j=>some (off,j)
       |none=>none
     |none=>none
   |_=>none
 |none=>none
def SA:Option aI→Option Nat
 |some (.arr _ v _ _)=>some v
 |some (.d9 v _ _)=>some v
 |some (.iP _ v _ _ _ _)=>some v
 |_=>none
def mX (T:Tab)(H:List (Nat×aI))(t:TypeId)(x:AV)(f:Nat)(K:AV→Prop):Prop:=
 match zw T t f with
 | some (off,j)=>match Nat.beq j.size 0 with
   |true=>False
   | false=>match x with
     |.ptr b o=>K (.ptr b (o+off))
     | .eY b ver i o=>match SA (lk H b) with
       | some v=>match Nat.beq ver v with
         |true=>K (.eY b ver i (o+off))
         |false=>False
       |none=>False
     |.pv (.dU G o)=>K (.pv (.dU G (o+off)))
     |_=>False
 |none=>False
def LH (T:Tab)(t:TypeId)(x:AV)(f:Nat)(K:AV→Prop):Prop:=
 match zw T t f with
 | some (off,j)=>match x with
   | .pv (.agg cs)=>match part off j.size cs with
     |some ds=>zJ j ds K
     |none=>False
   | .agg cs=>match part off j.size cs with
     |some ds=>vz j ds K
     |none=>False
   |_=>False
 |none=>False
def fP (T:Tab)(H:List (Nat×aI))(t:TypeId)(x V:AV)(K:AV→Prop):Prop:=
 match V with
 | .pv (.sc (.int _ i))=>match lk T t with
   | some X=>match X.d with
     | .slt e=>match lk T e with
       | some Q=>match x with
         | .pv (.sl _ S G)=>match Nat.beq S Q.size with
           |true=>0≤i∧∃J,G[i.toNat]? = some J∧K (.pv (.dU J 0))
           |false=>False
         | .aO b ver=>match lk H b with
           | some (.arr _ v S G)=>match Nat.beq ver v,Nat.beq S Q.size with
             |true,true=>0≤i∧i.toNat<G.length∧K (.eY b ver i.toNat 0)
             |_,_=>False
           | some (.d9 v S G)=>match Nat.beq ver v,Nat.beq S Q.size with
             |true,true=>0≤i∧∃J,G[i.toNat]? = some J∧K (.pv (.dU J 0))
             |_,_=>False
           |_=>False
         |_=>False
       |none=>False
     | .adh n e=>match lk T e with
       | some Q=>match x with
         |.ptr b off=>0≤i∧i<n∧K (.ptr b (off+i.toNat*Q.size))
         |_=>False
       |none=>False
     |_=>False
   |none=>False
 |_=>False
def pI (T:Tab)(t:TypeId)(x G:AV)(K:AV→Prop):Prop:=
 match G with
 | .pv (.sc (.int _ i))=>match lk T t with
   | some J=>match J.d with
     | .LB=>match x with
       |.pv (.sc (.string s))=>0≤i∧∃b,s.data.toList[i.toNat]? = some b∧K (.pv (.sc (.int .u8 b.toNat)))
       |_=>False
     |_=>False
   |none=>False
 |_=>False
def rF (x:AV)(i:Nat)(K:AV→Prop):Prop:=
 match x with
 | .cK vs=>match nth vs i with
   |some v=>K v
   |none=>False
 | .pv (.cK vs)=>match nth vs i with
   |some v=>K (.pv v)
   |none=>False
 |_=>False
def cUn (op:UnOp)(x:AV)(K:AV→Prop):Prop:=
 match op,x with
 |.not,.pv (.sc (.bool b))=>K (.pv (.sc (.bool (!b))))
 |.neg,.pv (.sc (.int k n))=>K (.pv (.sc (.int k (k.wrap (0-n)))))
 |_,_=>False
def lD (b:UInt8):List PV:=[.sc (.int .u8 b.toNat)]
def uZ (T:Tab)(H:List (Nat×aI))(src J:TypeId)(x:AV)(K:AV→Prop):Prop:=
 match lk T src,lk T J with
 | some V,some Q=>match Q.d with
   | .Bc k=>match x with
     |.pv (.sc (.int _ n))=>K (.pv (.sc (.int k (k.wrap n))))
     |_=>False
   | .LB=>match V.d with
     | .LB=>match x with
       |.pv (.sc (.string s))=>K (.pv (.sc (.string s)))
       |_=>False
     | .slt e=>match lk T e with
       | some S=>match S.d with
         | .Bc .u8=>match x with
           |.pv (.sc (.slice none _ _))=>K (.pv (.sc (.string .empty)))
           | _=>match vw H x with
             | some (.sl _ X G)=>match Nat.beq X 1 with
               |true=>∃bs:List UInt8,G=bs.map lD∧K (.pv (.sc (.string ⟨bs.toArray⟩)))
               |false=>False
             |_=>False
         |_=>False
       |none=>False
     |_=>False
   |_=>False
 |_,_=>False
def Kk (T:Tab)(H:List (Nat×aI))(t:TypeId)(x:AV)(K:AV→Prop):Prop:=
 match lk T t with
 | some i=>match i.d with
   | .LB=>match x with
     |.pv (.sc (.string s))=>K (.pv (.sc (.int .i64 s.size)))
     |_=>False
   | .slt _=>match x with
     |.pv (.sc (.slice none n _))=>K (.pv (.sc (.int .i64 n)))
     | _=>match vw H x with
       |some (.sl _ _ G)=>K (.pv (.sc (.int .i64 G.length)))
       |_=>False
   |.adh n _=>K (.pv (.sc (.int .i64 n)))
   |_=>False
 |none=>False
section
variable {P:Program}{T:Tab}{c:Ctx}{R:Real}{s:AS}{a:Act}{w:World}
theorem qX (S:dB P T){t:TypeId}{f off:Nat}{j:TI}(h:zw T t f=some (off,j)) :
  ∃J G,P.underlying t=some (.struct J)∧J[f]? = some G∧G.offset=off∧og P G.type j:=by
 unfold zw at h;split at h
 ·rename_i i hi;split at h
  ·rename_i l hl;split at h
   ·rename_i o ft K;split at h
    ·rename_i j' hj;simp only[Option.some.injEq,Prod.mk.injEq] at h;obtain⟨rfl,rfl⟩:=h;obtain⟨d,X,Q⟩:=(S t i hi).jr;rw[hl] at Q;cases d<;>simp[di] at Q
     rename_i J;subst Q;rw[ve] at K;simp only[List.getElem?_map,Option.map_eq_some_iff,Prod.mk.injEq] at K;obtain⟨G,V,rfl,rfl⟩:=K;exact⟨J,G,X,by simpa using V,rfl,S _ _ hj⟩
    cases h
   cases h
  cases h
 cases h
theorem EO {b ver i off:Nat}{v:Value}{o:Option aI}(h:bC R b ver i off v o){k:Nat}(K:SA o=some k)(e:ver=k) :
  ∃S,R.nil b=false∧v=.pointer (some ⟨R.blk b,(R.cap b).2.2+i*S+off,none⟩)∧∀J,bC R b ver i J (.pointer (some ⟨R.blk b,(R.cap b).2.2+i*S+J,none⟩)) o:=by
 cases o with
 |none=>exact h.elim
 | some box=>
   cases box<;>simp only[bC] at h<;>simp only[SA,Option.some.injEq] at K<;>try (first|exact h.elim|(cases K;done))
   ·obtain⟨G,Q⟩:=h.2.2 (e.trans K.symm);refine⟨_,G,Q,fun J=>?_⟩;exact⟨h.1,rfl,fun _=>⟨G,rfl⟩⟩
   ·obtain⟨G,Q⟩:=h.2.2 (e.trans K.symm);refine⟨_,G,Q,fun J=>?_⟩;exact⟨h.1,rfl,fun _=>⟨G,rfl⟩⟩
   obtain⟨G,Q⟩:=h.2.2 (e.trans K.symm);refine⟨_,G,Q,fun J=>?_⟩;exact⟨h.1,rfl,fun _=>⟨G,rfl⟩⟩
theorem Be (hT:dB P T){N:Nat→Prop}{hp:List (Nat×aI)}{H:List (Nat×aI)}(hH:∀b box,lk H b=some box→lk hp b=some box)
  {t:TypeId} {x:AV} {f:Nat} {K:AV→Prop} (h:mX T H t x f K)
  {u:Value} (G:au N w hp R x u) :
  ∃y v,(Instr.fieldAt t u f).run P w=.ok y w∧K v∧au N w hp R v y:=by
 unfold mX at h;split at h;rotate_left;cases h
 rename_i off j hf;split at h
 ·exact h.elim
 rename_i V;have V:j.size≠0:=Nat.ne_of_beq_eq_false V;obtain⟨fs,X,h1,h2,rfl,h4⟩:=qX hT hf;have run:∀g o,(Instr.fieldAt t (.pointer (some ⟨g,o,none⟩)) f).run P w=.ok (.pointer (some ⟨g,o+X.offset,none⟩)) w:=by
  intro g o;simp[Instr.fieldAt,run_underlying h1,h2,Instr.sureAddr,fieldPlace,h4.run_sizeOf,V,addr_add]
 split at h
 ·rename_i b o;simp only[au] at G;cases J:lk hp b with
  |none=>rw[J] at G;exact G.elim
  | some box=>
    rw[J] at G;cases box<;>simp only[bf] at G<;>(subst G;exact⟨_,_,run _ _,h,by simp only[au,J,bf]⟩)
 ·rename_i b ver i o;split at h;rotate_left;cases h
  rename_i v Q;split at h;rotate_left;cases h
  rename_i gu;simp only[au] at G;cases J:lk H b with
  |none=>rw[J] at Q;cases Q
  | some box=>
    rw[J,←hH _ _ J] at Q;obtain⟨st,hn,hu,hr⟩:=EO G Q (Nat.eq_of_beq_eq_true gu);subst hu;exact⟨_,_,run _ _,h,by simp only[au];rw[Nat.add_assoc];exact hr _⟩
 ·rename_i aa o;simp only[au,bL] at G;obtain⟨g,base,S,e,fr,rfl,G⟩:=G;refine⟨_,_,run _ _,h,?_⟩;simp only[au,bL];exact⟨g,base,S,e,fr,by rw[Nat.add_assoc],G⟩
 exact h.elim
theorem EP {N:Nat→Prop}{hp:List (Nat×aI)}{x:AV}{i:Nat}{K:AV→Prop}(h:rF x i K){u:Value}(G:au N w hp R x u) :
  ∃y v,(Instr.extract u i).run P w=.ok y w∧K v∧au N w hp R v y:=by
 unfold rF at h;split at h
 ·split at h
  ·rename_i vs v J;simp only[au] at G;obtain⟨us,rfl,G⟩:=G;rw[eZ] at G;rw[ve] at J;obtain⟨y,Q,S⟩:=G.get J;refine⟨y,v,?_,h,S⟩;have:us[i]? = some y:=by simpa using Q
   simp[Instr.extract,this]
  exact h.elim
 ·split at h
  ·rename_i vs v J;simp only[au,bL] at G;obtain⟨us,rfl,G⟩:=G;rw[jF] at G;rw[ve] at J;obtain⟨y,Q,S⟩:=G.get J;refine⟨y,_,?_,h,by simpa only[au] using S⟩;have:us[i]? = some y:=by simpa using Q
   simp[Instr.extract,this]
  exact h.elim
 exact h.elim
theorem UA {N:Nat→Prop}{hp:List (Nat×aI)}{op:UnOp}{x:AV}{K:AV→Prop}(h:cUn op x K){u:Value}(G:au N w hp R x u) :
  ∃y v,(Op.unary op u).run P w=.ok y w∧K v∧au N w hp R v y:=by
 unfold cUn at h;split at h
 ·rename_i b;simp only[au,bL] at G;subst G;exact⟨.bool (!b),_,by simp[Op.unary],h,by simp only[au,bL]⟩
 ·rename_i k n;simp only[au,bL] at G;subst G;exact⟨.int k (k.wrap (0-n)),_,by simp[Op.unary,Op.intArith],h,by simp only[au,bL]⟩
 exact h.elim
theorem U7 {α:Type}{off n:Nat}{l x:List α}(h:part off n l=some x):x.length=n∧off+n≤l.length∧x=(l.drop off).take n:=by
 have K:∀(n:Nat) (l r:List α),kV n l=some r→n≤l.length∧r=l.drop n:=by
  intro n;induction n with
  |zero=>intro l r h;simp only[kV,Option.some.injEq] at h;subst h;simp
  | succ n ih=>
    intro l r h;cases l with
    |nil=>simp[kV] at h
    |cons a l=>simp only[kV] at h;have:=ih l r h;simpa using this
 have G:∀(n:Nat) (l r:List α),kJ n l=some r→n≤l.length∧r=l.take n:=by
  intro n;induction n with
  |zero=>intro l r h;simp only[kJ,Option.some.injEq] at h;subst h;simp
  | succ n ih=>
    intro l r h;cases l with
    |nil=>simp[kJ] at h
    | cons a l=>
      simp only[kJ] at h;split at h
      ·rename_i t G;simp only[Option.some.injEq] at h;subst h;have:=ih l t G;refine⟨by simp[this.1],by simp[this.2]⟩
      cases h
 unfold part at h;split at h
 ·rename_i r Q;obtain⟨S,rfl⟩:=K _ _ _ Q;obtain⟨J,rfl⟩:=G _ _ _ h;simp only[List.length_drop] at J;refine⟨by simp;omega,by omega,rfl⟩
 cases h
theorem Ql {N:Nat→Prop}{hp:List (Nat×aI)}{i:TI}{t:TypeId}(hi:og P t i){ds:List AV}{K:AV→Prop}(h:vz i ds K){vs:Array Value}{off:Nat}
  (hd:FC (au N w hp R) ds ((vs.toList.drop off).take i.size)) (_:off+i.size≤vs.size) :
  ∃y v,(Go.part t vs off).run P w=.ok y w∧K v∧au N w hp R v y:=by
 unfold vz at h;split at h
 ·rename_i Q;unfold EA at h;split at h;rotate_left;cases h
  rename_i v G;refine⟨.agg (vs.extract off (off+i.size)),v,?_,h,?_⟩
  ·simp[Go.part,hi.rR,Q,hi.run_sizeOf]
  have e:(vs.extract off (off+i.size)).toList=(vs.toList.drop off).take i.size:=by
   simp[Array.toList_extract,List.extract]
  split at G
  ·rename_i J aa;simp only[Option.some.injEq] at G;subst G;simp only[au,bL];refine⟨_,rfl,?_⟩;rw[iH,e];have:∀(cs:List AV) (J:List PV) (vs:List Value),jE cs=some J→FC (au N w hp R) cs vs→FC (bL N w) J vs:=by
    intro cs;induction cs with
    |nil=>intro J vs h S;simp only[jE,Option.some.injEq] at h;subst h;exact S
    | cons c cs ih=>
      intro J vs h S;obtain⟨v,r,rfl,V,h2,X⟩:=S;cases c<;>simp only[jE] at h<;>try (cases h;done)
      split at h
      ·rename_i ad uX;simp only[Option.some.injEq] at h;subst h;exact⟨v,r,rfl,V,by simpa only[au] using h2,ih _ _ uX X⟩
      cases h
   exact this _ _ _ aa hd
  simp only[Option.some.injEq] at G;subst G;simp only[au];refine⟨_,rfl,?_⟩;rw[bR,e];exact hd
 rename_i Q;have V:=hi.agg Q;split at h;rotate_left;cases h
 rename_i v;obtain⟨u,r,e1,e2,e3,e4⟩:=hd;refine⟨u,_,?_,h,e3⟩;have hh:((vs.toList.drop off).take i.size)[0]? = some u:=by rw[e1];rfl
 rw[V] at hh;simp only[List.getElem?_take,Nat.zero_lt_one,if_true,List.getElem?_drop,Nat.add_zero] at hh;have X:vs[off]? = some u:=by simpa using hh
 simp[Go.part,hi.rR,Q,X]
theorem U8 {i:TI}{ds:List PV}{K:AV→Prop}(h:zJ i ds K):vz i (ds.map .pv) K:=by
 have G:∀l:List PV,jE (l.map AV.pv)=some l:=by
  intro l;induction l with
  |nil=>rfl
  |cons p r ih=>simp[jE,ih]
 unfold zJ at h;unfold vz;split at h
 ·rename_i J;simp only[EA,G];exact h
 rename_i J;split at h
 ·exact h
 exact h.elim
theorem Pq (hT:dB P T){N:Nat→Prop}{hp:List (Nat×aI)}{t:TypeId}{x:AV}{f:Nat}{K:AV→Prop}(h:LH T t x f K){u:Value}(G:au N w hp R x u) :
  ∃y v,(Instr.field t u f).run P w=.ok y w∧K v∧au N w hp R v y:=by
 unfold LH at h;split at h;rotate_left;cases h
 rename_i off j hf;obtain⟨fs,X,h1,h2,rfl,h4⟩:=qX hT hf;have key:∀(cs:List AV) (us:Array Value) (ds:List AV),FC (au N w hp R) cs us.toList→part X.offset j.size cs=some ds→vz j ds K →
   ∃y v,(Instr.field t (.agg us) f).run P w=.ok y w∧K v∧au N w hp R v y:=by
  intro cs us ds hc S ho;obtain⟨Q,hd⟩:=hc.fp.part S;obtain⟨y,v,h5,h6,h7⟩:=Ql h4 ho hd (by simpa using Q);exact⟨y,v,by simp[Instr.field,run_underlying h1,h2,asAgg,h5],h6,h7⟩
 split at h
 ·rename_i cs;simp only[au,bL] at G;obtain⟨us,rfl,G⟩:=G;rw[iH] at G;split at h;rotate_left;cases h
  rename_i ds J;refine key (cs.map .pv) us (ds.map .pv) (FC.map (fun p v hv=>by simpa only[au] using hv) G) ?_ (U8 h);obtain⟨e1,e2,V⟩:=U7 J;have gd:∀(n:Nat) (l:List PV),n≤l.length→kV n (l.map AV.pv)=some ((l.drop n).map .pv):=by
   intro n;induction n with
   |zero=>intro l _;simp[kV]
   | succ n ih=>intro l Q;cases l with
     |nil=>simp at Q
     |cons a l=>simpa[kV] using ih l (by simpa using Q)
  have gt:∀(n:Nat) (l:List PV),n≤l.length→kJ n (l.map AV.pv)=some ((l.take n).map .pv):=by
   intro n;induction n with
   |zero=>intro l _;simp[kJ]
   | succ n ih=>intro l Q;cases l with
     |nil=>simp at Q
     |cons a l=>simp[kJ,ih l (by simpa using Q)]
  unfold part;rw[gd _ _ (by omega)];simp only;rw[gt _ _ (by simp;omega),V]
 ·rename_i cs;simp only[au] at G;obtain⟨us,rfl,G⟩:=G;rw[bR] at G;split at h
  ·rename_i ds J;exact key cs us ds G J h
  exact h.elim
 exact h.elim
theorem nk (g:bN c R s a w)(hT:dB P T){H:List (Nat×aI)}(hH:∀b box,lk H b=some box→lk s.hp b=some box){t:TypeId}{x ix:AV}{K:AV→Prop}
  (h:fP T H t x ix K) {u v:Value} (X:au (bA c R s.hp) w s.hp R x u) (hv:au (bA c R s.hp) w s.hp R ix v) :
  ∃y z,(Instr.indexAt t u v).run P w=.ok y w∧K z∧au (bA c R s.hp) w s.hp R z y:=by
 unfold fP at h;split at h;rotate_left;cases h
 rename_i k i;simp only[au,bL] at hv;subst hv;split at h;rotate_left;cases h
 rename_i ti YJ;obtain⟨d,hd,jb⟩:=(hT t ti YJ).jr;split at h
 ·rename_i e ai;have ah:P.underlying t=some (.slice e):=by
   rw[ai] at jb;cases d<;>simp[di] at jb
   subst jb;exact hd
  split at h;rotate_left;cases h
  rename_i ei rD;have jl:=hT e ei rD;have run:∀(a:Addr) (J Q:Nat),0≤i→i.toNat<J →
    (Instr.indexAt t (.slice (some a) J Q) (.int k i)).run P w=.ok (.pointer (some (a.add (i.toNat*ei.size)))) w:=by
   intro a J Q h0 h1;have:i<(J:Int):=by omega
   simp[Instr.indexAt,asIntOf,run_underlying ah,h0,this,jl.run_sizeOf]
  have cell:∀(p:Option Addr) (J Q:Nat) (nn:Bool) (st:Nat) (G:List (List PV)) (aa:List PV),bL (bA c R s.hp) w (.sl nn st G) (.slice p J Q)→st=ei.size →
    0≤i→G[i.toNat]? = some aa→K (.pv (.dU aa 0))→∃y z,(Instr.indexAt t (.slice p J Q) (.int k i)).run P w=.ok y w∧K z∧au (bA c R s.hp) w s.hp R z y:=by
   intro p J Q nn st G aa hr V h0 S hK;simp only[bL] at hr;obtain⟨p',ar,ax,e1,e2,e3,e4,e5⟩:=hr;simp only[Value.slice.injEq] at e1;obtain⟨rfl,rfl,rfl⟩:=e1;have am:i.toNat<G.length:=(List.getElem?_eq_some_iff.1 S).1;cases p with
   |none=>have:=(e4 rfl).2;omega
   | some ad=>
     rcases e5 _ rfl with e6|⟨hs,hn,al,e,fr,hg,hr⟩
     ·subst e6;simp at S
     obtain⟨aq,off,aw⟩:=ad;simp only at hs hn hg hr;subst hs;refine⟨_,_,run _ _ _ h0 (by omega),hK,?_⟩;obtain⟨_,ao⟩:=rQ hr S;simp only[au,bL,addr_add];refine⟨aq,off+i.toNat*ei.size,al,e,fr,rfl,hn,hg,?_⟩;rw[List.drop_drop,V] at ao;exact ao
  split at h
  ·rename_i nn st G;split at h;rotate_left;cases h
   rename_i V;obtain⟨h0,aa,S,hK⟩:=h;simp only[au] at X;have ap:=X;simp only[bL] at ap;obtain⟨p,J,Q,rfl,_⟩:=ap;exact cell p J Q nn st G aa X (Nat.eq_of_beq_eq_true V) h0 S hK
  ·rename_i b ver;simp only[au] at X;split at h
   ·rename_i e' v st G hb;have ae:=hH _ _ hb;rw[ae] at X;simp only[aX] at X;split at h;rotate_left;cases h
    rename_i gu V;obtain⟨h0,am,hK⟩:=h;have:=X.2.2 (Nat.eq_of_beq_eq_true gu);subst this;have V:=Nat.eq_of_beq_eq_true V;have ag:R.nil b=false:=by
     cases hn:R.nil b with
     |false=>rfl
     | true=>
       obtain⟨xs,⟨_,h2⟩,_⟩:=(g.boxes b _ ae);rcases h2 with ⟨_,h2⟩|⟨g',Q,al,o',e1,_⟩
       ·omega
       simp[dW,hn] at e1
    simp only[dW,ag,Bool.false_eq_true,if_false];refine⟨_,_,run _ _ _ h0 am,hK,?_⟩;simp only[au,ae,bC,addr_add];exact⟨by rw[Nat.eq_of_beq_eq_true gu];exact Nat.le_refl _,rfl,fun _=>⟨ag,by rw[←V];rfl⟩⟩
   ·rename_i v st G hb;have ae:=hH _ _ hb;rw[ae] at X;simp only[aX] at X;split at h;rotate_left;cases h
    rename_i gu V;obtain⟨h0,aa,S,hK⟩:=h;have:=X.2.2 (Nat.eq_of_beq_eq_true gu);subst this;have af:=(g.boxes b _ ae);simp only[fK] at af;have ak:=af;simp only[bL] at ak;obtain⟨p,J,Q,e1,_⟩:=ak;rw[e1] at af ⊢;exact cell p J Q false st G aa af (Nat.eq_of_beq_eq_true V) h0 S hK
   exact h.elim
  exact h.elim
 ·rename_i n e ai;have ah:P.underlying t=some (.array n e):=by
   rw[ai] at jb;cases d<;>simp[di] at jb
   obtain⟨rfl,rfl⟩:=jb;exact hd
  split at h;rotate_left;cases h
  rename_i ei rD;have jl:=hT e ei rD;split at h;rotate_left;cases h
  rename_i b off;obtain⟨h0,h1,hK⟩:=h;simp only[au] at X;cases hb:lk s.hp b with
  |none=>rw[hb] at X;exact X.elim
  | some box=>
    rw[hb] at X;have run:∀gg o,(Instr.indexAt t (.pointer (some ⟨gg,o,none⟩)) (.int k i)).run P w=.ok (.pointer (some ⟨gg,o+i.toNat*ei.size,none⟩)) w:=by
     intro gg o;simp[Instr.indexAt,asIntOf,run_underlying ah,Instr.sureAddr,h0,h1,jl.run_sizeOf,addr_add]
    cases box<;>simp only[bf] at X<;>(subst X;exact⟨_,_,run _ _,hK,by simp only[au,hb,bf]⟩)
 exact h.elim
theorem Kb (hT:dB P T){N:Nat→Prop}{hp:List (Nat×aI)}{t:TypeId}{x ix:AV}{K:AV→Prop}
  (h:pI T t x ix K) {u v:Value} (hx:au N w hp R x u) (X:au N w hp R ix v) :
  ∃y z,(Instr.index t u v).run P w=.ok y w∧K z∧au N w hp R z y:=by
 unfold pI at h;split at h;rotate_left;cases h
 rename_i k i;simp only[au,bL] at X;subst X;split at h;rotate_left;cases h
 rename_i ti YJ;obtain⟨d,hd,jb⟩:=(hT t ti YJ).jr;split at h;rotate_left;cases h
 rename_i Q;have J:P.underlying t=some .string:=by
  rw[Q] at jb;cases d<;>simp[di] at jb
  exact hd
 split at h;rotate_left;cases h
 rename_i str;obtain⟨h0,b,V,hK⟩:=h;simp only[au,bL] at hx;subst hx;refine⟨.int .u8 b.toNat,_,?_,hK,by simp only[au,bL]⟩;have G:i.toNat<str.size:=by
  have:=(List.getElem?_eq_some_iff.1 V).1;simpa using this
 have:str[i.toNat]? = some b:=by
  rw[ByteArray.getElem?_lt' str _ G];have S:str.data[i.toNat]? = some b:=by simpa using V
  have h3:str.data[i.toNat]'(by simpa using G)=b:=by
   rw[Array.getElem?_eq_getElem (by simpa using G)] at S;exact Option.some.inj S
  rw[←h3];rfl
 simp[Instr.index,asIntOf,run_underlying J,h0,this]
end
theorem wG {N:Nat→Prop}{w:World}{hp:List (Nat×aI)}{R:Real}:∀{cs:List AV} {ps:List PV} {vs:List Value},jE cs=some ps→FC (au N w hp R) cs vs→FC (bL N w) ps vs
 |[],ps,vs,h,G=>by simp only[jE,Option.some.injEq] at h;subst h;exact G
 | c::cs,ps,vs,h,G=>by
   obtain⟨v,r,rfl,J,K,Q⟩:=G;cases c<;>simp only[jE] at h<;>try (cases h;done)
   split at h
   ·rename_i S V;simp only[Option.some.injEq] at h;subst h;exact⟨v,r,rfl,J,by simpa only[au] using K,wG V Q⟩
   cases h
section
variable {P:Program}{T:Tab}{c:Ctx}{R:Real}{s:AS}{a:Act}{w:World}
theorem pV (g:bN c R s a w){b ver:Nat}{p:PV}(h:uU (lk s.hp b) ver=some p){N':Nat→Prop}(hN:∀r,N' r→bA c R s.hp r)
  (h2:∀r,aQ R b r (lk s.hp b)→¬N' r) {u:Value} (J:aX R b ver u (lk s.hp b)):bL N' w p u:=by
 cases hb:lk s.hp b with
 |none=>rw[hb] at J;exact J.elim
 | some box=>
   rw[hb] at h J h2;have Q:=(g.boxes b box hb);cases box with
   |var K=>cases h
   |oN K=>cases h
   | arr e v st G=>
     simp only[uU] at h;split at h
     ·rename_i hv;simp only[Option.some.injEq] at h;subst h;simp only[aX] at J;have:=J.2.2 (Nat.eq_of_beq_eq_true hv);subst this;cases X:R.nil b with
      | true=>
        obtain⟨xs,⟨_,h3⟩,_⟩:=Q;rcases h3 with ⟨_,h3⟩|⟨g',ae,S,o',V,_⟩
        ·have V:dW R b G.length=.slice none 0 0:=by simp[dW,X]
         rw[V,bL];exact⟨none,0,0,rfl,h3.symm,⟨Nat.le_refl _,by omega⟩,fun _=>⟨rfl,rfl⟩,fun a ha=>by cases ha⟩
        simp[dW,X] at V
      | false=>
        obtain⟨S,hg,hs,aa,hm,hr,_⟩:=gY Q X;have V:dW R b G.length=.slice (some ⟨R.blk b,(R.cap b).2.2,none⟩) G.length ((R.cap b).1):=by simp[dW,X]
        rw[V,bL];refine⟨_,_,_,rfl,rfl,⟨aa,by unfold maxLen at hm;omega⟩,fun h=>(by cases h),fun ad ha=>?_⟩;simp only[Option.some.injEq] at ha;subst ha;exact .inr ⟨rfl,h2 _ ⟨X,rfl⟩,S,e,(0,0),hg,by simpa using bg (fun r _ h=>hN r h) (fun _ _ _=>rfl) _ _ _ hr⟩
     cases h
   | d9 v st G=>
     simp only[uU] at h;split at h
     ·rename_i hv;simp only[Option.some.injEq] at h;subst h;simp only[aX] at J;have:=J.2.2 (Nat.eq_of_beq_eq_true hv);subst this;exact dV (fun r _ h=>hN r h) (fun _ _ _=>rfl) _ _ Q
     cases h
   |tr _ _ _ _=>exact J.elim
   |iP _ _ _ _ _ _=>cases h
theorem CO (g:bN c R s a w){b off:Nat}{p:PV}(h:Td (lk s.hp b) off=some p){N':Nat→Prop}(V:∀r,N' r→bA c R s.hp r)
  (h2:∀r,aQ R b r (lk s.hp b)→¬N' r) {u:Value} (K:bf R b off u (lk s.hp b)):bL N' w p u:=by
 cases X:lk s.hp b with
 |none=>rw[X] at K;exact K.elim
 | some box=>
   rw[X] at h K h2;have Q:=(g.boxes b box X);cases box with
   | var J=>
     simp only[Td] at h;split at h
     ·rename_i ps ad;simp only[Option.some.injEq] at h;subst h;simp only[bf] at K;subst K;obtain⟨G,e,hg,hc⟩:=Q;rw[bR] at hc;have aa:=wG ad hc;simp only[bL];refine⟨R.blk b,0,G,e,(0,0),by simp,h2 _ rfl,hg,?_⟩;have:jD (bA c R s.hp) w ps (G.toList.drop 0):=by rw[fA];simpa using aa.fp
      exact fJ (fun r _ h=>V r h) (fun _ _ _=>rfl) _ _ this
     cases h
   | oN J=>
     simp only[Td,Option.some.injEq] at h;subst h;simp only[bf] at K;subst K;obtain⟨G,e,fr,hg,hn,hc⟩:=Q;simp only[bL];exact⟨R.blk b,0,G,e,fr,by simp,fun x=>hn (V _ x),hg,by simpa using fJ (fun r _ h=>V r h) (fun _ _ _=>rfl) _ _ hc⟩
   |arr e v st S=>cases h
   |d9 v st S=>cases h
   |tr _ _ _ _=>cases h
   |iP _ _ _ _ _ _=>cases h
theorem Tg {N:Nat→Prop}{nn:Bool}{st J hi:Nat}{rows:List (List PV)}{u:Value}(h:bL N w (.sl nn st rows) u)(K:pz J hi u) :
  bL N w (.sl false st (jQ rows J hi)) (iZ st J hi u)∧J≤hi∧hi≤rows.length:=by
 simp only[bL] at h;obtain⟨p,aa,S,rfl,rfl,⟨h1,h2⟩,h3,h4⟩:=h;simp only[pz] at K;obtain⟨k1,k2⟩:=K;refine⟨?_,k1,k2⟩;have G:(jQ rows J hi).length=hi-J:=by simp only[jQ,List.length_take,List.length_drop];omega
 cases p with
 | none=>
   have hc:=(h3 rfl).2;simp only[iZ,bL];exact⟨none,0,0,rfl,by rw[G];omega,⟨Nat.le_refl _,by omega⟩,fun _=>⟨by trivial,by trivial⟩,fun a e=>by cases e⟩
 | some a=>
   simp only[iZ,bL];refine⟨_,_,_,rfl,G.symm,⟨by omega,by omega⟩,fun e=>(by cases e),fun ad e=>?_⟩;simp only[Option.some.injEq] at e;subst e;by_cases X:S=J
   ·refine .inl (List.eq_nil_of_length_eq_zero ?_);rw[G];omega
   rw[if_neg X];rcases h4 a rfl with Q|⟨Q,h6,V,e,fr,h7,h8⟩
   ·refine .inl (List.eq_nil_of_length_eq_zero ?_);have:=congrArg List.length Q;simp only[List.length_nil] at this;rw[G];omega
   obtain⟨g,o,sp⟩:=a;simp only at Q h6 h7 h8;subst Q;rw[addr_add];refine .inr ⟨rfl,h6,V,e,fr,h7,?_⟩;have h9:=mD (hi-J) (lN J h8);rw[List.drop_drop] at h9;exact h9
mutual
theorem rE (g:bN c R s a w){H:List (Nat×aI)}(S:∀b box,lk H b=some box→lk s.hp b=some box){N':Nat→Prop}(Q:∀r,N' r→bA c R s.hp r) :
  ∀(x:AV) (p:PV) (u:Value),(∀b,b∈refs x→∀r,aQ R b r (lk s.hp b)→¬N' r)→vw H x=some p→au (bA c R s.hp) w s.hp R x u→bL N' w p u
 | .pv q,p,u,_,h,G=>by
   simp only[vw,Option.some.injEq] at h;subst h;simp only[au] at G;exact dV (fun r _ h=>Q r h) (fun _ _ _=>rfl) _ _ G
 | .aO b ver,p,u,K,h,G=>by
   simp only[vw] at h;simp only[au] at G;cases J:lk H b with
   |none=>rw[J] at h;cases h
   | some box=>
     rw[J,←S _ _ J] at h;exact pV g h Q (K b (by simp[refs])) G
 | .ptr b off,p,u,K,h,G=>by
   simp only[vw] at h;simp only[au] at G;cases J:lk H b with
   |none=>rw[J] at h;cases h
   | some box=>
     rw[J,←S _ _ J] at h;exact CO g h Q (K b (by simp[refs])) G
 |.eY b ver i off,p,u,_,h,_=>by simp[vw] at h
 | .sub b ver st lo hi,p,u,K,h,G=>by
   simp only[vw] at h;simp only[au] at G;obtain⟨u',G,aa,rfl⟩:=G;unfold afh at h;split at h
   ·rename_i nn ak ai X;split at h
    ·rename_i af;simp only[Option.some.injEq] at h;subst h;have:=Nat.eq_of_beq_eq_true af;subst this;cases J:lk H b with
     |none=>rw[J] at X;cases X
     | some box=>
       rw[J,←S _ _ J] at X;exact (Tg (pV g X Q (K b (by simp[refs])) G) aa).1
    cases h
   cases h
 | .agg cs,p,u,K,h,G=>by
   simp only[vw] at h;split at h
   ·rename_i ps V;simp only[Option.some.injEq] at h;subst h;simp only[au] at G;obtain⟨vs,rfl,G⟩:=G;simp only[bL];exact⟨vs,rfl,Fx g S Q cs ps _ (fun b J=>K b (by simpa[refs] using J)) V G⟩
   cases h
 | .cK cs,p,u,K,h,G=>by
   simp only[vw] at h;split at h
   ·rename_i ps V;simp only[Option.some.injEq] at h;subst h;simp only[au] at G;obtain⟨vs,rfl,G⟩:=G;simp only[bL];exact⟨vs,rfl,iQ g S Q cs ps _ (fun b J=>K b (by simpa[refs] using J)) V G⟩
   cases h
 | .fn f x y,p,u,K,h,G=>by
   simp only[vw] at h;split at h
   ·rename_i p1 p2 ad ae;simp only[Option.some.injEq] at h;subst h;simp only[au] at G;obtain⟨vs,us,rfl,ag,ah⟩:=G;simp only[bL];exact⟨vs,us,rfl,iQ g S Q x p1 _ (fun b J=>K b (by simp only[refs,List.mem_append];exact .inl J)) ad ag,
     iQ g S Q y p2 _ (fun b J=>K b (by simp only[refs,List.mem_append];exact .inr J)) ae ah⟩
   cases h
theorem Fx (g:bN c R s a w){H:List (Nat×aI)}(Q:∀b box,lk H b=some box→lk s.hp b=some box){N':Nat→Prop}(S:∀r,N' r→bA c R s.hp r) :
  ∀(xs:List AV) (ps:List PV) (us:List Value),(∀b,b∈fH xs→∀r,aQ R b r (lk s.hp b)→¬N' r)→Ie H xs=some ps→dZ (bA c R s.hp) w s.hp R xs us→jk N' w ps us
 | [],ps,us,_,h,G=>by
   simp only[Ie,Option.some.injEq] at h;subst h;simpa only[dZ,jk] using G
 | x::xs,ps,us,K,h,G=>by
   simp only[Ie] at h;split at h
   ·rename_i p hp;split at h
    ·rename_i t ht;simp only[Option.some.injEq] at h;subst h;simp only[dZ] at G;obtain⟨v,r,rfl,V,X,h4⟩:=G;simp only[jk];exact⟨v,r,rfl,V,rE g Q S x p v (fun b J=>K b (by simp only[fH,List.mem_append];exact .inl J)) hp X,
      Fx g Q S xs t r (fun b J=>K b (by simp only[fH,List.mem_append];exact .inr J)) ht h4⟩
    cases h
   cases h
theorem iQ (g:bN c R s a w){H:List (Nat×aI)}(Q:∀b box,lk H b=some box→lk s.hp b=some box){N':Nat→Prop}(S:∀r,N' r→bA c R s.hp r) :
  ∀(xs:List AV) (ps:List PV) (us:List Value),(∀b,b∈fH xs→∀r,aQ R b r (lk s.hp b)→¬N' r)→Ie H xs=some ps→dw (bA c R s.hp) w s.hp R xs us→fE N' w ps us
 | [],ps,us,_,h,G=>by
   simp only[Ie,Option.some.injEq] at h;subst h;simpa only[dw,fE] using G
 | x::xs,ps,us,K,h,G=>by
   simp only[Ie] at h;split at h
   ·rename_i p hp;split at h
    ·rename_i t ht;simp only[Option.some.injEq] at h;subst h;simp only[dw] at G;obtain⟨v,r,rfl,V,X⟩:=G;simp only[fE];exact⟨v,r,rfl,rE g Q S x p v (fun b J=>K b (by simp only[fH,List.mem_append];exact .inl J)) hp V,
      iQ g Q S xs t r (fun b J=>K b (by simp only[fH,List.mem_append];exact .inr J)) ht X⟩
    cases h
   cases h
end
theorem yE (g:bN c R s a w)(hT:dB P T){H:List (Nat×aI)}(hH:∀b box,lk H b=some box→lk s.hp b=some box){t ty:TypeId}{x:AV}{K:AV→Prop}
  (h:Kk T H t x K) {u:Value} (S:au (bA c R s.hp) w s.hp R x u) :
  ∃y z,(Builtin.len_ #[t] ty #[u]).run P w=.ok y w∧K z∧au (bA c R s.hp) w s.hp R z y:=by
 unfold Kk at h;split at h;rotate_left;cases h
 rename_i i hi;obtain⟨d,X,Q⟩:=(hT t i hi).jr;split at h
 ·rename_i J;have G:P.underlying t=some .string:=by
   rw[J] at Q;cases d<;>simp[di] at Q
   exact X
  split at h;rotate_left;cases h
  rename_i str;simp only[au,bL] at S;subst S;exact⟨.int .i64 str.size,_,by simp[Builtin.len_,run_underlying G,goInt],h,by simp only[au,bL]⟩
 ·rename_i e J;have G:P.underlying t=some (.slice e):=by
   rw[J] at Q;cases d<;>simp[di] at Q
   subst Q;exact X
  split at h
  ·rename_i n cp;simp only[au,bL] at S;subst S;exact⟨.int .i64 n,_,by simp[Builtin.len_,run_underlying G,goInt],h,by simp only[au,bL]⟩
  split at h
  ·rename_i nn st V hv;have:=rE g hH (N':=fun _=>False) (fun _ h=>h.elim) x _ u (fun _ _ _ _ h=>h) hv S;simp only[bL] at this;obtain⟨p,ad,aa,rfl,rfl,_⟩:=this;exact⟨.int .i64 V.length,_,by simp[Builtin.len_,run_underlying G,goInt],h,by simp only[au,bL]⟩
  exact h.elim
 ·rename_i n e J;have G:P.underlying t=some (.array n e):=by
   rw[J] at Q;cases d<;>simp[di] at Q
   obtain⟨rfl,rfl⟩:=Q;exact X
  exact⟨.int .i64 n,_,by simp[Builtin.len_,run_underlying G,goInt],h,by simp only[au,bL]⟩
 exact h.elim
theorem Fy {N:Nat→Prop}:∀{bs:List UInt8} {vs:List Value},dI N w 1 (bs.map lD) vs→vs.take bs.length=bs.map fun b=>Value.int .u8 b.toNat
 |[],vs,_=>by simp
 | b::bs,vs,h=>by
   simp only[List.map_cons,dI,lD,jD] at h;obtain⟨_,⟨v,r,rfl,_,J,_⟩,G⟩:=h;simp only[bL] at J;subst J;simp only[List.drop_succ_cons,List.drop_zero] at G;simp[Fy G]
theorem foldl_push (bs:List UInt8):∀acc:ByteArray,(bs.map fun b=>(b.toNat:Int)).foldl (fun r n=>r.push (UInt8.ofNat n.toNat)) acc=⟨acc.data++bs.toArray⟩:=by
 induction bs with
 |nil=>intro acc;simp
 | cons b bs ih=>
   intro acc;simp only[List.map_cons,List.foldl_cons];rw[ih];simp[ByteArray.push]
theorem LF (g:bN c R s a w)(hT:dB P T){H:List (Nat×aI)}(hH:∀b box,lk H b=some box→lk s.hp b=some box){src Q:TypeId}{x:AV}{K:AV→Prop}
  (h:uZ T H src Q x K) {u:Value} (hx:au (bA c R s.hp) w s.hp R x u) :
  ∃y z,(convert src Q u).run P w=.ok y w∧K z∧au (bA c R s.hp) w s.hp R z y:=by
 unfold uZ at h;split at h;rotate_left;cases h
 rename_i si dt ap ao;obtain⟨d1,V,YK⟩:=(hT _ _ ap).jr;obtain⟨d2,ai,YL⟩:=(hT _ _ ao).jr;split at h
 ·rename_i k hk;have G:P.underlying Q=some (.int k):=by
   rw[hk] at YL;cases d2<;>simp[di] at YL
   subst YL;exact ai
  split at h;rotate_left;cases h
  rename_i j n;simp only[au,bL] at hx;subst hx;refine⟨.int k (k.wrap n),_,?_,h,by simp only[au,bL]⟩;simp only[convert,Sem.run_bind,run_underlying V,run_underlying G,Result.andThen_ok];cases d1<;>simp[Conv.intToInt]
 ·rename_i hk;have G:P.underlying Q=some .string:=by
   rw[hk] at YL;cases d2<;>simp[di] at YL
   exact ai
  split at h
  ·rename_i hs;have J:P.underlying src=some .string:=by
    rw[hs] at YK;cases d1<;>simp[di] at YK
    exact V
   split at h;rotate_left;cases h
   rename_i str;simp only[au,bL] at hx;subst hx;exact⟨.string str,_,by simp[convert,run_underlying J,run_underlying G],h,by simp only[au,bL]⟩
  ·rename_i e hs;have J:P.underlying src=some (.slice e):=by
    rw[hs] at YK;cases d1<;>simp[di] at YK
    subst YK;exact V
   split at h;rotate_left;cases h
   rename_i ei rD;obtain⟨d3,am,S⟩:=(hT _ _ rD).jr;split at h;rotate_left;cases h
   rename_i ar;have Hz:P.underlying e=some (.int .u8):=by
    rw[ar] at S;cases d3<;>simp[di] at S
    subst S;exact am
   split at h
   ·simp only[au,bL] at hx;subst hx;exact⟨.string .empty,_,by simp[convert,run_underlying J,run_underlying G,run_underlying Hz,Conv.bytesToString],h,by simp only[au,bL]⟩
   split at h
   ·rename_i nn st aw hv;split at h;rotate_left;cases h
    rename_i ag;have ag:=Nat.eq_of_beq_eq_true ag;subst ag;obtain⟨bs,rfl,hK⟩:=h;have:=rE g hH (N':=fun _=>False) (fun _ h=>h.elim) x _ u (fun _ _ _ _ h=>h) hv hx;simp only[bL] at this;obtain⟨p,ah,ak,rfl,X,a0,ae,af⟩:=this;refine⟨.string ⟨bs.toArray⟩,_,?_,hK,by simp only[au,bL]⟩;cases p with
    | none=>
      have:bs=[]:=by
       have:=(ae rfl).2;exact List.eq_nil_of_length_eq_zero (by simp at X;omega)
      subst this;simp[convert,run_underlying J,run_underlying G,run_underlying Hz,Conv.bytesToString];rfl
    | some ad=>
      have h6:=af _ rfl;have aa:(loadCells ad ah).run P w=.ok ((bs.map fun b=>(b.toNat:Int)).map (Value.int .u8)).toArray w:=by
       obtain⟨az,off,ax⟩:=ad;simp only at h6;rcases h6 with h6|⟨aq,_,al,e2,fr,hg,hr⟩
       ·have:bs=[]:=by simpa using h6
        subst this;simp at X;subst X;simp[loadCells,loadCellsFrom]
       subst aq;obtain⟨h7,h8,h9⟩:=gH hr;have hb:=Fy hr;simp only[List.length_map] at X h7;simp only[List.length_drop,Array.length_toList] at h7;have hz:bs.length=0∨off+ah≤al.size:=by omega
       rcases hz with hz|hz
       ·have:bs=[]:=List.eq_nil_of_length_eq_zero hz;subst this;simp at X;subst X;simp[loadCells,loadCellsFrom]
       rw[rT hg hz,X,hb];simp
      simp only[convert,Sem.run_bind,run_underlying J,run_underlying G,run_underlying Hz,Result.andThen_ok];rw[run_bytesToString w ad ah ak _ aa,foldl_push,show ByteArray.empty.data++bs.toArray=bs.toArray from by rw[show ByteArray.empty.data = #[] from rfl,Array.empty_append]]
   exact h.elim
  exact h.elim
 exact h.elim
def DW (o:Option Operand)(vs:List AV):Option (Option Int×List AV):=
 match o with
 |none=>some (none,vs)
 | some _=>match vs with
   |.pv (.sc (.int _ i))::r=>some (some i,r)
   |_=>none
def O4 (G:Int)(o:Option Int)(hi:Int)(X:Prop):Prop:=
 match o with
 |none=>X
 |some i=>G≤i∧i≤hi∧X
def U9 (rows:List (List PV))(G hi:Option Int):List (List PV):=
 match G,hi with
 |none,none=>rows
 |some l,none=>rows.drop l.toNat
 |none,some h=>rows.take h.toNat
 |some l,some h=>(rows.take h.toNat).drop l.toNat
def fV (n:Nat)(hi:Option Int):Int:=
 match hi with
 |none=>n
 |some h=>h
def aiR (str:ByteArray)(G hi:Option Int):ByteArray:=
 match G,hi with
 |none,none=>str
 |some l,none=>str.extract l.toNat str.size
 |none,some h=>str.extract 0 h.toNat
 |some l,some h=>str.extract l.toNat h.toNat
def inF (m h:Option Int)(n:Nat)(X:Prop):Prop:=
 match m with
 |none=>X
 |some _=>h=m∧0<n∧X
def ak7 (m:Option Int)(G:Bool)(st:Nat)(rows:List (List PV)):PV:=
 match m with
 |none=>.sl G st rows
 |some _=>.O8 st rows
def aiS (h m:Option Int):Bool:=
 match h,m with
 |none,some _=>false
 |_,_=>true
def pG (T:Tab)(t:TypeId)(V hi X:Option Operand)(vs:List AV)(K:AV→Prop):Prop:=
 match vs with
 | x::r=>match DW V r with
   | some (l,r1)=>match DW hi r1 with
     | some (h,r2)=>match DW X r2 with
       | some (m,_)=>match lk T t with
         | some i=>match i.d with
           | .slt e=>match lk T e with
             | some S=>match x with
               | .pv (.sc (.slice none 0 0))=>match m with
                 |none=>O4 0 h 0 (O4 0 l 0 (K (.pv (.sc (.slice none 0 0)))))
                 |some _=>False
               | .pv (.sl nn J G)=>match Nat.beq J S.size,aiS h m with
                 |true,true=>inF m h G.length (O4 0 m G.length (O4 0 h (fV G.length m) (O4 0 l (fV G.length h) (K (.pv (ak7 m nn J (U9 G l h)))))))
                 |_,_=>False
               | .pv (.O8 J G)=>match Nat.beq J S.size,m with
                 |true,some Q=>h=some Q∧O4 0 (some Q) G.length (O4 0 h (fV G.length (some Q)) (O4 0 l (fV G.length h) (K (.pv (.O8 J (U9 G l h))))))
                 |_,_=>False
               |_=>False
             |none=>False
           | .LB=>match x with
             | .pv (.sc (.string str))=>match m with
               |none=>O4 0 h str.size (O4 0 l (fV str.size h) (K (.pv (.sc (.string (aiR str l h))))))
               |some _=>False
             |_=>False
           |_=>False
         |none=>False
       |none=>False
     |none=>False
   |none=>False
 |[]=>False
def vI:Option Value→Option Int→Prop
 |none,none=>True
 |some (.int _ i),some j=>i=j
 |_,_=>False
theorem iR {N:Nat→Prop}{hp:List (Nat×aI)}{f:Operand→Value}{o:Option Operand}{rest:List Operand}{vs:List AV}{i:Option Int}{r:List AV}
  (h:FL (au N w hp R) vs ((o.toList++rest).map f)) (e:DW o vs=some (i,r)):vI (o.map f) i∧FL (au N w hp R) r (rest.map f):=by
 unfold DW at e;split at e
 ·simp only[Option.some.injEq,Prod.mk.injEq] at e;obtain⟨rfl,rfl⟩:=e;exact⟨trivial,by simpa using h⟩
 rename_i Q;split at e
 ·rename_i k j S;simp only[Option.some.injEq,Prod.mk.injEq] at e;obtain⟨rfl,rfl⟩:=e;simp only[Option.toList,List.cons_append,List.nil_append,List.map_cons] at h;obtain⟨v,V,G,J,K⟩:=h;simp only[List.cons.injEq] at G;obtain⟨rfl,rfl⟩:=G;simp only[au,bL] at J;exact⟨by simp[vI,J],K⟩
 cases e
theorem run_sliceBound {y:Nat}{k:IntKind}{i:Int}(code:BoundsCode)(G:0≤i)(J:i≤y):(Instr.sliceBound (.int k i) y code).run P w=.ok i.toNat w:=by
 simp[Instr.sliceBound,asIntOf,G,J]
theorem jA {Va:Bool}{len cap:Nat}{Q hi mx:Option Value}{l h m:Option Int}(v1:vI Q l)(v2:vI hi h)(v3:vI mx m)(af:len≤cap)
  (hm:∀i,m=some i→0≤i∧i≤len∧h.isSome=true) (hh:∀i,h=some i→0≤i∧i≤fV len m) (hl:∀i,l=some i→0≤i∧i≤fV len h) :
  (Instr.sliceBounds Va len cap Q hi mx).run P w=.ok ((l.map Int.toNat).getD 0,(fV len h).toNat,(m.map Int.toNat).getD cap) w ∧
   ((l.map Int.toNat).getD 0)≤(fV len h).toNat∧(fV len h).toNat≤len∧(fV len h).toNat≤(m.map Int.toNat).getD cap:=by
 have K:0≤fV len h∧fV len h≤len∧fV len h≤(((m.map Int.toNat).getD cap:Nat):Int):=by
  cases h with
  | none=>
    cases m with
    |none=>simp[fV];omega
    |some J=>have:=(hm J rfl).2.2;simp at this
  | some aa=>
    have:=hh aa rfl;cases m with
    |none=>simp[fV] at this ⊢;omega
    |some J=>have h2:=hm J rfl;simp[fV] at this ⊢;omega
 have ae:(((l.map Int.toNat).getD 0:Nat):Int)≤fV len h:=by
  cases l with
  |none=>simp;omega
  |some li=>have:=hl li rfl;simp;omega
 refine⟨?_,by omega,by omega,by omega⟩;have h1:∀code,(∀v,mx=some v→(Instr.sliceBound v cap code).run P w=.ok ((m.map Int.toNat).getD cap) w):=by
  intro code v G;subst G;cases m with
  |none=>cases v<;>exact v3.elim
  | some J=>
    cases v<;>simp only[vI] at v3
    subst v3;have:=hm _ rfl;simp[run_sliceBound code this.1 (show _≤((cap:Nat):Int) by omega)]
 have h2:∀code,(∀v,hi=some v→(Instr.sliceBound v ((m.map Int.toNat).getD cap) code).run P w=.ok (fV len h).toNat w):=by
  intro code v G;subst G;cases h with
  |none=>cases v<;>exact v2.elim
  | some J=>
    cases v<;>simp only[vI] at v2
    subst v2;simp only[fV] at K ⊢;exact run_sliceBound code K.1 K.2.2
 have h3:∀code,(∀v,Q=some v→(Instr.sliceBound v (fV len h).toNat code).run P w=.ok ((l.map Int.toNat).getD 0) w):=by
  intro code v G;subst G;cases l with
  |none=>cases v<;>exact v1.elim
  | some J=>
    cases v<;>simp only[vI] at v1
    subst v1;have:=hl _ rfl;simp only[Option.map_some,Option.getD_some];exact run_sliceBound code this.1 (by omega)
 have V:hi=none→h=none:=fun e=>by subst e;cases h with
  |none=>rfl
  |some _=>exact v2.elim
 have S:Q=none→l=none:=fun e=>by subst e;cases l with
  |none=>rfl
  |some _=>exact v1.elim
 have ad:mx=none→m=none:=fun e=>by subst e;cases m with
  |none=>rfl
  |some _=>exact v3.elim
 cases mx with
 | none=>
   have:=ad rfl;subst this;cases hi with
   | none=>
     have:=V rfl;subst this;cases Q with
     |none=>have:=S rfl;subst this;simp[Instr.sliceBounds,fV]
     |some X=>simp only[Instr.sliceBounds,Sem.run_bind,Sem.run_pure,Result.andThen_ok];have:=h3 .sliceB X rfl;simp[fV] at this ⊢;simp[this]
   | some G=>
     cases Q with
     |none=>have:=S rfl;subst this;have:=h2 (if Va then .sliceAcap else .sliceAlen) G rfl;simp at this;simp[Instr.sliceBounds,this]
     |some X=>have a1:=h2 (if Va then .sliceAcap else .sliceAlen) G rfl;simp at a1;have a2:=h3 .sliceB X rfl;simp[Instr.sliceBounds,a1,a2]
 | some mv=>
   have b1:=h1 (if Va then .slice3Acap else .slice3Alen) mv rfl;cases hi with
   | none=>
     have:=V rfl;subst this;cases m with
     |none=>cases mv<;>exact v3.elim
     |some J=>have:=(hm J rfl).2.2;simp at this
   | some G=>
     have b2:=h2 .slice3B G rfl;cases Q with
     |none=>have:=S rfl;subst this;simp[Instr.sliceBounds,b1,b2]
     |some X=>have b3:=h3 .slice3C X rfl;simp[Instr.sliceBounds,b1,b2,b3]
theorem lg {G hi:Int}{o:Option Int}{X:Prop}(h:O4 G o hi X):X∧∀i,o=some i→G≤i∧i≤hi:=by
 cases o with
 |none=>exact⟨h,fun i e=>by cases e⟩
 |some j=>obtain⟨a,b,c⟩:=h;exact⟨c,fun i e=>by simp only[Option.some.injEq] at e;subst e;exact⟨a,b⟩⟩
theorem Ti (rows:List (List PV))(l h:Option Int):U9 rows l h=(rows.take (fV rows.length h).toNat).drop ((l.map Int.toNat).getD 0):=by
 cases l<;>cases h<;>simp[U9,fV]
theorem YM {m h:Option Int}{n:Nat}{X:Prop}(e:inF m h n X):X∧∀i,m=some i→h=m∧0<n:=by
 cases m with
 |none=>exact⟨e,fun i e=>by cases e⟩
 |some j=>obtain⟨a,b,c⟩:=e;exact⟨c,fun _ _=>⟨a,b⟩⟩
theorem I8 {N:Nat→Prop}{K:Bool}{st:Nat}{rows:List (List PV)}{p:Option Addr}{n cap:Nat}(h:bL N w (.sl K st rows) (.slice p n cap))(hc:cap=n)(hp:p≠none):bL N w (.O8 st rows) (.slice p n cap):=by
 simp only[bL] at h ⊢;obtain⟨p',V,c',e,rfl,⟨Q,G⟩,S,J⟩:=h;simp only[Value.slice.injEq] at e;obtain⟨rfl,rfl,rfl⟩:=e;subst hc;cases p with
 |none=>exact absurd rfl hp
 |some a=>exact⟨a,rfl,G,J a rfl⟩
theorem Ib {N:Nat→Prop}{st:Nat}{rows:List (List PV)}{v:Value}(h:bL N w (.O8 st rows) v):bL N w (.sl true st rows) v:=by
 simp only[bL] at h ⊢;obtain⟨a,rfl,G,J⟩:=h;exact⟨_,_,_,rfl,rfl,⟨Nat.le_refl _,G⟩,fun e=>(by cases e),fun b e=>by cases e;exact J⟩
theorem zA (g:bN c R s a w)(hT:dB P T){t:TypeId}{x0:Operand}{lo hi mx:Option Operand}{vs:List AV}{K:AV→Prop}(h:pG T t lo hi mx vs K)
  (hv:FL (au (bA c R s.hp) w s.hp R) vs ((x0::(lo.toList++(hi.toList++mx.toList))).map a.eval)) :
  ∃y z,(Instr.sliceAt t (a.eval x0) (lo.map a.eval) (hi.map a.eval) (mx.map a.eval)).run P w=.ok y w∧K z∧au (bA c R s.hp) w s.hp R z y:=by
 unfold pG at h;split at h;rotate_left;cases h
 rename_i x r;simp only[List.map_cons] at hv;obtain⟨u,r',e1,hx,hv⟩:=hv;simp only[List.cons.injEq] at e1;obtain⟨e1,rfl⟩:=e1;rw[e1];split at h;rotate_left;cases h
 rename_i l r1 hl;split at h;rotate_left;cases h
 rename_i hh r2 aq;split at h;rotate_left;cases h
 rename_i m r3 hm;obtain⟨v1,hv⟩:=iR hv hl;obtain⟨v2,hv⟩:=iR hv aq;have az:FL (au (bA c R s.hp) w s.hp R) r2 ((mx.toList++[]).map a.eval):=by simpa using hv
 obtain⟨v3,_⟩:=iR az hm;split at h;rotate_left;cases h
 rename_i i ar;obtain⟨d,hd,jb⟩:=(hT t i ar).jr;split at h
 ·rename_i e ak;have af:P.underlying t=some (.slice e):=by
   rw[ak] at jb;cases d<;>simp[di] at jb
   subst jb;exact hd
  split at h;rotate_left;cases h
  rename_i ei rD;have jl:=hT _ _ rD;split at h
  ·split at h
   ·obtain⟨h,k2⟩:=lg h;obtain⟨h,k3⟩:=lg h;simp only[au,bL] at hx;subst hx;have hz:(fV 0 hh)=0:=by
     cases hh with
     |none=>rfl
     |some j=>have:=k2 j rfl;simp only[fV];omega
    have lz:(l.map Int.toNat).getD 0=0:=by
     cases l with
     |none=>rfl
     |some j=>have:=k3 j rfl;simp;omega
    obtain⟨Q,q1,q2,q3⟩:=jA (P:=P) (w:=w) (Va:=true) (len:=0) (cap:=0) v1 v2 v3 (Nat.le_refl _) (fun i e=>by cases e) k2 (fun i e=>by rw[hz];exact k3 i e);rw[hz,lz] at Q;have S:(Instr.sliceAt t (.slice none 0 0) (lo.map a.eval) (hi.map a.eval) (mx.map a.eval)).run P w=.ok (.slice none 0 0) w:=by
     simp only[Instr.sliceAt,Instr.slice,Sem.run_bind,run_underlying af,Result.andThen_ok,Q,jl.run_sizeOf,Sem.run_pure];simp
    exact⟨_,_,S,h,by simp only[au,bL]⟩
   exact h.elim
  ·rename_i nn st J;split at h;rotate_left;cases h
   rename_i X aw;have X:=Nat.eq_of_beq_eq_true X;obtain⟨h,k0⟩:=YM h;obtain⟨h,k1⟩:=lg h;obtain⟨h,k2⟩:=lg h;obtain⟨h,k3⟩:=lg h;simp only[au] at hx;have ag:=hx;simp only[bL] at ag;obtain⟨p,len,cap,rfl,rfl,⟨ai,ap⟩,V,aa⟩:=ag;obtain⟨Q,q1,q2,q3⟩:=jA (P:=P) (w:=w) (Va:=true) v1 v2 v3 ai (fun i e=>⟨(k1 i e).1,(k1 i e).2,by
    subst e;cases hh with
    |none=>simp[aiS] at aw
    |some _=>rfl⟩) k2 k3
   have S:(Instr.sliceAt t (.slice p J.length cap) (lo.map a.eval) (hi.map a.eval) (mx.map a.eval)).run P w =
     .ok (.slice (if (m.map Int.toNat).getD cap=(l.map Int.toNat).getD 0 then p else p.map (·.add ((l.map Int.toNat).getD 0*ei.size)))
      ((fV J.length hh).toNat-(l.map Int.toNat).getD 0) ((m.map Int.toNat).getD cap-(l.map Int.toNat).getD 0)) w:=by
    simp only[Instr.sliceAt,Instr.slice,Sem.run_bind,run_underlying af,Result.andThen_ok,Q,jl.run_sizeOf,Sem.run_pure]
   have ae:bL (bA c R s.hp) w (.sl nn st (U9 J l hh)) (.slice (if (m.map Int.toNat).getD cap=(l.map Int.toNat).getD 0 then p else p.map (·.add ((l.map Int.toNat).getD 0*ei.size))) ((fV J.length hh).toNat-(l.map Int.toNat).getD 0) ((m.map Int.toNat).getD cap-(l.map Int.toNat).getD 0)):=by
     rw[Ti];simp only[bL];refine⟨_,_,_,rfl,by simp;omega,⟨by omega,?_⟩,?_,?_⟩
     ·cases m with
      |none=>simp;omega
      |some mi=>have:=(k1 mi rfl);simp;omega
     ·intro G;have:p=none:=by
       split at G
       ·exact G
       cases p with
       |none=>rfl
       |some _=>simp at G
      have:=V this;refine⟨this.1,?_⟩;cases m with
      |none=>simp;omega
      |some mi=>have:=k1 mi rfl;simp;omega
     intro ad G;cases p with
     |none=>split at G<;>simp at G
     | some pa=>
       have h6:=aa _ rfl;obtain⟨ao,off,am⟩:=pa;simp only at h6;split at G
       ·rename_i A8;simp only[Option.some.injEq] at G;subst G;refine .inl ?_;apply List.eq_nil_of_length_eq_zero;simp;omega
       rcases h6 with h6|⟨hs,hn,ah,e2,fr,hg,hr⟩
       ·subst h6;exact .inl (by simp)
       subst hs;simp only[Option.map_some,Option.some.injEq,addr_add] at G;subst G;refine .inr ⟨rfl,hn,ah,e2,fr,hg,?_⟩;have:=lN ((l.map Int.toNat).getD 0) (mD (fV J.length hh).toNat hr);rw[List.drop_drop,X] at this;rw[X];exact this
   refine⟨_,_,S,h,?_⟩;simp only[au];cases m with
   |none=>exact ae
   | some mi=>
     obtain⟨z1,z2⟩:=k0 mi rfl;refine I8 ae ?_ ?_
     ·subst z1;simp[fV]
     have hp:p≠none:=fun e=>by have:=(V e).2;omega
     split
     ·exact hp
     cases p with
     |none=>exact absurd rfl hp
     |some _=>simp
  ·rename_i st J;split at h;rotate_left;cases h
   rename_i mi X;have X:=Nat.eq_of_beq_eq_true X;obtain⟨z1,h⟩:=h;obtain⟨h,k1⟩:=lg h;obtain⟨h,k2⟩:=lg h;obtain⟨h,k3⟩:=lg h;simp only[au] at hx;have hx:=Ib hx;have ag:=hx;simp only[bL] at ag;obtain⟨p,len,cap,rfl,rfl,⟨ai,ap⟩,V,aa⟩:=ag;obtain⟨m,al⟩:∃m,m=some mi:=⟨_,rfl⟩;rw[←al] at k1 k2 v3 z1;obtain⟨Q,q1,q2,q3⟩:=jA (P:=P) (w:=w) (Va:=true) v1 v2 v3 ai (fun i e=>⟨(k1 i e).1,(k1 i e).2,by
    rw[z1,e];rfl⟩) k2 k3
   have S:(Instr.sliceAt t (.slice p J.length cap) (lo.map a.eval) (hi.map a.eval) (mx.map a.eval)).run P w =
     .ok (.slice (if (m.map Int.toNat).getD cap=(l.map Int.toNat).getD 0 then p else p.map (·.add ((l.map Int.toNat).getD 0*ei.size)))
      ((fV J.length hh).toNat-(l.map Int.toNat).getD 0) ((m.map Int.toNat).getD cap-(l.map Int.toNat).getD 0)) w:=by
    simp only[Instr.sliceAt,Instr.slice,Sem.run_bind,run_underlying af,Result.andThen_ok,Q,jl.run_sizeOf,Sem.run_pure]
   have ae:bL (bA c R s.hp) w (.sl true st (U9 J l hh)) (.slice (if (m.map Int.toNat).getD cap=(l.map Int.toNat).getD 0 then p else p.map (·.add ((l.map Int.toNat).getD 0*ei.size))) ((fV J.length hh).toNat-(l.map Int.toNat).getD 0) ((m.map Int.toNat).getD cap-(l.map Int.toNat).getD 0)):=by
     rw[Ti];simp only[bL];refine⟨_,_,_,rfl,by simp;omega,⟨by omega,?_⟩,?_,?_⟩
     ·cases m with
      |none=>simp;omega
      |some mi=>have:=(k1 mi rfl);simp;omega
     ·intro G;have:p=none:=by
       split at G
       ·exact G
       cases p with
       |none=>rfl
       |some _=>simp at G
      have:=V this;refine⟨this.1,?_⟩;cases m with
      |none=>simp;omega
      |some mi=>have:=k1 mi rfl;simp;omega
     intro ad G;cases p with
     |none=>split at G<;>simp at G
     | some pa=>
       have h6:=aa _ rfl;obtain⟨ao,off,am⟩:=pa;simp only at h6;split at G
       ·rename_i A8;simp only[Option.some.injEq] at G;subst G;refine .inl ?_;apply List.eq_nil_of_length_eq_zero;simp;omega
       rcases h6 with h6|⟨hs,hn,ah,e2,fr,hg,hr⟩
       ·subst h6;exact .inl (by simp)
       subst hs;simp only[Option.map_some,Option.some.injEq,addr_add] at G;subst G;refine .inr ⟨rfl,hn,ah,e2,fr,hg,?_⟩;have:=lN ((l.map Int.toNat).getD 0) (mD (fV J.length hh).toNat hr);rw[List.drop_drop,X] at this;rw[X];exact this
   refine⟨_,_,S,h,?_⟩;simp only[au];refine I8 ae ?_ ?_
   ·subst al;subst z1;simp[fV]
   have hp:p≠none:=fun e=>by have:=(V e).1;cases this
   split
   ·exact hp
   cases p with
   |none=>exact absurd rfl hp
   |some _=>simp
  exact h.elim
 ·rename_i ak;have af:P.underlying t=some .string:=by
   rw[ak] at jb;cases d<;>simp[di] at jb
   exact hd
  split at h;rotate_left;cases h
  rename_i str;simp only[au,bL] at hx;subst hx;split at h;rotate_left;cases h
  obtain⟨h,k2⟩:=lg h;obtain⟨h,k3⟩:=lg h;have a0:mx=none:=by
   cases mx with
   |none=>rfl
   |some v=>simp only[Option.map_some] at v3;cases ev:a.eval v<;>rw[ev] at v3<;>exact v3.elim
  subst a0;obtain⟨Q,q1,q2,q3⟩:=jA (P:=P) (w:=w) (Va:=false) (len:=str.size) (cap:=str.size) v1 v2 v3 (Nat.le_refl _) (fun i e=>by cases e) k2 k3;have S:(Instr.sliceAt t (.string str) (lo.map a.eval) (hi.map a.eval) none).run P w=.ok (.string (str.extract ((l.map Int.toNat).getD 0) (fV str.size hh).toNat)) w:=by
   simp only[Option.map_none] at Q;simp only[Instr.sliceAt,Instr.slice,Sem.run_bind,run_underlying af,Result.andThen_ok,Q,Sem.run_pure];simp[Q]
  refine⟨_,_,S,h,?_⟩;simp only[au,bL];have ax:str.extract 0 str.size=str:=by
   rw[ByteArray.extract_zero_size]
  cases l<;>cases hh<;>simp[aiR,fV,ax]
 exact h.elim
end
def Real.at (R:Real)(b g:Nat)(nil:Bool)(cap:Nat)(o:Nat:=0):Real:=
 { blk:=fun G=>if G=b then g else R.blk G,nil:=fun G=>if G=b then nil else R.nil G,cap:=fun G=>if G=b then (cap,[],o) else R.cap G,Y:=R.Y }
theorem Real.zo (R:Real)(b g:Nat)(nil:Bool)(cap:Nat)(o:Nat:=0):∀G,G≠b→(R.at b g nil cap o).blk G=R.blk G∧(R.at b g nil cap o).nil G=R.nil G∧(R.at b g nil cap o).cap G=R.cap G:=
 fun G h=>by simp[Real.at,h]
section
variable {P:Program}{T:Tab}{c:Ctx}{R:Real}{s:AS}{a:Act}{w:World}
theorem bN.YN (g:bN c R s a w){id:Nat}(X:lk s.hp id=none){o:Obj}{w':World}(J:w'.heap=w.heap.push o∧w'.os=w.os∧w'.tape=w.tape∧w'.output=w.output)
  {R':Real} (hR:∀Q,Q≠id→R'.blk Q=R.blk Q∧R'.nil Q=R.nil Q∧R'.cap Q=R.cap Q) (V:R'.nil id=false→R'.blk id=w.heap.size) {box:aI}
  (uP:∀cells,box=.var cells→R'.nil id=false)
  (Me:(∀v x,au (bA c R s.hp) w s.hp R v x→au (bA c R' ((id,box)::s.hp)) w' ((id,box)::s.hp) R' v x) →
   fK (bA c R' ((id,box)::s.hp)) w' ((id,box)::s.hp) R' id box)
  (Yv:∀x y z u,box ≠ .tr x y z u:=by intros;intro h;cases h) (hY:R'.Y=R.Y:=by rfl) :
  bN c R' (s.app [(id,box)]) a w'∧(∀v x,au (bA c R s.hp) w s.hp R v x→au (bA c R' ((id,box)::s.hp)) w' ((id,box)::s.hp) R' v x):=by
 have r1:∀off v,bf R id off v (lk s.hp id)→bf R' id off v (some box):=fun off v h=>by rw[X] at h;exact h.elim
 have r2:∀ver v,aX R id ver v (lk s.hp id)→aX R' id ver v (some box):=fun off v h=>by rw[X] at h;exact h.elim
 have r3:∀ver i off v,bC R id ver i off v (lk s.hp id)→bC R' id ver i off v (some box):=fun _ _ _ v h=>by rw[X] at h;exact h.elim
 have K:∀r,aQ R' id r (some box)→aQ R id r (lk s.hp id)∨w.heap.size≤r:=by
  intro r h;refine .inr ?_;cases box with
  |var cells=>simp only[aQ] at h;have:=V (uP _ rfl);omega
  |oN _=>exact h.elim
  |arr _ _ _ _=>obtain⟨S,h2⟩:=h;have:=V S;omega
  |d9 _ _ _=>exact h.elim
  |tr x y z u=>exact absurd rfl (Yv x y z u)
  |iP _ _ _ _ _ _=>obtain⟨S,h2⟩:=h;have:=V S;omega
 have G:mV (fun r=>aQ R id r (lk s.hp id)) w w':=by
  refine⟨by rw[J.1];simp,fun r hr _=>?_,J.2.1,J.2.2.1,J.2.2.2⟩;rw[J.1,Array.getElem?_push];simp[Nat.ne_of_lt hr]
 obtain⟨m1,m2,m3,m4,m5⟩:=g.G8 hR r1 r2 r3 K G hY;have hm:∀v x,au (bA c R s.hp) w s.hp R v x→au (bA c R' ((id,box)::s.hp)) w' ((id,box)::s.hp) R' v x:=fun v x h=>dM m1 m2 m3 m4 m5 v x h
 exact⟨g.upd hR r1 r2 r3 K G (Me hm) hY,hm⟩
theorem bN.newVar (g:bN c R s a w){id:Nat}(J:lk s.hp id=none){cells:List AV}{vs:Array Value}{t:TypeId}(hc:FC (au (bA c R s.hp) w s.hp R) cells vs.toList) :
  ∃G,bN c G (s.app [(id,.var cells)]) a { w with heap:=w.heap.push (.cells vs t) } ∧
   au (bA c G ((id,.var cells)::s.hp)) { w with heap:=w.heap.push (.cells vs t) } ((id,.var cells)::s.hp) G (.ptr id 0) (.pointer (some ⟨w.heap.size,0,none⟩)):=by
 refine⟨R.at id w.heap.size false 0,?_,?_⟩
 ·refine (g.YN (w':={ w with heap:=w.heap.push (.cells vs t) }) (box:=.var cells) J (o:=.cells vs t) ⟨rfl,rfl,rfl,rfl⟩ (Real.zo R id w.heap.size false 0)
   (fun _=>by simp[Real.at]) (fun _ _=>by simp[Real.at]) fun K=>?_).1
  refine⟨vs,t,?_,?_⟩
  ·simp[Real.at]
  rw[bR];exact hc.imp K
 simp only[au,aG,if_true,bf];simp[Real.at]
theorem bN.XE (g:bN c R s a w){id:Nat}(hf:lk s.hp id=none){e:TypeId}{st:Nat}{rows:List (List PV)}{w':World}{cur:Array Value}{cap:Nat}
  (G:w'.heap=w.heap.push (.cells cur e)∧w'.os=w.os∧w'.tape=w.tape∧w'.output=w.output)
  (X:rows.length≤cap) (V:cap≤maxLen) (hs:cur.size=cap*st) (hr:dI (bA c R s.hp) w st rows cur.toList) :
  ∃Q,bN c Q (s.app [(id,.arr e 0 st rows)]) a w' ∧
   au (bA c Q ((id,.arr e 0 st rows)::s.hp)) w' ((id,.arr e 0 st rows)::s.hp) Q (.aO id 0) (.slice (some ⟨w.heap.size,0,none⟩) rows.length cap):=by
 have K:dW (R.at id w.heap.size false cap) id rows.length=.slice (some ⟨w.heap.size,0,none⟩) rows.length cap:=by simp[dW,Real.at]
 refine⟨R.at id w.heap.size false cap,?_,?_⟩
 ·refine (g.YN hf (o:=.cells cur e) G (Real.zo R id _ _ _) (fun _=>by simp[Real.at]) (fun _ _=>by simp[Real.at]) fun hm=>?_).1;have aa:dI (bA c (R.at id w.heap.size false cap) ((id,aI.arr e 0 st rows)::s.hp)) w' st rows cur.toList:=by
   refine bg ?_ ?_ _ _ _ hr
   ·rintro r J (h|⟨b,h⟩)
    ·exact .inl h
    refine .inr ⟨b,?_⟩;by_cases S:b=id
    ·subst S;simp only[aG,if_true,aQ] at h;simp[Real.at] at h;omega
    rw[aG,if_neg (fun x=>S x.symm)] at h;exact iI (Real.zo R id _ _ _ 0 b S) rfl h
   intro r J _;rw[G.1,Array.getElem?_push];simp[Nat.ne_of_lt J]
  obtain⟨t1,t2,t3⟩:=gH aa;refine⟨cur.toList.take (rows.length*st),?_,t2⟩;rw[K];refine⟨by simp only[List.length_take];omega,.inr ⟨w.heap.size,cap,cur,_,rfl,?_,X,V,by rw[hs];omega,rfl⟩⟩;rw[G.1];simp
 simp only[au,aG,if_true,aX];exact⟨Nat.le_refl _,rfl,fun _=>K.symm⟩
theorem bN.freeze (g:bN c R s a w){b:Nat}{box cZ:aI}(hb:lk s.hp b=some box)
  (hf:(∃e v st J,box=.arr e v st J∧cZ=.d9 v st J)∨(∃G X,box=.var G∧jE G=some X∧cZ=.oN X)) :
  bN c R (s.app [(b,cZ)]) a w∧(∀v x,au (bA c R s.hp) w s.hp R v x→au (bA c R ((b,cZ)::s.hp)) w ((b,cZ)::s.hp) R v x) ∧
   (∀r,bA c R ((b,cZ)::s.hp) r→bA c R s.hp r)∧(∀r,aQ R b r (lk s.hp b)→¬bA c R ((b,cZ)::s.hp) r):=by
 have hR:∀K,K≠b→R.blk K=R.blk K∧R.nil K=R.nil K∧R.cap K=R.cap K:=fun _ _=>⟨rfl,rfl,rfl⟩
 have r1:∀off v,bf R b off v (lk s.hp b)→bf R b off v (some cZ):=by
  intro off v h;rw[hb] at h;rcases hf with ⟨e,v',st,J,rfl,rfl⟩|⟨G,X,rfl,_,rfl⟩
  ·exact h
  exact h
 have r2:∀ver v,aX R b ver v (lk s.hp b)→aX R b ver v (some cZ):=by
  intro off v h;rw[hb] at h;rcases hf with ⟨e,v',st,J,rfl,rfl⟩|⟨G,X,rfl,_,rfl⟩
  ·exact h
  exact h
 have r3:∀ver i off v,bC R b ver i off v (lk s.hp b)→bC R b ver i off v (some cZ):=by
  intro _ _ off v h;rw[hb] at h;rcases hf with ⟨e,v',st,J,rfl,rfl⟩|⟨G,X,rfl,_,rfl⟩
  ·exact h
  exact h
 have aa:∀r,¬aQ R b r (some cZ):=by
  intro r h;rcases hf with ⟨e,v',st,J,rfl,rfl⟩|⟨G,X,rfl,_,rfl⟩<;>exact h
 have V:∀r,aQ R b r (some cZ)→aQ R b r (lk s.hp b)∨w.heap.size≤r:=fun r h=>(aa r h).elim
 obtain⟨m1,m2,m3,m4,m5⟩:=g.G8 hR r1 r2 r3 V (mV.refl _ w);have DL:lk ((b,cZ)::s.hp) b=some cZ:=by rw[aG,if_pos rfl]
 have S:∀r,bA c R ((b,cZ)::s.hp) r→bA c R s.hp r:=by
  rintro r (h|⟨K,h⟩)
  ·exact .inl h
  by_cases e:K=b
  ·subst e;rw[DL] at h;exact (aa r h).elim
  rw[aG,if_neg (fun x=>e x.symm)] at h;exact .inr ⟨K,h⟩
 have Q:∀r,aQ R b r (lk s.hp b)→¬bA c R ((b,cZ)::s.hp) r:=by
  rintro r ho (h|⟨K,h⟩)
  ·exact g.free r ⟨b,ho⟩ h
  by_cases e:K=b
  ·subst e;rw[DL] at h;exact aa r h
  rw[aG,if_neg (fun x=>e x.symm)] at h;exact e (g.inj K b r h ho)
 refine⟨g.upd hR r1 r2 r3 V (mV.refl _ w) ?_,fun v x h=>dM m1 m2 m3 m4 m5 v x h,S,Q⟩;rcases hf with ⟨e,v',st,J,rfl,rfl⟩|⟨G,X,rfl,af,rfl⟩
 ·simp only[fK];refine pV g (b:=b) (ver:=v') (p:=.sl false st J) ?_ S Q ?_
  ·rw[hb];simp[uU]
  rw[hb];refine⟨Nat.le_refl _,?_,fun _=>rfl⟩;unfold dW;split<;>rfl
 obtain⟨ad,e,hg,hc⟩:=(g.boxes b _ hb);rw[bR] at hc;have ae:=wG af hc;refine⟨ad,e,(0,0),hg,Q _ (by rw[hb];rfl),?_⟩;have:jD (bA c R s.hp) w X ad.toList:=by rw[fA];exact ae.fp
 exact fJ (fun r _ h=>S r h) (fun _ _ _=>rfl) _ _ this
end
theorem zq {L vs:List Value}{o a:Nat}(h:o+a≤L.length):(L.take (o+a)++vs++L.drop (o+a+vs.length)).drop o=(L.drop o).take a++vs++(L.drop o).drop (a+vs.length):=by
 rw[List.append_assoc,List.drop_append_of_le_length (by simp only[List.length_take];omega),List.drop_take,List.append_assoc,List.drop_drop,Nat.add_sub_cancel_left,Nat.add_assoc]
theorem MJ:∀{ps:List PV} {cs:List AV},MG ps=some cs→cs=ps.map .pv
 |[],cs,h=>by simp only[MG,Option.some.injEq] at h;simp[←h]
 | p::ps,cs,h=>by
   simp only[MG] at h;split at h
   ·rename_i t G;simp only[Option.some.injEq] at h;simp[←h,MJ G]
   cases h
theorem Pe:∀{vs:List Value} {cs:List AV},zAV vs=some cs→cs=vs.map fun v=>.pv (.sc v)
 |[],cs,h=>by simp only[zAV,Option.some.injEq] at h;simp[←h]
 | p::J,cs,h=>by
   simp only[zAV] at h;split at h
   ·rename_i t G;simp only[Option.some.injEq] at h;simp[←h,Pe G]
   cases h
theorem Pg:∀{vs:List Value} {cs:List PV},zPV vs=some cs→cs=vs.map .sc
 |[],cs,h=>by simp only[zPV,Option.some.injEq] at h;simp[←h]
 | p::J,cs,h=>by
   simp only[zPV] at h;split at h
   ·rename_i t G;simp only[Option.some.injEq] at h;simp[←h,Pg G]
   cases h
section
variable {N:Nat→Prop}{w:World}{hp:List (Nat×aI)}{R:Real}
theorem I9 {p:PV}(h:cellP p=true){v:Value}(G:bL N w p v):v.oneCell'=true:=by
 cases p<;>simp only[cellP] at h<;>simp only[bL] at G<;>try (cases h;done)
 ·subst G;exact h
 ·obtain⟨p,Q,J,rfl,_⟩:=G;rfl
 ·obtain⟨g,base,K,e,S,rfl,_⟩:=G;rfl
 obtain⟨V,cs,rfl,_⟩:=G;rfl
theorem Ja {p:AV}(h:afg p=true){v:Value}(G:au N w hp R p v):v.oneCell'=true:=by
 cases p with
 |pv p=>exact I9 h (by simpa only[au] using G)
 |agg _=>cases h
 |cK _=>cases h
 | ptr b off=>
   simp only[au] at G;cases J:lk hp b with
   |none=>rw[J] at G;exact G.elim
   |some box=>rw[J] at G;cases box<;>simp only[bf] at G<;>(subst G;rfl)
 | eY b ver i off=>
   simp only[au] at G;cases J:lk hp b with
   |none=>rw[J] at G;exact G.elim
   |some box=>rw[J] at G;cases box<;>simp only[bC] at G<;>exact G.2.1
 | sub b ver S Q hi=>
   simp only[au] at G;obtain⟨u,_,_,rfl⟩:=G;exact Lu _ _ _ _
 | aO b ver=>
   simp only[au] at G;cases J:lk hp b with
   |none=>rw[J] at G;exact G.elim
   |some box=>rw[J] at G;cases box<;>simp only[aX] at G<;>exact G.2.1
 | fn f a c=>
   simp only[au] at G;obtain⟨K,cs,rfl,_⟩:=G;rfl
theorem Bu {v:Value}(h:v.oneCell'=true):v.cells = #[v]:=by
 cases v<;>first|rfl|(simp[Value.oneCell'] at h)
theorem kW {i:TI}{v:AV}{cs:List AV}(h:cellsOf i v=some cs){u:Value}(G:au N w hp R v u):FC (au N w hp R) cs u.cells.toList:=by
 unfold cellsOf at h;split at h
 ·split at h
  ·rename_i K;have:=MJ h;subst this;simp only[au,bL] at G;obtain⟨vs,rfl,G⟩:=G;rw[iH] at G;exact FC.map (fun p v G=>by simpa only[au] using G) G
  ·simp only[Option.some.injEq] at h;subst h;simp only[au] at G;obtain⟨vs,rfl,G⟩:=G;rw[bR] at G;exact G
  cases h
 split at h
 ·rename_i hc;simp only[Option.some.injEq] at h;subst h;have J:=Ja hc G;rw[Bu J];exact⟨u,[],rfl,J,G,rfl⟩
 cases h
theorem uW {i:TI}{p:PV}{cs:List PV}(h:mE i p=some cs){u:Value}(G:bL N w p u):FC (bL N w) cs u.cells.toList:=by
 unfold mE at h;split at h
 ·split at h
  ·simp only[Option.some.injEq] at h;subst h;simp only[bL] at G;obtain⟨vs,rfl,G⟩:=G;rw[iH] at G;exact G
  cases h
 split at h
 ·rename_i hc;simp only[Option.some.injEq] at h;subst h;have J:=I9 hc G;rw[Bu J];exact⟨u,[],rfl,J,G,rfl⟩
 cases h
end
def qZ (T:Tab)(H:List (Nat×aI))(t:TypeId)(x y:AV)(K:AV→List (Nat×aI)→Prop):Prop:=
 match lk T t with
 | some i=>match x with
   | .ptr b off=>match lk H b with
     | some (.var Q)=>match cellsOf i y with
       | some cs=>match Nat.beq cs.length i.size with
         | true=>match oh off Q cs with
           |some G=>K (.pv (.sc undef)) [(b,.var G)]
           |none=>False
         |false=>False
       |none=>False
     |_=>False
   | .eY b ver k off=>match lk H b with
     | some (.arr e v V J)=>match Nat.beq ver v with
       | true=>match y with
         | .pv p=>match mE i p with
           | some cs=>match Nat.beq cs.length i.size with
             | true=>∃S,J[k]? = some S∧match oh off S cs with
               |some X=>K (.pv (.sc undef)) [(b,.arr e v V (J.set k X))]
               |none=>False
             |false=>False
           |none=>False
         |_=>False
       |false=>False
     |_=>False
   |_=>False
 |none=>False
section
variable {P:Program}{T:Tab}{c:Ctx}{R:Real}{s:AS}{a:Act}{w:World}
theorem pE (w:World)(g:Nat)(cs:Array Value):mV (fun r=>r=g) w (w.setRow g cs):=
 ⟨by simp,fun r _ G=>setRow_other w g r cs G,rfl,rfl,rfl⟩
theorem tL (g:bN c R s a w)(hT:dB P T){H:List (Nat×aI)}(hH:∀b box,lk H b=some box→lk s.hp b=some box){t:TypeId}{x y:AV}
  {K:AV→List (Nat×aI)→Prop} (h:qZ T H t x y K) {u v:Value} (hx:au (bA c R s.hp) w s.hp R x u) (hy:au (bA c R s.hp) w s.hp R y v) :
  ∃w' ws,(Instr.storeAt t u v).run P w=.ok () w'∧K (.pv (.sc undef)) ws∧bN c R (s.app ws) a w':=by
 unfold qZ at h;split at h;rotate_left;cases h
 rename_i i hi;have ap:=hT _ _ hi;split at h
 ·rename_i b off;split at h;rotate_left;cases h
  rename_i ax hb;have J:=hH _ _ hb;split at h;rotate_left;cases h
  rename_i cs al;split at h;rotate_left;cases h
  rename_i aa;have aa:=Nat.eq_of_beq_eq_true aa;split at h;rotate_left;cases h
  rename_i X ag;simp only[au,J,bf] at hx;subst hx;obtain⟨V,e,hg,hc⟩:=(g.boxes b _ J);rw[bR] at hc;have ad:=kW al hy;obtain⟨hl,ai⟩:=FC.oh hc ad ag;have ao:v.cells.size=i.size:=by rw[←aa,←ad.length];simp
  have ah:=uH (w:=w) ap hg ao (off:=off) (by simp at hl;omega) ad.one;have af:(Instr.storeAt t (.pointer (some ⟨R.blk b,off,none⟩)) v).run P w=.ok () (w.setRow (R.blk b) (V.toList.take off++v.cells.toList++V.toList.drop (off+v.cells.toList.length)).toArray):=by
   simp only[Instr.storeAt,Instr.sureAddr,pure_bind];exact ah
  refine⟨_,_,af,h,?_⟩;have hR:∀b',b'≠b→R.blk b'=R.blk b'∧R.nil b'=R.nil b'∧R.cap b'=R.cap b':=fun _ _=>⟨rfl,rfl,rfl⟩
  have r1:∀off v,bf R b off v (lk s.hp b)→bf R b off v (some (.var X)):=fun off v h=>by rw[J] at h;exact h
  have r2:∀ver v,aX R b ver v (lk s.hp b)→aX R b ver v (some (.var X)):=fun _ v h=>by rw[J] at h;exact h
  have r3:∀ver i off v,bC R b ver i off v (lk s.hp b)→bC R b ver i off v (some (.var X)):=fun _ _ _ v h=>by rw[J] at h;exact h
  have ae:∀r,aQ R b r (some (.var X))→aQ R b r (lk s.hp b)∨w.heap.size≤r:=fun r h=>by rw[J];exact .inl h
  have Q:mV (fun r=>aQ R b r (lk s.hp b)) w (w.setRow (R.blk b) (V.toList.take off++v.cells.toList++V.toList.drop (off+v.cells.toList.length)).toArray):=by
   refine (pE w _ _).mono ?_;rintro r rfl
   rw[J];rfl
  obtain⟨m1,m2,m3,m4,m5⟩:=g.G8 hR r1 r2 r3 ae Q;refine g.upd hR r1 r2 r3 ae Q ?_;refine⟨_,e,setRow_heap w _ V _ e _ hg,?_⟩;rw[bR];exact ai.imp fun p v h=>dM m1 m2 m3 m4 m5 p v h
 ·rename_i b ver k off;split at h;rotate_left;cases h
  rename_i e vr G S hb;have J:=hH _ _ hb;split at h;rotate_left;cases h
  rename_i gu;split at h;rotate_left;cases h
  rename_i p;split at h;rotate_left;cases h
  rename_i cs al;split at h;rotate_left;cases h
  rename_i aa;have aa:=Nat.eq_of_beq_eq_true aa;obtain⟨a7,ak,h⟩:=h;split at h;rotate_left;cases h
  rename_i vB ag;simp only[au,J,bC] at hx;obtain⟨hn,rfl⟩:=hx.2.2 (Nat.eq_of_beq_eq_true gu);simp only[au] at hy;obtain⟨V,hg,hs,a1,hm,hr,_⟩:=gY (g.boxes b _ J) hn;obtain⟨D,hD⟩:∃D,D=V.toList.drop (R.cap b).2.2:=⟨_,rfl⟩;have a5:D.length=V.size-(R.cap b).2.2:=by rw[hD];simp
  rw[←hD] at hr;have ad:=uW al hy;have aw:k<S.length:=(List.getElem?_eq_some_iff.1 ak).1;obtain⟨ar,Tf⟩:=rQ hr ak;rw[fA] at Tf;have aq:=Tf.take;rw[ar] at aq;obtain⟨hl,ai⟩:=FC.oh aq ad ag;have ao:v.cells.size=i.size:=by rw[←aa,←ad.length];simp
  have a2:=Tf.length;simp only[List.length_take,List.length_drop] at hl a2;have a6:k*G+G≤D.length:=by
   have:(k+1)*G≤(R.cap b).1*G:=Nat.mul_le_mul_right _ (by omega);rw[Nat.add_mul] at this;omega
  have ah:=uH (w:=w) ap hg ao (off:=(R.cap b).2.2+k*G+off) (by have:=ad.length;simp only[Array.length_toList] at this hl;omega) ad.one;have af:(Instr.storeAt t (.pointer (some ⟨R.blk b,(R.cap b).2.2+k*G+off,none⟩)) v).run P w =
    .ok () (w.setRow (R.blk b) (V.toList.take ((R.cap b).2.2+k*G+off)++v.cells.toList++V.toList.drop ((R.cap b).2.2+k*G+off+v.cells.toList.length)).toArray):=by
   simp only[Instr.storeAt,Instr.sureAddr,pure_bind];exact ah
  refine⟨_,_,af,h,?_⟩;have hR:∀b',b'≠b→R.blk b'=R.blk b'∧R.nil b'=R.nil b'∧R.cap b'=R.cap b':=fun _ _=>⟨rfl,rfl,rfl⟩
  have am:(S.set k vB).length=S.length:=by simp
  have r1:∀off v,bf R b off v (lk s.hp b)→bf R b off v (some (.arr e vr G (S.set k vB))):=fun off v h=>by rw[J] at h;exact h
  have r2:∀ver v,aX R b ver v (lk s.hp b)→aX R b ver v (some (.arr e vr G (S.set k vB))):=fun _ v h=>by rw[J] at h;simp only[aX,am] at h ⊢;exact h
  have r3:∀ver i off v,bC R b ver i off v (lk s.hp b)→bC R b ver i off v (some (.arr e vr G (S.set k vB))):=fun _ _ _ v h=>by rw[J] at h;exact h
  have ae:∀r,aQ R b r (some (.arr e vr G (S.set k vB)))→aQ R b r (lk s.hp b)∨w.heap.size≤r:=fun r h=>by rw[J];exact .inl h
  have Q:mV (fun r=>aQ R b r (lk s.hp b)) w (w.setRow (R.blk b) (V.toList.take ((R.cap b).2.2+k*G+off)++v.cells.toList++V.toList.drop ((R.cap b).2.2+k*G+off+v.cells.toList.length)).toArray):=by
   refine (pE w _ _).mono ?_;rintro r rfl
   rw[J];exact⟨hn,rfl⟩
  obtain⟨m1,m2,m3,m4,m5⟩:=g.G8 hR r1 r2 r3 ae Q;refine g.upd hR r1 r2 r3 ae Q ?_;have YO:vB.length=G:=(CK ag).trans ar;have YP:=ME (i:=k) hr aw YO ai;have a4:(List.take off (List.take G (List.drop (k*G) D))++v.cells.toList++List.drop (off+v.cells.toList.length) (List.take G (List.drop (k*G) D))).length=G:=by
   rw[ai.length];exact YO
  rw[a4] at YP;have a0:D.take (k*G)++(List.take off (List.take G (List.drop (k*G) D))++v.cells.toList++List.drop (off+v.cells.toList.length) (List.take G (List.drop (k*G) D)))++D.drop (k*G+G) =
    D.take (k*G+off)++v.cells.toList++D.drop (k*G+off+v.cells.toList.length):=by
   have e1:List.take off (List.take G (List.drop (k*G) D))=List.take off (List.drop (k*G) D):=by
    have:min off G=off:=by omega
    rw[List.take_take,this]
   have e2:List.drop (off+v.cells.toList.length) (List.take G (List.drop (k*G) D))++D.drop (k*G+G)=D.drop (k*G+off+v.cells.toList.length):=by
    have h1:D.drop (k*G+G)=(D.drop (k*G)).drop G:=by rw[List.drop_drop]
    have h2:D.drop (k*G+off+v.cells.toList.length)=(D.drop (k*G)).drop (off+v.cells.toList.length):=by rw[List.drop_drop,Nat.add_assoc]
    rw[h1,h2,←List.drop_append_of_le_length (by simp only[List.length_take,List.length_drop,Array.length_toList] at hl ⊢;omega),List.take_append_drop]
   rw[e1,List.take_add];simp only[List.append_assoc] at e2 ⊢;rw[e2]
  rw[a0] at YP;have a3:dW R b (S.set k vB).length=.slice (some ⟨R.blk b,(R.cap b).2.2,none⟩) S.length ((R.cap b).1):=by simp[dW,hn]
  obtain⟨t1,t2,t3⟩:=gH (bg m1 m2 _ _ _ YP);refine⟨_,?_,t2⟩;rw[a3,am];rw[am] at t1;have az:=ad.length;simp only[Array.length_toList] at az hl;refine⟨?_,.inr ⟨R.blk b,(R.cap b).1,_,_,rfl,setRow_heap w _ V _ e _ hg,a1,hm,?_,?_⟩⟩
  ·simp only[List.length_take];omega
  ·simp only[List.size_toArray,List.length_append,List.length_take,List.length_drop,Array.length_toList];omega
  rw[List.toList_toArray,Nat.add_assoc _ (k*G) off,zq (by simp only[Array.length_toList];omega),←hD]
 exact h.elim
end
end Go.AX
end
