/-
  Conditions: none. A framework for walks: abstract values, memory, and conditions that suffice; the chapters in plain terms.
-/
import Derived.Laws.AppendOwn
import Derived.Orders
import Derived.Tactics
import Derived.RangeFuncWrites
import Derived.Laws.Cells
import Derived.Laws.MakeOwn
import Derived.Laws.CopyRow
import Derived.Laws.StructEq
import Derived.Laws.BytesString
set_option linter.unusedSectionVars false
set_option linter.unusedVariables false
set_option linter.unusedSimpArgs false
section
namespace Go.AX
inductive PV where
 |sc (v:Value)
 |agg (cs:List PV)
 |dn (vs:List PV)
 |sl (nn:Bool) (st:Nat) (rows:List (List PV))
 |bJ (row:List PV) (off:Nat)
 |fn (f:Fn) (first aM:List PV)
 |junk
 /-- a slice without room behind it -/
 |P8 (st:Nat) (rows:List (List PV))
inductive AV where
 |pv (p:PV)
 |agg (cs:List AV)
 |dn (vs:List AV)
 |ptr (b off:Nat)
 |bn (b ver i off:Nat)
 |aB (b ver:Nat)
 /-- the rows from lo to hi of a slice of yj own,of st cells each -/
 |sub (b ver st lo hi:Nat)
 |fn (f:Fn) (first aM:List AV)
inductive aA where
 |var (cells:List AV)
 |sD (cells:List PV)
 |arr (e:TypeId) (ver st:Nat) (rows:List (List PV))
 |kE (ver st:Nat) (rows:List (List PV))
 /-- of an iterator: what is still to be yielded;has the loop been left? -/
 |tr (y:Program×Nat) (ver:Nat) (rest:List (List PV)) (st:Option Bool)
 /-- an array of yj own,one of Ms rows is laid open: it may have references -/
 |dN (e:TypeId) (ver st:Nat) (pre:List (List PV)) (row:List AV) (post:List (List PV))
 /-- a map of yj own,from integers to integers -/
 |mp (kk kv:IntKind) (es:List (Int×Int))
 /-- an array of yj own,each of Ms rows may have,in column j,an array of its own (told so);one row may be laid open -/
 |fP (e:TypeId) (ver st j:Nat) (ed:TypeId) (sd:Nat) (pre:List (Bool×List PV)) (row:List AV) (post:List (Bool×List PV))
structure AS where
 tm:List (Nat×AV)
 nx:Nat
 hp:List (Nat×aA)
def lk {α:Type}:List (Nat×α)→Nat→Option α
 |[],_=>none
 | (k,v)::r,t=>match Nat.beq k t with
   |true=>some v
   |false=>lk r t
theorem ax {α:Type}(k:Nat)(v:α)(r:List (Nat×α))(t:Nat):lk ((k,v)::r) t=if k=t then some v else lk r t:=by
 simp only[lk];cases h:Nat.beq k t with
 |true=>simp[Nat.eq_of_beq_eq_true h]
 |false=>simp[Nat.ne_of_beq_eq_false h]
section
variable (N:Nat→Prop)(w:World)
mutual
def bE:PV→Value→Prop
 |.sc x,v=>v=x
 |.agg cs,v=>∃vs:Array Value,v=.agg vs∧iR cs vs.toList
 |.dn cs,v=>∃vs:Array Value,v=.tuple vs∧dX cs vs.toList
 | .sl nn st rows,v=>∃(p:Option Addr) (len cap:Nat),v=.slice p len cap∧len=rows.length∧(len≤cap∧cap≤9223372036854775807)∧(p=none→nn=false∧cap=0) ∧
   ∀a,p=some a→rows=[]∨(a.spot=none∧¬N a.block∧∃cur e fr,w.heap[a.block]? = some (.cells cur e fr)∧bK st rows (cur.toList.drop a.off))
 | .bJ row off,v=>∃(g base:Nat) (cur:Array Value) (e:TypeId) (fr:Nat×Nat),v=.pointer (some ⟨g,base+off,none⟩)∧¬N g ∧
   w.heap[g]? = some (.cells cur e fr)∧gq row (cur.toList.drop base)
 |.fn f first aM,v=>∃fs cs:Array Value,v=.func f fs cs∧dX first fs.toList∧dX aM cs.toList
 |.junk,_=>True
 | .P8 st rows,v=>∃a:Addr,v=.slice (some a) rows.length rows.length∧rows.length≤9223372036854775807 ∧
   (rows=[]∨(a.spot=none∧¬N a.block∧∃cur e fr,w.heap[a.block]? = some (.cells cur e fr)∧bK st rows (cur.toList.drop a.off)))
def dX:List PV→List Value→Prop
 |[],vs=>vs=[]
 |p::ps,vs=>∃v r,vs=v::r∧bE p v∧dX ps r
def iR:List PV→List Value→Prop
 |[],vs=>vs=[]
 |p::ps,vs=>∃v r,vs=v::r∧v.oneCell'=true∧bE p v∧iR ps r
def gq:List PV→List Value→Prop
 |[],_=>True
 |p::ps,vs=>∃v r,vs=v::r∧v.oneCell'=true∧bE p v∧gq ps r
def bK (st:Nat):List (List PV)→List Value→Prop
 |[],_=>True
 |row::rows,vs=>row.length=st∧gq row vs∧bK st rows (vs.drop st)
end
end
theorem size_of_getElem? {α:Type}{a:Array α}{i:Nat}{x:α}(h:a[i]? = some x):i<a.size:=(Array.getElem?_eq_some_iff.1 h).1
section
variable {N N':Nat→Prop}{w w':World}(hN:∀r,r<w.heap.size→N' r→N r)(hw:∀r,r<w.heap.size→¬N r→w'.heap[r]? = w.heap[r]?)
include hN hw
mutual
theorem dw:∀(p:PV) (v:Value),bE N w p v→bE N' w' p v
 |.sc x,v=>by simp only[bE];exact id
 |.agg cs,v=>by simp only[bE];rintro⟨vs,h1,h2⟩;exact⟨vs,h1,IY cs _ h2⟩
 |.dn cs,v=>by simp only[bE];rintro⟨vs,h1,h2⟩;exact⟨vs,h1,oC cs _ h2⟩
 | .sl nn st rows,v=>by
   simp only[bE];rintro⟨p,len,cap,h1,h2,h3,h4,h5⟩
   refine⟨p,len,cap,h1,h2,h3,h4,fun a ha=>?_⟩;rcases h5 a ha with h7|⟨h6,h7,cur,e,fr,h8,h9⟩
   ·exact .inl h7
   have hs:=size_of_getElem? h8;exact .inr ⟨h6,fun h=>h7 (hN _ hs h),cur,e,fr,(hw _ hs h7).trans h8,aV st rows _ h9⟩
 | .bJ row off,v=>by
   simp only[bE];rintro⟨g,base,cur,e,fr,h1,h7,h8,h9⟩
   have hs:=size_of_getElem? h8;exact⟨g,base,cur,e,fr,h1,fun h=>h7 (hN _ hs h),(hw _ hs h7).trans h8,bX row _ h9⟩
 | .fn f first aM,v=>by
   simp only[bE];rintro⟨fs,cs,h1,h2,h3⟩;exact⟨fs,cs,h1,oC _ _ h2,oC _ _ h3⟩
 |.junk,v=>by simp only[bE];exact id
 | .P8 st rows,v=>by
   simp only[bE];rintro⟨a,h1,h2,h5⟩
   refine⟨a,h1,h2,?_⟩;rcases h5 with h7|⟨h6,h7,cur,e,fr,h8,h9⟩
   ·exact .inl h7
   have hs:=size_of_getElem? h8;exact .inr ⟨h6,fun h=>h7 (hN _ hs h),cur,e,fr,(hw _ hs h7).trans h8,aV st rows _ h9⟩
theorem oC:∀(ps:List PV) (vs:List Value),dX N w ps vs→dX N' w' ps vs
 |[],vs=>by simp only[dX];exact id
 |p::ps,vs=>by simp only[dX];rintro⟨v,r,h1,h2,h3⟩;exact⟨v,r,h1,dw p v h2,oC ps r h3⟩
theorem IY:∀(ps:List PV) (vs:List Value),iR N w ps vs→iR N' w' ps vs
 |[],vs=>by simp only[iR];exact id
 |p::ps,vs=>by simp only[iR];rintro⟨v,r,h1,h0,h2,h3⟩;exact⟨v,r,h1,h0,dw p v h2,IY ps r h3⟩
theorem bX:∀(ps:List PV) (vs:List Value),gq N w ps vs→gq N' w' ps vs
 |[],vs=>by simp only[gq];exact id
 |p::ps,vs=>by simp only[gq];rintro⟨v,r,h1,h0,h2,h3⟩;exact⟨v,r,h1,h0,dw p v h2,bX ps r h3⟩
theorem aV (st:Nat):∀(rows:List (List PV)) (vs:List Value),bK N w st rows vs→bK N' w' st rows vs
 |[],vs=>by simp only[bK];exact id
 |row::rows,vs=>by simp only[bK];rintro⟨h1,h2,h3⟩;exact⟨h1,bX row _ h2,aV st rows _ h3⟩
end
end
structure nI (O:Nat→Prop)(w w':World):Prop where
 size:w.heap.size≤w'.heap.size
 keep:∀r,r<w.heap.size→¬O r→w'.heap[r]? = w.heap[r]?
 os:w'.os=w.os
 tape:w'.tape=w.tape
 output:w'.output=w.output
theorem nI.refl (O:Nat→Prop)(w:World):nI O w w:=⟨Nat.le_refl _,fun _ _ _=>rfl,rfl,rfl,rfl⟩
theorem nI.trans {O O':Nat→Prop}{w w1 w2:World}(h:nI O w w1)(h':nI O' w1 w2)(ho:∀r,r<w.heap.size→O' r→O r):nI O w w2:=
 ⟨Nat.le_trans h.size h'.size,fun r hr hn=>(h'.keep r (Nat.lt_of_lt_of_le hr h.size) fun x=>hn (ho r hr x)).trans (h.keep r hr hn),
  h'.os.trans h.os,h'.tape.trans h.tape,h'.output.trans h.output⟩
theorem nI.mono {O O':Nat→Prop}{w w1:World}(h:nI O w w1)(ho:∀r,O r→O' r):nI O' w w1:=
 ⟨h.size,fun r hr hn=>h.keep r hr fun x=>hn (ho r x),h.os,h.tape,h.output⟩
structure DK (n0:Nat)(Z D:Nat→Prop)(w w':World):Prop where
 size:w.heap.size≤w'.heap.size
 keep:∀r o,w.heap[r]? = some o→¬Z r→(r<n0∨o.isCells=true∨D r)→w'.heap[r]? = some o
 os:w'.os=w.os
 tape:w'.tape=w.tape
 output:w'.output=w.output
theorem DK.refl (n0:Nat)(Z D:Nat→Prop)(w:World):DK n0 Z D w w:=⟨Nat.le_refl _,fun _ _ h _ _=>h,rfl,rfl,rfl⟩
theorem DK.step {n0:Nat}{Z D O:Nat→Prop}{w w1 w2:World}(h:DK n0 Z D w w1)(h':nI O w1 w2)(ho:∀r,r<w.heap.size→O r→Z r):DK n0 Z D w w2:=
 ⟨Nat.le_trans h.size h'.size,fun r o hr hz hc=>by
   have hlt:=(Array.getElem?_eq_some_iff.1 hr).1;rw[h'.keep r (Nat.lt_of_lt_of_le hlt h.size) fun x=>hz (ho r hlt x)];exact h.keep r o hr hz hc,h'.os.trans h.os,h'.tape.trans h.tape,h'.output.trans h.output⟩
structure YS where
 Z:Nat→Prop
 D:Nat→Prop
 wy:World
 n0:Nat×(List (List PV)→Bool→(Nat→Prop)→(Nat→Prop)→World→Prop)
def YH (y:Program×Nat)(n0:Nat)(J:List (List PV)→Bool→(Nat→Prop)→(Nat→Prop)→World→Prop):Prop:=
 ∀(x:List PV) (rest:List (List PV)) (Z D:Nat→Prop) (wy w:World) (Z':Nat→Prop) (vs:List Value),J (x::rest) false Z D wy→DK n0 Z D wy w→(∀r,D r→r<wy.heap.size) →
  (∀r,Z' r→Z r∨wy.heap.size≤r)→(∀r,Z' r→r<w.heap.size)→(∀r,Z' r→¬D r)→dX (fun r=>D r∨Z' r) w x vs →
  YieldAt Fence.wide 0 y.1 y.2 vs.toArray w fun e w'=>∃(D':Nat→Prop) (b:Bool),e=.returned (.bool b)∧nI D w w'∧(∀r,D' r→D r∨w.heap.size≤r)∧(∀r,D' r→r<w'.heap.size)∧J rest (!b) Z' D' w'
structure Real where
 blk:Nat→Nat
 nil:Nat→Bool
 cap:Nat→Nat×List (Option Value)
 Y:YS
def bY (R:Real)(b n:Nat):Value:=if R.nil b then .slice none 0 0 else .slice (some ⟨R.blk b,0,none⟩) n (R.cap b).1
def dJ (row:List AV):Nat:=
 match row with
 |[]=>0
 |_::_=>1
theorem zG {row row':List AV}(h:row'.length=row.length):dJ row'=dJ row:=by
 cases row<;>cases row'<;>first|rfl|(simp at h)
def aX (R:Real)(b off:Nat)(v:Value):Option aA→Prop
 |some (.var _)=>v=.pointer (some ⟨R.blk b,off,none⟩)
 |some (.sD _)=>v=.pointer (some ⟨R.blk b,off,none⟩)
 |_=>False
def aS (R:Real)(b ver:Nat)(v:Value):Option aA→Prop
 |some (.arr _ fe _ rows)=>ver≤fe∧v.oneCell'=true∧(ver=fe→v=bY R b rows.length)
 |some (.kE fe _ rows)=>ver≤fe∧v.oneCell'=true∧(ver=fe→v=bY R b rows.length)
 |some (.fP _ fe _ _ _ _ pre row post)=>ver≤fe∧v.oneCell'=true∧(ver=fe→v=bY R b (pre.length+(dJ row+post.length)))
 |some (.dN _ fe _ pre _ post)=>ver≤fe∧v.oneCell'=true∧(ver=fe→v=bY R b (pre.length+(1+post.length)))
 |_=>False
def aZ (R:Real)(b ver i off:Nat)(v:Value):Option aA→Prop
 |some (.arr _ fe st _)=>ver≤fe∧v.oneCell'=true∧(ver=fe→R.nil b=false∧v=.pointer (some ⟨R.blk b,i*st+off,none⟩))
 |some (.kE fe st _)=>ver≤fe∧v.oneCell'=true∧(ver=fe→R.nil b=false∧v=.pointer (some ⟨R.blk b,i*st+off,none⟩))
 |some (.fP _ fe st _ _ _ _ _ _)=>ver≤fe∧v.oneCell'=true∧(ver=fe→R.nil b=false∧v=.pointer (some ⟨R.blk b,i*st+off,none⟩))
 |some (.dN _ fe st _ _ _)=>ver≤fe∧v.oneCell'=true∧(ver=fe→R.nil b=false∧v=.pointer (some ⟨R.blk b,i*st+off,none⟩))
 |some (.mp _ _ _)=>0≤ver∧v.oneCell'=true∧v=.map (some (R.blk b))
 |some (.tr _ fe _ st)=>ver≤fe∧v.oneCell'=true∧(ver=fe→st=none→v=.bool (R.nil b != Nat.beq off 1))
 |_=>False
def jD (st lo hi:Nat):Value→Value
 |.slice (some a) _ cap=>.slice (some (if cap=lo then a else a.add (lo*st))) (hi-lo) (cap-lo)
 |_=>.slice none 0 0
def uw (lo hi:Nat):Value→Prop
 |.slice _ n _=>lo≤hi∧hi≤n
 |_=>False
theorem WX (st lo hi:Nat)(u:Value):(jD st lo hi u).oneCell'=true:=by
 unfold jD;split<;>rfl
section
variable (N:Nat→Prop)(w:World)(hp:List (Nat×aA))(R:Real)
mutual
def ai:AV→Value→Prop
 |.pv p,v=>bE N w p v
 |.agg cs,v=>∃vs:Array Value,v=.agg vs∧bN cs vs.toList
 |.dn cs,v=>∃vs:Array Value,v=.tuple vs∧bT cs vs.toList
 |.ptr b off,v=>aX R b off v (lk hp b)
 |.aB b ver,v=>aS R b ver v (lk hp b)
 |.sub b ver st lo hi,v=>∃u,aS R b ver u (lk hp b)∧uw lo hi u∧v=jD st lo hi u
 |.bn b ver i off,v=>aZ R b ver i off v (lk hp b)
 |.fn f first aM,v=>∃fs cs:Array Value,v=.func f fs cs∧bT first fs.toList∧bT aM cs.toList
def bT:List AV→List Value→Prop
 |[],vs=>vs=[]
 |p::ps,vs=>∃v r,vs=v::r∧ai p v∧bT ps r
def bN:List AV→List Value→Prop
 |[],vs=>vs=[]
 |p::ps,vs=>∃v r,vs=v::r∧v.oneCell'=true∧ai p v∧bN ps r
end
end
section
variable {N N':Nat→Prop}{w w':World}{hp hp':List (Nat×aA)}{R R':Real}
variable (hN:∀r,r<w.heap.size→N' r→N r)(hw:∀r,r<w.heap.size→¬N r→w'.heap[r]? = w.heap[r]?)
variable (h1:∀b off v,aX R b off v (lk hp b)→aX R' b off v (lk hp' b))
variable (h2:∀b ver v,aS R b ver v (lk hp b)→aS R' b ver v (lk hp' b))
variable (h3:∀b ver i off v,aZ R b ver i off v (lk hp b)→aZ R' b ver i off v (lk hp' b))
include hN hw h1 h2 h3
mutual
theorem bZ:∀(p:AV) (v:Value),ai N w hp R p v→ai N' w' hp' R' p v
 |.pv p,v=>by simp only[ai];exact dw hN hw p v
 |.agg cs,v=>by simp only[ai];rintro⟨vs,a,b⟩;exact⟨vs,a,bI cs _ b⟩
 |.dn cs,v=>by simp only[ai];rintro⟨vs,a,b⟩;exact⟨vs,a,sG cs _ b⟩
 |.ptr b off,v=>by simp only[ai];exact h1 b off v
 |.aB b ver,v=>by simp only[ai];exact h2 b ver v
 |.sub b ver st lo hi,v=>by simp only[ai];rintro⟨u,a,c⟩;exact⟨u,h2 b ver u a,c⟩
 |.bn b ver i off,v=>by simp only[ai];exact h3 b ver i off v
 | .fn f first aM,v=>by
   simp only[ai];rintro⟨fs,cs,a,b,c⟩;exact⟨fs,cs,a,sG _ _ b,sG _ _ c⟩
theorem sG:∀(ps:List AV) (vs:List Value),bT N w hp R ps vs→bT N' w' hp' R' ps vs
 |[],vs=>by simp only[bT];exact id
 |p::ps,vs=>by simp only[bT];rintro⟨v,r,a,b,c⟩;exact⟨v,r,a,bZ p v b,sG ps r c⟩
theorem bI:∀(ps:List AV) (vs:List Value),bN N w hp R ps vs→bN N' w' hp' R' ps vs
 |[],vs=>by simp only[bN];exact id
 |p::ps,vs=>by simp only[bN];rintro⟨v,r,a,d,b,c⟩;exact⟨v,r,a,d,bZ p v b,bI ps r c⟩
end
end
def aI (R:Real)(b r:Nat):Option aA→Prop
 |some (.var _)=>R.blk b=r
 |some (.arr _ _ _ _)=>R.nil b=false∧R.blk b=r
 |some (.tr _ _ _ _)=>R.Y.D r
 |some (.dN _ _ _ _ _ _)=>R.nil b=false∧R.blk b=r
 |some (.mp _ _ _)=>R.nil b=false∧R.blk b=r
 |some (.fP _ _ _ _ _ _ _ _ _)=>(R.nil b=false∧R.blk b=r)∨∃v,some v∈(R.cap b).2∧v.ownBlock=some r
 |_=>False
def owned (R:Real)(hp:List (Nat×aA))(r:Nat):Prop:=∃b,aI R b r (lk hp b)
def dK (N:Nat→Prop)(w:World)(st j:Nat)(ed:TypeId)(sd:Nat):List (Option Value)→List (Bool×List PV)→List Value→Prop
 |[],[],_=>True
 | h::hs,(fl,r)::rs,xs=>r.length=st∧(match h,fl with
   |none,false=>gq N w r xs
   |some v,true=>∃rr ys,r[j]? = some (.sl false sd rr)∧v.oneCell'=true∧gq N w (r.set j (.sc v)) xs∧w.ownsRow 0 ed sd v rr.length ys∧bK N w sd rr ys
   |_,_=>False)∧dK N w st j ed sd hs rs (xs.drop st)
 |_,_,_=>False
def DL (R:Real)(b:Nat):Prop:=
 ((R.cap b).2.filterMap fun h=>h.bind Value.ownBlock).Nodup∧∀v r,some v∈(R.cap b).2→v.ownBlock=some r→R.nil b=false→R.blk b≠r
def eB (N:Nat→Prop)(w:World)(hp:List (Nat×aA))(R:Real)(b:Nat):aA→Prop
 |.var cells=>∃cur e,w.heap[R.blk b]? = some (.cells cur e (0,0))∧bN N w hp R cells cur.toList
 |.sD cells=>∃cur e fr,w.heap[R.blk b]? = some (.cells cur e fr)∧¬N (R.blk b)∧gq N w cells cur.toList
 |.arr e _ st rows=>∃xs,w.ownsRow 0 e st (bY R b rows.length) rows.length xs∧bK N w st rows xs
 |.kE _ st rows=>bE N w (.sl false st rows) (bY R b rows.length)
 |.tr y _ rest st=>b=999∧YH y R.Y.n0.1 R.Y.n0.2∧R.Y.n0.2 rest (st.getD (!R.nil b)) R.Y.Z R.Y.D R.Y.wy∧DK R.Y.n0.1 R.Y.Z R.Y.D R.Y.wy w∧(∀r,R.Y.D r→r<R.Y.wy.heap.size)∧∀r,N r→R.Y.D r∨R.Y.Z r∨R.Y.wy.heap.size≤r
 |.dN e _ st pre row post=>∃xs,w.ownsRow 0 e st (bY R b (pre.length+(1+post.length))) (pre.length+(1+post.length)) xs∧bK N w st pre xs∧row.length=st∧bN N w hp R row ((xs.drop (pre.length*st)).take st)∧bK N w st post ((xs.drop (pre.length*st)).drop st)
 |.mp kk kv es=>∃(cur:Array MapEntry) (clock:Nat),w.heap[R.blk b]? = some (.map cur clock)∧R.nil b=false∧cur.toList.map (fun e=>(e.key,e.val))=es.map fun e=>(.int kk e.1,.int kv e.2)
 | .fP e _ st j ed sd pre row post=>∃xs hs1 hs2,(R.cap b).2=hs1++hs2∧w.ownsRow 0 e st (bY R b (pre.length+(dJ row+post.length))) (pre.length+(dJ row+post.length)) xs∧dK N w st j ed sd hs1 pre xs∧row.length=dJ row*st ∧
   bN N w hp R row ((xs.drop (pre.length*st)).take (dJ row*st))∧dK N w st j ed sd hs2 post ((xs.drop (pre.length*st)).drop (dJ row*st))∧DL R b
def kg:AV→Bool
 |.ptr b _=>Nat.blt b 1000
 |.bn b _ _ _=>Nat.blt b 1000 && !Nat.beq b 999
 |.aB b _=>Nat.blt b 1000
 |_=>false
structure Ctx where
 F:Nat→Prop
 O:Nat→Prop
 w:World
 n:Nat
 hF:∀r,F r→r<w.heap.size
 K:AV→Value→Prop
 hK:∀v x,K v x→kg v=true
 /-- aiE that are no cells,and stay -/
 fix:Nat→Option Obj
 /-- the ai4 size when the Et call ak7;when this call did -/
 n0:Nat×(List (List PV)→Bool→(Nat→Prop)→(Nat→Prop)→World→Prop)
 lo:Nat
def aT (c:Ctx)(R:Real)(hp:List (Nat×aA))(r:Nat):Prop:=c.F r∨owned R hp r
def mark (D:Nat):Deferred:={ target:=.collected D,args:=#[] }
structure Marks (lo:Nat)(own:Nat→Prop)(w:World)(ds:List Deferred)(Ds:List Nat):Prop where
 low:∀D∈Ds,lo≤D
 eq:ds=Ds.map mark
 nodup:Ds.Nodup
 obj:∀D∈Ds,w.heap[D]? = some (.deferred (some []))
 free:∀D∈Ds,¬own D
structure uz (fix:Nat→Option Obj)(own:Nat→Prop)(w:World):Prop where
 obj:∀r o,fix r=some o→w.heap[r]? = some o
 free:∀r o,fix r=some o→¬own r
 nc:∀r o,fix r=some o→o.isCells=false
theorem Marks.kept {lo:Nat}{own WY:Nat→Prop}{w w':World}{ds:List Deferred}{Ds:List Nat}(h:Marks lo own w ds Ds)(hw:∀r,r<w.heap.size→¬own r→w'.heap[r]? = w.heap[r]?)
  (ho:∀r,r<w.heap.size→WY r→own r):Marks lo WY w' ds Ds:=
 ⟨h.low,h.eq,h.nodup,fun D hD=>(hw D (size_of_getElem? (h.obj D hD)) (h.free D hD)).trans (h.obj D hD),fun D hD x=>h.free D hD (ho D (size_of_getElem? (h.obj D hD)) x)⟩
theorem uz.kept {fix:Nat→Option Obj}{own WY:Nat→Prop}{w w':World}(h:uz fix own w)(hw:∀r,r<w.heap.size→¬own r→w'.heap[r]? = w.heap[r]?)
  (ho:∀r,r<w.heap.size→WY r→own r):uz fix WY w':=
 ⟨fun r o hr=>(hw r (size_of_getElem? (h.obj r o hr)) (h.free r o hr)).trans (h.obj r o hr),fun r o hr x=>h.free r o hr (ho r (size_of_getElem? (h.obj r o hr)) x),h.nc⟩
theorem uz.none {own:Nat→Prop}{w:World}:uz (fun _=>none) own w:=⟨fun _ _ h=>by simp at h,fun _ _ h=>by simp at h,fun _ _ h=>by simp at h⟩
theorem Marks.nil {lo:Nat}{own:Nat→Prop}{w:World}:Marks lo own w [] []:=⟨by simp,rfl,List.nodup_nil,by simp,by simp⟩
structure bB (c:Ctx)(R:Real)(s:AS)(a:Act)(w:World):Prop where
 slots:∀t v,lk s.tm t=some v→∃x,a.tmps[t]? = some x∧ai (aT c R s.hp) w s.hp R v x
 size:a.tmps.size=c.n
 lo:R.Y.n0=c.n0∧c.n0.1≤c.lo∧c.lo≤w.heap.size
 marks:∃Ds,Marks c.lo (owned R s.hp) w a.defers Ds
 fixed:uz c.fix (owned R s.hp) w
 boxes:∀b box,lk s.hp b=some box→eB (aT c R s.hp) w s.hp R b box
 inj:∀b b' r,aI R b r (lk s.hp b)→aI R b' r (lk s.hp b')→b=b'
 free:∀r,owned R s.hp r→¬c.F r
 jE:nI c.O c.w w
 iL:∀r,owned R s.hp r→c.O r∨c.w.heap.size≤r
 kept:∀v x,c.K v x→ai (aT c R s.hp) w s.hp R v x
theorem jo {R R':Real}{b n:Nat}(h:R'.blk b=R.blk b∧R'.nil b=R.nil b∧R'.cap b=R.cap b):bY R' b n=bY R b n:=by
 simp only[bY,h.1,h.2.1,h.2.2]
theorem jW {R R':Real}{b:Nat}(h:R'.blk b=R.blk b∧R'.nil b=R.nil b∧R'.cap b=R.cap b){off:Nat}{v:Value}{o:Option aA}
  (x:aX R b off v o):aX R' b off v o:=by
 cases o with
 |none=>exact x
 |some o=>cases o<;>simp only[aX,h.1] at x ⊢ <;> exact x
theorem lu {R R':Real}{b:Nat}(h:R'.blk b=R.blk b∧R'.nil b=R.nil b∧R'.cap b=R.cap b){ver:Nat}{v:Value}{o:Option aA}
  (x:aS R b ver v o):aS R' b ver v o:=by
 cases o with
 |none=>exact x
 |some o=>cases o<;>simp only[aS,jo h] at x ⊢ <;> exact x
theorem lD {R R':Real}{b:Nat}(h:R'.blk b=R.blk b∧R'.nil b=R.nil b∧R'.cap b=R.cap b){ver i off:Nat}{v:Value}{o:Option aA}
  (x:aZ R b ver i off v o):aZ R' b ver i off v o:=by
 cases o with
 |none=>exact x
 |some o=>cases o<;>simp only[aZ,h.1,h.2.1] at x ⊢ <;> exact x
theorem fU {R R':Real}{b:Nat}(h:R'.blk b=R.blk b∧R'.nil b=R.nil b∧R'.cap b=R.cap b)(hY:R'.Y=R.Y){r:Nat}{o:Option aA}
  (x:aI R' b r o):aI R b r o:=by
 cases o with
 |none=>exact x
 |some o=>cases o<;>simp only[aI,h.1,h.2.1,h.2.2,hY] at x ⊢ <;> exact x
theorem dD {w w':World}{base e size:Nat}{v:Value}{n:Nat}{xs:List Value}(h:w.ownsRow base e size v n xs)
  (hk:∀k,v.ownBlock=some k→w'.heap[k]? = w.heap[k]?):w'.ownsRow base e size v n xs:=by
 refine⟨h.1,?_⟩;rcases h.2 with hn|⟨g,cap,cur,rfl,hb,hg,rest⟩
 ·exact .inl hn
 exact .inr ⟨g,cap,cur,rfl,hb,(hk g rfl).trans hg,rest⟩
theorem lF {N N':Nat→Prop}{w w':World}(hN:∀r,r<w.heap.size→N' r→N r)(hw:∀r,r<w.heap.size→¬N r→w'.heap[r]? = w.heap[r]?){st j:Nat}{ed:TypeId}{sd:Nat} :
  ∀{hs:List (Option Value)} {rs:List (Bool×List PV)} {xs:List Value},(∀v,some v∈hs→∀k,v.ownBlock=some k→w'.heap[k]? = w.heap[k]?)→dK N w st j ed sd hs rs xs→dK N' w' st j ed sd hs rs xs
 |[],[],xs,_,h=>by simp only[dK]
 |[],_::_,xs,_,h=>by simp only[dK] at h
 |_::_,[],xs,_,h=>by simp only[dK] at h
 | h::hs,(fl,r)::rs,xs,hk,hh=>by
   simp only[dK] at hh ⊢;obtain⟨h1,h2,h3⟩:=hh;refine⟨h1,?_,lF hN hw (fun v hv=>hk v (by simp[hv])) h3⟩;cases h with
   | none=>cases fl with
     |false=>exact bX hN hw _ _ h2
     |true=>exact h2.elim
   | some v=>cases fl with
     |false=>exact h2.elim
     | true=>
       obtain⟨rr,ys,a1,a0,a2,a3,a4⟩:=h2;exact⟨rr,ys,a1,a0,bX hN hw _ _ a2,dD a3 fun k hk'=>hk v (by simp) k hk',aV hN hw _ _ _ a4⟩
theorem QM {R R':Real}{b b':Nat}(h1:R'.blk b'=R.blk b)(h2:R'.nil b'=R.nil b)(h3:R'.cap b'=R.cap b)(h:DL R b):DL R' b':=by
 unfold DL at h ⊢;rw[h1,h2,h3];exact h
theorem jI {N N':Nat→Prop}{w w':World}{hp hp':List (Nat×aA)}{R R':Real}{b b':Nat}(hN:∀r,r<w.heap.size→N' r→N r)(hw:∀r,r<w.heap.size→¬N r→w'.heap[r]? = w.heap[r]?)
  (h1:R'.blk b'=R.blk b) (h2:R'.nil b'=R.nil b) (h3:R'.cap b'=R.cap b) {e:TypeId} {ver fe st j:Nat} {ed:TypeId} {sd:Nat} {pre post:List (Bool×List PV)} {row row':List AV}
  (hk:∀k,aI R b k (some (.fP e ver st j ed sd pre row post))→w'.heap[k]? = w.heap[k]?) (hl:row'.length=row.length) (hrow:∀vs,bN N w hp R row vs→bN N' w' hp' R' row' vs)
  (h:eB N w hp R b (.fP e ver st j ed sd pre row post)):eB N' w' hp' R' b' (.fP e fe st j ed sd pre row' post):=by
 obtain⟨xs,hs1,hs2,a1,a2,a3,a4,a5,a6,a7⟩:=h;have hO:=zG hl;simp only[eB,hO,hl];refine⟨xs,hs1,hs2,by rw[h3];exact a1,?_,lF hN hw (fun v hv k hk'=>hk k (.inr ⟨v,by rw[a1];simp[hv],hk'⟩)) a3,a4,hrow _ a5,lF hN hw (fun v hv k hk'=>hk k (.inr ⟨v,by rw[a1];simp[hv],hk'⟩)) a6,QM h1 h2 h3 a7⟩;rw[show bY R' b' (pre.length+(dJ row+post.length))=bY R b (pre.length+(dJ row+post.length)) by simp only[bY,h1,h2,h3]];refine dD a2 fun k hk'=>hk k (.inl ?_)
 simp only[bY] at hk';cases hnil:R.nil b with
 |true=>simp[hnil,Value.ownBlock] at hk'
 |false=>simp[hnil,Value.ownBlock] at hk';exact⟨rfl,hk'⟩
theorem KL {N:Nat→Prop}{w:World}{st j:Nat}{ed:TypeId}{sd:Nat}:∀{hs:List (Option Value)} {rs:List (Bool×List PV)} {xs:List Value},dK N w st j ed sd hs rs xs→∀v,some v∈hs→∀r,v.ownBlock=some r→r<w.heap.size
 |[],_,_,_,v,hv=>by simp at hv
 |_::_,[],xs,h,_,_=>by simp only[dK] at h
 | h::hs,(fl,r)::rs,xs,hh,v,hv=>by
   intro k hk;simp only[dK] at hh;obtain⟨h1,h2,h3⟩:=hh;rcases List.mem_cons.1 hv with e|hv
   ·subst e;cases fl with
    |false=>exact h2.elim
    | true=>
      obtain⟨rr,ys,a1,a0,a2,a3,a4⟩:=h2;exact (a3.lt k hk).2
   exact KL h3 v hv k hk
theorem ko {N:Nat→Prop}{w:World}{hp:List (Nat×aA)}{R:Real}{b r:Nat}{box:aA}(hr:eB N w hp R b box)(ho:aI R b r (some box)) :
  r<w.heap.size:=by
 cases box with
 | var cells=>
   obtain⟨cur,e,h,_⟩:=hr;simp only[aI] at ho;exact ho▸size_of_getElem? h
 |sD cells=>exact ho.elim
 | arr e ver st rows=>
   obtain⟨xs,h,_⟩:=hr;simp only[aI] at ho;exact (h.lt r (by simp[bY,ho.1,ho.2,Value.ownBlock])).2
 |kE ver st rows=>exact ho.elim
 | tr y ver rest st=>
   obtain⟨_,_,_,h2,h3,_⟩:=hr;exact Nat.lt_of_lt_of_le (h3 r ho) h2.size
 | mp kk kv es=>
   obtain⟨cur,clock,h,_⟩:=hr;simp only[aI] at ho;exact ho.2▸size_of_getElem? h
 | fP e ver st j ed sd pre row post=>
   obtain⟨xs,hs1,hs2,a1,a2,a3,a4,a5,a6,a7⟩:=hr;simp only[aI] at ho;rcases ho with ho|⟨v,hv,hr⟩
   ·exact (a2.lt r (by simp[bY,ho.1,ho.2,Value.ownBlock])).2
   rw[a1] at hv;rcases List.mem_append.1 hv with hv|hv
   ·exact KL a3 v hv r hr
   exact KL a6 v hv r hr
 | dN e ver st pre row post=>
   obtain⟨xs,h,_⟩:=hr;simp only[aI] at ho;exact (h.lt r (by simp[bY,ho.1,ho.2,Value.ownBlock])).2
theorem bB.ko {c:Ctx}{R:Real}{s:AS}{a:Act}{w:World}(g:bB c R s a w){b r:Nat}(ho:aI R b r (lk s.hp b)):r<w.heap.size:=by
 cases h:lk s.hp b with
 |none=>rw[h] at ho;exact ho.elim
 |some box=>rw[h] at ho;exact AX.ko (g.boxes b box h) ho
theorem bB.Nlt {c:Ctx}{R:Real}{s:AS}{a:Act}{w:World}(g:bB c R s a w){r:Nat}(h:aT c R s.hp r):r<w.heap.size:=by
 rcases h with h|⟨b,h⟩
 ·exact Nat.lt_of_lt_of_le (c.hF r h) g.jE.size
 exact g.ko h
theorem bB.Kk {c:Ctx}{R:Real}{s:AS}{a:Act}{w:World}(g:bB c R s a w){R':Real}{w':World}{b:Nat}{bD:aA}
  (hR:∀b',b'≠b→R'.blk b'=R.blk b'∧R'.nil b'=R.nil b'∧R'.cap b'=R.cap b')
  (r1:∀off v,aX R b off v (lk s.hp b)→aX R' b off v (some bD))
  (r2:∀ver v,aS R b ver v (lk s.hp b)→aS R' b ver v (some bD))
  (r3:∀ver i off v,aZ R b ver i off v (lk s.hp b)→aZ R' b ver i off v (some bD))
  (hown:∀r,aI R' b r (some bD)→aI R b r (lk s.hp b)∨w.heap.size≤r)
  (hworld:nI (fun r=>aI R b r (lk s.hp b)) w w') (hY:R'.Y=R.Y:=by rfl) :
  (∀r,r<w.heap.size→aT c R' ((b,bD)::s.hp) r→aT c R s.hp r)∧(∀r,r<w.heap.size→¬aT c R s.hp r→w'.heap[r]? = w.heap[r]?) ∧
  (∀b' off v,aX R b' off v (lk s.hp b')→aX R' b' off v (lk ((b,bD)::s.hp) b')) ∧
  (∀b' ver v,aS R b' ver v (lk s.hp b')→aS R' b' ver v (lk ((b,bD)::s.hp) b')) ∧
  (∀b' ver i off v,aZ R b' ver i off v (lk s.hp b')→aZ R' b' ver i off v (lk ((b,bD)::s.hp) b')):=by
 have uW:lk ((b,bD)::s.hp) b=some bD:=by rw[ax,if_pos rfl]
 have sU:∀b',b'≠b→lk ((b,bD)::s.hp) b'=lk s.hp b':=fun b' h=>by rw[ax,if_neg (fun e=>h e.symm)]
 refine⟨?_,?_,?_,?_,?_⟩
 ·rintro r hr (h|⟨b',h⟩)
  ·exact .inl h
  by_cases e:b'=b
  ·subst e;rw[uW] at h;exact .inr ⟨b',(hown r h).resolve_right (by omega)⟩
  rw[sU b' e] at h;exact .inr ⟨b',fU (hR b' e) hY h⟩
 ·exact fun r hr hn=>hworld.keep r hr fun x=>hn (.inr ⟨b,x⟩)
 ·intro b' off v h;by_cases e:b'=b
  ·subst e;rw[uW];exact r1 off v h
  rw[sU b' e];exact jW (hR b' e) h
 ·intro b' ver v h;by_cases e:b'=b
  ·subst e;rw[uW];exact r2 ver v h
  rw[sU b' e];exact lu (hR b' e) h
 intro b' ver i off v h;by_cases e:b'=b
 ·subst e;rw[uW];exact r3 ver i off v h
 rw[sU b' e];exact lD (hR b' e) h
theorem bB.upd {c:Ctx}{R:Real}{s:AS}{a:Act}{w:World}(g:bB c R s a w){R':Real}{w':World}{b:Nat}{bD:aA}{nx':Nat}
  (hR:∀b',b'≠b→R'.blk b'=R.blk b'∧R'.nil b'=R.nil b'∧R'.cap b'=R.cap b')
  (r1:∀off v,aX R b off v (lk s.hp b)→aX R' b off v (some bD))
  (r2:∀ver v,aS R b ver v (lk s.hp b)→aS R' b ver v (some bD))
  (r3:∀ver i off v,aZ R b ver i off v (lk s.hp b)→aZ R' b ver i off v (some bD))
  (hown:∀r,aI R' b r (some bD)→aI R b r (lk s.hp b)∨w.heap.size≤r)
  (hworld:nI (fun r=>aI R b r (lk s.hp b)) w w')
  (EZ:eB (aT c R' ((b,bD)::s.hp)) w' ((b,bD)::s.hp) R' b bD) (hY:R'.Y=R.Y:=by rfl) :
  bB c R' ⟨s.tm,nx',(b,bD)::s.hp⟩ a w':=by
 have uW:lk ((b,bD)::s.hp) b=some bD:=by rw[ax,if_pos rfl]
 have sU:∀b',b'≠b→lk ((b,bD)::s.hp) b'=lk s.hp b':=fun b' h=>by rw[ax,if_neg (fun e=>h e.symm)]
 have KM:∀r,owned R' ((b,bD)::s.hp) r→owned R s.hp r∨w.heap.size≤r:=by
  rintro r ⟨b',h⟩
  by_cases e:b'=b
  ·subst e;rw[uW] at h;exact (hown r h).imp (fun x=>⟨b',x⟩) id
  rw[sU b' e] at h;exact .inl ⟨b',fU (hR b' e) hY h⟩
 have hN:∀r,r<w.heap.size→aT c R' ((b,bD)::s.hp) r→aT c R s.hp r:=by
  rintro r hr (h|h)
  ·exact .inl h
  exact .inr ((KM r h).resolve_right (by omega))
 have hw:∀r,r<w.heap.size→¬aT c R s.hp r→w'.heap[r]? = w.heap[r]? :=fun r hr hn=>hworld.keep r hr fun x=>hn (.inr ⟨b,x⟩)
 have p1:∀b' off v,aX R b' off v (lk s.hp b')→aX R' b' off v (lk ((b,bD)::s.hp) b'):=fun b' off v h=>by
  by_cases e:b'=b
  ·subst e;rw[uW];exact r1 off v h
  rw[sU b' e];exact jW (hR b' e) h
 have p2:∀b' ver v,aS R b' ver v (lk s.hp b')→aS R' b' ver v (lk ((b,bD)::s.hp) b'):=fun b' ver v h=>by
  by_cases e:b'=b
  ·subst e;rw[uW];exact r2 ver v h
  rw[sU b' e];exact lu (hR b' e) h
 have p3:∀b' ver i off v,aZ R b' ver i off v (lk s.hp b')→aZ R' b' ver i off v (lk ((b,bD)::s.hp) b'):=fun b' ver i off v h=>by
  by_cases e:b'=b
  ·subst e;rw[uW];exact r3 ver i off v h
  rw[sU b' e];exact lD (hR b' e) h
 have hwo:∀r,r<w.heap.size→¬owned R s.hp r→w'.heap[r]? = w.heap[r]? :=fun r hr hn=>hworld.keep r hr fun x=>hn ⟨b,x⟩
 have hoo:∀r,r<w.heap.size→owned R' ((b,bD)::s.hp) r→owned R s.hp r:=fun r hr h=>(KM r h).resolve_right (by omega)
 refine⟨?_,g.size,⟨by rw[hY];exact g.lo.1,g.lo.2.1,Nat.le_trans g.lo.2.2 hworld.size⟩,g.marks.imp fun Ds h=>h.kept hwo hoo,g.fixed.kept hwo hoo,?_,?_,?_,?_,?_,fun v x h=>bZ hN hw p1 p2 p3 v x (g.kept v x h)⟩
 ·intro t v h;obtain⟨x,hx,hv⟩:=g.slots t v h;exact⟨x,hx,bZ hN hw p1 p2 p3 v x hv⟩
 ·intro b' box h;by_cases e:b'=b
  ·subst e;simp only[uW,Option.some.injEq] at h;subst h;exact EZ
  simp only[sU b' e] at h;have hr:=g.boxes b' box h;have hRb:=hR b' e;have hkeep:∀r,aI R b' r (lk s.hp b')→w'.heap[r]? = w.heap[r]? :=fun r ho=>
   hworld.keep r (g.ko ho) fun x=>e (g.inj b' b r ho x)
  rw[h] at hkeep;cases box with
  | var cells=>
    obtain⟨cur,e',h8,h9⟩:=hr;refine⟨cur,e',?_,bI hN hw p1 p2 p3 _ _ h9⟩;rw[hRb.1,hkeep _ rfl];exact h8
  | sD cells=>
    obtain⟨cur,e',fr,h8,h7,h9⟩:=hr;have hs:=size_of_getElem? h8;refine⟨cur,e',fr,?_,?_,bX hN hw _ _ h9⟩
    ·rw[hRb.1,hw _ hs h7];exact h8
    rw[hRb.1];exact fun x=>h7 (hN _ hs x)
  | arr e' ver st rows=>
    obtain⟨xs,h8,h9⟩:=hr;refine⟨xs,?_,aV hN hw _ _ _ h9⟩;rw[jo hRb];refine dD h8 fun k hk=>hkeep k ?_
    simp only[bY] at hk;cases hnil:R.nil b' with
    |true=>simp[hnil,Value.ownBlock] at hk
    |false=>simp[hnil,Value.ownBlock] at hk;exact⟨hnil,hk⟩
  | kE ver st rows=>
    simp only[eB,jo hRb] at hr ⊢;exact dw hN hw _ _ hr
  | tr y ver rest st=>
    obtain⟨k0,kh,k1,k2,k3,k4⟩:=hr;simp only[eB,hY,hRb.2.1];refine⟨k0,kh,k1,k2.step hworld fun r hr ho=>?_,k3,fun r hn=>?_⟩
    ·rcases k4 r (.inr ⟨b,ho⟩) with hd|hz|hs
     ·exact absurd (g.inj b' b r (by rw[h];exact hd) ho) e
     ·exact hz
     omega
    by_cases hlt:r<w.heap.size
    ·exact k4 r (hN r hlt hn)
    exact .inr (.inr (by have:=k2.size;omega))
  |fP e' ver st j ed sd pre row post=>exact jI hN hw hRb.1 hRb.2.1 hRb.2.2 (fun k hk=>hkeep k hk) rfl (fun vs h=>bI hN hw p1 p2 p3 _ _ h) hr
  | mp kk kv es=>
    obtain⟨cur,clock,h8,h9,h10⟩:=hr;exact⟨cur,clock,by rw[hRb.1,hkeep _ ⟨h9,rfl⟩];exact h8,by rw[hRb.2.1];exact h9,h10⟩
  | dN e' ver st pre row post=>
    obtain⟨xs,h8,h9,h10,h11,h12⟩:=hr;refine⟨xs,?_,aV hN hw _ _ _ h9,h10,bI hN hw p1 p2 p3 _ _ h11,aV hN hw _ _ _ h12⟩;rw[jo hRb];refine dD h8 fun k hk=>hkeep k ?_
    simp only[bY] at hk;cases hnil:R.nil b' with
    |true=>simp[hnil,Value.ownBlock] at hk
    |false=>simp[hnil,Value.ownBlock] at hk;exact⟨hnil,hk⟩
 ·intro b1 b2 r h1 h2;by_cases e1:b1=b
  ·by_cases e2:b2=b
   ·rw[e1,e2]
   subst e1;simp only[uW,sU b2 e2] at h1 h2;have h2':=fU (hR b2 e2) hY h2;have hlt:=g.ko h2';exact g.inj _ _ r ((hown r h1).resolve_right (by omega)) h2'
  by_cases e2:b2=b
  ·subst e2;simp only[uW,sU b1 e1] at h1 h2;have h1':=fU (hR b1 e1) hY h1;have hlt:=g.ko h1';exact g.inj _ _ r h1' ((hown r h2).resolve_right (by omega))
  simp only[sU b1 e1,sU b2 e2] at h1 h2;exact g.inj _ _ r (fU (hR b1 e1) hY h1) (fU (hR b2 e2) hY h2)
 ·intro r h hF;rcases KM r h with h|h
  ·exact g.free r h hF
  have:=c.hF r hF;have:=g.jE.size;omega
 ·refine g.jE.trans hworld fun r hr ho=>?_
  exact (g.iL r ⟨b,ho⟩).resolve_right (by omega)
 intro r h;rcases KM r h with h|h
 ·exact g.iL r h
 exact .inr (Nat.le_trans g.jE.size h)
theorem bB.grow {c:Ctx}{R:Real}{s:AS}{a:Act}{w w':World}(g:bB c R s a w)(h:nI (fun _=>False) w w'):bB c R s a w':=by
 have hk:∀r,r<w.heap.size→w'.heap[r]? = w.heap[r]? :=fun r hr=>h.keep r hr id
 refine⟨?_,g.size,⟨g.lo.1,g.lo.2.1,Nat.le_trans g.lo.2.2 h.size⟩,g.marks.imp fun Ds h'=>h'.kept (fun r hr _=>hk r hr) (fun _ _ x=>x),g.fixed.kept (fun r hr _=>hk r hr) (fun _ _ x=>x),?_,g.inj,g.free,g.jE.trans h fun _ _ x=>x.elim,g.iL,
  fun v x hv=>bZ (fun _ _ x=>x) (fun r hr _=>hk r hr) (fun _ _ _ x=>x) (fun _ _ _ x=>x) (fun _ _ _ _ _ x=>x) v x (g.kept v x hv)⟩
 ·intro t v ht;obtain⟨x,hx,hv⟩:=g.slots t v ht;exact⟨x,hx,bZ (fun _ _ x=>x) (fun r hr _=>hk r hr) (fun _ _ _ x=>x) (fun _ _ _ x=>x) (fun _ _ _ _ _ x=>x) v x hv⟩
 intro b box hb;have hr:=g.boxes b box hb;cases box with
 | var cells=>
   obtain⟨cur,e',h8,h9⟩:=hr;exact⟨cur,e',(hk _ (size_of_getElem? h8)).trans h8,bI (fun _ _ x=>x) (fun r hr _=>hk r hr) (fun _ _ _ x=>x) (fun _ _ _ x=>x) (fun _ _ _ _ _ x=>x) _ _ h9⟩
 | sD cells=>
   obtain⟨cur,e',fr,h8,h7,h9⟩:=hr;exact⟨cur,e',fr,(hk _ (size_of_getElem? h8)).trans h8,h7,bX (fun _ _ x=>x) (fun r hr _=>hk r hr) _ _ h9⟩
 | arr e' ver st rows=>
   obtain⟨xs,h8,h9⟩:=hr;exact⟨xs,dD h8 fun k hk'=>hk k (h8.lt k hk').2,aV (fun _ _ x=>x) (fun r hr _=>hk r hr) _ _ _ h9⟩
 |kE ver st rows=>exact dw (fun _ _ x=>x) (fun r hr _=>hk r hr) _ _ hr
 | tr y ver rest st=>
   obtain⟨k0,kh,k1,k2,k3,k4⟩:=hr;exact⟨k0,kh,k1,k2.step h fun _ _ x=>x.elim,k3,k4⟩
 | fP e' ver st j ed sd pre row post=>
   have hr':=hr;exact jI (fun _ _ x=>x) (fun r hr _=>hk r hr) rfl rfl rfl (fun k hk'=>hk k (AX.ko hr' hk')) rfl (fun vs h=>bI (fun _ _ x=>x) (fun r hr _=>hk r hr) (fun _ _ _ x=>x) (fun _ _ _ x=>x) (fun _ _ _ _ _ x=>x) _ _ h) hr'
 | mp kk kv es=>
   obtain⟨cur,clock,h8,h9,h10⟩:=hr;exact⟨cur,clock,(hk _ (size_of_getElem? h8)).trans h8,h9,h10⟩
 | dN e' ver st pre row post=>
   obtain⟨xs,h8,h9,h10,h11,h12⟩:=hr;exact⟨xs,dD h8 fun k hk'=>hk k (h8.lt k hk').2,aV (fun _ _ x=>x) (fun r hr _=>hk r hr) _ _ _ h9,h10,bI (fun _ _ x=>x) (fun r hr _=>hk r hr) (fun _ _ _ x=>x) (fun _ _ _ x=>x) (fun _ _ _ _ _ x=>x) _ _ h11,aV (fun _ _ x=>x) (fun r hr _=>hk r hr) _ _ _ h12⟩
def AS.put (s:AS)(d:Option Tmp)(v:AV):AS:=
 match d with
 |some d=>{ s with tm:=(d,v)::s.tm }
 |none=>s
theorem bB.put {c:Ctx}{R:Real}{s:AS}{a:Act}{w:World}(g:bB c R s a w)(d:Option Tmp)(hd:∀t,d=some t→t<c.n){v:AV}{x:Value}
  (hv:ai (aT c R s.hp) w s.hp R v x):bB c R (s.put d v) (a.put d x) w:=by
 cases d with
 |none=>exact g
 | some d=>
   have hlt:=hd d rfl;refine⟨?_,?_,g.lo,g.marks,g.fixed,g.boxes,g.inj,g.free,g.jE,g.iL,g.kept⟩
   ·intro t u h;simp only[AS.put,ax] at h;by_cases e:d=t
    ·subst e;simp only[if_true,Option.some.injEq] at h;subst h;refine⟨x,?_,hv⟩;simp only[Act.put];rw[Array.getElem?_setIfInBounds_self_of_lt (by rw[g.size];exact hlt)]
    simp only[if_neg e] at h;obtain⟨y,hy,hr⟩:=g.slots t u h;refine⟨y,?_,hr⟩;simp only[Act.put];rw[Array.getElem?_setIfInBounds_ne e];exact hy
   simp only[Act.put,Array.size_setIfInBounds];exact g.size
section
section cells
variable {α:Type}(R:α→Value→Prop)
def FC:List α→List Value→Prop
 |[],vs=>vs=[]
 |p::ps,vs=>∃v r,vs=v::r∧v.oneCell'=true∧R p v∧FC ps r
def FP:List α→List Value→Prop
 |[],_=>True
 |p::ps,vs=>∃v r,vs=v::r∧v.oneCell'=true∧R p v∧FP ps r
def FL:List α→List Value→Prop
 |[],vs=>vs=[]
 |p::ps,vs=>∃v r,vs=v::r∧R p v∧FL ps r
end cells
theorem gM (N:Nat→Prop)(w:World):∀(ps:List PV) (vs:List Value),iR N w ps vs↔FC (bE N w) ps vs
 |[],vs=>by simp only[iR,FC]
 |p::ps,vs=>by simp only[iR,FC,gM N w ps]
theorem dh (N:Nat→Prop)(w:World):∀(ps:List PV) (vs:List Value),gq N w ps vs↔FP (bE N w) ps vs
 |[],vs=>by simp only[gq,FP]
 |p::ps,vs=>by simp only[gq,FP,dh N w ps]
theorem jf (N:Nat→Prop)(w:World):∀(ps:List PV) (vs:List Value),dX N w ps vs↔FL (bE N w) ps vs
 |[],vs=>by simp only[dX,FL]
 |p::ps,vs=>by simp only[dX,FL,jf N w ps]
theorem bF (N:Nat→Prop)(w:World)(hp:List (Nat×aA))(R:Real):∀(ps:List AV) (vs:List Value),bN N w hp R ps vs↔FC (ai N w hp R) ps vs
 |[],vs=>by simp only[bN,FC]
 |p::ps,vs=>by simp only[bN,FC,bF N w hp R ps]
theorem eO (N:Nat→Prop)(w:World)(hp:List (Nat×aA))(R:Real):∀(ps:List AV) (vs:List Value),bT N w hp R ps vs↔FL (ai N w hp R) ps vs
 |[],vs=>by simp only[bT,FL]
 |p::ps,vs=>by simp only[bT,FL,eO N w hp R ps]
section cells
variable {α β:Type}{R:α→Value→Prop}{S:β→Value→Prop}
theorem FC.length:∀{l:List α} {m:List Value},FC R l m→m.length=l.length
 |[],m,h=>by simp only[FC] at h;simp[h]
 |p::ps,m,h=>by obtain⟨v,r,rfl,_,_,h⟩:=h;simp[h.length]
theorem FL.length:∀{l:List α} {m:List Value},FL R l m→m.length=l.length
 |[],m,h=>by simp only[FL] at h;simp[h]
 |p::ps,m,h=>by obtain⟨v,r,rfl,_,h⟩:=h;simp[h.length]
theorem FP.length:∀{l:List α} {m:List Value},FP R l m→l.length≤m.length
 |[],m,_=>by simp
 |p::ps,m,h=>by obtain⟨v,r,rfl,_,_,h⟩:=h;simp[h.length]
theorem FC.one:∀{l:List α} {m:List Value},FC R l m→∀u∈m,u.oneCell'=true
 |[],m,h=>by simp only[FC] at h;simp[h]
 | p::ps,m,h=>by
   obtain⟨v,r,rfl,h1,_,h⟩:=h;intro u hu;rcases List.mem_cons.1 hu with rfl|hu
   ·exact h1
   exact h.one u hu
theorem FC.fp:∀{l:List α} {m:List Value},FC R l m→FP R l m
 |[],_,_=>trivial
 |p::ps,m,h=>by obtain⟨v,r,rfl,h1,h2,h⟩:=h;exact⟨v,r,rfl,h1,h2,h.fp⟩
theorem FP.app:∀{l:List α} {m:List Value} (m':List Value),FP R l m→FP R l (m++m')
 |[],_,_,_=>trivial
 |p::ps,m,m',h=>by obtain⟨v,r,rfl,h1,h2,h⟩:=h;exact⟨v,r++m',rfl,h1,h2,h.app m'⟩
theorem FP.take:∀{l:List α} {m:List Value},FP R l m→FC R l (m.take l.length)
 |[],m,_=>by simp[FC]
 |p::ps,m,h=>by obtain⟨v,r,rfl,h1,h2,h⟩:=h;exact⟨v,r.take ps.length,by simp,h1,h2,h.take⟩
theorem FC.imp:∀{l:List α} {m:List Value} {R':α→Value→Prop},(∀p v,R p v→R' p v)→FC R l m→FC R' l m
 |[],_,_,_,h=>h
 |p::ps,m,R',hi,h=>by obtain⟨v,r,rfl,h1,h2,h⟩:=h;exact⟨v,r,rfl,h1,hi _ _ h2,h.imp hi⟩
theorem FC.map {f:α→β}(hf:∀p v,R p v→S (f p) v):∀{l:List α} {m:List Value},FC R l m→FC S (l.map f) m
 |[],_,h=>h
 |p::ps,m,h=>by obtain⟨v,r,rfl,h1,h2,h⟩:=h;exact⟨v,r,rfl,h1,hf _ _ h2,FC.map hf h⟩
theorem FL.map {f:α→β}(hf:∀p v,R p v→S (f p) v):∀{l:List α} {m:List Value},FL R l m→FL S (l.map f) m
 |[],_,h=>h
 |p::ps,m,h=>by obtain⟨v,r,rfl,h2,h⟩:=h;exact⟨v,r,rfl,hf _ _ h2,FL.map hf h⟩
theorem FL.app:∀{l l':List α} {m m':List Value},FL R l m→FL R l' m'→FL R (l++l') (m++m')
 |[],_,m,_,h,h'=>by simp only[FL] at h;simpa[h] using h'
 |p::ps,_,m,m',h,h'=>by obtain⟨v,r,rfl,h2,h⟩:=h;exact⟨v,r++m',rfl,h2,h.app h'⟩
theorem FL.get:∀{l:List α} {m:List Value} {i:Nat} {x:α},FL R l m→l[i]? = some x→∃v,m[i]? = some v∧R x v
 |[],_,_,_,_,hx=>by simp at hx
 | p::ps,m,0,x,h,hx=>by
   obtain⟨v,r,rfl,h2,h⟩:=h;simp only[List.getElem?_cons_zero,Option.some.injEq] at hx;subst hx;exact⟨v,rfl,h2⟩
 | p::ps,m,i+1,x,h,hx=>by
   obtain⟨v,r,rfl,h2,h⟩:=h;simp only[List.getElem?_cons_succ] at hx ⊢;exact h.get hx
def j4:Nat→List α→Option (List α)
 |0,_=>some []
 |_+1,[]=>none
 | n+1,a::r=>match j4 n r with
   |some t=>some (a::t)
   |none=>none
def kF:Nat→List α→Option (List α)
 |0,l=>some l
 |_+1,[]=>none
 |n+1,_::r=>kF n r
def part (off n:Nat)(l:List α):Option (List α):=
 match kF off l with
 |some r=>j4 n r
 |none=>none
def j6:List α→List α→Option (List α)
 |l,[]=>some l
 |[],_::_=>none
 | _::r,x::xs=>match j6 r xs with
   |some t=>some (x::t)
   |none=>none
def jU:Nat→List α→List α→Option (List α)
 |0,l,xs=>j6 l xs
 |_+1,[],_=>none
 | n+1,a::r,xs=>match jU n r xs with
   |some t=>some (a::t)
   |none=>none
theorem FP.kF:∀{n:Nat} {l x:List α} {m:List Value},FP R l m→kF n l=some x→n≤m.length∧FP R x (m.drop n)
 |0,l,x,m,h,e=>by simp only[AX.kF,Option.some.injEq] at e;subst e;exact⟨Nat.zero_le _,by simpa using h⟩
 |n+1,[],x,m,h,e=>by simp[AX.kF] at e
 | n+1,p::ps,x,m,h,e=>by
   obtain⟨v,r,rfl,h1,h2,h⟩:=h;simp only[AX.kF] at e;have:=h.kF e;simpa using this
theorem FP.j4:∀{n:Nat} {l x:List α} {m:List Value},FP R l m→j4 n l=some x→n≤m.length∧FC R x (m.take n)
 |0,l,x,m,h,e=>by simp only[AX.j4,Option.some.injEq] at e;subst e;exact⟨Nat.zero_le _,by simp[FC]⟩
 |n+1,[],x,m,h,e=>by simp[AX.j4] at e
 | n+1,p::ps,x,m,h,e=>by
   obtain⟨v,r,rfl,h1,h2,h⟩:=h;simp only[AX.j4] at e;split at e
   ·rename_i t ht;simp only[Option.some.injEq] at e;subst e;have:=h.j4 ht;refine⟨by simpa using this.1,v,r.take n,by simp,h1,h2,this.2⟩
   cases e
theorem FP.part {off n:Nat}{l x:List α}{m:List Value}(h:FP R l m)(e:part off n l=some x):off+n≤m.length∧FC R x ((m.drop off).take n):=by
 simp only[AX.part] at e;split at e
 ·rename_i r hr;obtain⟨h1,h2⟩:=h.kF hr;obtain⟨h3,h4⟩:=h2.j4 e;simp only[List.length_drop] at h3;exact⟨by omega,h4⟩
 cases e
theorem FC.j6:∀{l xs l':List α} {m ys:List Value},FC R l m→FC R xs ys→j6 l xs=some l'→ys.length≤m.length∧FC R l' (ys++m.drop ys.length)
 | l,[],l',m,ys,h,hx,e=>by
   have hy:ys=[]:=by cases l<;>simpa only[FC] using hx
   have e':l=l':=by cases l<;>simpa[AX.j6] using e
   subst hy;subst e';exact⟨by simp,by simpa using h⟩
 |[],x::xs,l',m,ys,h,hx,e=>by simp[AX.j6] at e
 | p::ps,x::xs,l',m,ys,h,hx,e=>by
   obtain⟨v,r,rfl,h1,h2,h⟩:=h;obtain⟨u,s,rfl,g1,g2,hx⟩:=hx;simp only[AX.j6] at e;split at e
   ·rename_i t ht;simp only[Option.some.injEq] at e;subst e;obtain⟨a,b⟩:=FC.j6 h hx ht;exact⟨by simpa using a,u,_,by simp,g1,g2,b⟩
   cases e
theorem FC.jU:∀{off:Nat} {l xs l':List α} {m ys:List Value},FC R l m→FC R xs ys→jU off l xs=some l' →
  off+ys.length≤m.length∧FC R l' (m.take off++ys++m.drop (off+ys.length))
 | 0,l,xs,l',m,ys,h,hx,e=>by
   simp only[AX.jU] at e;have:=FC.j6 h hx e;simpa using this
 |off+1,[],xs,l',m,ys,h,hx,e=>by simp[AX.jU] at e
 | off+1,p::ps,xs,l',m,ys,h,hx,e=>by
   obtain⟨v,r,rfl,h1,h2,h⟩:=h;simp only[AX.jU] at e;split at e
   ·rename_i t ht;simp only[Option.some.injEq] at e;subst e;obtain⟨a,b⟩:=FC.jU h hx ht;rw[show off+1+ys.length=(off+ys.length)+1 from by omega];exact⟨by simp;omega,v,r.take off++ys++r.drop (off+ys.length),by simp,h1,h2,b⟩
   cases e
theorem Ae:∀{l xs l':List α},j6 l xs=some l'→l'.length=l.length
 |l,[],l',e=>by cases l<;>simp[AX.j6] at e<;>simp[←e]
 |[],x::xs,l',e=>by simp[AX.j6] at e
 | p::ps,x::xs,l',e=>by
   simp only[AX.j6] at e;split at e
   ·rename_i t ht;simp only[Option.some.injEq] at e;subst e;simp[Ae ht]
   cases e
theorem Dh:∀{off:Nat} {l xs l':List α},jU off l xs=some l'→l'.length=l.length
 |0,l,xs,l',e=>Ae e
 |off+1,[],xs,l',e=>by simp[AX.jU] at e
 | off+1,p::ps,xs,l',e=>by
   simp only[AX.jU] at e;split at e
   ·rename_i t ht;simp only[Option.some.injEq] at e;subst e;simp[Dh ht]
   cases e
end cells
section rows
variable {N:Nat→Prop}{w:World}{st:Nat}
theorem gD:∀{rows:List (List PV)} {m:List Value},bK N w st rows m →
  rows.length*st≤m.length∧bK N w st rows (m.take (rows.length*st))∧∀u∈m.take (rows.length*st),u.oneCell'=true
 |[],m,_=>by simp[bK]
 | row::rows,m,h=>by
   obtain⟨h1,h2,h3⟩:=h;obtain⟨a,b,d⟩:=gD h3;rw[dh] at h2;have hl:=h2.length;have e:(row::rows).length*st=st+rows.length*st:=by rw[List.length_cons,Nat.add_mul];omega
   rw[e];have hs:m.take (st+rows.length*st)=m.take st++(m.drop st).take (rows.length*st):=by rw[List.take_add]
   have hc:=h2.take;rw[h1] at hc hl;simp only[List.length_drop] at a;have hlen:(m.take st).length=st:=by rw[List.length_take];omega
   refine⟨by omega,?_,?_⟩
   ·rw[hs];refine⟨h1,?_,?_⟩
    ·rw[dh];exact hc.fp.app _
    rw[List.drop_left' hlen];exact b
   rw[hs];intro u hu;rcases List.mem_append.1 hu with hu|hu
   ·exact hc.one u hu
   exact d u hu
theorem jF:∀{rows aP:List (List PV)} {m m':List Value},bK N w st rows m→m.length=rows.length*st→bK N w st aP m' →
  bK N w st (rows++aP) (m++m')
 | [],aP,m,m',_,hl,h'=>by
   have:m=[]:=List.eq_nil_of_length_eq_zero (by simpa using hl);subst this;simpa using h'
 | row::rows,aP,m,m',h,hl,h'=>by
   obtain⟨h1,h2,h3⟩:=h;have e:(row::rows).length*st=st+rows.length*st:=by rw[List.length_cons,Nat.add_mul];omega
   rw[e] at hl;refine⟨h1,?_,?_⟩
   ·rw[dh] at h2 ⊢;exact h2.app _
   rw[List.drop_append_of_le_length (by omega)];exact jF h3 (by simp only[List.length_drop];omega) h'
theorem oN:∀{rows:List (List PV)} {m:List Value} (m':List Value),bK N w st rows m→bK N w st rows (m++m')
 |[],_,_,_=>trivial
 | row::rows,m,m',h=>by
   obtain⟨h1,h2,h3⟩:=h;have hl:st≤m.length:=by rw[dh] at h2;have:=h2.length;omega
   refine⟨h1,by rw[dh] at h2 ⊢;exact h2.app _,?_⟩;rw[List.drop_append_of_le_length hl];exact oN m' h3
theorem rH:∀{rows:List (List PV)} {m:List Value} {i:Nat} {row:List PV},bK N w st rows m→rows[i]? = some row →
  row.length=st∧gq N w row (m.drop (i*st))
 |[],_,_,_,_,hx=>by simp at hx
 | r0::rows,m,0,row,h,hx=>by
   simp only[List.getElem?_cons_zero,Option.some.injEq] at hx;subst hx;exact⟨h.1,by simpa using h.2.1⟩
 | r0::rows,m,i+1,row,h,hx=>by
   simp only[List.getElem?_cons_succ] at hx;obtain⟨a,b⟩:=rH h.2.2 hx;refine⟨a,?_⟩;rw[List.drop_drop] at b;rw[show (i+1)*st=st+i*st from by rw[Nat.add_mul];omega];exact b
theorem mG:∀{rows:List (List PV)} {m:List Value} (i:Nat),bK N w st rows m→bK N w st (rows.drop i) (m.drop (i*st))
 |[],m,i,_=>by simp[bK]
 |r0::rows,m,0,h=>by simpa using h
 | r0::rows,m,i+1,h=>by
   have:=mG i h.2.2;rw[List.drop_drop] at this;rw[show (i+1)*st=st+i*st from by rw[Nat.add_mul];omega];simpa using this
theorem lQ:∀{rows:List (List PV)} {m:List Value} (i:Nat),bK N w st rows m→bK N w st (rows.take i) m
 |[],m,i,_=>by simp[bK]
 |r0::rows,m,0,h=>by simp[bK]
 | r0::rows,m,i+1,h=>by
   obtain⟨h1,h2,h3⟩:=h;exact⟨h1,h2,lQ i h3⟩
theorem Nt:∀{rows:List (List PV)} {m:List Value} {i:Nat} {row:List PV} {ys:List Value},bK N w st rows m→i<rows.length→row.length=st →
  FC (bE N w) row ys→bK N w st (rows.set i row) (m.take (i*st)++ys++m.drop (i*st+ys.length))
 |[],_,_,_,_,_,hi,_,_=>by simp at hi
 | r0::rows,m,0,row,ys,h,_,hl,hy=>by
   obtain⟨h1,h2,h3⟩:=h;have hyl:=hy.length;simp only[Nat.zero_mul,List.take_zero,List.nil_append,Nat.zero_add,List.set_cons_zero];refine⟨hl,by rw[dh];exact hy.fp.app _,?_⟩;rw[List.drop_left' (by omega),hyl,hl];exact h3
 | r0::rows,m,i+1,row,ys,h,hi,hl,hy=>by
   obtain⟨h1,h2,h3⟩:=h;have hst:st≤m.length:=by rw[dh] at h2;have:=h2.length;omega
   have ih:=Nt (i:=i) h3 (by simpa using hi) hl hy;have e:(i+1)*st=st+i*st:=by rw[Nat.add_mul];omega
   have h2':=h2;rw[dh] at h2';have hc:=h2'.take;rw[h1] at hc;have hlen:(m.take st).length=st:=by rw[List.length_take];omega
   rw[e,List.take_add,List.append_assoc,List.append_assoc];refine⟨h1,by rw[dh];exact hc.fp.app _,?_⟩;rw[List.drop_left' hlen,show st+i*st+ys.length=st+(i*st+ys.length) from by omega,←List.drop_drop,←List.append_assoc];exact ih
end rows
inductive DI where
 |str (fs:List (Nat×TypeId))
 |QV (n:Nat) (e:TypeId)
 |slt (e:TypeId)
 |zN (k:IntKind)
 |adx
 |Mw
 |Qg (e:TypeId)
 |mg
 |aeA (k e:TypeId)
 |oth
def di:TypeDesc→DI
 |.struct fs=>.str (fs.toList.map fun f=>(f.offset,f.type))
 |.array n e=>.QV n e
 |.slice e=>.slt e
 |.int k=>.zN k
 |.bool=>.adx
 |.string=>.Mw
 |.pointer e=>.Qg e
 |.func _ _ _=>.mg
 |.map k e=>.aeA k e
 |_=>.oth
inductive EK where
 |int (k:IntKind)
 |bool
 |str
structure TI where
 size:Nat
 bytes:Nat
 zero:List Value
 d:DI
 cmp:Option (List EK)
def tiF (i:TI)(K:Nat→Nat→Prop):Prop:=
 match i with
 |⟨sz,by_,_,_,_⟩=>K sz by_
theorem dH (i:TI)(K:Nat→Nat→Prop):tiF i K=K i.size i.bytes:=rfl
def DI.isAgg:DI→Bool
 |.str _=>true
 |.QV _ _=>true
 |_=>false
def eqV:EK→Value→Value→Option Bool
 | .int i,.int j a,.int k b=>match decide (i=j),decide (i=k) with
   |true,true=>some (a==b)
   |_,_=>none
 |.bool,.bool a,.bool b=>some (a==b)
 |.str,.string a,.string b=>some (a.toList==b.toList)
 |_,_,_=>none
def lK:List EK→List Value→List Value→Option Bool
 |[],[],[]=>some true
 | k::ks,x::xs,y::ys=>match eqV k x y with
   | some a=>match ks with
     | []=>match xs,ys with
       |[],[]=>some a
       |_,_=>none
     | _=>match lK ks xs ys with
       |some b=>some (a&&b)
       |none=>none
   |none=>none
 |_,_,_=>none
def agM (P:Program)(t:TypeId)(ks:List EK):Prop:=∀(w:World) (xs ys:Array Value) (b:Bool),lK ks xs.toList ys.toList=some b →
 (Op.equal t (.agg xs) (.agg ys)).run P w=.ok b w
structure cu (P:Program)(t:TypeId)(i:TI):Prop where
 info:(P.info? t).map (fun x=>(x.size,x.bytes,x.zero.map (·.cells.toList)))=some (i.size,i.bytes,some i.zero)
 desc:(P.underlying t).map di=some i.d
 Xa:i.zero.length=i.size
 Uu:i.zero.all (·.oneCell')=true
 agg:i.d.isAgg=false→i.size=1
 ajj:i.d.isAgg=(((P.info? t).bind (·.zero)).map (fun z=>z matches .agg _)).getD false
 cmp:∀ks,i.cmp=some ks→agM P t ks∧P.eqGuardType P.depth t=false
def bO (P:Program)(T:List (Nat×TI)):Prop:=∀t i,lk T t=some i→cu P t i
section table
variable {P:Program}{t:TypeId}{i:TI}
theorem cu.Eu (h:cu P t i):∃x z,P.info? t=some x∧x.size=i.size∧x.bytes=i.bytes∧x.zero=some z∧z.cells.toList=i.zero:=by
 have:=h.info;cases hx:P.info? t with
 |none=>rw[hx] at this;cases this
 | some x=>
   rw[hx] at this;simp only[Option.map_some,Option.some.injEq,Prod.mk.injEq] at this;obtain⟨a,b,c⟩:=this;cases hz:x.zero with
   |none=>rw[hz] at c;cases c
   | some z=>
     rw[hz] at c;simp only[Option.map_some,Option.some.injEq] at c;exact⟨x,z,rfl,a,b,hz,c⟩
theorem cu.iM (h:cu P t i):∃d,P.underlying t=some d∧di d=i.d:=by
 have:=h.desc;cases hx:P.underlying t with
 |none=>rw[hx] at this;cases this
 |some d=>rw[hx] at this;simp only[Option.map_some,Option.some.injEq] at this;exact⟨d,rfl,this⟩
theorem cu.run_sizeOf (h:cu P t i)(w:World):(sizeOf t).run P w=.ok i.size w:=by
 obtain⟨x,z,h1,h2,_⟩:=h.Eu;simp[sizeOf,typeInfo,h1,h2]
theorem cu.rJ (h:cu P t i)(w:World):(isAgg t).run P w=.ok i.d.isAgg w:=by
 obtain⟨d,h1,h2⟩:=h.iM;rw[←h2];simp only[isAgg,Sem.run_bind,run_underlying h1,Result.andThen_ok];cases d<;>simp[di,DI.isAgg]
theorem cu.q8 (h:cu P t i)(w:World):∃z,(zeroValue t).run P w=.ok z w∧z.cells.toList=i.zero∧(i.d.isAgg=(z matches .agg _)):=by
 obtain⟨x,z,h1,h2,h3,h4,h5⟩:=h.Eu;refine⟨z,by simp[zeroValue,typeInfo,h1,h4],h5,?_⟩;have:=h.ajj;simpa[h1,h4] using this
end table
section runs
variable {P:Program}{w:World}
theorem addr_add (g o n:Nat):(⟨g,o,none⟩:Addr).add n=⟨g,o+n,none⟩:=by
 unfold Addr.add;split
 ·rename_i h;simp[h]
 rfl
theorem zI {g j:Nat}{cur:Array Value}{e:TypeId}{fr:Nat×Nat}(hg:w.heap[g]? = some (.cells cur e fr)):w.cell? ⟨g,j,none⟩=cur[j]? :=
 cell_of_row w g j cur e fr hg
theorem Nu {g j:Nat}{cur:Array Value}{e:TypeId}{fr:Nat×Nat}(hg:w.heap[g]? = some (.cells cur e fr)){v:Value}(hv:cur[j]? = some v) :
  (load ⟨g,j,none⟩).run P w=.ok v w:=by
 rw[run_load,zI hg,hv]
theorem rM {g off n:Nat}{cur:Array Value}{e:TypeId}{fr:Nat×Nat}(hg:w.heap[g]? = some (.cells cur e fr))(hl:off+n≤cur.size) :
  (loadCells ⟨g,off,none⟩ n).run P w=.ok ((cur.toList.drop off).take n).toArray w:=by
 have hlen:((cur.toList.drop off).take n).length=n:=by simp;omega
 have:=run_loadCells_list (P:=P) (w:=w) ⟨g,off,none⟩ ((cur.toList.drop off).take n) (fun j v h=>by
  rw[addr_add,zI hg];rw[List.getElem?_take] at h;split at h
  ·rw[List.getElem?_drop] at h;simpa using h
  cases h)
 rw[hlen] at this;exact this
theorem lW {t:TypeId}{i:TI}(hi:cu P t i){g off:Nat}{cur:Array Value}{e:TypeId}{fr:Nat×Nat}(hg:w.heap[g]? = some (.cells cur e fr))
  (hl:off+i.size≤cur.size) :
  (loadVar t ⟨g,off,none⟩).run P w=.ok (if i.d.isAgg then .agg ((cur.toList.drop off).take i.size).toArray else cur[off]!) w:=by
 cases ha:i.d.isAgg with
 | true=>
   simp only[loadVar,Sem.run_bind,hi.rJ,Result.andThen_ok,ha,if_true,hi.run_sizeOf,rM hg hl,Sem.run_pure]
 | false=>
   have h1:=hi.agg ha;have hv:cur[off]? = some cur[off]! :=by
    rw[getElem!_pos cur off (by omega)];exact Array.getElem?_eq_getElem (by omega)
   simp only[loadVar,Sem.run_bind,hi.rJ,Result.andThen_ok,ha,Bool.false_eq_true,if_false,Nu hg hv]
theorem uG {t:TypeId}{i:TI}(hi:cu P t i){g off:Nat}{cur:Array Value}{e:TypeId}{v:Value}(hg:w.heap[g]? = some (.cells cur e (0,0)))
  (hs:v.cells.size=i.size) (hl:off+i.size≤cur.size) (h1:∀u∈v.cells.toList,u.oneCell'=true) :
  (storeVar t ⟨g,off,none⟩ v).run P w=.ok () (w.setRow g (cur.toList.take off++v.cells.toList++cur.toList.drop (off+v.cells.toList.length)).toArray):=by
 have:=run_storeCells_at P g off e v.cells.toList 0 cur w hg (by simp;omega) h1;simp only[Nat.add_zero] at this;simp[storeVar,hi.run_sizeOf,hs,this]
end runs
end
section
def Same (w w':World):Prop:=nI (fun _=>False) w w'
def Enters (P:Program)(f:FuncId):Prop:=∃fn,P.funcs[f]? = some fn∧fn.body.isSome=true∧(fn.name == "runtime.NumGoroutine")=false
def PC (P:Program)(f:FuncId)(args:List PV)(Q:PV→Prop):Prop:=
 Enters P f∧∀(F:Nat→Prop) (w:World) (dm:Array Value),(∀r,F r→r<w.heap.size)→dX F w args dm.toList →
  Calls P f dm w fun e w'=>∃v r,e=.returned v∧Q r∧bE F w' r v∧Same w w'
def bC (P:Program)(f:FuncId)(args:List PV)(r:PV):Prop:=PC P f args (fun x=>x=r)
abbrev Tab:=List (Nat×TI)
def cellP:PV→Bool
 |.sc v=>v.oneCell'
 |.sl _ _ _=>true
 |.bJ _ _=>true
 |.fn _ _ _=>true
 |_=>false
def adB:AV→Bool
 |.pv p=>cellP p
 |.ptr _ _=>true
 |.bn _ _ _ _=>true
 |.aB _ _=>true
 |.sub _ _ _ _ _=>true
 |.fn _ _ _=>true
 |_=>false
def Nw:List PV→Option (List AV)
 |[]=>some []
 | p::r=>match Nw r with
   |some t=>some (.pv p::t)
   |none=>none
def zPV:List Value→Option (List PV)
 |[]=>some []
 | v::r=>match zPV r with
   |some t=>some (.sc v::t)
   |none=>none
def zAV:List Value→Option (List AV)
 |[]=>some []
 | v::r=>match zAV r with
   |some t=>some (.pv (.sc v)::t)
   |none=>none
def je:List AV→Option (List PV)
 |[]=>some []
 | .pv p::r=>match je r with
   |some ps=>some (p::ps)
   |none=>none
 |_::_=>none
def zM (cs:List AV):Option AV:=
 match je cs with
 |some ps=>some (.pv (.agg ps))
 |none=>some (.agg cs)
def cellsOf (i:TI)(v:AV):Option (List AV):=
 match i.d.isAgg with
 | true=>match v with
   |.pv (.agg cs)=>Nw cs
   |.agg cs=>some cs
   |_=>none
 | false=>match adB v with
   |true=>some [v]
   |false=>none
def lS (i:TI)(p:PV):Option (List PV):=
 match i.d.isAgg with
 | true=>match p with
   |.agg cs=>some cs
   |_=>none
 | false=>match cellP p with
   |true=>some [p]
   |false=>none
def uM (o:Option aA)(ver:Nat):Option PV:=
 match o with
 | some (.arr _ v st rows)=>match Nat.beq ver v with
   |true=>some (.sl false st rows)
   |false=>none
 | some (.kE v st rows)=>match Nat.beq ver v with
   |true=>some (.sl false st rows)
   |false=>none
 |_=>none
def Tn (o:Option aA)(off:Nat):Option PV:=
 match o with
 | some (.var cells)=>match je cells with
   |some ps=>some (.bJ ps off)
   |none=>none
 |some (.sD cells)=>some (.bJ cells off)
 |_=>none
def Kl (rows:List (List PV))(lo hi:Nat):List (List PV):=(rows.drop lo).take (hi-lo)
def adC (o:Option PV)(st lo hi:Nat):Option PV:=
 match o with
 | some (.sl _ st' rows)=>match Nat.beq st st' with
   |true=>some (.sl false st' (Kl rows lo hi))
   |false=>none
 |_=>none
mutual
def vw (H:List (Nat×aA)):AV→Option PV
 |.pv p=>some p
 |.aB b ver=>uM (lk H b) ver
 |.sub b ver st lo hi=>adC (uM (lk H b) ver) st lo hi
 |.ptr b off=>Tn (lk H b) off
 | .agg cs=>match I6 H cs with
   |some ps=>some (.agg ps)
   |none=>none
 | .dn cs=>match I6 H cs with
   |some ps=>some (.dn ps)
   |none=>none
 | .fn f a c=>match I6 H a,I6 H c with
   |some x,some y=>some (.fn f x y)
   |_,_=>none
 |.bn _ _ _ _=>none
def I6 (H:List (Nat×aA)):List AV→Option (List PV)
 |[]=>some []
 | v::r=>match vw H v with
   | some p=>match I6 H r with
     |some t=>some (p::t)
     |none=>none
   |none=>none
end
mutual
def refs:AV→List Nat
 |.pv _=>[]
 |.aB b _=>[b]
 |.sub b _ _ _ _=>[b]
 |.ptr b _=>[b]
 |.bn b _ _ _=>[b]
 |.agg cs=>dY cs
 |.dn cs=>dY cs
 |.fn _ a c=>dY a++dY c
def dY:List AV→List Nat
 |[]=>[]
 |v::r=>refs v++dY r
end
def Km (H:List (Nat×aA)):List Nat→Option (List (Nat×aA))
 |[]=>some []
 | b::r=>match Km H r with
   | some t=>match lk t b with
     |some _=>some t
     | none=>match lk H b with
       |some (.arr _ v st rows)=>some ((b,.kE v st rows)::t)
       | some (.var cells)=>match je cells with
         |some ps=>some ((b,.sD ps)::t)
         |none=>none
       |some (.kE _ _ _)=>some t
       |some (.sD _)=>some t
       |some (.tr _ _ _ _)=>none
       |some (.dN _ _ _ _ _ _)=>none
       |some (.mp _ _ _)=>none
       |some (.fP _ _ _ _ _ _ _ _ _)=>none
       |none=>none
   |none=>none
mutual
def DT:PV→Bool
 |.sc _=>true
 |.junk=>true
 |.agg cs=>EG cs
 |.dn cs=>EG cs
 |_=>false
def EG:List PV→Bool
 |[]=>true
 | p::r=>match DT p with
   |true=>EG r
   |false=>false
end
def KS:List EK→List PV→List PV→Option Bool
 |[],[],[]=>some true
 | k::ks,.sc x::xs,.sc y::ys=>match eqV k x y with
   | some a=>match ks with
     | []=>match xs,ys with
       |[],[]=>some a
       |_,_=>none
     | _=>match KS ks xs ys with
       |some b=>some (a&&b)
       |none=>none
   |none=>none
 |_,_,_=>none
def UD (op:BinOp)(k:IntKind)(a b:Int)(K:AV→Prop):Prop:=
 match op with
 |.add=>K (.pv (.sc (.int k (k.wrap (a+b)))))
 |.sub=>K (.pv (.sc (.int k (k.wrap (a-b)))))
 |.mul=>K (.pv (.sc (.int k (k.wrap (a*b)))))
 |.quo=>b≠0∧K (.pv (.sc (.int k (k.wrap (a.tdiv b)))))
 |.rem=>b≠0∧K (.pv (.sc (.int k (a.tmod b))))
 |.and=>K (.pv (.sc (.int k (k.wrap (BitVec.toNat (BitVec.ofInt k.bits a &&& BitVec.ofInt k.bits b))))))
 |.or=>K (.pv (.sc (.int k (k.wrap (BitVec.toNat (BitVec.ofInt k.bits a ||| BitVec.ofInt k.bits b))))))
 |.xor=>K (.pv (.sc (.int k (k.wrap (BitVec.toNat (BitVec.ofInt k.bits a ^^^ BitVec.ofInt k.bits b))))))
 |.andNot=>K (.pv (.sc (.int k (k.wrap (BitVec.toNat (BitVec.ofInt k.bits a &&& ~~~ (BitVec.ofInt k.bits b)))))))
 |.eql=>K (.pv (.sc (.bool (a==b))))
 |.neq=>K (.pv (.sc (.bool (a != b))))
 |.lss=>K (.pv (.sc (.bool (decide (a<b)))))
 |.leq=>K (.pv (.sc (.bool (decide (a≤b)))))
 |.gtr=>K (.pv (.sc (.bool (decide (a>b)))))
 |.geq=>K (.pv (.sc (.bool (decide (a≥b)))))
 |_=>False
def KT:BinOp→Bool
 |.shl=>true
 |.shr=>true
 |_=>false
def BG (op:BinOp)(k:IntKind)(a b:Int)(K:AV→Prop):Prop:=
 match op with
 |.shl=>0≤b∧K (.pv (.sc (.int k (k.wrap (a*2 ^ (min b.toNat k.bits))))))
 |.shr=>0≤b∧K (.pv (.sc (.int k (a.fdiv (2 ^ (min b.toNat k.bits))))))
 |_=>False
def XB (op:BinOp)(a b:ByteArray)(K:AV→Prop):Prop:=
 match op with
 |.eql=>K (.pv (.sc (.bool (a.toList==b.toList))))
 |.neq=>K (.pv (.sc (.bool (!(a.toList==b.toList)))))
 |.add=>a.size+b.size≤9223372036854775807∧K (.pv (.sc (.string (a++b))))
 |.lss=>K (.pv (.sc (.bool (Op.bytesLess a.toList b.toList))))
 |.leq=>K (.pv (.sc (.bool (Op.bytesLess a.toList b.toList||a.toList==b.toList))))
 |.gtr=>K (.pv (.sc (.bool (!(Op.bytesLess a.toList b.toList||a.toList==b.toList)))))
 |.geq=>K (.pv (.sc (.bool (!(Op.bytesLess a.toList b.toList)))))
 |_=>False
def SI (op:BinOp)(b:Bool)(K:AV→Prop):Prop:=
 match op with
 |.eql=>K (.pv (.sc (.bool b)))
 |.neq=>K (.pv (.sc (.bool (!b))))
 |_=>False
def MP:AV→Bool
 |.ptr _ _=>true
 |.pv (.bJ _ _)=>true
 |_=>false
def aa4:AV→Bool
 |.fn _ _ _=>true
 |.pv (.fn _ _ _)=>true
 |_=>false
def Qx (i:TI)(op:BinOp)(x y:AV)(K:AV→Prop):Prop:=
 match i.d with
 | .adx=>match x,y with
   |.pv (.sc (.bool a)),.pv (.sc (.bool b))=>SI op (a==b) K
   |_,_=>False
 | .str _=>match x,y with
   | .pv (.agg xs),.pv (.agg ys)=>match i.cmp with
     | some ks=>match KS ks xs ys with
       |some b=>SI op b K
       |none=>False
     |none=>False
   |_,_=>False
 | .Qg _=>match x,y with
   |.pv (.sc (.pointer none)),.pv (.sc (.pointer none))=>SI op true K
   | x,.pv (.sc (.pointer none))=>match MP x with
     |true=>SI op false K
     |false=>False
   |_,_=>False
 | .slt _=>match x,y with
   |.pv (.sc (.slice none _ _)),.pv (.sc (.slice none _ _))=>SI op true K
   |.pv (.sl true _ _),.pv (.sc (.slice none _ _))=>SI op false K
   |_,_=>False
 | .mg=>match x,y with
   |.pv (.sc .nilFunc),.pv (.sc .nilFunc)=>SI op true K
   | x,.pv (.sc .nilFunc)=>match aa4 x with
     |true=>SI op false K
     |false=>False
   |_,_=>False
 |_=>False
def Hy (T:Tab)(op:BinOp)(t:TypeId)(x y:AV)(K:AV→Prop):Prop:=
 match x,y with
 | .pv (.sc (.int k a)),.pv (.sc (.int j b))=>match KT op with
   |true=>BG op k a b K
   | false=>match decide (k=j) with
     |true=>UD op k a b K
     |false=>False
 |.pv (.sc (.string a)),.pv (.sc (.string b))=>XB op a b K
 | x,y=>match lk T t with
   |some i=>Qx i op x y K
   |none=>False
theorem JA {N:Nat→Prop}{w:World}:∀{ks:List EK} {xs ys:List PV} {us vs:List Value} {b:Bool},FC (bE N w) xs us→FC (bE N w) ys vs→KS ks xs ys=some b→lK ks us vs=some b
 | [],[],[],us,vs,b,h1,h2,e=>by
   simp only[FC] at h1 h2;subst h1;subst h2;simpa[KS,lK] using e
 |[],[],y::ys,us,vs,b,h1,h2,e=>by simp[KS] at e
 |[],x::xs,ys,us,vs,b,h1,h2,e=>by simp[KS] at e
 |k::ks,[],ys,us,vs,b,h1,h2,e=>by simp[KS] at e
 |k::ks,x::xs,[],us,vs,b,h1,h2,e=>by cases x<;>simp[KS] at e
 | k::ks,x::xs,y::ys,us,vs,b,h1,h2,e=>by
   obtain⟨u,us,rfl,_,hu,h1⟩:=h1;obtain⟨v,vs,rfl,_,hv,h2⟩:=h2;cases x<;>cases y<;>simp only[KS] at e<;>try (cases e;done)
   simp only[bE] at hu hv;subst hu;subst hv;split at e
   ·rename_i a ha;split at e
    ·split at e
     ·simp only[FC] at h1 h2;subst h1;subst h2;simp only[lK,ha];exact e
     cases e
    rename_i hne;split at e
    ·rename_i b' hb;have:=JA h1 h2 hb;cases ks with
     |nil=>exact (hne rfl).elim
     |cons k2 ks=>simp only[lK,ha,this];exact e
    cases e
   cases e
section Ya
variable {P:Program}{T:Tab}{N:Nat→Prop}{w:World}{hp:List (Nat×aA)}{R:Real}
theorem JB {op:BinOp}{b:Bool}{K:AV→Prop}(h:SI op b K){t:TypeId}{x y:Value}(hx:(Op.equal t x y).run P w=.ok b w)
  (h1:(op=.eql→binOp op t x y=(do pure (.bool (←Op.equal t x y))))∧(op=.neq→binOp op t x y=(do pure (.bool (!(←Op.equal t x y)))))) :
  ∃v,(binOp op t x y).run P w=.ok v w∧∃p,K (.pv p)∧bE N w p v:=by
 cases op<;>simp only[SI] at h
 ·refine⟨.bool b,?_,_,h,by simp[bE]⟩;rw[h1.1 rfl];simp[hx]
 refine⟨.bool (!b),?_,_,h,by simp[bE]⟩;rw[h1.2 rfl];simp[hx]
theorem zS {b:AV}(h:MP b=true){v:Value}(hv:ai N w hp R b v):∃a,v=.pointer (some a):=by
 cases b with
 | ptr b off=>
   simp only[ai] at hv;cases hb:lk hp b with
   |none=>rw[hb] at hv;exact hv.elim
   |some box=>rw[hb] at hv;cases box<;>simp only[aX] at hv<;>exact⟨_,hv⟩
 | pv p=>
   cases p<;>simp[MP] at h
   simp only[ai,bE] at hv;obtain⟨g,base,cur,e,fr,h1,_⟩:=hv;exact⟨_,h1⟩
 |_=>simp[MP] at h
theorem aa5 {b:AV}(h:aa4 b=true){v:Value}(hv:ai N w hp R b v):∃f a c,v=.func f a c:=by
 cases b with
 | fn f a c=>
   simp only[ai] at hv;obtain⟨fs,cs,h1,_⟩:=hv;exact⟨_,_,_,h1⟩
 | pv p=>
   cases p<;>simp[aa4] at h
   simp only[ai,bE] at hv;obtain⟨fs,cs,h1,_⟩:=hv;exact⟨_,_,_,h1⟩
 |_=>simp[aa4] at h
theorem iB (op:BinOp)(t:TypeId)(x y:Operand)(u v:Value)(h:(∀a b,u=.agg a→v=.agg b→False)∧(u=.nilIface→v=.nilIface→False)) :
  (eqGuard op t x y u v).run P w=.ok () w:=by
 obtain⟨h1,h2⟩:=h;unfold eqGuard;cases op<;>simp<;>(split<;>first|rfl|(exfalso;first|exact h2 rfl rfl|exact h1 _ _ rfl rfl))
theorem run_eqGuard_agg (op:BinOp)(t:TypeId)(x y:Operand)(a b:Array Value)(h:P.eqGuardType P.depth t=false) :
  (eqGuard op t x y (.agg a) (.agg b)).run P w=.ok () w:=by
 unfold eqGuard;cases op<;>simp[h]
theorem Tp {m:Sem Value}{r:Value}{K:AV→Prop}(h:K (.pv (.sc r)))(hr:m.run P w=.ok r w) :
  ∃r,m.run P w=.ok r w∧∃p,K (.pv p)∧bE N w p r:=⟨r,hr,_,h,by simp only[bE]⟩
theorem QW {op:BinOp}{k:IntKind}{a b:Int}{K:AV→Prop}(h:UD op k a b K)(t:TypeId)(hs:op ≠ .shl∧op ≠ .shr) :
  ∃r,(binOp op t (.int k a) (.int k b)).run P w=.ok r w∧∃p,K (.pv p)∧bE N w p r:=by
 obtain⟨s1,s2⟩:=hs;cases op<;>simp only[UD] at h<;>try (exact h.elim)
 all_goals first
  |exact absurd rfl s1
  |exact absurd rfl s2
  | (obtain⟨hb,h⟩:=h
     exact Tp h (by simp[binOp,Op.intDiv,hb]))
  |exact Tp h (by simp[binOp,Op.intArith,Op.intCmp,Op.intBits])
theorem QX {op:BinOp}{a b:ByteArray}{K:AV→Prop}(h:XB op a b K)(t:TypeId) :
  ∃r,(binOp op t (.string a) (.string b)).run P w=.ok r w∧∃p,K (.pv p)∧bE N w p r:=by
 cases op<;>simp only[XB] at h<;>try (exact h.elim)
 all_goals first
  | (obtain⟨hb,h⟩:=h
     refine Tp h ?_;have:¬((a.size+b.size:Nat):Int)>IntKind.i64.max:=by
      have e:IntKind.i64.max=9223372036854775807:=by decide
      rw[e];omega
     simp only[binOp,Op.stringOp];rw[if_neg this];simp)
  |exact Tp h (by simp[binOp,Op.stringOp])
theorem fin {op:BinOp}{b:Bool}{K:AV→Prop}(h:SI op b K){t:TypeId}{x y:Value}{xo yo:Operand}(hx:(Op.equal t x y).run P w=.ok b w)
  (h1:(op=.eql→binOp op t x y=(do pure (.bool (←Op.equal t x y))))∧(op=.neq→binOp op t x y=(do pure (.bool (!(←Op.equal t x y))))))
  (hg:(∀a b,x=.agg a→y=.agg b→False)∧(x=.nilIface→y=.nilIface→False)) :
  ∃r,(do eqGuard op t xo yo x y;binOp op t x y:Sem Value).run P w=.ok r w∧∃p,K (.pv p)∧bE N w p r:=by
 obtain⟨r,h3,h4⟩:=JB (N:=N) h hx h1;exact⟨r,by rw[Sem.run_bind,iB _ _ _ _ _ _ hg];exact h3,h4⟩
theorem aeF (d:Nat){t el:TypeId}(h:P.underlying t=some (.pointer el)):(Op.equalIn (d+1) t (.pointer none) (.pointer none)).run P w=.ok true w:=by
 simp[Op.equalIn,run_underlying h]
theorem adj (d:Nat){t el:TypeId}(a:Addr)(h:P.underlying t=some (.pointer el)):(Op.equalIn (d+1) t (.pointer (some a)) (.pointer none)).run P w=.ok false w:=by
 simp[Op.equalIn,run_underlying h]
theorem aeG (d:Nat){t el:TypeId}(a b c e:Nat)(h:P.underlying t=some (.slice el)):(Op.equalIn (d+1) t (.slice none a b) (.slice none c e)).run P w=.ok true w:=by
 simp[Op.equalIn,run_underlying h]
theorem ag0 (d:Nat){t el:TypeId}(x:Addr)(a b c e:Nat)(h:P.underlying t=some (.slice el)):(Op.equalIn (d+1) t (.slice (some x) a b) (.slice none c e)).run P w=.ok false w:=by
 simp[Op.equalIn,run_underlying h]
theorem aeH (d:Nat){t:TypeId}{a b:Array TypeId}{c:Bool}(h:P.underlying t=some (.func a b c)):(Op.equalIn (d+1) t .nilFunc .nilFunc).run P w=.ok true w:=by
 simp[Op.equalIn,run_underlying h]
theorem ag1 (d:Nat){t:TypeId}{a b:Array TypeId}{c:Bool}(f:Fn)(x y:Array Value)(h:P.underlying t=some (.func a b c)):(Op.equalIn (d+1) t (.func f x y) .nilFunc).run P w=.ok false w:=by
 simp[Op.equalIn,run_underlying h]
theorem QY (i:TI){t:TypeId}(hi:cu P t i){op:BinOp}{x y:AV}{K:AV→Prop}(h:Qx i op x y K){u v:Value}
  (hx:ai N w hp R x u) (hy:ai N w hp R y v) (xo yo:Operand) :
  ∃r,(do eqGuard op t xo yo u v;binOp op t u v:Sem Value).run P w=.ok r w∧∃p,K (.pv p)∧bE N w p r:=by
 obtain⟨d,hd,iE⟩:=hi.iM;unfold Qx at h;split at h
 ·-- bool
  rename_i e;split at h;rotate_left;cases h
  simp only[ai,bE] at hx hy;subst hx;subst hy;have hd':P.underlying t=some .bool:=by
   rw[e] at iE;cases d<;>simp[di] at iE
   exact hd
  exact fin h (run_equalIn_bool w 9999 t _ _ hd') ⟨fun e=>by subst e;rfl,fun e=>by subst e;rfl⟩ ⟨fun _ _ ha _=>(by cases ha),fun ha _=>(by cases ha)⟩
 ·-- struct
  rename_i fs e;split at h;rotate_left;cases h
  rename_i x' y' xs ys;split at h;rotate_left;cases h
  rename_i ks hc;split at h;rotate_left;cases h
  rename_i b hb;simp only[ai,bE] at hx hy;obtain⟨us,rfl,hx⟩:=hx;obtain⟨vs,rfl,hy⟩:=hy;rw[gM] at hx hy;obtain⟨ho,hg⟩:=hi.cmp ks hc;have hr:=ho w us vs b (JA hx hy hb);obtain⟨r,h3,h4⟩:=JB (N:=N) h hr ⟨fun e=>by subst e;rfl,fun e=>by subst e;rfl⟩;exact⟨r,by rw[Sem.run_bind,run_eqGuard_agg _ _ _ _ _ _ hg];exact h3,h4⟩
 ·-- pointer
  rename_i el e;have hd':P.underlying t=some (.pointer el):=by
   rw[e] at iE;cases d<;>simp[di] at iE
   subst iE;exact hd
  split at h
  ·simp only[ai,bE] at hx hy;subst hx;subst hy;exact fin h (aeF 9999 hd') ⟨fun e=>by subst e;rfl,fun e=>by subst e;rfl⟩ ⟨fun _ _ ha _=>(by cases ha),fun ha _=>(by cases ha)⟩
  ·split at h
   ·rename_i hp';obtain⟨a,rfl⟩:=zS hp' hx;simp only[ai,bE] at hy;subst hy;exact fin h (adj 9999 a hd') ⟨fun e=>by subst e;rfl,fun e=>by subst e;rfl⟩ ⟨fun _ _ ha _=>(by cases ha),fun ha _=>(by cases ha)⟩
   exact h.elim
  exact h.elim
 ·-- slice
  rename_i el e;have hd':P.underlying t=some (.slice el):=by
   rw[e] at iE;cases d<;>simp[di] at iE
   subst iE;exact hd
  split at h
  ·simp only[ai,bE] at hx hy;subst hx;subst hy;exact fin h (aeG 9999 _ _ _ _ hd') ⟨fun e=>by subst e;rfl,fun e=>by subst e;rfl⟩ ⟨fun _ _ ha _=>(by cases ha),fun ha _=>(by cases ha)⟩
  ·simp only[ai,bE] at hx hy;subst hy;obtain⟨p,len,cap,rfl,_,_,hp',_⟩:=hx;cases p with
   |none=>exact absurd (hp' rfl).1 (by simp)
   | some a=>
     exact fin h (ag0 9999 a _ _ _ _ hd') ⟨fun e=>by subst e;rfl,fun e=>by subst e;rfl⟩ ⟨fun _ _ ha _=>(by cases ha),fun ha _=>(by cases ha)⟩
  exact h.elim
 ·-- func
  rename_i e;have hd':∃a b c,P.underlying t=some (.func a b c):=by
   rw[e] at iE;cases d<;>simp[di] at iE
   exact⟨_,_,_,hd⟩
  obtain⟨fa,fb,fc,hd'⟩:=hd';split at h
  ·simp only[ai,bE] at hx hy;subst hx;subst hy;exact fin h (aeH 9999 hd') ⟨fun e=>by subst e;rfl,fun e=>by subst e;rfl⟩ ⟨fun _ _ ha _=>(by cases ha),fun ha _=>(by cases ha)⟩
  ·split at h
   ·rename_i hp';obtain⟨f,a,b,rfl⟩:=aa5 hp' hx;simp only[ai,bE] at hy;subst hy;exact fin h (ag1 9999 f a b hd') ⟨fun e=>by subst e;rfl,fun e=>by subst e;rfl⟩ ⟨fun _ _ ha _=>(by cases ha),fun ha _=>(by cases ha)⟩
   exact h.elim
  exact h.elim
 exact h.elim
theorem Qi (hT:bO P T){t:TypeId}{op:BinOp}{x y:AV}{K:AV→Prop}(h:Hy T op t x y K){u v:Value}
  (hx:ai N w hp R x u) (hy:ai N w hp R y v) (xo yo:Operand) :
  ∃r,(do eqGuard op t xo yo u v;binOp op t u v:Sem Value).run P w=.ok r w∧∃p,K (.pv p)∧bE N w p r:=by
 unfold Hy at h;split at h
 ·rename_i k a j b;simp only[ai,bE] at hx hy;subst hx;subst hy;split at h
  ·unfold BG at h;split at h
   ·obtain⟨h0,h⟩:=h;refine⟨_,by rw[Sem.run_bind,iB _ _ _ _ _ _ ⟨fun _ _ ha _=>(by cases ha),fun ha _=>(by cases ha)⟩];simp only[Result.andThen_ok,binOp,Op.shift];rw[if_neg (by omega)];rfl,_,h,by simp only[bE]⟩
   ·obtain⟨h0,h⟩:=h;refine⟨_,by rw[Sem.run_bind,iB _ _ _ _ _ _ ⟨fun _ _ ha _=>(by cases ha),fun ha _=>(by cases ha)⟩];simp only[Result.andThen_ok,binOp,Op.shift];rw[if_neg (by omega)];rfl,_,h,by simp only[bE]⟩
   exact h.elim
  rename_i hsh;split at h;rotate_left;cases h
  rename_i hk;have hk:=of_decide_eq_true hk;subst hk;have key:op ≠ .shl∧op ≠ .shr∧UD op k a b K:=⟨by rintro rfl;simp[KT] at hsh,by rintro rfl;simp[KT] at hsh,h⟩;obtain⟨r,h1,h2⟩:=QW (P:=P) (N:=N) (w:=w) key.2.2 t ⟨key.1,key.2.1⟩;exact⟨r,by rw[Sem.run_bind,iB _ _ _ _ _ _ ⟨fun _ _ ha _=>(by cases ha),fun ha _=>(by cases ha)⟩];exact h1,h2⟩
 ·simp only[ai,bE] at hx hy;subst hx;subst hy;obtain⟨r,h1,h2⟩:=QX (P:=P) (N:=N) (w:=w) h t;exact⟨r,by rw[Sem.run_bind,iB _ _ _ _ _ _ ⟨fun _ _ ha _=>(by cases ha),fun ha _=>(by cases ha)⟩];exact h1,h2⟩
 split at h
 ·rename_i i hi;exact QY i (hT t i hi) h hx hy xo yo
 exact h.elim
end Ya
end
def kG:Op→List Operand
 |.move x=>[x]
 |.assign x=>[x]
 |.pick c a b=>[c,a,b]
 |.alloc _=>[]
 |.box _ v=>[v]
 |.build _ ps=>ps.toList.map (·.2)
 |.buildSlice _ _ ps=>ps.toList.map (·.2)
 |.load _ a=>[a]
 |.store _ a v=>[a,v]
 |.nilCheck x=>[x]
 |.binOp _ _ x y _=>[x,y]
 |.unOp _ _ x=>[x]
 |.convert _ _ x=>[x]
 |.makeFunc _ f c=>f.toList++c.toList
 |.makeSlice _ l c=>[l,c]
 |.slice _ x l h m=>x::(l.toList++(h.toList++m.toList))
 |.fieldAddr _ x _=>[x]
 |.field _ x _=>[x]
 |.indexAddr _ x i=>[x,i]
 |.index _ x i=>[x,i]
 |.extract t _=>[t]
 |.makeMap _ r=>r.toList
 |.lookup _ m k _=>[m,k]
 |.mapUpdate _ m k v=>[m,k,v]
 | .call c=>match c.callee with
   |.value f=>f::c.args.toList
   |_=>c.args.toList
 |_=>[]
section
variable {α:Type}{R:α→Value→Prop}{f:Operand→Value}
theorem WQ {x:α}{a:Operand}(h:FL R [x] (List.map f [a])):R x (f a):=by
 obtain⟨v,r,e,h1,_⟩:=h;simp only[List.map,List.cons.injEq] at e;rw[e.1];exact h1
theorem FL2 {x y:α}{a b:Operand}(h:FL R [x,y] (List.map f [a,b])):R x (f a)∧R y (f b):=by
 obtain⟨v,r,e,h1,u,s,e',h2,_⟩:=h;simp only[List.map,List.cons.injEq] at e;obtain⟨e1,rfl⟩:=e;simp only[List.cons.injEq] at e';rw[e1,e'.1];exact⟨h1,h2⟩
theorem FL3 {x y z:α}{a b c:Operand}(h:FL R [x,y,z] (List.map f [a,b,c])):R x (f a)∧R y (f b)∧R z (f c):=by
 obtain⟨v,r,e,h1,h'⟩:=h;simp only[List.map,List.cons.injEq] at e;obtain⟨e1,rfl⟩:=e;have:=FL2 (f:=f) (a:=b) (b:=c) (by simpa using h');rw[e1];exact⟨h1,this⟩
end
def AS.app (s:AS)(ws:List (Nat×aA)):AS:=⟨s.tm,s.nx,ws++s.hp⟩
def sQ (i:TI)(cs:List AV)(K:AV→Prop):Prop:=
 match i.d.isAgg with
 | true=>match zM cs with
   |some v=>K v
   |none=>False
 | false=>match cs with
   |[v]=>K v
   |_=>False
def zV (i:TI)(cs:List PV)(K:AV→Prop):Prop:=
 match i.d.isAgg with
 |true=>K (.pv (.agg cs))
 | false=>match cs with
   |[v]=>K (.pv v)
   |_=>False
def vB (T:Tab)(H:List (Nat×aA))(t:TypeId)(x:AV)(K:AV→Prop):Prop:=
 match lk T t with
 |none=>False
 | some i=>match x with
   | .ptr b off=>match lk H b with
     | some (.var cells)=>match part off i.size cells with
       |some cs=>sQ i cs K
       |none=>False
     | some (.sD cells)=>match part off i.size cells with
       |some cs=>zV i cs K
       |none=>False
     |_=>False
   | .pv (.bJ row off)=>match part off i.size row with
     |some cs=>zV i cs K
     |none=>False
   | .bn b ver k off=>match lk H b with
     | some (.arr _ v _ rows)=>match Nat.beq ver v with
       | true=>∃row,rows[k]? = some row∧match part off i.size row with
         |some cs=>zV i cs K
         |none=>False
       |false=>False
     | some (.kE v _ rows)=>match Nat.beq ver v with
       | true=>∃row,rows[k]? = some row∧match part off i.size row with
         |some cs=>zV i cs K
         |none=>False
       |false=>False
     |_=>False
   |_=>False
section
variable {P:Program}{T:Tab}{N:Nat→Prop}{w:World}{hp:List (Nat×aA)}{R:Real}
theorem Ny (i:TI){t:TypeId}(hi:cu P t i){g off:Nat}{cur:Array Value}{e:TypeId}{fr:Nat×Nat}{cells cs:List AV}{K:AV→Prop}
  (hg:w.heap[g]? = some (.cells cur e fr)) (hc:FC (ai N w hp R) cells cur.toList) (hp':part off i.size cells=some cs)
  (h:sQ i cs K) :
  ∃x v,(loadVar t ⟨g,off,none⟩).run P w=.ok x w∧K v∧ai N w hp R v x:=by
 obtain⟨hl,hcs⟩:=hc.fp.part hp';have hrun:=lW (w:=w) hi hg (by simpa using hl);cases ha:i.d.isAgg with
 | true=>
   simp only[sQ,ha] at h;simp only[ha] at hrun;unfold zM at h;split at h;rotate_left;cases h
   rename_i v hv;refine⟨_,v,hrun,h,?_⟩;split at hv
   ·rename_i ps hps;simp only[Option.some.injEq] at hv;subst hv;simp only[ai,bE,if_true];refine⟨_,rfl,?_⟩;rw[gM];have:∀(cs:List AV) (ps:List PV) (vs:List Value),je cs=some ps→FC (ai N w hp R) cs vs→FC (bE N w) ps vs:=by
     intro cs;induction cs with
     |nil=>intro ps vs h h';simp only[je,Option.some.injEq] at h;subst h;exact h'
     | cons c cs ih=>
       intro ps vs h h';obtain⟨v,r,rfl,h1,h2,h3⟩:=h';cases c<;>simp only[je] at h<;>try (cases h;done)
       split at h
       ·rename_i ps' qL;simp only[Option.some.injEq] at h;subst h;exact⟨v,r,rfl,h1,by simpa only[ai] using h2,ih _ _ qL h3⟩
       cases h
    exact this cs ps _ hps (by simpa using hcs)
   simp only[Option.some.injEq] at hv;subst hv;simp only[ai,if_true];refine⟨_,rfl,?_⟩;rw[bF];simpa using hcs
 | false=>
   have h1:=hi.agg ha;simp only[sQ,ha] at h;simp only[ha,Bool.false_eq_true,if_false] at hrun;split at h;rotate_left;cases h
   rename_i v;obtain⟨u,r,e1,e2,e3,e4⟩:=hcs;refine⟨_,_,hrun,h,?_⟩;have:cur[off]! = u:=by
    have hlt:off<cur.size:=by simp at hl;omega
    rw[getElem!_pos cur off hlt];have hh:((cur.toList.drop off).take i.size)[0]? = some u:=by rw[e1];rfl
    rw[h1] at hh;simp only[List.getElem?_take,Nat.zero_lt_one,if_true,List.getElem?_drop,Nat.add_zero] at hh;have h3:cur[off]? = some u:=by simpa using hh
    rw[Array.getElem?_eq_getElem hlt] at h3;exact Option.some.inj h3
   rw[this];exact e3
theorem qh (i:TI){t:TypeId}(hi:cu P t i){g base off:Nat}{cur:Array Value}{e:TypeId}{fr:Nat×Nat}{cells cs:List PV}{K:AV→Prop}
  (hg:w.heap[g]? = some (.cells cur e fr)) (hc:FP (bE N w) cells (cur.toList.drop base)) (hp':part off i.size cells=some cs)
  (h:zV i cs K) :
  ∃x v,(loadVar t ⟨g,base+off,none⟩).run P w=.ok x w∧K v∧ai N w hp R v x:=by
 obtain⟨hl,hcs⟩:=hc.part hp';rw[List.drop_drop] at hcs;have hl':i.size=0∨base+off+i.size≤cur.size:=by simp at hl;omega
 cases ha:i.d.isAgg with
 | true=>
   simp only[zV,ha] at h;by_cases hz:base+off+i.size≤cur.size
   ·have hrun:=lW (w:=w) hi hg hz;simp only[ha,if_true] at hrun;refine⟨_,_,hrun,h,?_⟩;simp only[ai,bE];exact⟨_,rfl,by rw[gM];simpa using hcs⟩
   have hz0:=hl'.resolve_right hz;refine⟨.agg #[],_,?_,h,?_⟩
   ·simp[loadVar,hi.rJ,ha,hi.run_sizeOf,hz0,loadCells,loadCellsFrom]
   simp only[ai,bE];exact⟨_,rfl,by rw[gM];simpa[hz0] using hcs⟩
 | false=>
   have h1:=hi.agg ha;have hz:base+off+i.size≤cur.size:=by omega
   have hrun:=lW (w:=w) hi hg hz;simp only[zV,ha] at h;simp only[ha,Bool.false_eq_true,if_false] at hrun;split at h;rotate_left;cases h
   rename_i v;obtain⟨u,r,e1,e2,e3,e4⟩:=hcs;refine⟨_,_,hrun,h,?_⟩;have:cur[base+off]! = u:=by
    have hlt:base+off<cur.size:=by omega
    rw[getElem!_pos cur (base+off) hlt];have hh:((cur.toList.drop (base+off)).take i.size)[0]? = some u:=by rw[e1];rfl
    rw[h1] at hh;simp only[List.getElem?_take,Nat.zero_lt_one,if_true,List.getElem?_drop,Nat.add_zero] at hh;have h3:cur[base+off]? = some u:=by simpa using hh
    rw[Array.getElem?_eq_getElem hlt] at h3;exact Option.some.inj h3
   rw[this];simpa only[ai] using e3
end
section
variable {P:Program}{T:Tab}{c:Ctx}{R:Real}{s:AS}{a:Act}{w:World}
theorem gU {N:Nat→Prop}{hp:List (Nat×aA)}{b:Nat}{e:TypeId}{ver st:Nat}{rows:List (List PV)}(h:eB N w hp R b (.arr e ver st rows))(hn:R.nil b=false) :
  ∃cur,w.heap[R.blk b]? = some (.cells cur e (0,0))∧cur.size=(R.cap b).1*st∧rows.length≤(R.cap b).1∧(R.cap b).1≤maxLen∧bK N w st rows cur.toList ∧
   cur.toList.take (rows.length*st)=cur.toList.take (rows.length*st):=by
 obtain⟨xs,⟨h1,h2⟩,h3⟩:=h;rcases h2 with ⟨h2,_⟩|⟨g,cap,cur,e1,_,hg,hle,hm,hs,ht⟩
 ·simp[bY,hn] at h2
 simp only[bY,hn,Bool.false_eq_true,if_false,Value.slice.injEq,Option.some.injEq,Addr.mk.injEq,and_true,true_and] at e1;obtain⟨rfl,rfl⟩:=e1;refine⟨cur,hg,hs,hle,hm,?_,rfl⟩;have:=oN (cur.toList.drop (rows.length*st)) h3;rw[←ht,List.take_append_drop] at this;exact this
theorem vC (g:bB c R s a w)(hT:bO P T){H:List (Nat×aA)}(hH:∀b box,lk H b=some box→lk s.hp b=some box){t:TypeId}{x:AV}{K:AV→Prop}
  (h:vB T H t x K) {u:Value} (hx:ai (aT c R s.hp) w s.hp R x u) :
  ∃y v,(Instr.loadAt t u).run P w=.ok y w∧K v∧ai (aT c R s.hp) w s.hp R v y:=by
 unfold vB at h;split at h
 ·exact h.elim
 rename_i i hi;have hi':=hT t i hi;split at h
 ·rename_i b off;simp only[ai] at hx;split at h
  ·rename_i cells hb;have hb':=hH _ _ hb;rw[hb'] at hx;simp only[aX] at hx;subst hx;split at h;rotate_left;cases h
   rename_i cs hcs;obtain⟨cur,e,hg,hc⟩:=(g.boxes b _ hb');rw[bF] at hc;obtain⟨y,v,h1,h2,h3⟩:=Ny i hi' hg hc hcs h;exact⟨y,v,by simpa[Instr.loadAt,Instr.sureAddr] using h1,h2,h3⟩
  ·rename_i cells hb;have hb':=hH _ _ hb;rw[hb'] at hx;simp only[aX] at hx;subst hx;split at h;rotate_left;cases h
   rename_i cs hcs;obtain⟨cur,e,fr,hg,hn,hc⟩:=(g.boxes b _ hb');rw[dh] at hc;obtain⟨y,v,h1,h2,h3⟩:=qh (base:=0) (hp:=s.hp) (R:=R) i hi' hg (by simpa using hc) hcs h;exact⟨y,v,by simpa[Instr.loadAt,Instr.sureAddr] using h1,h2,h3⟩
  exact h.elim
 ·rename_i row off;simp only[ai,bE] at hx;obtain⟨gg,base,cur,e,fr,rfl,hn,hg,hc⟩:=hx;rw[dh] at hc;split at h
  ·rename_i cs hcs;obtain⟨y,v,h1,h2,h3⟩:=qh (hp:=s.hp) (R:=R) i hi' hg hc hcs h;exact⟨y,v,by simpa[Instr.loadAt,Instr.sureAddr] using h1,h2,h3⟩
  exact h.elim
 ·rename_i b ver k off;simp only[ai] at hx;split at h
  ·rename_i e v st rows hb;have hb':=hH _ _ hb;rw[hb'] at hx;simp only[aZ] at hx;split at h;rotate_left;cases h
   rename_i hv;obtain⟨hn,rfl⟩:=hx.2.2 (Nat.eq_of_beq_eq_true hv);obtain⟨row,hrow,h⟩:=h;split at h;rotate_left;cases h
   rename_i cs hcs;obtain⟨cur,hg,hs,hle,hm,hr,_⟩:=gU (g.boxes b _ hb') hn;obtain⟨hl,hrp⟩:=rH hr hrow;rw[dh] at hrp;obtain⟨y,v,h1,h2,h3⟩:=qh (hp:=s.hp) (R:=R) i hi' hg hrp hcs h;exact⟨y,v,by simpa[Instr.loadAt,Instr.sureAddr] using h1,h2,h3⟩
  ·rename_i v st rows hb;have hb':=hH _ _ hb;rw[hb'] at hx;simp only[aZ] at hx;split at h;rotate_left;cases h
   rename_i hv;obtain⟨hn,rfl⟩:=hx.2.2 (Nat.eq_of_beq_eq_true hv);obtain⟨row,hrow,h⟩:=h;split at h;rotate_left;cases h
   rename_i cs hcs;have hre:=(g.boxes b _ hb');simp only[eB,bE,bY,hn,Bool.false_eq_true,if_false] at hre;obtain⟨p,len,cap,e1,e2,e3,_,e4⟩:=hre;simp only[Value.slice.injEq] at e1;obtain⟨rfl,rfl,rfl⟩:=e1;rcases e4 _ rfl with e5|⟨_,_,cur,e,fr,hg,hr⟩
   ·subst e5;simp at hrow
   simp only[List.drop_zero] at hr;obtain⟨hl,hrp⟩:=rH hr hrow;rw[dh] at hrp;obtain⟨y,v,h1,h2,h3⟩:=qh (hp:=s.hp) (R:=R) i hi' hg hrp hcs h;exact⟨y,v,by simpa[Instr.loadAt,Instr.sureAddr] using h1,h2,h3⟩
  exact h.elim
 exact h.elim
end
def nth {α:Type}:List α→Nat→Option α
 |[],_=>none
 |a::_,0=>some a
 |_::r,n+1=>nth r n
theorem vz {α:Type}:∀(l:List α) (n:Nat),nth l n=l[n]?
 |[],_=>by simp[nth]
 |a::_,0=>by simp[nth]
 |_::r,n+1=>by simp[nth,vz r n]
def zL (T:Tab)(t:TypeId)(f:Nat):Option (Nat×TI):=
 match lk T t with
 | some i=>match i.d with
   | .str fs=>match nth fs f with
     | some (off,ft)=>match lk T ft with
       |some j=>some (off,j)
       |none=>none
     |none=>none
   |_=>none
 |none=>none
def SH:Option aA→Option Nat
 |some (.arr _ v _ _)=>some v
 |some (.kE v _ _)=>some v
 |some (.dN _ v _ _ _ _)=>some v
 |some (.fP _ v _ _ _ _ _ _ _)=>some v
 |_=>none
def mJ (T:Tab)(H:List (Nat×aA))(t:TypeId)(x:AV)(f:Nat)(K:AV→Prop):Prop:=
 match zL T t f with
 | some (off,j)=>match Nat.beq j.size 0 with
   |true=>False
   | false=>match x with
     |.ptr b o=>K (.ptr b (o+off))
     | .bn b ver i o=>match SH (lk H b) with
       | some v=>match Nat.beq ver v with
         |true=>K (.bn b ver i (o+off))
         |false=>False
       |none=>False
     |.pv (.bJ row o)=>K (.pv (.bJ row (o+off)))
     |_=>False
 |none=>False
def MF (T:Tab)(t:TypeId)(x:AV)(f:Nat)(K:AV→Prop):Prop:=
 match zL T t f with
 | some (off,j)=>match x with
   | .pv (.agg cs)=>match part off j.size cs with
     |some ds=>zV j ds K
     |none=>False
   | .agg cs=>match part off j.size cs with
     |some ds=>sQ j ds K
     |none=>False
   |_=>False
 |none=>False
def dS (T:Tab)(H:List (Nat×aA))(t:TypeId)(x ix:AV)(K:AV→Prop):Prop:=
 match ix with
 | .pv (.sc (.int _ i))=>match lk T t with
   | some ti=>match ti.d with
     | .slt e=>match lk T e with
       | some ei=>match x with
         | .pv (.sl _ st rows)=>match Nat.beq st ei.size with
           |true=>0≤i∧∃row,rows[i.toNat]? = some row∧K (.pv (.bJ row 0))
           |false=>False
         | .aB b ver=>match lk H b with
           | some (.arr _ v st rows)=>match Nat.beq ver v,Nat.beq st ei.size with
             |true,true=>0≤i∧i.toNat<rows.length∧K (.bn b ver i.toNat 0)
             |_,_=>False
           | some (.kE v st rows)=>match Nat.beq ver v,Nat.beq st ei.size with
             |true,true=>0≤i∧∃row,rows[i.toNat]? = some row∧K (.pv (.bJ row 0))
             |_,_=>False
           |_=>False
         |_=>False
       |none=>False
     | .QV n e=>match lk T e with
       | some ei=>match x with
         |.ptr b off=>0≤i∧i<n∧K (.ptr b (off+i.toNat*ei.size))
         |_=>False
       |none=>False
     |_=>False
   |none=>False
 |_=>False
def oW (T:Tab)(t:TypeId)(x ix:AV)(K:AV→Prop):Prop:=
 match ix with
 | .pv (.sc (.int _ i))=>match lk T t with
   | some ti=>match ti.d with
     | .Mw=>match x with
       |.pv (.sc (.string s))=>0≤i∧∃b,s.data.toList[i.toNat]? = some b∧K (.pv (.sc (.int .u8 b.toNat)))
       |_=>False
     |_=>False
   |none=>False
 |_=>False
def rq (x:AV)(i:Nat)(K:AV→Prop):Prop:=
 match x with
 | .dn vs=>match nth vs i with
   |some v=>K v
   |none=>False
 | .pv (.dn vs)=>match nth vs i with
   |some v=>K (.pv v)
   |none=>False
 |_=>False
def cUn (op:UnOp)(x:AV)(K:AV→Prop):Prop:=
 match op,x with
 |.not,.pv (.sc (.bool b))=>K (.pv (.sc (.bool (!b))))
 |.neg,.pv (.sc (.int k n))=>K (.pv (.sc (.int k (k.wrap (0-n)))))
 |_,_=>False
def wX (b:UInt8):List PV:=[.sc (.int .u8 b.toNat)]
def u7 (T:Tab)(H:List (Nat×aA))(src dst:TypeId)(x:AV)(K:AV→Prop):Prop:=
 match lk T src,lk T dst with
 | some si,some dt=>match dt.d with
   | .zN k=>match x with
     |.pv (.sc (.int _ n))=>K (.pv (.sc (.int k (k.wrap n))))
     |_=>False
   | .Mw=>match si.d with
     | .Mw=>match x with
       |.pv (.sc (.string s))=>K (.pv (.sc (.string s)))
       |_=>False
     | .slt e=>match lk T e with
       | some ei=>match ei.d with
         | .zN .u8=>match x with
           |.pv (.sc (.slice none _ _))=>K (.pv (.sc (.string .empty)))
           | _=>match vw H x with
             | some (.sl _ st rows)=>match Nat.beq st 1 with
               |true=>∃bs:List UInt8,rows=bs.map wX∧K (.pv (.sc (.string ⟨bs.toArray⟩)))
               |false=>False
             |_=>False
         |_=>False
       |none=>False
     |_=>False
   |_=>False
 |_,_=>False
def ES (T:Tab)(H:List (Nat×aA))(t:TypeId)(x:AV)(K:AV→Prop):Prop:=
 match lk T t with
 | some i=>match i.d with
   | .Mw=>match x with
     |.pv (.sc (.string s))=>K (.pv (.sc (.int .i64 s.size)))
     |_=>False
   | .slt _=>match x with
     |.pv (.sc (.slice none n _))=>K (.pv (.sc (.int .i64 n)))
     | _=>match vw H x with
       |some (.sl _ _ rows)=>K (.pv (.sc (.int .i64 rows.length)))
       |_=>False
   |.QV n _=>K (.pv (.sc (.int .i64 n)))
   |_=>False
 |none=>False
section
variable {P:Program}{T:Tab}{c:Ctx}{R:Real}{s:AS}{a:Act}{w:World}
theorem qK (hT:bO P T){t:TypeId}{f off:Nat}{j:TI}(h:zL T t f=some (off,j)) :
  ∃fs fd,P.underlying t=some (.struct fs)∧fs[f]? = some fd∧fd.offset=off∧cu P fd.type j:=by
 unfold zL at h;split at h
 ·rename_i i hi;split at h
  ·rename_i l hl;split at h
   ·rename_i o ft hn;split at h
    ·rename_i j' hj;simp only[Option.some.injEq,Prod.mk.injEq] at h;obtain⟨rfl,rfl⟩:=h;obtain⟨d,hd,iE⟩:=(hT t i hi).iM;rw[hl] at iE;cases d<;>simp[di] at iE
     rename_i fs;subst iE;rw[vz] at hn;simp only[List.getElem?_map,Option.map_eq_some_iff,Prod.mk.injEq] at hn;obtain⟨fd,h1,rfl,rfl⟩:=hn;exact⟨fs,fd,hd,by simpa using h1,rfl,hT _ _ hj⟩
    cases h
   cases h
  cases h
 cases h
theorem EJ {b ver i off:Nat}{v:Value}{o:Option aA}(h:aZ R b ver i off v o){k:Nat}(hk:SH o=some k)(e:ver=k) :
  ∃st,R.nil b=false∧v=.pointer (some ⟨R.blk b,i*st+off,none⟩)∧∀Va,aZ R b ver i Va (.pointer (some ⟨R.blk b,i*st+Va,none⟩)) o:=by
 cases o with
 |none=>exact h.elim
 | some box=>
   cases box<;>simp only[aZ] at h<;>simp only[SH,Option.some.injEq] at hk<;>try (first|exact h.elim|(cases hk;done))
   ·obtain⟨hn,hv⟩:=h.2.2 (e.trans hk.symm);refine⟨_,hn,hv,fun Va=>?_⟩;exact⟨h.1,rfl,fun _=>⟨hn,rfl⟩⟩
   ·obtain⟨hn,hv⟩:=h.2.2 (e.trans hk.symm);refine⟨_,hn,hv,fun Va=>?_⟩;exact⟨h.1,rfl,fun _=>⟨hn,rfl⟩⟩
   ·obtain⟨hn,hv⟩:=h.2.2 (e.trans hk.symm);refine⟨_,hn,hv,fun Va=>?_⟩;exact⟨h.1,rfl,fun _=>⟨hn,rfl⟩⟩
   obtain⟨hn,hv⟩:=h.2.2 (e.trans hk.symm);refine⟨_,hn,hv,fun Va=>?_⟩;exact⟨h.1,rfl,fun _=>⟨hn,rfl⟩⟩
theorem BD (hT:bO P T){N:Nat→Prop}{hp:List (Nat×aA)}{H:List (Nat×aA)}(hH:∀b box,lk H b=some box→lk hp b=some box)
  {t:TypeId} {x:AV} {f:Nat} {K:AV→Prop} (h:mJ T H t x f K)
  {u:Value} (hx:ai N w hp R x u) :
  ∃y v,(Instr.fieldAt t u f).run P w=.ok y w∧K v∧ai N w hp R v y:=by
 unfold mJ at h;split at h;rotate_left;cases h
 rename_i off j hf;split at h
 ·exact h.elim
 rename_i hz;have hz:j.size≠0:=Nat.ne_of_beq_eq_false hz;obtain⟨fs,fd,h1,h2,rfl,h4⟩:=qK hT hf;have run:∀g o,(Instr.fieldAt t (.pointer (some ⟨g,o,none⟩)) f).run P w=.ok (.pointer (some ⟨g,o+fd.offset,none⟩)) w:=by
  intro g o;simp[Instr.fieldAt,run_underlying h1,h2,Instr.sureAddr,fieldPlace,h4.run_sizeOf,hz,addr_add]
 split at h
 ·rename_i b o;simp only[ai] at hx;cases hb:lk hp b with
  |none=>rw[hb] at hx;exact hx.elim
  | some box=>
    rw[hb] at hx;cases box<;>simp only[aX] at hx<;>(subst hx;exact⟨_,_,run _ _,h,by simp only[ai,hb,aX]⟩)
 ·rename_i b ver i o;split at h;rotate_left;cases h
  rename_i v hv;split at h;rotate_left;cases h
  rename_i gy;simp only[ai] at hx;cases hb:lk H b with
  |none=>rw[hb] at hv;cases hv
  | some box=>
    rw[hb,←hH _ _ hb] at hv;obtain⟨st,hn,hu,hr⟩:=EJ hx hv (Nat.eq_of_beq_eq_true gy);subst hu;exact⟨_,_,run _ _,h,by simp only[ai];rw[Nat.add_assoc];exact hr _⟩
 ·rename_i row o;simp only[ai,bE] at hx;obtain⟨g,base,cur,e,fr,rfl,hx⟩:=hx;refine⟨_,_,run _ _,h,?_⟩;simp only[ai,bE];exact⟨g,base,cur,e,fr,by rw[Nat.add_assoc],hx⟩
 exact h.elim
theorem EL {N:Nat→Prop}{hp:List (Nat×aA)}{x:AV}{i:Nat}{K:AV→Prop}(h:rq x i K){u:Value}(hx:ai N w hp R x u) :
  ∃y v,(Instr.extract u i).run P w=.ok y w∧K v∧ai N w hp R v y:=by
 unfold rq at h;split at h
 ·split at h
  ·rename_i vs v hv;simp only[ai] at hx;obtain⟨us,rfl,hx⟩:=hx;rw[eO] at hx;rw[vz] at hv;obtain⟨y,h1,h2⟩:=hx.get hv;refine⟨y,v,?_,h,h2⟩;have:us[i]? = some y:=by simpa using h1
   simp[Instr.extract,this]
  exact h.elim
 ·split at h
  ·rename_i vs v hv;simp only[ai,bE] at hx;obtain⟨us,rfl,hx⟩:=hx;rw[jf] at hx;rw[vz] at hv;obtain⟨y,h1,h2⟩:=hx.get hv;refine⟨y,_,?_,h,by simpa only[ai] using h2⟩;have:us[i]? = some y:=by simpa using h1
   simp[Instr.extract,this]
  exact h.elim
 exact h.elim
theorem Uy {N:Nat→Prop}{hp:List (Nat×aA)}{op:UnOp}{x:AV}{K:AV→Prop}(h:cUn op x K){u:Value}(hx:ai N w hp R x u) :
  ∃y v,(Op.unary op u).run P w=.ok y w∧K v∧ai N w hp R v y:=by
 unfold cUn at h;split at h
 ·rename_i b;simp only[ai,bE] at hx;subst hx;exact⟨.bool (!b),_,by simp[Op.unary],h,by simp only[ai,bE]⟩
 ·rename_i k n;simp only[ai,bE] at hx;subst hx;exact⟨.int k (k.wrap (0-n)),_,by simp[Op.unary,Op.intArith],h,by simp only[ai,bE]⟩
 exact h.elim
theorem Vb {α:Type}{off n:Nat}{l x:List α}(h:part off n l=some x):x.length=n∧off+n≤l.length∧x=(l.drop off).take n:=by
 have hd:∀(n:Nat) (l r:List α),kF n l=some r→n≤l.length∧r=l.drop n:=by
  intro n;induction n with
  |zero=>intro l r h;simp only[kF,Option.some.injEq] at h;subst h;simp
  | succ n ih=>
    intro l r h;cases l with
    |nil=>simp[kF] at h
    |cons a l=>simp only[kF] at h;have:=ih l r h;simpa using this
 have ht:∀(n:Nat) (l r:List α),j4 n l=some r→n≤l.length∧r=l.take n:=by
  intro n;induction n with
  |zero=>intro l r h;simp only[j4,Option.some.injEq] at h;subst h;simp
  | succ n ih=>
    intro l r h;cases l with
    |nil=>simp[j4] at h
    | cons a l=>
      simp only[j4] at h;split at h
      ·rename_i t ht;simp only[Option.some.injEq] at h;subst h;have:=ih l t ht;refine⟨by simp[this.1],by simp[this.2]⟩
      cases h
 unfold part at h;split at h
 ·rename_i r hr;obtain⟨h1,rfl⟩:=hd _ _ _ hr;obtain⟨h2,rfl⟩:=ht _ _ _ h;simp only[List.length_drop] at h2;refine⟨by simp;omega,by omega,rfl⟩
 cases h
theorem Fv {N:Nat→Prop}{hp:List (Nat×aA)}{i:TI}{t:TypeId}(hi:cu P t i){ds:List AV}{K:AV→Prop}(h:sQ i ds K){vs:Array Value}{off:Nat}
  (hd:FC (ai N w hp R) ds ((vs.toList.drop off).take i.size)) (_:off+i.size≤vs.size) :
  ∃y v,(Go.part t vs off).run P w=.ok y w∧K v∧ai N w hp R v y:=by
 unfold sQ at h;split at h
 ·rename_i ha;unfold zM at h;split at h;rotate_left;cases h
  rename_i v hv;refine⟨.agg (vs.extract off (off+i.size)),v,?_,h,?_⟩
  ·simp[Go.part,hi.rJ,ha,hi.run_sizeOf]
  have e:(vs.extract off (off+i.size)).toList=(vs.toList.drop off).take i.size:=by
   simp[Array.toList_extract,List.extract]
  split at hv
  ·rename_i ps hps;simp only[Option.some.injEq] at hv;subst hv;simp only[ai,bE];refine⟨_,rfl,?_⟩;rw[gM,e];have:∀(cs:List AV) (ps:List PV) (vs:List Value),je cs=some ps→FC (ai N w hp R) cs vs→FC (bE N w) ps vs:=by
    intro cs;induction cs with
    |nil=>intro ps vs h h';simp only[je,Option.some.injEq] at h;subst h;exact h'
    | cons c cs ih=>
      intro ps vs h h';obtain⟨v,r,rfl,h1,h2,h3⟩:=h';cases c<;>simp only[je] at h<;>try (cases h;done)
      split at h
      ·rename_i ps' qL;simp only[Option.some.injEq] at h;subst h;exact⟨v,r,rfl,h1,by simpa only[ai] using h2,ih _ _ qL h3⟩
      cases h
   exact this _ _ _ hps hd
  simp only[Option.some.injEq] at hv;subst hv;simp only[ai];refine⟨_,rfl,?_⟩;rw[bF,e];exact hd
 rename_i ha;have h1:=hi.agg ha;split at h;rotate_left;cases h
 rename_i v;obtain⟨u,r,e1,e2,e3,e4⟩:=hd;refine⟨u,_,?_,h,e3⟩;have hh:((vs.toList.drop off).take i.size)[0]? = some u:=by rw[e1];rfl
 rw[h1] at hh;simp only[List.getElem?_take,Nat.zero_lt_one,if_true,List.getElem?_drop,Nat.add_zero] at hh;have h3:vs[off]? = some u:=by simpa using hh
 simp[Go.part,hi.rJ,ha,h3]
theorem Vd {i:TI}{ds:List PV}{K:AV→Prop}(h:zV i ds K):sQ i (ds.map .pv) K:=by
 have hall:∀l:List PV,je (l.map AV.pv)=some l:=by
  intro l;induction l with
  |nil=>rfl
  |cons p r ih=>simp[je,ih]
 unfold zV at h;unfold sQ;split at h
 ·rename_i ha;simp only[zM,hall];exact h
 rename_i ha;split at h
 ·exact h
 exact h.elim
theorem Qk (hT:bO P T){N:Nat→Prop}{hp:List (Nat×aA)}{t:TypeId}{x:AV}{f:Nat}{K:AV→Prop}(h:MF T t x f K){u:Value}(hx:ai N w hp R x u) :
  ∃y v,(Instr.field t u f).run P w=.ok y w∧K v∧ai N w hp R v y:=by
 unfold MF at h;split at h;rotate_left;cases h
 rename_i off j hf;obtain⟨fs,fd,h1,h2,rfl,h4⟩:=qK hT hf;have key:∀(cs:List AV) (us:Array Value) (ds:List AV),FC (ai N w hp R) cs us.toList→part fd.offset j.size cs=some ds→sQ j ds K →
   ∃y v,(Instr.field t (.agg us) f).run P w=.ok y w∧K v∧ai N w hp R v y:=by
  intro cs us ds hc hp' ho;obtain⟨hl,hd⟩:=hc.fp.part hp';obtain⟨y,v,h5,h6,h7⟩:=Fv h4 ho hd (by simpa using hl);exact⟨y,v,by simp[Instr.field,run_underlying h1,h2,asAgg,h5],h6,h7⟩
 split at h
 ·rename_i cs;simp only[ai,bE] at hx;obtain⟨us,rfl,hx⟩:=hx;rw[gM] at hx;split at h;rotate_left;cases h
  rename_i ds hds;refine key (cs.map .pv) us (ds.map .pv) (FC.map (fun p v hv=>by simpa only[ai] using hv) hx) ?_ (Vd h);obtain⟨e1,e2,e3⟩:=Vb hds;have gd:∀(n:Nat) (l:List PV),n≤l.length→kF n (l.map AV.pv)=some ((l.drop n).map .pv):=by
   intro n;induction n with
   |zero=>intro l _;simp[kF]
   | succ n ih=>intro l hl;cases l with
     |nil=>simp at hl
     |cons a l=>simpa[kF] using ih l (by simpa using hl)
  have gt:∀(n:Nat) (l:List PV),n≤l.length→j4 n (l.map AV.pv)=some ((l.take n).map .pv):=by
   intro n;induction n with
   |zero=>intro l _;simp[j4]
   | succ n ih=>intro l hl;cases l with
     |nil=>simp at hl
     |cons a l=>simp[j4,ih l (by simpa using hl)]
  unfold part;rw[gd _ _ (by omega)];simp only;rw[gt _ _ (by simp;omega),e3]
 ·rename_i cs;simp only[ai] at hx;obtain⟨us,rfl,hx⟩:=hx;rw[bF] at hx;split at h
  ·rename_i ds hds;exact key cs us ds hx hds h
  exact h.elim
 exact h.elim
theorem jX (g:bB c R s a w)(hT:bO P T){H:List (Nat×aA)}(hH:∀b box,lk H b=some box→lk s.hp b=some box){t:TypeId}{x ix:AV}{K:AV→Prop}
  (h:dS T H t x ix K) {u v:Value} (hx:ai (aT c R s.hp) w s.hp R x u) (hv:ai (aT c R s.hp) w s.hp R ix v) :
  ∃y z,(Instr.indexAt t u v).run P w=.ok y w∧K z∧ai (aT c R s.hp) w s.hp R z y:=by
 unfold dS at h;split at h;rotate_left;cases h
 rename_i k i;simp only[ai,bE] at hv;subst hv;split at h;rotate_left;cases h
 rename_i ti hti;obtain⟨d,hd,iE⟩:=(hT t ti hti).iM;split at h
 ·rename_i e hte;have hd':P.underlying t=some (.slice e):=by
   rw[hte] at iE;cases d<;>simp[di] at iE
   subst iE;exact hd
  split at h;rotate_left;cases h
  rename_i ei qZ;have jd:=hT e ei qZ;have run:∀(a:Addr) (len cap:Nat),0≤i→i.toNat<len →
    (Instr.indexAt t (.slice (some a) len cap) (.int k i)).run P w=.ok (.pointer (some (a.add (i.toNat*ei.size)))) w:=by
   intro a len cap h0 h1;have:i<(len:Int):=by omega
   simp[Instr.indexAt,asIntOf,run_underlying hd',h0,this,jd.run_sizeOf]
  have cell:∀(p:Option Addr) (len cap:Nat) (nn:Bool) (st:Nat) (rows:List (List PV)) (row:List PV),bE (aT c R s.hp) w (.sl nn st rows) (.slice p len cap)→st=ei.size →
    0≤i→rows[i.toNat]? = some row→K (.pv (.bJ row 0))→∃y z,(Instr.indexAt t (.slice p len cap) (.int k i)).run P w=.ok y w∧K z∧ai (aT c R s.hp) w s.hp R z y:=by
   intro p len cap nn st rows row hr hst h0 hrow hK;simp only[bE] at hr;obtain⟨p',len',ad4,e1,e2,e3,e4,e5⟩:=hr;simp only[Value.slice.injEq] at e1;obtain⟨rfl,rfl,rfl⟩:=e1;have hlt:i.toNat<rows.length:=(List.getElem?_eq_some_iff.1 hrow).1;cases p with
   |none=>have:=(e4 rfl).2;omega
   | some ad=>
     rcases e5 _ rfl with e6|⟨hs,hn,cur,e,fr,hg,hr⟩
     ·subst e6;simp at hrow
     obtain⟨blk,off,spot⟩:=ad;simp only at hs hn hg hr;subst hs;refine⟨_,_,run _ _ _ h0 (by omega),hK,?_⟩;obtain⟨_,hp'⟩:=rH hr hrow;simp only[ai,bE,addr_add];refine⟨blk,off+i.toNat*ei.size,cur,e,fr,rfl,hn,hg,?_⟩;rw[List.drop_drop,hst] at hp';exact hp'
  split at h
  ·rename_i nn st rows;split at h;rotate_left;cases h
   rename_i hst;obtain⟨h0,row,hrow,hK⟩:=h;simp only[ai] at hx;have hx':=hx;simp only[bE] at hx';obtain⟨p,len,cap,rfl,_⟩:=hx';exact cell p len cap nn st rows row hx (Nat.eq_of_beq_eq_true hst) h0 hrow hK
  ·rename_i b ver;simp only[ai] at hx;split at h
   ·rename_i e' v st rows hb;have hb':=hH _ _ hb;rw[hb'] at hx;simp only[aS] at hx;split at h;rotate_left;cases h
    rename_i gy hst;obtain⟨h0,hlt,hK⟩:=h;have:=hx.2.2 (Nat.eq_of_beq_eq_true gy);subst this;have hst:=Nat.eq_of_beq_eq_true hst;have hnil:R.nil b=false:=by
     cases hn:R.nil b with
     |false=>rfl
     | true=>
       obtain⟨xs,⟨_,h2⟩,_⟩:=(g.boxes b _ hb');rcases h2 with ⟨_,h2⟩|⟨g',cap,cur,e1,_⟩
       ·omega
       simp[bY,hn] at e1
    simp only[bY,hnil,Bool.false_eq_true,if_false];refine⟨_,_,run _ _ _ h0 hlt,hK,?_⟩;simp only[ai,hb',aZ,addr_add];exact⟨by rw[Nat.eq_of_beq_eq_true gy];exact Nat.le_refl _,rfl,fun _=>⟨hnil,by rw[←hst];simp⟩⟩
   ·rename_i v st rows hb;have hb':=hH _ _ hb;rw[hb'] at hx;simp only[aS] at hx;split at h;rotate_left;cases h
    rename_i gy hst;obtain⟨h0,row,hrow,hK⟩:=h;have:=hx.2.2 (Nat.eq_of_beq_eq_true gy);subst this;have hre:=(g.boxes b _ hb');simp only[eB] at hre;have ag2:=hre;simp only[bE] at ag2;obtain⟨p,len,cap,e1,_⟩:=ag2;rw[e1] at hre ⊢;exact cell p len cap false st rows row hre (Nat.eq_of_beq_eq_true hst) h0 hrow hK
   exact h.elim
  exact h.elim
 ·rename_i n e hte;have hd':P.underlying t=some (.array n e):=by
   rw[hte] at iE;cases d<;>simp[di] at iE
   obtain⟨rfl,rfl⟩:=iE;exact hd
  split at h;rotate_left;cases h
  rename_i ei qZ;have jd:=hT e ei qZ;split at h;rotate_left;cases h
  rename_i b off;obtain⟨h0,h1,hK⟩:=h;simp only[ai] at hx;cases hb:lk s.hp b with
  |none=>rw[hb] at hx;exact hx.elim
  | some box=>
    rw[hb] at hx;have run:∀gg o,(Instr.indexAt t (.pointer (some ⟨gg,o,none⟩)) (.int k i)).run P w=.ok (.pointer (some ⟨gg,o+i.toNat*ei.size,none⟩)) w:=by
     intro gg o;simp[Instr.indexAt,asIntOf,run_underlying hd',Instr.sureAddr,h0,h1,jd.run_sizeOf,addr_add]
    cases box<;>simp only[aX] at hx<;>(subst hx;exact⟨_,_,run _ _,hK,by simp only[ai,hb,aX]⟩)
 exact h.elim
theorem KU (hT:bO P T){N:Nat→Prop}{hp:List (Nat×aA)}{t:TypeId}{x ix:AV}{K:AV→Prop}
  (h:oW T t x ix K) {u v:Value} (hx:ai N w hp R x u) (hv:ai N w hp R ix v) :
  ∃y z,(Instr.index t u v).run P w=.ok y w∧K z∧ai N w hp R z y:=by
 unfold oW at h;split at h;rotate_left;cases h
 rename_i k i;simp only[ai,bE] at hv;subst hv;split at h;rotate_left;cases h
 rename_i ti hti;obtain⟨d,hd,iE⟩:=(hT t ti hti).iM;split at h;rotate_left;cases h
 rename_i hte;have hd':P.underlying t=some .string:=by
  rw[hte] at iE;cases d<;>simp[di] at iE
  exact hd
 split at h;rotate_left;cases h
 rename_i str;obtain⟨h0,b,hb,hK⟩:=h;simp only[ai,bE] at hx;subst hx;refine⟨.int .u8 b.toNat,_,?_,hK,by simp only[ai,bE]⟩;have hlt:i.toNat<str.size:=by
  have:=(List.getElem?_eq_some_iff.1 hb).1;simpa using this
 have:str[i.toNat]? = some b:=by
  rw[ByteArray.getElem?_lt' str _ hlt];have h2:str.data[i.toNat]? = some b:=by simpa using hb
  have h3:str.data[i.toNat]'(by simpa using hlt)=b:=by
   rw[Array.getElem?_eq_getElem (by simpa using hlt)] at h2;exact Option.some.inj h2
  rw[←h3];rfl
 simp[Instr.index,asIntOf,run_underlying hd',h0,this]
end
theorem q9 {N:Nat→Prop}{w:World}{hp:List (Nat×aA)}{R:Real}:∀{cs:List AV} {ps:List PV} {vs:List Value},je cs=some ps→FC (ai N w hp R) cs vs→FC (bE N w) ps vs
 |[],ps,vs,h,h'=>by simp only[je,Option.some.injEq] at h;subst h;exact h'
 | c::cs,ps,vs,h,h'=>by
   obtain⟨v,r,rfl,h1,h2,h3⟩:=h';cases c<;>simp only[je] at h<;>try (cases h;done)
   split at h
   ·rename_i ps' qL;simp only[Option.some.injEq] at h;subst h;exact⟨v,r,rfl,h1,by simpa only[ai] using h2,q9 qL h3⟩
   cases h
section
variable {P:Program}{T:Tab}{c:Ctx}{R:Real}{s:AS}{a:Act}{w:World}
theorem pu (g:bB c R s a w){b ver:Nat}{p:PV}(h:uM (lk s.hp b) ver=some p){N':Nat→Prop}(hN:∀r,N' r→aT c R s.hp r)
  (h2:∀r,aI R b r (lk s.hp b)→¬N' r) {u:Value} (hx:aS R b ver u (lk s.hp b)):bE N' w p u:=by
 cases hb:lk s.hp b with
 |none=>rw[hb] at hx;exact hx.elim
 | some box=>
   rw[hb] at h hx h2;have hre:=(g.boxes b box hb);cases box with
   |var cells=>cases h
   |sD cells=>cases h
   | arr e v st rows=>
     simp only[uM] at h;split at h
     ·rename_i hv;simp only[Option.some.injEq] at h;subst h;simp only[aS] at hx;have:=hx.2.2 (Nat.eq_of_beq_eq_true hv);subst this;cases hn:R.nil b with
      | true=>
        obtain⟨xs,⟨_,h3⟩,_⟩:=hre;rcases h3 with ⟨_,h3⟩|⟨g',cap,cur,e1,_⟩
        ·have e1:bY R b rows.length=.slice none 0 0:=by simp[bY,hn]
         rw[e1,bE];exact⟨none,0,0,rfl,h3.symm,⟨Nat.le_refl _,by omega⟩,fun _=>⟨rfl,rfl⟩,fun a ha=>by cases ha⟩
        simp[bY,hn] at e1
      | false=>
        obtain⟨cur,hg,hs,hle,hm,hr,_⟩:=gU hre hn;have e1:bY R b rows.length=.slice (some ⟨R.blk b,0,none⟩) rows.length ((R.cap b).1):=by simp[bY,hn]
        rw[e1,bE];refine⟨_,_,_,rfl,rfl,⟨hle,by unfold maxLen at hm;omega⟩,fun h=>(by cases h),fun ad ha=>?_⟩;simp only[Option.some.injEq] at ha;subst ha;exact .inr ⟨rfl,h2 _ ⟨hn,rfl⟩,cur,e,(0,0),hg,by simpa using aV (fun r _ h=>hN r h) (fun _ _ _=>rfl) _ _ _ hr⟩
     cases h
   | kE v st rows=>
     simp only[uM] at h;split at h
     ·rename_i hv;simp only[Option.some.injEq] at h;subst h;simp only[aS] at hx;have:=hx.2.2 (Nat.eq_of_beq_eq_true hv);subst this;exact dw (fun r _ h=>hN r h) (fun _ _ _=>rfl) _ _ hre
     cases h
   |tr _ _ _ _=>exact hx.elim
   |dN _ _ _ _ _ _=>cases h
   |mp _ _ _=>cases h
   |fP _ _ _ _ _ _ _ _ _=>cases h
theorem Di (g:bB c R s a w){b off:Nat}{p:PV}(h:Tn (lk s.hp b) off=some p){N':Nat→Prop}(hN:∀r,N' r→aT c R s.hp r)
  (h2:∀r,aI R b r (lk s.hp b)→¬N' r) {u:Value} (hx:aX R b off u (lk s.hp b)):bE N' w p u:=by
 cases hb:lk s.hp b with
 |none=>rw[hb] at hx;exact hx.elim
 | some box=>
   rw[hb] at h hx h2;have hre:=(g.boxes b box hb);cases box with
   | var cells=>
     simp only[Tn] at h;split at h
     ·rename_i ps hps;simp only[Option.some.injEq] at h;subst h;simp only[aX] at hx;subst hx;obtain⟨cur,e,hg,hc⟩:=hre;rw[bF] at hc;have hc':=q9 hps hc;simp only[bE];refine⟨R.blk b,0,cur,e,(0,0),by simp,h2 _ rfl,hg,?_⟩;have:gq (aT c R s.hp) w ps (cur.toList.drop 0):=by rw[dh];simpa using hc'.fp
      exact bX (fun r _ h=>hN r h) (fun _ _ _=>rfl) _ _ this
     cases h
   | sD cells=>
     simp only[Tn,Option.some.injEq] at h;subst h;simp only[aX] at hx;subst hx;obtain⟨cur,e,fr,hg,hn,hc⟩:=hre;simp only[bE];exact⟨R.blk b,0,cur,e,fr,by simp,fun x=>hn (hN _ x),hg,by simpa using bX (fun r _ h=>hN r h) (fun _ _ _=>rfl) _ _ hc⟩
   |arr e v st rows=>cases h
   |kE v st rows=>cases h
   |tr _ _ _ _=>cases h
   |dN _ _ _ _ _ _=>cases h
   |mp _ _ _=>cases h
   |fP _ _ _ _ _ _ _ _ _=>cases h
theorem aa9 {N:Nat→Prop}{nn:Bool}{st lo hi:Nat}{rows:List (List PV)}{u:Value}(h:bE N w (.sl nn st rows) u)(hok:uw lo hi u) :
  bE N w (.sl false st (Kl rows lo hi)) (jD st lo hi u)∧lo≤hi∧hi≤rows.length:=by
 simp only[bE] at h;obtain⟨p,len,cap,rfl,rfl,⟨h1,h2⟩,h3,h4⟩:=h;simp only[uw] at hok;obtain⟨k1,k2⟩:=hok;refine⟨?_,k1,k2⟩;have hlen:(Kl rows lo hi).length=hi-lo:=by simp only[Kl,List.length_take,List.length_drop];omega
 cases p with
 | none=>
   have hc:=(h3 rfl).2;simp only[jD,bE];exact⟨none,0,0,rfl,by rw[hlen];omega,⟨Nat.le_refl _,by omega⟩,fun _=>⟨by trivial,by trivial⟩,fun a e=>by cases e⟩
 | some a=>
   simp only[jD,bE];refine⟨_,_,_,rfl,hlen.symm,⟨by omega,by omega⟩,fun e=>(by cases e),fun ad e=>?_⟩;simp only[Option.some.injEq] at e;subst e;by_cases hcl:cap=lo
   ·refine .inl (List.eq_nil_of_length_eq_zero ?_);rw[hlen];omega
   rw[if_neg hcl];rcases h4 a rfl with h5|⟨h5,h6,cur,e,fr,h7,h8⟩
   ·refine .inl (List.eq_nil_of_length_eq_zero ?_);have:=congrArg List.length h5;simp only[List.length_nil] at this;rw[hlen];omega
   obtain⟨g,o,sp⟩:=a;simp only at h5 h6 h7 h8;subst h5;rw[addr_add];refine .inr ⟨rfl,h6,cur,e,fr,h7,?_⟩;have h9:=lQ (hi-lo) (mG lo h8);rw[List.drop_drop] at h9;exact h9
mutual
theorem rf (g:bB c R s a w){H:List (Nat×aA)}(hH:∀b box,lk H b=some box→lk s.hp b=some box){N':Nat→Prop}(hN:∀r,N' r→aT c R s.hp r) :
  ∀(x:AV) (p:PV) (u:Value),(∀b,b∈refs x→∀r,aI R b r (lk s.hp b)→¬N' r)→vw H x=some p→ai (aT c R s.hp) w s.hp R x u→bE N' w p u
 | .pv q,p,u,_,h,hx=>by
   simp only[vw,Option.some.injEq] at h;subst h;simp only[ai] at hx;exact dw (fun r _ h=>hN r h) (fun _ _ _=>rfl) _ _ hx
 | .aB b ver,p,u,h2,h,hx=>by
   simp only[vw] at h;simp only[ai] at hx;cases hb:lk H b with
   |none=>rw[hb] at h;cases h
   | some box=>
     rw[hb,←hH _ _ hb] at h;exact pu g h hN (h2 b (by simp[refs])) hx
 | .ptr b off,p,u,h2,h,hx=>by
   simp only[vw] at h;simp only[ai] at hx;cases hb:lk H b with
   |none=>rw[hb] at h;cases h
   | some box=>
     rw[hb,←hH _ _ hb] at h;exact Di g h hN (h2 b (by simp[refs])) hx
 |.bn b ver i off,p,u,_,h,_=>by simp[vw] at h
 | .sub b ver st lo hi,p,u,h2,h,hx=>by
   simp only[vw] at h;simp only[ai] at hx;obtain⟨u',hx,hok,rfl⟩:=hx;unfold adC at h;split at h
   ·rename_i nn st' rows hv;split at h
    ·rename_i hst;simp only[Option.some.injEq] at h;subst h;have:=Nat.eq_of_beq_eq_true hst;subst this;cases hb:lk H b with
     |none=>rw[hb] at hv;cases hv
     | some box=>
       rw[hb,←hH _ _ hb] at hv;exact (aa9 (pu g hv hN (h2 b (by simp[refs])) hx) hok).1
    cases h
   cases h
 | .agg cs,p,u,h2,h,hx=>by
   simp only[vw] at h;split at h
   ·rename_i ps hps;simp only[Option.some.injEq] at h;subst h;simp only[ai] at hx;obtain⟨vs,rfl,hx⟩:=hx;simp only[bE];exact⟨vs,rfl,Fw g hH hN cs ps _ (fun b hb=>h2 b (by simpa[refs] using hb)) hps hx⟩
   cases h
 | .dn cs,p,u,h2,h,hx=>by
   simp only[vw] at h;split at h
   ·rename_i ps hps;simp only[Option.some.injEq] at h;subst h;simp only[ai] at hx;obtain⟨vs,rfl,hx⟩:=hx;simp only[bE];exact⟨vs,rfl,iF g hH hN cs ps _ (fun b hb=>h2 b (by simpa[refs] using hb)) hps hx⟩
   cases h
 | .fn f x y,p,u,h2,h,hx=>by
   simp only[vw] at h;split at h
   ·rename_i p1 p2 hp1 hp2;simp only[Option.some.injEq] at h;subst h;simp only[ai] at hx;obtain⟨vs,us,rfl,hx1,hx2⟩:=hx;simp only[bE];exact⟨vs,us,rfl,iF g hH hN x p1 _ (fun b hb=>h2 b (by simp only[refs,List.mem_append];exact .inl hb)) hp1 hx1,
     iF g hH hN y p2 _ (fun b hb=>h2 b (by simp only[refs,List.mem_append];exact .inr hb)) hp2 hx2⟩
   cases h
theorem Fw (g:bB c R s a w){H:List (Nat×aA)}(hH:∀b box,lk H b=some box→lk s.hp b=some box){N':Nat→Prop}(hN:∀r,N' r→aT c R s.hp r) :
  ∀(xs:List AV) (ps:List PV) (us:List Value),(∀b,b∈dY xs→∀r,aI R b r (lk s.hp b)→¬N' r)→I6 H xs=some ps→bN (aT c R s.hp) w s.hp R xs us→iR N' w ps us
 | [],ps,us,_,h,hx=>by
   simp only[I6,Option.some.injEq] at h;subst h;simpa only[bN,iR] using hx
 | x::xs,ps,us,h2,h,hx=>by
   simp only[I6] at h;split at h
   ·rename_i p hp;split at h
    ·rename_i t ht;simp only[Option.some.injEq] at h;subst h;simp only[bN] at hx;obtain⟨v,r,rfl,h1,h3,h4⟩:=hx;simp only[iR];exact⟨v,r,rfl,h1,rf g hH hN x p v (fun b hb=>h2 b (by simp only[dY,List.mem_append];exact .inl hb)) hp h3,
      Fw g hH hN xs t r (fun b hb=>h2 b (by simp only[dY,List.mem_append];exact .inr hb)) ht h4⟩
    cases h
   cases h
theorem iF (g:bB c R s a w){H:List (Nat×aA)}(hH:∀b box,lk H b=some box→lk s.hp b=some box){N':Nat→Prop}(hN:∀r,N' r→aT c R s.hp r) :
  ∀(xs:List AV) (ps:List PV) (us:List Value),(∀b,b∈dY xs→∀r,aI R b r (lk s.hp b)→¬N' r)→I6 H xs=some ps→bT (aT c R s.hp) w s.hp R xs us→dX N' w ps us
 | [],ps,us,_,h,hx=>by
   simp only[I6,Option.some.injEq] at h;subst h;simpa only[bT,dX] using hx
 | x::xs,ps,us,h2,h,hx=>by
   simp only[I6] at h;split at h
   ·rename_i p hp;split at h
    ·rename_i t ht;simp only[Option.some.injEq] at h;subst h;simp only[bT] at hx;obtain⟨v,r,rfl,h3,h4⟩:=hx;simp only[dX];exact⟨v,r,rfl,rf g hH hN x p v (fun b hb=>h2 b (by simp only[dY,List.mem_append];exact .inl hb)) hp h3,
      iF g hH hN xs t r (fun b hb=>h2 b (by simp only[dY,List.mem_append];exact .inr hb)) ht h4⟩
    cases h
   cases h
end
theorem tF (g:bB c R s a w)(hT:bO P T){H:List (Nat×aA)}(hH:∀b box,lk H b=some box→lk s.hp b=some box){t ty:TypeId}{x:AV}{K:AV→Prop}
  (h:ES T H t x K) {u:Value} (hx:ai (aT c R s.hp) w s.hp R x u) :
  ∃y z,(Builtin.len_ #[t] ty #[u]).run P w=.ok y w∧K z∧ai (aT c R s.hp) w s.hp R z y:=by
 unfold ES at h;split at h;rotate_left;cases h
 rename_i i hi;obtain⟨d,hd,iE⟩:=(hT t i hi).iM;split at h
 ·rename_i hte;have hd':P.underlying t=some .string:=by
   rw[hte] at iE;cases d<;>simp[di] at iE
   exact hd
  split at h;rotate_left;cases h
  rename_i str;simp only[ai,bE] at hx;subst hx;exact⟨.int .i64 str.size,_,by simp[Builtin.len_,run_underlying hd',goInt],h,by simp only[ai,bE]⟩
 ·rename_i e hte;have hd':P.underlying t=some (.slice e):=by
   rw[hte] at iE;cases d<;>simp[di] at iE
   subst iE;exact hd
  split at h
  ·rename_i n cp;simp only[ai,bE] at hx;subst hx;exact⟨.int .i64 n,_,by simp[Builtin.len_,run_underlying hd',goInt],h,by simp only[ai,bE]⟩
  split at h
  ·rename_i nn st rows hv;have:=rf g hH (N':=fun _=>False) (fun _ h=>h.elim) x _ u (fun _ _ _ _ h=>h) hv hx;simp only[bE] at this;obtain⟨p,len,cap,rfl,rfl,_⟩:=this;exact⟨.int .i64 rows.length,_,by simp[Builtin.len_,run_underlying hd',goInt],h,by simp only[ai,bE]⟩
  exact h.elim
 ·rename_i n e hte;have hd':P.underlying t=some (.array n e):=by
   rw[hte] at iE;cases d<;>simp[di] at iE
   obtain⟨rfl,rfl⟩:=iE;exact hd
  exact⟨.int .i64 n,_,by simp[Builtin.len_,run_underlying hd',goInt],h,by simp only[ai,bE]⟩
 exact h.elim
theorem Fx {N:Nat→Prop}:∀{bs:List UInt8} {vs:List Value},bK N w 1 (bs.map wX) vs→vs.take bs.length=bs.map fun b=>Value.int .u8 b.toNat
 |[],vs,_=>by simp
 | b::bs,vs,h=>by
   simp only[List.map_cons,bK,wX,gq] at h;obtain⟨_,⟨v,r,rfl,_,hv,_⟩,h3⟩:=h;simp only[bE] at hv;subst hv;simp only[List.drop_succ_cons,List.drop_zero] at h3;simp[Fx h3]
theorem foldl_push (bs:List UInt8):∀acc:ByteArray,(bs.map fun b=>(b.toNat:Int)).foldl (fun r n=>r.push (UInt8.ofNat n.toNat)) acc=⟨acc.data++bs.toArray⟩:=by
 induction bs with
 |nil=>intro acc;simp
 | cons b bs ih=>
   intro acc;simp only[List.map_cons,List.foldl_cons];rw[ih];simp[ByteArray.push]
theorem MC (g:bB c R s a w)(hT:bO P T){H:List (Nat×aA)}(hH:∀b box,lk H b=some box→lk s.hp b=some box){src dst:TypeId}{x:AV}{K:AV→Prop}
  (h:u7 T H src dst x K) {u:Value} (hx:ai (aT c R s.hp) w s.hp R x u) :
  ∃y z,(convert src dst u).run P w=.ok y w∧K z∧ai (aT c R s.hp) w s.hp R z y:=by
 unfold u7 at h;split at h;rotate_left;cases h
 rename_i si dt hsi hdt;obtain⟨d1,hd1,Yb⟩:=(hT _ _ hsi).iM;obtain⟨d2,hd2,Yc⟩:=(hT _ _ hdt).iM;split at h
 ·rename_i k hk;have hd':P.underlying dst=some (.int k):=by
   rw[hk] at Yc;cases d2<;>simp[di] at Yc
   subst Yc;exact hd2
  split at h;rotate_left;cases h
  rename_i j n;simp only[ai,bE] at hx;subst hx;refine⟨.int k (k.wrap n),_,?_,h,by simp only[ai,bE]⟩;simp only[convert,Sem.run_bind,run_underlying hd1,run_underlying hd',Result.andThen_ok];cases d1<;>simp[Conv.intToInt]
 ·rename_i hk;have hd':P.underlying dst=some .string:=by
   rw[hk] at Yc;cases d2<;>simp[di] at Yc
   exact hd2
  split at h
  ·rename_i hs;have hs':P.underlying src=some .string:=by
    rw[hs] at Yb;cases d1<;>simp[di] at Yb
    exact hd1
   split at h;rotate_left;cases h
   rename_i str;simp only[ai,bE] at hx;subst hx;exact⟨.string str,_,by simp[convert,run_underlying hs',run_underlying hd'],h,by simp only[ai,bE]⟩
  ·rename_i e hs;have hs':P.underlying src=some (.slice e):=by
    rw[hs] at Yb;cases d1<;>simp[di] at Yb
    subst Yb;exact hd1
   split at h;rotate_left;cases h
   rename_i ei qZ;obtain⟨d3,hd3,aeI⟩:=(hT _ _ qZ).iM;split at h;rotate_left;cases h
   rename_i hu8;have Ig:P.underlying e=some (.int .u8):=by
    rw[hu8] at aeI;cases d3<;>simp[di] at aeI
    subst aeI;exact hd3
   split at h
   ·simp only[ai,bE] at hx;subst hx;exact⟨.string .empty,_,by simp[convert,run_underlying hs',run_underlying hd',run_underlying Ig,Conv.bytesToString],h,by simp only[ai,bE]⟩
   split at h
   ·rename_i nn st rows hv;split at h;rotate_left;cases h
    rename_i hst;have hst:=Nat.eq_of_beq_eq_true hst;subst hst;obtain⟨bs,rfl,hK⟩:=h;have:=rf g hH (N':=fun _=>False) (fun _ h=>h.elim) x _ u (fun _ _ _ _ h=>h) hv hx;simp only[bE] at this;obtain⟨p,len,cap,rfl,hl,hle,hnone,hsome⟩:=this;refine⟨.string ⟨bs.toArray⟩,_,?_,hK,by simp only[ai,bE]⟩;cases p with
    | none=>
      have:bs=[]:=by
       have:=(hnone rfl).2;exact List.eq_nil_of_length_eq_zero (by simp at hl;omega)
      subst this;simp[convert,run_underlying hs',run_underlying hd',run_underlying Ig,Conv.bytesToString];rfl
    | some ad=>
      have h6:=hsome _ rfl;have hload:(loadCells ad len).run P w=.ok ((bs.map fun b=>(b.toNat:Int)).map (Value.int .u8)).toArray w:=by
       obtain⟨blk,off,spot⟩:=ad;simp only at h6;rcases h6 with h6|⟨hsp,_,cur,e2,fr,hg,hr⟩
       ·have:bs=[]:=by simpa using h6
        subst this;simp at hl;subst hl;simp[loadCells,loadCellsFrom]
       subst hsp;obtain⟨h7,h8,h9⟩:=gD hr;have hb:=Fx hr;simp only[List.length_map] at hl h7;simp only[List.length_drop,Array.length_toList] at h7;have hz:bs.length=0∨off+len≤cur.size:=by omega
       rcases hz with hz|hz
       ·have:bs=[]:=List.eq_nil_of_length_eq_zero hz;subst this;simp at hl;subst hl;simp[loadCells,loadCellsFrom]
       rw[rM hg hz,hl,hb];simp
      simp only[convert,Sem.run_bind,run_underlying hs',run_underlying hd',run_underlying Ig,Result.andThen_ok];rw[run_bytesToString w ad len cap _ hload,foldl_push,show ByteArray.empty.data++bs.toArray=bs.toArray from by rw[show ByteArray.empty.data = #[] from rfl,Array.empty_append]]
   exact h.elim
  exact h.elim
 exact h.elim
def DY (o:Option Operand)(vs:List AV):Option (Option Int×List AV):=
 match o with
 |none=>some (none,vs)
 | some _=>match vs with
   |.pv (.sc (.int _ i))::r=>some (some i,r)
   |_=>none
def PX (lo:Int)(o:Option Int)(hi:Int)(X:Prop):Prop:=
 match o with
 |none=>X
 |some i=>lo≤i∧i≤hi∧X
def mh (rows:List (List PV))(lo hi:Option Int):List (List PV):=
 match lo,hi with
 |none,none=>rows
 |some l,none=>rows.drop l.toNat
 |none,some h=>rows.take h.toNat
 |some l,some h=>(rows.take h.toNat).drop l.toNat
def dQ (n:Nat)(hi:Option Int):Int:=
 match hi with
 |none=>n
 |some h=>h
def ag3 (str:ByteArray)(lo hi:Option Int):ByteArray:=
 match lo,hi with
 |none,none=>str
 |some l,none=>str.extract l.toNat str.size
 |none,some h=>str.extract 0 h.toNat
 |some l,some h=>str.extract l.toNat h.toNat
def inF (m h:Option Int)(n:Nat)(X:Prop):Prop:=
 match m with
 |none=>X
 |some _=>h=m∧0<n∧X
def ajp (m:Option Int)(nn:Bool)(st:Nat)(rows:List (List PV)):PV:=
 match m with
 |none=>.sl nn st rows
 |some _=>.P8 st rows
def ag4 (h m:Option Int):Bool:=
 match h,m with
 |none,some _=>false
 |_,_=>true
def oQ (T:Tab)(t:TypeId)(lo hi mx:Option Operand)(vs:List AV)(K:AV→Prop):Prop:=
 match vs with
 | x::r=>match DY lo r with
   | some (l,r1)=>match DY hi r1 with
     | some (h,r2)=>match DY mx r2 with
       | some (m,_)=>match lk T t with
         | some i=>match i.d with
           | .slt e=>match lk T e with
             | some ei=>match x with
               | .pv (.sc (.slice none 0 0))=>match m with
                 |none=>PX 0 h 0 (PX 0 l 0 (K (.pv (.sc (.slice none 0 0)))))
                 |some _=>False
               | .pv (.sl nn st rows)=>match Nat.beq st ei.size,ag4 h m with
                 |true,true=>inF m h rows.length (PX 0 m rows.length (PX 0 h (dQ rows.length m) (PX 0 l (dQ rows.length h) (K (.pv (ajp m nn st (mh rows l h)))))))
                 |_,_=>False
               | .pv (.P8 st rows)=>match Nat.beq st ei.size,m with
                 |true,some mi=>h=some mi∧PX 0 (some mi) rows.length (PX 0 h (dQ rows.length (some mi)) (PX 0 l (dQ rows.length h) (K (.pv (.P8 st (mh rows l h))))))
                 |_,_=>False
               |_=>False
             |none=>False
           | .Mw=>match x with
             | .pv (.sc (.string str))=>match m with
               |none=>PX 0 h str.size (PX 0 l (dQ str.size h) (K (.pv (.sc (.string (ag3 str l h))))))
               |some _=>False
             |_=>False
           |_=>False
         |none=>False
       |none=>False
     |none=>False
   |none=>False
 |[]=>False
def vI:Option Value→Option Int→Prop
 |none,none=>True
 |some (.int _ i),some j=>i=j
 |_,_=>False
theorem iH {N:Nat→Prop}{hp:List (Nat×aA)}{f:Operand→Value}{o:Option Operand}{rest:List Operand}{vs:List AV}{i:Option Int}{r:List AV}
  (h:FL (ai N w hp R) vs ((o.toList++rest).map f)) (e:DY o vs=some (i,r)):vI (o.map f) i∧FL (ai N w hp R) r (rest.map f):=by
 unfold DY at e;split at e
 ·simp only[Option.some.injEq,Prod.mk.injEq] at e;obtain⟨rfl,rfl⟩:=e;exact⟨trivial,by simpa using h⟩
 rename_i oo;split at e
 ·rename_i k j r';simp only[Option.some.injEq,Prod.mk.injEq] at e;obtain⟨rfl,rfl⟩:=e;simp only[Option.toList,List.cons_append,List.nil_append,List.map_cons] at h;obtain⟨v,r2,e1,h1,h2⟩:=h;simp only[List.cons.injEq] at e1;obtain⟨rfl,rfl⟩:=e1;simp only[ai,bE] at h1;exact⟨by simp[vI,h1],h2⟩
 cases e
theorem run_sliceBound {y:Nat}{k:IntKind}{i:Int}(code:BoundsCode)(h0:0≤i)(h1:i≤y):(Instr.sliceBound (.int k i) y code).run P w=.ok i.toNat w:=by
 simp[Instr.sliceBound,asIntOf,h0,h1]
theorem ja {Ve:Bool}{len cap:Nat}{lo hi mx:Option Value}{l h m:Option Int}(v1:vI lo l)(v2:vI hi h)(v3:vI mx m)(hle:len≤cap)
  (hm:∀i,m=some i→0≤i∧i≤len∧h.isSome=true) (hh:∀i,h=some i→0≤i∧i≤dQ len m) (hl:∀i,l=some i→0≤i∧i≤dQ len h) :
  (Instr.sliceBounds Ve len cap lo hi mx).run P w=.ok ((l.map Int.toNat).getD 0,(dQ len h).toNat,(m.map Int.toNat).getD cap) w ∧
   ((l.map Int.toNat).getD 0)≤(dQ len h).toNat∧(dQ len h).toNat≤len∧(dQ len h).toNat≤(m.map Int.toNat).getD cap:=by
 have hh2:0≤dQ len h∧dQ len h≤len∧dQ len h≤(((m.map Int.toNat).getD cap:Nat):Int):=by
  cases h with
  | none=>
    cases m with
    |none=>simp[dQ];omega
    |some mi=>have:=(hm mi rfl).2.2;simp at this
  | some hi'=>
    have:=hh hi' rfl;cases m with
    |none=>simp[dQ] at this ⊢;omega
    |some mi=>have h2:=hm mi rfl;simp[dQ] at this ⊢;omega
 have hl2:(((l.map Int.toNat).getD 0:Nat):Int)≤dQ len h:=by
  cases l with
  |none=>simp;omega
  |some li=>have:=hl li rfl;simp;omega
 refine⟨?_,by omega,by omega,by omega⟩;have h1:∀code,(∀v,mx=some v→(Instr.sliceBound v cap code).run P w=.ok ((m.map Int.toNat).getD cap) w):=by
  intro code v hv;subst hv;cases m with
  |none=>cases v<;>exact v3.elim
  | some mi=>
    cases v<;>simp only[vI] at v3
    subst v3;have:=hm _ rfl;simp[run_sliceBound code this.1 (show _≤((cap:Nat):Int) by omega)]
 have h2:∀code,(∀v,hi=some v→(Instr.sliceBound v ((m.map Int.toNat).getD cap) code).run P w=.ok (dQ len h).toNat w):=by
  intro code v hv;subst hv;cases h with
  |none=>cases v<;>exact v2.elim
  | some mi=>
    cases v<;>simp only[vI] at v2
    subst v2;simp only[dQ] at hh2 ⊢;exact run_sliceBound code hh2.1 hh2.2.2
 have h3:∀code,(∀v,lo=some v→(Instr.sliceBound v (dQ len h).toNat code).run P w=.ok ((l.map Int.toNat).getD 0) w):=by
  intro code v hv;subst hv;cases l with
  |none=>cases v<;>exact v1.elim
  | some mi=>
    cases v<;>simp only[vI] at v1
    subst v1;have:=hl _ rfl;simp only[Option.map_some,Option.getD_some];exact run_sliceBound code this.1 (by omega)
 have hi0:hi=none→h=none:=fun e=>by subst e;cases h with
  |none=>rfl
  |some _=>exact v2.elim
 have lo0:lo=none→l=none:=fun e=>by subst e;cases l with
  |none=>rfl
  |some _=>exact v1.elim
 have mx0:mx=none→m=none:=fun e=>by subst e;cases m with
  |none=>rfl
  |some _=>exact v3.elim
 cases mx with
 | none=>
   have:=mx0 rfl;subst this;cases hi with
   | none=>
     have:=hi0 rfl;subst this;cases lo with
     |none=>have:=lo0 rfl;subst this;simp[Instr.sliceBounds,dQ]
     |some lv=>simp only[Instr.sliceBounds,Sem.run_bind,Sem.run_pure,Result.andThen_ok];have:=h3 .sliceB lv rfl;simp[dQ] at this ⊢;simp[this]
   | some hv=>
     cases lo with
     |none=>have:=lo0 rfl;subst this;have:=h2 (if Ve then .sliceAcap else .sliceAlen) hv rfl;simp at this;simp[Instr.sliceBounds,this]
     |some lv=>have a1:=h2 (if Ve then .sliceAcap else .sliceAlen) hv rfl;simp at a1;have a2:=h3 .sliceB lv rfl;simp[Instr.sliceBounds,a1,a2]
 | some mv=>
   have b1:=h1 (if Ve then .slice3Acap else .slice3Alen) mv rfl;cases hi with
   | none=>
     have:=hi0 rfl;subst this;cases m with
     |none=>cases mv<;>exact v3.elim
     |some mi=>have:=(hm mi rfl).2.2;simp at this
   | some hv=>
     have b2:=h2 .slice3B hv rfl;cases lo with
     |none=>have:=lo0 rfl;subst this;simp[Instr.sliceBounds,b1,b2]
     |some lv=>have b3:=h3 .slice3C lv rfl;simp[Instr.sliceBounds,b1,b2,b3]
theorem kK {lo hi:Int}{o:Option Int}{X:Prop}(h:PX lo o hi X):X∧∀i,o=some i→lo≤i∧i≤hi:=by
 cases o with
 |none=>exact⟨h,fun i e=>by cases e⟩
 |some j=>obtain⟨a,b,c⟩:=h;exact⟨c,fun i e=>by simp only[Option.some.injEq] at e;subst e;exact⟨a,b⟩⟩
theorem Tq (rows:List (List PV))(l h:Option Int):mh rows l h=(rows.take (dQ rows.length h).toNat).drop ((l.map Int.toNat).getD 0):=by
 cases l<;>cases h<;>simp[mh,dQ]
theorem Yd {m h:Option Int}{n:Nat}{X:Prop}(e:inF m h n X):X∧∀i,m=some i→h=m∧0<n:=by
 cases m with
 |none=>exact⟨e,fun i e=>by cases e⟩
 |some j=>obtain⟨a,b,c⟩:=e;exact⟨c,fun _ _=>⟨a,b⟩⟩
theorem JC {N:Nat→Prop}{nn:Bool}{st:Nat}{rows:List (List PV)}{p:Option Addr}{n cap:Nat}(h:bE N w (.sl nn st rows) (.slice p n cap))(hc:cap=n)(hp:p≠none):bE N w (.P8 st rows) (.slice p n cap):=by
 simp only[bE] at h ⊢;obtain⟨p',l',c',e,rfl,⟨h1,h2⟩,h3,h4⟩:=h;simp only[Value.slice.injEq] at e;obtain⟨rfl,rfl,rfl⟩:=e;subst hc;cases p with
 |none=>exact absurd rfl hp
 |some a=>exact⟨a,rfl,h2,h4 a rfl⟩
theorem I4 {N:Nat→Prop}{st:Nat}{rows:List (List PV)}{v:Value}(h:bE N w (.P8 st rows) v):bE N w (.sl true st rows) v:=by
 simp only[bE] at h ⊢;obtain⟨a,rfl,h2,h3⟩:=h;exact⟨_,_,_,rfl,rfl,⟨Nat.le_refl _,h2⟩,fun e=>(by cases e),fun b e=>by cases e;exact h3⟩
theorem zP (g:bB c R s a w)(hT:bO P T){t:TypeId}{x0:Operand}{lo hi mx:Option Operand}{vs:List AV}{K:AV→Prop}(h:oQ T t lo hi mx vs K)
  (hv:FL (ai (aT c R s.hp) w s.hp R) vs ((x0::(lo.toList++(hi.toList++mx.toList))).map a.eval)) :
  ∃y z,(Instr.sliceAt t (a.eval x0) (lo.map a.eval) (hi.map a.eval) (mx.map a.eval)).run P w=.ok y w∧K z∧ai (aT c R s.hp) w s.hp R z y:=by
 unfold oQ at h;split at h;rotate_left;cases h
 rename_i x r;simp only[List.map_cons] at hv;obtain⟨u,r',e1,hx,hv⟩:=hv;simp only[List.cons.injEq] at e1;obtain⟨e1,rfl⟩:=e1;rw[e1];split at h;rotate_left;cases h
 rename_i l r1 hl;split at h;rotate_left;cases h
 rename_i hh r2 hhi;split at h;rotate_left;cases h
 rename_i m r3 hm;obtain⟨v1,hv⟩:=iH hv hl;obtain⟨v2,hv⟩:=iH hv hhi;have hv':FL (ai (aT c R s.hp) w s.hp R) r2 ((mx.toList++[]).map a.eval):=by simpa using hv
 obtain⟨v3,_⟩:=iH hv' hm;split at h;rotate_left;cases h
 rename_i i hi';obtain⟨d,hd,iE⟩:=(hT t i hi').iM;split at h
 ·rename_i e hte;have hd':P.underlying t=some (.slice e):=by
   rw[hte] at iE;cases d<;>simp[di] at iE
   subst iE;exact hd
  split at h;rotate_left;cases h
  rename_i ei qZ;have jd:=hT _ _ qZ;split at h
  ·split at h
   ·obtain⟨h,k2⟩:=kK h;obtain⟨h,k3⟩:=kK h;simp only[ai,bE] at hx;subst hx;have hz:(dQ 0 hh)=0:=by
     cases hh with
     |none=>rfl
     |some j=>have:=k2 j rfl;simp only[dQ];omega
    have lz:(l.map Int.toNat).getD 0=0:=by
     cases l with
     |none=>rfl
     |some j=>have:=k3 j rfl;simp;omega
    obtain⟨hrun,q1,q2,q3⟩:=ja (P:=P) (w:=w) (Ve:=true) (len:=0) (cap:=0) v1 v2 v3 (Nat.le_refl _) (fun i e=>by cases e) k2 (fun i e=>by rw[hz];exact k3 i e);rw[hz,lz] at hrun;have hrun':(Instr.sliceAt t (.slice none 0 0) (lo.map a.eval) (hi.map a.eval) (mx.map a.eval)).run P w=.ok (.slice none 0 0) w:=by
     simp only[Instr.sliceAt,Instr.slice,Sem.run_bind,run_underlying hd',Result.andThen_ok,hrun,jd.run_sizeOf,Sem.run_pure];simp
    exact⟨_,_,hrun',h,by simp only[ai,bE]⟩
   exact h.elim
  ·rename_i nn st rows;split at h;rotate_left;cases h
   rename_i hst hok;have hst:=Nat.eq_of_beq_eq_true hst;obtain⟨h,k0⟩:=Yd h;obtain⟨h,k1⟩:=kK h;obtain⟨h,k2⟩:=kK h;obtain⟨h,k3⟩:=kK h;simp only[ai] at hx;have hx':=hx;simp only[bE] at hx';obtain⟨p,len,cap,rfl,rfl,⟨hle,hcm⟩,hnone,hsome⟩:=hx';obtain⟨hrun,q1,q2,q3⟩:=ja (P:=P) (w:=w) (Ve:=true) v1 v2 v3 hle (fun i e=>⟨(k1 i e).1,(k1 i e).2,by
    subst e;cases hh with
    |none=>simp[ag4] at hok
    |some _=>rfl⟩) k2 k3
   have hrun':(Instr.sliceAt t (.slice p rows.length cap) (lo.map a.eval) (hi.map a.eval) (mx.map a.eval)).run P w =
     .ok (.slice (if (m.map Int.toNat).getD cap=(l.map Int.toNat).getD 0 then p else p.map (·.add ((l.map Int.toNat).getD 0*ei.size)))
      ((dQ rows.length hh).toNat-(l.map Int.toNat).getD 0) ((m.map Int.toNat).getD cap-(l.map Int.toNat).getD 0)) w:=by
    simp only[Instr.sliceAt,Instr.slice,Sem.run_bind,run_underlying hd',Result.andThen_ok,hrun,jd.run_sizeOf,Sem.run_pure]
   have hrep:bE (aT c R s.hp) w (.sl nn st (mh rows l hh)) (.slice (if (m.map Int.toNat).getD cap=(l.map Int.toNat).getD 0 then p else p.map (·.add ((l.map Int.toNat).getD 0*ei.size))) ((dQ rows.length hh).toNat-(l.map Int.toNat).getD 0) ((m.map Int.toNat).getD cap-(l.map Int.toNat).getD 0)):=by
     rw[Tq];simp only[bE];refine⟨_,_,_,rfl,by simp;omega,⟨by omega,?_⟩,?_,?_⟩
     ·cases m with
      |none=>simp;omega
      |some mi=>have:=(k1 mi rfl);simp;omega
     ·intro hp';have:p=none:=by
       split at hp'
       ·exact hp'
       cases p with
       |none=>rfl
       |some _=>simp at hp'
      have:=hnone this;refine⟨this.1,?_⟩;cases m with
      |none=>simp;omega
      |some mi=>have:=k1 mi rfl;simp;omega
     intro ad hp';cases p with
     |none=>split at hp'<;>simp at hp'
     | some pa=>
       have h6:=hsome _ rfl;obtain⟨blk,off,spot⟩:=pa;simp only at h6;split at hp'
       ·rename_i hml;simp only[Option.some.injEq] at hp';subst hp';refine .inl ?_;apply List.eq_nil_of_length_eq_zero;simp;omega
       rcases h6 with h6|⟨hs,hn,cur,e2,fr,hg,hr⟩
       ·subst h6;exact .inl (by simp)
       subst hs;simp only[Option.map_some,Option.some.injEq,addr_add] at hp';subst hp';refine .inr ⟨rfl,hn,cur,e2,fr,hg,?_⟩;have:=mG ((l.map Int.toNat).getD 0) (lQ (dQ rows.length hh).toNat hr);rw[List.drop_drop,hst] at this;rw[hst];exact this
   refine⟨_,_,hrun',h,?_⟩;simp only[ai];cases m with
   |none=>exact hrep
   | some mi=>
     obtain⟨z1,z2⟩:=k0 mi rfl;refine JC hrep ?_ ?_
     ·subst z1;simp[dQ]
     have hp:p≠none:=fun e=>by have:=(hnone e).2;omega
     split
     ·exact hp
     cases p with
     |none=>exact absurd rfl hp
     |some _=>simp
  ·rename_i st rows;split at h;rotate_left;cases h
   rename_i mi hst;have hst:=Nat.eq_of_beq_eq_true hst;obtain⟨z1,h⟩:=h;obtain⟨h,k1⟩:=kK h;obtain⟨h,k2⟩:=kK h;obtain⟨h,k3⟩:=kK h;simp only[ai] at hx;have hx:=I4 hx;have hx':=hx;simp only[bE] at hx';obtain⟨p,len,cap,rfl,rfl,⟨hle,hcm⟩,hnone,hsome⟩:=hx';obtain⟨m,hm'⟩:∃m,m=some mi:=⟨_,rfl⟩;rw[←hm'] at k1 k2 v3 z1;obtain⟨hrun,q1,q2,q3⟩:=ja (P:=P) (w:=w) (Ve:=true) v1 v2 v3 hle (fun i e=>⟨(k1 i e).1,(k1 i e).2,by
    rw[z1,e];rfl⟩) k2 k3
   have hrun':(Instr.sliceAt t (.slice p rows.length cap) (lo.map a.eval) (hi.map a.eval) (mx.map a.eval)).run P w =
     .ok (.slice (if (m.map Int.toNat).getD cap=(l.map Int.toNat).getD 0 then p else p.map (·.add ((l.map Int.toNat).getD 0*ei.size)))
      ((dQ rows.length hh).toNat-(l.map Int.toNat).getD 0) ((m.map Int.toNat).getD cap-(l.map Int.toNat).getD 0)) w:=by
    simp only[Instr.sliceAt,Instr.slice,Sem.run_bind,run_underlying hd',Result.andThen_ok,hrun,jd.run_sizeOf,Sem.run_pure]
   have hrep:bE (aT c R s.hp) w (.sl true st (mh rows l hh)) (.slice (if (m.map Int.toNat).getD cap=(l.map Int.toNat).getD 0 then p else p.map (·.add ((l.map Int.toNat).getD 0*ei.size))) ((dQ rows.length hh).toNat-(l.map Int.toNat).getD 0) ((m.map Int.toNat).getD cap-(l.map Int.toNat).getD 0)):=by
     rw[Tq];simp only[bE];refine⟨_,_,_,rfl,by simp;omega,⟨by omega,?_⟩,?_,?_⟩
     ·cases m with
      |none=>simp;omega
      |some mi=>have:=(k1 mi rfl);simp;omega
     ·intro hp';have:p=none:=by
       split at hp'
       ·exact hp'
       cases p with
       |none=>rfl
       |some _=>simp at hp'
      have:=hnone this;refine⟨this.1,?_⟩;cases m with
      |none=>simp;omega
      |some mi=>have:=k1 mi rfl;simp;omega
     intro ad hp';cases p with
     |none=>split at hp'<;>simp at hp'
     | some pa=>
       have h6:=hsome _ rfl;obtain⟨blk,off,spot⟩:=pa;simp only at h6;split at hp'
       ·rename_i hml;simp only[Option.some.injEq] at hp';subst hp';refine .inl ?_;apply List.eq_nil_of_length_eq_zero;simp;omega
       rcases h6 with h6|⟨hs,hn,cur,e2,fr,hg,hr⟩
       ·subst h6;exact .inl (by simp)
       subst hs;simp only[Option.map_some,Option.some.injEq,addr_add] at hp';subst hp';refine .inr ⟨rfl,hn,cur,e2,fr,hg,?_⟩;have:=mG ((l.map Int.toNat).getD 0) (lQ (dQ rows.length hh).toNat hr);rw[List.drop_drop,hst] at this;rw[hst];exact this
   refine⟨_,_,hrun',h,?_⟩;simp only[ai];refine JC hrep ?_ ?_
   ·subst hm';subst z1;simp[dQ]
   have hp:p≠none:=fun e=>by have:=(hnone e).1;cases this
   split
   ·exact hp
   cases p with
   |none=>exact absurd rfl hp
   |some _=>simp
  exact h.elim
 ·rename_i hte;have hd':P.underlying t=some .string:=by
   rw[hte] at iE;cases d<;>simp[di] at iE
   exact hd
  split at h;rotate_left;cases h
  rename_i str;simp only[ai,bE] at hx;subst hx;split at h;rotate_left;cases h
  obtain⟨h,k2⟩:=kK h;obtain⟨h,k3⟩:=kK h;have mxn:mx=none:=by
   cases mx with
   |none=>rfl
   |some v=>simp only[Option.map_some] at v3;cases ev:a.eval v<;>rw[ev] at v3<;>exact v3.elim
  subst mxn;obtain⟨hrun,q1,q2,q3⟩:=ja (P:=P) (w:=w) (Ve:=false) (len:=str.size) (cap:=str.size) v1 v2 v3 (Nat.le_refl _) (fun i e=>by cases e) k2 k3;have hrun':(Instr.sliceAt t (.string str) (lo.map a.eval) (hi.map a.eval) none).run P w=.ok (.string (str.extract ((l.map Int.toNat).getD 0) (dQ str.size hh).toNat)) w:=by
   simp only[Option.map_none] at hrun;simp only[Instr.sliceAt,Instr.slice,Sem.run_bind,run_underlying hd',Result.andThen_ok,hrun,Sem.run_pure];simp[hrun]
  refine⟨_,_,hrun',h,?_⟩;simp only[ai,bE];have hsz:str.extract 0 str.size=str:=by
   rw[ByteArray.extract_zero_size]
  cases l<;>cases hh<;>simp[ag3,dQ,hsz]
 exact h.elim
end
def Real.at (R:Real)(b g:Nat)(nil:Bool)(cap:Nat):Real:=
 { blk:=fun b'=>if b'=b then g else R.blk b',nil:=fun b'=>if b'=b then nil else R.nil b',cap:=fun b'=>if b'=b then (cap,[]) else R.cap b',Y:=R.Y }
theorem Real.zJ (R:Real)(b g:Nat)(nil:Bool)(cap:Nat):∀b',b'≠b→(R.at b g nil cap).blk b'=R.blk b'∧(R.at b g nil cap).nil b'=R.nil b'∧(R.at b g nil cap).cap b'=R.cap b':=
 fun b' h=>by simp[Real.at,h]
section
variable {P:Program}{T:Tab}{c:Ctx}{R:Real}{s:AS}{a:Act}{w:World}
theorem bB.QZ (g:bB c R s a w){id:Nat}(hf:lk s.hp id=none){o:Obj}{w':World}(hw':w'.heap=w.heap.push o∧w'.os=w.os∧w'.tape=w.tape∧w'.output=w.output)
  {R':Real} (hR:∀b',b'≠id→R'.blk b'=R.blk b'∧R'.nil b'=R.nil b'∧R'.cap b'=R.cap b') (hb:R'.nil id=false→R'.blk id=w.heap.size) {box:aA}
  (uP:∀cells,box=.var cells→R'.nil id=false)
  (EZ:(∀v x,ai (aT c R s.hp) w s.hp R v x→ai (aT c R' ((id,box)::s.hp)) w' ((id,box)::s.hp) R' v x) →
   eB (aT c R' ((id,box)::s.hp)) w' ((id,box)::s.hp) R' id box)
  (XZ:∀x y z u,box ≠ .tr x y z u:=by intros;intro h;cases h) (hY:R'.Y=R.Y:=by rfl) (hnf:∀a b c d e f g h i,box ≠ .fP a b c d e f g h i:=by intros;intro h;cases h) :
  bB c R' (s.app [(id,box)]) a w'∧(∀v x,ai (aT c R s.hp) w s.hp R v x→ai (aT c R' ((id,box)::s.hp)) w' ((id,box)::s.hp) R' v x):=by
 have r1:∀off v,aX R id off v (lk s.hp id)→aX R' id off v (some box):=fun off v h=>by rw[hf] at h;exact h.elim
 have r2:∀ver v,aS R id ver v (lk s.hp id)→aS R' id ver v (some box):=fun off v h=>by rw[hf] at h;exact h.elim
 have r3:∀ver i off v,aZ R id ver i off v (lk s.hp id)→aZ R' id ver i off v (some box):=fun _ _ _ v h=>by rw[hf] at h;exact h.elim
 have hown:∀r,aI R' id r (some box)→aI R id r (lk s.hp id)∨w.heap.size≤r:=by
  intro r h;refine .inr ?_;cases box with
  |var cells=>simp only[aI] at h;have:=hb (uP _ rfl);omega
  |sD _=>exact h.elim
  |arr _ _ _ _=>obtain⟨h1,h2⟩:=h;have:=hb h1;omega
  |kE _ _ _=>exact h.elim
  |tr x y z u=>exact absurd rfl (XZ x y z u)
  |dN _ _ _ _ _ _=>obtain⟨h1,h2⟩:=h;have:=hb h1;omega
  |mp _ _ _=>obtain⟨h1,h2⟩:=h;have:=hb h1;omega
  |fP _ _ _ _ _ _ _ _ _=>exact absurd rfl (hnf _ _ _ _ _ _ _ _ _)
 have hworld:nI (fun r=>aI R id r (lk s.hp id)) w w':=by
  refine⟨by rw[hw'.1];simp,fun r hr _=>?_,hw'.2.1,hw'.2.2.1,hw'.2.2.2⟩;rw[hw'.1,Array.getElem?_push];simp[Nat.ne_of_lt hr]
 obtain⟨m1,m2,m3,m4,m5⟩:=g.Kk hR r1 r2 r3 hown hworld hY;have hm:∀v x,ai (aT c R s.hp) w s.hp R v x→ai (aT c R' ((id,box)::s.hp)) w' ((id,box)::s.hp) R' v x:=fun v x h=>bZ m1 m2 m3 m4 m5 v x h
 exact⟨g.upd hR r1 r2 r3 hown hworld (EZ hm) hY,hm⟩
theorem bB.newVar (g:bB c R s a w){id:Nat}(hf:lk s.hp id=none){cells:List AV}{vs:Array Value}{t:TypeId}(hc:FC (ai (aT c R s.hp) w s.hp R) cells vs.toList) :
  ∃R',bB c R' (s.app [(id,.var cells)]) a { w with heap:=w.heap.push (.cells vs t) } ∧
   ai (aT c R' ((id,.var cells)::s.hp)) { w with heap:=w.heap.push (.cells vs t) } ((id,.var cells)::s.hp) R' (.ptr id 0) (.pointer (some ⟨w.heap.size,0,none⟩)):=by
 refine⟨R.at id w.heap.size false 0,?_,?_⟩
 ·refine (g.QZ (w':={ w with heap:=w.heap.push (.cells vs t) }) (box:=.var cells) hf (o:=.cells vs t) ⟨rfl,rfl,rfl,rfl⟩ (Real.zJ R id w.heap.size false 0)
   (fun _=>by simp[Real.at]) (fun _ _=>by simp[Real.at]) fun hm=>?_).1
  refine⟨vs,t,?_,?_⟩
  ·simp[Real.at]
  rw[bF];exact hc.imp hm
 simp only[ai,ax,if_true,aX];simp[Real.at]
theorem bB.Xd (g:bB c R s a w){id:Nat}(hf:lk s.hp id=none){e:TypeId}{st:Nat}{rows:List (List PV)}{w':World}{cur:Array Value}{cap:Nat}
  (hw':w'.heap=w.heap.push (.cells cur e)∧w'.os=w.os∧w'.tape=w.tape∧w'.output=w.output)
  (hle:rows.length≤cap) (hcm:cap≤maxLen) (hs:cur.size=cap*st) (hr:bK (aT c R s.hp) w st rows cur.toList) :
  ∃R',bB c R' (s.app [(id,.arr e 0 st rows)]) a w' ∧
   ai (aT c R' ((id,.arr e 0 st rows)::s.hp)) w' ((id,.arr e 0 st rows)::s.hp) R' (.aB id 0) (.slice (some ⟨w.heap.size,0,none⟩) rows.length cap):=by
 have hsl:bY (R.at id w.heap.size false cap) id rows.length=.slice (some ⟨w.heap.size,0,none⟩) rows.length cap:=by simp[bY,Real.at]
 refine⟨R.at id w.heap.size false cap,?_,?_⟩
 ·refine (g.QZ hf (o:=.cells cur e) hw' (Real.zJ R id _ _ _) (fun _=>by simp[Real.at]) (fun _ _=>by simp[Real.at]) fun hm=>?_).1;have hr':bK (aT c (R.at id w.heap.size false cap) ((id,aA.arr e 0 st rows)::s.hp)) w' st rows cur.toList:=by
   refine aV ?_ ?_ _ _ _ hr
   ·rintro r hlt (h|⟨b,h⟩)
    ·exact .inl h
    refine .inr ⟨b,?_⟩;by_cases eb:b=id
    ·subst eb;simp only[ax,if_true,aI] at h;simp[Real.at] at h;omega
    rw[ax,if_neg (fun x=>eb x.symm)] at h;exact fU (Real.zJ R id _ _ _ b eb) rfl h
   intro r hlt _;rw[hw'.1,Array.getElem?_push];simp[Nat.ne_of_lt hlt]
  obtain⟨t1,t2,t3⟩:=gD hr';refine⟨cur.toList.take (rows.length*st),?_,t2⟩;rw[hsl];refine⟨by simp only[List.length_take];omega,.inr ⟨w.heap.size,cap,cur,rfl,Nat.zero_le _,?_,hle,hcm,hs,rfl⟩⟩;rw[hw'.1];simp
 simp only[ai,ax,if_true,aS];exact⟨Nat.le_refl _,rfl,fun _=>hsl.symm⟩
theorem bB.freeze (g:bB c R s a w){b:Nat}{box bD:aA}(hb:lk s.hp b=some box)
  (hf:(∃e v st rows,box=.arr e v st rows∧bD=.kE v st rows)∨(∃cells ps,box=.var cells∧je cells=some ps∧bD=.sD ps)) :
  bB c R (s.app [(b,bD)]) a w∧(∀v x,ai (aT c R s.hp) w s.hp R v x→ai (aT c R ((b,bD)::s.hp)) w ((b,bD)::s.hp) R v x) ∧
   (∀r,aT c R ((b,bD)::s.hp) r→aT c R s.hp r)∧(∀r,aI R b r (lk s.hp b)→¬aT c R ((b,bD)::s.hp) r):=by
 have hR:∀b',b'≠b→R.blk b'=R.blk b'∧R.nil b'=R.nil b'∧R.cap b'=R.cap b':=fun _ _=>⟨rfl,rfl,rfl⟩
 have r1:∀off v,aX R b off v (lk s.hp b)→aX R b off v (some bD):=by
  intro off v h;rw[hb] at h;rcases hf with ⟨e,v',st,rows,rfl,rfl⟩|⟨cells,ps,rfl,_,rfl⟩
  ·exact h
  exact h
 have r2:∀ver v,aS R b ver v (lk s.hp b)→aS R b ver v (some bD):=by
  intro off v h;rw[hb] at h;rcases hf with ⟨e,v',st,rows,rfl,rfl⟩|⟨cells,ps,rfl,_,rfl⟩
  ·exact h
  exact h
 have r3:∀ver i off v,aZ R b ver i off v (lk s.hp b)→aZ R b ver i off v (some bD):=by
  intro _ _ off v h;rw[hb] at h;rcases hf with ⟨e,v',st,rows,rfl,rfl⟩|⟨cells,ps,rfl,_,rfl⟩
  ·exact h
  exact h
 have hno:∀r,¬aI R b r (some bD):=by
  intro r h;rcases hf with ⟨e,v',st,rows,rfl,rfl⟩|⟨cells,ps,rfl,_,rfl⟩<;>exact h
 have hown:∀r,aI R b r (some bD)→aI R b r (lk s.hp b)∨w.heap.size≤r:=fun r h=>(hno r h).elim
 obtain⟨m1,m2,m3,m4,m5⟩:=g.Kk hR r1 r2 r3 hown (nI.refl _ w);have uW:lk ((b,bD)::s.hp) b=some bD:=by rw[ax,if_pos rfl]
 have hsub:∀r,aT c R ((b,bD)::s.hp) r→aT c R s.hp r:=by
  rintro r (h|⟨b',h⟩)
  ·exact .inl h
  by_cases e:b'=b
  ·subst e;rw[uW] at h;exact (hno r h).elim
  rw[ax,if_neg (fun x=>e x.symm)] at h;exact .inr ⟨b',h⟩
 have hout:∀r,aI R b r (lk s.hp b)→¬aT c R ((b,bD)::s.hp) r:=by
  rintro r ho (h|⟨b',h⟩)
  ·exact g.free r ⟨b,ho⟩ h
  by_cases e:b'=b
  ·subst e;rw[uW] at h;exact hno r h
  rw[ax,if_neg (fun x=>e x.symm)] at h;exact e (g.inj b' b r h ho)
 refine⟨g.upd hR r1 r2 r3 hown (nI.refl _ w) ?_,fun v x h=>bZ m1 m2 m3 m4 m5 v x h,hsub,hout⟩;rcases hf with ⟨e,v',st,rows,rfl,rfl⟩|⟨cells,ps,rfl,hps,rfl⟩
 ·simp only[eB];refine pu g (b:=b) (ver:=v') (p:=.sl false st rows) ?_ hsub hout ?_
  ·rw[hb];simp[uM]
  rw[hb];refine⟨Nat.le_refl _,?_,fun _=>rfl⟩;unfold bY;split<;>rfl
 obtain⟨cur,e,hg,hc⟩:=(g.boxes b _ hb);rw[bF] at hc;have hc':=q9 hps hc;refine⟨cur,e,(0,0),hg,hout _ (by rw[hb];rfl),?_⟩;have:gq (aT c R s.hp) w ps cur.toList:=by rw[dh];exact hc'.fp
 exact bX (fun r _ h=>hsub r h) (fun _ _ _=>rfl) _ _ this
end
end Go.AX
end
