/-
  Conditions: none. A framework for walks: abstract values, memory, and conditions that suffice; the chapters in plain terms.
-/
import Derived.Laws.AppendOwn
import Derived.Orders
import Derived.Tactics
import Derived.RangeFuncWrites
import Derived.Laws.Cells
import Derived.Laws.MakeOwn
import Derived.Laws.CopyRow
import Derived.Laws.StructEq
import Derived.Laws.BytesString
set_option linter.unusedSectionVars false
set_option linter.unusedVariables false
set_option linter.unusedSimpArgs false
section
namespace Go.AX
inductive PV where
 |sc (v:Value)
 |agg (cs:List PV)
 |cO (vs:List PV)
 |sl (nn:Bool) (st:Nat) (rows:List (List PV))
 |dL (row:List PV) (off:Nat)
 |fn (f:Fn) (first bF:List PV)
 |junk
 /-- a slice without room behind it -/
 |NY (st:Nat) (rows:List (List PV))
inductive AV where
 |pv (p:PV)
 |agg (cs:List AV)
 |cO (vs:List AV)
 |ptr (b off:Nat)
 |dM (b ver i off:Nat)
 |aO (b ver:Nat)
 /-- the rows from lo to hi of a slice of qN own,of st cells each -/
 |sub (b ver st lo hi:Nat)
 |fn (f:Fn) (first bF:List AV)
inductive aF where
 |var (cells:List AV)
 |nR (cells:List PV)
 |arr (e:TypeId) (ver st:Nat) (rows:List (List PV))
 |dS (ver st:Nat) (rows:List (List PV))
 /-- of an iterator: what is still to be yielded;has the loop been left? -/
 |tr (y:Program×Nat) (ver:Nat) (rest:List (List PV)) (st:Option Bool)
 /-- an array of qN own,one of QW rows is laid open: it may have references -/
 |gy (e:TypeId) (ver st:Nat) (pre:List (List PV)) (row:List AV) (post:List (List PV))
 /-- a map of qN own,from integers to integers -/
 |mp (kk kv:IntKind) (es:List (Int×Int))
 /-- an array of qN own,each of QW rows may have,in column j,an array of its own (told so);one row may be laid open -/
 |iM (e:TypeId) (ver st j:Nat) (ed:TypeId) (sd:Nat) (pre:List (Bool×List PV)) (row:List AV) (post:List (Bool×List PV))
structure AS where
 tm:List (Nat×AV)
 nx:Nat
 hp:List (Nat×aF)
def lk {α:Type}:List (Nat×α)→Nat→Option α
 |[],_=>none
 | (k,v)::r,t=>match Nat.beq k t with
   |true=>some v
   |false=>lk r t
theorem aC {α:Type}(k:Nat)(v:α)(r:List (Nat×α))(t:Nat):lk ((k,v)::r) t=if k=t then some v else lk r t:=by
 simp only[lk];cases h:Nat.beq k t with
 |true=>simp[Nat.eq_of_beq_eq_true h]
 |false=>simp[Nat.ne_of_beq_eq_false h]
section
variable (N:Nat→Prop)(w:World)
mutual
def bJ:PV→Value→Prop
 |.sc x,v=>v=x
 |.agg cs,v=>∃vs:Array Value,v=.agg vs∧iX cs vs.toList
 |.cO cs,v=>∃vs:Array Value,v=.tuple vs∧eY cs vs.toList
 | .sl nn st rows,v=>∃(p:Option Addr) (len cap:Nat),v=.slice p len cap∧len=rows.length∧(len≤cap∧cap≤9223372036854775807)∧(p=none→nn=false∧cap=0) ∧
   ∀a,p=some a→rows=[]∨(a.spot=none∧¬N a.block∧∃cur e fr,w.heap[a.block]? = some (.cells cur e fr)∧cK st rows (cur.toList.drop a.off))
 | .dL row off,v=>∃(g base:Nat) (cur:Array Value) (e:TypeId) (fr:Nat×Nat),v=.pointer (some ⟨g,base+off,none⟩)∧¬N g ∧
   w.heap[g]? = some (.cells cur e fr)∧gU row (cur.toList.drop base)
 |.fn f first bF,v=>∃fs cs:Array Value,v=.func f fs cs∧eY first fs.toList∧eY bF cs.toList
 |.junk,_=>True
 | .NY st rows,v=>∃a:Addr,v=.slice (some a) rows.length rows.length∧rows.length≤9223372036854775807 ∧
   (rows=[]∨(a.spot=none∧¬N a.block∧∃cur e fr,w.heap[a.block]? = some (.cells cur e fr)∧cK st rows (cur.toList.drop a.off)))
def eY:List PV→List Value→Prop
 |[],vs=>vs=[]
 |p::ps,vs=>∃v r,vs=v::r∧bJ p v∧eY ps r
def iX:List PV→List Value→Prop
 |[],vs=>vs=[]
 |p::ps,vs=>∃v r,vs=v::r∧v.oneCell'=true∧bJ p v∧iX ps r
def gU:List PV→List Value→Prop
 |[],_=>True
 |p::ps,vs=>∃v r,vs=v::r∧v.oneCell'=true∧bJ p v∧gU ps r
def cK (st:Nat):List (List PV)→List Value→Prop
 |[],_=>True
 |row::rows,vs=>row.length=st∧gU row vs∧cK st rows (vs.drop st)
end
end
theorem size_of_getElem? {α:Type}{a:Array α}{i:Nat}{x:α}(h:a[i]? = some x):i<a.size:=(Array.getElem?_eq_some_iff.1 h).1
section
variable {N N':Nat→Prop}{w w':World}(hN:∀r,r<w.heap.size→N' r→N r)(hw:∀r,r<w.heap.size→¬N r→w'.heap[r]? = w.heap[r]?)
include hN hw
mutual
theorem dJ:∀(p:PV) (v:Value),bJ N w p v→bJ N' w' p v
 |.sc x,v=>by simp only[bJ];exact id
 |.agg cs,v=>by simp only[bJ];rintro⟨vs,h1,h2⟩;exact⟨vs,h1,GH cs _ h2⟩
 |.cO cs,v=>by simp only[bJ];rintro⟨vs,h1,h2⟩;exact⟨vs,h1,nX cs _ h2⟩
 | .sl nn st rows,v=>by
   simp only[bJ];rintro⟨p,len,cap,h1,h2,h3,h4,h5⟩
   refine⟨p,len,cap,h1,h2,h3,h4,fun a ha=>?_⟩;rcases h5 a ha with h7|⟨h6,h7,cur,e,fr,h8,h9⟩
   ·exact .inl h7
   have hs:=size_of_getElem? h8;exact .inr ⟨h6,fun h=>h7 (hN _ hs h),cur,e,fr,(hw _ hs h7).trans h8,aX st rows _ h9⟩
 | .dL row off,v=>by
   simp only[bJ];rintro⟨g,base,cur,e,fr,h1,h7,h8,h9⟩
   have hs:=size_of_getElem? h8;exact⟨g,base,cur,e,fr,h1,fun h=>h7 (hN _ hs h),(hw _ hs h7).trans h8,dQ row _ h9⟩
 | .fn f first bF,v=>by
   simp only[bJ];rintro⟨fs,cs,h1,h2,h3⟩;exact⟨fs,cs,h1,nX _ _ h2,nX _ _ h3⟩
 |.junk,v=>by simp only[bJ];exact id
 | .NY st rows,v=>by
   simp only[bJ];rintro⟨a,h1,h2,h5⟩
   refine⟨a,h1,h2,?_⟩;rcases h5 with h7|⟨h6,h7,cur,e,fr,h8,h9⟩
   ·exact .inl h7
   have hs:=size_of_getElem? h8;exact .inr ⟨h6,fun h=>h7 (hN _ hs h),cur,e,fr,(hw _ hs h7).trans h8,aX st rows _ h9⟩
theorem nX:∀(ps:List PV) (vs:List Value),eY N w ps vs→eY N' w' ps vs
 |[],vs=>by simp only[eY];exact id
 |p::ps,vs=>by simp only[eY];rintro⟨v,r,h1,h2,h3⟩;exact⟨v,r,h1,dJ p v h2,nX ps r h3⟩
theorem GH:∀(ps:List PV) (vs:List Value),iX N w ps vs→iX N' w' ps vs
 |[],vs=>by simp only[iX];exact id
 |p::ps,vs=>by simp only[iX];rintro⟨v,r,h1,h0,h2,h3⟩;exact⟨v,r,h1,h0,dJ p v h2,GH ps r h3⟩
theorem dQ:∀(ps:List PV) (vs:List Value),gU N w ps vs→gU N' w' ps vs
 |[],vs=>by simp only[gU];exact id
 |p::ps,vs=>by simp only[gU];rintro⟨v,r,h1,h0,h2,h3⟩;exact⟨v,r,h1,h0,dJ p v h2,dQ ps r h3⟩
theorem aX (st:Nat):∀(rows:List (List PV)) (vs:List Value),cK N w st rows vs→cK N' w' st rows vs
 |[],vs=>by simp only[cK];exact id
 |row::rows,vs=>by simp only[cK];rintro⟨h1,h2,h3⟩;exact⟨h1,dQ row _ h2,aX st rows _ h3⟩
end
end
structure mr (O:Nat→Prop)(w w':World):Prop where
 size:w.heap.size≤w'.heap.size
 keep:∀r,r<w.heap.size→¬O r→w'.heap[r]? = w.heap[r]?
 os:w'.os=w.os
 tape:w'.tape=w.tape
 output:w'.output=w.output
theorem mr.refl (O:Nat→Prop)(w:World):mr O w w:=⟨Nat.le_refl _,fun _ _ _=>rfl,rfl,rfl,rfl⟩
theorem mr.trans {O O':Nat→Prop}{w w1 w2:World}(h:mr O w w1)(h':mr O' w1 w2)(ho:∀r,r<w.heap.size→O' r→O r):mr O w w2:=
 ⟨Nat.le_trans h.size h'.size,fun r hr hn=>(h'.keep r (Nat.lt_of_lt_of_le hr h.size) fun x=>hn (ho r hr x)).trans (h.keep r hr hn),
  h'.os.trans h.os,h'.tape.trans h.tape,h'.output.trans h.output⟩
theorem mr.mono {O O':Nat→Prop}{w w1:World}(h:mr O w w1)(ho:∀r,O r→O' r):mr O' w w1:=
 ⟨h.size,fun r hr hn=>h.keep r hr fun x=>hn (ho r x),h.os,h.tape,h.output⟩
structure Dj (n0:Nat)(Z D:Nat→Prop)(w w':World):Prop where
 size:w.heap.size≤w'.heap.size
 keep:∀r o,w.heap[r]? = some o→¬Z r→(r<n0∨o.isCells=true∨D r)→w'.heap[r]? = some o
 os:w'.os=w.os
 tape:w'.tape=w.tape
 output:w'.output=w.output
theorem Dj.refl (n0:Nat)(Z D:Nat→Prop)(w:World):Dj n0 Z D w w:=⟨Nat.le_refl _,fun _ _ h _ _=>h,rfl,rfl,rfl⟩
theorem Dj.step {n0:Nat}{Z D O:Nat→Prop}{w w1 w2:World}(h:Dj n0 Z D w w1)(h':mr O w1 w2)(ho:∀r,r<w.heap.size→O r→Z r):Dj n0 Z D w w2:=
 ⟨Nat.le_trans h.size h'.size,fun r o hr hz hc=>by
   have hlt:=(Array.getElem?_eq_some_iff.1 hr).1;rw[h'.keep r (Nat.lt_of_lt_of_le hlt h.size) fun x=>hz (ho r hlt x)];exact h.keep r o hr hz hc,h'.os.trans h.os,h'.tape.trans h.tape,h'.output.trans h.output⟩
structure YS where
 Z:Nat→Prop
 D:Nat→Prop
 wy:World
 n0:Nat×(List (List PV)→Bool→(Nat→Prop)→(Nat→Prop)→World→Prop)
def YH (y:Program×Nat)(n0:Nat)(J:List (List PV)→Bool→(Nat→Prop)→(Nat→Prop)→World→Prop):Prop:=
 ∀(x:List PV) (rest:List (List PV)) (Z D:Nat→Prop) (wy w:World) (Z':Nat→Prop) (vs:List Value),J (x::rest) false Z D wy→Dj n0 Z D wy w→(∀r,D r→r<wy.heap.size) →
  (∀r,Z' r→Z r∨wy.heap.size≤r)→(∀r,Z' r→r<w.heap.size)→(∀r,Z' r→¬D r)→eY (fun r=>D r∨Z' r) w x vs →
  YieldAt Fence.wide 0 y.1 y.2 vs.toArray w fun e w'=>∃(D':Nat→Prop) (b:Bool),e=.returned (.bool b)∧mr D w w'∧(∀r,D' r→D r∨w.heap.size≤r)∧(∀r,D' r→r<w'.heap.size)∧J rest (!b) Z' D' w'
structure Real where
 blk:Nat→Nat
 nil:Nat→Bool
 cap:Nat→Nat×List (Option Value)
 Y:YS
def dH (R:Real)(b n:Nat):Value:=if R.nil b then .slice none 0 0 else .slice (some ⟨R.blk b,0,none⟩) n (R.cap b).1
def gZ (row:List AV):Nat:=
 match row with
 |[]=>0
 |_::_=>1
theorem qO {row row':List AV}(h:row'.length=row.length):gZ row'=gZ row:=by
 cases row<;>cases row'<;>first|rfl|(simp at h)
def aY (R:Real)(b off:Nat)(v:Value):Option aF→Prop
 |some (.var _)=>v=.pointer (some ⟨R.blk b,off,none⟩)
 |some (.nR _)=>v=.pointer (some ⟨R.blk b,off,none⟩)
 |_=>False
def aU (R:Real)(b ver:Nat)(v:Value):Option aF→Prop
 |some (.arr _ eZ _ rows)=>ver≤eZ∧v.oneCell'=true∧(ver=eZ→v=dH R b rows.length)
 |some (.dS eZ _ rows)=>ver≤eZ∧v.oneCell'=true∧(ver=eZ→v=dH R b rows.length)
 |some (.iM _ eZ _ _ _ _ pre row post)=>ver≤eZ∧v.oneCell'=true∧(ver=eZ→v=dH R b (pre.length+(gZ row+post.length)))
 |some (.gy _ eZ _ pre _ post)=>ver≤eZ∧v.oneCell'=true∧(ver=eZ→v=dH R b (pre.length+(1+post.length)))
 |_=>False
def bf (R:Real)(b ver i off:Nat)(v:Value):Option aF→Prop
 |some (.arr _ eZ st _)=>ver≤eZ∧v.oneCell'=true∧(ver=eZ→R.nil b=false∧v=.pointer (some ⟨R.blk b,i*st+off,none⟩))
 |some (.dS eZ st _)=>ver≤eZ∧v.oneCell'=true∧(ver=eZ→R.nil b=false∧v=.pointer (some ⟨R.blk b,i*st+off,none⟩))
 |some (.iM _ eZ st _ _ _ _ _ _)=>ver≤eZ∧v.oneCell'=true∧(ver=eZ→R.nil b=false∧v=.pointer (some ⟨R.blk b,i*st+off,none⟩))
 |some (.gy _ eZ st _ _ _)=>ver≤eZ∧v.oneCell'=true∧(ver=eZ→R.nil b=false∧v=.pointer (some ⟨R.blk b,i*st+off,none⟩))
 |some (.mp _ _ _)=>0≤ver∧v.oneCell'=true∧v=.map (some (R.blk b))
 |some (.tr _ eZ _ st)=>ver≤eZ∧v.oneCell'=true∧(ver=eZ→st=none→v=.bool (R.nil b != Nat.beq off 1))
 |_=>False
def je (st lo hi:Nat):Value→Value
 |.slice (some a) _ cap=>.slice (some (if cap=lo then a else a.add (lo*st))) (hi-lo) (cap-lo)
 |_=>.slice none 0 0
def oG (lo hi:Nat):Value→Prop
 |.slice _ n _=>lo≤hi∧hi≤n
 |_=>False
theorem KF (st lo hi:Nat)(u:Value):(je st lo hi u).oneCell'=true:=by
 unfold je;split<;>rfl
section
variable (N:Nat→Prop)(w:World)(hp:List (Nat×aF))(R:Real)
mutual
def ak:AV→Value→Prop
 |.pv p,v=>bJ N w p v
 |.agg cs,v=>∃vs:Array Value,v=.agg vs∧dD cs vs.toList
 |.cO cs,v=>∃vs:Array Value,v=.tuple vs∧dh cs vs.toList
 |.ptr b off,v=>aY R b off v (lk hp b)
 |.aO b ver,v=>aU R b ver v (lk hp b)
 |.sub b ver st lo hi,v=>∃u,aU R b ver u (lk hp b)∧oG lo hi u∧v=je st lo hi u
 |.dM b ver i off,v=>bf R b ver i off v (lk hp b)
 |.fn f first bF,v=>∃fs cs:Array Value,v=.func f fs cs∧dh first fs.toList∧dh bF cs.toList
def dh:List AV→List Value→Prop
 |[],vs=>vs=[]
 |p::ps,vs=>∃v r,vs=v::r∧ak p v∧dh ps r
def dD:List AV→List Value→Prop
 |[],vs=>vs=[]
 |p::ps,vs=>∃v r,vs=v::r∧v.oneCell'=true∧ak p v∧dD ps r
end
end
section
variable {N N':Nat→Prop}{w w':World}{hp hp':List (Nat×aF)}{R R':Real}
variable (hN:∀r,r<w.heap.size→N' r→N r)(hw:∀r,r<w.heap.size→¬N r→w'.heap[r]? = w.heap[r]?)
variable (h1:∀b off v,aY R b off v (lk hp b)→aY R' b off v (lk hp' b))
variable (h2:∀b ver v,aU R b ver v (lk hp b)→aU R' b ver v (lk hp' b))
variable (h3:∀b ver i off v,bf R b ver i off v (lk hp b)→bf R' b ver i off v (lk hp' b))
include hN hw h1 h2 h3
mutual
theorem dF:∀(p:AV) (v:Value),ak N w hp R p v→ak N' w' hp' R' p v
 |.pv p,v=>by simp only[ak];exact dJ hN hw p v
 |.agg cs,v=>by simp only[ak];rintro⟨vs,a,b⟩;exact⟨vs,a,bK cs _ b⟩
 |.cO cs,v=>by simp only[ak];rintro⟨vs,a,b⟩;exact⟨vs,a,r9 cs _ b⟩
 |.ptr b off,v=>by simp only[ak];exact h1 b off v
 |.aO b ver,v=>by simp only[ak];exact h2 b ver v
 |.sub b ver st lo hi,v=>by simp only[ak];rintro⟨u,a,c⟩;exact⟨u,h2 b ver u a,c⟩
 |.dM b ver i off,v=>by simp only[ak];exact h3 b ver i off v
 | .fn f first bF,v=>by
   simp only[ak];rintro⟨fs,cs,a,b,c⟩;exact⟨fs,cs,a,r9 _ _ b,r9 _ _ c⟩
theorem r9:∀(ps:List AV) (vs:List Value),dh N w hp R ps vs→dh N' w' hp' R' ps vs
 |[],vs=>by simp only[dh];exact id
 |p::ps,vs=>by simp only[dh];rintro⟨v,r,a,b,c⟩;exact⟨v,r,a,dF p v b,r9 ps r c⟩
theorem bK:∀(ps:List AV) (vs:List Value),dD N w hp R ps vs→dD N' w' hp' R' ps vs
 |[],vs=>by simp only[dD];exact id
 |p::ps,vs=>by simp only[dD];rintro⟨v,r,a,d,b,c⟩;exact⟨v,r,a,d,dF p v b,bK ps r c⟩
end
end
def aL (R:Real)(b r:Nat):Option aF→Prop
 |some (.var _)=>R.blk b=r
 |some (.arr _ _ _ _)=>R.nil b=false∧R.blk b=r
 |some (.tr _ _ _ _)=>R.Y.D r
 |some (.gy _ _ _ _ _ _)=>R.nil b=false∧R.blk b=r
 |some (.mp _ _ _)=>R.nil b=false∧R.blk b=r
 |some (.iM _ _ _ _ _ _ _ _ _)=>(R.nil b=false∧R.blk b=r)∨∃v,some v∈(R.cap b).2∧v.ownBlock=some r
 |_=>False
def owned (R:Real)(hp:List (Nat×aF))(r:Nat):Prop:=∃b,aL R b r (lk hp b)
def ic (N:Nat→Prop)(w:World)(st j:Nat)(ed:TypeId)(sd:Nat):List (Option Value)→List (Bool×List PV)→List Value→Prop
 |[],[],_=>True
 | h::hs,(fl,r)::rs,xs=>r.length=st∧(match h,fl with
   |none,false=>gU N w r xs
   |some v,true=>∃rr ys,r[j]? = some (.sl false sd rr)∧v.oneCell'=true∧gU N w (r.set j (.sc v)) xs∧w.ownsRow 0 ed sd v rr.length ys∧cK N w sd rr ys
   |_,_=>False)∧ic N w st j ed sd hs rs (xs.drop st)
 |_,_,_=>False
def F9 (R:Real)(b:Nat):Prop:=
 ((R.cap b).2.filterMap fun h=>h.bind Value.ownBlock).Nodup∧∀v r,some v∈(R.cap b).2→v.ownBlock=some r→R.nil b=false→R.blk b≠r
def dY (N:Nat→Prop)(w:World)(hp:List (Nat×aF))(R:Real)(b:Nat):aF→Prop
 |.var cells=>∃cur e,w.heap[R.blk b]? = some (.cells cur e (0,0))∧dD N w hp R cells cur.toList
 |.nR cells=>∃cur e fr,w.heap[R.blk b]? = some (.cells cur e fr)∧¬N (R.blk b)∧gU N w cells cur.toList
 |.arr e _ st rows=>∃xs,w.ownsRow 0 e st (dH R b rows.length) rows.length xs∧cK N w st rows xs
 |.dS _ st rows=>bJ N w (.sl false st rows) (dH R b rows.length)
 |.tr y _ rest st=>b=999∧YH y R.Y.n0.1 R.Y.n0.2∧R.Y.n0.2 rest (st.getD (!R.nil b)) R.Y.Z R.Y.D R.Y.wy∧Dj R.Y.n0.1 R.Y.Z R.Y.D R.Y.wy w∧(∀r,R.Y.D r→r<R.Y.wy.heap.size)∧∀r,N r→R.Y.D r∨R.Y.Z r∨R.Y.wy.heap.size≤r
 |.gy e _ st pre row post=>∃xs,w.ownsRow 0 e st (dH R b (pre.length+(1+post.length))) (pre.length+(1+post.length)) xs∧cK N w st pre xs∧row.length=st∧dD N w hp R row ((xs.drop (pre.length*st)).take st)∧cK N w st post ((xs.drop (pre.length*st)).drop st)
 |.mp kk kv es=>∃(cur:Array MapEntry) (clock:Nat),w.heap[R.blk b]? = some (.map cur clock)∧R.nil b=false∧cur.toList.map (fun e=>(e.key,e.val))=es.map fun e=>(.int kk e.1,.int kv e.2)
 | .iM e _ st j ed sd pre row post=>∃xs hs1 hs2,(R.cap b).2=hs1++hs2∧w.ownsRow 0 e st (dH R b (pre.length+(gZ row+post.length))) (pre.length+(gZ row+post.length)) xs∧ic N w st j ed sd hs1 pre xs∧row.length=gZ row*st ∧
   dD N w hp R row ((xs.drop (pre.length*st)).take (gZ row*st))∧ic N w st j ed sd hs2 post ((xs.drop (pre.length*st)).drop (gZ row*st))∧F9 R b
def jD:AV→Bool
 |.ptr b _=>Nat.blt b 1000
 |.dM b _ _ _=>Nat.blt b 1000 && !Nat.beq b 999
 |.aO b _=>Nat.blt b 1000
 |_=>false
structure Ctx where
 F:Nat→Prop
 O:Nat→Prop
 w:World
 n:Nat
 hF:∀r,F r→r<w.heap.size
 K:AV→Value→Prop
 hK:∀v x,K v x→jD v=true
 /-- aic that are no cells,and stay -/
 fix:Nat→Option Obj
 /-- the aiF size when the DZ call akL;when this call did -/
 n0:Nat×(List (List PV)→Bool→(Nat→Prop)→(Nat→Prop)→World→Prop)
 lo:Nat
def aV (c:Ctx)(R:Real)(hp:List (Nat×aF))(r:Nat):Prop:=c.F r∨owned R hp r
def mark (D:Nat):Deferred:={ target:=.collected D,args:=#[] }
structure Marks (lo:Nat)(own:Nat→Prop)(w:World)(ds:List Deferred)(Ds:List Nat):Prop where
 low:∀D∈Ds,lo≤D
 eq:ds=Ds.map mark
 nodup:Ds.Nodup
 obj:∀D∈Ds,w.heap[D]? = some (.deferred (some []))
 free:∀D∈Ds,¬own D
structure tY (fix:Nat→Option Obj)(own:Nat→Prop)(w:World):Prop where
 obj:∀r o,fix r=some o→w.heap[r]? = some o
 free:∀r o,fix r=some o→¬own r
 nc:∀r o,fix r=some o→o.isCells=false
theorem Marks.kept {lo:Nat}{own Wi:Nat→Prop}{w w':World}{ds:List Deferred}{Ds:List Nat}(h:Marks lo own w ds Ds)(hw:∀r,r<w.heap.size→¬own r→w'.heap[r]? = w.heap[r]?)
  (ho:∀r,r<w.heap.size→Wi r→own r):Marks lo Wi w' ds Ds:=
 ⟨h.low,h.eq,h.nodup,fun D hD=>(hw D (size_of_getElem? (h.obj D hD)) (h.free D hD)).trans (h.obj D hD),fun D hD x=>h.free D hD (ho D (size_of_getElem? (h.obj D hD)) x)⟩
theorem tY.kept {fix:Nat→Option Obj}{own Wi:Nat→Prop}{w w':World}(h:tY fix own w)(hw:∀r,r<w.heap.size→¬own r→w'.heap[r]? = w.heap[r]?)
  (ho:∀r,r<w.heap.size→Wi r→own r):tY fix Wi w':=
 ⟨fun r o hr=>(hw r (size_of_getElem? (h.obj r o hr)) (h.free r o hr)).trans (h.obj r o hr),fun r o hr x=>h.free r o hr (ho r (size_of_getElem? (h.obj r o hr)) x),h.nc⟩
theorem tY.none {own:Nat→Prop}{w:World}:tY (fun _=>none) own w:=⟨fun _ _ h=>by simp at h,fun _ _ h=>by simp at h,fun _ _ h=>by simp at h⟩
theorem Marks.nil {lo:Nat}{own:Nat→Prop}{w:World}:Marks lo own w [] []:=⟨by simp,rfl,List.nodup_nil,by simp,by simp⟩
structure bG (c:Ctx)(R:Real)(s:AS)(a:Act)(w:World):Prop where
 slots:∀t v,lk s.tm t=some v→∃x,a.tmps[t]? = some x∧ak (aV c R s.hp) w s.hp R v x
 size:a.tmps.size=c.n
 lo:R.Y.n0=c.n0∧c.n0.1≤c.lo∧c.lo≤w.heap.size
 marks:∃Ds,Marks c.lo (owned R s.hp) w a.defers Ds
 fixed:tY c.fix (owned R s.hp) w
 boxes:∀b box,lk s.hp b=some box→dY (aV c R s.hp) w s.hp R b box
 inj:∀b b' r,aL R b r (lk s.hp b)→aL R b' r (lk s.hp b')→b=b'
 free:∀r,owned R s.hp r→¬c.F r
 jE:mr c.O c.w w
 iw:∀r,owned R s.hp r→c.O r∨c.w.heap.size≤r
 kept:∀v x,c.K v x→ak (aV c R s.hp) w s.hp R v x
theorem jA {R R':Real}{b n:Nat}(h:R'.blk b=R.blk b∧R'.nil b=R.nil b∧R'.cap b=R.cap b):dH R' b n=dH R b n:=by
 simp only[dH,h.1,h.2.1,h.2.2]
theorem lT {R R':Real}{b:Nat}(h:R'.blk b=R.blk b∧R'.nil b=R.nil b∧R'.cap b=R.cap b){off:Nat}{v:Value}{o:Option aF}
  (x:aY R b off v o):aY R' b off v o:=by
 cases o with
 |none=>exact x
 |some o=>cases o<;>simp only[aY,h.1] at x ⊢ <;> exact x
theorem ng {R R':Real}{b:Nat}(h:R'.blk b=R.blk b∧R'.nil b=R.nil b∧R'.cap b=R.cap b){ver:Nat}{v:Value}{o:Option aF}
  (x:aU R b ver v o):aU R' b ver v o:=by
 cases o with
 |none=>exact x
 |some o=>cases o<;>simp only[aU,jA h] at x ⊢ <;> exact x
theorem ni {R R':Real}{b:Nat}(h:R'.blk b=R.blk b∧R'.nil b=R.nil b∧R'.cap b=R.cap b){ver i off:Nat}{v:Value}{o:Option aF}
  (x:bf R b ver i off v o):bf R' b ver i off v o:=by
 cases o with
 |none=>exact x
 |some o=>cases o<;>simp only[bf,h.1,h.2.1] at x ⊢ <;> exact x
theorem iA {R R':Real}{b:Nat}(h:R'.blk b=R.blk b∧R'.nil b=R.nil b∧R'.cap b=R.cap b)(hY:R'.Y=R.Y){r:Nat}{o:Option aF}
  (x:aL R' b r o):aL R b r o:=by
 cases o with
 |none=>exact x
 |some o=>cases o<;>simp only[aL,h.1,h.2.1,h.2.2,hY] at x ⊢ <;> exact x
theorem dZ {w w':World}{base e size:Nat}{v:Value}{n:Nat}{xs:List Value}(h:w.ownsRow base e size v n xs)
  (hk:∀k,v.ownBlock=some k→w'.heap[k]? = w.heap[k]?):w'.ownsRow base e size v n xs:=by
 refine⟨h.1,?_⟩;rcases h.2 with hn|⟨g,cap,cur,rfl,hb,hg,rest⟩
 ·exact .inl hn
 exact .inr ⟨g,cap,cur,rfl,hb,(hk g rfl).trans hg,rest⟩
theorem qW {N N':Nat→Prop}{w w':World}(hN:∀r,r<w.heap.size→N' r→N r)(hw:∀r,r<w.heap.size→¬N r→w'.heap[r]? = w.heap[r]?){st j:Nat}{ed:TypeId}{sd:Nat} :
  ∀{hs:List (Option Value)} {rs:List (Bool×List PV)} {xs:List Value},(∀v,some v∈hs→∀k,v.ownBlock=some k→w'.heap[k]? = w.heap[k]?)→ic N w st j ed sd hs rs xs→ic N' w' st j ed sd hs rs xs
 |[],[],xs,_,h=>by simp only[ic]
 |[],_::_,xs,_,h=>by simp only[ic] at h
 |_::_,[],xs,_,h=>by simp only[ic] at h
 | h::hs,(fl,r)::rs,xs,hk,hh=>by
   simp only[ic] at hh ⊢;obtain⟨h1,h2,h3⟩:=hh;refine⟨h1,?_,qW hN hw (fun v hv=>hk v (by simp[hv])) h3⟩;cases h with
   | none=>cases fl with
     |false=>exact dQ hN hw _ _ h2
     |true=>exact h2.elim
   | some v=>cases fl with
     |false=>exact h2.elim
     | true=>
       obtain⟨rr,ys,a1,a0,a2,a3,a4⟩:=h2;exact⟨rr,ys,a1,a0,dQ hN hw _ _ a2,dZ a3 fun k hk'=>hk v (by simp) k hk',aX hN hw _ _ _ a4⟩
theorem OX {R R':Real}{b b':Nat}(h1:R'.blk b'=R.blk b)(h2:R'.nil b'=R.nil b)(h3:R'.cap b'=R.cap b)(h:F9 R b):F9 R' b':=by
 unfold F9 at h ⊢;rw[h1,h2,h3];exact h
theorem iQ {N N':Nat→Prop}{w w':World}{hp hp':List (Nat×aF)}{R R':Real}{b b':Nat}(hN:∀r,r<w.heap.size→N' r→N r)(hw:∀r,r<w.heap.size→¬N r→w'.heap[r]? = w.heap[r]?)
  (h1:R'.blk b'=R.blk b) (h2:R'.nil b'=R.nil b) (h3:R'.cap b'=R.cap b) {e:TypeId} {ver eZ st j:Nat} {ed:TypeId} {sd:Nat} {pre post:List (Bool×List PV)} {row row':List AV}
  (hk:∀k,aL R b k (some (.iM e ver st j ed sd pre row post))→w'.heap[k]? = w.heap[k]?) (hl:row'.length=row.length) (hrow:∀vs,dD N w hp R row vs→dD N' w' hp' R' row' vs)
  (h:dY N w hp R b (.iM e ver st j ed sd pre row post)):dY N' w' hp' R' b' (.iM e eZ st j ed sd pre row' post):=by
 obtain⟨xs,hs1,hs2,a1,a2,a3,a4,a5,a6,a7⟩:=h;have hO:=qO hl;simp only[dY,hO,hl];refine⟨xs,hs1,hs2,by rw[h3];exact a1,?_,qW hN hw (fun v hv k hk'=>hk k (.inr ⟨v,by rw[a1];simp[hv],hk'⟩)) a3,a4,hrow _ a5,qW hN hw (fun v hv k hk'=>hk k (.inr ⟨v,by rw[a1];simp[hv],hk'⟩)) a6,OX h1 h2 h3 a7⟩;rw[show dH R' b' (pre.length+(gZ row+post.length))=dH R b (pre.length+(gZ row+post.length)) by simp only[dH,h1,h2,h3]];refine dZ a2 fun k hk'=>hk k (.inl ?_)
 simp only[dH] at hk';cases hnil:R.nil b with
 |true=>simp[hnil,Value.ownBlock] at hk'
 |false=>simp[hnil,Value.ownBlock] at hk';exact⟨rfl,hk'⟩
theorem Jz {N:Nat→Prop}{w:World}{st j:Nat}{ed:TypeId}{sd:Nat}:∀{hs:List (Option Value)} {rs:List (Bool×List PV)} {xs:List Value},ic N w st j ed sd hs rs xs→∀v,some v∈hs→∀r,v.ownBlock=some r→r<w.heap.size
 |[],_,_,_,v,hv=>by simp at hv
 |_::_,[],xs,h,_,_=>by simp only[ic] at h
 | h::hs,(fl,r)::rs,xs,hh,v,hv=>by
   intro k hk;simp only[ic] at hh;obtain⟨h1,h2,h3⟩:=hh;rcases List.mem_cons.1 hv with e|hv
   ·subst e;cases fl with
    |false=>exact h2.elim
    | true=>
      obtain⟨rr,ys,a1,a0,a2,a3,a4⟩:=h2;exact (a3.lt k hk).2
   exact Jz h3 v hv k hk
theorem kM {N:Nat→Prop}{w:World}{hp:List (Nat×aF)}{R:Real}{b r:Nat}{box:aF}(hr:dY N w hp R b box)(ho:aL R b r (some box)) :
  r<w.heap.size:=by
 cases box with
 | var cells=>
   obtain⟨cur,e,h,_⟩:=hr;simp only[aL] at ho;exact ho▸size_of_getElem? h
 |nR cells=>exact ho.elim
 | arr e ver st rows=>
   obtain⟨xs,h,_⟩:=hr;simp only[aL] at ho;exact (h.lt r (by simp[dH,ho.1,ho.2,Value.ownBlock])).2
 |dS ver st rows=>exact ho.elim
 | tr y ver rest st=>
   obtain⟨_,_,_,h2,h3,_⟩:=hr;exact Nat.lt_of_lt_of_le (h3 r ho) h2.size
 | mp kk kv es=>
   obtain⟨cur,clock,h,_⟩:=hr;simp only[aL] at ho;exact ho.2▸size_of_getElem? h
 | iM e ver st j ed sd pre row post=>
   obtain⟨xs,hs1,hs2,a1,a2,a3,a4,a5,a6,a7⟩:=hr;simp only[aL] at ho;rcases ho with ho|⟨v,hv,hr⟩
   ·exact (a2.lt r (by simp[dH,ho.1,ho.2,Value.ownBlock])).2
   rw[a1] at hv;rcases List.mem_append.1 hv with hv|hv
   ·exact Jz a3 v hv r hr
   exact Jz a6 v hv r hr
 | gy e ver st pre row post=>
   obtain⟨xs,h,_⟩:=hr;simp only[aL] at ho;exact (h.lt r (by simp[dH,ho.1,ho.2,Value.ownBlock])).2
theorem bG.kM {c:Ctx}{R:Real}{s:AS}{a:Act}{w:World}(g:bG c R s a w){b r:Nat}(ho:aL R b r (lk s.hp b)):r<w.heap.size:=by
 cases h:lk s.hp b with
 |none=>rw[h] at ho;exact ho.elim
 |some box=>rw[h] at ho;exact AX.kM (g.boxes b box h) ho
theorem bG.Nlt {c:Ctx}{R:Real}{s:AS}{a:Act}{w:World}(g:bG c R s a w){r:Nat}(h:aV c R s.hp r):r<w.heap.size:=by
 rcases h with h|⟨b,h⟩
 ·exact Nat.lt_of_lt_of_le (c.hF r h) g.jE.size
 exact g.kM h
theorem bG.Ga {c:Ctx}{R:Real}{s:AS}{a:Act}{w:World}(g:bG c R s a w){R':Real}{w':World}{b:Nat}{bL:aF}
  (hR:∀b',b'≠b→R'.blk b'=R.blk b'∧R'.nil b'=R.nil b'∧R'.cap b'=R.cap b')
  (r1:∀off v,aY R b off v (lk s.hp b)→aY R' b off v (some bL))
  (r2:∀ver v,aU R b ver v (lk s.hp b)→aU R' b ver v (some bL))
  (r3:∀ver i off v,bf R b ver i off v (lk s.hp b)→bf R' b ver i off v (some bL))
  (hown:∀r,aL R' b r (some bL)→aL R b r (lk s.hp b)∨w.heap.size≤r)
  (hworld:mr (fun r=>aL R b r (lk s.hp b)) w w') (hY:R'.Y=R.Y:=by rfl) :
  (∀r,r<w.heap.size→aV c R' ((b,bL)::s.hp) r→aV c R s.hp r)∧(∀r,r<w.heap.size→¬aV c R s.hp r→w'.heap[r]? = w.heap[r]?) ∧
  (∀b' off v,aY R b' off v (lk s.hp b')→aY R' b' off v (lk ((b,bL)::s.hp) b')) ∧
  (∀b' ver v,aU R b' ver v (lk s.hp b')→aU R' b' ver v (lk ((b,bL)::s.hp) b')) ∧
  (∀b' ver i off v,bf R b' ver i off v (lk s.hp b')→bf R' b' ver i off v (lk ((b,bL)::s.hp) b')):=by
 have ug:lk ((b,bL)::s.hp) b=some bL:=by rw[aC,if_pos rfl]
 have sN:∀b',b'≠b→lk ((b,bL)::s.hp) b'=lk s.hp b':=fun b' h=>by rw[aC,if_neg (fun e=>h e.symm)]
 refine⟨?_,?_,?_,?_,?_⟩
 ·rintro r hr (h|⟨b',h⟩)
  ·exact .inl h
  by_cases e:b'=b
  ·subst e;rw[ug] at h;exact .inr ⟨b',(hown r h).resolve_right (by omega)⟩
  rw[sN b' e] at h;exact .inr ⟨b',iA (hR b' e) hY h⟩
 ·exact fun r hr hn=>hworld.keep r hr fun x=>hn (.inr ⟨b,x⟩)
 ·intro b' off v h;by_cases e:b'=b
  ·subst e;rw[ug];exact r1 off v h
  rw[sN b' e];exact lT (hR b' e) h
 ·intro b' ver v h;by_cases e:b'=b
  ·subst e;rw[ug];exact r2 ver v h
  rw[sN b' e];exact ng (hR b' e) h
 intro b' ver i off v h;by_cases e:b'=b
 ·subst e;rw[ug];exact r3 ver i off v h
 rw[sN b' e];exact ni (hR b' e) h
theorem bG.upd {c:Ctx}{R:Real}{s:AS}{a:Act}{w:World}(g:bG c R s a w){R':Real}{w':World}{b:Nat}{bL:aF}{nx':Nat}
  (hR:∀b',b'≠b→R'.blk b'=R.blk b'∧R'.nil b'=R.nil b'∧R'.cap b'=R.cap b')
  (r1:∀off v,aY R b off v (lk s.hp b)→aY R' b off v (some bL))
  (r2:∀ver v,aU R b ver v (lk s.hp b)→aU R' b ver v (some bL))
  (r3:∀ver i off v,bf R b ver i off v (lk s.hp b)→bf R' b ver i off v (some bL))
  (hown:∀r,aL R' b r (some bL)→aL R b r (lk s.hp b)∨w.heap.size≤r)
  (hworld:mr (fun r=>aL R b r (lk s.hp b)) w w')
  (Lc:dY (aV c R' ((b,bL)::s.hp)) w' ((b,bL)::s.hp) R' b bL) (hY:R'.Y=R.Y:=by rfl) :
  bG c R' ⟨s.tm,nx',(b,bL)::s.hp⟩ a w':=by
 have ug:lk ((b,bL)::s.hp) b=some bL:=by rw[aC,if_pos rfl]
 have sN:∀b',b'≠b→lk ((b,bL)::s.hp) b'=lk s.hp b':=fun b' h=>by rw[aC,if_neg (fun e=>h e.symm)]
 have JA:∀r,owned R' ((b,bL)::s.hp) r→owned R s.hp r∨w.heap.size≤r:=by
  rintro r ⟨b',h⟩
  by_cases e:b'=b
  ·subst e;rw[ug] at h;exact (hown r h).imp (fun x=>⟨b',x⟩) id
  rw[sN b' e] at h;exact .inl ⟨b',iA (hR b' e) hY h⟩
 have hN:∀r,r<w.heap.size→aV c R' ((b,bL)::s.hp) r→aV c R s.hp r:=by
  rintro r hr (h|h)
  ·exact .inl h
  exact .inr ((JA r h).resolve_right (by omega))
 have hw:∀r,r<w.heap.size→¬aV c R s.hp r→w'.heap[r]? = w.heap[r]? :=fun r hr hn=>hworld.keep r hr fun x=>hn (.inr ⟨b,x⟩)
 have p1:∀b' off v,aY R b' off v (lk s.hp b')→aY R' b' off v (lk ((b,bL)::s.hp) b'):=fun b' off v h=>by
  by_cases e:b'=b
  ·subst e;rw[ug];exact r1 off v h
  rw[sN b' e];exact lT (hR b' e) h
 have p2:∀b' ver v,aU R b' ver v (lk s.hp b')→aU R' b' ver v (lk ((b,bL)::s.hp) b'):=fun b' ver v h=>by
  by_cases e:b'=b
  ·subst e;rw[ug];exact r2 ver v h
  rw[sN b' e];exact ng (hR b' e) h
 have p3:∀b' ver i off v,bf R b' ver i off v (lk s.hp b')→bf R' b' ver i off v (lk ((b,bL)::s.hp) b'):=fun b' ver i off v h=>by
  by_cases e:b'=b
  ·subst e;rw[ug];exact r3 ver i off v h
  rw[sN b' e];exact ni (hR b' e) h
 have hwo:∀r,r<w.heap.size→¬owned R s.hp r→w'.heap[r]? = w.heap[r]? :=fun r hr hn=>hworld.keep r hr fun x=>hn ⟨b,x⟩
 have hoo:∀r,r<w.heap.size→owned R' ((b,bL)::s.hp) r→owned R s.hp r:=fun r hr h=>(JA r h).resolve_right (by omega)
 refine⟨?_,g.size,⟨by rw[hY];exact g.lo.1,g.lo.2.1,Nat.le_trans g.lo.2.2 hworld.size⟩,g.marks.imp fun Ds h=>h.kept hwo hoo,g.fixed.kept hwo hoo,?_,?_,?_,?_,?_,fun v x h=>dF hN hw p1 p2 p3 v x (g.kept v x h)⟩
 ·intro t v h;obtain⟨x,hx,hv⟩:=g.slots t v h;exact⟨x,hx,dF hN hw p1 p2 p3 v x hv⟩
 ·intro b' box h;by_cases e:b'=b
  ·subst e;simp only[ug,Option.some.injEq] at h;subst h;exact Lc
  simp only[sN b' e] at h;have hr:=g.boxes b' box h;have hRb:=hR b' e;have hkeep:∀r,aL R b' r (lk s.hp b')→w'.heap[r]? = w.heap[r]? :=fun r ho=>
   hworld.keep r (g.kM ho) fun x=>e (g.inj b' b r ho x)
  rw[h] at hkeep;cases box with
  | var cells=>
    obtain⟨cur,e',h8,h9⟩:=hr;refine⟨cur,e',?_,bK hN hw p1 p2 p3 _ _ h9⟩;rw[hRb.1,hkeep _ rfl];exact h8
  | nR cells=>
    obtain⟨cur,e',fr,h8,h7,h9⟩:=hr;have hs:=size_of_getElem? h8;refine⟨cur,e',fr,?_,?_,dQ hN hw _ _ h9⟩
    ·rw[hRb.1,hw _ hs h7];exact h8
    rw[hRb.1];exact fun x=>h7 (hN _ hs x)
  | arr e' ver st rows=>
    obtain⟨xs,h8,h9⟩:=hr;refine⟨xs,?_,aX hN hw _ _ _ h9⟩;rw[jA hRb];refine dZ h8 fun k hk=>hkeep k ?_
    simp only[dH] at hk;cases hnil:R.nil b' with
    |true=>simp[hnil,Value.ownBlock] at hk
    |false=>simp[hnil,Value.ownBlock] at hk;exact⟨hnil,hk⟩
  | dS ver st rows=>
    simp only[dY,jA hRb] at hr ⊢;exact dJ hN hw _ _ hr
  | tr y ver rest st=>
    obtain⟨k0,kh,k1,k2,k3,k4⟩:=hr;simp only[dY,hY,hRb.2.1];refine⟨k0,kh,k1,k2.step hworld fun r hr ho=>?_,k3,fun r hn=>?_⟩
    ·rcases k4 r (.inr ⟨b,ho⟩) with hd|hz|hs
     ·exact absurd (g.inj b' b r (by rw[h];exact hd) ho) e
     ·exact hz
     omega
    by_cases hlt:r<w.heap.size
    ·exact k4 r (hN r hlt hn)
    exact .inr (.inr (by have:=k2.size;omega))
  |iM e' ver st j ed sd pre row post=>exact iQ hN hw hRb.1 hRb.2.1 hRb.2.2 (fun k hk=>hkeep k hk) rfl (fun vs h=>bK hN hw p1 p2 p3 _ _ h) hr
  | mp kk kv es=>
    obtain⟨cur,clock,h8,h9,h10⟩:=hr;exact⟨cur,clock,by rw[hRb.1,hkeep _ ⟨h9,rfl⟩];exact h8,by rw[hRb.2.1];exact h9,h10⟩
  | gy e' ver st pre row post=>
    obtain⟨xs,h8,h9,h10,h11,h12⟩:=hr;refine⟨xs,?_,aX hN hw _ _ _ h9,h10,bK hN hw p1 p2 p3 _ _ h11,aX hN hw _ _ _ h12⟩;rw[jA hRb];refine dZ h8 fun k hk=>hkeep k ?_
    simp only[dH] at hk;cases hnil:R.nil b' with
    |true=>simp[hnil,Value.ownBlock] at hk
    |false=>simp[hnil,Value.ownBlock] at hk;exact⟨hnil,hk⟩
 ·intro b1 b2 r h1 h2;by_cases e1:b1=b
  ·by_cases e2:b2=b
   ·rw[e1,e2]
   subst e1;simp only[ug,sN b2 e2] at h1 h2;have h2':=iA (hR b2 e2) hY h2;have hlt:=g.kM h2';exact g.inj _ _ r ((hown r h1).resolve_right (by omega)) h2'
  by_cases e2:b2=b
  ·subst e2;simp only[ug,sN b1 e1] at h1 h2;have h1':=iA (hR b1 e1) hY h1;have hlt:=g.kM h1';exact g.inj _ _ r h1' ((hown r h2).resolve_right (by omega))
  simp only[sN b1 e1,sN b2 e2] at h1 h2;exact g.inj _ _ r (iA (hR b1 e1) hY h1) (iA (hR b2 e2) hY h2)
 ·intro r h hF;rcases JA r h with h|h
  ·exact g.free r h hF
  have:=c.hF r hF;have:=g.jE.size;omega
 ·refine g.jE.trans hworld fun r hr ho=>?_
  exact (g.iw r ⟨b,ho⟩).resolve_right (by omega)
 intro r h;rcases JA r h with h|h
 ·exact g.iw r h
 exact .inr (Nat.le_trans g.jE.size h)
theorem bG.grow {c:Ctx}{R:Real}{s:AS}{a:Act}{w w':World}(g:bG c R s a w)(h:mr (fun _=>False) w w'):bG c R s a w':=by
 have hk:∀r,r<w.heap.size→w'.heap[r]? = w.heap[r]? :=fun r hr=>h.keep r hr id
 refine⟨?_,g.size,⟨g.lo.1,g.lo.2.1,Nat.le_trans g.lo.2.2 h.size⟩,g.marks.imp fun Ds h'=>h'.kept (fun r hr _=>hk r hr) (fun _ _ x=>x),g.fixed.kept (fun r hr _=>hk r hr) (fun _ _ x=>x),?_,g.inj,g.free,g.jE.trans h fun _ _ x=>x.elim,g.iw,
  fun v x hv=>dF (fun _ _ x=>x) (fun r hr _=>hk r hr) (fun _ _ _ x=>x) (fun _ _ _ x=>x) (fun _ _ _ _ _ x=>x) v x (g.kept v x hv)⟩
 ·intro t v ht;obtain⟨x,hx,hv⟩:=g.slots t v ht;exact⟨x,hx,dF (fun _ _ x=>x) (fun r hr _=>hk r hr) (fun _ _ _ x=>x) (fun _ _ _ x=>x) (fun _ _ _ _ _ x=>x) v x hv⟩
 intro b box hb;have hr:=g.boxes b box hb;cases box with
 | var cells=>
   obtain⟨cur,e',h8,h9⟩:=hr;exact⟨cur,e',(hk _ (size_of_getElem? h8)).trans h8,bK (fun _ _ x=>x) (fun r hr _=>hk r hr) (fun _ _ _ x=>x) (fun _ _ _ x=>x) (fun _ _ _ _ _ x=>x) _ _ h9⟩
 | nR cells=>
   obtain⟨cur,e',fr,h8,h7,h9⟩:=hr;exact⟨cur,e',fr,(hk _ (size_of_getElem? h8)).trans h8,h7,dQ (fun _ _ x=>x) (fun r hr _=>hk r hr) _ _ h9⟩
 | arr e' ver st rows=>
   obtain⟨xs,h8,h9⟩:=hr;exact⟨xs,dZ h8 fun k hk'=>hk k (h8.lt k hk').2,aX (fun _ _ x=>x) (fun r hr _=>hk r hr) _ _ _ h9⟩
 |dS ver st rows=>exact dJ (fun _ _ x=>x) (fun r hr _=>hk r hr) _ _ hr
 | tr y ver rest st=>
   obtain⟨k0,kh,k1,k2,k3,k4⟩:=hr;exact⟨k0,kh,k1,k2.step h fun _ _ x=>x.elim,k3,k4⟩
 | iM e' ver st j ed sd pre row post=>
   have hr':=hr;exact iQ (fun _ _ x=>x) (fun r hr _=>hk r hr) rfl rfl rfl (fun k hk'=>hk k (AX.kM hr' hk')) rfl (fun vs h=>bK (fun _ _ x=>x) (fun r hr _=>hk r hr) (fun _ _ _ x=>x) (fun _ _ _ x=>x) (fun _ _ _ _ _ x=>x) _ _ h) hr'
 | mp kk kv es=>
   obtain⟨cur,clock,h8,h9,h10⟩:=hr;exact⟨cur,clock,(hk _ (size_of_getElem? h8)).trans h8,h9,h10⟩
 | gy e' ver st pre row post=>
   obtain⟨xs,h8,h9,h10,h11,h12⟩:=hr;exact⟨xs,dZ h8 fun k hk'=>hk k (h8.lt k hk').2,aX (fun _ _ x=>x) (fun r hr _=>hk r hr) _ _ _ h9,h10,bK (fun _ _ x=>x) (fun r hr _=>hk r hr) (fun _ _ _ x=>x) (fun _ _ _ x=>x) (fun _ _ _ _ _ x=>x) _ _ h11,aX (fun _ _ x=>x) (fun r hr _=>hk r hr) _ _ _ h12⟩
def AS.put (s:AS)(d:Option Tmp)(v:AV):AS:=
 match d with
 |some d=>{ s with tm:=(d,v)::s.tm }
 |none=>s
theorem bG.put {c:Ctx}{R:Real}{s:AS}{a:Act}{w:World}(g:bG c R s a w)(d:Option Tmp)(hd:∀t,d=some t→t<c.n){v:AV}{x:Value}
  (hv:ak (aV c R s.hp) w s.hp R v x):bG c R (s.put d v) (a.put d x) w:=by
 cases d with
 |none=>exact g
 | some d=>
   have hlt:=hd d rfl;refine⟨?_,?_,g.lo,g.marks,g.fixed,g.boxes,g.inj,g.free,g.jE,g.iw,g.kept⟩
   ·intro t u h;simp only[AS.put,aC] at h;by_cases e:d=t
    ·subst e;simp only[if_true,Option.some.injEq] at h;subst h;refine⟨x,?_,hv⟩;simp only[Act.put];rw[Array.getElem?_setIfInBounds_self_of_lt (by rw[g.size];exact hlt)]
    simp only[if_neg e] at h;obtain⟨y,hy,hr⟩:=g.slots t u h;refine⟨y,?_,hr⟩;simp only[Act.put];rw[Array.getElem?_setIfInBounds_ne e];exact hy
   simp only[Act.put,Array.size_setIfInBounds];exact g.size
section
section cells
variable {α:Type}(R:α→Value→Prop)
def FC:List α→List Value→Prop
 |[],vs=>vs=[]
 |p::ps,vs=>∃v r,vs=v::r∧v.oneCell'=true∧R p v∧FC ps r
def FP:List α→List Value→Prop
 |[],_=>True
 |p::ps,vs=>∃v r,vs=v::r∧v.oneCell'=true∧R p v∧FP ps r
def FL:List α→List Value→Prop
 |[],vs=>vs=[]
 |p::ps,vs=>∃v r,vs=v::r∧R p v∧FL ps r
end cells
theorem gM (N:Nat→Prop)(w:World):∀(ps:List PV) (vs:List Value),iX N w ps vs↔FC (bJ N w) ps vs
 |[],vs=>by simp only[iX,FC]
 |p::ps,vs=>by simp only[iX,FC,gM N w ps]
theorem dN (N:Nat→Prop)(w:World):∀(ps:List PV) (vs:List Value),gU N w ps vs↔FP (bJ N w) ps vs
 |[],vs=>by simp only[gU,FP]
 |p::ps,vs=>by simp only[gU,FP,dN N w ps]
theorem jk (N:Nat→Prop)(w:World):∀(ps:List PV) (vs:List Value),eY N w ps vs↔FL (bJ N w) ps vs
 |[],vs=>by simp only[eY,FL]
 |p::ps,vs=>by simp only[eY,FL,jk N w ps]
theorem bM (N:Nat→Prop)(w:World)(hp:List (Nat×aF))(R:Real):∀(ps:List AV) (vs:List Value),dD N w hp R ps vs↔FC (ak N w hp R) ps vs
 |[],vs=>by simp only[dD,FC]
 |p::ps,vs=>by simp only[dD,FC,bM N w hp R ps]
theorem eF (N:Nat→Prop)(w:World)(hp:List (Nat×aF))(R:Real):∀(ps:List AV) (vs:List Value),dh N w hp R ps vs↔FL (ak N w hp R) ps vs
 |[],vs=>by simp only[dh,FL]
 |p::ps,vs=>by simp only[dh,FL,eF N w hp R ps]
section cells
variable {α β:Type}{R:α→Value→Prop}{S:β→Value→Prop}
theorem FC.length:∀{l:List α} {m:List Value},FC R l m→m.length=l.length
 |[],m,h=>by simp only[FC] at h;simp[h]
 |p::ps,m,h=>by obtain⟨v,r,rfl,_,_,h⟩:=h;simp[h.length]
theorem FL.length:∀{l:List α} {m:List Value},FL R l m→m.length=l.length
 |[],m,h=>by simp only[FL] at h;simp[h]
 |p::ps,m,h=>by obtain⟨v,r,rfl,_,h⟩:=h;simp[h.length]
theorem FP.length:∀{l:List α} {m:List Value},FP R l m→l.length≤m.length
 |[],m,_=>by simp
 |p::ps,m,h=>by obtain⟨v,r,rfl,_,_,h⟩:=h;simp[h.length]
theorem FC.one:∀{l:List α} {m:List Value},FC R l m→∀u∈m,u.oneCell'=true
 |[],m,h=>by simp only[FC] at h;simp[h]
 | p::ps,m,h=>by
   obtain⟨v,r,rfl,h1,_,h⟩:=h;intro u hu;rcases List.mem_cons.1 hu with rfl|hu
   ·exact h1
   exact h.one u hu
theorem FC.fp:∀{l:List α} {m:List Value},FC R l m→FP R l m
 |[],_,_=>trivial
 |p::ps,m,h=>by obtain⟨v,r,rfl,h1,h2,h⟩:=h;exact⟨v,r,rfl,h1,h2,h.fp⟩
theorem FP.app:∀{l:List α} {m:List Value} (m':List Value),FP R l m→FP R l (m++m')
 |[],_,_,_=>trivial
 |p::ps,m,m',h=>by obtain⟨v,r,rfl,h1,h2,h⟩:=h;exact⟨v,r++m',rfl,h1,h2,h.app m'⟩
theorem FP.take:∀{l:List α} {m:List Value},FP R l m→FC R l (m.take l.length)
 |[],m,_=>by simp[FC]
 |p::ps,m,h=>by obtain⟨v,r,rfl,h1,h2,h⟩:=h;exact⟨v,r.take ps.length,by simp,h1,h2,h.take⟩
theorem FC.imp:∀{l:List α} {m:List Value} {R':α→Value→Prop},(∀p v,R p v→R' p v)→FC R l m→FC R' l m
 |[],_,_,_,h=>h
 |p::ps,m,R',hi,h=>by obtain⟨v,r,rfl,h1,h2,h⟩:=h;exact⟨v,r,rfl,h1,hi _ _ h2,h.imp hi⟩
theorem FC.map {f:α→β}(hf:∀p v,R p v→S (f p) v):∀{l:List α} {m:List Value},FC R l m→FC S (l.map f) m
 |[],_,h=>h
 |p::ps,m,h=>by obtain⟨v,r,rfl,h1,h2,h⟩:=h;exact⟨v,r,rfl,h1,hf _ _ h2,FC.map hf h⟩
theorem FL.map {f:α→β}(hf:∀p v,R p v→S (f p) v):∀{l:List α} {m:List Value},FL R l m→FL S (l.map f) m
 |[],_,h=>h
 |p::ps,m,h=>by obtain⟨v,r,rfl,h2,h⟩:=h;exact⟨v,r,rfl,hf _ _ h2,FL.map hf h⟩
theorem FL.app:∀{l l':List α} {m m':List Value},FL R l m→FL R l' m'→FL R (l++l') (m++m')
 |[],_,m,_,h,h'=>by simp only[FL] at h;simpa[h] using h'
 |p::ps,_,m,m',h,h'=>by obtain⟨v,r,rfl,h2,h⟩:=h;exact⟨v,r++m',rfl,h2,h.app h'⟩
theorem FL.get:∀{l:List α} {m:List Value} {i:Nat} {x:α},FL R l m→l[i]? = some x→∃v,m[i]? = some v∧R x v
 |[],_,_,_,_,hx=>by simp at hx
 | p::ps,m,0,x,h,hx=>by
   obtain⟨v,r,rfl,h2,h⟩:=h;simp only[List.getElem?_cons_zero,Option.some.injEq] at hx;subst hx;exact⟨v,rfl,h2⟩
 | p::ps,m,i+1,x,h,hx=>by
   obtain⟨v,r,rfl,h2,h⟩:=h;simp only[List.getElem?_cons_succ] at hx ⊢;exact h.get hx
def kF:Nat→List α→Option (List α)
 |0,_=>some []
 |_+1,[]=>none
 | n+1,a::r=>match kF n r with
   |some t=>some (a::t)
   |none=>none
def kR:Nat→List α→Option (List α)
 |0,l=>some l
 |_+1,[]=>none
 |n+1,_::r=>kR n r
def part (off n:Nat)(l:List α):Option (List α):=
 match kR off l with
 |some r=>kF n r
 |none=>none
def kI:List α→List α→Option (List α)
 |l,[]=>some l
 |[],_::_=>none
 | _::r,x::xs=>match kI r xs with
   |some t=>some (x::t)
   |none=>none
def kz:Nat→List α→List α→Option (List α)
 |0,l,xs=>kI l xs
 |_+1,[],_=>none
 | n+1,a::r,xs=>match kz n r xs with
   |some t=>some (a::t)
   |none=>none
theorem FP.kR:∀{n:Nat} {l x:List α} {m:List Value},FP R l m→kR n l=some x→n≤m.length∧FP R x (m.drop n)
 |0,l,x,m,h,e=>by simp only[AX.kR,Option.some.injEq] at e;subst e;exact⟨Nat.zero_le _,by simpa using h⟩
 |n+1,[],x,m,h,e=>by simp[AX.kR] at e
 | n+1,p::ps,x,m,h,e=>by
   obtain⟨v,r,rfl,h1,h2,h⟩:=h;simp only[AX.kR] at e;have:=h.kR e;simpa using this
theorem FP.kF:∀{n:Nat} {l x:List α} {m:List Value},FP R l m→kF n l=some x→n≤m.length∧FC R x (m.take n)
 |0,l,x,m,h,e=>by simp only[AX.kF,Option.some.injEq] at e;subst e;exact⟨Nat.zero_le _,by simp[FC]⟩
 |n+1,[],x,m,h,e=>by simp[AX.kF] at e
 | n+1,p::ps,x,m,h,e=>by
   obtain⟨v,r,rfl,h1,h2,h⟩:=h;simp only[AX.kF] at e;split at e
   ·rename_i t ht;simp only[Option.some.injEq] at e;subst e;have:=h.kF ht;refine⟨by simpa using this.1,v,r.take n,by simp,h1,h2,this.2⟩
   cases e
theorem FP.part {off n:Nat}{l x:List α}{m:List Value}(h:FP R l m)(e:part off n l=some x):off+n≤m.length∧FC R x ((m.drop off).take n):=by
 simp only[AX.part] at e;split at e
 ·rename_i r hr;obtain⟨h1,h2⟩:=h.kR hr;obtain⟨h3,h4⟩:=h2.kF e;simp only[List.length_drop] at h3;exact⟨by omega,h4⟩
 cases e
theorem FC.kI:∀{l xs l':List α} {m ys:List Value},FC R l m→FC R xs ys→kI l xs=some l'→ys.length≤m.length∧FC R l' (ys++m.drop ys.length)
 | l,[],l',m,ys,h,hx,e=>by
   have hy:ys=[]:=by cases l<;>simpa only[FC] using hx
   have e':l=l':=by cases l<;>simpa[AX.kI] using e
   subst hy;subst e';exact⟨by simp,by simpa using h⟩
 |[],x::xs,l',m,ys,h,hx,e=>by simp[AX.kI] at e
 | p::ps,x::xs,l',m,ys,h,hx,e=>by
   obtain⟨v,r,rfl,h1,h2,h⟩:=h;obtain⟨u,s,rfl,g1,g2,hx⟩:=hx;simp only[AX.kI] at e;split at e
   ·rename_i t ht;simp only[Option.some.injEq] at e;subst e;obtain⟨a,b⟩:=FC.kI h hx ht;exact⟨by simpa using a,u,_,by simp,g1,g2,b⟩
   cases e
theorem FC.kz:∀{off:Nat} {l xs l':List α} {m ys:List Value},FC R l m→FC R xs ys→kz off l xs=some l' →
  off+ys.length≤m.length∧FC R l' (m.take off++ys++m.drop (off+ys.length))
 | 0,l,xs,l',m,ys,h,hx,e=>by
   simp only[AX.kz] at e;have:=FC.kI h hx e;simpa using this
 |off+1,[],xs,l',m,ys,h,hx,e=>by simp[AX.kz] at e
 | off+1,p::ps,xs,l',m,ys,h,hx,e=>by
   obtain⟨v,r,rfl,h1,h2,h⟩:=h;simp only[AX.kz] at e;split at e
   ·rename_i t ht;simp only[Option.some.injEq] at e;subst e;obtain⟨a,b⟩:=FC.kz h hx ht;rw[show off+1+ys.length=(off+ys.length)+1 from by omega];exact⟨by simp;omega,v,r.take off++ys++r.drop (off+ys.length),by simp,h1,h2,b⟩
   cases e
theorem zq:∀{l xs l':List α},kI l xs=some l'→l'.length=l.length
 |l,[],l',e=>by cases l<;>simp[AX.kI] at e<;>simp[←e]
 |[],x::xs,l',e=>by simp[AX.kI] at e
 | p::ps,x::xs,l',e=>by
   simp only[AX.kI] at e;split at e
   ·rename_i t ht;simp only[Option.some.injEq] at e;subst e;simp[zq ht]
   cases e
theorem Ck:∀{off:Nat} {l xs l':List α},kz off l xs=some l'→l'.length=l.length
 |0,l,xs,l',e=>zq e
 |off+1,[],xs,l',e=>by simp[AX.kz] at e
 | off+1,p::ps,xs,l',e=>by
   simp only[AX.kz] at e;split at e
   ·rename_i t ht;simp only[Option.some.injEq] at e;subst e;simp[Ck ht]
   cases e
end cells
section rows
variable {N:Nat→Prop}{w:World}{st:Nat}
theorem gG:∀{rows:List (List PV)} {m:List Value},cK N w st rows m →
  rows.length*st≤m.length∧cK N w st rows (m.take (rows.length*st))∧∀u∈m.take (rows.length*st),u.oneCell'=true
 |[],m,_=>by simp[cK]
 | row::rows,m,h=>by
   obtain⟨h1,h2,h3⟩:=h;obtain⟨a,b,d⟩:=gG h3;rw[dN] at h2;have hl:=h2.length;have e:(row::rows).length*st=st+rows.length*st:=by rw[List.length_cons,Nat.add_mul];omega
   rw[e];have hs:m.take (st+rows.length*st)=m.take st++(m.drop st).take (rows.length*st):=by rw[List.take_add]
   have hc:=h2.take;rw[h1] at hc hl;simp only[List.length_drop] at a;have hlen:(m.take st).length=st:=by rw[List.length_take];omega
   refine⟨by omega,?_,?_⟩
   ·rw[hs];refine⟨h1,?_,?_⟩
    ·rw[dN];exact hc.fp.app _
    rw[List.drop_left' hlen];exact b
   rw[hs];intro u hu;rcases List.mem_append.1 hu with hu|hu
   ·exact hc.one u hu
   exact d u hu
theorem jS:∀{rows aS:List (List PV)} {m m':List Value},cK N w st rows m→m.length=rows.length*st→cK N w st aS m' →
  cK N w st (rows++aS) (m++m')
 | [],aS,m,m',_,hl,h'=>by
   have:m=[]:=List.eq_nil_of_length_eq_zero (by simpa using hl);subst this;simpa using h'
 | row::rows,aS,m,m',h,hl,h'=>by
   obtain⟨h1,h2,h3⟩:=h;have e:(row::rows).length*st=st+rows.length*st:=by rw[List.length_cons,Nat.add_mul];omega
   rw[e] at hl;refine⟨h1,?_,?_⟩
   ·rw[dN] at h2 ⊢;exact h2.app _
   rw[List.drop_append_of_le_length (by omega)];exact jS h3 (by simp only[List.length_drop];omega) h'
theorem oH:∀{rows:List (List PV)} {m:List Value} (m':List Value),cK N w st rows m→cK N w st rows (m++m')
 |[],_,_,_=>trivial
 | row::rows,m,m',h=>by
   obtain⟨h1,h2,h3⟩:=h;have hl:st≤m.length:=by rw[dN] at h2;have:=h2.length;omega
   refine⟨h1,by rw[dN] at h2 ⊢;exact h2.app _,?_⟩;rw[List.drop_append_of_le_length hl];exact oH m' h3
theorem ru:∀{rows:List (List PV)} {m:List Value} {i:Nat} {row:List PV},cK N w st rows m→rows[i]? = some row →
  row.length=st∧gU N w row (m.drop (i*st))
 |[],_,_,_,_,hx=>by simp at hx
 | r0::rows,m,0,row,h,hx=>by
   simp only[List.getElem?_cons_zero,Option.some.injEq] at hx;subst hx;exact⟨h.1,by simpa using h.2.1⟩
 | r0::rows,m,i+1,row,h,hx=>by
   simp only[List.getElem?_cons_succ] at hx;obtain⟨a,b⟩:=ru h.2.2 hx;refine⟨a,?_⟩;rw[List.drop_drop] at b;rw[show (i+1)*st=st+i*st from by rw[Nat.add_mul];omega];exact b
theorem mD:∀{rows:List (List PV)} {m:List Value} (i:Nat),cK N w st rows m→cK N w st (rows.drop i) (m.drop (i*st))
 |[],m,i,_=>by simp[cK]
 |r0::rows,m,0,h=>by simpa using h
 | r0::rows,m,i+1,h=>by
   have:=mD i h.2.2;rw[List.drop_drop] at this;rw[show (i+1)*st=st+i*st from by rw[Nat.add_mul];omega];simpa using this
theorem lN:∀{rows:List (List PV)} {m:List Value} (i:Nat),cK N w st rows m→cK N w st (rows.take i) m
 |[],m,i,_=>by simp[cK]
 |r0::rows,m,0,h=>by simp[cK]
 | r0::rows,m,i+1,h=>by
   obtain⟨h1,h2,h3⟩:=h;exact⟨h1,h2,lN i h3⟩
theorem LB:∀{rows:List (List PV)} {m:List Value} {i:Nat} {row:List PV} {ys:List Value},cK N w st rows m→i<rows.length→row.length=st →
  FC (bJ N w) row ys→cK N w st (rows.set i row) (m.take (i*st)++ys++m.drop (i*st+ys.length))
 |[],_,_,_,_,_,hi,_,_=>by simp at hi
 | r0::rows,m,0,row,ys,h,_,hl,hy=>by
   obtain⟨h1,h2,h3⟩:=h;have hyl:=hy.length;simp only[Nat.zero_mul,List.take_zero,List.nil_append,Nat.zero_add,List.set_cons_zero];refine⟨hl,by rw[dN];exact hy.fp.app _,?_⟩;rw[List.drop_left' (by omega),hyl,hl];exact h3
 | r0::rows,m,i+1,row,ys,h,hi,hl,hy=>by
   obtain⟨h1,h2,h3⟩:=h;have hst:st≤m.length:=by rw[dN] at h2;have:=h2.length;omega
   have ih:=LB (i:=i) h3 (by simpa using hi) hl hy;have e:(i+1)*st=st+i*st:=by rw[Nat.add_mul];omega
   have h2':=h2;rw[dN] at h2';have hc:=h2'.take;rw[h1] at hc;have hlen:(m.take st).length=st:=by rw[List.length_take];omega
   rw[e,List.take_add,List.append_assoc,List.append_assoc];refine⟨h1,by rw[dN];exact hc.fp.app _,?_⟩;rw[List.drop_left' hlen,show st+i*st+ys.length=st+(i*st+ys.length) from by omega,←List.drop_drop,←List.append_assoc];exact ih
end rows
inductive DI where
 |str (fs:List (Nat×TypeId))
 |TV (n:Nat) (e:TypeId)
 |slt (e:TypeId)
 |xC (k:IntKind)
 |XA
 |KI
 |Gc (e:TypeId)
 |Dt
 |agw (k e:TypeId)
 |oth
def di:TypeDesc→DI
 |.struct fs=>.str (fs.toList.map fun f=>(f.offset,f.type))
 |.array n e=>.TV n e
 |.slice e=>.slt e
 |.int k=>.xC k
 |.bool=>.XA
 |.string=>.KI
 |.pointer e=>.Gc e
 |.func _ _ _=>.Dt
 |.map k e=>.agw k e
 |_=>.oth
inductive EK where
 |int (k:IntKind)
 |bool
 |str
structure TI where
 size:Nat
 bytes:Nat
 zero:List Value
 d:DI
 cmp:Option (List EK)
def tiF (i:TI)(K:Nat→Nat→Prop):Prop:=
 match i with
 |⟨sz,Gw,_,_,_⟩=>K sz Gw
theorem eu (i:TI)(K:Nat→Nat→Prop):tiF i K=K i.size i.bytes:=rfl
def DI.isAgg:DI→Bool
 |.str _=>true
 |.TV _ _=>true
 |_=>false
def eqV:EK→Value→Value→Option Bool
 | .int i,.int j a,.int k b=>match decide (i=j),decide (i=k) with
   |true,true=>some (a==b)
   |_,_=>none
 |.bool,.bool a,.bool b=>some (a==b)
 |.str,.string a,.string b=>some (a.toList==b.toList)
 |_,_,_=>none
def lK:List EK→List Value→List Value→Option Bool
 |[],[],[]=>some true
 | k::ks,x::xs,y::ys=>match eqV k x y with
   | some a=>match ks with
     | []=>match xs,ys with
       |[],[]=>some a
       |_,_=>none
     | _=>match lK ks xs ys with
       |some b=>some (a&&b)
       |none=>none
   |none=>none
 |_,_,_=>none
def agf (P:Program)(t:TypeId)(ks:List EK):Prop:=∀(w:World) (xs ys:Array Value) (b:Bool),lK ks xs.toList ys.toList=some b →
 (Op.equal t (.agg xs) (.agg ys)).run P w=.ok b w
structure dw (P:Program)(t:TypeId)(i:TI):Prop where
 info:(P.info? t).map (fun x=>(x.size,x.bytes,x.zero.map (·.cells.toList)))=some (i.size,i.bytes,some i.zero)
 desc:(P.underlying t).map di=some i.d
 Wn:i.zero.length=i.size
 SV:i.zero.all (·.oneCell')=true
 agg:i.d.isAgg=false→i.size=1
 aiW:i.d.isAgg=(((P.info? t).bind (·.zero)).map (fun z=>z matches .agg _)).getD false
 cmp:∀ks,i.cmp=some ks→agf P t ks∧P.eqGuardType P.depth t=false
def bY (P:Program)(T:List (Nat×TI)):Prop:=∀t i,lk T t=some i→dw P t i
section table
variable {P:Program}{t:TypeId}{i:TI}
theorem dw.D5 (h:dw P t i):∃x z,P.info? t=some x∧x.size=i.size∧x.bytes=i.bytes∧x.zero=some z∧z.cells.toList=i.zero:=by
 have:=h.info;cases hx:P.info? t with
 |none=>rw[hx] at this;cases this
 | some x=>
   rw[hx] at this;simp only[Option.map_some,Option.some.injEq,Prod.mk.injEq] at this;obtain⟨a,b,c⟩:=this;cases hz:x.zero with
   |none=>rw[hz] at c;cases c
   | some z=>
     rw[hz] at c;simp only[Option.map_some,Option.some.injEq] at c;exact⟨x,z,rfl,a,b,hz,c⟩
theorem dw.gW (h:dw P t i):∃d,P.underlying t=some d∧di d=i.d:=by
 have:=h.desc;cases hx:P.underlying t with
 |none=>rw[hx] at this;cases this
 |some d=>rw[hx] at this;simp only[Option.map_some,Option.some.injEq] at this;exact⟨d,rfl,this⟩
theorem dw.run_sizeOf (h:dw P t i)(w:World):(sizeOf t).run P w=.ok i.size w:=by
 obtain⟨x,z,h1,h2,_⟩:=h.D5;simp[sizeOf,typeInfo,h1,h2]
theorem dw.rz (h:dw P t i)(w:World):(isAgg t).run P w=.ok i.d.isAgg w:=by
 obtain⟨d,h1,h2⟩:=h.gW;rw[←h2];simp only[isAgg,Sem.run_bind,run_underlying h1,Result.andThen_ok];cases d<;>simp[di,DI.isAgg]
theorem dw.qP (h:dw P t i)(w:World):∃z,(zeroValue t).run P w=.ok z w∧z.cells.toList=i.zero∧(i.d.isAgg=(z matches .agg _)):=by
 obtain⟨x,z,h1,h2,h3,h4,h5⟩:=h.D5;refine⟨z,by simp[zeroValue,typeInfo,h1,h4],h5,?_⟩;have:=h.aiW;simpa[h1,h4] using this
end table
section runs
variable {P:Program}{w:World}
theorem addr_add (g o n:Nat):(⟨g,o,none⟩:Addr).add n=⟨g,o+n,none⟩:=by
 unfold Addr.add;split
 ·rename_i h;simp[h]
 rfl
theorem yP {g j:Nat}{cur:Array Value}{e:TypeId}{fr:Nat×Nat}(hg:w.heap[g]? = some (.cells cur e fr)):w.cell? ⟨g,j,none⟩=cur[j]? :=
 cell_of_row w g j cur e fr hg
theorem LC {g j:Nat}{cur:Array Value}{e:TypeId}{fr:Nat×Nat}(hg:w.heap[g]? = some (.cells cur e fr)){v:Value}(hv:cur[j]? = some v) :
  (load ⟨g,j,none⟩).run P w=.ok v w:=by
 rw[run_load,yP hg,hv]
theorem rA {g off n:Nat}{cur:Array Value}{e:TypeId}{fr:Nat×Nat}(hg:w.heap[g]? = some (.cells cur e fr))(hl:off+n≤cur.size) :
  (loadCells ⟨g,off,none⟩ n).run P w=.ok ((cur.toList.drop off).take n).toArray w:=by
 have hlen:((cur.toList.drop off).take n).length=n:=by simp;omega
 have:=run_loadCells_list (P:=P) (w:=w) ⟨g,off,none⟩ ((cur.toList.drop off).take n) (fun j v h=>by
  rw[addr_add,yP hg];rw[List.getElem?_take] at h;split at h
  ·rw[List.getElem?_drop] at h;simpa using h
  cases h)
 rw[hlen] at this;exact this
theorem lW {t:TypeId}{i:TI}(hi:dw P t i){g off:Nat}{cur:Array Value}{e:TypeId}{fr:Nat×Nat}(hg:w.heap[g]? = some (.cells cur e fr))
  (hl:off+i.size≤cur.size) :
  (loadVar t ⟨g,off,none⟩).run P w=.ok (if i.d.isAgg then .agg ((cur.toList.drop off).take i.size).toArray else cur[off]!) w:=by
 cases ha:i.d.isAgg with
 | true=>
   simp only[loadVar,Sem.run_bind,hi.rz,Result.andThen_ok,ha,if_true,hi.run_sizeOf,rA hg hl,Sem.run_pure]
 | false=>
   have h1:=hi.agg ha;have hv:cur[off]? = some cur[off]! :=by
    rw[getElem!_pos cur off (by omega)];exact Array.getElem?_eq_getElem (by omega)
   simp only[loadVar,Sem.run_bind,hi.rz,Result.andThen_ok,ha,Bool.false_eq_true,if_false,LC hg hv]
theorem uh {t:TypeId}{i:TI}(hi:dw P t i){g off:Nat}{cur:Array Value}{e:TypeId}{v:Value}(hg:w.heap[g]? = some (.cells cur e (0,0)))
  (hs:v.cells.size=i.size) (hl:off+i.size≤cur.size) (h1:∀u∈v.cells.toList,u.oneCell'=true) :
  (storeVar t ⟨g,off,none⟩ v).run P w=.ok () (w.setRow g (cur.toList.take off++v.cells.toList++cur.toList.drop (off+v.cells.toList.length)).toArray):=by
 have:=run_storeCells_at P g off e v.cells.toList 0 cur w hg (by simp;omega) h1;simp only[Nat.add_zero] at this;simp[storeVar,hi.run_sizeOf,hs,this]
end runs
end
section
def Same (w w':World):Prop:=mr (fun _=>False) w w'
def Enters (P:Program)(f:FuncId):Prop:=∃fn,P.funcs[f]? = some fn∧fn.body.isSome=true∧(fn.name == "runtime.NumGoroutine")=false
def PC (P:Program)(f:FuncId)(args:List PV)(Q:PV→Prop):Prop:=
 Enters P f∧∀(F:Nat→Prop) (w:World) (dz:Array Value),(∀r,F r→r<w.heap.size)→eY F w args dz.toList →
  Calls P f dz w fun e w'=>∃v r,e=.returned v∧Q r∧bJ F w' r v∧Same w w'
def dB (P:Program)(f:FuncId)(args:List PV)(r:PV):Prop:=PC P f args (fun x=>x=r)
abbrev Tab:=List (Nat×TI)
def cellP:PV→Bool
 |.sc v=>v.oneCell'
 |.sl _ _ _=>true
 |.dL _ _=>true
 |.fn _ _ _=>true
 |_=>false
def adv:AV→Bool
 |.pv p=>cellP p
 |.ptr _ _=>true
 |.dM _ _ _ _=>true
 |.aO _ _=>true
 |.sub _ _ _ _ _=>true
 |.fn _ _ _=>true
 |_=>false
def LD:List PV→Option (List AV)
 |[]=>some []
 | p::r=>match LD r with
   |some t=>some (.pv p::t)
   |none=>none
def zPV:List Value→Option (List PV)
 |[]=>some []
 | v::r=>match zPV r with
   |some t=>some (.sc v::t)
   |none=>none
def zAV:List Value→Option (List AV)
 |[]=>some []
 | v::r=>match zAV r with
   |some t=>some (.pv (.sc v)::t)
   |none=>none
def ji:List AV→Option (List PV)
 |[]=>some []
 | .pv p::r=>match ji r with
   |some ps=>some (p::ps)
   |none=>none
 |_::_=>none
def yU (cs:List AV):Option AV:=
 match ji cs with
 |some ps=>some (.pv (.agg ps))
 |none=>some (.agg cs)
def cellsOf (i:TI)(v:AV):Option (List AV):=
 match i.d.isAgg with
 | true=>match v with
   |.pv (.agg cs)=>LD cs
   |.agg cs=>some cs
   |_=>none
 | false=>match adv v with
   |true=>some [v]
   |false=>none
def lQ (i:TI)(p:PV):Option (List PV):=
 match i.d.isAgg with
 | true=>match p with
   |.agg cs=>some cs
   |_=>none
 | false=>match cellP p with
   |true=>some [p]
   |false=>none
def uq (o:Option aF)(ver:Nat):Option PV:=
 match o with
 | some (.arr _ v st rows)=>match Nat.beq ver v with
   |true=>some (.sl false st rows)
   |false=>none
 | some (.dS v st rows)=>match Nat.beq ver v with
   |true=>some (.sl false st rows)
   |false=>none
 |_=>none
def Rw (o:Option aF)(off:Nat):Option PV:=
 match o with
 | some (.var cells)=>match ji cells with
   |some ps=>some (.dL ps off)
   |none=>none
 |some (.nR cells)=>some (.dL cells off)
 |_=>none
def jF (rows:List (List PV))(lo hi:Nat):List (List PV):=(rows.drop lo).take (hi-lo)
def adw (o:Option PV)(st lo hi:Nat):Option PV:=
 match o with
 | some (.sl _ st' rows)=>match Nat.beq st st' with
   |true=>some (.sl false st' (jF rows lo hi))
   |false=>none
 |_=>none
mutual
def vw (H:List (Nat×aF)):AV→Option PV
 |.pv p=>some p
 |.aO b ver=>uq (lk H b) ver
 |.sub b ver st lo hi=>adw (uq (lk H b) ver) st lo hi
 |.ptr b off=>Rw (lk H b) off
 | .agg cs=>match GL H cs with
   |some ps=>some (.agg ps)
   |none=>none
 | .cO cs=>match GL H cs with
   |some ps=>some (.cO ps)
   |none=>none
 | .fn f a c=>match GL H a,GL H c with
   |some x,some y=>some (.fn f x y)
   |_,_=>none
 |.dM _ _ _ _=>none
def GL (H:List (Nat×aF)):List AV→Option (List PV)
 |[]=>some []
 | v::r=>match vw H v with
   | some p=>match GL H r with
     |some t=>some (p::t)
     |none=>none
   |none=>none
end
mutual
def refs:AV→List Nat
 |.pv _=>[]
 |.aO b _=>[b]
 |.sub b _ _ _ _=>[b]
 |.ptr b _=>[b]
 |.dM b _ _ _=>[b]
 |.agg cs=>fq cs
 |.cO cs=>fq cs
 |.fn _ a c=>fq a++fq c
def fq:List AV→List Nat
 |[]=>[]
 |v::r=>refs v++fq r
end
def Je (H:List (Nat×aF)):List Nat→Option (List (Nat×aF))
 |[]=>some []
 | b::r=>match Je H r with
   | some t=>match lk t b with
     |some _=>some t
     | none=>match lk H b with
       |some (.arr _ v st rows)=>some ((b,.dS v st rows)::t)
       | some (.var cells)=>match ji cells with
         |some ps=>some ((b,.nR ps)::t)
         |none=>none
       |some (.dS _ _ _)=>some t
       |some (.nR _)=>some t
       |some (.tr _ _ _ _)=>none
       |some (.gy _ _ _ _ _ _)=>none
       |some (.mp _ _ _)=>none
       |some (.iM _ _ _ _ _ _ _ _ _)=>none
       |none=>none
   |none=>none
mutual
def Dn:PV→Bool
 |.sc _=>true
 |.junk=>true
 |.agg cs=>Ef cs
 |.cO cs=>Ef cs
 |_=>false
def Ef:List PV→Bool
 |[]=>true
 | p::r=>match Dn p with
   |true=>Ef r
   |false=>false
end
def JH:List EK→List PV→List PV→Option Bool
 |[],[],[]=>some true
 | k::ks,.sc x::xs,.sc y::ys=>match eqV k x y with
   | some a=>match ks with
     | []=>match xs,ys with
       |[],[]=>some a
       |_,_=>none
     | _=>match JH ks xs ys with
       |some b=>some (a&&b)
       |none=>none
   |none=>none
 |_,_,_=>none
def Ti (op:BinOp)(k:IntKind)(a b:Int)(K:AV→Prop):Prop:=
 match op with
 |.add=>K (.pv (.sc (.int k (k.wrap (a+b)))))
 |.sub=>K (.pv (.sc (.int k (k.wrap (a-b)))))
 |.mul=>K (.pv (.sc (.int k (k.wrap (a*b)))))
 |.quo=>b≠0∧K (.pv (.sc (.int k (k.wrap (a.tdiv b)))))
 |.rem=>b≠0∧K (.pv (.sc (.int k (a.tmod b))))
 |.and=>K (.pv (.sc (.int k (k.wrap (BitVec.toNat (BitVec.ofInt k.bits a &&& BitVec.ofInt k.bits b))))))
 |.or=>K (.pv (.sc (.int k (k.wrap (BitVec.toNat (BitVec.ofInt k.bits a ||| BitVec.ofInt k.bits b))))))
 |.xor=>K (.pv (.sc (.int k (k.wrap (BitVec.toNat (BitVec.ofInt k.bits a ^^^ BitVec.ofInt k.bits b))))))
 |.andNot=>K (.pv (.sc (.int k (k.wrap (BitVec.toNat (BitVec.ofInt k.bits a &&& ~~~ (BitVec.ofInt k.bits b)))))))
 |.eql=>K (.pv (.sc (.bool (a==b))))
 |.neq=>K (.pv (.sc (.bool (a != b))))
 |.lss=>K (.pv (.sc (.bool (decide (a<b)))))
 |.leq=>K (.pv (.sc (.bool (decide (a≤b)))))
 |.gtr=>K (.pv (.sc (.bool (decide (a>b)))))
 |.geq=>K (.pv (.sc (.bool (decide (a≥b)))))
 |_=>False
def JI:BinOp→Bool
 |.shl=>true
 |.shr=>true
 |_=>false
def AJ (op:BinOp)(k:IntKind)(a b:Int)(K:AV→Prop):Prop:=
 match op with
 |.shl=>0≤b∧K (.pv (.sc (.int k (k.wrap (a*2 ^ (min b.toNat k.bits))))))
 |.shr=>0≤b∧K (.pv (.sc (.int k (a.fdiv (2 ^ (min b.toNat k.bits))))))
 |_=>False
def WV (op:BinOp)(a b:ByteArray)(K:AV→Prop):Prop:=
 match op with
 |.eql=>K (.pv (.sc (.bool (a.toList==b.toList))))
 |.neq=>K (.pv (.sc (.bool (!(a.toList==b.toList)))))
 |.add=>a.size+b.size≤9223372036854775807∧K (.pv (.sc (.string (a++b))))
 |.lss=>K (.pv (.sc (.bool (Op.bytesLess a.toList b.toList))))
 |.leq=>K (.pv (.sc (.bool (Op.bytesLess a.toList b.toList||a.toList==b.toList))))
 |.gtr=>K (.pv (.sc (.bool (!(Op.bytesLess a.toList b.toList||a.toList==b.toList)))))
 |.geq=>K (.pv (.sc (.bool (!(Op.bytesLess a.toList b.toList)))))
 |_=>False
def Q6 (op:BinOp)(b:Bool)(K:AV→Prop):Prop:=
 match op with
 |.eql=>K (.pv (.sc (.bool b)))
 |.neq=>K (.pv (.sc (.bool (!b))))
 |_=>False
def KX:AV→Bool
 |.ptr _ _=>true
 |.pv (.dL _ _)=>true
 |_=>false
def abB:AV→Bool
 |.fn _ _ _=>true
 |.pv (.fn _ _ _)=>true
 |_=>false
def OB (i:TI)(op:BinOp)(x y:AV)(K:AV→Prop):Prop:=
 match i.d with
 | .XA=>match x,y with
   |.pv (.sc (.bool a)),.pv (.sc (.bool b))=>Q6 op (a==b) K
   |_,_=>False
 | .str _=>match x,y with
   | .pv (.agg xs),.pv (.agg ys)=>match i.cmp with
     | some ks=>match JH ks xs ys with
       |some b=>Q6 op b K
       |none=>False
     |none=>False
   |_,_=>False
 | .Gc _=>match x,y with
   |.pv (.sc (.pointer none)),.pv (.sc (.pointer none))=>Q6 op true K
   | x,.pv (.sc (.pointer none))=>match KX x with
     |true=>Q6 op false K
     |false=>False
   |_,_=>False
 | .slt _=>match x,y with
   |.pv (.sc (.slice none _ _)),.pv (.sc (.slice none _ _))=>Q6 op true K
   |.pv (.sl true _ _),.pv (.sc (.slice none _ _))=>Q6 op false K
   |_,_=>False
 | .Dt=>match x,y with
   |.pv (.sc .nilFunc),.pv (.sc .nilFunc)=>Q6 op true K
   | x,.pv (.sc .nilFunc)=>match abB x with
     |true=>Q6 op false K
     |false=>False
   |_,_=>False
 |_=>False
def Gd (T:Tab)(op:BinOp)(t:TypeId)(x y:AV)(K:AV→Prop):Prop:=
 match x,y with
 | .pv (.sc (.int k a)),.pv (.sc (.int j b))=>match JI op with
   |true=>AJ op k a b K
   | false=>match decide (k=j) with
     |true=>Ti op k a b K
     |false=>False
 |.pv (.sc (.string a)),.pv (.sc (.string b))=>WV op a b K
 | x,y=>match lk T t with
   |some i=>OB i op x y K
   |none=>False
theorem Ia {N:Nat→Prop}{w:World}:∀{ks:List EK} {xs ys:List PV} {us vs:List Value} {b:Bool},FC (bJ N w) xs us→FC (bJ N w) ys vs→JH ks xs ys=some b→lK ks us vs=some b
 | [],[],[],us,vs,b,h1,h2,e=>by
   simp only[FC] at h1 h2;subst h1;subst h2;simpa[JH,lK] using e
 |[],[],y::ys,us,vs,b,h1,h2,e=>by simp[JH] at e
 |[],x::xs,ys,us,vs,b,h1,h2,e=>by simp[JH] at e
 |k::ks,[],ys,us,vs,b,h1,h2,e=>by simp[JH] at e
 |k::ks,x::xs,[],us,vs,b,h1,h2,e=>by cases x<;>simp[JH] at e
 | k::ks,x::xs,y::ys,us,vs,b,h1,h2,e=>by
   obtain⟨u,us,rfl,_,hu,h1⟩:=h1;obtain⟨v,vs,rfl,_,hv,h2⟩:=h2;cases x<;>cases y<;>simp only[JH] at e<;>try (cases e;done)
   simp only[bJ] at hu hv;subst hu;subst hv;split at e
   ·rename_i a ha;split at e
    ·split at e
     ·simp only[FC] at h1 h2;subst h1;subst h2;simp only[lK,ha];exact e
     cases e
    rename_i hne;split at e
    ·rename_i b' hb;have:=Ia h1 h2 hb;cases ks with
     |nil=>exact (hne rfl).elim
     |cons k2 ks=>simp only[lK,ha,this];exact e
    cases e
   cases e
section XE
variable {P:Program}{T:Tab}{N:Nat→Prop}{w:World}{hp:List (Nat×aF)}{R:Real}
theorem Ib {op:BinOp}{b:Bool}{K:AV→Prop}(h:Q6 op b K){t:TypeId}{x y:Value}(hx:(Op.equal t x y).run P w=.ok b w)
  (h1:(op=.eql→binOp op t x y=(do pure (.bool (←Op.equal t x y))))∧(op=.neq→binOp op t x y=(do pure (.bool (!(←Op.equal t x y)))))) :
  ∃v,(binOp op t x y).run P w=.ok v w∧∃p,K (.pv p)∧bJ N w p v:=by
 cases op<;>simp only[Q6] at h
 ·refine⟨.bool b,?_,_,h,by simp[bJ]⟩;rw[h1.1 rfl];simp[hx]
 refine⟨.bool (!b),?_,_,h,by simp[bJ]⟩;rw[h1.2 rfl];simp[hx]
theorem y5 {b:AV}(h:KX b=true){v:Value}(hv:ak N w hp R b v):∃a,v=.pointer (some a):=by
 cases b with
 | ptr b off=>
   simp only[ak] at hv;cases hb:lk hp b with
   |none=>rw[hb] at hv;exact hv.elim
   |some box=>rw[hb] at hv;cases box<;>simp only[aY] at hv<;>exact⟨_,hv⟩
 | pv p=>
   cases p<;>simp[KX] at h
   simp only[ak,bJ] at hv;obtain⟨g,base,cur,e,fr,h1,_⟩:=hv;exact⟨_,h1⟩
 |_=>simp[KX] at h
theorem abC {b:AV}(h:abB b=true){v:Value}(hv:ak N w hp R b v):∃f a c,v=.func f a c:=by
 cases b with
 | fn f a c=>
   simp only[ak] at hv;obtain⟨fs,cs,h1,_⟩:=hv;exact⟨_,_,_,h1⟩
 | pv p=>
   cases p<;>simp[abB] at h
   simp only[ak,bJ] at hv;obtain⟨fs,cs,h1,_⟩:=hv;exact⟨_,_,_,h1⟩
 |_=>simp[abB] at h
theorem iC (op:BinOp)(t:TypeId)(x y:Operand)(u v:Value)(h:(∀a b,u=.agg a→v=.agg b→False)∧(u=.nilIface→v=.nilIface→False)) :
  (eqGuard op t x y u v).run P w=.ok () w:=by
 obtain⟨h1,h2⟩:=h;unfold eqGuard;cases op<;>simp<;>(split<;>first|rfl|(exfalso;first|exact h2 rfl rfl|exact h1 _ _ rfl rfl))
theorem run_eqGuard_agg (op:BinOp)(t:TypeId)(x y:Operand)(a b:Array Value)(h:P.eqGuardType P.depth t=false) :
  (eqGuard op t x y (.agg a) (.agg b)).run P w=.ok () w:=by
 unfold eqGuard;cases op<;>simp[h]
theorem Rx {m:Sem Value}{r:Value}{K:AV→Prop}(h:K (.pv (.sc r)))(hr:m.run P w=.ok r w) :
  ∃r,m.run P w=.ok r w∧∃p,K (.pv p)∧bJ N w p r:=⟨r,hr,_,h,by simp only[bJ]⟩
theorem O8 {op:BinOp}{k:IntKind}{a b:Int}{K:AV→Prop}(h:Ti op k a b K)(t:TypeId)(hs:op ≠ .shl∧op ≠ .shr) :
  ∃r,(binOp op t (.int k a) (.int k b)).run P w=.ok r w∧∃p,K (.pv p)∧bJ N w p r:=by
 obtain⟨s1,s2⟩:=hs;cases op<;>simp only[Ti] at h<;>try (exact h.elim)
 all_goals first
  |exact absurd rfl s1
  |exact absurd rfl s2
  | (obtain⟨hb,h⟩:=h
     exact Rx h (by simp[binOp,Op.intDiv,hb]))
  |exact Rx h (by simp[binOp,Op.intArith,Op.intCmp,Op.intBits])
theorem O9 {op:BinOp}{a b:ByteArray}{K:AV→Prop}(h:WV op a b K)(t:TypeId) :
  ∃r,(binOp op t (.string a) (.string b)).run P w=.ok r w∧∃p,K (.pv p)∧bJ N w p r:=by
 cases op<;>simp only[WV] at h<;>try (exact h.elim)
 all_goals first
  | (obtain⟨hb,h⟩:=h
     refine Rx h ?_;have:¬((a.size+b.size:Nat):Int)>IntKind.i64.max:=by
      have e:IntKind.i64.max=9223372036854775807:=by decide
      rw[e];omega
     simp only[binOp,Op.stringOp];rw[if_neg this];simp)
  |exact Rx h (by simp[binOp,Op.stringOp])
theorem fin {op:BinOp}{b:Bool}{K:AV→Prop}(h:Q6 op b K){t:TypeId}{x y:Value}{xo yo:Operand}(hx:(Op.equal t x y).run P w=.ok b w)
  (h1:(op=.eql→binOp op t x y=(do pure (.bool (←Op.equal t x y))))∧(op=.neq→binOp op t x y=(do pure (.bool (!(←Op.equal t x y))))))
  (hg:(∀a b,x=.agg a→y=.agg b→False)∧(x=.nilIface→y=.nilIface→False)) :
  ∃r,(do eqGuard op t xo yo x y;binOp op t x y:Sem Value).run P w=.ok r w∧∃p,K (.pv p)∧bJ N w p r:=by
 obtain⟨r,h3,h4⟩:=Ib (N:=N) h hx h1;exact⟨r,by rw[Sem.run_bind,iC _ _ _ _ _ _ hg];exact h3,h4⟩
theorem aew (d:Nat){t el:TypeId}(h:P.underlying t=some (.pointer el)):(Op.equalIn (d+1) t (.pointer none) (.pointer none)).run P w=.ok true w:=by
 simp[Op.equalIn,run_underlying h]
theorem adg (d:Nat){t el:TypeId}(a:Addr)(h:P.underlying t=some (.pointer el)):(Op.equalIn (d+1) t (.pointer (some a)) (.pointer none)).run P w=.ok false w:=by
 simp[Op.equalIn,run_underlying h]
theorem aex (d:Nat){t el:TypeId}(a b c e:Nat)(h:P.underlying t=some (.slice el)):(Op.equalIn (d+1) t (.slice none a b) (.slice none c e)).run P w=.ok true w:=by
 simp[Op.equalIn,run_underlying h]
theorem agz (d:Nat){t el:TypeId}(x:Addr)(a b c e:Nat)(h:P.underlying t=some (.slice el)):(Op.equalIn (d+1) t (.slice (some x) a b) (.slice none c e)).run P w=.ok false w:=by
 simp[Op.equalIn,run_underlying h]
theorem aey (d:Nat){t:TypeId}{a b:Array TypeId}{c:Bool}(h:P.underlying t=some (.func a b c)):(Op.equalIn (d+1) t .nilFunc .nilFunc).run P w=.ok true w:=by
 simp[Op.equalIn,run_underlying h]
theorem agA (d:Nat){t:TypeId}{a b:Array TypeId}{c:Bool}(f:Fn)(x y:Array Value)(h:P.underlying t=some (.func a b c)):(Op.equalIn (d+1) t (.func f x y) .nilFunc).run P w=.ok false w:=by
 simp[Op.equalIn,run_underlying h]
theorem Pb (i:TI){t:TypeId}(hi:dw P t i){op:BinOp}{x y:AV}{K:AV→Prop}(h:OB i op x y K){u v:Value}
  (hx:ak N w hp R x u) (hy:ak N w hp R y v) (xo yo:Operand) :
  ∃r,(do eqGuard op t xo yo u v;binOp op t u v:Sem Value).run P w=.ok r w∧∃p,K (.pv p)∧bJ N w p r:=by
 obtain⟨d,hd,ig⟩:=hi.gW;unfold OB at h;split at h
 ·-- bool
  rename_i e;split at h;rotate_left;cases h
  simp only[ak,bJ] at hx hy;subst hx;subst hy;have hd':P.underlying t=some .bool:=by
   rw[e] at ig;cases d<;>simp[di] at ig
   exact hd
  exact fin h (run_equalIn_bool w 9999 t _ _ hd') ⟨fun e=>by subst e;rfl,fun e=>by subst e;rfl⟩ ⟨fun _ _ ha _=>(by cases ha),fun ha _=>(by cases ha)⟩
 ·-- struct
  rename_i fs e;split at h;rotate_left;cases h
  rename_i x' y' xs ys;split at h;rotate_left;cases h
  rename_i ks hc;split at h;rotate_left;cases h
  rename_i b hb;simp only[ak,bJ] at hx hy;obtain⟨us,rfl,hx⟩:=hx;obtain⟨vs,rfl,hy⟩:=hy;rw[gM] at hx hy;obtain⟨ho,hg⟩:=hi.cmp ks hc;have hr:=ho w us vs b (Ia hx hy hb);obtain⟨r,h3,h4⟩:=Ib (N:=N) h hr ⟨fun e=>by subst e;rfl,fun e=>by subst e;rfl⟩;exact⟨r,by rw[Sem.run_bind,run_eqGuard_agg _ _ _ _ _ _ hg];exact h3,h4⟩
 ·-- pointer
  rename_i el e;have hd':P.underlying t=some (.pointer el):=by
   rw[e] at ig;cases d<;>simp[di] at ig
   subst ig;exact hd
  split at h
  ·simp only[ak,bJ] at hx hy;subst hx;subst hy;exact fin h (aew 9999 hd') ⟨fun e=>by subst e;rfl,fun e=>by subst e;rfl⟩ ⟨fun _ _ ha _=>(by cases ha),fun ha _=>(by cases ha)⟩
  ·split at h
   ·rename_i hp';obtain⟨a,rfl⟩:=y5 hp' hx;simp only[ak,bJ] at hy;subst hy;exact fin h (adg 9999 a hd') ⟨fun e=>by subst e;rfl,fun e=>by subst e;rfl⟩ ⟨fun _ _ ha _=>(by cases ha),fun ha _=>(by cases ha)⟩
   exact h.elim
  exact h.elim
 ·-- slice
  rename_i el e;have hd':P.underlying t=some (.slice el):=by
   rw[e] at ig;cases d<;>simp[di] at ig
   subst ig;exact hd
  split at h
  ·simp only[ak,bJ] at hx hy;subst hx;subst hy;exact fin h (aex 9999 _ _ _ _ hd') ⟨fun e=>by subst e;rfl,fun e=>by subst e;rfl⟩ ⟨fun _ _ ha _=>(by cases ha),fun ha _=>(by cases ha)⟩
  ·simp only[ak,bJ] at hx hy;subst hy;obtain⟨p,len,cap,rfl,_,_,hp',_⟩:=hx;cases p with
   |none=>exact absurd (hp' rfl).1 (by simp)
   | some a=>
     exact fin h (agz 9999 a _ _ _ _ hd') ⟨fun e=>by subst e;rfl,fun e=>by subst e;rfl⟩ ⟨fun _ _ ha _=>(by cases ha),fun ha _=>(by cases ha)⟩
  exact h.elim
 ·-- func
  rename_i e;have hd':∃a b c,P.underlying t=some (.func a b c):=by
   rw[e] at ig;cases d<;>simp[di] at ig
   exact⟨_,_,_,hd⟩
  obtain⟨fa,fb,fc,hd'⟩:=hd';split at h
  ·simp only[ak,bJ] at hx hy;subst hx;subst hy;exact fin h (aey 9999 hd') ⟨fun e=>by subst e;rfl,fun e=>by subst e;rfl⟩ ⟨fun _ _ ha _=>(by cases ha),fun ha _=>(by cases ha)⟩
  ·split at h
   ·rename_i hp';obtain⟨f,a,b,rfl⟩:=abC hp' hx;simp only[ak,bJ] at hy;subst hy;exact fin h (agA 9999 f a b hd') ⟨fun e=>by subst e;rfl,fun e=>by subst e;rfl⟩ ⟨fun _ _ ha _=>(by cases ha),fun ha _=>(by cases ha)⟩
   exact h.elim
  exact h.elim
 exact h.elim
theorem Og (hT:bY P T){t:TypeId}{op:BinOp}{x y:AV}{K:AV→Prop}(h:Gd T op t x y K){u v:Value}
  (hx:ak N w hp R x u) (hy:ak N w hp R y v) (xo yo:Operand) :
  ∃r,(do eqGuard op t xo yo u v;binOp op t u v:Sem Value).run P w=.ok r w∧∃p,K (.pv p)∧bJ N w p r:=by
 unfold Gd at h;split at h
 ·rename_i k a j b;simp only[ak,bJ] at hx hy;subst hx;subst hy;split at h
  ·unfold AJ at h;split at h
   ·obtain⟨h0,h⟩:=h;refine⟨_,by rw[Sem.run_bind,iC _ _ _ _ _ _ ⟨fun _ _ ha _=>(by cases ha),fun ha _=>(by cases ha)⟩];simp only[Result.andThen_ok,binOp,Op.shift];rw[if_neg (by omega)];rfl,_,h,by simp only[bJ]⟩
   ·obtain⟨h0,h⟩:=h;refine⟨_,by rw[Sem.run_bind,iC _ _ _ _ _ _ ⟨fun _ _ ha _=>(by cases ha),fun ha _=>(by cases ha)⟩];simp only[Result.andThen_ok,binOp,Op.shift];rw[if_neg (by omega)];rfl,_,h,by simp only[bJ]⟩
   exact h.elim
  rename_i hsh;split at h;rotate_left;cases h
  rename_i hk;have hk:=of_decide_eq_true hk;subst hk;have key:op ≠ .shl∧op ≠ .shr∧Ti op k a b K:=⟨by rintro rfl;simp[JI] at hsh,by rintro rfl;simp[JI] at hsh,h⟩;obtain⟨r,h1,h2⟩:=O8 (P:=P) (N:=N) (w:=w) key.2.2 t ⟨key.1,key.2.1⟩;exact⟨r,by rw[Sem.run_bind,iC _ _ _ _ _ _ ⟨fun _ _ ha _=>(by cases ha),fun ha _=>(by cases ha)⟩];exact h1,h2⟩
 ·simp only[ak,bJ] at hx hy;subst hx;subst hy;obtain⟨r,h1,h2⟩:=O9 (P:=P) (N:=N) (w:=w) h t;exact⟨r,by rw[Sem.run_bind,iC _ _ _ _ _ _ ⟨fun _ _ ha _=>(by cases ha),fun ha _=>(by cases ha)⟩];exact h1,h2⟩
 split at h
 ·rename_i i hi;exact Pb i (hT t i hi) h hx hy xo yo
 exact h.elim
end XE
end
def kS:Op→List Operand
 |.move x=>[x]
 |.assign x=>[x]
 |.pick c a b=>[c,a,b]
 |.alloc _=>[]
 |.box _ v=>[v]
 |.build _ ps=>ps.toList.map (·.2)
 |.buildSlice _ _ ps=>ps.toList.map (·.2)
 |.load _ a=>[a]
 |.store _ a v=>[a,v]
 |.nilCheck x=>[x]
 |.binOp _ _ x y _=>[x,y]
 |.unOp _ _ x=>[x]
 |.convert _ _ x=>[x]
 |.makeFunc _ f c=>f.toList++c.toList
 |.makeSlice _ l c=>[l,c]
 |.slice _ x l h m=>x::(l.toList++(h.toList++m.toList))
 |.fieldAddr _ x _=>[x]
 |.field _ x _=>[x]
 |.indexAddr _ x i=>[x,i]
 |.index _ x i=>[x,i]
 |.extract t _=>[t]
 |.makeMap _ r=>r.toList
 |.lookup _ m k _=>[m,k]
 |.mapUpdate _ m k v=>[m,k,v]
 | .call c=>match c.callee with
   |.value f=>f::c.args.toList
   |_=>c.args.toList
 |_=>[]
section
variable {α:Type}{R:α→Value→Prop}{f:Operand→Value}
theorem V8 {x:α}{a:Operand}(h:FL R [x] (List.map f [a])):R x (f a):=by
 obtain⟨v,r,e,h1,_⟩:=h;simp only[List.map,List.cons.injEq] at e;rw[e.1];exact h1
theorem FL2 {x y:α}{a b:Operand}(h:FL R [x,y] (List.map f [a,b])):R x (f a)∧R y (f b):=by
 obtain⟨v,r,e,h1,u,s,e',h2,_⟩:=h;simp only[List.map,List.cons.injEq] at e;obtain⟨e1,rfl⟩:=e;simp only[List.cons.injEq] at e';rw[e1,e'.1];exact⟨h1,h2⟩
theorem FL3 {x y z:α}{a b c:Operand}(h:FL R [x,y,z] (List.map f [a,b,c])):R x (f a)∧R y (f b)∧R z (f c):=by
 obtain⟨v,r,e,h1,h'⟩:=h;simp only[List.map,List.cons.injEq] at e;obtain⟨e1,rfl⟩:=e;have:=FL2 (f:=f) (a:=b) (b:=c) (by simpa using h');rw[e1];exact⟨h1,this⟩
end
def AS.app (s:AS)(ws:List (Nat×aF)):AS:=⟨s.tm,s.nx,ws++s.hp⟩
def sK (i:TI)(cs:List AV)(K:AV→Prop):Prop:=
 match i.d.isAgg with
 | true=>match yU cs with
   |some v=>K v
   |none=>False
 | false=>match cs with
   |[v]=>K v
   |_=>False
def za (i:TI)(cs:List PV)(K:AV→Prop):Prop:=
 match i.d.isAgg with
 |true=>K (.pv (.agg cs))
 | false=>match cs with
   |[v]=>K (.pv v)
   |_=>False
def uR (T:Tab)(H:List (Nat×aF))(t:TypeId)(x:AV)(K:AV→Prop):Prop:=
 match lk T t with
 |none=>False
 | some i=>match x with
   | .ptr b off=>match lk H b with
     | some (.var cells)=>match part off i.size cells with
       |some cs=>sK i cs K
       |none=>False
     | some (.nR cells)=>match part off i.size cells with
       |some cs=>za i cs K
       |none=>False
     |_=>False
   | .pv (.dL row off)=>match part off i.size row with
     |some cs=>za i cs K
     |none=>False
   | .dM b ver k off=>match lk H b with
     | some (.arr _ v _ rows)=>match Nat.beq ver v with
       | true=>∃row,rows[k]? = some row∧match part off i.size row with
         |some cs=>za i cs K
         |none=>False
       |false=>False
     | some (.dS v _ rows)=>match Nat.beq ver v with
       | true=>∃row,rows[k]? = some row∧match part off i.size row with
         |some cs=>za i cs K
         |none=>False
       |false=>False
     |_=>False
   |_=>False
section
variable {P:Program}{T:Tab}{N:Nat→Prop}{w:World}{hp:List (Nat×aF)}{R:Real}
theorem LF (i:TI){t:TypeId}(hi:dw P t i){g off:Nat}{cur:Array Value}{e:TypeId}{fr:Nat×Nat}{cells cs:List AV}{K:AV→Prop}
  (hg:w.heap[g]? = some (.cells cur e fr)) (hc:FC (ak N w hp R) cells cur.toList) (hp':part off i.size cells=some cs)
  (h:sK i cs K) :
  ∃x v,(loadVar t ⟨g,off,none⟩).run P w=.ok x w∧K v∧ak N w hp R v x:=by
 obtain⟨hl,hcs⟩:=hc.fp.part hp';have hrun:=lW (w:=w) hi hg (by simpa using hl);cases ha:i.d.isAgg with
 | true=>
   simp only[sK,ha] at h;simp only[ha] at hrun;unfold yU at h;split at h;rotate_left;cases h
   rename_i v hv;refine⟨_,v,hrun,h,?_⟩;split at hv
   ·rename_i ps hps;simp only[Option.some.injEq] at hv;subst hv;simp only[ak,bJ,if_true];refine⟨_,rfl,?_⟩;rw[gM];have:∀(cs:List AV) (ps:List PV) (vs:List Value),ji cs=some ps→FC (ak N w hp R) cs vs→FC (bJ N w) ps vs:=by
     intro cs;induction cs with
     |nil=>intro ps vs h h';simp only[ji,Option.some.injEq] at h;subst h;exact h'
     | cons c cs ih=>
       intro ps vs h h';obtain⟨v,r,rfl,h1,h2,h3⟩:=h';cases c<;>simp only[ji] at h<;>try (cases h;done)
       split at h
       ·rename_i ps' qA;simp only[Option.some.injEq] at h;subst h;exact⟨v,r,rfl,h1,by simpa only[ak] using h2,ih _ _ qA h3⟩
       cases h
    exact this cs ps _ hps (by simpa using hcs)
   simp only[Option.some.injEq] at hv;subst hv;simp only[ak,if_true];refine⟨_,rfl,?_⟩;rw[bM];simpa using hcs
 | false=>
   have h1:=hi.agg ha;simp only[sK,ha] at h;simp only[ha,Bool.false_eq_true,if_false] at hrun;split at h;rotate_left;cases h
   rename_i v;obtain⟨u,r,e1,e2,e3,e4⟩:=hcs;refine⟨_,_,hrun,h,?_⟩;have:cur[off]! = u:=by
    have hlt:off<cur.size:=by simp at hl;omega
    rw[getElem!_pos cur off hlt];have hh:((cur.toList.drop off).take i.size)[0]? = some u:=by rw[e1];rfl
    rw[h1] at hh;simp only[List.getElem?_take,Nat.zero_lt_one,if_true,List.getElem?_drop,Nat.add_zero] at hh;have h3:cur[off]? = some u:=by simpa using hh
    rw[Array.getElem?_eq_getElem hlt] at h3;exact Option.some.inj h3
   rw[this];exact e3
theorem qh (i:TI){t:TypeId}(hi:dw P t i){g base off:Nat}{cur:Array Value}{e:TypeId}{fr:Nat×Nat}{cells cs:List PV}{K:AV→Prop}
  (hg:w.heap[g]? = some (.cells cur e fr)) (hc:FP (bJ N w) cells (cur.toList.drop base)) (hp':part off i.size cells=some cs)
  (h:za i cs K) :
  ∃x v,(loadVar t ⟨g,base+off,none⟩).run P w=.ok x w∧K v∧ak N w hp R v x:=by
 obtain⟨hl,hcs⟩:=hc.part hp';rw[List.drop_drop] at hcs;have hl':i.size=0∨base+off+i.size≤cur.size:=by simp at hl;omega
 cases ha:i.d.isAgg with
 | true=>
   simp only[za,ha] at h;by_cases hz:base+off+i.size≤cur.size
   ·have hrun:=lW (w:=w) hi hg hz;simp only[ha,if_true] at hrun;refine⟨_,_,hrun,h,?_⟩;simp only[ak,bJ];exact⟨_,rfl,by rw[gM];simpa using hcs⟩
   have hz0:=hl'.resolve_right hz;refine⟨.agg #[],_,?_,h,?_⟩
   ·simp[loadVar,hi.rz,ha,hi.run_sizeOf,hz0,loadCells,loadCellsFrom]
   simp only[ak,bJ];exact⟨_,rfl,by rw[gM];simpa[hz0] using hcs⟩
 | false=>
   have h1:=hi.agg ha;have hz:base+off+i.size≤cur.size:=by omega
   have hrun:=lW (w:=w) hi hg hz;simp only[za,ha] at h;simp only[ha,Bool.false_eq_true,if_false] at hrun;split at h;rotate_left;cases h
   rename_i v;obtain⟨u,r,e1,e2,e3,e4⟩:=hcs;refine⟨_,_,hrun,h,?_⟩;have:cur[base+off]! = u:=by
    have hlt:base+off<cur.size:=by omega
    rw[getElem!_pos cur (base+off) hlt];have hh:((cur.toList.drop (base+off)).take i.size)[0]? = some u:=by rw[e1];rfl
    rw[h1] at hh;simp only[List.getElem?_take,Nat.zero_lt_one,if_true,List.getElem?_drop,Nat.add_zero] at hh;have h3:cur[base+off]? = some u:=by simpa using hh
    rw[Array.getElem?_eq_getElem hlt] at h3;exact Option.some.inj h3
   rw[this];simpa only[ak] using e3
end
section
variable {P:Program}{T:Tab}{c:Ctx}{R:Real}{s:AS}{a:Act}{w:World}
theorem gQ {N:Nat→Prop}{hp:List (Nat×aF)}{b:Nat}{e:TypeId}{ver st:Nat}{rows:List (List PV)}(h:dY N w hp R b (.arr e ver st rows))(hn:R.nil b=false) :
  ∃cur,w.heap[R.blk b]? = some (.cells cur e (0,0))∧cur.size=(R.cap b).1*st∧rows.length≤(R.cap b).1∧(R.cap b).1≤maxLen∧cK N w st rows cur.toList ∧
   cur.toList.take (rows.length*st)=cur.toList.take (rows.length*st):=by
 obtain⟨xs,⟨h1,h2⟩,h3⟩:=h;rcases h2 with ⟨h2,_⟩|⟨g,cap,cur,e1,_,hg,hle,hm,hs,ht⟩
 ·simp[dH,hn] at h2
 simp only[dH,hn,Bool.false_eq_true,if_false,Value.slice.injEq,Option.some.injEq,Addr.mk.injEq,and_true,true_and] at e1;obtain⟨rfl,rfl⟩:=e1;refine⟨cur,hg,hs,hle,hm,?_,rfl⟩;have:=oH (cur.toList.drop (rows.length*st)) h3;rw[←ht,List.take_append_drop] at this;exact this
theorem uS (g:bG c R s a w)(hT:bY P T){H:List (Nat×aF)}(hH:∀b box,lk H b=some box→lk s.hp b=some box){t:TypeId}{x:AV}{K:AV→Prop}
  (h:uR T H t x K) {u:Value} (hx:ak (aV c R s.hp) w s.hp R x u) :
  ∃y v,(Instr.loadAt t u).run P w=.ok y w∧K v∧ak (aV c R s.hp) w s.hp R v y:=by
 unfold uR at h;split at h
 ·exact h.elim
 rename_i i hi;have hi':=hT t i hi;split at h
 ·rename_i b off;simp only[ak] at hx;split at h
  ·rename_i cells hb;have hb':=hH _ _ hb;rw[hb'] at hx;simp only[aY] at hx;subst hx;split at h;rotate_left;cases h
   rename_i cs hcs;obtain⟨cur,e,hg,hc⟩:=(g.boxes b _ hb');rw[bM] at hc;obtain⟨y,v,h1,h2,h3⟩:=LF i hi' hg hc hcs h;exact⟨y,v,by simpa[Instr.loadAt,Instr.sureAddr] using h1,h2,h3⟩
  ·rename_i cells hb;have hb':=hH _ _ hb;rw[hb'] at hx;simp only[aY] at hx;subst hx;split at h;rotate_left;cases h
   rename_i cs hcs;obtain⟨cur,e,fr,hg,hn,hc⟩:=(g.boxes b _ hb');rw[dN] at hc;obtain⟨y,v,h1,h2,h3⟩:=qh (base:=0) (hp:=s.hp) (R:=R) i hi' hg (by simpa using hc) hcs h;exact⟨y,v,by simpa[Instr.loadAt,Instr.sureAddr] using h1,h2,h3⟩
  exact h.elim
 ·rename_i row off;simp only[ak,bJ] at hx;obtain⟨gg,base,cur,e,fr,rfl,hn,hg,hc⟩:=hx;rw[dN] at hc;split at h
  ·rename_i cs hcs;obtain⟨y,v,h1,h2,h3⟩:=qh (hp:=s.hp) (R:=R) i hi' hg hc hcs h;exact⟨y,v,by simpa[Instr.loadAt,Instr.sureAddr] using h1,h2,h3⟩
  exact h.elim
 ·rename_i b ver k off;simp only[ak] at hx;split at h
  ·rename_i e v st rows hb;have hb':=hH _ _ hb;rw[hb'] at hx;simp only[bf] at hx;split at h;rotate_left;cases h
   rename_i hv;obtain⟨hn,rfl⟩:=hx.2.2 (Nat.eq_of_beq_eq_true hv);obtain⟨row,hrow,h⟩:=h;split at h;rotate_left;cases h
   rename_i cs hcs;obtain⟨cur,hg,hs,hle,hm,hr,_⟩:=gQ (g.boxes b _ hb') hn;obtain⟨hl,Ry⟩:=ru hr hrow;rw[dN] at Ry;obtain⟨y,v,h1,h2,h3⟩:=qh (hp:=s.hp) (R:=R) i hi' hg Ry hcs h;exact⟨y,v,by simpa[Instr.loadAt,Instr.sureAddr] using h1,h2,h3⟩
  ·rename_i v st rows hb;have hb':=hH _ _ hb;rw[hb'] at hx;simp only[bf] at hx;split at h;rotate_left;cases h
   rename_i hv;obtain⟨hn,rfl⟩:=hx.2.2 (Nat.eq_of_beq_eq_true hv);obtain⟨row,hrow,h⟩:=h;split at h;rotate_left;cases h
   rename_i cs hcs;have hre:=(g.boxes b _ hb');simp only[dY,bJ,dH,hn,Bool.false_eq_true,if_false] at hre;obtain⟨p,len,cap,e1,e2,e3,_,e4⟩:=hre;simp only[Value.slice.injEq] at e1;obtain⟨rfl,rfl,rfl⟩:=e1;rcases e4 _ rfl with e5|⟨_,_,cur,e,fr,hg,hr⟩
   ·subst e5;simp at hrow
   simp only[List.drop_zero] at hr;obtain⟨hl,Ry⟩:=ru hr hrow;rw[dN] at Ry;obtain⟨y,v,h1,h2,h3⟩:=qh (hp:=s.hp) (R:=R) i hi' hg Ry hcs h;exact⟨y,v,by simpa[Instr.loadAt,Instr.sureAddr] using h1,h2,h3⟩
  exact h.elim
 exact h.elim
end
def nth {α:Type}:List α→Nat→Option α
 |[],_=>none
 |a::_,0=>some a
 |_::r,n+1=>nth r n
theorem uP {α:Type}:∀(l:List α) (n:Nat),nth l n=l[n]?
 |[],_=>by simp[nth]
 |a::_,0=>by simp[nth]
 |_::r,n+1=>by simp[nth,uP r n]
def yT (T:Tab)(t:TypeId)(f:Nat):Option (Nat×TI):=
 match lk T t with
 | some i=>match i.d with
   | .str fs=>match nth fs f with
     | some (off,ft)=>match lk T ft with
       |some j=>some (off,j)
       |none=>none
     |none=>none
   |_=>none
 |none=>none
def Q5:Option aF→Option Nat
 |some (.arr _ v _ _)=>some v
 |some (.dS v _ _)=>some v
 |some (.gy _ v _ _ _ _)=>some v
 |some (.iM _ v _ _ _ _ _ _ _)=>some v
 |_=>none
def mG (T:Tab)(H:List (Nat×aF))(t:TypeId)(x:AV)(f:Nat)(K:AV→Prop):Prop:=
 match yT T t f with
 | some (off,j)=>match Nat.beq j.size 0 with
   |true=>False
   | false=>match x with
     |.ptr b o=>K (.ptr b (o+off))
     | .dM b ver i o=>match Q5 (lk H b) with
       | some v=>match Nat.beq ver v with
         |true=>K (.dM b ver i (o+off))
         |false=>False
       |none=>False
     |.pv (.dL row o)=>K (.pv (.dL row (o+off)))
     |_=>False
 |none=>False
def KO (T:Tab)(t:TypeId)(x:AV)(f:Nat)(K:AV→Prop):Prop:=
 match yT T t f with
 | some (off,j)=>match x with
   | .pv (.agg cs)=>match part off j.size cs with
     |some ds=>za j ds K
     |none=>False
   | .agg cs=>match part off j.size cs with
     |some ds=>sK j ds K
     |none=>False
   |_=>False
 |none=>False
def eP (T:Tab)(H:List (Nat×aF))(t:TypeId)(x ix:AV)(K:AV→Prop):Prop:=
 match ix with
 | .pv (.sc (.int _ i))=>match lk T t with
   | some ti=>match ti.d with
     | .slt e=>match lk T e with
       | some ei=>match x with
         | .pv (.sl _ st rows)=>match Nat.beq st ei.size with
           |true=>0≤i∧∃row,rows[i.toNat]? = some row∧K (.pv (.dL row 0))
           |false=>False
         | .aO b ver=>match lk H b with
           | some (.arr _ v st rows)=>match Nat.beq ver v,Nat.beq st ei.size with
             |true,true=>0≤i∧i.toNat<rows.length∧K (.dM b ver i.toNat 0)
             |_,_=>False
           | some (.dS v st rows)=>match Nat.beq ver v,Nat.beq st ei.size with
             |true,true=>0≤i∧∃row,rows[i.toNat]? = some row∧K (.pv (.dL row 0))
             |_,_=>False
           |_=>False
         |_=>False
       |none=>False
     | .TV n e=>match lk T e with
       | some ei=>match x with
         |.ptr b off=>0≤i∧i<n∧K (.ptr b (off+i.toNat*ei.size))
         |_=>False
       |none=>False
     |_=>False
   |none=>False
 |_=>False
def oO (T:Tab)(t:TypeId)(x ix:AV)(K:AV→Prop):Prop:=
 match ix with
 | .pv (.sc (.int _ i))=>match lk T t with
   | some ti=>match ti.d with
     | .KI=>match x with
       |.pv (.sc (.string s))=>0≤i∧∃b,s.data.toList[i.toNat]? = some b∧K (.pv (.sc (.int .u8 b.toNat)))
       |_=>False
     |_=>False
   |none=>False
 |_=>False
def qU (x:AV)(i:Nat)(K:AV→Prop):Prop:=
 match x with
 | .cO vs=>match nth vs i with
   |some v=>K v
   |none=>False
 | .pv (.cO vs)=>match nth vs i with
   |some v=>K (.pv v)
   |none=>False
 |_=>False
def cUn (op:UnOp)(x:AV)(K:AV→Prop):Prop:=
 match op,x with
 |.not,.pv (.sc (.bool b))=>K (.pv (.sc (.bool (!b))))
 |.neg,.pv (.sc (.int k n))=>K (.pv (.sc (.int k (k.wrap (0-n)))))
 |_,_=>False
def kX (b:UInt8):List PV:=[.sc (.int .u8 b.toNat)]
def uK (T:Tab)(H:List (Nat×aF))(src dst:TypeId)(x:AV)(K:AV→Prop):Prop:=
 match lk T src,lk T dst with
 | some si,some dt=>match dt.d with
   | .xC k=>match x with
     |.pv (.sc (.int _ n))=>K (.pv (.sc (.int k (k.wrap n))))
     |_=>False
   | .KI=>match si.d with
     | .KI=>match x with
       |.pv (.sc (.string s))=>K (.pv (.sc (.string s)))
       |_=>False
     | .slt e=>match lk T e with
       | some ei=>match ei.d with
         | .xC .u8=>match x with
           |.pv (.sc (.slice none _ _))=>K (.pv (.sc (.string .empty)))
           | _=>match vw H x with
             | some (.sl _ st rows)=>match Nat.beq st 1 with
               |true=>∃bs:List UInt8,rows=bs.map kX∧K (.pv (.sc (.string ⟨bs.toArray⟩)))
               |false=>False
             |_=>False
         |_=>False
       |none=>False
     |_=>False
   |_=>False
 |_,_=>False
def Et (T:Tab)(H:List (Nat×aF))(t:TypeId)(x:AV)(K:AV→Prop):Prop:=
 match lk T t with
 | some i=>match i.d with
   | .KI=>match x with
     |.pv (.sc (.string s))=>K (.pv (.sc (.int .i64 s.size)))
     |_=>False
   | .slt _=>match x with
     |.pv (.sc (.slice none n _))=>K (.pv (.sc (.int .i64 n)))
     | _=>match vw H x with
       |some (.sl _ _ rows)=>K (.pv (.sc (.int .i64 rows.length)))
       |_=>False
   |.TV n _=>K (.pv (.sc (.int .i64 n)))
   |_=>False
 |none=>False
section
variable {P:Program}{T:Tab}{c:Ctx}{R:Real}{s:AS}{a:Act}{w:World}
theorem qz (hT:bY P T){t:TypeId}{f off:Nat}{j:TI}(h:yT T t f=some (off,j)) :
  ∃fs fd,P.underlying t=some (.struct fs)∧fs[f]? = some fd∧fd.offset=off∧dw P fd.type j:=by
 unfold yT at h;split at h
 ·rename_i i hi;split at h
  ·rename_i l hl;split at h
   ·rename_i o ft hn;split at h
    ·rename_i j' hj;simp only[Option.some.injEq,Prod.mk.injEq] at h;obtain⟨rfl,rfl⟩:=h;obtain⟨d,hd,ig⟩:=(hT t i hi).gW;rw[hl] at ig;cases d<;>simp[di] at ig
     rename_i fs;subst ig;rw[uP] at hn;simp only[List.getElem?_map,Option.map_eq_some_iff,Prod.mk.injEq] at hn;obtain⟨fd,h1,rfl,rfl⟩:=hn;exact⟨fs,fd,hd,by simpa using h1,rfl,hT _ _ hj⟩
    cases h
   cases h
  cases h
 cases h
theorem Ei {b ver i off:Nat}{v:Value}{o:Option aF}(h:bf R b ver i off v o){k:Nat}(hk:Q5 o=some k)(e:ver=k) :
  ∃st,R.nil b=false∧v=.pointer (some ⟨R.blk b,i*st+off,none⟩)∧∀TW,bf R b ver i TW (.pointer (some ⟨R.blk b,i*st+TW,none⟩)) o:=by
 cases o with
 |none=>exact h.elim
 | some box=>
   cases box<;>simp only[bf] at h<;>simp only[Q5,Option.some.injEq] at hk<;>try (first|exact h.elim|(cases hk;done))
   ·obtain⟨hn,hv⟩:=h.2.2 (e.trans hk.symm);refine⟨_,hn,hv,fun TW=>?_⟩;exact⟨h.1,rfl,fun _=>⟨hn,rfl⟩⟩
   ·obtain⟨hn,hv⟩:=h.2.2 (e.trans hk.symm);refine⟨_,hn,hv,fun TW=>?_⟩;exact⟨h.1,rfl,fun _=>⟨hn,rfl⟩⟩
   ·obtain⟨hn,hv⟩:=h.2.2 (e.trans hk.symm);refine⟨_,hn,hv,fun TW=>?_⟩;exact⟨h.1,rfl,fun _=>⟨hn,rfl⟩⟩
   obtain⟨hn,hv⟩:=h.2.2 (e.trans hk.symm);refine⟨_,hn,hv,fun TW=>?_⟩;exact⟨h.1,rfl,fun _=>⟨hn,rfl⟩⟩
theorem AA (hT:bY P T){N:Nat→Prop}{hp:List (Nat×aF)}{H:List (Nat×aF)}(hH:∀b box,lk H b=some box→lk hp b=some box)
  {t:TypeId} {x:AV} {f:Nat} {K:AV→Prop} (h:mG T H t x f K)
  {u:Value} (hx:ak N w hp R x u) :
  ∃y v,(Instr.fieldAt t u f).run P w=.ok y w∧K v∧ak N w hp R v y:=by
 unfold mG at h;split at h;rotate_left;cases h
 rename_i off j hf;split at h
 ·exact h.elim
 rename_i hz;have hz:j.size≠0:=Nat.ne_of_beq_eq_false hz;obtain⟨fs,fd,h1,h2,rfl,h4⟩:=qz hT hf;have run:∀g o,(Instr.fieldAt t (.pointer (some ⟨g,o,none⟩)) f).run P w=.ok (.pointer (some ⟨g,o+fd.offset,none⟩)) w:=by
  intro g o;simp[Instr.fieldAt,run_underlying h1,h2,Instr.sureAddr,fieldPlace,h4.run_sizeOf,hz,addr_add]
 split at h
 ·rename_i b o;simp only[ak] at hx;cases hb:lk hp b with
  |none=>rw[hb] at hx;exact hx.elim
  | some box=>
    rw[hb] at hx;cases box<;>simp only[aY] at hx<;>(subst hx;exact⟨_,_,run _ _,h,by simp only[ak,hb,aY]⟩)
 ·rename_i b ver i o;split at h;rotate_left;cases h
  rename_i v hv;split at h;rotate_left;cases h
  rename_i fD;simp only[ak] at hx;cases hb:lk H b with
  |none=>rw[hb] at hv;cases hv
  | some box=>
    rw[hb,←hH _ _ hb] at hv;obtain⟨st,hn,hu,hr⟩:=Ei hx hv (Nat.eq_of_beq_eq_true fD);subst hu;exact⟨_,_,run _ _,h,by simp only[ak];rw[Nat.add_assoc];exact hr _⟩
 ·rename_i row o;simp only[ak,bJ] at hx;obtain⟨g,base,cur,e,fr,rfl,hx⟩:=hx;refine⟨_,_,run _ _,h,?_⟩;simp only[ak,bJ];exact⟨g,base,cur,e,fr,by rw[Nat.add_assoc],hx⟩
 exact h.elim
theorem Ej {N:Nat→Prop}{hp:List (Nat×aF)}{x:AV}{i:Nat}{K:AV→Prop}(h:qU x i K){u:Value}(hx:ak N w hp R x u) :
  ∃y v,(Instr.extract u i).run P w=.ok y w∧K v∧ak N w hp R v y:=by
 unfold qU at h;split at h
 ·split at h
  ·rename_i vs v hv;simp only[ak] at hx;obtain⟨us,rfl,hx⟩:=hx;rw[eF] at hx;rw[uP] at hv;obtain⟨y,h1,h2⟩:=hx.get hv;refine⟨y,v,?_,h,h2⟩;have:us[i]? = some y:=by simpa using h1
   simp[Instr.extract,this]
  exact h.elim
 ·split at h
  ·rename_i vs v hv;simp only[ak,bJ] at hx;obtain⟨us,rfl,hx⟩:=hx;rw[jk] at hx;rw[uP] at hv;obtain⟨y,h1,h2⟩:=hx.get hv;refine⟨y,_,?_,h,by simpa only[ak] using h2⟩;have:us[i]? = some y:=by simpa using h1
   simp[Instr.extract,this]
  exact h.elim
 exact h.elim
theorem Ta {N:Nat→Prop}{hp:List (Nat×aF)}{op:UnOp}{x:AV}{K:AV→Prop}(h:cUn op x K){u:Value}(hx:ak N w hp R x u) :
  ∃y v,(Op.unary op u).run P w=.ok y w∧K v∧ak N w hp R v y:=by
 unfold cUn at h;split at h
 ·rename_i b;simp only[ak,bJ] at hx;subst hx;exact⟨.bool (!b),_,by simp[Op.unary],h,by simp only[ak,bJ]⟩
 ·rename_i k n;simp only[ak,bJ] at hx;subst hx;exact⟨.int k (k.wrap (0-n)),_,by simp[Op.unary,Op.intArith],h,by simp only[ak,bJ]⟩
 exact h.elim
theorem TY {α:Type}{off n:Nat}{l x:List α}(h:part off n l=some x):x.length=n∧off+n≤l.length∧x=(l.drop off).take n:=by
 have hd:∀(n:Nat) (l r:List α),kR n l=some r→n≤l.length∧r=l.drop n:=by
  intro n;induction n with
  |zero=>intro l r h;simp only[kR,Option.some.injEq] at h;subst h;simp
  | succ n ih=>
    intro l r h;cases l with
    |nil=>simp[kR] at h
    |cons a l=>simp only[kR] at h;have:=ih l r h;simpa using this
 have ht:∀(n:Nat) (l r:List α),kF n l=some r→n≤l.length∧r=l.take n:=by
  intro n;induction n with
  |zero=>intro l r h;simp only[kF,Option.some.injEq] at h;subst h;simp
  | succ n ih=>
    intro l r h;cases l with
    |nil=>simp[kF] at h
    | cons a l=>
      simp only[kF] at h;split at h
      ·rename_i t ht;simp only[Option.some.injEq] at h;subst h;have:=ih l t ht;refine⟨by simp[this.1],by simp[this.2]⟩
      cases h
 unfold part at h;split at h
 ·rename_i r hr;obtain⟨h1,rfl⟩:=hd _ _ _ hr;obtain⟨h2,rfl⟩:=ht _ _ _ h;simp only[List.length_drop] at h2;refine⟨by simp;omega,by omega,rfl⟩
 cases h
theorem EO {N:Nat→Prop}{hp:List (Nat×aF)}{i:TI}{t:TypeId}(hi:dw P t i){ds:List AV}{K:AV→Prop}(h:sK i ds K){vs:Array Value}{off:Nat}
  (hd:FC (ak N w hp R) ds ((vs.toList.drop off).take i.size)) (_:off+i.size≤vs.size) :
  ∃y v,(Go.part t vs off).run P w=.ok y w∧K v∧ak N w hp R v y:=by
 unfold sK at h;split at h
 ·rename_i ha;unfold yU at h;split at h;rotate_left;cases h
  rename_i v hv;refine⟨.agg (vs.extract off (off+i.size)),v,?_,h,?_⟩
  ·simp[Go.part,hi.rz,ha,hi.run_sizeOf]
  have e:(vs.extract off (off+i.size)).toList=(vs.toList.drop off).take i.size:=by
   simp[Array.toList_extract,List.extract]
  split at hv
  ·rename_i ps hps;simp only[Option.some.injEq] at hv;subst hv;simp only[ak,bJ];refine⟨_,rfl,?_⟩;rw[gM,e];have:∀(cs:List AV) (ps:List PV) (vs:List Value),ji cs=some ps→FC (ak N w hp R) cs vs→FC (bJ N w) ps vs:=by
    intro cs;induction cs with
    |nil=>intro ps vs h h';simp only[ji,Option.some.injEq] at h;subst h;exact h'
    | cons c cs ih=>
      intro ps vs h h';obtain⟨v,r,rfl,h1,h2,h3⟩:=h';cases c<;>simp only[ji] at h<;>try (cases h;done)
      split at h
      ·rename_i ps' qA;simp only[Option.some.injEq] at h;subst h;exact⟨v,r,rfl,h1,by simpa only[ak] using h2,ih _ _ qA h3⟩
      cases h
   exact this _ _ _ hps hd
  simp only[Option.some.injEq] at hv;subst hv;simp only[ak];refine⟨_,rfl,?_⟩;rw[bM,e];exact hd
 rename_i ha;have h1:=hi.agg ha;split at h;rotate_left;cases h
 rename_i v;obtain⟨u,r,e1,e2,e3,e4⟩:=hd;refine⟨u,_,?_,h,e3⟩;have hh:((vs.toList.drop off).take i.size)[0]? = some u:=by rw[e1];rfl
 rw[h1] at hh;simp only[List.getElem?_take,Nat.zero_lt_one,if_true,List.getElem?_drop,Nat.add_zero] at hh;have h3:vs[off]? = some u:=by simpa using hh
 simp[Go.part,hi.rz,ha,h3]
theorem T9 {i:TI}{ds:List PV}{K:AV→Prop}(h:za i ds K):sK i (ds.map .pv) K:=by
 have hall:∀l:List PV,ji (l.map AV.pv)=some l:=by
  intro l;induction l with
  |nil=>rfl
  |cons p r ih=>simp[ji,ih]
 unfold za at h;unfold sK;split at h
 ·rename_i ha;simp only[yU,hall];exact h
 rename_i ha;split at h
 ·exact h
 exact h.elim
theorem Oi (hT:bY P T){N:Nat→Prop}{hp:List (Nat×aF)}{t:TypeId}{x:AV}{f:Nat}{K:AV→Prop}(h:KO T t x f K){u:Value}(hx:ak N w hp R x u) :
  ∃y v,(Instr.field t u f).run P w=.ok y w∧K v∧ak N w hp R v y:=by
 unfold KO at h;split at h;rotate_left;cases h
 rename_i off j hf;obtain⟨fs,fd,h1,h2,rfl,h4⟩:=qz hT hf;have key:∀(cs:List AV) (us:Array Value) (ds:List AV),FC (ak N w hp R) cs us.toList→part fd.offset j.size cs=some ds→sK j ds K →
   ∃y v,(Instr.field t (.agg us) f).run P w=.ok y w∧K v∧ak N w hp R v y:=by
  intro cs us ds hc hp' ho;obtain⟨hl,hd⟩:=hc.fp.part hp';obtain⟨y,v,h5,h6,h7⟩:=EO h4 ho hd (by simpa using hl);exact⟨y,v,by simp[Instr.field,run_underlying h1,h2,asAgg,h5],h6,h7⟩
 split at h
 ·rename_i cs;simp only[ak,bJ] at hx;obtain⟨us,rfl,hx⟩:=hx;rw[gM] at hx;split at h;rotate_left;cases h
  rename_i ds hds;refine key (cs.map .pv) us (ds.map .pv) (FC.map (fun p v hv=>by simpa only[ak] using hv) hx) ?_ (T9 h);obtain⟨e1,e2,e3⟩:=TY hds;have gd:∀(n:Nat) (l:List PV),n≤l.length→kR n (l.map AV.pv)=some ((l.drop n).map .pv):=by
   intro n;induction n with
   |zero=>intro l _;simp[kR]
   | succ n ih=>intro l hl;cases l with
     |nil=>simp at hl
     |cons a l=>simpa[kR] using ih l (by simpa using hl)
  have gt:∀(n:Nat) (l:List PV),n≤l.length→kF n (l.map AV.pv)=some ((l.take n).map .pv):=by
   intro n;induction n with
   |zero=>intro l _;simp[kF]
   | succ n ih=>intro l hl;cases l with
     |nil=>simp at hl
     |cons a l=>simp[kF,ih l (by simpa using hl)]
  unfold part;rw[gd _ _ (by omega)];simp only;rw[gt _ _ (by simp;omega),e3]
 ·rename_i cs;simp only[ak] at hx;obtain⟨us,rfl,hx⟩:=hx;rw[bM] at hx;split at h
  ·rename_i ds hds;exact key cs us ds hx hds h
  exact h.elim
 exact h.elim
theorem kC (g:bG c R s a w)(hT:bY P T){H:List (Nat×aF)}(hH:∀b box,lk H b=some box→lk s.hp b=some box){t:TypeId}{x ix:AV}{K:AV→Prop}
  (h:eP T H t x ix K) {u v:Value} (hx:ak (aV c R s.hp) w s.hp R x u) (hv:ak (aV c R s.hp) w s.hp R ix v) :
  ∃y z,(Instr.indexAt t u v).run P w=.ok y w∧K z∧ak (aV c R s.hp) w s.hp R z y:=by
 unfold eP at h;split at h;rotate_left;cases h
 rename_i k i;simp only[ak,bJ] at hv;subst hv;split at h;rotate_left;cases h
 rename_i ti XF;obtain⟨d,hd,ig⟩:=(hT t ti XF).gW;split at h
 ·rename_i e hte;have hd':P.underlying t=some (.slice e):=by
   rw[hte] at ig;cases d<;>simp[di] at ig
   subst ig;exact hd
  split at h;rotate_left;cases h
  rename_i ei pV;have iY:=hT e ei pV;have run:∀(a:Addr) (len cap:Nat),0≤i→i.toNat<len →
    (Instr.indexAt t (.slice (some a) len cap) (.int k i)).run P w=.ok (.pointer (some (a.add (i.toNat*ei.size)))) w:=by
   intro a len cap h0 h1;have:i<(len:Int):=by omega
   simp[Instr.indexAt,asIntOf,run_underlying hd',h0,this,iY.run_sizeOf]
  have cell:∀(p:Option Addr) (len cap:Nat) (nn:Bool) (st:Nat) (rows:List (List PV)) (row:List PV),bJ (aV c R s.hp) w (.sl nn st rows) (.slice p len cap)→st=ei.size →
    0≤i→rows[i.toNat]? = some row→K (.pv (.dL row 0))→∃y z,(Instr.indexAt t (.slice p len cap) (.int k i)).run P w=.ok y w∧K z∧ak (aV c R s.hp) w s.hp R z y:=by
   intro p len cap nn st rows row hr hst h0 hrow hK;simp only[bJ] at hr;obtain⟨p',len',adS,e1,e2,e3,e4,e5⟩:=hr;simp only[Value.slice.injEq] at e1;obtain⟨rfl,rfl,rfl⟩:=e1;have hlt:i.toNat<rows.length:=(List.getElem?_eq_some_iff.1 hrow).1;cases p with
   |none=>have:=(e4 rfl).2;omega
   | some ad=>
     rcases e5 _ rfl with e6|⟨hs,hn,cur,e,fr,hg,hr⟩
     ·subst e6;simp at hrow
     obtain⟨blk,off,spot⟩:=ad;simp only at hs hn hg hr;subst hs;refine⟨_,_,run _ _ _ h0 (by omega),hK,?_⟩;obtain⟨_,hp'⟩:=ru hr hrow;simp only[ak,bJ,addr_add];refine⟨blk,off+i.toNat*ei.size,cur,e,fr,rfl,hn,hg,?_⟩;rw[List.drop_drop,hst] at hp';exact hp'
  split at h
  ·rename_i nn st rows;split at h;rotate_left;cases h
   rename_i hst;obtain⟨h0,row,hrow,hK⟩:=h;simp only[ak] at hx;have hx':=hx;simp only[bJ] at hx';obtain⟨p,len,cap,rfl,_⟩:=hx';exact cell p len cap nn st rows row hx (Nat.eq_of_beq_eq_true hst) h0 hrow hK
  ·rename_i b ver;simp only[ak] at hx;split at h
   ·rename_i e' v st rows hb;have hb':=hH _ _ hb;rw[hb'] at hx;simp only[aU] at hx;split at h;rotate_left;cases h
    rename_i fD hst;obtain⟨h0,hlt,hK⟩:=h;have:=hx.2.2 (Nat.eq_of_beq_eq_true fD);subst this;have hst:=Nat.eq_of_beq_eq_true hst;have hnil:R.nil b=false:=by
     cases hn:R.nil b with
     |false=>rfl
     | true=>
       obtain⟨xs,⟨_,h2⟩,_⟩:=(g.boxes b _ hb');rcases h2 with ⟨_,h2⟩|⟨g',cap,cur,e1,_⟩
       ·omega
       simp[dH,hn] at e1
    simp only[dH,hnil,Bool.false_eq_true,if_false];refine⟨_,_,run _ _ _ h0 hlt,hK,?_⟩;simp only[ak,hb',bf,addr_add];exact⟨by rw[Nat.eq_of_beq_eq_true fD];exact Nat.le_refl _,rfl,fun _=>⟨hnil,by rw[←hst];simp⟩⟩
   ·rename_i v st rows hb;have hb':=hH _ _ hb;rw[hb'] at hx;simp only[aU] at hx;split at h;rotate_left;cases h
    rename_i fD hst;obtain⟨h0,row,hrow,hK⟩:=h;have:=hx.2.2 (Nat.eq_of_beq_eq_true fD);subst this;have hre:=(g.boxes b _ hb');simp only[dY] at hre;have agB:=hre;simp only[bJ] at agB;obtain⟨p,len,cap,e1,_⟩:=agB;rw[e1] at hre ⊢;exact cell p len cap false st rows row hre (Nat.eq_of_beq_eq_true hst) h0 hrow hK
   exact h.elim
  exact h.elim
 ·rename_i n e hte;have hd':P.underlying t=some (.array n e):=by
   rw[hte] at ig;cases d<;>simp[di] at ig
   obtain⟨rfl,rfl⟩:=ig;exact hd
  split at h;rotate_left;cases h
  rename_i ei pV;have iY:=hT e ei pV;split at h;rotate_left;cases h
  rename_i b off;obtain⟨h0,h1,hK⟩:=h;simp only[ak] at hx;cases hb:lk s.hp b with
  |none=>rw[hb] at hx;exact hx.elim
  | some box=>
    rw[hb] at hx;have run:∀gg o,(Instr.indexAt t (.pointer (some ⟨gg,o,none⟩)) (.int k i)).run P w=.ok (.pointer (some ⟨gg,o+i.toNat*ei.size,none⟩)) w:=by
     intro gg o;simp[Instr.indexAt,asIntOf,run_underlying hd',Instr.sureAddr,h0,h1,iY.run_sizeOf,addr_add]
    cases box<;>simp only[aY] at hx<;>(subst hx;exact⟨_,_,run _ _,hK,by simp only[ak,hb,aY]⟩)
 exact h.elim
theorem JJ (hT:bY P T){N:Nat→Prop}{hp:List (Nat×aF)}{t:TypeId}{x ix:AV}{K:AV→Prop}
  (h:oO T t x ix K) {u v:Value} (hx:ak N w hp R x u) (hv:ak N w hp R ix v) :
  ∃y z,(Instr.index t u v).run P w=.ok y w∧K z∧ak N w hp R z y:=by
 unfold oO at h;split at h;rotate_left;cases h
 rename_i k i;simp only[ak,bJ] at hv;subst hv;split at h;rotate_left;cases h
 rename_i ti XF;obtain⟨d,hd,ig⟩:=(hT t ti XF).gW;split at h;rotate_left;cases h
 rename_i hte;have hd':P.underlying t=some .string:=by
  rw[hte] at ig;cases d<;>simp[di] at ig
  exact hd
 split at h;rotate_left;cases h
 rename_i str;obtain⟨h0,b,hb,hK⟩:=h;simp only[ak,bJ] at hx;subst hx;refine⟨.int .u8 b.toNat,_,?_,hK,by simp only[ak,bJ]⟩;have hlt:i.toNat<str.size:=by
  have:=(List.getElem?_eq_some_iff.1 hb).1;simpa using this
 have:str[i.toNat]? = some b:=by
  rw[ByteArray.getElem?_lt' str _ hlt];have h2:str.data[i.toNat]? = some b:=by simpa using hb
  have h3:str.data[i.toNat]'(by simpa using hlt)=b:=by
   rw[Array.getElem?_eq_getElem (by simpa using hlt)] at h2;exact Option.some.inj h2
  rw[←h3];rfl
 simp[Instr.index,asIntOf,run_underlying hd',h0,this]
end
theorem qQ {N:Nat→Prop}{w:World}{hp:List (Nat×aF)}{R:Real}:∀{cs:List AV} {ps:List PV} {vs:List Value},ji cs=some ps→FC (ak N w hp R) cs vs→FC (bJ N w) ps vs
 |[],ps,vs,h,h'=>by simp only[ji,Option.some.injEq] at h;subst h;exact h'
 | c::cs,ps,vs,h,h'=>by
   obtain⟨v,r,rfl,h1,h2,h3⟩:=h';cases c<;>simp only[ji] at h<;>try (cases h;done)
   split at h
   ·rename_i ps' qA;simp only[Option.some.injEq] at h;subst h;exact⟨v,r,rfl,h1,by simpa only[ak] using h2,qQ qA h3⟩
   cases h
section
variable {P:Program}{T:Tab}{c:Ctx}{R:Real}{s:AS}{a:Act}{w:World}
theorem oZ (g:bG c R s a w){b ver:Nat}{p:PV}(h:uq (lk s.hp b) ver=some p){N':Nat→Prop}(hN:∀r,N' r→aV c R s.hp r)
  (h2:∀r,aL R b r (lk s.hp b)→¬N' r) {u:Value} (hx:aU R b ver u (lk s.hp b)):bJ N' w p u:=by
 cases hb:lk s.hp b with
 |none=>rw[hb] at hx;exact hx.elim
 | some box=>
   rw[hb] at h hx h2;have hre:=(g.boxes b box hb);cases box with
   |var cells=>cases h
   |nR cells=>cases h
   | arr e v st rows=>
     simp only[uq] at h;split at h
     ·rename_i hv;simp only[Option.some.injEq] at h;subst h;simp only[aU] at hx;have:=hx.2.2 (Nat.eq_of_beq_eq_true hv);subst this;cases hn:R.nil b with
      | true=>
        obtain⟨xs,⟨_,h3⟩,_⟩:=hre;rcases h3 with ⟨_,h3⟩|⟨g',cap,cur,e1,_⟩
        ·have e1:dH R b rows.length=.slice none 0 0:=by simp[dH,hn]
         rw[e1,bJ];exact⟨none,0,0,rfl,h3.symm,⟨Nat.le_refl _,by omega⟩,fun _=>⟨rfl,rfl⟩,fun a ha=>by cases ha⟩
        simp[dH,hn] at e1
      | false=>
        obtain⟨cur,hg,hs,hle,hm,hr,_⟩:=gQ hre hn;have e1:dH R b rows.length=.slice (some ⟨R.blk b,0,none⟩) rows.length ((R.cap b).1):=by simp[dH,hn]
        rw[e1,bJ];refine⟨_,_,_,rfl,rfl,⟨hle,by unfold maxLen at hm;omega⟩,fun h=>(by cases h),fun ad ha=>?_⟩;simp only[Option.some.injEq] at ha;subst ha;exact .inr ⟨rfl,h2 _ ⟨hn,rfl⟩,cur,e,(0,0),hg,by simpa using aX (fun r _ h=>hN r h) (fun _ _ _=>rfl) _ _ _ hr⟩
     cases h
   | dS v st rows=>
     simp only[uq] at h;split at h
     ·rename_i hv;simp only[Option.some.injEq] at h;subst h;simp only[aU] at hx;have:=hx.2.2 (Nat.eq_of_beq_eq_true hv);subst this;exact dJ (fun r _ h=>hN r h) (fun _ _ _=>rfl) _ _ hre
     cases h
   |tr _ _ _ _=>exact hx.elim
   |gy _ _ _ _ _ _=>cases h
   |mp _ _ _=>cases h
   |iM _ _ _ _ _ _ _ _ _=>cases h
theorem Cm (g:bG c R s a w){b off:Nat}{p:PV}(h:Rw (lk s.hp b) off=some p){N':Nat→Prop}(hN:∀r,N' r→aV c R s.hp r)
  (h2:∀r,aL R b r (lk s.hp b)→¬N' r) {u:Value} (hx:aY R b off u (lk s.hp b)):bJ N' w p u:=by
 cases hb:lk s.hp b with
 |none=>rw[hb] at hx;exact hx.elim
 | some box=>
   rw[hb] at h hx h2;have hre:=(g.boxes b box hb);cases box with
   | var cells=>
     simp only[Rw] at h;split at h
     ·rename_i ps hps;simp only[Option.some.injEq] at h;subst h;simp only[aY] at hx;subst hx;obtain⟨cur,e,hg,hc⟩:=hre;rw[bM] at hc;have hc':=qQ hps hc;simp only[bJ];refine⟨R.blk b,0,cur,e,(0,0),by simp,h2 _ rfl,hg,?_⟩;have:gU (aV c R s.hp) w ps (cur.toList.drop 0):=by rw[dN];simpa using hc'.fp
      exact dQ (fun r _ h=>hN r h) (fun _ _ _=>rfl) _ _ this
     cases h
   | nR cells=>
     simp only[Rw,Option.some.injEq] at h;subst h;simp only[aY] at hx;subst hx;obtain⟨cur,e,fr,hg,hn,hc⟩:=hre;simp only[bJ];exact⟨R.blk b,0,cur,e,fr,by simp,fun x=>hn (hN _ x),hg,by simpa using dQ (fun r _ h=>hN r h) (fun _ _ _=>rfl) _ _ hc⟩
   |arr e v st rows=>cases h
   |dS v st rows=>cases h
   |tr _ _ _ _=>cases h
   |gy _ _ _ _ _ _=>cases h
   |mp _ _ _=>cases h
   |iM _ _ _ _ _ _ _ _ _=>cases h
theorem Rz {N:Nat→Prop}{nn:Bool}{st lo hi:Nat}{rows:List (List PV)}{u:Value}(h:bJ N w (.sl nn st rows) u)(hok:oG lo hi u) :
  bJ N w (.sl false st (jF rows lo hi)) (je st lo hi u)∧lo≤hi∧hi≤rows.length:=by
 simp only[bJ] at h;obtain⟨p,len,cap,rfl,rfl,⟨h1,h2⟩,h3,h4⟩:=h;simp only[oG] at hok;obtain⟨k1,k2⟩:=hok;refine⟨?_,k1,k2⟩;have hlen:(jF rows lo hi).length=hi-lo:=by simp only[jF,List.length_take,List.length_drop];omega
 cases p with
 | none=>
   have hc:=(h3 rfl).2;simp only[je,bJ];exact⟨none,0,0,rfl,by rw[hlen];omega,⟨Nat.le_refl _,by omega⟩,fun _=>⟨by trivial,by trivial⟩,fun a e=>by cases e⟩
 | some a=>
   simp only[je,bJ];refine⟨_,_,_,rfl,hlen.symm,⟨by omega,by omega⟩,fun e=>(by cases e),fun ad e=>?_⟩;simp only[Option.some.injEq] at e;subst e;by_cases hcl:cap=lo
   ·refine .inl (List.eq_nil_of_length_eq_zero ?_);rw[hlen];omega
   rw[if_neg hcl];rcases h4 a rfl with h5|⟨h5,h6,cur,e,fr,h7,h8⟩
   ·refine .inl (List.eq_nil_of_length_eq_zero ?_);have:=congrArg List.length h5;simp only[List.length_nil] at this;rw[hlen];omega
   obtain⟨g,o,sp⟩:=a;simp only at h5 h6 h7 h8;subst h5;rw[addr_add];refine .inr ⟨rfl,h6,cur,e,fr,h7,?_⟩;have h9:=lN (hi-lo) (mD lo h8);rw[List.drop_drop] at h9;exact h9
mutual
theorem qR (g:bG c R s a w){H:List (Nat×aF)}(hH:∀b box,lk H b=some box→lk s.hp b=some box){N':Nat→Prop}(hN:∀r,N' r→aV c R s.hp r) :
  ∀(x:AV) (p:PV) (u:Value),(∀b,b∈refs x→∀r,aL R b r (lk s.hp b)→¬N' r)→vw H x=some p→ak (aV c R s.hp) w s.hp R x u→bJ N' w p u
 | .pv q,p,u,_,h,hx=>by
   simp only[vw,Option.some.injEq] at h;subst h;simp only[ak] at hx;exact dJ (fun r _ h=>hN r h) (fun _ _ _=>rfl) _ _ hx
 | .aO b ver,p,u,h2,h,hx=>by
   simp only[vw] at h;simp only[ak] at hx;cases hb:lk H b with
   |none=>rw[hb] at h;cases h
   | some box=>
     rw[hb,←hH _ _ hb] at h;exact oZ g h hN (h2 b (by simp[refs])) hx
 | .ptr b off,p,u,h2,h,hx=>by
   simp only[vw] at h;simp only[ak] at hx;cases hb:lk H b with
   |none=>rw[hb] at h;cases h
   | some box=>
     rw[hb,←hH _ _ hb] at h;exact Cm g h hN (h2 b (by simp[refs])) hx
 |.dM b ver i off,p,u,_,h,_=>by simp[vw] at h
 | .sub b ver st lo hi,p,u,h2,h,hx=>by
   simp only[vw] at h;simp only[ak] at hx;obtain⟨u',hx,hok,rfl⟩:=hx;unfold adw at h;split at h
   ·rename_i nn st' rows hv;split at h
    ·rename_i hst;simp only[Option.some.injEq] at h;subst h;have:=Nat.eq_of_beq_eq_true hst;subst this;cases hb:lk H b with
     |none=>rw[hb] at hv;cases hv
     | some box=>
       rw[hb,←hH _ _ hb] at hv;exact (Rz (oZ g hv hN (h2 b (by simp[refs])) hx) hok).1
    cases h
   cases h
 | .agg cs,p,u,h2,h,hx=>by
   simp only[vw] at h;split at h
   ·rename_i ps hps;simp only[Option.some.injEq] at h;subst h;simp only[ak] at hx;obtain⟨vs,rfl,hx⟩:=hx;simp only[bJ];exact⟨vs,rfl,EP g hH hN cs ps _ (fun b hb=>h2 b (by simpa[refs] using hb)) hps hx⟩
   cases h
 | .cO cs,p,u,h2,h,hx=>by
   simp only[vw] at h;split at h
   ·rename_i ps hps;simp only[Option.some.injEq] at h;subst h;simp only[ak] at hx;obtain⟨vs,rfl,hx⟩:=hx;simp only[bJ];exact⟨vs,rfl,iG g hH hN cs ps _ (fun b hb=>h2 b (by simpa[refs] using hb)) hps hx⟩
   cases h
 | .fn f x y,p,u,h2,h,hx=>by
   simp only[vw] at h;split at h
   ·rename_i p1 p2 hp1 hp2;simp only[Option.some.injEq] at h;subst h;simp only[ak] at hx;obtain⟨vs,us,rfl,hx1,hx2⟩:=hx;simp only[bJ];exact⟨vs,us,rfl,iG g hH hN x p1 _ (fun b hb=>h2 b (by simp only[refs,List.mem_append];exact .inl hb)) hp1 hx1,
     iG g hH hN y p2 _ (fun b hb=>h2 b (by simp only[refs,List.mem_append];exact .inr hb)) hp2 hx2⟩
   cases h
theorem EP (g:bG c R s a w){H:List (Nat×aF)}(hH:∀b box,lk H b=some box→lk s.hp b=some box){N':Nat→Prop}(hN:∀r,N' r→aV c R s.hp r) :
  ∀(xs:List AV) (ps:List PV) (us:List Value),(∀b,b∈fq xs→∀r,aL R b r (lk s.hp b)→¬N' r)→GL H xs=some ps→dD (aV c R s.hp) w s.hp R xs us→iX N' w ps us
 | [],ps,us,_,h,hx=>by
   simp only[GL,Option.some.injEq] at h;subst h;simpa only[dD,iX] using hx
 | x::xs,ps,us,h2,h,hx=>by
   simp only[GL] at h;split at h
   ·rename_i p hp;split at h
    ·rename_i t ht;simp only[Option.some.injEq] at h;subst h;simp only[dD] at hx;obtain⟨v,r,rfl,h1,h3,h4⟩:=hx;simp only[iX];exact⟨v,r,rfl,h1,qR g hH hN x p v (fun b hb=>h2 b (by simp only[fq,List.mem_append];exact .inl hb)) hp h3,
      EP g hH hN xs t r (fun b hb=>h2 b (by simp only[fq,List.mem_append];exact .inr hb)) ht h4⟩
    cases h
   cases h
theorem iG (g:bG c R s a w){H:List (Nat×aF)}(hH:∀b box,lk H b=some box→lk s.hp b=some box){N':Nat→Prop}(hN:∀r,N' r→aV c R s.hp r) :
  ∀(xs:List AV) (ps:List PV) (us:List Value),(∀b,b∈fq xs→∀r,aL R b r (lk s.hp b)→¬N' r)→GL H xs=some ps→dh (aV c R s.hp) w s.hp R xs us→eY N' w ps us
 | [],ps,us,_,h,hx=>by
   simp only[GL,Option.some.injEq] at h;subst h;simpa only[dh,eY] using hx
 | x::xs,ps,us,h2,h,hx=>by
   simp only[GL] at h;split at h
   ·rename_i p hp;split at h
    ·rename_i t ht;simp only[Option.some.injEq] at h;subst h;simp only[dh] at hx;obtain⟨v,r,rfl,h3,h4⟩:=hx;simp only[eY];exact⟨v,r,rfl,qR g hH hN x p v (fun b hb=>h2 b (by simp only[fq,List.mem_append];exact .inl hb)) hp h3,
      iG g hH hN xs t r (fun b hb=>h2 b (by simp only[fq,List.mem_append];exact .inr hb)) ht h4⟩
    cases h
   cases h
end
theorem sV (g:bG c R s a w)(hT:bY P T){H:List (Nat×aF)}(hH:∀b box,lk H b=some box→lk s.hp b=some box){t ty:TypeId}{x:AV}{K:AV→Prop}
  (h:Et T H t x K) {u:Value} (hx:ak (aV c R s.hp) w s.hp R x u) :
  ∃y z,(Builtin.len_ #[t] ty #[u]).run P w=.ok y w∧K z∧ak (aV c R s.hp) w s.hp R z y:=by
 unfold Et at h;split at h;rotate_left;cases h
 rename_i i hi;obtain⟨d,hd,ig⟩:=(hT t i hi).gW;split at h
 ·rename_i hte;have hd':P.underlying t=some .string:=by
   rw[hte] at ig;cases d<;>simp[di] at ig
   exact hd
  split at h;rotate_left;cases h
  rename_i str;simp only[ak,bJ] at hx;subst hx;exact⟨.int .i64 str.size,_,by simp[Builtin.len_,run_underlying hd',goInt],h,by simp only[ak,bJ]⟩
 ·rename_i e hte;have hd':P.underlying t=some (.slice e):=by
   rw[hte] at ig;cases d<;>simp[di] at ig
   subst ig;exact hd
  split at h
  ·rename_i n cp;simp only[ak,bJ] at hx;subst hx;exact⟨.int .i64 n,_,by simp[Builtin.len_,run_underlying hd',goInt],h,by simp only[ak,bJ]⟩
  split at h
  ·rename_i nn st rows hv;have:=qR g hH (N':=fun _=>False) (fun _ h=>h.elim) x _ u (fun _ _ _ _ h=>h) hv hx;simp only[bJ] at this;obtain⟨p,len,cap,rfl,rfl,_⟩:=this;exact⟨.int .i64 rows.length,_,by simp[Builtin.len_,run_underlying hd',goInt],h,by simp only[ak,bJ]⟩
  exact h.elim
 ·rename_i n e hte;have hd':P.underlying t=some (.array n e):=by
   rw[hte] at ig;cases d<;>simp[di] at ig
   obtain⟨rfl,rfl⟩:=ig;exact hd
  exact⟨.int .i64 n,_,by simp[Builtin.len_,run_underlying hd',goInt],h,by simp only[ak,bJ]⟩
 exact h.elim
theorem EQ {N:Nat→Prop}:∀{bs:List UInt8} {vs:List Value},cK N w 1 (bs.map kX) vs→vs.take bs.length=bs.map fun b=>Value.int .u8 b.toNat
 |[],vs,_=>by simp
 | b::bs,vs,h=>by
   simp only[List.map_cons,cK,kX,gU] at h;obtain⟨_,⟨v,r,rfl,_,hv,_⟩,h3⟩:=h;simp only[bJ] at hv;subst hv;simp only[List.drop_succ_cons,List.drop_zero] at h3;simp[EQ h3]
theorem foldl_push (bs:List UInt8):∀acc:ByteArray,(bs.map fun b=>(b.toNat:Int)).foldl (fun r n=>r.push (UInt8.ofNat n.toNat)) acc=⟨acc.data++bs.toArray⟩:=by
 induction bs with
 |nil=>intro acc;simp
 | cons b bs ih=>
   intro acc;simp only[List.map_cons,List.foldl_cons];rw[ih];simp[ByteArray.push]
theorem KM (g:bG c R s a w)(hT:bY P T){H:List (Nat×aF)}(hH:∀b box,lk H b=some box→lk s.hp b=some box){src dst:TypeId}{x:AV}{K:AV→Prop}
  (h:uK T H src dst x K) {u:Value} (hx:ak (aV c R s.hp) w s.hp R x u) :
  ∃y z,(convert src dst u).run P w=.ok y w∧K z∧ak (aV c R s.hp) w s.hp R z y:=by
 unfold uK at h;split at h;rotate_left;cases h
 rename_i si dt hsi hdt;obtain⟨d1,hd1,XG⟩:=(hT _ _ hsi).gW;obtain⟨d2,hd2,XH⟩:=(hT _ _ hdt).gW;split at h
 ·rename_i k hk;have hd':P.underlying dst=some (.int k):=by
   rw[hk] at XH;cases d2<;>simp[di] at XH
   subst XH;exact hd2
  split at h;rotate_left;cases h
  rename_i j n;simp only[ak,bJ] at hx;subst hx;refine⟨.int k (k.wrap n),_,?_,h,by simp only[ak,bJ]⟩;simp only[convert,Sem.run_bind,run_underlying hd1,run_underlying hd',Result.andThen_ok];cases d1<;>simp[Conv.intToInt]
 ·rename_i hk;have hd':P.underlying dst=some .string:=by
   rw[hk] at XH;cases d2<;>simp[di] at XH
   exact hd2
  split at h
  ·rename_i hs;have hs':P.underlying src=some .string:=by
    rw[hs] at XG;cases d1<;>simp[di] at XG
    exact hd1
   split at h;rotate_left;cases h
   rename_i str;simp only[ak,bJ] at hx;subst hx;exact⟨.string str,_,by simp[convert,run_underlying hs',run_underlying hd'],h,by simp only[ak,bJ]⟩
  ·rename_i e hs;have hs':P.underlying src=some (.slice e):=by
    rw[hs] at XG;cases d1<;>simp[di] at XG
    subst XG;exact hd1
   split at h;rotate_left;cases h
   rename_i ei pV;obtain⟨d3,hd3,aez⟩:=(hT _ _ pV).gW;split at h;rotate_left;cases h
   rename_i hu8;have Gs:P.underlying e=some (.int .u8):=by
    rw[hu8] at aez;cases d3<;>simp[di] at aez
    subst aez;exact hd3
   split at h
   ·simp only[ak,bJ] at hx;subst hx;exact⟨.string .empty,_,by simp[convert,run_underlying hs',run_underlying hd',run_underlying Gs,Conv.bytesToString],h,by simp only[ak,bJ]⟩
   split at h
   ·rename_i nn st rows hv;split at h;rotate_left;cases h
    rename_i hst;have hst:=Nat.eq_of_beq_eq_true hst;subst hst;obtain⟨bs,rfl,hK⟩:=h;have:=qR g hH (N':=fun _=>False) (fun _ h=>h.elim) x _ u (fun _ _ _ _ h=>h) hv hx;simp only[bJ] at this;obtain⟨p,len,cap,rfl,hl,hle,hnone,hsome⟩:=this;refine⟨.string ⟨bs.toArray⟩,_,?_,hK,by simp only[ak,bJ]⟩;cases p with
    | none=>
      have:bs=[]:=by
       have:=(hnone rfl).2;exact List.eq_nil_of_length_eq_zero (by simp at hl;omega)
      subst this;simp[convert,run_underlying hs',run_underlying hd',run_underlying Gs,Conv.bytesToString];rfl
    | some ad=>
      have h6:=hsome _ rfl;have hload:(loadCells ad len).run P w=.ok ((bs.map fun b=>(b.toNat:Int)).map (Value.int .u8)).toArray w:=by
       obtain⟨blk,off,spot⟩:=ad;simp only at h6;rcases h6 with h6|⟨hsp,_,cur,e2,fr,hg,hr⟩
       ·have:bs=[]:=by simpa using h6
        subst this;simp at hl;subst hl;simp[loadCells,loadCellsFrom]
       subst hsp;obtain⟨h7,h8,h9⟩:=gG hr;have hb:=EQ hr;simp only[List.length_map] at hl h7;simp only[List.length_drop,Array.length_toList] at h7;have hz:bs.length=0∨off+len≤cur.size:=by omega
       rcases hz with hz|hz
       ·have:bs=[]:=List.eq_nil_of_length_eq_zero hz;subst this;simp at hl;subst hl;simp[loadCells,loadCellsFrom]
       rw[rA hg hz,hl,hb];simp
      simp only[convert,Sem.run_bind,run_underlying hs',run_underlying hd',run_underlying Gs,Result.andThen_ok];rw[run_bytesToString w ad len cap _ hload,foldl_push,show ByteArray.empty.data++bs.toArray=bs.toArray from by rw[show ByteArray.empty.data = #[] from rfl,Array.empty_append]]
   exact h.elim
  exact h.elim
 exact h.elim
def Du (o:Option Operand)(vs:List AV):Option (Option Int×List AV):=
 match o with
 |none=>some (none,vs)
 | some _=>match vs with
   |.pv (.sc (.int _ i))::r=>some (some i,r)
   |_=>none
def NS (lo:Int)(o:Option Int)(hi:Int)(X:Prop):Prop:=
 match o with
 |none=>X
 |some i=>lo≤i∧i≤hi∧X
def Ua (rows:List (List PV))(lo hi:Option Int):List (List PV):=
 match lo,hi with
 |none,none=>rows
 |some l,none=>rows.drop l.toNat
 |none,some h=>rows.take h.toNat
 |some l,some h=>(rows.take h.toNat).drop l.toNat
def fV (n:Nat)(hi:Option Int):Int:=
 match hi with
 |none=>n
 |some h=>h
def agC (str:ByteArray)(lo hi:Option Int):ByteArray:=
 match lo,hi with
 |none,none=>str
 |some l,none=>str.extract l.toNat str.size
 |none,some h=>str.extract 0 h.toNat
 |some l,some h=>str.extract l.toNat h.toNat
def inF (m h:Option Int)(n:Nat)(X:Prop):Prop:=
 match m with
 |none=>X
 |some _=>h=m∧0<n∧X
def ai1 (m:Option Int)(nn:Bool)(st:Nat)(rows:List (List PV)):PV:=
 match m with
 |none=>.sl nn st rows
 |some _=>.NY st rows
def agD (h m:Option Int):Bool:=
 match h,m with
 |none,some _=>false
 |_,_=>true
def oK (T:Tab)(t:TypeId)(lo hi mx:Option Operand)(vs:List AV)(K:AV→Prop):Prop:=
 match vs with
 | x::r=>match Du lo r with
   | some (l,r1)=>match Du hi r1 with
     | some (h,r2)=>match Du mx r2 with
       | some (m,_)=>match lk T t with
         | some i=>match i.d with
           | .slt e=>match lk T e with
             | some ei=>match x with
               | .pv (.sc (.slice none 0 0))=>match m with
                 |none=>NS 0 h 0 (NS 0 l 0 (K (.pv (.sc (.slice none 0 0)))))
                 |some _=>False
               | .pv (.sl nn st rows)=>match Nat.beq st ei.size,agD h m with
                 |true,true=>inF m h rows.length (NS 0 m rows.length (NS 0 h (fV rows.length m) (NS 0 l (fV rows.length h) (K (.pv (ai1 m nn st (Ua rows l h)))))))
                 |_,_=>False
               | .pv (.NY st rows)=>match Nat.beq st ei.size,m with
                 |true,some mi=>h=some mi∧NS 0 (some mi) rows.length (NS 0 h (fV rows.length (some mi)) (NS 0 l (fV rows.length h) (K (.pv (.NY st (Ua rows l h))))))
                 |_,_=>False
               |_=>False
             |none=>False
           | .KI=>match x with
             | .pv (.sc (.string str))=>match m with
               |none=>NS 0 h str.size (NS 0 l (fV str.size h) (K (.pv (.sc (.string (agC str l h))))))
               |some _=>False
             |_=>False
           |_=>False
         |none=>False
       |none=>False
     |none=>False
   |none=>False
 |[]=>False
def vI:Option Value→Option Int→Prop
 |none,none=>True
 |some (.int _ i),some j=>i=j
 |_,_=>False
theorem iI {N:Nat→Prop}{hp:List (Nat×aF)}{f:Operand→Value}{o:Option Operand}{rest:List Operand}{vs:List AV}{i:Option Int}{r:List AV}
  (h:FL (ak N w hp R) vs ((o.toList++rest).map f)) (e:Du o vs=some (i,r)):vI (o.map f) i∧FL (ak N w hp R) r (rest.map f):=by
 unfold Du at e;split at e
 ·simp only[Option.some.injEq,Prod.mk.injEq] at e;obtain⟨rfl,rfl⟩:=e;exact⟨trivial,by simpa using h⟩
 rename_i oo;split at e
 ·rename_i k j r';simp only[Option.some.injEq,Prod.mk.injEq] at e;obtain⟨rfl,rfl⟩:=e;simp only[Option.toList,List.cons_append,List.nil_append,List.map_cons] at h;obtain⟨v,r2,e1,h1,h2⟩:=h;simp only[List.cons.injEq] at e1;obtain⟨rfl,rfl⟩:=e1;simp only[ak,bJ] at h1;exact⟨by simp[vI,h1],h2⟩
 cases e
theorem run_sliceBound {y:Nat}{k:IntKind}{i:Int}(code:BoundsCode)(h0:0≤i)(h1:i≤y):(Instr.sliceBound (.int k i) y code).run P w=.ok i.toNat w:=by
 simp[Instr.sliceBound,asIntOf,h0,h1]
theorem jg {Ub:Bool}{len cap:Nat}{lo hi mx:Option Value}{l h m:Option Int}(v1:vI lo l)(v2:vI hi h)(v3:vI mx m)(hle:len≤cap)
  (hm:∀i,m=some i→0≤i∧i≤len∧h.isSome=true) (hh:∀i,h=some i→0≤i∧i≤fV len m) (hl:∀i,l=some i→0≤i∧i≤fV len h) :
  (Instr.sliceBounds Ub len cap lo hi mx).run P w=.ok ((l.map Int.toNat).getD 0,(fV len h).toNat,(m.map Int.toNat).getD cap) w ∧
   ((l.map Int.toNat).getD 0)≤(fV len h).toNat∧(fV len h).toNat≤len∧(fV len h).toNat≤(m.map Int.toNat).getD cap:=by
 have hh2:0≤fV len h∧fV len h≤len∧fV len h≤(((m.map Int.toNat).getD cap:Nat):Int):=by
  cases h with
  | none=>
    cases m with
    |none=>simp[fV];omega
    |some mi=>have:=(hm mi rfl).2.2;simp at this
  | some hi'=>
    have:=hh hi' rfl;cases m with
    |none=>simp[fV] at this ⊢;omega
    |some mi=>have h2:=hm mi rfl;simp[fV] at this ⊢;omega
 have hl2:(((l.map Int.toNat).getD 0:Nat):Int)≤fV len h:=by
  cases l with
  |none=>simp;omega
  |some li=>have:=hl li rfl;simp;omega
 refine⟨?_,by omega,by omega,by omega⟩;have h1:∀code,(∀v,mx=some v→(Instr.sliceBound v cap code).run P w=.ok ((m.map Int.toNat).getD cap) w):=by
  intro code v hv;subst hv;cases m with
  |none=>cases v<;>exact v3.elim
  | some mi=>
    cases v<;>simp only[vI] at v3
    subst v3;have:=hm _ rfl;simp[run_sliceBound code this.1 (show _≤((cap:Nat):Int) by omega)]
 have h2:∀code,(∀v,hi=some v→(Instr.sliceBound v ((m.map Int.toNat).getD cap) code).run P w=.ok (fV len h).toNat w):=by
  intro code v hv;subst hv;cases h with
  |none=>cases v<;>exact v2.elim
  | some mi=>
    cases v<;>simp only[vI] at v2
    subst v2;simp only[fV] at hh2 ⊢;exact run_sliceBound code hh2.1 hh2.2.2
 have h3:∀code,(∀v,lo=some v→(Instr.sliceBound v (fV len h).toNat code).run P w=.ok ((l.map Int.toNat).getD 0) w):=by
  intro code v hv;subst hv;cases l with
  |none=>cases v<;>exact v1.elim
  | some mi=>
    cases v<;>simp only[vI] at v1
    subst v1;have:=hl _ rfl;simp only[Option.map_some,Option.getD_some];exact run_sliceBound code this.1 (by omega)
 have hi0:hi=none→h=none:=fun e=>by subst e;cases h with
  |none=>rfl
  |some _=>exact v2.elim
 have lo0:lo=none→l=none:=fun e=>by subst e;cases l with
  |none=>rfl
  |some _=>exact v1.elim
 have mx0:mx=none→m=none:=fun e=>by subst e;cases m with
  |none=>rfl
  |some _=>exact v3.elim
 cases mx with
 | none=>
   have:=mx0 rfl;subst this;cases hi with
   | none=>
     have:=hi0 rfl;subst this;cases lo with
     |none=>have:=lo0 rfl;subst this;simp[Instr.sliceBounds,fV]
     |some lv=>simp only[Instr.sliceBounds,Sem.run_bind,Sem.run_pure,Result.andThen_ok];have:=h3 .sliceB lv rfl;simp[fV] at this ⊢;simp[this]
   | some hv=>
     cases lo with
     |none=>have:=lo0 rfl;subst this;have:=h2 (if Ub then .sliceAcap else .sliceAlen) hv rfl;simp at this;simp[Instr.sliceBounds,this]
     |some lv=>have a1:=h2 (if Ub then .sliceAcap else .sliceAlen) hv rfl;simp at a1;have a2:=h3 .sliceB lv rfl;simp[Instr.sliceBounds,a1,a2]
 | some mv=>
   have b1:=h1 (if Ub then .slice3Acap else .slice3Alen) mv rfl;cases hi with
   | none=>
     have:=hi0 rfl;subst this;cases m with
     |none=>cases mv<;>exact v3.elim
     |some mi=>have:=(hm mi rfl).2.2;simp at this
   | some hv=>
     have b2:=h2 .slice3B hv rfl;cases lo with
     |none=>have:=lo0 rfl;subst this;simp[Instr.sliceBounds,b1,b2]
     |some lv=>have b3:=h3 .slice3C lv rfl;simp[Instr.sliceBounds,b1,b2,b3]
theorem kV {lo hi:Int}{o:Option Int}{X:Prop}(h:NS lo o hi X):X∧∀i,o=some i→lo≤i∧i≤hi:=by
 cases o with
 |none=>exact⟨h,fun i e=>by cases e⟩
 |some j=>obtain⟨a,b,c⟩:=h;exact⟨c,fun i e=>by simp only[Option.some.injEq] at e;subst e;exact⟨a,b⟩⟩
theorem RA (rows:List (List PV))(l h:Option Int):Ua rows l h=(rows.take (fV rows.length h).toNat).drop ((l.map Int.toNat).getD 0):=by
 cases l<;>cases h<;>simp[Ua,fV]
theorem XI {m h:Option Int}{n:Nat}{X:Prop}(e:inF m h n X):X∧∀i,m=some i→h=m∧0<n:=by
 cases m with
 |none=>exact⟨e,fun i e=>by cases e⟩
 |some j=>obtain⟨a,b,c⟩:=e;exact⟨c,fun _ _=>⟨a,b⟩⟩
theorem Ic {N:Nat→Prop}{nn:Bool}{st:Nat}{rows:List (List PV)}{p:Option Addr}{n cap:Nat}(h:bJ N w (.sl nn st rows) (.slice p n cap))(hc:cap=n)(hp:p≠none):bJ N w (.NY st rows) (.slice p n cap):=by
 simp only[bJ] at h ⊢;obtain⟨p',l',c',e,rfl,⟨h1,h2⟩,h3,h4⟩:=h;simp only[Value.slice.injEq] at e;obtain⟨rfl,rfl,rfl⟩:=e;subst hc;cases p with
 |none=>exact absurd rfl hp
 |some a=>exact⟨a,rfl,h2,h4 a rfl⟩
theorem GJ {N:Nat→Prop}{st:Nat}{rows:List (List PV)}{v:Value}(h:bJ N w (.NY st rows) v):bJ N w (.sl true st rows) v:=by
 simp only[bJ] at h ⊢;obtain⟨a,rfl,h2,h3⟩:=h;exact⟨_,_,_,rfl,rfl,⟨Nat.le_refl _,h2⟩,fun e=>(by cases e),fun b e=>by cases e;exact h3⟩
theorem yX (g:bG c R s a w)(hT:bY P T){t:TypeId}{x0:Operand}{lo hi mx:Option Operand}{vs:List AV}{K:AV→Prop}(h:oK T t lo hi mx vs K)
  (hv:FL (ak (aV c R s.hp) w s.hp R) vs ((x0::(lo.toList++(hi.toList++mx.toList))).map a.eval)) :
  ∃y z,(Instr.sliceAt t (a.eval x0) (lo.map a.eval) (hi.map a.eval) (mx.map a.eval)).run P w=.ok y w∧K z∧ak (aV c R s.hp) w s.hp R z y:=by
 unfold oK at h;split at h;rotate_left;cases h
 rename_i x r;simp only[List.map_cons] at hv;obtain⟨u,r',e1,hx,hv⟩:=hv;simp only[List.cons.injEq] at e1;obtain⟨e1,rfl⟩:=e1;rw[e1];split at h;rotate_left;cases h
 rename_i l r1 hl;split at h;rotate_left;cases h
 rename_i hh r2 hhi;split at h;rotate_left;cases h
 rename_i m r3 hm;obtain⟨v1,hv⟩:=iI hv hl;obtain⟨v2,hv⟩:=iI hv hhi;have hv':FL (ak (aV c R s.hp) w s.hp R) r2 ((mx.toList++[]).map a.eval):=by simpa using hv
 obtain⟨v3,_⟩:=iI hv' hm;split at h;rotate_left;cases h
 rename_i i hi';obtain⟨d,hd,ig⟩:=(hT t i hi').gW;split at h
 ·rename_i e hte;have hd':P.underlying t=some (.slice e):=by
   rw[hte] at ig;cases d<;>simp[di] at ig
   subst ig;exact hd
  split at h;rotate_left;cases h
  rename_i ei pV;have iY:=hT _ _ pV;split at h
  ·split at h
   ·obtain⟨h,k2⟩:=kV h;obtain⟨h,k3⟩:=kV h;simp only[ak,bJ] at hx;subst hx;have hz:(fV 0 hh)=0:=by
     cases hh with
     |none=>rfl
     |some j=>have:=k2 j rfl;simp only[fV];omega
    have lz:(l.map Int.toNat).getD 0=0:=by
     cases l with
     |none=>rfl
     |some j=>have:=k3 j rfl;simp;omega
    obtain⟨hrun,q1,q2,q3⟩:=jg (P:=P) (w:=w) (Ub:=true) (len:=0) (cap:=0) v1 v2 v3 (Nat.le_refl _) (fun i e=>by cases e) k2 (fun i e=>by rw[hz];exact k3 i e);rw[hz,lz] at hrun;have hrun':(Instr.sliceAt t (.slice none 0 0) (lo.map a.eval) (hi.map a.eval) (mx.map a.eval)).run P w=.ok (.slice none 0 0) w:=by
     simp only[Instr.sliceAt,Instr.slice,Sem.run_bind,run_underlying hd',Result.andThen_ok,hrun,iY.run_sizeOf,Sem.run_pure];simp
    exact⟨_,_,hrun',h,by simp only[ak,bJ]⟩
   exact h.elim
  ·rename_i nn st rows;split at h;rotate_left;cases h
   rename_i hst hok;have hst:=Nat.eq_of_beq_eq_true hst;obtain⟨h,k0⟩:=XI h;obtain⟨h,k1⟩:=kV h;obtain⟨h,k2⟩:=kV h;obtain⟨h,k3⟩:=kV h;simp only[ak] at hx;have hx':=hx;simp only[bJ] at hx';obtain⟨p,len,cap,rfl,rfl,⟨hle,hcm⟩,hnone,hsome⟩:=hx';obtain⟨hrun,q1,q2,q3⟩:=jg (P:=P) (w:=w) (Ub:=true) v1 v2 v3 hle (fun i e=>⟨(k1 i e).1,(k1 i e).2,by
    subst e;cases hh with
    |none=>simp[agD] at hok
    |some _=>rfl⟩) k2 k3
   have hrun':(Instr.sliceAt t (.slice p rows.length cap) (lo.map a.eval) (hi.map a.eval) (mx.map a.eval)).run P w =
     .ok (.slice (if (m.map Int.toNat).getD cap=(l.map Int.toNat).getD 0 then p else p.map (·.add ((l.map Int.toNat).getD 0*ei.size)))
      ((fV rows.length hh).toNat-(l.map Int.toNat).getD 0) ((m.map Int.toNat).getD cap-(l.map Int.toNat).getD 0)) w:=by
    simp only[Instr.sliceAt,Instr.slice,Sem.run_bind,run_underlying hd',Result.andThen_ok,hrun,iY.run_sizeOf,Sem.run_pure]
   have hrep:bJ (aV c R s.hp) w (.sl nn st (Ua rows l hh)) (.slice (if (m.map Int.toNat).getD cap=(l.map Int.toNat).getD 0 then p else p.map (·.add ((l.map Int.toNat).getD 0*ei.size))) ((fV rows.length hh).toNat-(l.map Int.toNat).getD 0) ((m.map Int.toNat).getD cap-(l.map Int.toNat).getD 0)):=by
     rw[RA];simp only[bJ];refine⟨_,_,_,rfl,by simp;omega,⟨by omega,?_⟩,?_,?_⟩
     ·cases m with
      |none=>simp;omega
      |some mi=>have:=(k1 mi rfl);simp;omega
     ·intro hp';have:p=none:=by
       split at hp'
       ·exact hp'
       cases p with
       |none=>rfl
       |some _=>simp at hp'
      have:=hnone this;refine⟨this.1,?_⟩;cases m with
      |none=>simp;omega
      |some mi=>have:=k1 mi rfl;simp;omega
     intro ad hp';cases p with
     |none=>split at hp'<;>simp at hp'
     | some pa=>
       have h6:=hsome _ rfl;obtain⟨blk,off,spot⟩:=pa;simp only at h6;split at hp'
       ·rename_i Aq;simp only[Option.some.injEq] at hp';subst hp';refine .inl ?_;apply List.eq_nil_of_length_eq_zero;simp;omega
       rcases h6 with h6|⟨hs,hn,cur,e2,fr,hg,hr⟩
       ·subst h6;exact .inl (by simp)
       subst hs;simp only[Option.map_some,Option.some.injEq,addr_add] at hp';subst hp';refine .inr ⟨rfl,hn,cur,e2,fr,hg,?_⟩;have:=mD ((l.map Int.toNat).getD 0) (lN (fV rows.length hh).toNat hr);rw[List.drop_drop,hst] at this;rw[hst];exact this
   refine⟨_,_,hrun',h,?_⟩;simp only[ak];cases m with
   |none=>exact hrep
   | some mi=>
     obtain⟨z1,z2⟩:=k0 mi rfl;refine Ic hrep ?_ ?_
     ·subst z1;simp[fV]
     have hp:p≠none:=fun e=>by have:=(hnone e).2;omega
     split
     ·exact hp
     cases p with
     |none=>exact absurd rfl hp
     |some _=>simp
  ·rename_i st rows;split at h;rotate_left;cases h
   rename_i mi hst;have hst:=Nat.eq_of_beq_eq_true hst;obtain⟨z1,h⟩:=h;obtain⟨h,k1⟩:=kV h;obtain⟨h,k2⟩:=kV h;obtain⟨h,k3⟩:=kV h;simp only[ak] at hx;have hx:=GJ hx;have hx':=hx;simp only[bJ] at hx';obtain⟨p,len,cap,rfl,rfl,⟨hle,hcm⟩,hnone,hsome⟩:=hx';obtain⟨m,hm'⟩:∃m,m=some mi:=⟨_,rfl⟩;rw[←hm'] at k1 k2 v3 z1;obtain⟨hrun,q1,q2,q3⟩:=jg (P:=P) (w:=w) (Ub:=true) v1 v2 v3 hle (fun i e=>⟨(k1 i e).1,(k1 i e).2,by
    rw[z1,e];rfl⟩) k2 k3
   have hrun':(Instr.sliceAt t (.slice p rows.length cap) (lo.map a.eval) (hi.map a.eval) (mx.map a.eval)).run P w =
     .ok (.slice (if (m.map Int.toNat).getD cap=(l.map Int.toNat).getD 0 then p else p.map (·.add ((l.map Int.toNat).getD 0*ei.size)))
      ((fV rows.length hh).toNat-(l.map Int.toNat).getD 0) ((m.map Int.toNat).getD cap-(l.map Int.toNat).getD 0)) w:=by
    simp only[Instr.sliceAt,Instr.slice,Sem.run_bind,run_underlying hd',Result.andThen_ok,hrun,iY.run_sizeOf,Sem.run_pure]
   have hrep:bJ (aV c R s.hp) w (.sl true st (Ua rows l hh)) (.slice (if (m.map Int.toNat).getD cap=(l.map Int.toNat).getD 0 then p else p.map (·.add ((l.map Int.toNat).getD 0*ei.size))) ((fV rows.length hh).toNat-(l.map Int.toNat).getD 0) ((m.map Int.toNat).getD cap-(l.map Int.toNat).getD 0)):=by
     rw[RA];simp only[bJ];refine⟨_,_,_,rfl,by simp;omega,⟨by omega,?_⟩,?_,?_⟩
     ·cases m with
      |none=>simp;omega
      |some mi=>have:=(k1 mi rfl);simp;omega
     ·intro hp';have:p=none:=by
       split at hp'
       ·exact hp'
       cases p with
       |none=>rfl
       |some _=>simp at hp'
      have:=hnone this;refine⟨this.1,?_⟩;cases m with
      |none=>simp;omega
      |some mi=>have:=k1 mi rfl;simp;omega
     intro ad hp';cases p with
     |none=>split at hp'<;>simp at hp'
     | some pa=>
       have h6:=hsome _ rfl;obtain⟨blk,off,spot⟩:=pa;simp only at h6;split at hp'
       ·rename_i Aq;simp only[Option.some.injEq] at hp';subst hp';refine .inl ?_;apply List.eq_nil_of_length_eq_zero;simp;omega
       rcases h6 with h6|⟨hs,hn,cur,e2,fr,hg,hr⟩
       ·subst h6;exact .inl (by simp)
       subst hs;simp only[Option.map_some,Option.some.injEq,addr_add] at hp';subst hp';refine .inr ⟨rfl,hn,cur,e2,fr,hg,?_⟩;have:=mD ((l.map Int.toNat).getD 0) (lN (fV rows.length hh).toNat hr);rw[List.drop_drop,hst] at this;rw[hst];exact this
   refine⟨_,_,hrun',h,?_⟩;simp only[ak];refine Ic hrep ?_ ?_
   ·subst hm';subst z1;simp[fV]
   have hp:p≠none:=fun e=>by have:=(hnone e).1;cases this
   split
   ·exact hp
   cases p with
   |none=>exact absurd rfl hp
   |some _=>simp
  exact h.elim
 ·rename_i hte;have hd':P.underlying t=some .string:=by
   rw[hte] at ig;cases d<;>simp[di] at ig
   exact hd
  split at h;rotate_left;cases h
  rename_i str;simp only[ak,bJ] at hx;subst hx;split at h;rotate_left;cases h
  obtain⟨h,k2⟩:=kV h;obtain⟨h,k3⟩:=kV h;have mxn:mx=none:=by
   cases mx with
   |none=>rfl
   |some v=>simp only[Option.map_some] at v3;cases ev:a.eval v<;>rw[ev] at v3<;>exact v3.elim
  subst mxn;obtain⟨hrun,q1,q2,q3⟩:=jg (P:=P) (w:=w) (Ub:=false) (len:=str.size) (cap:=str.size) v1 v2 v3 (Nat.le_refl _) (fun i e=>by cases e) k2 k3;have hrun':(Instr.sliceAt t (.string str) (lo.map a.eval) (hi.map a.eval) none).run P w=.ok (.string (str.extract ((l.map Int.toNat).getD 0) (fV str.size hh).toNat)) w:=by
   simp only[Option.map_none] at hrun;simp only[Instr.sliceAt,Instr.slice,Sem.run_bind,run_underlying hd',Result.andThen_ok,hrun,Sem.run_pure];simp[hrun]
  refine⟨_,_,hrun',h,?_⟩;simp only[ak,bJ];have hsz:str.extract 0 str.size=str:=by
   rw[ByteArray.extract_zero_size]
  cases l<;>cases hh<;>simp[agC,fV,hsz]
 exact h.elim
end
def Real.at (R:Real)(b g:Nat)(nil:Bool)(cap:Nat):Real:=
 { blk:=fun b'=>if b'=b then g else R.blk b',nil:=fun b'=>if b'=b then nil else R.nil b',cap:=fun b'=>if b'=b then (cap,[]) else R.cap b',Y:=R.Y }
theorem Real.yQ (R:Real)(b g:Nat)(nil:Bool)(cap:Nat):∀b',b'≠b→(R.at b g nil cap).blk b'=R.blk b'∧(R.at b g nil cap).nil b'=R.nil b'∧(R.at b g nil cap).cap b'=R.cap b':=
 fun b' h=>by simp[Real.at,h]
section
variable {P:Program}{T:Tab}{c:Ctx}{R:Real}{s:AS}{a:Act}{w:World}
theorem bG.Pd (g:bG c R s a w){id:Nat}(hf:lk s.hp id=none){o:Obj}{w':World}(hw':w'.heap=w.heap.push o∧w'.os=w.os∧w'.tape=w.tape∧w'.output=w.output)
  {R':Real} (hR:∀b',b'≠id→R'.blk b'=R.blk b'∧R'.nil b'=R.nil b'∧R'.cap b'=R.cap b') (hb:R'.nil id=false→R'.blk id=w.heap.size) {box:aF}
  (uz:∀cells,box=.var cells→R'.nil id=false)
  (Lc:(∀v x,ak (aV c R s.hp) w s.hp R v x→ak (aV c R' ((id,box)::s.hp)) w' ((id,box)::s.hp) R' v x) →
   dY (aV c R' ((id,box)::s.hp)) w' ((id,box)::s.hp) R' id box)
  (Xu:∀x y z u,box ≠ .tr x y z u:=by intros;intro h;cases h) (hY:R'.Y=R.Y:=by rfl) (hnf:∀a b c d e f g h i,box ≠ .iM a b c d e f g h i:=by intros;intro h;cases h) :
  bG c R' (s.app [(id,box)]) a w'∧(∀v x,ak (aV c R s.hp) w s.hp R v x→ak (aV c R' ((id,box)::s.hp)) w' ((id,box)::s.hp) R' v x):=by
 have r1:∀off v,aY R id off v (lk s.hp id)→aY R' id off v (some box):=fun off v h=>by rw[hf] at h;exact h.elim
 have r2:∀ver v,aU R id ver v (lk s.hp id)→aU R' id ver v (some box):=fun off v h=>by rw[hf] at h;exact h.elim
 have r3:∀ver i off v,bf R id ver i off v (lk s.hp id)→bf R' id ver i off v (some box):=fun _ _ _ v h=>by rw[hf] at h;exact h.elim
 have hown:∀r,aL R' id r (some box)→aL R id r (lk s.hp id)∨w.heap.size≤r:=by
  intro r h;refine .inr ?_;cases box with
  |var cells=>simp only[aL] at h;have:=hb (uz _ rfl);omega
  |nR _=>exact h.elim
  |arr _ _ _ _=>obtain⟨h1,h2⟩:=h;have:=hb h1;omega
  |dS _ _ _=>exact h.elim
  |tr x y z u=>exact absurd rfl (Xu x y z u)
  |gy _ _ _ _ _ _=>obtain⟨h1,h2⟩:=h;have:=hb h1;omega
  |mp _ _ _=>obtain⟨h1,h2⟩:=h;have:=hb h1;omega
  |iM _ _ _ _ _ _ _ _ _=>exact absurd rfl (hnf _ _ _ _ _ _ _ _ _)
 have hworld:mr (fun r=>aL R id r (lk s.hp id)) w w':=by
  refine⟨by rw[hw'.1];simp,fun r hr _=>?_,hw'.2.1,hw'.2.2.1,hw'.2.2.2⟩;rw[hw'.1,Array.getElem?_push];simp[Nat.ne_of_lt hr]
 obtain⟨m1,m2,m3,m4,m5⟩:=g.Ga hR r1 r2 r3 hown hworld hY;have hm:∀v x,ak (aV c R s.hp) w s.hp R v x→ak (aV c R' ((id,box)::s.hp)) w' ((id,box)::s.hp) R' v x:=fun v x h=>dF m1 m2 m3 m4 m5 v x h
 exact⟨g.upd hR r1 r2 r3 hown hworld (Lc hm) hY,hm⟩
theorem bG.newVar (g:bG c R s a w){id:Nat}(hf:lk s.hp id=none){cells:List AV}{vs:Array Value}{t:TypeId}(hc:FC (ak (aV c R s.hp) w s.hp R) cells vs.toList) :
  ∃R',bG c R' (s.app [(id,.var cells)]) a { w with heap:=w.heap.push (.cells vs t) } ∧
   ak (aV c R' ((id,.var cells)::s.hp)) { w with heap:=w.heap.push (.cells vs t) } ((id,.var cells)::s.hp) R' (.ptr id 0) (.pointer (some ⟨w.heap.size,0,none⟩)):=by
 refine⟨R.at id w.heap.size false 0,?_,?_⟩
 ·refine (g.Pd (w':={ w with heap:=w.heap.push (.cells vs t) }) (box:=.var cells) hf (o:=.cells vs t) ⟨rfl,rfl,rfl,rfl⟩ (Real.yQ R id w.heap.size false 0)
   (fun _=>by simp[Real.at]) (fun _ _=>by simp[Real.at]) fun hm=>?_).1
  refine⟨vs,t,?_,?_⟩
  ·simp[Real.at]
  rw[bM];exact hc.imp hm
 simp only[ak,aC,if_true,aY];simp[Real.at]
theorem bG.Wq (g:bG c R s a w){id:Nat}(hf:lk s.hp id=none){e:TypeId}{st:Nat}{rows:List (List PV)}{w':World}{cur:Array Value}{cap:Nat}
  (hw':w'.heap=w.heap.push (.cells cur e)∧w'.os=w.os∧w'.tape=w.tape∧w'.output=w.output)
  (hle:rows.length≤cap) (hcm:cap≤maxLen) (hs:cur.size=cap*st) (hr:cK (aV c R s.hp) w st rows cur.toList) :
  ∃R',bG c R' (s.app [(id,.arr e 0 st rows)]) a w' ∧
   ak (aV c R' ((id,.arr e 0 st rows)::s.hp)) w' ((id,.arr e 0 st rows)::s.hp) R' (.aO id 0) (.slice (some ⟨w.heap.size,0,none⟩) rows.length cap):=by
 have hsl:dH (R.at id w.heap.size false cap) id rows.length=.slice (some ⟨w.heap.size,0,none⟩) rows.length cap:=by simp[dH,Real.at]
 refine⟨R.at id w.heap.size false cap,?_,?_⟩
 ·refine (g.Pd hf (o:=.cells cur e) hw' (Real.yQ R id _ _ _) (fun _=>by simp[Real.at]) (fun _ _=>by simp[Real.at]) fun hm=>?_).1;have hr':cK (aV c (R.at id w.heap.size false cap) ((id,aF.arr e 0 st rows)::s.hp)) w' st rows cur.toList:=by
   refine aX ?_ ?_ _ _ _ hr
   ·rintro r hlt (h|⟨b,h⟩)
    ·exact .inl h
    refine .inr ⟨b,?_⟩;by_cases eb:b=id
    ·subst eb;simp only[aC,if_true,aL] at h;simp[Real.at] at h;omega
    rw[aC,if_neg (fun x=>eb x.symm)] at h;exact iA (Real.yQ R id _ _ _ b eb) rfl h
   intro r hlt _;rw[hw'.1,Array.getElem?_push];simp[Nat.ne_of_lt hlt]
  obtain⟨t1,t2,t3⟩:=gG hr';refine⟨cur.toList.take (rows.length*st),?_,t2⟩;rw[hsl];refine⟨by simp only[List.length_take];omega,.inr ⟨w.heap.size,cap,cur,rfl,Nat.zero_le _,?_,hle,hcm,hs,rfl⟩⟩;rw[hw'.1];simp
 simp only[ak,aC,if_true,aU];exact⟨Nat.le_refl _,rfl,fun _=>hsl.symm⟩
theorem bG.freeze (g:bG c R s a w){b:Nat}{box bL:aF}(hb:lk s.hp b=some box)
  (hf:(∃e v st rows,box=.arr e v st rows∧bL=.dS v st rows)∨(∃cells ps,box=.var cells∧ji cells=some ps∧bL=.nR ps)) :
  bG c R (s.app [(b,bL)]) a w∧(∀v x,ak (aV c R s.hp) w s.hp R v x→ak (aV c R ((b,bL)::s.hp)) w ((b,bL)::s.hp) R v x) ∧
   (∀r,aV c R ((b,bL)::s.hp) r→aV c R s.hp r)∧(∀r,aL R b r (lk s.hp b)→¬aV c R ((b,bL)::s.hp) r):=by
 have hR:∀b',b'≠b→R.blk b'=R.blk b'∧R.nil b'=R.nil b'∧R.cap b'=R.cap b':=fun _ _=>⟨rfl,rfl,rfl⟩
 have r1:∀off v,aY R b off v (lk s.hp b)→aY R b off v (some bL):=by
  intro off v h;rw[hb] at h;rcases hf with ⟨e,v',st,rows,rfl,rfl⟩|⟨cells,ps,rfl,_,rfl⟩
  ·exact h
  exact h
 have r2:∀ver v,aU R b ver v (lk s.hp b)→aU R b ver v (some bL):=by
  intro off v h;rw[hb] at h;rcases hf with ⟨e,v',st,rows,rfl,rfl⟩|⟨cells,ps,rfl,_,rfl⟩
  ·exact h
  exact h
 have r3:∀ver i off v,bf R b ver i off v (lk s.hp b)→bf R b ver i off v (some bL):=by
  intro _ _ off v h;rw[hb] at h;rcases hf with ⟨e,v',st,rows,rfl,rfl⟩|⟨cells,ps,rfl,_,rfl⟩
  ·exact h
  exact h
 have hno:∀r,¬aL R b r (some bL):=by
  intro r h;rcases hf with ⟨e,v',st,rows,rfl,rfl⟩|⟨cells,ps,rfl,_,rfl⟩<;>exact h
 have hown:∀r,aL R b r (some bL)→aL R b r (lk s.hp b)∨w.heap.size≤r:=fun r h=>(hno r h).elim
 obtain⟨m1,m2,m3,m4,m5⟩:=g.Ga hR r1 r2 r3 hown (mr.refl _ w);have ug:lk ((b,bL)::s.hp) b=some bL:=by rw[aC,if_pos rfl]
 have hsub:∀r,aV c R ((b,bL)::s.hp) r→aV c R s.hp r:=by
  rintro r (h|⟨b',h⟩)
  ·exact .inl h
  by_cases e:b'=b
  ·subst e;rw[ug] at h;exact (hno r h).elim
  rw[aC,if_neg (fun x=>e x.symm)] at h;exact .inr ⟨b',h⟩
 have hout:∀r,aL R b r (lk s.hp b)→¬aV c R ((b,bL)::s.hp) r:=by
  rintro r ho (h|⟨b',h⟩)
  ·exact g.free r ⟨b,ho⟩ h
  by_cases e:b'=b
  ·subst e;rw[ug] at h;exact hno r h
  rw[aC,if_neg (fun x=>e x.symm)] at h;exact e (g.inj b' b r h ho)
 refine⟨g.upd hR r1 r2 r3 hown (mr.refl _ w) ?_,fun v x h=>dF m1 m2 m3 m4 m5 v x h,hsub,hout⟩;rcases hf with ⟨e,v',st,rows,rfl,rfl⟩|⟨cells,ps,rfl,hps,rfl⟩
 ·simp only[dY];refine oZ g (b:=b) (ver:=v') (p:=.sl false st rows) ?_ hsub hout ?_
  ·rw[hb];simp[uq]
  rw[hb];refine⟨Nat.le_refl _,?_,fun _=>rfl⟩;unfold dH;split<;>rfl
 obtain⟨cur,e,hg,hc⟩:=(g.boxes b _ hb);rw[bM] at hc;have hc':=qQ hps hc;refine⟨cur,e,(0,0),hg,hout _ (by rw[hb];rfl),?_⟩;have:gU (aV c R s.hp) w ps cur.toList:=by rw[dN];exact hc'.fp
 exact dQ (fun r _ h=>hsub r h) (fun _ _ _=>rfl) _ _ this
end
end Go.AX
end
