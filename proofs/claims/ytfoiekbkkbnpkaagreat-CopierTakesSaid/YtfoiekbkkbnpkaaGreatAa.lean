/-
  Conditions: none. A framework for walks: abstract values, memory, and conditions that suffice; the chapters in plain terms.
-/
import Derived.Laws.AppendOwn
import Derived.Orders
import Derived.Tactics
import Derived.RangeFuncWrites
import Derived.Laws.Cells
import Derived.Laws.MakeOwn
import Derived.Laws.CopyRow
import Derived.Laws.StructEq
import Derived.Laws.BytesString
set_option linter.unusedSectionVars false
set_option linter.unusedVariables false
set_option linter.unusedSimpArgs false
section
namespace Go.AX
inductive PV where
 |sc (v:Value)
 |agg (cs:List PV)
 |fF (vs:List PV)
 |sl (nn:Bool) (st:Nat) (rows:List (List PV))
 |bT (row:List PV) (off:Nat)
 |fn (f:Fn) (first aT:List PV)
 |junk
 /-- a slice without room behind it -/
 |Gw (st:Nat) (rows:List (List PV))
inductive AV where
 |pv (p:PV)
 |agg (cs:List AV)
 |fF (vs:List AV)
 |ptr (b off:Nat)
 |cB (b ver i off:Nat)
 |aG (b ver:Nat)
 /-- the rows from lo to hi of a slice of kF own,of st cells each -/
 |sub (b ver st lo hi:Nat)
 |fn (f:Fn) (first aT:List AV)
inductive av where
 |var (cells:List AV)
 |ny (cells:List PV)
 |arr (e:TypeId) (ver st:Nat) (rows:List (List PV))
 |bX (ver st:Nat) (rows:List (List PV))
 /-- of an iterator: what is still to be yielded;has the loop been left? -/
 |tr (y:Program×Nat) (ver:Nat) (rest:List (List PV)) (st:Option Bool)
 /-- an array of kF own,one of Jl rows is laid open: it may have references -/
 |dL (e:TypeId) (ver st:Nat) (pre:List (List PV)) (row:List AV) (post:List (List PV))
 /-- a map of kF own,from integers to integers -/
 |mp (kk kv:IntKind) (es:List (Int×Int))
 /-- an array of kF own,each of Jl rows may have,in column j,an array of its own (told so);one row may be laid open -/
 |bR (e:TypeId) (ver st j:Nat) (ed:TypeId) (sd:Nat) (pre:List (Bool×List PV)) (row:List AV) (post:List (Bool×List PV))
structure AS where
 tm:List (Nat×AV)
 nx:Nat
 hp:List (Nat×av)
def lk {α:Type}:List (Nat×α)→Nat→Option α
 |[],_=>none
 | (k,v)::r,t=>match Nat.beq k t with
   |true=>some v
   |false=>lk r t
theorem aj {α:Type}(k:Nat)(v:α)(r:List (Nat×α))(t:Nat):lk ((k,v)::r) t=if k=t then some v else lk r t:=by
 simp only[lk];cases h:Nat.beq k t with
 |true=>simp[Nat.eq_of_beq_eq_true h]
 |false=>simp[Nat.ne_of_beq_eq_false h]
section
variable (N:Nat→Prop)(w:World)
mutual
def aU:PV→Value→Prop
 |.sc x,v=>v=x
 |.agg cs,v=>∃vs:Array Value,v=.agg vs∧fG cs vs.toList
 |.fF cs,v=>∃vs:Array Value,v=.tuple vs∧cZ cs vs.toList
 | .sl nn st rows,v=>∃(p:Option Addr) (len cap:Nat),v=.slice p len cap∧len=rows.length∧(len≤cap∧cap≤9223372036854775807)∧(p=none→nn=false∧cap=0) ∧
   ∀a,p=some a→rows=[]∨(a.spot=none∧¬N a.block∧∃cur e fr,w.heap[a.block]? = some (.cells cur e fr)∧bf st rows (cur.toList.drop a.off))
 | .bT row off,v=>∃(g base:Nat) (cur:Array Value) (e:TypeId) (fr:Nat×Nat),v=.pointer (some ⟨g,base+off,none⟩)∧¬N g ∧
   w.heap[g]? = some (.cells cur e fr)∧dM row (cur.toList.drop base)
 |.fn f first aT,v=>∃fs cs:Array Value,v=.func f fs cs∧cZ first fs.toList∧cZ aT cs.toList
 |.junk,_=>True
 | .Gw st rows,v=>∃a:Addr,v=.slice (some a) rows.length rows.length∧rows.length≤9223372036854775807 ∧
   (rows=[]∨(a.spot=none∧¬N a.block∧∃cur e fr,w.heap[a.block]? = some (.cells cur e fr)∧bf st rows (cur.toList.drop a.off)))
def cZ:List PV→List Value→Prop
 |[],vs=>vs=[]
 |p::ps,vs=>∃v r,vs=v::r∧aU p v∧cZ ps r
def fG:List PV→List Value→Prop
 |[],vs=>vs=[]
 |p::ps,vs=>∃v r,vs=v::r∧v.oneCell'=true∧aU p v∧fG ps r
def dM:List PV→List Value→Prop
 |[],_=>True
 |p::ps,vs=>∃v r,vs=v::r∧v.oneCell'=true∧aU p v∧dM ps r
def bf (st:Nat):List (List PV)→List Value→Prop
 |[],_=>True
 |row::rows,vs=>row.length=st∧dM row vs∧bf st rows (vs.drop st)
end
end
theorem size_of_getElem? {α:Type}{a:Array α}{i:Nat}{x:α}(h:a[i]? = some x):i<a.size:=(Array.getElem?_eq_some_iff.1 h).1
section
variable {N N':Nat→Prop}{w w':World}(hN:∀r,r<w.heap.size→N' r→N r)(hw:∀r,r<w.heap.size→¬N r→w'.heap[r]? = w.heap[r]?)
include hN hw
mutual
theorem bN:∀(p:PV) (v:Value),aU N w p v→aU N' w' p v
 |.sc x,v=>by simp only[aU];exact id
 |.agg cs,v=>by simp only[aU];rintro⟨vs,h1,h2⟩;exact⟨vs,h1,AA cs _ h2⟩
 |.fF cs,v=>by simp only[aU];rintro⟨vs,h1,h2⟩;exact⟨vs,h1,mD cs _ h2⟩
 | .sl nn st rows,v=>by
   simp only[aU];rintro⟨p,len,cap,h1,h2,h3,h4,h5⟩
   refine⟨p,len,cap,h1,h2,h3,h4,fun a ha=>?_⟩;rcases h5 a ha with h7|⟨h6,h7,cur,e,fr,h8,h9⟩
   ·exact .inl h7
   have hs:=size_of_getElem? h8;exact .inr ⟨h6,fun h=>h7 (hN _ hs h),cur,e,fr,(hw _ hs h7).trans h8,aN st rows _ h9⟩
 | .bT row off,v=>by
   simp only[aU];rintro⟨g,base,cur,e,fr,h1,h7,h8,h9⟩
   have hs:=size_of_getElem? h8;exact⟨g,base,cur,e,fr,h1,fun h=>h7 (hN _ hs h),(hw _ hs h7).trans h8,bL row _ h9⟩
 | .fn f first aT,v=>by
   simp only[aU];rintro⟨fs,cs,h1,h2,h3⟩;exact⟨fs,cs,h1,mD _ _ h2,mD _ _ h3⟩
 |.junk,v=>by simp only[aU];exact id
 | .Gw st rows,v=>by
   simp only[aU];rintro⟨a,h1,h2,h5⟩
   refine⟨a,h1,h2,?_⟩;rcases h5 with h7|⟨h6,h7,cur,e,fr,h8,h9⟩
   ·exact .inl h7
   have hs:=size_of_getElem? h8;exact .inr ⟨h6,fun h=>h7 (hN _ hs h),cur,e,fr,(hw _ hs h7).trans h8,aN st rows _ h9⟩
theorem mD:∀(ps:List PV) (vs:List Value),cZ N w ps vs→cZ N' w' ps vs
 |[],vs=>by simp only[cZ];exact id
 |p::ps,vs=>by simp only[cZ];rintro⟨v,r,h1,h2,h3⟩;exact⟨v,r,h1,bN p v h2,mD ps r h3⟩
theorem AA:∀(ps:List PV) (vs:List Value),fG N w ps vs→fG N' w' ps vs
 |[],vs=>by simp only[fG];exact id
 |p::ps,vs=>by simp only[fG];rintro⟨v,r,h1,h0,h2,h3⟩;exact⟨v,r,h1,h0,bN p v h2,AA ps r h3⟩
theorem bL:∀(ps:List PV) (vs:List Value),dM N w ps vs→dM N' w' ps vs
 |[],vs=>by simp only[dM];exact id
 |p::ps,vs=>by simp only[dM];rintro⟨v,r,h1,h0,h2,h3⟩;exact⟨v,r,h1,h0,bN p v h2,bL ps r h3⟩
theorem aN (st:Nat):∀(rows:List (List PV)) (vs:List Value),bf N w st rows vs→bf N' w' st rows vs
 |[],vs=>by simp only[bf];exact id
 |row::rows,vs=>by simp only[bf];rintro⟨h1,h2,h3⟩;exact⟨h1,bL row _ h2,aN st rows _ h3⟩
end
end
structure iZ (O:Nat→Prop)(w w':World):Prop where
 size:w.heap.size≤w'.heap.size
 keep:∀r,r<w.heap.size→¬O r→w'.heap[r]? = w.heap[r]?
 os:w'.os=w.os
 tape:w'.tape=w.tape
 output:w'.output=w.output
theorem iZ.refl (O:Nat→Prop)(w:World):iZ O w w:=⟨Nat.le_refl _,fun _ _ _=>rfl,rfl,rfl,rfl⟩
theorem iZ.trans {O O':Nat→Prop}{w w1 w2:World}(h:iZ O w w1)(h':iZ O' w1 w2)(ho:∀r,r<w.heap.size→O' r→O r):iZ O w w2:=
 ⟨Nat.le_trans h.size h'.size,fun r hr hn=>(h'.keep r (Nat.lt_of_lt_of_le hr h.size) fun x=>hn (ho r hr x)).trans (h.keep r hr hn),
  h'.os.trans h.os,h'.tape.trans h.tape,h'.output.trans h.output⟩
theorem iZ.mono {O O':Nat→Prop}{w w1:World}(h:iZ O w w1)(ho:∀r,O r→O' r):iZ O' w w1:=
 ⟨h.size,fun r hr hn=>h.keep r hr fun x=>hn (ho r x),h.os,h.tape,h.output⟩
structure wN (n0:Nat)(Z D:Nat→Prop)(w w':World):Prop where
 size:w.heap.size≤w'.heap.size
 keep:∀r o,w.heap[r]? = some o→¬Z r→(r<n0∨o.isCells=true∨D r)→w'.heap[r]? = some o
 os:w'.os=w.os
 tape:w'.tape=w.tape
 output:w'.output=w.output
theorem wN.refl (n0:Nat)(Z D:Nat→Prop)(w:World):wN n0 Z D w w:=⟨Nat.le_refl _,fun _ _ h _ _=>h,rfl,rfl,rfl⟩
theorem wN.step {n0:Nat}{Z D O:Nat→Prop}{w w1 w2:World}(h:wN n0 Z D w w1)(h':iZ O w1 w2)(ho:∀r,r<w.heap.size→O r→Z r):wN n0 Z D w w2:=
 ⟨Nat.le_trans h.size h'.size,fun r o hr hz hc=>by
   have hlt:=(Array.getElem?_eq_some_iff.1 hr).1;rw[h'.keep r (Nat.lt_of_lt_of_le hlt h.size) fun x=>hz (ho r hlt x)];exact h.keep r o hr hz hc,h'.os.trans h.os,h'.tape.trans h.tape,h'.output.trans h.output⟩
structure YS where
 Z:Nat→Prop
 D:Nat→Prop
 wy:World
 n0:Nat×(List (List PV)→Bool→(Nat→Prop)→(Nat→Prop)→World→Prop)
def YH (y:Program×Nat)(n0:Nat)(J:List (List PV)→Bool→(Nat→Prop)→(Nat→Prop)→World→Prop):Prop:=
 ∀(x:List PV) (rest:List (List PV)) (Z D:Nat→Prop) (wy w:World) (Z':Nat→Prop) (vs:List Value),J (x::rest) false Z D wy→wN n0 Z D wy w→(∀r,D r→r<wy.heap.size) →
  (∀r,Z' r→Z r∨wy.heap.size≤r)→(∀r,Z' r→r<w.heap.size)→(∀r,Z' r→¬D r)→cZ (fun r=>D r∨Z' r) w x vs →
  YieldAt Fence.wide 0 y.1 y.2 vs.toArray w fun e w'=>∃(D':Nat→Prop) (b:Bool),e=.returned (.bool b)∧iZ D w w'∧(∀r,D' r→D r∨w.heap.size≤r)∧(∀r,D' r→r<w'.heap.size)∧J rest (!b) Z' D' w'
structure Real where
 blk:Nat→Nat
 nil:Nat→Bool
 cap:Nat→Nat×List (Option Value)
 Y:YS
def bA (R:Real)(b n:Nat):Value:=if R.nil b then .slice none 0 0 else .slice (some ⟨R.blk b,0,none⟩) n (R.cap b).1
def bJ (row:List AV):Nat:=
 match row with
 |[]=>0
 |_::_=>1
theorem sj {row row':List AV}(h:row'.length=row.length):bJ row'=bJ row:=by
 cases row<;>cases row'<;>first|rfl|(simp at h)
def aI (R:Real)(b off:Nat)(v:Value):Option av→Prop
 |some (.var _)=>v=.pointer (some ⟨R.blk b,off,none⟩)
 |some (.ny _)=>v=.pointer (some ⟨R.blk b,off,none⟩)
 |_=>False
def aD (R:Real)(b ver:Nat)(v:Value):Option av→Prop
 |some (.arr _ dh _ rows)=>ver≤dh∧v.oneCell'=true∧(ver=dh→v=bA R b rows.length)
 |some (.bX dh _ rows)=>ver≤dh∧v.oneCell'=true∧(ver=dh→v=bA R b rows.length)
 |some (.bR _ dh _ _ _ _ pre row post)=>ver≤dh∧v.oneCell'=true∧(ver=dh→v=bA R b (pre.length+(bJ row+post.length)))
 |some (.dL _ dh _ pre _ post)=>ver≤dh∧v.oneCell'=true∧(ver=dh→v=bA R b (pre.length+(1+post.length)))
 |_=>False
def aK (R:Real)(b ver i off:Nat)(v:Value):Option av→Prop
 |some (.arr _ dh st _)=>ver≤dh∧v.oneCell'=true∧(ver=dh→R.nil b=false∧v=.pointer (some ⟨R.blk b,i*st+off,none⟩))
 |some (.bX dh st _)=>ver≤dh∧v.oneCell'=true∧(ver=dh→R.nil b=false∧v=.pointer (some ⟨R.blk b,i*st+off,none⟩))
 |some (.bR _ dh st _ _ _ _ _ _)=>ver≤dh∧v.oneCell'=true∧(ver=dh→R.nil b=false∧v=.pointer (some ⟨R.blk b,i*st+off,none⟩))
 |some (.dL _ dh st _ _ _)=>ver≤dh∧v.oneCell'=true∧(ver=dh→R.nil b=false∧v=.pointer (some ⟨R.blk b,i*st+off,none⟩))
 |some (.mp _ _ _)=>0≤ver∧v.oneCell'=true∧v=.map (some (R.blk b))
 |some (.tr _ dh _ st)=>ver≤dh∧v.oneCell'=true∧(ver=dh→st=none→v=.bool (R.nil b != Nat.beq off 1))
 |_=>False
def gK (st lo hi:Nat):Value→Value
 |.slice (some a) _ cap=>.slice (some (if cap=lo then a else a.add (lo*st))) (hi-lo) (cap-lo)
 |_=>.slice none 0 0
def kG (lo hi:Nat):Value→Prop
 |.slice _ n _=>lo≤hi∧hi≤n
 |_=>False
theorem Mj (st lo hi:Nat)(u:Value):(gK st lo hi u).oneCell'=true:=by
 unfold gK;split<;>rfl
section
variable (N:Nat→Prop)(w:World)(hp:List (Nat×av))(R:Real)
mutual
def ah:AV→Value→Prop
 |.pv p,v=>aU N w p v
 |.agg cs,v=>∃vs:Array Value,v=.agg vs∧bq cs vs.toList
 |.fF cs,v=>∃vs:Array Value,v=.tuple vs∧bB cs vs.toList
 |.ptr b off,v=>aI R b off v (lk hp b)
 |.aG b ver,v=>aD R b ver v (lk hp b)
 |.sub b ver st lo hi,v=>∃u,aD R b ver u (lk hp b)∧kG lo hi u∧v=gK st lo hi u
 |.cB b ver i off,v=>aK R b ver i off v (lk hp b)
 |.fn f first aT,v=>∃fs cs:Array Value,v=.func f fs cs∧bB first fs.toList∧bB aT cs.toList
def bB:List AV→List Value→Prop
 |[],vs=>vs=[]
 |p::ps,vs=>∃v r,vs=v::r∧ah p v∧bB ps r
def bq:List AV→List Value→Prop
 |[],vs=>vs=[]
 |p::ps,vs=>∃v r,vs=v::r∧v.oneCell'=true∧ah p v∧bq ps r
end
end
section
variable {N N':Nat→Prop}{w w':World}{hp hp':List (Nat×av)}{R R':Real}
variable (hN:∀r,r<w.heap.size→N' r→N r)(hw:∀r,r<w.heap.size→¬N r→w'.heap[r]? = w.heap[r]?)
variable (h1:∀b off v,aI R b off v (lk hp b)→aI R' b off v (lk hp' b))
variable (h2:∀b ver v,aD R b ver v (lk hp b)→aD R' b ver v (lk hp' b))
variable (h3:∀b ver i off v,aK R b ver i off v (lk hp b)→aK R' b ver i off v (lk hp' b))
include hN hw h1 h2 h3
mutual
theorem bF:∀(p:AV) (v:Value),ah N w hp R p v→ah N' w' hp' R' p v
 |.pv p,v=>by simp only[ah];exact bN hN hw p v
 |.agg cs,v=>by simp only[ah];rintro⟨vs,a,b⟩;exact⟨vs,a,bg cs _ b⟩
 |.fF cs,v=>by simp only[ah];rintro⟨vs,a,b⟩;exact⟨vs,a,kH cs _ b⟩
 |.ptr b off,v=>by simp only[ah];exact h1 b off v
 |.aG b ver,v=>by simp only[ah];exact h2 b ver v
 |.sub b ver st lo hi,v=>by simp only[ah];rintro⟨u,a,c⟩;exact⟨u,h2 b ver u a,c⟩
 |.cB b ver i off,v=>by simp only[ah];exact h3 b ver i off v
 | .fn f first aT,v=>by
   simp only[ah];rintro⟨fs,cs,a,b,c⟩;exact⟨fs,cs,a,kH _ _ b,kH _ _ c⟩
theorem kH:∀(ps:List AV) (vs:List Value),bB N w hp R ps vs→bB N' w' hp' R' ps vs
 |[],vs=>by simp only[bB];exact id
 |p::ps,vs=>by simp only[bB];rintro⟨v,r,a,b,c⟩;exact⟨v,r,a,bF p v b,kH ps r c⟩
theorem bg:∀(ps:List AV) (vs:List Value),bq N w hp R ps vs→bq N' w' hp' R' ps vs
 |[],vs=>by simp only[bq];exact id
 |p::ps,vs=>by simp only[bq];rintro⟨v,r,a,d,b,c⟩;exact⟨v,r,a,d,bF p v b,bg ps r c⟩
end
end
def ax (R:Real)(b r:Nat):Option av→Prop
 |some (.var _)=>R.blk b=r
 |some (.arr _ _ _ _)=>R.nil b=false∧R.blk b=r
 |some (.tr _ _ _ _)=>R.Y.D r
 |some (.dL _ _ _ _ _ _)=>R.nil b=false∧R.blk b=r
 |some (.mp _ _ _)=>R.nil b=false∧R.blk b=r
 |some (.bR _ _ _ _ _ _ _ _ _)=>(R.nil b=false∧R.blk b=r)∨∃v,some v∈(R.cap b).2∧v.ownBlock=some r
 |_=>False
def owned (R:Real)(hp:List (Nat×av))(r:Nat):Prop:=∃b,ax R b r (lk hp b)
def bS (N:Nat→Prop)(w:World)(st j:Nat)(ed:TypeId)(sd:Nat):List (Option Value)→List (Bool×List PV)→List Value→Prop
 |[],[],_=>True
 | h::hs,(fl,r)::rs,xs=>r.length=st∧(match h,fl with
   |none,false=>dM N w r xs
   |some v,true=>∃rr ys,r[j]? = some (.sl false sd rr)∧v.oneCell'=true∧dM N w (r.set j (.sc v)) xs∧w.ownsRow 0 ed sd v rr.length ys∧bf N w sd rr ys
   |_,_=>False)∧bS N w st j ed sd hs rs (xs.drop st)
 |_,_,_=>False
def wO (R:Real)(b:Nat):Prop:=
 ((R.cap b).2.filterMap fun h=>h.bind Value.ownBlock).Nodup∧∀v r,some v∈(R.cap b).2→v.ownBlock=some r→R.nil b=false→R.blk b≠r
def dm (N:Nat→Prop)(w:World)(hp:List (Nat×av))(R:Real)(b:Nat):av→Prop
 |.var cells=>∃cur e,w.heap[R.blk b]? = some (.cells cur e (0,0))∧bq N w hp R cells cur.toList
 |.ny cells=>∃cur e fr,w.heap[R.blk b]? = some (.cells cur e fr)∧¬N (R.blk b)∧dM N w cells cur.toList
 |.arr e _ st rows=>∃xs,w.ownsRow 0 e st (bA R b rows.length) rows.length xs∧bf N w st rows xs
 |.bX _ st rows=>aU N w (.sl false st rows) (bA R b rows.length)
 |.tr y _ rest st=>b=999∧YH y R.Y.n0.1 R.Y.n0.2∧R.Y.n0.2 rest (st.getD (!R.nil b)) R.Y.Z R.Y.D R.Y.wy∧wN R.Y.n0.1 R.Y.Z R.Y.D R.Y.wy w∧(∀r,R.Y.D r→r<R.Y.wy.heap.size)∧∀r,N r→R.Y.D r∨R.Y.Z r∨R.Y.wy.heap.size≤r
 |.dL e _ st pre row post=>∃xs,w.ownsRow 0 e st (bA R b (pre.length+(1+post.length))) (pre.length+(1+post.length)) xs∧bf N w st pre xs∧row.length=st∧bq N w hp R row ((xs.drop (pre.length*st)).take st)∧bf N w st post ((xs.drop (pre.length*st)).drop st)
 |.mp kk kv es=>∃(cur:Array MapEntry) (clock:Nat),w.heap[R.blk b]? = some (.map cur clock)∧R.nil b=false∧cur.toList.map (fun e=>(e.key,e.val))=es.map fun e=>(.int kk e.1,.int kv e.2)
 | .bR e _ st j ed sd pre row post=>∃xs hs1 hs2,(R.cap b).2=hs1++hs2∧w.ownsRow 0 e st (bA R b (pre.length+(bJ row+post.length))) (pre.length+(bJ row+post.length)) xs∧bS N w st j ed sd hs1 pre xs∧row.length=bJ row*st ∧
   bq N w hp R row ((xs.drop (pre.length*st)).take (bJ row*st))∧bS N w st j ed sd hs2 post ((xs.drop (pre.length*st)).drop (bJ row*st))∧wO R b
def fQ:AV→Bool
 |.ptr b _=>Nat.blt b 1000
 |.cB b _ _ _=>Nat.blt b 1000 && !Nat.beq b 999
 |.aG b _=>Nat.blt b 1000
 |_=>false
structure Ctx where
 F:Nat→Prop
 O:Nat→Prop
 w:World
 n:Nat
 hF:∀r,F r→r<w.heap.size
 K:AV→Value→Prop
 hK:∀v x,K v x→fQ v=true
 /-- XC that are no cells,and stay -/
 fix:Nat→Option Obj
 /-- the X8 size when the xJ call Z6;when this call did -/
 n0:Nat×(List (List PV)→Bool→(Nat→Prop)→(Nat→Prop)→World→Prop)
 lo:Nat
def aH (c:Ctx)(R:Real)(hp:List (Nat×av))(r:Nat):Prop:=c.F r∨owned R hp r
def mark (D:Nat):Deferred:={ target:=.collected D,args:=#[] }
structure Marks (lo:Nat)(own:Nat→Prop)(w:World)(ds:List Deferred)(Ds:List Nat):Prop where
 low:∀D∈Ds,lo≤D
 eq:ds=Ds.map mark
 nodup:Ds.Nodup
 obj:∀D∈Ds,w.heap[D]? = some (.deferred (some []))
 free:∀D∈Ds,¬own D
structure ou (fix:Nat→Option Obj)(own:Nat→Prop)(w:World):Prop where
 obj:∀r o,fix r=some o→w.heap[r]? = some o
 free:∀r o,fix r=some o→¬own r
 nc:∀r o,fix r=some o→o.isCells=false
theorem Marks.kept {lo:Nat}{own Ml:Nat→Prop}{w w':World}{ds:List Deferred}{Ds:List Nat}(h:Marks lo own w ds Ds)(hw:∀r,r<w.heap.size→¬own r→w'.heap[r]? = w.heap[r]?)
  (ho:∀r,r<w.heap.size→Ml r→own r):Marks lo Ml w' ds Ds:=
 ⟨h.low,h.eq,h.nodup,fun D hD=>(hw D (size_of_getElem? (h.obj D hD)) (h.free D hD)).trans (h.obj D hD),fun D hD x=>h.free D hD (ho D (size_of_getElem? (h.obj D hD)) x)⟩
theorem ou.kept {fix:Nat→Option Obj}{own Ml:Nat→Prop}{w w':World}(h:ou fix own w)(hw:∀r,r<w.heap.size→¬own r→w'.heap[r]? = w.heap[r]?)
  (ho:∀r,r<w.heap.size→Ml r→own r):ou fix Ml w':=
 ⟨fun r o hr=>(hw r (size_of_getElem? (h.obj r o hr)) (h.free r o hr)).trans (h.obj r o hr),fun r o hr x=>h.free r o hr (ho r (size_of_getElem? (h.obj r o hr)) x),h.nc⟩
theorem ou.none {own:Nat→Prop}{w:World}:ou (fun _=>none) own w:=⟨fun _ _ h=>by simp at h,fun _ _ h=>by simp at h,fun _ _ h=>by simp at h⟩
theorem Marks.nil {lo:Nat}{own:Nat→Prop}{w:World}:Marks lo own w [] []:=⟨by simp,rfl,List.nodup_nil,by simp,by simp⟩
structure aR (c:Ctx)(R:Real)(s:AS)(a:Act)(w:World):Prop where
 slots:∀t v,lk s.tm t=some v→∃x,a.tmps[t]? = some x∧ah (aH c R s.hp) w s.hp R v x
 size:a.tmps.size=c.n
 lo:R.Y.n0=c.n0∧c.n0.1≤c.lo∧c.lo≤w.heap.size
 marks:∃Ds,Marks c.lo (owned R s.hp) w a.defers Ds
 fixed:ou c.fix (owned R s.hp) w
 boxes:∀b box,lk s.hp b=some box→dm (aH c R s.hp) w s.hp R b box
 inj:∀b b' r,ax R b r (lk s.hp b)→ax R b' r (lk s.hp b')→b=b'
 free:∀r,owned R s.hp r→¬c.F r
 gq:iZ c.O c.w w
 eG:∀r,owned R s.hp r→c.O r∨c.w.heap.size≤r
 kept:∀v x,c.K v x→ah (aH c R s.hp) w s.hp R v x
theorem gF {R R':Real}{b n:Nat}(h:R'.blk b=R.blk b∧R'.nil b=R.nil b∧R'.cap b=R.cap b):bA R' b n=bA R b n:=by
 simp only[bA,h.1,h.2.1,h.2.2]
theorem eP {R R':Real}{b:Nat}(h:R'.blk b=R.blk b∧R'.nil b=R.nil b∧R'.cap b=R.cap b){off:Nat}{v:Value}{o:Option av}
  (x:aI R b off v o):aI R' b off v o:=by
 cases o with
 |none=>exact x
 |some o=>cases o<;>simp only[aI,h.1] at x ⊢ <;> exact x
theorem fM {R R':Real}{b:Nat}(h:R'.blk b=R.blk b∧R'.nil b=R.nil b∧R'.cap b=R.cap b){ver:Nat}{v:Value}{o:Option av}
  (x:aD R b ver v o):aD R' b ver v o:=by
 cases o with
 |none=>exact x
 |some o=>cases o<;>simp only[aD,gF h] at x ⊢ <;> exact x
theorem fO {R R':Real}{b:Nat}(h:R'.blk b=R.blk b∧R'.nil b=R.nil b∧R'.cap b=R.cap b){ver i off:Nat}{v:Value}{o:Option av}
  (x:aK R b ver i off v o):aK R' b ver i off v o:=by
 cases o with
 |none=>exact x
 |some o=>cases o<;>simp only[aK,h.1,h.2.1] at x ⊢ <;> exact x
theorem bU {R R':Real}{b:Nat}(h:R'.blk b=R.blk b∧R'.nil b=R.nil b∧R'.cap b=R.cap b)(hY:R'.Y=R.Y){r:Nat}{o:Option av}
  (x:ax R' b r o):ax R b r o:=by
 cases o with
 |none=>exact x
 |some o=>cases o<;>simp only[ax,h.1,h.2.1,h.2.2,hY] at x ⊢ <;> exact x
theorem bV {w w':World}{base e size:Nat}{v:Value}{n:Nat}{xs:List Value}(h:w.ownsRow base e size v n xs)
  (hk:∀k,v.ownBlock=some k→w'.heap[k]? = w.heap[k]?):w'.ownsRow base e size v n xs:=by
 refine⟨h.1,?_⟩;rcases h.2 with hn|⟨g,cap,cur,rfl,hb,hg,rest⟩
 ·exact .inl hn
 exact .inr ⟨g,cap,cur,rfl,hb,(hk g rfl).trans hg,rest⟩
theorem ic {N N':Nat→Prop}{w w':World}(hN:∀r,r<w.heap.size→N' r→N r)(hw:∀r,r<w.heap.size→¬N r→w'.heap[r]? = w.heap[r]?){st j:Nat}{ed:TypeId}{sd:Nat} :
  ∀{hs:List (Option Value)} {rs:List (Bool×List PV)} {xs:List Value},(∀v,some v∈hs→∀k,v.ownBlock=some k→w'.heap[k]? = w.heap[k]?)→bS N w st j ed sd hs rs xs→bS N' w' st j ed sd hs rs xs
 |[],[],xs,_,h=>by simp only[bS]
 |[],_::_,xs,_,h=>by simp only[bS] at h
 |_::_,[],xs,_,h=>by simp only[bS] at h
 | h::hs,(fl,r)::rs,xs,hk,hh=>by
   simp only[bS] at hh ⊢;obtain⟨h1,h2,h3⟩:=hh;refine⟨h1,?_,ic hN hw (fun v hv=>hk v (by simp[hv])) h3⟩;cases h with
   | none=>cases fl with
     |false=>exact bL hN hw _ _ h2
     |true=>exact h2.elim
   | some v=>cases fl with
     |false=>exact h2.elim
     | true=>
       obtain⟨rr,ys,a1,a0,a2,a3,a4⟩:=h2;exact⟨rr,ys,a1,a0,bL hN hw _ _ a2,bV a3 fun k hk'=>hk v (by simp) k hk',aN hN hw _ _ _ a4⟩
theorem Ia {R R':Real}{b b':Nat}(h1:R'.blk b'=R.blk b)(h2:R'.nil b'=R.nil b)(h3:R'.cap b'=R.cap b)(h:wO R b):wO R' b':=by
 unfold wO at h ⊢;rw[h1,h2,h3];exact h
theorem gQ {N N':Nat→Prop}{w w':World}{hp hp':List (Nat×av)}{R R':Real}{b b':Nat}(hN:∀r,r<w.heap.size→N' r→N r)(hw:∀r,r<w.heap.size→¬N r→w'.heap[r]? = w.heap[r]?)
  (h1:R'.blk b'=R.blk b) (h2:R'.nil b'=R.nil b) (h3:R'.cap b'=R.cap b) {e:TypeId} {ver dh st j:Nat} {ed:TypeId} {sd:Nat} {pre post:List (Bool×List PV)} {row row':List AV}
  (hk:∀k,ax R b k (some (.bR e ver st j ed sd pre row post))→w'.heap[k]? = w.heap[k]?) (hl:row'.length=row.length) (hrow:∀vs,bq N w hp R row vs→bq N' w' hp' R' row' vs)
  (h:dm N w hp R b (.bR e ver st j ed sd pre row post)):dm N' w' hp' R' b' (.bR e dh st j ed sd pre row' post):=by
 obtain⟨xs,hs1,hs2,a1,a2,a3,a4,a5,a6,a7⟩:=h;have hO:=sj hl;simp only[dm,hO,hl];refine⟨xs,hs1,hs2,by rw[h3];exact a1,?_,ic hN hw (fun v hv k hk'=>hk k (.inr ⟨v,by rw[a1];simp[hv],hk'⟩)) a3,a4,hrow _ a5,ic hN hw (fun v hv k hk'=>hk k (.inr ⟨v,by rw[a1];simp[hv],hk'⟩)) a6,Ia h1 h2 h3 a7⟩;rw[show bA R' b' (pre.length+(bJ row+post.length))=bA R b (pre.length+(bJ row+post.length)) by simp only[bA,h1,h2,h3]];refine bV a2 fun k hk'=>hk k (.inl ?_)
 simp only[bA] at hk';cases hnil:R.nil b with
 |true=>simp[hnil,Value.ownBlock] at hk'
 |false=>simp[hnil,Value.ownBlock] at hk';exact⟨rfl,hk'⟩
theorem CQ {N:Nat→Prop}{w:World}{st j:Nat}{ed:TypeId}{sd:Nat}:∀{hs:List (Option Value)} {rs:List (Bool×List PV)} {xs:List Value},bS N w st j ed sd hs rs xs→∀v,some v∈hs→∀r,v.ownBlock=some r→r<w.heap.size
 |[],_,_,_,v,hv=>by simp at hv
 |_::_,[],xs,h,_,_=>by simp only[bS] at h
 | h::hs,(fl,r)::rs,xs,hh,v,hv=>by
   intro k hk;simp only[bS] at hh;obtain⟨h1,h2,h3⟩:=hh;rcases List.mem_cons.1 hv with e|hv
   ·subst e;cases fl with
    |false=>exact h2.elim
    | true=>
      obtain⟨rr,ys,a1,a0,a2,a3,a4⟩:=h2;exact (a3.lt k hk).2
   exact CQ h3 v hv k hk
theorem iB {N:Nat→Prop}{w:World}{hp:List (Nat×av)}{R:Real}{b r:Nat}{box:av}(hr:dm N w hp R b box)(ho:ax R b r (some box)) :
  r<w.heap.size:=by
 cases box with
 | var cells=>
   obtain⟨cur,e,h,_⟩:=hr;simp only[ax] at ho;exact ho▸size_of_getElem? h
 |ny cells=>exact ho.elim
 | arr e ver st rows=>
   obtain⟨xs,h,_⟩:=hr;simp only[ax] at ho;exact (h.lt r (by simp[bA,ho.1,ho.2,Value.ownBlock])).2
 |bX ver st rows=>exact ho.elim
 | tr y ver rest st=>
   obtain⟨_,_,_,h2,h3,_⟩:=hr;exact Nat.lt_of_lt_of_le (h3 r ho) h2.size
 | mp kk kv es=>
   obtain⟨cur,clock,h,_⟩:=hr;simp only[ax] at ho;exact ho.2▸size_of_getElem? h
 | bR e ver st j ed sd pre row post=>
   obtain⟨xs,hs1,hs2,a1,a2,a3,a4,a5,a6,a7⟩:=hr;simp only[ax] at ho;rcases ho with ho|⟨v,hv,hr⟩
   ·exact (a2.lt r (by simp[bA,ho.1,ho.2,Value.ownBlock])).2
   rw[a1] at hv;rcases List.mem_append.1 hv with hv|hv
   ·exact CQ a3 v hv r hr
   exact CQ a6 v hv r hr
 | dL e ver st pre row post=>
   obtain⟨xs,h,_⟩:=hr;simp only[ax] at ho;exact (h.lt r (by simp[bA,ho.1,ho.2,Value.ownBlock])).2
theorem aR.iB {c:Ctx}{R:Real}{s:AS}{a:Act}{w:World}(g:aR c R s a w){b r:Nat}(ho:ax R b r (lk s.hp b)):r<w.heap.size:=by
 cases h:lk s.hp b with
 |none=>rw[h] at ho;exact ho.elim
 |some box=>rw[h] at ho;exact AX.iB (g.boxes b box h) ho
theorem aR.UD {c:Ctx}{R:Real}{s:AS}{a:Act}{w:World}(g:aR c R s a w){r:Nat}(h:aH c R s.hp r):r<w.heap.size:=by
 rcases h with h|⟨b,h⟩
 ·exact Nat.lt_of_lt_of_le (c.hF r h) g.gq.size
 exact g.iB h
theorem aR.zS {c:Ctx}{R:Real}{s:AS}{a:Act}{w:World}(g:aR c R s a w){R':Real}{w':World}{b:Nat}{aV:av}
  (hR:∀b',b'≠b→R'.blk b'=R.blk b'∧R'.nil b'=R.nil b'∧R'.cap b'=R.cap b')
  (r1:∀off v,aI R b off v (lk s.hp b)→aI R' b off v (some aV))
  (r2:∀ver v,aD R b ver v (lk s.hp b)→aD R' b ver v (some aV))
  (r3:∀ver i off v,aK R b ver i off v (lk s.hp b)→aK R' b ver i off v (some aV))
  (hown:∀r,ax R' b r (some aV)→ax R b r (lk s.hp b)∨w.heap.size≤r)
  (hworld:iZ (fun r=>ax R b r (lk s.hp b)) w w') (hY:R'.Y=R.Y:=by rfl) :
  (∀r,r<w.heap.size→aH c R' ((b,aV)::s.hp) r→aH c R s.hp r)∧(∀r,r<w.heap.size→¬aH c R s.hp r→w'.heap[r]? = w.heap[r]?) ∧
  (∀b' off v,aI R b' off v (lk s.hp b')→aI R' b' off v (lk ((b,aV)::s.hp) b')) ∧
  (∀b' ver v,aD R b' ver v (lk s.hp b')→aD R' b' ver v (lk ((b,aV)::s.hp) b')) ∧
  (∀b' ver i off v,aK R b' ver i off v (lk s.hp b')→aK R' b' ver i off v (lk ((b,aV)::s.hp) b')):=by
 have oF:lk ((b,aV)::s.hp) b=some aV:=by rw[aj,if_pos rfl]
 have nN:∀b',b'≠b→lk ((b,aV)::s.hp) b'=lk s.hp b':=fun b' h=>by rw[aj,if_neg (fun e=>h e.symm)]
 refine⟨?_,?_,?_,?_,?_⟩
 ·rintro r hr (h|⟨b',h⟩)
  ·exact .inl h
  by_cases e:b'=b
  ·subst e;rw[oF] at h;exact .inr ⟨b',(hown r h).resolve_right (by omega)⟩
  rw[nN b' e] at h;exact .inr ⟨b',bU (hR b' e) hY h⟩
 ·exact fun r hr hn=>hworld.keep r hr fun x=>hn (.inr ⟨b,x⟩)
 ·intro b' off v h;by_cases e:b'=b
  ·subst e;rw[oF];exact r1 off v h
  rw[nN b' e];exact eP (hR b' e) h
 ·intro b' ver v h;by_cases e:b'=b
  ·subst e;rw[oF];exact r2 ver v h
  rw[nN b' e];exact fM (hR b' e) h
 intro b' ver i off v h;by_cases e:b'=b
 ·subst e;rw[oF];exact r3 ver i off v h
 rw[nN b' e];exact fO (hR b' e) h
theorem aR.upd {c:Ctx}{R:Real}{s:AS}{a:Act}{w:World}(g:aR c R s a w){R':Real}{w':World}{b:Nat}{aV:av}{nx':Nat}
  (hR:∀b',b'≠b→R'.blk b'=R.blk b'∧R'.nil b'=R.nil b'∧R'.cap b'=R.cap b')
  (r1:∀off v,aI R b off v (lk s.hp b)→aI R' b off v (some aV))
  (r2:∀ver v,aD R b ver v (lk s.hp b)→aD R' b ver v (some aV))
  (r3:∀ver i off v,aK R b ver i off v (lk s.hp b)→aK R' b ver i off v (some aV))
  (hown:∀r,ax R' b r (some aV)→ax R b r (lk s.hp b)∨w.heap.size≤r)
  (hworld:iZ (fun r=>ax R b r (lk s.hp b)) w w')
  (yE:dm (aH c R' ((b,aV)::s.hp)) w' ((b,aV)::s.hp) R' b aV) (hY:R'.Y=R.Y:=by rfl) :
  aR c R' ⟨s.tm,nx',(b,aV)::s.hp⟩ a w':=by
 have oF:lk ((b,aV)::s.hp) b=some aV:=by rw[aj,if_pos rfl]
 have nN:∀b',b'≠b→lk ((b,aV)::s.hp) b'=lk s.hp b':=fun b' h=>by rw[aj,if_neg (fun e=>h e.symm)]
 have CR:∀r,owned R' ((b,aV)::s.hp) r→owned R s.hp r∨w.heap.size≤r:=by
  rintro r ⟨b',h⟩
  by_cases e:b'=b
  ·subst e;rw[oF] at h;exact (hown r h).imp (fun x=>⟨b',x⟩) id
  rw[nN b' e] at h;exact .inl ⟨b',bU (hR b' e) hY h⟩
 have hN:∀r,r<w.heap.size→aH c R' ((b,aV)::s.hp) r→aH c R s.hp r:=by
  rintro r hr (h|h)
  ·exact .inl h
  exact .inr ((CR r h).resolve_right (by omega))
 have hw:∀r,r<w.heap.size→¬aH c R s.hp r→w'.heap[r]? = w.heap[r]? :=fun r hr hn=>hworld.keep r hr fun x=>hn (.inr ⟨b,x⟩)
 have p1:∀b' off v,aI R b' off v (lk s.hp b')→aI R' b' off v (lk ((b,aV)::s.hp) b'):=fun b' off v h=>by
  by_cases e:b'=b
  ·subst e;rw[oF];exact r1 off v h
  rw[nN b' e];exact eP (hR b' e) h
 have p2:∀b' ver v,aD R b' ver v (lk s.hp b')→aD R' b' ver v (lk ((b,aV)::s.hp) b'):=fun b' ver v h=>by
  by_cases e:b'=b
  ·subst e;rw[oF];exact r2 ver v h
  rw[nN b' e];exact fM (hR b' e) h
 have p3:∀b' ver i off v,aK R b' ver i off v (lk s.hp b')→aK R' b' ver i off v (lk ((b,aV)::s.hp) b'):=fun b' ver i off v h=>by
  by_cases e:b'=b
  ·subst e;rw[oF];exact r3 ver i off v h
  rw[nN b' e];exact fO (hR b' e) h
 have hwo:∀r,r<w.heap.size→¬owned R s.hp r→w'.heap[r]? = w.heap[r]? :=fun r hr hn=>hworld.keep r hr fun x=>hn ⟨b,x⟩
 have Vo:∀r,r<w.heap.size→owned R' ((b,aV)::s.hp) r→owned R s.hp r:=fun r hr h=>(CR r h).resolve_right (by omega)
 refine⟨?_,g.size,⟨by rw[hY];exact g.lo.1,g.lo.2.1,Nat.le_trans g.lo.2.2 hworld.size⟩,g.marks.imp fun Ds h=>h.kept hwo Vo,g.fixed.kept hwo Vo,?_,?_,?_,?_,?_,fun v x h=>bF hN hw p1 p2 p3 v x (g.kept v x h)⟩
 ·intro t v h;obtain⟨x,hx,hv⟩:=g.slots t v h;exact⟨x,hx,bF hN hw p1 p2 p3 v x hv⟩
 ·intro b' box h;by_cases e:b'=b
  ·subst e;simp only[oF,Option.some.injEq] at h;subst h;exact yE
  simp only[nN b' e] at h;have hr:=g.boxes b' box h;have hRb:=hR b' e;have hkeep:∀r,ax R b' r (lk s.hp b')→w'.heap[r]? = w.heap[r]? :=fun r ho=>
   hworld.keep r (g.iB ho) fun x=>e (g.inj b' b r ho x)
  rw[h] at hkeep;cases box with
  | var cells=>
    obtain⟨cur,e',h8,h9⟩:=hr;refine⟨cur,e',?_,bg hN hw p1 p2 p3 _ _ h9⟩;rw[hRb.1,hkeep _ rfl];exact h8
  | ny cells=>
    obtain⟨cur,e',fr,h8,h7,h9⟩:=hr;have hs:=size_of_getElem? h8;refine⟨cur,e',fr,?_,?_,bL hN hw _ _ h9⟩
    ·rw[hRb.1,hw _ hs h7];exact h8
    rw[hRb.1];exact fun x=>h7 (hN _ hs x)
  | arr e' ver st rows=>
    obtain⟨xs,h8,h9⟩:=hr;refine⟨xs,?_,aN hN hw _ _ _ h9⟩;rw[gF hRb];refine bV h8 fun k hk=>hkeep k ?_
    simp only[bA] at hk;cases hnil:R.nil b' with
    |true=>simp[hnil,Value.ownBlock] at hk
    |false=>simp[hnil,Value.ownBlock] at hk;exact⟨hnil,hk⟩
  | bX ver st rows=>
    simp only[dm,gF hRb] at hr ⊢;exact bN hN hw _ _ hr
  | tr y ver rest st=>
    obtain⟨k0,kh,k1,k2,k3,k4⟩:=hr;simp only[dm,hY,hRb.2.1];refine⟨k0,kh,k1,k2.step hworld fun r hr ho=>?_,k3,fun r hn=>?_⟩
    ·rcases k4 r (.inr ⟨b,ho⟩) with hd|hz|hs
     ·exact absurd (g.inj b' b r (by rw[h];exact hd) ho) e
     ·exact hz
     omega
    by_cases hlt:r<w.heap.size
    ·exact k4 r (hN r hlt hn)
    exact .inr (.inr (by have:=k2.size;omega))
  |bR e' ver st j ed sd pre row post=>exact gQ hN hw hRb.1 hRb.2.1 hRb.2.2 (fun k hk=>hkeep k hk) rfl (fun vs h=>bg hN hw p1 p2 p3 _ _ h) hr
  | mp kk kv es=>
    obtain⟨cur,clock,h8,h9,h10⟩:=hr;exact⟨cur,clock,by rw[hRb.1,hkeep _ ⟨h9,rfl⟩];exact h8,by rw[hRb.2.1];exact h9,h10⟩
  | dL e' ver st pre row post=>
    obtain⟨xs,h8,h9,h10,h11,h12⟩:=hr;refine⟨xs,?_,aN hN hw _ _ _ h9,h10,bg hN hw p1 p2 p3 _ _ h11,aN hN hw _ _ _ h12⟩;rw[gF hRb];refine bV h8 fun k hk=>hkeep k ?_
    simp only[bA] at hk;cases hnil:R.nil b' with
    |true=>simp[hnil,Value.ownBlock] at hk
    |false=>simp[hnil,Value.ownBlock] at hk;exact⟨hnil,hk⟩
 ·intro b1 b2 r h1 h2;by_cases e1:b1=b
  ·by_cases e2:b2=b
   ·rw[e1,e2]
   subst e1;simp only[oF,nN b2 e2] at h1 h2;have h2':=bU (hR b2 e2) hY h2;have hlt:=g.iB h2';exact g.inj _ _ r ((hown r h1).resolve_right (by omega)) h2'
  by_cases e2:b2=b
  ·subst e2;simp only[oF,nN b1 e1] at h1 h2;have h1':=bU (hR b1 e1) hY h1;have hlt:=g.iB h1';exact g.inj _ _ r h1' ((hown r h2).resolve_right (by omega))
  simp only[nN b1 e1,nN b2 e2] at h1 h2;exact g.inj _ _ r (bU (hR b1 e1) hY h1) (bU (hR b2 e2) hY h2)
 ·intro r h hF;rcases CR r h with h|h
  ·exact g.free r h hF
  have:=c.hF r hF;have:=g.gq.size;omega
 ·refine g.gq.trans hworld fun r hr ho=>?_
  exact (g.eG r ⟨b,ho⟩).resolve_right (by omega)
 intro r h;rcases CR r h with h|h
 ·exact g.eG r h
 exact .inr (Nat.le_trans g.gq.size h)
theorem aR.grow {c:Ctx}{R:Real}{s:AS}{a:Act}{w w':World}(g:aR c R s a w)(h:iZ (fun _=>False) w w'):aR c R s a w':=by
 have hk:∀r,r<w.heap.size→w'.heap[r]? = w.heap[r]? :=fun r hr=>h.keep r hr id
 refine⟨?_,g.size,⟨g.lo.1,g.lo.2.1,Nat.le_trans g.lo.2.2 h.size⟩,g.marks.imp fun Ds h'=>h'.kept (fun r hr _=>hk r hr) (fun _ _ x=>x),g.fixed.kept (fun r hr _=>hk r hr) (fun _ _ x=>x),?_,g.inj,g.free,g.gq.trans h fun _ _ x=>x.elim,g.eG,
  fun v x hv=>bF (fun _ _ x=>x) (fun r hr _=>hk r hr) (fun _ _ _ x=>x) (fun _ _ _ x=>x) (fun _ _ _ _ _ x=>x) v x (g.kept v x hv)⟩
 ·intro t v ht;obtain⟨x,hx,hv⟩:=g.slots t v ht;exact⟨x,hx,bF (fun _ _ x=>x) (fun r hr _=>hk r hr) (fun _ _ _ x=>x) (fun _ _ _ x=>x) (fun _ _ _ _ _ x=>x) v x hv⟩
 intro b box hb;have hr:=g.boxes b box hb;cases box with
 | var cells=>
   obtain⟨cur,e',h8,h9⟩:=hr;exact⟨cur,e',(hk _ (size_of_getElem? h8)).trans h8,bg (fun _ _ x=>x) (fun r hr _=>hk r hr) (fun _ _ _ x=>x) (fun _ _ _ x=>x) (fun _ _ _ _ _ x=>x) _ _ h9⟩
 | ny cells=>
   obtain⟨cur,e',fr,h8,h7,h9⟩:=hr;exact⟨cur,e',fr,(hk _ (size_of_getElem? h8)).trans h8,h7,bL (fun _ _ x=>x) (fun r hr _=>hk r hr) _ _ h9⟩
 | arr e' ver st rows=>
   obtain⟨xs,h8,h9⟩:=hr;exact⟨xs,bV h8 fun k hk'=>hk k (h8.lt k hk').2,aN (fun _ _ x=>x) (fun r hr _=>hk r hr) _ _ _ h9⟩
 |bX ver st rows=>exact bN (fun _ _ x=>x) (fun r hr _=>hk r hr) _ _ hr
 | tr y ver rest st=>
   obtain⟨k0,kh,k1,k2,k3,k4⟩:=hr;exact⟨k0,kh,k1,k2.step h fun _ _ x=>x.elim,k3,k4⟩
 | bR e' ver st j ed sd pre row post=>
   have hr':=hr;exact gQ (fun _ _ x=>x) (fun r hr _=>hk r hr) rfl rfl rfl (fun k hk'=>hk k (AX.iB hr' hk')) rfl (fun vs h=>bg (fun _ _ x=>x) (fun r hr _=>hk r hr) (fun _ _ _ x=>x) (fun _ _ _ x=>x) (fun _ _ _ _ _ x=>x) _ _ h) hr'
 | mp kk kv es=>
   obtain⟨cur,clock,h8,h9,h10⟩:=hr;exact⟨cur,clock,(hk _ (size_of_getElem? h8)).trans h8,h9,h10⟩
 | dL e' ver st pre row post=>
   obtain⟨xs,h8,h9,h10,h11,h12⟩:=hr;exact⟨xs,bV h8 fun k hk'=>hk k (h8.lt k hk').2,aN (fun _ _ x=>x) (fun r hr _=>hk r hr) _ _ _ h9,h10,bg (fun _ _ x=>x) (fun r hr _=>hk r hr) (fun _ _ _ x=>x) (fun _ _ _ x=>x) (fun _ _ _ _ _ x=>x) _ _ h11,aN (fun _ _ x=>x) (fun r hr _=>hk r hr) _ _ _ h12⟩
def AS.put (s:AS)(d:Option Tmp)(v:AV):AS:=
 match d with
 |some d=>{ s with tm:=(d,v)::s.tm }
 |none=>s
theorem aR.put {c:Ctx}{R:Real}{s:AS}{a:Act}{w:World}(g:aR c R s a w)(d:Option Tmp)(hd:∀t,d=some t→t<c.n){v:AV}{x:Value}
  (hv:ah (aH c R s.hp) w s.hp R v x):aR c R (s.put d v) (a.put d x) w:=by
 cases d with
 |none=>exact g
 | some d=>
   have hlt:=hd d rfl;refine⟨?_,?_,g.lo,g.marks,g.fixed,g.boxes,g.inj,g.free,g.gq,g.eG,g.kept⟩
   ·intro t u h;simp only[AS.put,aj] at h;by_cases e:d=t
    ·subst e;simp only[if_true,Option.some.injEq] at h;subst h;refine⟨x,?_,hv⟩;simp only[Act.put];rw[Array.getElem?_setIfInBounds_self_of_lt (by rw[g.size];exact hlt)]
    simp only[if_neg e] at h;obtain⟨y,hy,hr⟩:=g.slots t u h;refine⟨y,?_,hr⟩;simp only[Act.put];rw[Array.getElem?_setIfInBounds_ne e];exact hy
   simp only[Act.put,Array.size_setIfInBounds];exact g.size
section
section cells
variable {α:Type}(R:α→Value→Prop)
def FC:List α→List Value→Prop
 |[],vs=>vs=[]
 |p::ps,vs=>∃v r,vs=v::r∧v.oneCell'=true∧R p v∧FC ps r
def FP:List α→List Value→Prop
 |[],_=>True
 |p::ps,vs=>∃v r,vs=v::r∧v.oneCell'=true∧R p v∧FP ps r
def FL:List α→List Value→Prop
 |[],vs=>vs=[]
 |p::ps,vs=>∃v r,vs=v::r∧R p v∧FL ps r
end cells
theorem dX (N:Nat→Prop)(w:World):∀(ps:List PV) (vs:List Value),fG N w ps vs↔FC (aU N w) ps vs
 |[],vs=>by simp only[fG,FC]
 |p::ps,vs=>by simp only[fG,FC,dX N w ps]
theorem bM (N:Nat→Prop)(w:World):∀(ps:List PV) (vs:List Value),dM N w ps vs↔FP (aU N w) ps vs
 |[],vs=>by simp only[dM,FP]
 |p::ps,vs=>by simp only[dM,FP,bM N w ps]
theorem iF (N:Nat→Prop)(w:World):∀(ps:List PV) (vs:List Value),cZ N w ps vs↔FL (aU N w) ps vs
 |[],vs=>by simp only[cZ,FL]
 |p::ps,vs=>by simp only[cZ,FL,iF N w ps]
theorem aY (N:Nat→Prop)(w:World)(hp:List (Nat×av))(R:Real):∀(ps:List AV) (vs:List Value),bq N w hp R ps vs↔FC (ah N w hp R) ps vs
 |[],vs=>by simp only[bq,FC]
 |p::ps,vs=>by simp only[bq,FC,aY N w hp R ps]
theorem bZ (N:Nat→Prop)(w:World)(hp:List (Nat×av))(R:Real):∀(ps:List AV) (vs:List Value),bB N w hp R ps vs↔FL (ah N w hp R) ps vs
 |[],vs=>by simp only[bB,FL]
 |p::ps,vs=>by simp only[bB,FL,bZ N w hp R ps]
section cells
variable {α β:Type}{R:α→Value→Prop}{S:β→Value→Prop}
theorem FC.length:∀{l:List α} {m:List Value},FC R l m→m.length=l.length
 |[],m,h=>by simp only[FC] at h;simp[h]
 |p::ps,m,h=>by obtain⟨v,r,rfl,_,_,h⟩:=h;simp[h.length]
theorem FL.length:∀{l:List α} {m:List Value},FL R l m→m.length=l.length
 |[],m,h=>by simp only[FL] at h;simp[h]
 |p::ps,m,h=>by obtain⟨v,r,rfl,_,h⟩:=h;simp[h.length]
theorem FP.length:∀{l:List α} {m:List Value},FP R l m→l.length≤m.length
 |[],m,_=>by simp
 |p::ps,m,h=>by obtain⟨v,r,rfl,_,_,h⟩:=h;simp[h.length]
theorem FC.one:∀{l:List α} {m:List Value},FC R l m→∀u∈m,u.oneCell'=true
 |[],m,h=>by simp only[FC] at h;simp[h]
 | p::ps,m,h=>by
   obtain⟨v,r,rfl,h1,_,h⟩:=h;intro u hu;rcases List.mem_cons.1 hu with rfl|hu
   ·exact h1
   exact h.one u hu
theorem FC.fp:∀{l:List α} {m:List Value},FC R l m→FP R l m
 |[],_,_=>trivial
 |p::ps,m,h=>by obtain⟨v,r,rfl,h1,h2,h⟩:=h;exact⟨v,r,rfl,h1,h2,h.fp⟩
theorem FP.app:∀{l:List α} {m:List Value} (m':List Value),FP R l m→FP R l (m++m')
 |[],_,_,_=>trivial
 |p::ps,m,m',h=>by obtain⟨v,r,rfl,h1,h2,h⟩:=h;exact⟨v,r++m',rfl,h1,h2,h.app m'⟩
theorem FP.take:∀{l:List α} {m:List Value},FP R l m→FC R l (m.take l.length)
 |[],m,_=>by simp[FC]
 |p::ps,m,h=>by obtain⟨v,r,rfl,h1,h2,h⟩:=h;exact⟨v,r.take ps.length,by simp,h1,h2,h.take⟩
theorem FC.imp:∀{l:List α} {m:List Value} {R':α→Value→Prop},(∀p v,R p v→R' p v)→FC R l m→FC R' l m
 |[],_,_,_,h=>h
 |p::ps,m,R',hi,h=>by obtain⟨v,r,rfl,h1,h2,h⟩:=h;exact⟨v,r,rfl,h1,hi _ _ h2,h.imp hi⟩
theorem FC.map {f:α→β}(hf:∀p v,R p v→S (f p) v):∀{l:List α} {m:List Value},FC R l m→FC S (l.map f) m
 |[],_,h=>h
 |p::ps,m,h=>by obtain⟨v,r,rfl,h1,h2,h⟩:=h;exact⟨v,r,rfl,h1,hf _ _ h2,FC.map hf h⟩
theorem FL.map {f:α→β}(hf:∀p v,R p v→S (f p) v):∀{l:List α} {m:List Value},FL R l m→FL S (l.map f) m
 |[],_,h=>h
 |p::ps,m,h=>by obtain⟨v,r,rfl,h2,h⟩:=h;exact⟨v,r,rfl,hf _ _ h2,FL.map hf h⟩
theorem FL.app:∀{l l':List α} {m m':List Value},FL R l m→FL R l' m'→FL R (l++l') (m++m')
 |[],_,m,_,h,h'=>by simp only[FL] at h;simpa[h] using h'
 |p::ps,_,m,m',h,h'=>by obtain⟨v,r,rfl,h2,h⟩:=h;exact⟨v,r++m',rfl,h2,h.app h'⟩
theorem FL.get:∀{l:List α} {m:List Value} {i:Nat} {x:α},FL R l m→l[i]? = some x→∃v,m[i]? = some v∧R x v
 |[],_,_,_,_,hx=>by simp at hx
 | p::ps,m,0,x,h,hx=>by
   obtain⟨v,r,rfl,h2,h⟩:=h;simp only[List.getElem?_cons_zero,Option.some.injEq] at hx;subst hx;exact⟨v,rfl,h2⟩
 | p::ps,m,i+1,x,h,hx=>by
   obtain⟨v,r,rfl,h2,h⟩:=h;simp only[List.getElem?_cons_succ] at hx ⊢;exact h.get hx
def iq:Nat→List α→Option (List α)
 |0,_=>some []
 |_+1,[]=>none
 | n+1,a::r=>match iq n r with
   |some t=>some (a::t)
   |none=>none
def iE:Nat→List α→Option (List α)
 |0,l=>some l
 |_+1,[]=>none
 |n+1,_::r=>iE n r
def part (off n:Nat)(l:List α):Option (List α):=
 match iE off l with
 |some r=>iq n r
 |none=>none
def iA:List α→List α→Option (List α)
 |l,[]=>some l
 |[],_::_=>none
 | _::r,x::xs=>match iA r xs with
   |some t=>some (x::t)
   |none=>none
def gZ:Nat→List α→List α→Option (List α)
 |0,l,xs=>iA l xs
 |_+1,[],_=>none
 | n+1,a::r,xs=>match gZ n r xs with
   |some t=>some (a::t)
   |none=>none
theorem FP.iE:∀{n:Nat} {l x:List α} {m:List Value},FP R l m→iE n l=some x→n≤m.length∧FP R x (m.drop n)
 |0,l,x,m,h,e=>by simp only[AX.iE,Option.some.injEq] at e;subst e;exact⟨Nat.zero_le _,by simpa using h⟩
 |n+1,[],x,m,h,e=>by simp[AX.iE] at e
 | n+1,p::ps,x,m,h,e=>by
   obtain⟨v,r,rfl,h1,h2,h⟩:=h;simp only[AX.iE] at e;have:=h.iE e;simpa using this
theorem FP.iq:∀{n:Nat} {l x:List α} {m:List Value},FP R l m→iq n l=some x→n≤m.length∧FC R x (m.take n)
 |0,l,x,m,h,e=>by simp only[AX.iq,Option.some.injEq] at e;subst e;exact⟨Nat.zero_le _,by simp[FC]⟩
 |n+1,[],x,m,h,e=>by simp[AX.iq] at e
 | n+1,p::ps,x,m,h,e=>by
   obtain⟨v,r,rfl,h1,h2,h⟩:=h;simp only[AX.iq] at e;split at e
   ·rename_i t ht;simp only[Option.some.injEq] at e;subst e;have:=h.iq ht;refine⟨by simpa using this.1,v,r.take n,by simp,h1,h2,this.2⟩
   cases e
theorem FP.part {off n:Nat}{l x:List α}{m:List Value}(h:FP R l m)(e:part off n l=some x):off+n≤m.length∧FC R x ((m.drop off).take n):=by
 simp only[AX.part] at e;split at e
 ·rename_i r hr;obtain⟨h1,h2⟩:=h.iE hr;obtain⟨h3,h4⟩:=h2.iq e;simp only[List.length_drop] at h3;exact⟨by omega,h4⟩
 cases e
theorem FC.iA:∀{l xs l':List α} {m ys:List Value},FC R l m→FC R xs ys→iA l xs=some l'→ys.length≤m.length∧FC R l' (ys++m.drop ys.length)
 | l,[],l',m,ys,h,hx,e=>by
   have hy:ys=[]:=by cases l<;>simpa only[FC] using hx
   have e':l=l':=by cases l<;>simpa[AX.iA] using e
   subst hy;subst e';exact⟨by simp,by simpa using h⟩
 |[],x::xs,l',m,ys,h,hx,e=>by simp[AX.iA] at e
 | p::ps,x::xs,l',m,ys,h,hx,e=>by
   obtain⟨v,r,rfl,h1,h2,h⟩:=h;obtain⟨u,s,rfl,g1,g2,hx⟩:=hx;simp only[AX.iA] at e;split at e
   ·rename_i t ht;simp only[Option.some.injEq] at e;subst e;obtain⟨a,b⟩:=FC.iA h hx ht;exact⟨by simpa using a,u,_,by simp,g1,g2,b⟩
   cases e
theorem FC.gZ:∀{off:Nat} {l xs l':List α} {m ys:List Value},FC R l m→FC R xs ys→gZ off l xs=some l' →
  off+ys.length≤m.length∧FC R l' (m.take off++ys++m.drop (off+ys.length))
 | 0,l,xs,l',m,ys,h,hx,e=>by
   simp only[AX.gZ] at e;have:=FC.iA h hx e;simpa using this
 |off+1,[],xs,l',m,ys,h,hx,e=>by simp[AX.gZ] at e
 | off+1,p::ps,xs,l',m,ys,h,hx,e=>by
   obtain⟨v,r,rfl,h1,h2,h⟩:=h;simp only[AX.gZ] at e;split at e
   ·rename_i t ht;simp only[Option.some.injEq] at e;subst e;obtain⟨a,b⟩:=FC.gZ h hx ht;rw[show off+1+ys.length=(off+ys.length)+1 from by omega];exact⟨by simp;omega,v,r.take off++ys++r.drop (off+ys.length),by simp,h1,h2,b⟩
   cases e
theorem tH:∀{l xs l':List α},iA l xs=some l'→l'.length=l.length
 |l,[],l',e=>by cases l<;>simp[AX.iA] at e<;>simp[←e]
 |[],x::xs,l',e=>by simp[AX.iA] at e
 | p::ps,x::xs,l',e=>by
   simp only[AX.iA] at e;split at e
   ·rename_i t ht;simp only[Option.some.injEq] at e;subst e;simp[tH ht]
   cases e
theorem vW:∀{off:Nat} {l xs l':List α},gZ off l xs=some l'→l'.length=l.length
 |0,l,xs,l',e=>tH e
 |off+1,[],xs,l',e=>by simp[AX.gZ] at e
 | off+1,p::ps,xs,l',e=>by
   simp only[AX.gZ] at e;split at e
   ·rename_i t ht;simp only[Option.some.injEq] at e;subst e;simp[vW ht]
   cases e
end cells
section rows
variable {N:Nat→Prop}{w:World}{st:Nat}
theorem dR:∀{rows:List (List PV)} {m:List Value},bf N w st rows m →
  rows.length*st≤m.length∧bf N w st rows (m.take (rows.length*st))∧∀u∈m.take (rows.length*st),u.oneCell'=true
 |[],m,_=>by simp[bf]
 | row::rows,m,h=>by
   obtain⟨h1,h2,h3⟩:=h;obtain⟨a,b,d⟩:=dR h3;rw[bM] at h2;have hl:=h2.length;have e:(row::rows).length*st=st+rows.length*st:=by rw[List.length_cons,Nat.add_mul];omega
   rw[e];have hs:m.take (st+rows.length*st)=m.take st++(m.drop st).take (rows.length*st):=by rw[List.take_add]
   have hc:=h2.take;rw[h1] at hc hl;simp only[List.length_drop] at a;have hlen:(m.take st).length=st:=by rw[List.length_take];omega
   refine⟨by omega,?_,?_⟩
   ·rw[hs];refine⟨h1,?_,?_⟩
    ·rw[bM];exact hc.fp.app _
    rw[List.drop_left' hlen];exact b
   rw[hs];intro u hu;rcases List.mem_append.1 hu with hu|hu
   ·exact hc.one u hu
   exact d u hu
theorem gM:∀{rows aF:List (List PV)} {m m':List Value},bf N w st rows m→m.length=rows.length*st→bf N w st aF m' →
  bf N w st (rows++aF) (m++m')
 | [],aF,m,m',_,hl,h'=>by
   have:m=[]:=List.eq_nil_of_length_eq_zero (by simpa using hl);subst this;simpa using h'
 | row::rows,aF,m,m',h,hl,h'=>by
   obtain⟨h1,h2,h3⟩:=h;have e:(row::rows).length*st=st+rows.length*st:=by rw[List.length_cons,Nat.add_mul];omega
   rw[e] at hl;refine⟨h1,?_,?_⟩
   ·rw[bM] at h2 ⊢;exact h2.app _
   rw[List.drop_append_of_le_length (by omega)];exact gM h3 (by simp only[List.length_drop];omega) h'
theorem jK:∀{rows:List (List PV)} {m:List Value} (m':List Value),bf N w st rows m→bf N w st rows (m++m')
 |[],_,_,_=>trivial
 | row::rows,m,m',h=>by
   obtain⟨h1,h2,h3⟩:=h;have hl:st≤m.length:=by rw[bM] at h2;have:=h2.length;omega
   refine⟨h1,by rw[bM] at h2 ⊢;exact h2.app _,?_⟩;rw[List.drop_append_of_le_length hl];exact jK m' h3
theorem mR:∀{rows:List (List PV)} {m:List Value} {i:Nat} {row:List PV},bf N w st rows m→rows[i]? = some row →
  row.length=st∧dM N w row (m.drop (i*st))
 |[],_,_,_,_,hx=>by simp at hx
 | r0::rows,m,0,row,h,hx=>by
   simp only[List.getElem?_cons_zero,Option.some.injEq] at hx;subst hx;exact⟨h.1,by simpa using h.2.1⟩
 | r0::rows,m,i+1,row,h,hx=>by
   simp only[List.getElem?_cons_succ] at hx;obtain⟨a,b⟩:=mR h.2.2 hx;refine⟨a,?_⟩;rw[List.drop_drop] at b;rw[show (i+1)*st=st+i*st from by rw[Nat.add_mul];omega];exact b
theorem jk:∀{rows:List (List PV)} {m:List Value} (i:Nat),bf N w st rows m→bf N w st (rows.drop i) (m.drop (i*st))
 |[],m,i,_=>by simp[bf]
 |r0::rows,m,0,h=>by simpa using h
 | r0::rows,m,i+1,h=>by
   have:=jk i h.2.2;rw[List.drop_drop] at this;rw[show (i+1)*st=st+i*st from by rw[Nat.add_mul];omega];simpa using this
theorem jb:∀{rows:List (List PV)} {m:List Value} (i:Nat),bf N w st rows m→bf N w st (rows.take i) m
 |[],m,i,_=>by simp[bf]
 |r0::rows,m,0,h=>by simp[bf]
 | r0::rows,m,i+1,h=>by
   obtain⟨h1,h2,h3⟩:=h;exact⟨h1,h2,jb i h3⟩
theorem EX:∀{rows:List (List PV)} {m:List Value} {i:Nat} {row:List PV} {ys:List Value},bf N w st rows m→i<rows.length→row.length=st →
  FC (aU N w) row ys→bf N w st (rows.set i row) (m.take (i*st)++ys++m.drop (i*st+ys.length))
 |[],_,_,_,_,_,hi,_,_=>by simp at hi
 | r0::rows,m,0,row,ys,h,_,hl,hy=>by
   obtain⟨h1,h2,h3⟩:=h;have hyl:=hy.length;simp only[Nat.zero_mul,List.take_zero,List.nil_append,Nat.zero_add,List.set_cons_zero];refine⟨hl,by rw[bM];exact hy.fp.app _,?_⟩;rw[List.drop_left' (by omega),hyl,hl];exact h3
 | r0::rows,m,i+1,row,ys,h,hi,hl,hy=>by
   obtain⟨h1,h2,h3⟩:=h;have hst:st≤m.length:=by rw[bM] at h2;have:=h2.length;omega
   have ih:=EX (i:=i) h3 (by simpa using hi) hl hy;have e:(i+1)*st=st+i*st:=by rw[Nat.add_mul];omega
   have h2':=h2;rw[bM] at h2';have hc:=h2'.take;rw[h1] at hc;have hlen:(m.take st).length=st:=by rw[List.length_take];omega
   rw[e,List.take_add,List.append_assoc,List.append_assoc];refine⟨h1,by rw[bM];exact hc.fp.app _,?_⟩;rw[List.drop_left' hlen,show st+i*st+ys.length=st+(i*st+ys.length) from by omega,←List.drop_drop,←List.append_assoc];exact ih
end rows
inductive DI where
 |str (fs:List (Nat×TypeId))
 |Lb (n:Nat) (e:TypeId)
 |slt (e:TypeId)
 |q8 (k:IntKind)
 |NE
 |D9
 |zV (e:TypeId)
 |wW
 |VB (k e:TypeId)
 |Me
def di:TypeDesc→DI
 |.struct fs=>.str (fs.toList.map fun f=>(f.offset,f.type))
 |.array n e=>.Lb n e
 |.slice e=>.slt e
 |.int k=>.q8 k
 |.bool=>.NE
 |.string=>.D9
 |.pointer e=>.zV e
 |.func _ _ _=>.wW
 |.map k e=>.VB k e
 |_=>.Me
inductive EK where
 |int (k:IntKind)
 |bool
 |str
structure TI where
 size:Nat
 bytes:Nat
 zero:List Value
 d:DI
 cmp:Option (List EK)
def Rk (i:TI)(K:Nat→Nat→Prop):Prop:=
 match i with
 |⟨sz,by_,_,_,_⟩=>K sz by_
theorem bW (i:TI)(K:Nat→Nat→Prop):Rk i K=K i.size i.bytes:=rfl
def DI.isAgg:DI→Bool
 |.str _=>true
 |.Lb _ _=>true
 |_=>false
def SK:EK→Value→Value→Option Bool
 | .int i,.int j a,.int k b=>match decide (i=j),decide (i=k) with
   |true,true=>some (a==b)
   |_,_=>none
 |.bool,.bool a,.bool b=>some (a==b)
 |.str,.string a,.string b=>some (a.toList==b.toList)
 |_,_,_=>none
def iY:List EK→List Value→List Value→Option Bool
 |[],[],[]=>some true
 | k::ks,x::xs,y::ys=>match SK k x y with
   | some a=>match ks with
     | []=>match xs,ys with
       |[],[]=>some a
       |_,_=>none
     | _=>match iY ks xs ys with
       |some b=>some (a&&b)
       |none=>none
   |none=>none
 |_,_,_=>none
def Vn (P:Program)(t:TypeId)(ks:List EK):Prop:=∀(w:World) (xs ys:Array Value) (b:Bool),iY ks xs.toList ys.toList=some b →
 (Op.equal t (.agg xs) (.agg ys)).run P w=.ok b w
structure bD (P:Program)(t:TypeId)(i:TI):Prop where
 info:(P.info? t).map (fun x=>(x.size,x.bytes,x.zero.map (·.cells.toList)))=some (i.size,i.bytes,some i.zero)
 desc:(P.underlying t).map di=some i.d
 Ms:i.zero.length=i.size
 Kl:i.zero.all (·.oneCell')=true
 agg:i.d.isAgg=false→i.size=1
 Ym:i.d.isAgg=(((P.info? t).bind (·.zero)).map (fun z=>z matches .agg _)).getD false
 cmp:∀ks,i.cmp=some ks→Vn P t ks∧P.eqGuardType P.depth t=false
def bC (P:Program)(T:List (Nat×TI)):Prop:=∀t i,lk T t=some i→bD P t i
section table
variable {P:Program}{t:TypeId}{i:TI}
theorem bD.xK (h:bD P t i):∃x z,P.info? t=some x∧x.size=i.size∧x.bytes=i.bytes∧x.zero=some z∧z.cells.toList=i.zero:=by
 have:=h.info;cases hx:P.info? t with
 |none=>rw[hx] at this;cases this
 | some x=>
   rw[hx] at this;simp only[Option.map_some,Option.some.injEq,Prod.mk.injEq] at this;obtain⟨a,b,c⟩:=this;cases hz:x.zero with
   |none=>rw[hz] at c;cases c
   | some z=>
     rw[hz] at c;simp only[Option.map_some,Option.some.injEq] at c;exact⟨x,z,rfl,a,b,hz,c⟩
theorem bD.eF (h:bD P t i):∃d,P.underlying t=some d∧di d=i.d:=by
 have:=h.desc;cases hx:P.underlying t with
 |none=>rw[hx] at this;cases this
 |some d=>rw[hx] at this;simp only[Option.map_some,Option.some.injEq] at this;exact⟨d,rfl,this⟩
theorem bD.run_sizeOf (h:bD P t i)(w:World):(sizeOf t).run P w=.ok i.size w:=by
 obtain⟨x,z,h1,h2,_⟩:=h.xK;simp[sizeOf,typeInfo,h1,h2]
theorem bD.mU (h:bD P t i)(w:World):(isAgg t).run P w=.ok i.d.isAgg w:=by
 obtain⟨d,h1,h2⟩:=h.eF;rw[←h2];simp only[isAgg,Sem.run_bind,run_underlying h1,Result.andThen_ok];cases d<;>simp[di,DI.isAgg]
theorem bD.mE (h:bD P t i)(w:World):∃z,(zeroValue t).run P w=.ok z w∧z.cells.toList=i.zero∧(i.d.isAgg=(z matches .agg _)):=by
 obtain⟨x,z,h1,h2,h3,h4,h5⟩:=h.xK;refine⟨z,by simp[zeroValue,typeInfo,h1,h4],h5,?_⟩;have:=h.Ym;simpa[h1,h4] using this
end table
section runs
variable {P:Program}{w:World}
theorem addr_add (g o n:Nat):(⟨g,o,none⟩:Addr).add n=⟨g,o+n,none⟩:=by
 unfold Addr.add;split
 ·rename_i h;simp[h]
 rfl
theorem sw {g j:Nat}{cur:Array Value}{e:TypeId}{fr:Nat×Nat}(hg:w.heap[g]? = some (.cells cur e fr)):w.cell? ⟨g,j,none⟩=cur[j]? :=
 cell_of_row w g j cur e fr hg
theorem EY {g j:Nat}{cur:Array Value}{e:TypeId}{fr:Nat×Nat}(hg:w.heap[g]? = some (.cells cur e fr)){v:Value}(hv:cur[j]? = some v) :
  (load ⟨g,j,none⟩).run P w=.ok v w:=by
 rw[run_load,sw hg,hv]
theorem mV {g off n:Nat}{cur:Array Value}{e:TypeId}{fr:Nat×Nat}(hg:w.heap[g]? = some (.cells cur e fr))(hl:off+n≤cur.size) :
  (loadCells ⟨g,off,none⟩ n).run P w=.ok ((cur.toList.drop off).take n).toArray w:=by
 have hlen:((cur.toList.drop off).take n).length=n:=by simp;omega
 have:=run_loadCells_list (P:=P) (w:=w) ⟨g,off,none⟩ ((cur.toList.drop off).take n) (fun j v h=>by
  rw[addr_add,sw hg];rw[List.getElem?_take] at h;split at h
  ·rw[List.getElem?_drop] at h;simpa using h
  cases h)
 rw[hlen] at this;exact this
theorem jh {t:TypeId}{i:TI}(hi:bD P t i){g off:Nat}{cur:Array Value}{e:TypeId}{fr:Nat×Nat}(hg:w.heap[g]? = some (.cells cur e fr))
  (hl:off+i.size≤cur.size) :
  (loadVar t ⟨g,off,none⟩).run P w=.ok (if i.d.isAgg then .agg ((cur.toList.drop off).take i.size).toArray else cur[off]!) w:=by
 cases ha:i.d.isAgg with
 | true=>
   simp only[loadVar,Sem.run_bind,hi.mU,Result.andThen_ok,ha,if_true,hi.run_sizeOf,mV hg hl,Sem.run_pure]
 | false=>
   have h1:=hi.agg ha;have hv:cur[off]? = some cur[off]! :=by
    rw[getElem!_pos cur off (by omega)];exact Array.getElem?_eq_getElem (by omega)
   simp only[loadVar,Sem.run_bind,hi.mU,Result.andThen_ok,ha,Bool.false_eq_true,if_false,EY hg hv]
theorem oG {t:TypeId}{i:TI}(hi:bD P t i){g off:Nat}{cur:Array Value}{e:TypeId}{v:Value}(hg:w.heap[g]? = some (.cells cur e (0,0)))
  (hs:v.cells.size=i.size) (hl:off+i.size≤cur.size) (h1:∀u∈v.cells.toList,u.oneCell'=true) :
  (storeVar t ⟨g,off,none⟩ v).run P w=.ok () (w.setRow g (cur.toList.take off++v.cells.toList++cur.toList.drop (off+v.cells.toList.length)).toArray):=by
 have:=run_storeCells_at P g off e v.cells.toList 0 cur w hg (by simp;omega) h1;simp only[Nat.add_zero] at this;simp[storeVar,hi.run_sizeOf,hs,this]
end runs
end
section
def Same (w w':World):Prop:=iZ (fun _=>False) w w'
def Enters (P:Program)(f:FuncId):Prop:=∃fn,P.funcs[f]? = some fn∧fn.body.isSome=true∧(fn.name == "runtime.NumGoroutine")=false
def PC (P:Program)(f:FuncId)(args:List PV)(Q:PV→Prop):Prop:=
 Enters P f∧∀(F:Nat→Prop) (w:World) (bG:Array Value),(∀r,F r→r<w.heap.size)→cZ F w args bG.toList →
  Calls P f bG w fun e w'=>∃v r,e=.returned v∧Q r∧aU F w' r v∧Same w w'
def dH (P:Program)(f:FuncId)(args:List PV)(r:PV):Prop:=PC P f args (fun x=>x=r)
abbrev Tab:=List (Nat×TI)
def cellP:PV→Bool
 |.sc v=>v.oneCell'
 |.sl _ _ _=>true
 |.bT _ _=>true
 |.fn _ _ _=>true
 |_=>false
def RL:AV→Bool
 |.pv p=>cellP p
 |.ptr _ _=>true
 |.cB _ _ _ _=>true
 |.aG _ _=>true
 |.sub _ _ _ _ _=>true
 |.fn _ _ _=>true
 |_=>false
def EZ:List PV→Option (List AV)
 |[]=>some []
 | p::r=>match EZ r with
   |some t=>some (.pv p::t)
   |none=>none
def UC:List Value→Option (List PV)
 |[]=>some []
 | v::r=>match UC r with
   |some t=>some (.sc v::t)
   |none=>none
def Sm:List Value→Option (List AV)
 |[]=>some []
 | v::r=>match Sm r with
   |some t=>some (.pv (.sc v)::t)
   |none=>none
def gu:List AV→Option (List PV)
 |[]=>some []
 | .pv p::r=>match gu r with
   |some ps=>some (p::ps)
   |none=>none
 |_::_=>none
def sH (cs:List AV):Option AV:=
 match gu cs with
 |some ps=>some (.pv (.agg ps))
 |none=>some (.agg cs)
def cellsOf (i:TI)(v:AV):Option (List AV):=
 match i.d.isAgg with
 | true=>match v with
   |.pv (.agg cs)=>EZ cs
   |.agg cs=>some cs
   |_=>none
 | false=>match RL v with
   |true=>some [v]
   |false=>none
def jc (i:TI)(p:PV):Option (List PV):=
 match i.d.isAgg with
 | true=>match p with
   |.agg cs=>some cs
   |_=>none
 | false=>match cellP p with
   |true=>some [p]
   |false=>none
def oJ (o:Option av)(ver:Nat):Option PV:=
 match o with
 | some (.arr _ v st rows)=>match Nat.beq ver v with
   |true=>some (.sl false st rows)
   |false=>none
 | some (.bX v st rows)=>match Nat.beq ver v with
   |true=>some (.sl false st rows)
   |false=>none
 |_=>none
def JM (o:Option av)(off:Nat):Option PV:=
 match o with
 | some (.var cells)=>match gu cells with
   |some ps=>some (.bT ps off)
   |none=>none
 |some (.ny cells)=>some (.bT cells off)
 |_=>none
def zT (rows:List (List PV))(lo hi:Nat):List (List PV):=(rows.drop lo).take (hi-lo)
def RN (o:Option PV)(st lo hi:Nat):Option PV:=
 match o with
 | some (.sl _ st' rows)=>match Nat.beq st st' with
   |true=>some (.sl false st' (zT rows lo hi))
   |false=>none
 |_=>none
mutual
def vw (H:List (Nat×av)):AV→Option PV
 |.pv p=>some p
 |.aG b ver=>oJ (lk H b) ver
 |.sub b ver st lo hi=>RN (oJ (lk H b) ver) st lo hi
 |.ptr b off=>JM (lk H b) off
 | .agg cs=>match D5 H cs with
   |some ps=>some (.agg ps)
   |none=>none
 | .fF cs=>match D5 H cs with
   |some ps=>some (.fF ps)
   |none=>none
 | .fn f a c=>match D5 H a,D5 H c with
   |some x,some y=>some (.fn f x y)
   |_,_=>none
 |.cB _ _ _ _=>none
def D5 (H:List (Nat×av)):List AV→Option (List PV)
 |[]=>some []
 | v::r=>match vw H v with
   | some p=>match D5 H r with
     |some t=>some (p::t)
     |none=>none
   |none=>none
end
mutual
def refs:AV→List Nat
 |.pv _=>[]
 |.aG b _=>[b]
 |.sub b _ _ _ _=>[b]
 |.ptr b _=>[b]
 |.cB b _ _ _=>[b]
 |.agg cs=>dx cs
 |.fF cs=>dx cs
 |.fn _ a c=>dx a++dx c
def dx:List AV→List Nat
 |[]=>[]
 |v::r=>refs v++dx r
end
def D7 (H:List (Nat×av)):List Nat→Option (List (Nat×av))
 |[]=>some []
 | b::r=>match D7 H r with
   | some t=>match lk t b with
     |some _=>some t
     | none=>match lk H b with
       |some (.arr _ v st rows)=>some ((b,.bX v st rows)::t)
       | some (.var cells)=>match gu cells with
         |some ps=>some ((b,.ny ps)::t)
         |none=>none
       |some (.bX _ _ _)=>some t
       |some (.ny _)=>some t
       |some (.tr _ _ _ _)=>none
       |some (.dL _ _ _ _ _ _)=>none
       |some (.mp _ _ _)=>none
       |some (.bR _ _ _ _ _ _ _ _ _)=>none
       |none=>none
   |none=>none
mutual
def wQ:PV→Bool
 |.sc _=>true
 |.junk=>true
 |.agg cs=>xV cs
 |.fF cs=>xV cs
 |_=>false
def xV:List PV→Bool
 |[]=>true
 | p::r=>match wQ p with
   |true=>xV r
   |false=>false
end
def C8:List EK→List PV→List PV→Option Bool
 |[],[],[]=>some true
 | k::ks,.sc x::xs,.sc y::ys=>match SK k x y with
   | some a=>match ks with
     | []=>match xs,ys with
       |[],[]=>some a
       |_,_=>none
     | _=>match C8 ks xs ys with
       |some b=>some (a&&b)
       |none=>none
   |none=>none
 |_,_,_=>none
def KC (op:BinOp)(k:IntKind)(a b:Int)(K:AV→Prop):Prop:=
 match op with
 |.add=>K (.pv (.sc (.int k (k.wrap (a+b)))))
 |.sub=>K (.pv (.sc (.int k (k.wrap (a-b)))))
 |.mul=>K (.pv (.sc (.int k (k.wrap (a*b)))))
 |.quo=>b≠0∧K (.pv (.sc (.int k (k.wrap (a.tdiv b)))))
 |.rem=>b≠0∧K (.pv (.sc (.int k (a.tmod b))))
 |.and=>K (.pv (.sc (.int k (k.wrap (BitVec.toNat (BitVec.ofInt k.bits a &&& BitVec.ofInt k.bits b))))))
 |.or=>K (.pv (.sc (.int k (k.wrap (BitVec.toNat (BitVec.ofInt k.bits a ||| BitVec.ofInt k.bits b))))))
 |.xor=>K (.pv (.sc (.int k (k.wrap (BitVec.toNat (BitVec.ofInt k.bits a ^^^ BitVec.ofInt k.bits b))))))
 |.andNot=>K (.pv (.sc (.int k (k.wrap (BitVec.toNat (BitVec.ofInt k.bits a &&& ~~~ (BitVec.ofInt k.bits b)))))))
 |.eql=>K (.pv (.sc (.bool (a==b))))
 |.neq=>K (.pv (.sc (.bool (a != b))))
 |.lss=>K (.pv (.sc (.bool (decide (a<b)))))
 |.leq=>K (.pv (.sc (.bool (decide (a≤b)))))
 |.gtr=>K (.pv (.sc (.bool (decide (a>b)))))
 |.geq=>K (.pv (.sc (.bool (decide (a≥b)))))
 |_=>False
def C9:BinOp→Bool
 |.shl=>true
 |.shr=>true
 |_=>false
def uM (op:BinOp)(k:IntKind)(a b:Int)(K:AV→Prop):Prop:=
 match op with
 |.shl=>0≤b∧K (.pv (.sc (.int k (k.wrap (a*2 ^ (min b.toNat k.bits))))))
 |.shr=>0≤b∧K (.pv (.sc (.int k (a.fdiv (2 ^ (min b.toNat k.bits))))))
 |_=>False
def MZ (op:BinOp)(a b:ByteArray)(K:AV→Prop):Prop:=
 match op with
 |.eql=>K (.pv (.sc (.bool (a.toList==b.toList))))
 |.neq=>K (.pv (.sc (.bool (!(a.toList==b.toList)))))
 |.add=>a.size+b.size≤9223372036854775807∧K (.pv (.sc (.string (a++b))))
 |.lss=>K (.pv (.sc (.bool (Op.bytesLess a.toList b.toList))))
 |.leq=>K (.pv (.sc (.bool (Op.bytesLess a.toList b.toList||a.toList==b.toList))))
 |.gtr=>K (.pv (.sc (.bool (!(Op.bytesLess a.toList b.toList||a.toList==b.toList)))))
 |.geq=>K (.pv (.sc (.bool (!(Op.bytesLess a.toList b.toList)))))
 |_=>False
def Js (op:BinOp)(b:Bool)(K:AV→Prop):Prop:=
 match op with
 |.eql=>K (.pv (.sc (.bool b)))
 |.neq=>K (.pv (.sc (.bool (!b))))
 |_=>False
def Eo:AV→Bool
 |.ptr _ _=>true
 |.pv (.bT _ _)=>true
 |_=>false
def Qh:AV→Bool
 |.fn _ _ _=>true
 |.pv (.fn _ _ _)=>true
 |_=>false
def Hg (i:TI)(op:BinOp)(x y:AV)(K:AV→Prop):Prop:=
 match i.d with
 | .NE=>match x,y with
   |.pv (.sc (.bool a)),.pv (.sc (.bool b))=>Js op (a==b) K
   |_,_=>False
 | .str _=>match x,y with
   | .pv (.agg xs),.pv (.agg ys)=>match i.cmp with
     | some ks=>match C8 ks xs ys with
       |some b=>Js op b K
       |none=>False
     |none=>False
   |_,_=>False
 | .zV _=>match x,y with
   |.pv (.sc (.pointer none)),.pv (.sc (.pointer none))=>Js op true K
   | x,.pv (.sc (.pointer none))=>match Eo x with
     |true=>Js op false K
     |false=>False
   |_,_=>False
 | .slt _=>match x,y with
   |.pv (.sc (.slice none _ _)),.pv (.sc (.slice none _ _))=>Js op true K
   |.pv (.sl true _ _),.pv (.sc (.slice none _ _))=>Js op false K
   |_,_=>False
 | .wW=>match x,y with
   |.pv (.sc .nilFunc),.pv (.sc .nilFunc)=>Js op true K
   | x,.pv (.sc .nilFunc)=>match Qh x with
     |true=>Js op false K
     |false=>False
   |_,_=>False
 |_=>False
def zW (T:Tab)(op:BinOp)(t:TypeId)(x y:AV)(K:AV→Prop):Prop:=
 match x,y with
 | .pv (.sc (.int k a)),.pv (.sc (.int j b))=>match C9 op with
   |true=>uM op k a b K
   | false=>match decide (k=j) with
     |true=>KC op k a b K
     |false=>False
 |.pv (.sc (.string a)),.pv (.sc (.string b))=>MZ op a b K
 | x,y=>match lk T t with
   |some i=>Hg i op x y K
   |none=>False
theorem Bz {N:Nat→Prop}{w:World}:∀{ks:List EK} {xs ys:List PV} {us vs:List Value} {b:Bool},FC (aU N w) xs us→FC (aU N w) ys vs→C8 ks xs ys=some b→iY ks us vs=some b
 | [],[],[],us,vs,b,h1,h2,e=>by
   simp only[FC] at h1 h2;subst h1;subst h2;simpa[C8,iY] using e
 |[],[],y::ys,us,vs,b,h1,h2,e=>by simp[C8] at e
 |[],x::xs,ys,us,vs,b,h1,h2,e=>by simp[C8] at e
 |k::ks,[],ys,us,vs,b,h1,h2,e=>by simp[C8] at e
 |k::ks,x::xs,[],us,vs,b,h1,h2,e=>by cases x<;>simp[C8] at e
 | k::ks,x::xs,y::ys,us,vs,b,h1,h2,e=>by
   obtain⟨u,us,rfl,_,hu,h1⟩:=h1;obtain⟨v,vs,rfl,_,hv,h2⟩:=h2;cases x<;>cases y<;>simp only[C8] at e<;>try (cases e;done)
   simp only[aU] at hu hv;subst hu;subst hv;split at e
   ·rename_i a ha;split at e
    ·split at e
     ·simp only[FC] at h1 h2;subst h1;subst h2;simp only[iY,ha];exact e
     cases e
    rename_i hne;split at e
    ·rename_i b' hb;have:=Bz h1 h2 hb;cases ks with
     |nil=>exact (hne rfl).elim
     |cons k2 ks=>simp only[iY,ha,this];exact e
    cases e
   cases e
section NI
variable {P:Program}{T:Tab}{N:Nat→Prop}{w:World}{hp:List (Nat×av)}{R:Real}
theorem BA {op:BinOp}{b:Bool}{K:AV→Prop}(h:Js op b K){t:TypeId}{x y:Value}(hx:(Op.equal t x y).run P w=.ok b w)
  (h1:(op=.eql→binOp op t x y=(do pure (.bool (←Op.equal t x y))))∧(op=.neq→binOp op t x y=(do pure (.bool (!(←Op.equal t x y)))))) :
  ∃v,(binOp op t x y).run P w=.ok v w∧∃p,K (.pv p)∧aU N w p v:=by
 cases op<;>simp only[Js] at h
 ·refine⟨.bool b,?_,_,h,by simp[aU]⟩;rw[h1.1 rfl];simp[hx]
 refine⟨.bool (!b),?_,_,h,by simp[aU]⟩;rw[h1.2 rfl];simp[hx]
theorem sN {b:AV}(h:Eo b=true){v:Value}(hv:ah N w hp R b v):∃a,v=.pointer (some a):=by
 cases b with
 | ptr b off=>
   simp only[ah] at hv;cases hb:lk hp b with
   |none=>rw[hb] at hv;exact hv.elim
   |some box=>rw[hb] at hv;cases box<;>simp only[aI] at hv<;>exact⟨_,hv⟩
 | pv p=>
   cases p<;>simp[Eo] at h
   simp only[ah,aU] at hv;obtain⟨g,base,cur,e,fr,h1,_⟩:=hv;exact⟨_,h1⟩
 |_=>simp[Eo] at h
theorem Qi {b:AV}(h:Qh b=true){v:Value}(hv:ah N w hp R b v):∃f a c,v=.func f a c:=by
 cases b with
 | fn f a c=>
   simp only[ah] at hv;obtain⟨fs,cs,h1,_⟩:=hv;exact⟨_,_,_,h1⟩
 | pv p=>
   cases p<;>simp[Qh] at h
   simp only[ah,aU] at hv;obtain⟨fs,cs,h1,_⟩:=hv;exact⟨_,_,_,h1⟩
 |_=>simp[Qh] at h
theorem eU (op:BinOp)(t:TypeId)(x y:Operand)(u v:Value)(h:(∀a b,u=.agg a→v=.agg b→False)∧(u=.nilIface→v=.nilIface→False)) :
  (eqGuard op t x y u v).run P w=.ok () w:=by
 obtain⟨h1,h2⟩:=h;unfold eqGuard;cases op<;>simp<;>(split<;>first|rfl|(exfalso;first|exact h2 rfl rfl|exact h1 _ _ rfl rfl))
theorem run_eqGuard_agg (op:BinOp)(t:TypeId)(x y:Operand)(a b:Array Value)(h:P.eqGuardType P.depth t=false) :
  (eqGuard op t x y (.agg a) (.agg b)).run P w=.ok () w:=by
 unfold eqGuard;cases op<;>simp[h]
theorem JN {m:Sem Value}{r:Value}{K:AV→Prop}(h:K (.pv (.sc r)))(hr:m.run P w=.ok r w) :
  ∃r,m.run P w=.ok r w∧∃p,K (.pv p)∧aU N w p r:=⟨r,hr,_,h,by simp only[aU]⟩
theorem Ik {op:BinOp}{k:IntKind}{a b:Int}{K:AV→Prop}(h:KC op k a b K)(t:TypeId)(hs:op ≠ .shl∧op ≠ .shr) :
  ∃r,(binOp op t (.int k a) (.int k b)).run P w=.ok r w∧∃p,K (.pv p)∧aU N w p r:=by
 obtain⟨s1,s2⟩:=hs;cases op<;>simp only[KC] at h<;>try (exact h.elim)
 all_goals first
  |exact absurd rfl s1
  |exact absurd rfl s2
  | (obtain⟨hb,h⟩:=h
     exact JN h (by simp[binOp,Op.intDiv,hb]))
  |exact JN h (by simp[binOp,Op.intArith,Op.intCmp,Op.intBits])
theorem Il {op:BinOp}{a b:ByteArray}{K:AV→Prop}(h:MZ op a b K)(t:TypeId) :
  ∃r,(binOp op t (.string a) (.string b)).run P w=.ok r w∧∃p,K (.pv p)∧aU N w p r:=by
 cases op<;>simp only[MZ] at h<;>try (exact h.elim)
 all_goals first
  | (obtain⟨hb,h⟩:=h
     refine JN h ?_;have:¬((a.size+b.size:Nat):Int)>IntKind.i64.max:=by
      have e:IntKind.i64.max=9223372036854775807:=by decide
      rw[e];omega
     simp only[binOp,Op.stringOp];rw[if_neg this];simp)
  |exact JN h (by simp[binOp,Op.stringOp])
theorem fin {op:BinOp}{b:Bool}{K:AV→Prop}(h:Js op b K){t:TypeId}{x y:Value}{xo yo:Operand}(hx:(Op.equal t x y).run P w=.ok b w)
  (h1:(op=.eql→binOp op t x y=(do pure (.bool (←Op.equal t x y))))∧(op=.neq→binOp op t x y=(do pure (.bool (!(←Op.equal t x y))))))
  (hg:(∀a b,x=.agg a→y=.agg b→False)∧(x=.nilIface→y=.nilIface→False)) :
  ∃r,(do eqGuard op t xo yo x y;binOp op t x y:Sem Value).run P w=.ok r w∧∃p,K (.pv p)∧aU N w p r:=by
 obtain⟨r,h3,h4⟩:=BA (N:=N) h hx h1;exact⟨r,by rw[Sem.run_bind,eU _ _ _ _ _ _ hg];exact h3,h4⟩
theorem Tm (d:Nat){t el:TypeId}(h:P.underlying t=some (.pointer el)):(Op.equalIn (d+1) t (.pointer none) (.pointer none)).run P w=.ok true w:=by
 simp[Op.equalIn,run_underlying h]
theorem Rn (d:Nat){t el:TypeId}(a:Addr)(h:P.underlying t=some (.pointer el)):(Op.equalIn (d+1) t (.pointer (some a)) (.pointer none)).run P w=.ok false w:=by
 simp[Op.equalIn,run_underlying h]
theorem Tn (d:Nat){t el:TypeId}(a b c e:Nat)(h:P.underlying t=some (.slice el)):(Op.equalIn (d+1) t (.slice none a b) (.slice none c e)).run P w=.ok true w:=by
 simp[Op.equalIn,run_underlying h]
theorem VF (d:Nat){t el:TypeId}(x:Addr)(a b c e:Nat)(h:P.underlying t=some (.slice el)):(Op.equalIn (d+1) t (.slice (some x) a b) (.slice none c e)).run P w=.ok false w:=by
 simp[Op.equalIn,run_underlying h]
theorem Tp (d:Nat){t:TypeId}{a b:Array TypeId}{c:Bool}(h:P.underlying t=some (.func a b c)):(Op.equalIn (d+1) t .nilFunc .nilFunc).run P w=.ok true w:=by
 simp[Op.equalIn,run_underlying h]
theorem VG (d:Nat){t:TypeId}{a b:Array TypeId}{c:Bool}(f:Fn)(x y:Array Value)(h:P.underlying t=some (.func a b c)):(Op.equalIn (d+1) t (.func f x y) .nilFunc).run P w=.ok false w:=by
 simp[Op.equalIn,run_underlying h]
theorem Im (i:TI){t:TypeId}(hi:bD P t i){op:BinOp}{x y:AV}{K:AV→Prop}(h:Hg i op x y K){u v:Value}
  (hx:ah N w hp R x u) (hy:ah N w hp R y v) (xo yo:Operand) :
  ∃r,(do eqGuard op t xo yo u v;binOp op t u v:Sem Value).run P w=.ok r w∧∃p,K (.pv p)∧aU N w p r:=by
 obtain⟨d,hd,eH⟩:=hi.eF;unfold Hg at h;split at h
 ·-- bool
  rename_i e;split at h;rotate_left;cases h
  simp only[ah,aU] at hx hy;subst hx;subst hy;have hd':P.underlying t=some .bool:=by
   rw[e] at eH;cases d<;>simp[di] at eH
   exact hd
  exact fin h (run_equalIn_bool w 9999 t _ _ hd') ⟨fun e=>by subst e;rfl,fun e=>by subst e;rfl⟩ ⟨fun _ _ ha _=>(by cases ha),fun ha _=>(by cases ha)⟩
 ·-- struct
  rename_i fs e;split at h;rotate_left;cases h
  rename_i x' y' xs ys;split at h;rotate_left;cases h
  rename_i ks hc;split at h;rotate_left;cases h
  rename_i b hb;simp only[ah,aU] at hx hy;obtain⟨us,rfl,hx⟩:=hx;obtain⟨vs,rfl,hy⟩:=hy;rw[dX] at hx hy;obtain⟨ho,hg⟩:=hi.cmp ks hc;have hr:=ho w us vs b (Bz hx hy hb);obtain⟨r,h3,h4⟩:=BA (N:=N) h hr ⟨fun e=>by subst e;rfl,fun e=>by subst e;rfl⟩;exact⟨r,by rw[Sem.run_bind,run_eqGuard_agg _ _ _ _ _ _ hg];exact h3,h4⟩
 ·-- pointer
  rename_i el e;have hd':P.underlying t=some (.pointer el):=by
   rw[e] at eH;cases d<;>simp[di] at eH
   subst eH;exact hd
  split at h
  ·simp only[ah,aU] at hx hy;subst hx;subst hy;exact fin h (Tm 9999 hd') ⟨fun e=>by subst e;rfl,fun e=>by subst e;rfl⟩ ⟨fun _ _ ha _=>(by cases ha),fun ha _=>(by cases ha)⟩
  ·split at h
   ·rename_i hp';obtain⟨a,rfl⟩:=sN hp' hx;simp only[ah,aU] at hy;subst hy;exact fin h (Rn 9999 a hd') ⟨fun e=>by subst e;rfl,fun e=>by subst e;rfl⟩ ⟨fun _ _ ha _=>(by cases ha),fun ha _=>(by cases ha)⟩
   exact h.elim
  exact h.elim
 ·-- slice
  rename_i el e;have hd':P.underlying t=some (.slice el):=by
   rw[e] at eH;cases d<;>simp[di] at eH
   subst eH;exact hd
  split at h
  ·simp only[ah,aU] at hx hy;subst hx;subst hy;exact fin h (Tn 9999 _ _ _ _ hd') ⟨fun e=>by subst e;rfl,fun e=>by subst e;rfl⟩ ⟨fun _ _ ha _=>(by cases ha),fun ha _=>(by cases ha)⟩
  ·simp only[ah,aU] at hx hy;subst hy;obtain⟨p,len,cap,rfl,_,_,hp',_⟩:=hx;cases p with
   |none=>exact absurd (hp' rfl).1 (by simp)
   | some a=>
     exact fin h (VF 9999 a _ _ _ _ hd') ⟨fun e=>by subst e;rfl,fun e=>by subst e;rfl⟩ ⟨fun _ _ ha _=>(by cases ha),fun ha _=>(by cases ha)⟩
  exact h.elim
 ·-- func
  rename_i e;have hd':∃a b c,P.underlying t=some (.func a b c):=by
   rw[e] at eH;cases d<;>simp[di] at eH
   exact⟨_,_,_,hd⟩
  obtain⟨fa,fb,fc,hd'⟩:=hd';split at h
  ·simp only[ah,aU] at hx hy;subst hx;subst hy;exact fin h (Tp 9999 hd') ⟨fun e=>by subst e;rfl,fun e=>by subst e;rfl⟩ ⟨fun _ _ ha _=>(by cases ha),fun ha _=>(by cases ha)⟩
  ·split at h
   ·rename_i hp';obtain⟨f,a,b,rfl⟩:=Qi hp' hx;simp only[ah,aU] at hy;subst hy;exact fin h (VG 9999 f a b hd') ⟨fun e=>by subst e;rfl,fun e=>by subst e;rfl⟩ ⟨fun _ _ ha _=>(by cases ha),fun ha _=>(by cases ha)⟩
   exact h.elim
  exact h.elim
 exact h.elim
theorem GK (hT:bC P T){t:TypeId}{op:BinOp}{x y:AV}{K:AV→Prop}(h:zW T op t x y K){u v:Value}
  (hx:ah N w hp R x u) (hy:ah N w hp R y v) (xo yo:Operand) :
  ∃r,(do eqGuard op t xo yo u v;binOp op t u v:Sem Value).run P w=.ok r w∧∃p,K (.pv p)∧aU N w p r:=by
 unfold zW at h;split at h
 ·rename_i k a j b;simp only[ah,aU] at hx hy;subst hx;subst hy;split at h
  ·unfold uM at h;split at h
   ·obtain⟨h0,h⟩:=h;refine⟨_,by rw[Sem.run_bind,eU _ _ _ _ _ _ ⟨fun _ _ ha _=>(by cases ha),fun ha _=>(by cases ha)⟩];simp only[Result.andThen_ok,binOp,Op.shift];rw[if_neg (by omega)];rfl,_,h,by simp only[aU]⟩
   ·obtain⟨h0,h⟩:=h;refine⟨_,by rw[Sem.run_bind,eU _ _ _ _ _ _ ⟨fun _ _ ha _=>(by cases ha),fun ha _=>(by cases ha)⟩];simp only[Result.andThen_ok,binOp,Op.shift];rw[if_neg (by omega)];rfl,_,h,by simp only[aU]⟩
   exact h.elim
  rename_i hsh;split at h;rotate_left;cases h
  rename_i hk;have hk:=of_decide_eq_true hk;subst hk;have key:op ≠ .shl∧op ≠ .shr∧KC op k a b K:=⟨by rintro rfl;simp[C9] at hsh,by rintro rfl;simp[C9] at hsh,h⟩;obtain⟨r,h1,h2⟩:=Ik (P:=P) (N:=N) (w:=w) key.2.2 t ⟨key.1,key.2.1⟩;exact⟨r,by rw[Sem.run_bind,eU _ _ _ _ _ _ ⟨fun _ _ ha _=>(by cases ha),fun ha _=>(by cases ha)⟩];exact h1,h2⟩
 ·simp only[ah,aU] at hx hy;subst hx;subst hy;obtain⟨r,h1,h2⟩:=Il (P:=P) (N:=N) (w:=w) h t;exact⟨r,by rw[Sem.run_bind,eU _ _ _ _ _ _ ⟨fun _ _ ha _=>(by cases ha),fun ha _=>(by cases ha)⟩];exact h1,h2⟩
 split at h
 ·rename_i i hi;exact Im i (hT t i hi) h hx hy xo yo
 exact h.elim
end NI
end
def iG:Op→List Operand
 |.move x=>[x]
 |.assign x=>[x]
 |.pick c a b=>[c,a,b]
 |.alloc _=>[]
 |.box _ v=>[v]
 |.build _ ps=>ps.toList.map (·.2)
 |.buildSlice _ _ ps=>ps.toList.map (·.2)
 |.load _ a=>[a]
 |.store _ a v=>[a,v]
 |.nilCheck x=>[x]
 |.binOp _ _ x y _=>[x,y]
 |.unOp _ _ x=>[x]
 |.convert _ _ x=>[x]
 |.makeFunc _ f c=>f.toList++c.toList
 |.makeSlice _ l c=>[l,c]
 |.slice _ x l h m=>x::(l.toList++(h.toList++m.toList))
 |.fieldAddr _ x _=>[x]
 |.field _ x _=>[x]
 |.indexAddr _ x i=>[x,i]
 |.index _ x i=>[x,i]
 |.extract t _=>[t]
 |.makeMap _ r=>r.toList
 |.lookup _ m k _=>[m,k]
 |.mapUpdate _ m k v=>[m,k,v]
 | .call c=>match c.callee with
   |.value f=>f::c.args.toList
   |_=>c.args.toList
 |_=>[]
section
variable {α:Type}{R:α→Value→Prop}{f:Operand→Value}
theorem Mc {x:α}{a:Operand}(h:FL R [x] (List.map f [a])):R x (f a):=by
 obtain⟨v,r,e,h1,_⟩:=h;simp only[List.map,List.cons.injEq] at e;rw[e.1];exact h1
theorem Pw {x y:α}{a b:Operand}(h:FL R [x,y] (List.map f [a,b])):R x (f a)∧R y (f b):=by
 obtain⟨v,r,e,h1,u,s,e',h2,_⟩:=h;simp only[List.map,List.cons.injEq] at e;obtain⟨e1,rfl⟩:=e;simp only[List.cons.injEq] at e';rw[e1,e'.1];exact⟨h1,h2⟩
theorem FL3 {x y z:α}{a b c:Operand}(h:FL R [x,y,z] (List.map f [a,b,c])):R x (f a)∧R y (f b)∧R z (f c):=by
 obtain⟨v,r,e,h1,h'⟩:=h;simp only[List.map,List.cons.injEq] at e;obtain⟨e1,rfl⟩:=e;have:=Pw (f:=f) (a:=b) (b:=c) (by simpa using h');rw[e1];exact⟨h1,this⟩
end
def AS.app (s:AS)(ws:List (Nat×av)):AS:=⟨s.tm,s.nx,ws++s.hp⟩
def nL (i:TI)(cs:List AV)(K:AV→Prop):Prop:=
 match i.d.isAgg with
 | true=>match sH cs with
   |some v=>K v
   |none=>False
 | false=>match cs with
   |[v]=>K v
   |_=>False
def sP (i:TI)(cs:List PV)(K:AV→Prop):Prop:=
 match i.d.isAgg with
 |true=>K (.pv (.agg cs))
 | false=>match cs with
   |[v]=>K (.pv v)
   |_=>False
def o7 (T:Tab)(H:List (Nat×av))(t:TypeId)(x:AV)(K:AV→Prop):Prop:=
 match lk T t with
 |none=>False
 | some i=>match x with
   | .ptr b off=>match lk H b with
     | some (.var cells)=>match part off i.size cells with
       |some cs=>nL i cs K
       |none=>False
     | some (.ny cells)=>match part off i.size cells with
       |some cs=>sP i cs K
       |none=>False
     |_=>False
   | .pv (.bT row off)=>match part off i.size row with
     |some cs=>sP i cs K
     |none=>False
   | .cB b ver k off=>match lk H b with
     | some (.arr _ v _ rows)=>match Nat.beq ver v with
       | true=>∃row,rows[k]? = some row∧match part off i.size row with
         |some cs=>sP i cs K
         |none=>False
       |false=>False
     | some (.bX v _ rows)=>match Nat.beq ver v with
       | true=>∃row,rows[k]? = some row∧match part off i.size row with
         |some cs=>sP i cs K
         |none=>False
       |false=>False
     |_=>False
   |_=>False
section
variable {P:Program}{T:Tab}{N:Nat→Prop}{w:World}{hp:List (Nat×av)}{R:Real}
theorem E5 (i:TI){t:TypeId}(hi:bD P t i){g off:Nat}{cur:Array Value}{e:TypeId}{fr:Nat×Nat}{cells cs:List AV}{K:AV→Prop}
  (hg:w.heap[g]? = some (.cells cur e fr)) (hc:FC (ah N w hp R) cells cur.toList) (hp':part off i.size cells=some cs)
  (h:nL i cs K) :
  ∃x v,(loadVar t ⟨g,off,none⟩).run P w=.ok x w∧K v∧ah N w hp R v x:=by
 obtain⟨hl,hcs⟩:=hc.fp.part hp';have hrun:=jh (w:=w) hi hg (by simpa using hl);cases ha:i.d.isAgg with
 | true=>
   simp only[nL,ha] at h;simp only[ha] at hrun;unfold sH at h;split at h;rotate_left;cases h
   rename_i v hv;refine⟨_,v,hrun,h,?_⟩;split at hv
   ·rename_i ps hps;simp only[Option.some.injEq] at hv;subst hv;simp only[ah,aU,if_true];refine⟨_,rfl,?_⟩;rw[dX];have:∀(cs:List AV) (ps:List PV) (vs:List Value),gu cs=some ps→FC (ah N w hp R) cs vs→FC (aU N w) ps vs:=by
     intro cs;induction cs with
     |nil=>intro ps vs h h';simp only[gu,Option.some.injEq] at h;subst h;exact h'
     | cons c cs ih=>
       intro ps vs h h';obtain⟨v,r,rfl,h1,h2,h3⟩:=h';cases c<;>simp only[gu] at h<;>try (cases h;done)
       split at h
       ·rename_i Yr l6;simp only[Option.some.injEq] at h;subst h;exact⟨v,r,rfl,h1,by simpa only[ah] using h2,ih _ _ l6 h3⟩
       cases h
    exact this cs ps _ hps (by simpa using hcs)
   simp only[Option.some.injEq] at hv;subst hv;simp only[ah,if_true];refine⟨_,rfl,?_⟩;rw[aY];simpa using hcs
 | false=>
   have h1:=hi.agg ha;simp only[nL,ha] at h;simp only[ha,Bool.false_eq_true,if_false] at hrun;split at h;rotate_left;cases h
   rename_i v;obtain⟨u,r,e1,e2,e3,e4⟩:=hcs;refine⟨_,_,hrun,h,?_⟩;have:cur[off]! = u:=by
    have hlt:off<cur.size:=by simp at hl;omega
    rw[getElem!_pos cur off hlt];have hh:((cur.toList.drop off).take i.size)[0]? = some u:=by rw[e1];rfl
    rw[h1] at hh;simp only[List.getElem?_take,Nat.zero_lt_one,if_true,List.getElem?_drop,Nat.add_zero] at hh;have h3:cur[off]? = some u:=by simpa using hh
    rw[Array.getElem?_eq_getElem hlt] at h3;exact Option.some.inj h3
   rw[this];exact e3
theorem lV (i:TI){t:TypeId}(hi:bD P t i){g base off:Nat}{cur:Array Value}{e:TypeId}{fr:Nat×Nat}{cells cs:List PV}{K:AV→Prop}
  (hg:w.heap[g]? = some (.cells cur e fr)) (hc:FP (aU N w) cells (cur.toList.drop base)) (hp':part off i.size cells=some cs)
  (h:sP i cs K) :
  ∃x v,(loadVar t ⟨g,base+off,none⟩).run P w=.ok x w∧K v∧ah N w hp R v x:=by
 obtain⟨hl,hcs⟩:=hc.part hp';rw[List.drop_drop] at hcs;have hl':i.size=0∨base+off+i.size≤cur.size:=by simp at hl;omega
 cases ha:i.d.isAgg with
 | true=>
   simp only[sP,ha] at h;by_cases hz:base+off+i.size≤cur.size
   ·have hrun:=jh (w:=w) hi hg hz;simp only[ha,if_true] at hrun;refine⟨_,_,hrun,h,?_⟩;simp only[ah,aU];exact⟨_,rfl,by rw[dX];simpa using hcs⟩
   have hz0:=hl'.resolve_right hz;refine⟨.agg #[],_,?_,h,?_⟩
   ·simp[loadVar,hi.mU,ha,hi.run_sizeOf,hz0,loadCells,loadCellsFrom]
   simp only[ah,aU];exact⟨_,rfl,by rw[dX];simpa[hz0] using hcs⟩
 | false=>
   have h1:=hi.agg ha;have hz:base+off+i.size≤cur.size:=by omega
   have hrun:=jh (w:=w) hi hg hz;simp only[sP,ha] at h;simp only[ha,Bool.false_eq_true,if_false] at hrun;split at h;rotate_left;cases h
   rename_i v;obtain⟨u,r,e1,e2,e3,e4⟩:=hcs;refine⟨_,_,hrun,h,?_⟩;have:cur[base+off]! = u:=by
    have hlt:base+off<cur.size:=by omega
    rw[getElem!_pos cur (base+off) hlt];have hh:((cur.toList.drop (base+off)).take i.size)[0]? = some u:=by rw[e1];rfl
    rw[h1] at hh;simp only[List.getElem?_take,Nat.zero_lt_one,if_true,List.getElem?_drop,Nat.add_zero] at hh;have h3:cur[base+off]? = some u:=by simpa using hh
    rw[Array.getElem?_eq_getElem hlt] at h3;exact Option.some.inj h3
   rw[this];simpa only[ah] using e3
end
section
variable {P:Program}{T:Tab}{c:Ctx}{R:Real}{s:AS}{a:Act}{w:World}
theorem d9 {N:Nat→Prop}{hp:List (Nat×av)}{b:Nat}{e:TypeId}{ver st:Nat}{rows:List (List PV)}(h:dm N w hp R b (.arr e ver st rows))(hn:R.nil b=false) :
  ∃cur,w.heap[R.blk b]? = some (.cells cur e (0,0))∧cur.size=(R.cap b).1*st∧rows.length≤(R.cap b).1∧(R.cap b).1≤maxLen∧bf N w st rows cur.toList ∧
   cur.toList.take (rows.length*st)=cur.toList.take (rows.length*st):=by
 obtain⟨xs,⟨h1,h2⟩,h3⟩:=h;rcases h2 with ⟨h2,_⟩|⟨g,cap,cur,e1,_,hg,hle,hm,hs,ht⟩
 ·simp[bA,hn] at h2
 simp only[bA,hn,Bool.false_eq_true,if_false,Value.slice.injEq,Option.some.injEq,Addr.mk.injEq,and_true,true_and] at e1;obtain⟨rfl,rfl⟩:=e1;refine⟨cur,hg,hs,hle,hm,?_,rfl⟩;have:=jK (cur.toList.drop (rows.length*st)) h3;rw[←ht,List.take_append_drop] at this;exact this
theorem o8 (g:aR c R s a w)(hT:bC P T){H:List (Nat×av)}(hH:∀b box,lk H b=some box→lk s.hp b=some box){t:TypeId}{x:AV}{K:AV→Prop}
  (h:o7 T H t x K) {u:Value} (hx:ah (aH c R s.hp) w s.hp R x u) :
  ∃y v,(Instr.loadAt t u).run P w=.ok y w∧K v∧ah (aH c R s.hp) w s.hp R v y:=by
 unfold o7 at h;split at h
 ·exact h.elim
 rename_i i hi;have hi':=hT t i hi;split at h
 ·rename_i b off;simp only[ah] at hx;split at h
  ·rename_i cells hb;have hb':=hH _ _ hb;rw[hb'] at hx;simp only[aI] at hx;subst hx;split at h;rotate_left;cases h
   rename_i cs hcs;obtain⟨cur,e,hg,hc⟩:=(g.boxes b _ hb');rw[aY] at hc;obtain⟨y,v,h1,h2,h3⟩:=E5 i hi' hg hc hcs h;exact⟨y,v,by simpa[Instr.loadAt,Instr.sureAddr] using h1,h2,h3⟩
  ·rename_i cells hb;have hb':=hH _ _ hb;rw[hb'] at hx;simp only[aI] at hx;subst hx;split at h;rotate_left;cases h
   rename_i cs hcs;obtain⟨cur,e,fr,hg,hn,hc⟩:=(g.boxes b _ hb');rw[bM] at hc;obtain⟨y,v,h1,h2,h3⟩:=lV (base:=0) (hp:=s.hp) (R:=R) i hi' hg (by simpa using hc) hcs h;exact⟨y,v,by simpa[Instr.loadAt,Instr.sureAddr] using h1,h2,h3⟩
  exact h.elim
 ·rename_i row off;simp only[ah,aU] at hx;obtain⟨gg,base,cur,e,fr,rfl,hn,hg,hc⟩:=hx;rw[bM] at hc;split at h
  ·rename_i cs hcs;obtain⟨y,v,h1,h2,h3⟩:=lV (hp:=s.hp) (R:=R) i hi' hg hc hcs h;exact⟨y,v,by simpa[Instr.loadAt,Instr.sureAddr] using h1,h2,h3⟩
  exact h.elim
 ·rename_i b ver k off;simp only[ah] at hx;split at h
  ·rename_i e v st rows hb;have hb':=hH _ _ hb;rw[hb'] at hx;simp only[aK] at hx;split at h;rotate_left;cases h
   rename_i hv;obtain⟨hn,rfl⟩:=hx.2.2 (Nat.eq_of_beq_eq_true hv);obtain⟨row,hrow,h⟩:=h;split at h;rotate_left;cases h
   rename_i cs hcs;obtain⟨cur,hg,hs,hle,hm,hr,_⟩:=d9 (g.boxes b _ hb') hn;obtain⟨hl,Qj⟩:=mR hr hrow;rw[bM] at Qj;obtain⟨y,v,h1,h2,h3⟩:=lV (hp:=s.hp) (R:=R) i hi' hg Qj hcs h;exact⟨y,v,by simpa[Instr.loadAt,Instr.sureAddr] using h1,h2,h3⟩
  ·rename_i v st rows hb;have hb':=hH _ _ hb;rw[hb'] at hx;simp only[aK] at hx;split at h;rotate_left;cases h
   rename_i hv;obtain⟨hn,rfl⟩:=hx.2.2 (Nat.eq_of_beq_eq_true hv);obtain⟨row,hrow,h⟩:=h;split at h;rotate_left;cases h
   rename_i cs hcs;have hre:=(g.boxes b _ hb');simp only[dm,aU,bA,hn,Bool.false_eq_true,if_false] at hre;obtain⟨p,len,cap,e1,e2,e3,_,e4⟩:=hre;simp only[Value.slice.injEq] at e1;obtain⟨rfl,rfl,rfl⟩:=e1;rcases e4 _ rfl with e5|⟨_,_,cur,e,fr,hg,hr⟩
   ·subst e5;simp at hrow
   simp only[List.drop_zero] at hr;obtain⟨hl,Qj⟩:=mR hr hrow;rw[bM] at Qj;obtain⟨y,v,h1,h2,h3⟩:=lV (hp:=s.hp) (R:=R) i hi' hg Qj hcs h;exact⟨y,v,by simpa[Instr.loadAt,Instr.sureAddr] using h1,h2,h3⟩
  exact h.elim
 exact h.elim
end
def nth {α:Type}:List α→Nat→Option α
 |[],_=>none
 |a::_,0=>some a
 |_::r,n+1=>nth r n
theorem o6 {α:Type}:∀(l:List α) (n:Nat),nth l n=l[n]?
 |[],_=>by simp[nth]
 |a::_,0=>by simp[nth]
 |_::r,n+1=>by simp[nth,o6 r n]
def sG (T:Tab)(t:TypeId)(f:Nat):Option (Nat×TI):=
 match lk T t with
 | some i=>match i.d with
   | .str fs=>match nth fs f with
     | some (off,ft)=>match lk T ft with
       |some j=>some (off,j)
       |none=>none
     |none=>none
   |_=>none
 |none=>none
def Jr:Option av→Option Nat
 |some (.arr _ v _ _)=>some v
 |some (.bX v _ _)=>some v
 |some (.dL _ v _ _ _ _)=>some v
 |some (.bR _ v _ _ _ _ _ _ _)=>some v
 |_=>none
def jq (T:Tab)(H:List (Nat×av))(t:TypeId)(x:AV)(f:Nat)(K:AV→Prop):Prop:=
 match sG T t f with
 | some (off,j)=>match Nat.beq j.size 0 with
   |true=>False
   | false=>match x with
     |.ptr b o=>K (.ptr b (o+off))
     | .cB b ver i o=>match Jr (lk H b) with
       | some v=>match Nat.beq ver v with
         |true=>K (.cB b ver i (o+off))
         |false=>False
       |none=>False
     |.pv (.bT row o)=>K (.pv (.bT row (o+off)))
     |_=>False
 |none=>False
def Ee (T:Tab)(t:TypeId)(x:AV)(f:Nat)(K:AV→Prop):Prop:=
 match sG T t f with
 | some (off,j)=>match x with
   | .pv (.agg cs)=>match part off j.size cs with
     |some ds=>sP j ds K
     |none=>False
   | .agg cs=>match part off j.size cs with
     |some ds=>nL j ds K
     |none=>False
   |_=>False
 |none=>False
def cK (T:Tab)(H:List (Nat×av))(t:TypeId)(x ix:AV)(K:AV→Prop):Prop:=
 match ix with
 | .pv (.sc (.int _ i))=>match lk T t with
   | some ti=>match ti.d with
     | .slt e=>match lk T e with
       | some ei=>match x with
         | .pv (.sl _ st rows)=>match Nat.beq st ei.size with
           |true=>0≤i∧∃row,rows[i.toNat]? = some row∧K (.pv (.bT row 0))
           |false=>False
         | .aG b ver=>match lk H b with
           | some (.arr _ v st rows)=>match Nat.beq ver v,Nat.beq st ei.size with
             |true,true=>0≤i∧i.toNat<rows.length∧K (.cB b ver i.toNat 0)
             |_,_=>False
           | some (.bX v st rows)=>match Nat.beq ver v,Nat.beq st ei.size with
             |true,true=>0≤i∧∃row,rows[i.toNat]? = some row∧K (.pv (.bT row 0))
             |_,_=>False
           |_=>False
         |_=>False
       |none=>False
     | .Lb n e=>match lk T e with
       | some ei=>match x with
         |.ptr b off=>0≤i∧i<n∧K (.ptr b (off+i.toNat*ei.size))
         |_=>False
       |none=>False
     |_=>False
   |none=>False
 |_=>False
def kP (T:Tab)(t:TypeId)(x ix:AV)(K:AV→Prop):Prop:=
 match ix with
 | .pv (.sc (.int _ i))=>match lk T t with
   | some ti=>match ti.d with
     | .D9=>match x with
       |.pv (.sc (.string s))=>0≤i∧∃b,s.data.toList[i.toNat]? = some b∧K (.pv (.sc (.int .u8 b.toNat)))
       |_=>False
     |_=>False
   |none=>False
 |_=>False
def mH (x:AV)(i:Nat)(K:AV→Prop):Prop:=
 match x with
 | .fF vs=>match nth vs i with
   |some v=>K v
   |none=>False
 | .pv (.fF vs)=>match nth vs i with
   |some v=>K (.pv v)
   |none=>False
 |_=>False
def UE (op:UnOp)(x:AV)(K:AV→Prop):Prop:=
 match op,x with
 |.not,.pv (.sc (.bool b))=>K (.pv (.sc (.bool (!b))))
 |.neg,.pv (.sc (.int k n))=>K (.pv (.sc (.int k (k.wrap (0-n)))))
 |_,_=>False
def aB (b:UInt8):List PV:=[.sc (.int .u8 b.toNat)]
def oQ (T:Tab)(H:List (Nat×av))(src dst:TypeId)(x:AV)(K:AV→Prop):Prop:=
 match lk T src,lk T dst with
 | some si,some dt=>match dt.d with
   | .q8 k=>match x with
     |.pv (.sc (.int _ n))=>K (.pv (.sc (.int k (k.wrap n))))
     |_=>False
   | .D9=>match si.d with
     | .D9=>match x with
       |.pv (.sc (.string s))=>K (.pv (.sc (.string s)))
       |_=>False
     | .slt e=>match lk T e with
       | some ei=>match ei.d with
         | .q8 .u8=>match x with
           |.pv (.sc (.slice none _ _))=>K (.pv (.sc (.string .empty)))
           | _=>match vw H x with
             | some (.sl _ st rows)=>match Nat.beq st 1 with
               |true=>∃bs:List UInt8,rows=bs.map aB∧K (.pv (.sc (.string ⟨bs.toArray⟩)))
               |false=>False
             |_=>False
         |_=>False
       |none=>False
     |_=>False
   |_=>False
 |_,_=>False
def yu (T:Tab)(H:List (Nat×av))(t:TypeId)(x:AV)(K:AV→Prop):Prop:=
 match lk T t with
 | some i=>match i.d with
   | .D9=>match x with
     |.pv (.sc (.string s))=>K (.pv (.sc (.int .i64 s.size)))
     |_=>False
   | .slt _=>match x with
     |.pv (.sc (.slice none n _))=>K (.pv (.sc (.int .i64 n)))
     | _=>match vw H x with
       |some (.sl _ _ rows)=>K (.pv (.sc (.int .i64 rows.length)))
       |_=>False
   |.Lb n _=>K (.pv (.sc (.int .i64 n)))
   |_=>False
 |none=>False
section
variable {P:Program}{T:Tab}{c:Ctx}{R:Real}{s:AS}{a:Act}{w:World}
theorem l5 (hT:bC P T){t:TypeId}{f off:Nat}{j:TI}(h:sG T t f=some (off,j)) :
  ∃fs fd,P.underlying t=some (.struct fs)∧fs[f]? = some fd∧fd.offset=off∧bD P fd.type j:=by
 unfold sG at h;split at h
 ·rename_i i hi;split at h
  ·rename_i l hl;split at h
   ·rename_i o ft hn;split at h
    ·rename_i j' hj;simp only[Option.some.injEq,Prod.mk.injEq] at h;obtain⟨rfl,rfl⟩:=h;obtain⟨d,hd,eH⟩:=(hT t i hi).eF;rw[hl] at eH;cases d<;>simp[di] at eH
     rename_i fs;subst eH;rw[o6] at hn;simp only[List.getElem?_map,Option.map_eq_some_iff,Prod.mk.injEq] at hn;obtain⟨fd,h1,rfl,rfl⟩:=hn;exact⟨fs,fd,hd,by simpa using h1,rfl,hT _ _ hj⟩
    cases h
   cases h
  cases h
 cases h
theorem xY {b ver i off:Nat}{v:Value}{o:Option av}(h:aK R b ver i off v o){k:Nat}(hk:Jr o=some k)(e:ver=k) :
  ∃st,R.nil b=false∧v=.pointer (some ⟨R.blk b,i*st+off,none⟩)∧∀Lc,aK R b ver i Lc (.pointer (some ⟨R.blk b,i*st+Lc,none⟩)) o:=by
 cases o with
 |none=>exact h.elim
 | some box=>
   cases box<;>simp only[aK] at h<;>simp only[Jr,Option.some.injEq] at hk<;>try (first|exact h.elim|(cases hk;done))
   ·obtain⟨hn,hv⟩:=h.2.2 (e.trans hk.symm);refine⟨_,hn,hv,fun Lc=>?_⟩;exact⟨h.1,rfl,fun _=>⟨hn,rfl⟩⟩
   ·obtain⟨hn,hv⟩:=h.2.2 (e.trans hk.symm);refine⟨_,hn,hv,fun Lc=>?_⟩;exact⟨h.1,rfl,fun _=>⟨hn,rfl⟩⟩
   ·obtain⟨hn,hv⟩:=h.2.2 (e.trans hk.symm);refine⟨_,hn,hv,fun Lc=>?_⟩;exact⟨h.1,rfl,fun _=>⟨hn,rfl⟩⟩
   obtain⟨hn,hv⟩:=h.2.2 (e.trans hk.symm);refine⟨_,hn,hv,fun Lc=>?_⟩;exact⟨h.1,rfl,fun _=>⟨hn,rfl⟩⟩
theorem uK (hT:bC P T){N:Nat→Prop}{hp:List (Nat×av)}{H:List (Nat×av)}(hH:∀b box,lk H b=some box→lk hp b=some box)
  {t:TypeId} {x:AV} {f:Nat} {K:AV→Prop} (h:jq T H t x f K)
  {u:Value} (hx:ah N w hp R x u) :
  ∃y v,(Instr.fieldAt t u f).run P w=.ok y w∧K v∧ah N w hp R v y:=by
 unfold jq at h;split at h;rotate_left;cases h
 rename_i off j hf;split at h
 ·exact h.elim
 rename_i hz;have hz:j.size≠0:=Nat.ne_of_beq_eq_false hz;obtain⟨fs,fd,h1,h2,rfl,h4⟩:=l5 hT hf;have run:∀g o,(Instr.fieldAt t (.pointer (some ⟨g,o,none⟩)) f).run P w=.ok (.pointer (some ⟨g,o+fd.offset,none⟩)) w:=by
  intro g o;simp[Instr.fieldAt,run_underlying h1,h2,Instr.sureAddr,fieldPlace,h4.run_sizeOf,hz,addr_add]
 split at h
 ·rename_i b o;simp only[ah] at hx;cases hb:lk hp b with
  |none=>rw[hb] at hx;exact hx.elim
  | some box=>
    rw[hb] at hx;cases box<;>simp only[aI] at hx<;>(subst hx;exact⟨_,_,run _ _,h,by simp only[ah,hb,aI]⟩)
 ·rename_i b ver i o;split at h;rotate_left;cases h
  rename_i v hv;split at h;rotate_left;cases h
  rename_i dD;simp only[ah] at hx;cases hb:lk H b with
  |none=>rw[hb] at hv;cases hv
  | some box=>
    rw[hb,←hH _ _ hb] at hv;obtain⟨st,hn,hu,hr⟩:=xY hx hv (Nat.eq_of_beq_eq_true dD);subst hu;exact⟨_,_,run _ _,h,by simp only[ah];rw[Nat.add_assoc];exact hr _⟩
 ·rename_i row o;simp only[ah,aU] at hx;obtain⟨g,base,cur,e,fr,rfl,hx⟩:=hx;refine⟨_,_,run _ _,h,?_⟩;simp only[ah,aU];exact⟨g,base,cur,e,fr,by rw[Nat.add_assoc],hx⟩
 exact h.elim
theorem xZ {N:Nat→Prop}{hp:List (Nat×av)}{x:AV}{i:Nat}{K:AV→Prop}(h:mH x i K){u:Value}(hx:ah N w hp R x u) :
  ∃y v,(Instr.extract u i).run P w=.ok y w∧K v∧ah N w hp R v y:=by
 unfold mH at h;split at h
 ·split at h
  ·rename_i vs v hv;simp only[ah] at hx;obtain⟨us,rfl,hx⟩:=hx;rw[bZ] at hx;rw[o6] at hv;obtain⟨y,h1,h2⟩:=hx.get hv;refine⟨y,v,?_,h,h2⟩;have:us[i]? = some y:=by simpa using h1
   simp[Instr.extract,this]
  exact h.elim
 ·split at h
  ·rename_i vs v hv;simp only[ah,aU] at hx;obtain⟨us,rfl,hx⟩:=hx;rw[iF] at hx;rw[o6] at hv;obtain⟨y,h1,h2⟩:=hx.get hv;refine⟨y,_,?_,h,by simpa only[ah] using h2⟩;have:us[i]? = some y:=by simpa using h1
   simp[Instr.extract,this]
  exact h.elim
 exact h.elim
theorem Kq {N:Nat→Prop}{hp:List (Nat×av)}{op:UnOp}{x:AV}{K:AV→Prop}(h:UE op x K){u:Value}(hx:ah N w hp R x u) :
  ∃y v,(Op.unary op u).run P w=.ok y w∧K v∧ah N w hp R v y:=by
 unfold UE at h;split at h
 ·rename_i b;simp only[ah,aU] at hx;subst hx;exact⟨.bool (!b),_,by simp[Op.unary],h,by simp only[ah,aU]⟩
 ·rename_i k n;simp only[ah,aU] at hx;subst hx;exact⟨.int k (k.wrap (0-n)),_,by simp[Op.unary,Op.intArith],h,by simp only[ah,aU]⟩
 exact h.elim
theorem Ld {α:Type}{off n:Nat}{l x:List α}(h:part off n l=some x):x.length=n∧off+n≤l.length∧x=(l.drop off).take n:=by
 have hd:∀(n:Nat) (l r:List α),iE n l=some r→n≤l.length∧r=l.drop n:=by
  intro n;induction n with
  |zero=>intro l r h;simp only[iE,Option.some.injEq] at h;subst h;simp
  | succ n ih=>
    intro l r h;cases l with
    |nil=>simp[iE] at h
    |cons a l=>simp only[iE] at h;have:=ih l r h;simpa using this
 have ht:∀(n:Nat) (l r:List α),iq n l=some r→n≤l.length∧r=l.take n:=by
  intro n;induction n with
  |zero=>intro l r h;simp only[iq,Option.some.injEq] at h;subst h;simp
  | succ n ih=>
    intro l r h;cases l with
    |nil=>simp[iq] at h
    | cons a l=>
      simp only[iq] at h;split at h
      ·rename_i t ht;simp only[Option.some.injEq] at h;subst h;have:=ih l t ht;refine⟨by simp[this.1],by simp[this.2]⟩
      cases h
 unfold part at h;split at h
 ·rename_i r hr;obtain⟨h1,rfl⟩:=hd _ _ _ hr;obtain⟨h2,rfl⟩:=ht _ _ _ h;simp only[List.length_drop] at h2;refine⟨by simp;omega,by omega,rfl⟩
 cases h
theorem yT {N:Nat→Prop}{hp:List (Nat×av)}{i:TI}{t:TypeId}(hi:bD P t i){ds:List AV}{K:AV→Prop}(h:nL i ds K){vs:Array Value}{off:Nat}
  (hd:FC (ah N w hp R) ds ((vs.toList.drop off).take i.size)) (_:off+i.size≤vs.size) :
  ∃y v,(Go.part t vs off).run P w=.ok y w∧K v∧ah N w hp R v y:=by
 unfold nL at h;split at h
 ·rename_i ha;unfold sH at h;split at h;rotate_left;cases h
  rename_i v hv;refine⟨.agg (vs.extract off (off+i.size)),v,?_,h,?_⟩
  ·simp[Go.part,hi.mU,ha,hi.run_sizeOf]
  have e:(vs.extract off (off+i.size)).toList=(vs.toList.drop off).take i.size:=by
   simp[Array.toList_extract,List.extract]
  split at hv
  ·rename_i ps hps;simp only[Option.some.injEq] at hv;subst hv;simp only[ah,aU];refine⟨_,rfl,?_⟩;rw[dX,e];have:∀(cs:List AV) (ps:List PV) (vs:List Value),gu cs=some ps→FC (ah N w hp R) cs vs→FC (aU N w) ps vs:=by
    intro cs;induction cs with
    |nil=>intro ps vs h h';simp only[gu,Option.some.injEq] at h;subst h;exact h'
    | cons c cs ih=>
      intro ps vs h h';obtain⟨v,r,rfl,h1,h2,h3⟩:=h';cases c<;>simp only[gu] at h<;>try (cases h;done)
      split at h
      ·rename_i Yr l6;simp only[Option.some.injEq] at h;subst h;exact⟨v,r,rfl,h1,by simpa only[ah] using h2,ih _ _ l6 h3⟩
      cases h
   exact this _ _ _ hps hd
  simp only[Option.some.injEq] at hv;subst hv;simp only[ah];refine⟨_,rfl,?_⟩;rw[aY,e];exact hd
 rename_i ha;have h1:=hi.agg ha;split at h;rotate_left;cases h
 rename_i v;obtain⟨u,r,e1,e2,e3,e4⟩:=hd;refine⟨u,_,?_,h,e3⟩;have hh:((vs.toList.drop off).take i.size)[0]? = some u:=by rw[e1];rfl
 rw[h1] at hh;simp only[List.getElem?_take,Nat.zero_lt_one,if_true,List.getElem?_drop,Nat.add_zero] at hh;have h3:vs[off]? = some u:=by simpa using hh
 simp[Go.part,hi.mU,ha,h3]
theorem Le {i:TI}{ds:List PV}{K:AV→Prop}(h:sP i ds K):nL i (ds.map .pv) K:=by
 have hall:∀l:List PV,gu (l.map AV.pv)=some l:=by
  intro l;induction l with
  |nil=>rfl
  |cons p r ih=>simp[gu,ih]
 unfold sP at h;unfold nL;split at h
 ·rename_i ha;simp only[sH,hall];exact h
 rename_i ha;split at h
 ·exact h
 exact h.elim
theorem GN (hT:bC P T){N:Nat→Prop}{hp:List (Nat×av)}{t:TypeId}{x:AV}{f:Nat}{K:AV→Prop}(h:Ee T t x f K){u:Value}(hx:ah N w hp R x u) :
  ∃y v,(Instr.field t u f).run P w=.ok y w∧K v∧ah N w hp R v y:=by
 unfold Ee at h;split at h;rotate_left;cases h
 rename_i off j hf;obtain⟨fs,fd,h1,h2,rfl,h4⟩:=l5 hT hf;have key:∀(cs:List AV) (us:Array Value) (ds:List AV),FC (ah N w hp R) cs us.toList→part fd.offset j.size cs=some ds→nL j ds K →
   ∃y v,(Instr.field t (.agg us) f).run P w=.ok y w∧K v∧ah N w hp R v y:=by
  intro cs us ds hc hp' ho;obtain⟨hl,hd⟩:=hc.fp.part hp';obtain⟨y,v,h5,h6,h7⟩:=yT h4 ho hd (by simpa using hl);exact⟨y,v,by simp[Instr.field,run_underlying h1,h2,asAgg,h5],h6,h7⟩
 split at h
 ·rename_i cs;simp only[ah,aU] at hx;obtain⟨us,rfl,hx⟩:=hx;rw[dX] at hx;split at h;rotate_left;cases h
  rename_i ds hds;refine key (cs.map .pv) us (ds.map .pv) (FC.map (fun p v hv=>by simpa only[ah] using hv) hx) ?_ (Le h);obtain⟨e1,e2,e3⟩:=Ld hds;have gd:∀(n:Nat) (l:List PV),n≤l.length→iE n (l.map AV.pv)=some ((l.drop n).map .pv):=by
   intro n;induction n with
   |zero=>intro l _;simp[iE]
   | succ n ih=>intro l hl;cases l with
     |nil=>simp at hl
     |cons a l=>simpa[iE] using ih l (by simpa using hl)
  have gt:∀(n:Nat) (l:List PV),n≤l.length→iq n (l.map AV.pv)=some ((l.take n).map .pv):=by
   intro n;induction n with
   |zero=>intro l _;simp[iq]
   | succ n ih=>intro l hl;cases l with
     |nil=>simp at hl
     |cons a l=>simp[iq,ih l (by simpa using hl)]
  unfold part;rw[gd _ _ (by omega)];simp only;rw[gt _ _ (by simp;omega),e3]
 ·rename_i cs;simp only[ah] at hx;obtain⟨us,rfl,hx⟩:=hx;rw[aY] at hx;split at h
  ·rename_i ds hds;exact key cs us ds hx hds h
  exact h.elim
 exact h.elim
theorem ig (g:aR c R s a w)(hT:bC P T){H:List (Nat×av)}(hH:∀b box,lk H b=some box→lk s.hp b=some box){t:TypeId}{x ix:AV}{K:AV→Prop}
  (h:cK T H t x ix K) {u v:Value} (hx:ah (aH c R s.hp) w s.hp R x u) (hv:ah (aH c R s.hp) w s.hp R ix v) :
  ∃y z,(Instr.indexAt t u v).run P w=.ok y w∧K z∧ah (aH c R s.hp) w s.hp R z y:=by
 unfold cK at h;split at h;rotate_left;cases h
 rename_i k i;simp only[ah,aU] at hv;subst hv;split at h;rotate_left;cases h
 rename_i ti Gv;obtain⟨d,hd,eH⟩:=(hT t ti Gv).eF;split at h
 ·rename_i e hte;have hd':P.underlying t=some (.slice e):=by
   rw[hte] at eH;cases d<;>simp[di] at eH
   subst eH;exact hd
  split at h;rotate_left;cases h
  rename_i ei lJ;have fH:=hT e ei lJ;have run:∀(a:Addr) (len cap:Nat),0≤i→i.toNat<len →
    (Instr.indexAt t (.slice (some a) len cap) (.int k i)).run P w=.ok (.pointer (some (a.add (i.toNat*ei.size)))) w:=by
   intro a len cap h0 h1;have:i<(len:Int):=by omega
   simp[Instr.indexAt,asIntOf,run_underlying hd',h0,this,fH.run_sizeOf]
  have cell:∀(p:Option Addr) (len cap:Nat) (nn:Bool) (st:Nat) (rows:List (List PV)) (row:List PV),aU (aH c R s.hp) w (.sl nn st rows) (.slice p len cap)→st=ei.size →
    0≤i→rows[i.toNat]? = some row→K (.pv (.bT row 0))→∃y z,(Instr.indexAt t (.slice p len cap) (.int k i)).run P w=.ok y w∧K z∧ah (aH c R s.hp) w s.hp R z y:=by
   intro p len cap nn st rows row hr hst h0 hrow hK;simp only[aU] at hr;obtain⟨p',len',Sl,e1,e2,e3,e4,e5⟩:=hr;simp only[Value.slice.injEq] at e1;obtain⟨rfl,rfl,rfl⟩:=e1;have hlt:i.toNat<rows.length:=(List.getElem?_eq_some_iff.1 hrow).1;cases p with
   |none=>have:=(e4 rfl).2;omega
   | some ad=>
     rcases e5 _ rfl with e6|⟨hs,hn,cur,e,fr,hg,hr⟩
     ·subst e6;simp at hrow
     obtain⟨blk,off,spot⟩:=ad;simp only at hs hn hg hr;subst hs;refine⟨_,_,run _ _ _ h0 (by omega),hK,?_⟩;obtain⟨_,hp'⟩:=mR hr hrow;simp only[ah,aU,addr_add];refine⟨blk,off+i.toNat*ei.size,cur,e,fr,rfl,hn,hg,?_⟩;rw[List.drop_drop,hst] at hp';exact hp'
  split at h
  ·rename_i nn st rows;split at h;rotate_left;cases h
   rename_i hst;obtain⟨h0,row,hrow,hK⟩:=h;simp only[ah] at hx;have hx':=hx;simp only[aU] at hx';obtain⟨p,len,cap,rfl,_⟩:=hx';exact cell p len cap nn st rows row hx (Nat.eq_of_beq_eq_true hst) h0 hrow hK
  ·rename_i b ver;simp only[ah] at hx;split at h
   ·rename_i e' v st rows hb;have hb':=hH _ _ hb;rw[hb'] at hx;simp only[aD] at hx;split at h;rotate_left;cases h
    rename_i dD hst;obtain⟨h0,hlt,hK⟩:=h;have:=hx.2.2 (Nat.eq_of_beq_eq_true dD);subst this;have hst:=Nat.eq_of_beq_eq_true hst;have hnil:R.nil b=false:=by
     cases hn:R.nil b with
     |false=>rfl
     | true=>
       obtain⟨xs,⟨_,h2⟩,_⟩:=(g.boxes b _ hb');rcases h2 with ⟨_,h2⟩|⟨g',cap,cur,e1,_⟩
       ·omega
       simp[bA,hn] at e1
    simp only[bA,hnil,Bool.false_eq_true,if_false];refine⟨_,_,run _ _ _ h0 hlt,hK,?_⟩;simp only[ah,hb',aK,addr_add];exact⟨by rw[Nat.eq_of_beq_eq_true dD];exact Nat.le_refl _,rfl,fun _=>⟨hnil,by rw[←hst];simp⟩⟩
   ·rename_i v st rows hb;have hb':=hH _ _ hb;rw[hb'] at hx;simp only[aD] at hx;split at h;rotate_left;cases h
    rename_i dD hst;obtain⟨h0,row,hrow,hK⟩:=h;have:=hx.2.2 (Nat.eq_of_beq_eq_true dD);subst this;have hre:=(g.boxes b _ hb');simp only[dm] at hre;have VH:=hre;simp only[aU] at VH;obtain⟨p,len,cap,e1,_⟩:=VH;rw[e1] at hre ⊢;exact cell p len cap false st rows row hre (Nat.eq_of_beq_eq_true hst) h0 hrow hK
   exact h.elim
  exact h.elim
 ·rename_i n e hte;have hd':P.underlying t=some (.array n e):=by
   rw[hte] at eH;cases d<;>simp[di] at eH
   obtain⟨rfl,rfl⟩:=eH;exact hd
  split at h;rotate_left;cases h
  rename_i ei lJ;have fH:=hT e ei lJ;split at h;rotate_left;cases h
  rename_i b off;obtain⟨h0,h1,hK⟩:=h;simp only[ah] at hx;cases hb:lk s.hp b with
  |none=>rw[hb] at hx;exact hx.elim
  | some box=>
    rw[hb] at hx;have run:∀gg o,(Instr.indexAt t (.pointer (some ⟨gg,o,none⟩)) (.int k i)).run P w=.ok (.pointer (some ⟨gg,o+i.toNat*ei.size,none⟩)) w:=by
     intro gg o;simp[Instr.indexAt,asIntOf,run_underlying hd',Instr.sureAddr,h0,h1,fH.run_sizeOf,addr_add]
    cases box<;>simp only[aI] at hx<;>(subst hx;exact⟨_,_,run _ _,hK,by simp only[ah,hb,aI]⟩)
 exact h.elim
theorem Da (hT:bC P T){N:Nat→Prop}{hp:List (Nat×av)}{t:TypeId}{x ix:AV}{K:AV→Prop}
  (h:kP T t x ix K) {u v:Value} (hx:ah N w hp R x u) (hv:ah N w hp R ix v) :
  ∃y z,(Instr.index t u v).run P w=.ok y w∧K z∧ah N w hp R z y:=by
 unfold kP at h;split at h;rotate_left;cases h
 rename_i k i;simp only[ah,aU] at hv;subst hv;split at h;rotate_left;cases h
 rename_i ti Gv;obtain⟨d,hd,eH⟩:=(hT t ti Gv).eF;split at h;rotate_left;cases h
 rename_i hte;have hd':P.underlying t=some .string:=by
  rw[hte] at eH;cases d<;>simp[di] at eH
  exact hd
 split at h;rotate_left;cases h
 rename_i str;obtain⟨h0,b,hb,hK⟩:=h;simp only[ah,aU] at hx;subst hx;refine⟨.int .u8 b.toNat,_,?_,hK,by simp only[ah,aU]⟩;have hlt:i.toNat<str.size:=by
  have:=(List.getElem?_eq_some_iff.1 hb).1;simpa using this
 have:str[i.toNat]? = some b:=by
  rw[ByteArray.getElem?_lt' str _ hlt];have h2:str.data[i.toNat]? = some b:=by simpa using hb
  have h3:str.data[i.toNat]'(by simpa using hlt)=b:=by
   rw[Array.getElem?_eq_getElem (by simpa using hlt)] at h2;exact Option.some.inj h2
  rw[←h3];rfl
 simp[Instr.index,asIntOf,run_underlying hd',h0,this]
end
theorem mF {N:Nat→Prop}{w:World}{hp:List (Nat×av)}{R:Real}:∀{cs:List AV} {ps:List PV} {vs:List Value},gu cs=some ps→FC (ah N w hp R) cs vs→FC (aU N w) ps vs
 |[],ps,vs,h,h'=>by simp only[gu,Option.some.injEq] at h;subst h;exact h'
 | c::cs,ps,vs,h,h'=>by
   obtain⟨v,r,rfl,h1,h2,h3⟩:=h';cases c<;>simp only[gu] at h<;>try (cases h;done)
   split at h
   ·rename_i Yr l6;simp only[Option.some.injEq] at h;subst h;exact⟨v,r,rfl,h1,by simpa only[ah] using h2,mF l6 h3⟩
   cases h
section
variable {P:Program}{T:Tab}{c:Ctx}{R:Real}{s:AS}{a:Act}{w:World}
theorem kV (g:aR c R s a w){b ver:Nat}{p:PV}(h:oJ (lk s.hp b) ver=some p){N':Nat→Prop}(hN:∀r,N' r→aH c R s.hp r)
  (h2:∀r,ax R b r (lk s.hp b)→¬N' r) {u:Value} (hx:aD R b ver u (lk s.hp b)):aU N' w p u:=by
 cases hb:lk s.hp b with
 |none=>rw[hb] at hx;exact hx.elim
 | some box=>
   rw[hb] at h hx h2;have hre:=(g.boxes b box hb);cases box with
   |var cells=>cases h
   |ny cells=>cases h
   | arr e v st rows=>
     simp only[oJ] at h;split at h
     ·rename_i hv;simp only[Option.some.injEq] at h;subst h;simp only[aD] at hx;have:=hx.2.2 (Nat.eq_of_beq_eq_true hv);subst this;cases hn:R.nil b with
      | true=>
        obtain⟨xs,⟨_,h3⟩,_⟩:=hre;rcases h3 with ⟨_,h3⟩|⟨g',cap,cur,e1,_⟩
        ·have e1:bA R b rows.length=.slice none 0 0:=by simp[bA,hn]
         rw[e1,aU];exact⟨none,0,0,rfl,h3.symm,⟨Nat.le_refl _,by omega⟩,fun _=>⟨rfl,rfl⟩,fun a ha=>by cases ha⟩
        simp[bA,hn] at e1
      | false=>
        obtain⟨cur,hg,hs,hle,hm,hr,_⟩:=d9 hre hn;have e1:bA R b rows.length=.slice (some ⟨R.blk b,0,none⟩) rows.length ((R.cap b).1):=by simp[bA,hn]
        rw[e1,aU];refine⟨_,_,_,rfl,rfl,⟨hle,by unfold maxLen at hm;omega⟩,fun h=>(by cases h),fun ad ha=>?_⟩;simp only[Option.some.injEq] at ha;subst ha;exact .inr ⟨rfl,h2 _ ⟨hn,rfl⟩,cur,e,(0,0),hg,by simpa using aN (fun r _ h=>hN r h) (fun _ _ _=>rfl) _ _ _ hr⟩
     cases h
   | bX v st rows=>
     simp only[oJ] at h;split at h
     ·rename_i hv;simp only[Option.some.injEq] at h;subst h;simp only[aD] at hx;have:=hx.2.2 (Nat.eq_of_beq_eq_true hv);subst this;exact bN (fun r _ h=>hN r h) (fun _ _ _=>rfl) _ _ hre
     cases h
   |tr _ _ _ _=>exact hx.elim
   |dL _ _ _ _ _ _=>cases h
   |mp _ _ _=>cases h
   |bR _ _ _ _ _ _ _ _ _=>cases h
theorem vX (g:aR c R s a w){b off:Nat}{p:PV}(h:JM (lk s.hp b) off=some p){N':Nat→Prop}(hN:∀r,N' r→aH c R s.hp r)
  (h2:∀r,ax R b r (lk s.hp b)→¬N' r) {u:Value} (hx:aI R b off u (lk s.hp b)):aU N' w p u:=by
 cases hb:lk s.hp b with
 |none=>rw[hb] at hx;exact hx.elim
 | some box=>
   rw[hb] at h hx h2;have hre:=(g.boxes b box hb);cases box with
   | var cells=>
     simp only[JM] at h;split at h
     ·rename_i ps hps;simp only[Option.some.injEq] at h;subst h;simp only[aI] at hx;subst hx;obtain⟨cur,e,hg,hc⟩:=hre;rw[aY] at hc;have hc':=mF hps hc;simp only[aU];refine⟨R.blk b,0,cur,e,(0,0),by simp,h2 _ rfl,hg,?_⟩;have:dM (aH c R s.hp) w ps (cur.toList.drop 0):=by rw[bM];simpa using hc'.fp
      exact bL (fun r _ h=>hN r h) (fun _ _ _=>rfl) _ _ this
     cases h
   | ny cells=>
     simp only[JM,Option.some.injEq] at h;subst h;simp only[aI] at hx;subst hx;obtain⟨cur,e,fr,hg,hn,hc⟩:=hre;simp only[aU];exact⟨R.blk b,0,cur,e,fr,by simp,fun x=>hn (hN _ x),hg,by simpa using bL (fun r _ h=>hN r h) (fun _ _ _=>rfl) _ _ hc⟩
   |arr e v st rows=>cases h
   |bX v st rows=>cases h
   |tr _ _ _ _=>cases h
   |dL _ _ _ _ _ _=>cases h
   |mp _ _ _=>cases h
   |bR _ _ _ _ _ _ _ _ _=>cases h
theorem JO {N:Nat→Prop}{nn:Bool}{st lo hi:Nat}{rows:List (List PV)}{u:Value}(h:aU N w (.sl nn st rows) u)(hok:kG lo hi u) :
  aU N w (.sl false st (zT rows lo hi)) (gK st lo hi u)∧lo≤hi∧hi≤rows.length:=by
 simp only[aU] at h;obtain⟨p,len,cap,rfl,rfl,⟨h1,h2⟩,h3,h4⟩:=h;simp only[kG] at hok;obtain⟨k1,k2⟩:=hok;refine⟨?_,k1,k2⟩;have hlen:(zT rows lo hi).length=hi-lo:=by simp only[zT,List.length_take,List.length_drop];omega
 cases p with
 | none=>
   have hc:=(h3 rfl).2;simp only[gK,aU];exact⟨none,0,0,rfl,by rw[hlen];omega,⟨Nat.le_refl _,by omega⟩,fun _=>⟨by trivial,by trivial⟩,fun a e=>by cases e⟩
 | some a=>
   simp only[gK,aU];refine⟨_,_,_,rfl,hlen.symm,⟨by omega,by omega⟩,fun e=>(by cases e),fun ad e=>?_⟩;simp only[Option.some.injEq] at e;subst e;by_cases hcl:cap=lo
   ·refine .inl (List.eq_nil_of_length_eq_zero ?_);rw[hlen];omega
   rw[if_neg hcl];rcases h4 a rfl with h5|⟨h5,h6,cur,e,fr,h7,h8⟩
   ·refine .inl (List.eq_nil_of_length_eq_zero ?_);have:=congrArg List.length h5;simp only[List.length_nil] at this;rw[hlen];omega
   obtain⟨g,o,sp⟩:=a;simp only at h5 h6 h7 h8;subst h5;rw[addr_add];refine .inr ⟨rfl,h6,cur,e,fr,h7,?_⟩;have h9:=jb (hi-lo) (jk lo h8);rw[List.drop_drop] at h9;exact h9
mutual
theorem mG (g:aR c R s a w){H:List (Nat×av)}(hH:∀b box,lk H b=some box→lk s.hp b=some box){N':Nat→Prop}(hN:∀r,N' r→aH c R s.hp r) :
  ∀(x:AV) (p:PV) (u:Value),(∀b,b∈refs x→∀r,ax R b r (lk s.hp b)→¬N' r)→vw H x=some p→ah (aH c R s.hp) w s.hp R x u→aU N' w p u
 | .pv q,p,u,_,h,hx=>by
   simp only[vw,Option.some.injEq] at h;subst h;simp only[ah] at hx;exact bN (fun r _ h=>hN r h) (fun _ _ _=>rfl) _ _ hx
 | .aG b ver,p,u,h2,h,hx=>by
   simp only[vw] at h;simp only[ah] at hx;cases hb:lk H b with
   |none=>rw[hb] at h;cases h
   | some box=>
     rw[hb,←hH _ _ hb] at h;exact kV g h hN (h2 b (by simp[refs])) hx
 | .ptr b off,p,u,h2,h,hx=>by
   simp only[vw] at h;simp only[ah] at hx;cases hb:lk H b with
   |none=>rw[hb] at h;cases h
   | some box=>
     rw[hb,←hH _ _ hb] at h;exact vX g h hN (h2 b (by simp[refs])) hx
 |.cB b ver i off,p,u,_,h,_=>by simp[vw] at h
 | .sub b ver st lo hi,p,u,h2,h,hx=>by
   simp only[vw] at h;simp only[ah] at hx;obtain⟨u',hx,hok,rfl⟩:=hx;unfold RN at h;split at h
   ·rename_i nn st' rows hv;split at h
    ·rename_i hst;simp only[Option.some.injEq] at h;subst h;have:=Nat.eq_of_beq_eq_true hst;subst this;cases hb:lk H b with
     |none=>rw[hb] at hv;cases hv
     | some box=>
       rw[hb,←hH _ _ hb] at hv;exact (JO (kV g hv hN (h2 b (by simp[refs])) hx) hok).1
    cases h
   cases h
 | .agg cs,p,u,h2,h,hx=>by
   simp only[vw] at h;split at h
   ·rename_i ps hps;simp only[Option.some.injEq] at h;subst h;simp only[ah] at hx;obtain⟨vs,rfl,hx⟩:=hx;simp only[aU];exact⟨vs,rfl,yU g hH hN cs ps _ (fun b hb=>h2 b (by simpa[refs] using hb)) hps hx⟩
   cases h
 | .fF cs,p,u,h2,h,hx=>by
   simp only[vw] at h;split at h
   ·rename_i ps hps;simp only[Option.some.injEq] at h;subst h;simp only[ah] at hx;obtain⟨vs,rfl,hx⟩:=hx;simp only[aU];exact⟨vs,rfl,fT g hH hN cs ps _ (fun b hb=>h2 b (by simpa[refs] using hb)) hps hx⟩
   cases h
 | .fn f x y,p,u,h2,h,hx=>by
   simp only[vw] at h;split at h
   ·rename_i p1 p2 hp1 hp2;simp only[Option.some.injEq] at h;subst h;simp only[ah] at hx;obtain⟨vs,us,rfl,hx1,hx2⟩:=hx;simp only[aU];exact⟨vs,us,rfl,fT g hH hN x p1 _ (fun b hb=>h2 b (by simp only[refs,List.mem_append];exact .inl hb)) hp1 hx1,
     fT g hH hN y p2 _ (fun b hb=>h2 b (by simp only[refs,List.mem_append];exact .inr hb)) hp2 hx2⟩
   cases h
theorem yU (g:aR c R s a w){H:List (Nat×av)}(hH:∀b box,lk H b=some box→lk s.hp b=some box){N':Nat→Prop}(hN:∀r,N' r→aH c R s.hp r) :
  ∀(xs:List AV) (ps:List PV) (us:List Value),(∀b,b∈dx xs→∀r,ax R b r (lk s.hp b)→¬N' r)→D5 H xs=some ps→bq (aH c R s.hp) w s.hp R xs us→fG N' w ps us
 | [],ps,us,_,h,hx=>by
   simp only[D5,Option.some.injEq] at h;subst h;simpa only[bq,fG] using hx
 | x::xs,ps,us,h2,h,hx=>by
   simp only[D5] at h;split at h
   ·rename_i p hp;split at h
    ·rename_i t ht;simp only[Option.some.injEq] at h;subst h;simp only[bq] at hx;obtain⟨v,r,rfl,h1,h3,h4⟩:=hx;simp only[fG];exact⟨v,r,rfl,h1,mG g hH hN x p v (fun b hb=>h2 b (by simp only[dx,List.mem_append];exact .inl hb)) hp h3,
      yU g hH hN xs t r (fun b hb=>h2 b (by simp only[dx,List.mem_append];exact .inr hb)) ht h4⟩
    cases h
   cases h
theorem fT (g:aR c R s a w){H:List (Nat×av)}(hH:∀b box,lk H b=some box→lk s.hp b=some box){N':Nat→Prop}(hN:∀r,N' r→aH c R s.hp r) :
  ∀(xs:List AV) (ps:List PV) (us:List Value),(∀b,b∈dx xs→∀r,ax R b r (lk s.hp b)→¬N' r)→D5 H xs=some ps→bB (aH c R s.hp) w s.hp R xs us→cZ N' w ps us
 | [],ps,us,_,h,hx=>by
   simp only[D5,Option.some.injEq] at h;subst h;simpa only[bB,cZ] using hx
 | x::xs,ps,us,h2,h,hx=>by
   simp only[D5] at h;split at h
   ·rename_i p hp;split at h
    ·rename_i t ht;simp only[Option.some.injEq] at h;subst h;simp only[bB] at hx;obtain⟨v,r,rfl,h3,h4⟩:=hx;simp only[cZ];exact⟨v,r,rfl,mG g hH hN x p v (fun b hb=>h2 b (by simp only[dx,List.mem_append];exact .inl hb)) hp h3,
      fT g hH hN xs t r (fun b hb=>h2 b (by simp only[dx,List.mem_append];exact .inr hb)) ht h4⟩
    cases h
   cases h
end
theorem nT (g:aR c R s a w)(hT:bC P T){H:List (Nat×av)}(hH:∀b box,lk H b=some box→lk s.hp b=some box){t ty:TypeId}{x:AV}{K:AV→Prop}
  (h:yu T H t x K) {u:Value} (hx:ah (aH c R s.hp) w s.hp R x u) :
  ∃y z,(Builtin.len_ #[t] ty #[u]).run P w=.ok y w∧K z∧ah (aH c R s.hp) w s.hp R z y:=by
 unfold yu at h;split at h;rotate_left;cases h
 rename_i i hi;obtain⟨d,hd,eH⟩:=(hT t i hi).eF;split at h
 ·rename_i hte;have hd':P.underlying t=some .string:=by
   rw[hte] at eH;cases d<;>simp[di] at eH
   exact hd
  split at h;rotate_left;cases h
  rename_i str;simp only[ah,aU] at hx;subst hx;exact⟨.int .i64 str.size,_,by simp[Builtin.len_,run_underlying hd',goInt],h,by simp only[ah,aU]⟩
 ·rename_i e hte;have hd':P.underlying t=some (.slice e):=by
   rw[hte] at eH;cases d<;>simp[di] at eH
   subst eH;exact hd
  split at h
  ·rename_i n cp;simp only[ah,aU] at hx;subst hx;exact⟨.int .i64 n,_,by simp[Builtin.len_,run_underlying hd',goInt],h,by simp only[ah,aU]⟩
  split at h
  ·rename_i nn st rows hv;have:=mG g hH (N':=fun _=>False) (fun _ h=>h.elim) x _ u (fun _ _ _ _ h=>h) hv hx;simp only[aU] at this;obtain⟨p,len,cap,rfl,rfl,_⟩:=this;exact⟨.int .i64 rows.length,_,by simp[Builtin.len_,run_underlying hd',goInt],h,by simp only[ah,aU]⟩
  exact h.elim
 ·rename_i n e hte;have hd':P.underlying t=some (.array n e):=by
   rw[hte] at eH;cases d<;>simp[di] at eH
   obtain⟨rfl,rfl⟩:=eH;exact hd
  exact⟨.int .i64 n,_,by simp[Builtin.len_,run_underlying hd',goInt],h,by simp only[ah,aU]⟩
 exact h.elim
theorem yV {N:Nat→Prop}:∀{bs:List UInt8} {vs:List Value},bf N w 1 (bs.map aB) vs→vs.take bs.length=bs.map fun b=>Value.int .u8 b.toNat
 |[],vs,_=>by simp
 | b::bs,vs,h=>by
   simp only[List.map_cons,bf,aB,dM] at h;obtain⟨_,⟨v,r,rfl,_,hv,_⟩,h3⟩:=h;simp only[aU] at hv;subst hv;simp only[List.drop_succ_cons,List.drop_zero] at h3;simp[yV h3]
theorem foldl_push (bs:List UInt8):∀acc:ByteArray,(bs.map fun b=>(b.toNat:Int)).foldl (fun r n=>r.push (UInt8.ofNat n.toNat)) acc=⟨acc.data++bs.toArray⟩:=by
 induction bs with
 |nil=>intro acc;simp
 | cons b bs ih=>
   intro acc;simp only[List.map_cons,List.foldl_cons];rw[ih];simp[ByteArray.push]
theorem Ec (g:aR c R s a w)(hT:bC P T){H:List (Nat×av)}(hH:∀b box,lk H b=some box→lk s.hp b=some box){src dst:TypeId}{x:AV}{K:AV→Prop}
  (h:oQ T H src dst x K) {u:Value} (hx:ah (aH c R s.hp) w s.hp R x u) :
  ∃y z,(convert src dst u).run P w=.ok y w∧K z∧ah (aH c R s.hp) w s.hp R z y:=by
 unfold oQ at h;split at h;rotate_left;cases h
 rename_i si dt hsi hdt;obtain⟨d1,hd1,NJ⟩:=(hT _ _ hsi).eF;obtain⟨d2,hd2,NK⟩:=(hT _ _ hdt).eF;split at h
 ·rename_i k hk;have hd':P.underlying dst=some (.int k):=by
   rw[hk] at NK;cases d2<;>simp[di] at NK
   subst NK;exact hd2
  split at h;rotate_left;cases h
  rename_i j n;simp only[ah,aU] at hx;subst hx;refine⟨.int k (k.wrap n),_,?_,h,by simp only[ah,aU]⟩;simp only[convert,Sem.run_bind,run_underlying hd1,run_underlying hd',Result.andThen_ok];cases d1<;>simp[Conv.intToInt]
 ·rename_i hk;have hd':P.underlying dst=some .string:=by
   rw[hk] at NK;cases d2<;>simp[di] at NK
   exact hd2
  split at h
  ·rename_i hs;have hs':P.underlying src=some .string:=by
    rw[hs] at NJ;cases d1<;>simp[di] at NJ
    exact hd1
   split at h;rotate_left;cases h
   rename_i str;simp only[ah,aU] at hx;subst hx;exact⟨.string str,_,by simp[convert,run_underlying hs',run_underlying hd'],h,by simp only[ah,aU]⟩
  ·rename_i e hs;have hs':P.underlying src=some (.slice e):=by
    rw[hs] at NJ;cases d1<;>simp[di] at NJ
    subst NJ;exact hd1
   split at h;rotate_left;cases h
   rename_i ei lJ;obtain⟨d3,U4,Tq⟩:=(hT _ _ lJ).eF;split at h;rotate_left;cases h
   rename_i hu8;have Ai:P.underlying e=some (.int .u8):=by
    rw[hu8] at Tq;cases d3<;>simp[di] at Tq
    subst Tq;exact U4
   split at h
   ·simp only[ah,aU] at hx;subst hx;exact⟨.string .empty,_,by simp[convert,run_underlying hs',run_underlying hd',run_underlying Ai,Conv.bytesToString],h,by simp only[ah,aU]⟩
   split at h
   ·rename_i nn st rows hv;split at h;rotate_left;cases h
    rename_i hst;have hst:=Nat.eq_of_beq_eq_true hst;subst hst;obtain⟨bs,rfl,hK⟩:=h;have:=mG g hH (N':=fun _=>False) (fun _ h=>h.elim) x _ u (fun _ _ _ _ h=>h) hv hx;simp only[aU] at this;obtain⟨p,len,cap,rfl,hl,hle,hnone,hsome⟩:=this;refine⟨.string ⟨bs.toArray⟩,_,?_,hK,by simp only[ah,aU]⟩;cases p with
    | none=>
      have:bs=[]:=by
       have:=(hnone rfl).2;exact List.eq_nil_of_length_eq_zero (by simp at hl;omega)
      subst this;simp[convert,run_underlying hs',run_underlying hd',run_underlying Ai,Conv.bytesToString];rfl
    | some ad=>
      have h6:=hsome _ rfl;have hload:(loadCells ad len).run P w=.ok ((bs.map fun b=>(b.toNat:Int)).map (Value.int .u8)).toArray w:=by
       obtain⟨blk,off,spot⟩:=ad;simp only at h6;rcases h6 with h6|⟨hsp,_,cur,e2,fr,hg,hr⟩
       ·have:bs=[]:=by simpa using h6
        subst this;simp at hl;subst hl;simp[loadCells,loadCellsFrom]
       subst hsp;obtain⟨h7,h8,h9⟩:=dR hr;have hb:=yV hr;simp only[List.length_map] at hl h7;simp only[List.length_drop,Array.length_toList] at h7;have hz:bs.length=0∨off+len≤cur.size:=by omega
       rcases hz with hz|hz
       ·have:bs=[]:=List.eq_nil_of_length_eq_zero hz;subst this;simp at hl;subst hl;simp[loadCells,loadCellsFrom]
       rw[mV hg hz,hl,hb];simp
      simp only[convert,Sem.run_bind,run_underlying hs',run_underlying hd',run_underlying Ai,Result.andThen_ok];rw[run_bytesToString w ad len cap _ hload,foldl_push,show ByteArray.empty.data++bs.toArray=bs.toArray from by rw[show ByteArray.empty.data = #[] from rfl,Array.empty_append]]
   exact h.elim
  exact h.elim
 exact h.elim
def wX (o:Option Operand)(vs:List AV):Option (Option Int×List AV):=
 match o with
 |none=>some (none,vs)
 | some _=>match vs with
   |.pv (.sc (.int _ i))::r=>some (some i,r)
   |_=>none
def Gs (lo:Int)(o:Option Int)(hi:Int)(X:Prop):Prop:=
 match o with
 |none=>X
 |some i=>lo≤i∧i≤hi∧X
def Lf (rows:List (List PV))(lo hi:Option Int):List (List PV):=
 match lo,hi with
 |none,none=>rows
 |some l,none=>rows.drop l.toNat
 |none,some h=>rows.take h.toNat
 |some l,some h=>(rows.take h.toNat).drop l.toNat
def dJ (n:Nat)(hi:Option Int):Int:=
 match hi with
 |none=>n
 |some h=>h
def VI (str:ByteArray)(lo hi:Option Int):ByteArray:=
 match lo,hi with
 |none,none=>str
 |some l,none=>str.extract l.toNat str.size
 |none,some h=>str.extract 0 h.toNat
 |some l,some h=>str.extract l.toNat h.toNat
def SL (m h:Option Int)(n:Nat)(X:Prop):Prop:=
 match m with
 |none=>X
 |some _=>h=m∧0<n∧X
def Yt (m:Option Int)(nn:Bool)(st:Nat)(rows:List (List PV)):PV:=
 match m with
 |none=>.sl nn st rows
 |some _=>.Gw st rows
def VJ (h m:Option Int):Bool:=
 match h,m with
 |none,some _=>false
 |_,_=>true
def kK (T:Tab)(t:TypeId)(lo hi mx:Option Operand)(vs:List AV)(K:AV→Prop):Prop:=
 match vs with
 | x::r=>match wX lo r with
   | some (l,r1)=>match wX hi r1 with
     | some (h,r2)=>match wX mx r2 with
       | some (m,_)=>match lk T t with
         | some i=>match i.d with
           | .slt e=>match lk T e with
             | some ei=>match x with
               | .pv (.sc (.slice none 0 0))=>match m with
                 |none=>Gs 0 h 0 (Gs 0 l 0 (K (.pv (.sc (.slice none 0 0)))))
                 |some _=>False
               | .pv (.sl nn st rows)=>match Nat.beq st ei.size,VJ h m with
                 |true,true=>SL m h rows.length (Gs 0 m rows.length (Gs 0 h (dJ rows.length m) (Gs 0 l (dJ rows.length h) (K (.pv (Yt m nn st (Lf rows l h)))))))
                 |_,_=>False
               | .pv (.Gw st rows)=>match Nat.beq st ei.size,m with
                 |true,some mi=>h=some mi∧Gs 0 (some mi) rows.length (Gs 0 h (dJ rows.length (some mi)) (Gs 0 l (dJ rows.length h) (K (.pv (.Gw st (Lf rows l h))))))
                 |_,_=>False
               |_=>False
             |none=>False
           | .D9=>match x with
             | .pv (.sc (.string str))=>match m with
               |none=>Gs 0 h str.size (Gs 0 l (dJ str.size h) (K (.pv (.sc (.string (VI str l h))))))
               |some _=>False
             |_=>False
           |_=>False
         |none=>False
       |none=>False
     |none=>False
   |none=>False
 |[]=>False
def vI:Option Value→Option Int→Prop
 |none,none=>True
 |some (.int _ i),some j=>i=j
 |_,_=>False
theorem fq {N:Nat→Prop}{hp:List (Nat×av)}{f:Operand→Value}{o:Option Operand}{rest:List Operand}{vs:List AV}{i:Option Int}{r:List AV}
  (h:FL (ah N w hp R) vs ((o.toList++rest).map f)) (e:wX o vs=some (i,r)):vI (o.map f) i∧FL (ah N w hp R) r (rest.map f):=by
 unfold wX at e;split at e
 ·simp only[Option.some.injEq,Prod.mk.injEq] at e;obtain⟨rfl,rfl⟩:=e;exact⟨trivial,by simpa using h⟩
 rename_i oo;split at e
 ·rename_i k j r';simp only[Option.some.injEq,Prod.mk.injEq] at e;obtain⟨rfl,rfl⟩:=e;simp only[Option.toList,List.cons_append,List.nil_append,List.map_cons] at h;obtain⟨v,r2,e1,h1,h2⟩:=h;simp only[List.cons.injEq] at e1;obtain⟨rfl,rfl⟩:=e1;simp only[ah,aU] at h1;exact⟨by simp[vI,h1],h2⟩
 cases e
theorem run_sliceBound {y:Nat}{k:IntKind}{i:Int}(code:BoundsCode)(h0:0≤i)(h1:i≤y):(Instr.sliceBound (.int k i) y code).run P w=.ok i.toNat w:=by
 simp[Instr.sliceBound,asIntOf,h0,h1]
theorem fV {Lh:Bool}{len cap:Nat}{lo hi mx:Option Value}{l h m:Option Int}(v1:vI lo l)(v2:vI hi h)(v3:vI mx m)(hle:len≤cap)
  (hm:∀i,m=some i→0≤i∧i≤len∧h.isSome=true) (hh:∀i,h=some i→0≤i∧i≤dJ len m) (hl:∀i,l=some i→0≤i∧i≤dJ len h) :
  (Instr.sliceBounds Lh len cap lo hi mx).run P w=.ok ((l.map Int.toNat).getD 0,(dJ len h).toNat,(m.map Int.toNat).getD cap) w ∧
   ((l.map Int.toNat).getD 0)≤(dJ len h).toNat∧(dJ len h).toNat≤len∧(dJ len h).toNat≤(m.map Int.toNat).getD cap:=by
 have Yu:0≤dJ len h∧dJ len h≤len∧dJ len h≤(((m.map Int.toNat).getD cap:Nat):Int):=by
  cases h with
  | none=>
    cases m with
    |none=>simp[dJ];omega
    |some mi=>have:=(hm mi rfl).2.2;simp at this
  | some hi'=>
    have:=hh hi' rfl;cases m with
    |none=>simp[dJ] at this ⊢;omega
    |some mi=>have h2:=hm mi rfl;simp[dJ] at this ⊢;omega
 have hl2:(((l.map Int.toNat).getD 0:Nat):Int)≤dJ len h:=by
  cases l with
  |none=>simp;omega
  |some li=>have:=hl li rfl;simp;omega
 refine⟨?_,by omega,by omega,by omega⟩;have h1:∀code,(∀v,mx=some v→(Instr.sliceBound v cap code).run P w=.ok ((m.map Int.toNat).getD cap) w):=by
  intro code v hv;subst hv;cases m with
  |none=>cases v<;>exact v3.elim
  | some mi=>
    cases v<;>simp only[vI] at v3
    subst v3;have:=hm _ rfl;simp[run_sliceBound code this.1 (show _≤((cap:Nat):Int) by omega)]
 have h2:∀code,(∀v,hi=some v→(Instr.sliceBound v ((m.map Int.toNat).getD cap) code).run P w=.ok (dJ len h).toNat w):=by
  intro code v hv;subst hv;cases h with
  |none=>cases v<;>exact v2.elim
  | some mi=>
    cases v<;>simp only[vI] at v2
    subst v2;simp only[dJ] at Yu ⊢;exact run_sliceBound code Yu.1 Yu.2.2
 have h3:∀code,(∀v,lo=some v→(Instr.sliceBound v (dJ len h).toNat code).run P w=.ok ((l.map Int.toNat).getD 0) w):=by
  intro code v hv;subst hv;cases l with
  |none=>cases v<;>exact v1.elim
  | some mi=>
    cases v<;>simp only[vI] at v1
    subst v1;have:=hl _ rfl;simp only[Option.map_some,Option.getD_some];exact run_sliceBound code this.1 (by omega)
 have hi0:hi=none→h=none:=fun e=>by subst e;cases h with
  |none=>rfl
  |some _=>exact v2.elim
 have Yv:lo=none→l=none:=fun e=>by subst e;cases l with
  |none=>rfl
  |some _=>exact v1.elim
 have mx0:mx=none→m=none:=fun e=>by subst e;cases m with
  |none=>rfl
  |some _=>exact v3.elim
 cases mx with
 | none=>
   have:=mx0 rfl;subst this;cases hi with
   | none=>
     have:=hi0 rfl;subst this;cases lo with
     |none=>have:=Yv rfl;subst this;simp[Instr.sliceBounds,dJ]
     |some lv=>simp only[Instr.sliceBounds,Sem.run_bind,Sem.run_pure,Result.andThen_ok];have:=h3 .sliceB lv rfl;simp[dJ] at this ⊢;simp[this]
   | some hv=>
     cases lo with
     |none=>have:=Yv rfl;subst this;have:=h2 (if Lh then .sliceAcap else .sliceAlen) hv rfl;simp at this;simp[Instr.sliceBounds,this]
     |some lv=>have a1:=h2 (if Lh then .sliceAcap else .sliceAlen) hv rfl;simp at a1;have a2:=h3 .sliceB lv rfl;simp[Instr.sliceBounds,a1,a2]
 | some mv=>
   have b1:=h1 (if Lh then .slice3Acap else .slice3Alen) mv rfl;cases hi with
   | none=>
     have:=hi0 rfl;subst this;cases m with
     |none=>cases mv<;>exact v3.elim
     |some mi=>have:=(hm mi rfl).2.2;simp at this
   | some hv=>
     have b2:=h2 .slice3B hv rfl;cases lo with
     |none=>have:=Yv rfl;subst this;simp[Instr.sliceBounds,b1,b2]
     |some lv=>have b3:=h3 .slice3C lv rfl;simp[Instr.sliceBounds,b1,b2,b3]
theorem iK {lo hi:Int}{o:Option Int}{X:Prop}(h:Gs lo o hi X):X∧∀i,o=some i→lo≤i∧i≤hi:=by
 cases o with
 |none=>exact⟨h,fun i e=>by cases e⟩
 |some j=>obtain⟨a,b,c⟩:=h;exact⟨c,fun i e=>by simp only[Option.some.injEq] at e;subst e;exact⟨a,b⟩⟩
theorem JP (rows:List (List PV))(l h:Option Int):Lf rows l h=(rows.take (dJ rows.length h).toNat).drop ((l.map Int.toNat).getD 0):=by
 cases l<;>cases h<;>simp[Lf,dJ]
theorem NM {m h:Option Int}{n:Nat}{X:Prop}(e:SL m h n X):X∧∀i,m=some i→h=m∧0<n:=by
 cases m with
 |none=>exact⟨e,fun i e=>by cases e⟩
 |some j=>obtain⟨a,b,c⟩:=e;exact⟨c,fun _ _=>⟨a,b⟩⟩
theorem BB {N:Nat→Prop}{nn:Bool}{st:Nat}{rows:List (List PV)}{p:Option Addr}{n cap:Nat}(h:aU N w (.sl nn st rows) (.slice p n cap))(hc:cap=n)(hp:p≠none):aU N w (.Gw st rows) (.slice p n cap):=by
 simp only[aU] at h ⊢;obtain⟨p',l',c',e,rfl,⟨h1,h2⟩,h3,h4⟩:=h;simp only[Value.slice.injEq] at e;obtain⟨rfl,rfl,rfl⟩:=e;subst hc;cases p with
 |none=>exact absurd rfl hp
 |some a=>exact⟨a,rfl,h2,h4 a rfl⟩
theorem AJ {N:Nat→Prop}{st:Nat}{rows:List (List PV)}{v:Value}(h:aU N w (.Gw st rows) v):aU N w (.sl true st rows) v:=by
 simp only[aU] at h ⊢;obtain⟨a,rfl,h2,h3⟩:=h;exact⟨_,_,_,rfl,rfl,⟨Nat.le_refl _,h2⟩,fun e=>(by cases e),fun b e=>by cases e;exact h3⟩
theorem sJ (g:aR c R s a w)(hT:bC P T){t:TypeId}{x0:Operand}{lo hi mx:Option Operand}{vs:List AV}{K:AV→Prop}(h:kK T t lo hi mx vs K)
  (hv:FL (ah (aH c R s.hp) w s.hp R) vs ((x0::(lo.toList++(hi.toList++mx.toList))).map a.eval)) :
  ∃y z,(Instr.sliceAt t (a.eval x0) (lo.map a.eval) (hi.map a.eval) (mx.map a.eval)).run P w=.ok y w∧K z∧ah (aH c R s.hp) w s.hp R z y:=by
 unfold kK at h;split at h;rotate_left;cases h
 rename_i x r;simp only[List.map_cons] at hv;obtain⟨u,r',e1,hx,hv⟩:=hv;simp only[List.cons.injEq] at e1;obtain⟨e1,rfl⟩:=e1;rw[e1];split at h;rotate_left;cases h
 rename_i l r1 hl;split at h;rotate_left;cases h
 rename_i hh r2 hhi;split at h;rotate_left;cases h
 rename_i m r3 hm;obtain⟨v1,hv⟩:=fq hv hl;obtain⟨v2,hv⟩:=fq hv hhi;have hv':FL (ah (aH c R s.hp) w s.hp R) r2 ((mx.toList++[]).map a.eval):=by simpa using hv
 obtain⟨v3,_⟩:=fq hv' hm;split at h;rotate_left;cases h
 rename_i i hi';obtain⟨d,hd,eH⟩:=(hT t i hi').eF;split at h
 ·rename_i e hte;have hd':P.underlying t=some (.slice e):=by
   rw[hte] at eH;cases d<;>simp[di] at eH
   subst eH;exact hd
  split at h;rotate_left;cases h
  rename_i ei lJ;have fH:=hT _ _ lJ;split at h
  ·split at h
   ·obtain⟨h,k2⟩:=iK h;obtain⟨h,k3⟩:=iK h;simp only[ah,aU] at hx;subst hx;have hz:(dJ 0 hh)=0:=by
     cases hh with
     |none=>rfl
     |some j=>have:=k2 j rfl;simp only[dJ];omega
    have lz:(l.map Int.toNat).getD 0=0:=by
     cases l with
     |none=>rfl
     |some j=>have:=k3 j rfl;simp;omega
    obtain⟨hrun,q1,q2,q3⟩:=fV (P:=P) (w:=w) (Lh:=true) (len:=0) (cap:=0) v1 v2 v3 (Nat.le_refl _) (fun i e=>by cases e) k2 (fun i e=>by rw[hz];exact k3 i e);rw[hz,lz] at hrun;have hrun':(Instr.sliceAt t (.slice none 0 0) (lo.map a.eval) (hi.map a.eval) (mx.map a.eval)).run P w=.ok (.slice none 0 0) w:=by
     simp only[Instr.sliceAt,Instr.slice,Sem.run_bind,run_underlying hd',Result.andThen_ok,hrun,fH.run_sizeOf,Sem.run_pure];simp
    exact⟨_,_,hrun',h,by simp only[ah,aU]⟩
   exact h.elim
  ·rename_i nn st rows;split at h;rotate_left;cases h
   rename_i hst hok;have hst:=Nat.eq_of_beq_eq_true hst;obtain⟨h,k0⟩:=NM h;obtain⟨h,k1⟩:=iK h;obtain⟨h,k2⟩:=iK h;obtain⟨h,k3⟩:=iK h;simp only[ah] at hx;have hx':=hx;simp only[aU] at hx';obtain⟨p,len,cap,rfl,rfl,⟨hle,hcm⟩,hnone,hsome⟩:=hx';obtain⟨hrun,q1,q2,q3⟩:=fV (P:=P) (w:=w) (Lh:=true) v1 v2 v3 hle (fun i e=>⟨(k1 i e).1,(k1 i e).2,by
    subst e;cases hh with
    |none=>simp[VJ] at hok
    |some _=>rfl⟩) k2 k3
   have hrun':(Instr.sliceAt t (.slice p rows.length cap) (lo.map a.eval) (hi.map a.eval) (mx.map a.eval)).run P w =
     .ok (.slice (if (m.map Int.toNat).getD cap=(l.map Int.toNat).getD 0 then p else p.map (·.add ((l.map Int.toNat).getD 0*ei.size)))
      ((dJ rows.length hh).toNat-(l.map Int.toNat).getD 0) ((m.map Int.toNat).getD cap-(l.map Int.toNat).getD 0)) w:=by
    simp only[Instr.sliceAt,Instr.slice,Sem.run_bind,run_underlying hd',Result.andThen_ok,hrun,fH.run_sizeOf,Sem.run_pure]
   have hrep:aU (aH c R s.hp) w (.sl nn st (Lf rows l hh)) (.slice (if (m.map Int.toNat).getD cap=(l.map Int.toNat).getD 0 then p else p.map (·.add ((l.map Int.toNat).getD 0*ei.size))) ((dJ rows.length hh).toNat-(l.map Int.toNat).getD 0) ((m.map Int.toNat).getD cap-(l.map Int.toNat).getD 0)):=by
     rw[JP];simp only[aU];refine⟨_,_,_,rfl,by simp;omega,⟨by omega,?_⟩,?_,?_⟩
     ·cases m with
      |none=>simp;omega
      |some mi=>have:=(k1 mi rfl);simp;omega
     ·intro hp';have:p=none:=by
       split at hp'
       ·exact hp'
       cases p with
       |none=>rfl
       |some _=>simp at hp'
      have:=hnone this;refine⟨this.1,?_⟩;cases m with
      |none=>simp;omega
      |some mi=>have:=k1 mi rfl;simp;omega
     intro ad hp';cases p with
     |none=>split at hp'<;>simp at hp'
     | some pa=>
       have h6:=hsome _ rfl;obtain⟨blk,off,spot⟩:=pa;simp only at h6;split at hp'
       ·rename_i hml;simp only[Option.some.injEq] at hp';subst hp';refine .inl ?_;apply List.eq_nil_of_length_eq_zero;simp;omega
       rcases h6 with h6|⟨hs,hn,cur,e2,fr,hg,hr⟩
       ·subst h6;exact .inl (by simp)
       subst hs;simp only[Option.map_some,Option.some.injEq,addr_add] at hp';subst hp';refine .inr ⟨rfl,hn,cur,e2,fr,hg,?_⟩;have:=jk ((l.map Int.toNat).getD 0) (jb (dJ rows.length hh).toNat hr);rw[List.drop_drop,hst] at this;rw[hst];exact this
   refine⟨_,_,hrun',h,?_⟩;simp only[ah];cases m with
   |none=>exact hrep
   | some mi=>
     obtain⟨z1,z2⟩:=k0 mi rfl;refine BB hrep ?_ ?_
     ·subst z1;simp[dJ]
     have hp:p≠none:=fun e=>by have:=(hnone e).2;omega
     split
     ·exact hp
     cases p with
     |none=>exact absurd rfl hp
     |some _=>simp
  ·rename_i st rows;split at h;rotate_left;cases h
   rename_i mi hst;have hst:=Nat.eq_of_beq_eq_true hst;obtain⟨z1,h⟩:=h;obtain⟨h,k1⟩:=iK h;obtain⟨h,k2⟩:=iK h;obtain⟨h,k3⟩:=iK h;simp only[ah] at hx;have hx:=AJ hx;have hx':=hx;simp only[aU] at hx';obtain⟨p,len,cap,rfl,rfl,⟨hle,hcm⟩,hnone,hsome⟩:=hx';obtain⟨m,hm'⟩:∃m,m=some mi:=⟨_,rfl⟩;rw[←hm'] at k1 k2 v3 z1;obtain⟨hrun,q1,q2,q3⟩:=fV (P:=P) (w:=w) (Lh:=true) v1 v2 v3 hle (fun i e=>⟨(k1 i e).1,(k1 i e).2,by
    rw[z1,e];rfl⟩) k2 k3
   have hrun':(Instr.sliceAt t (.slice p rows.length cap) (lo.map a.eval) (hi.map a.eval) (mx.map a.eval)).run P w =
     .ok (.slice (if (m.map Int.toNat).getD cap=(l.map Int.toNat).getD 0 then p else p.map (·.add ((l.map Int.toNat).getD 0*ei.size)))
      ((dJ rows.length hh).toNat-(l.map Int.toNat).getD 0) ((m.map Int.toNat).getD cap-(l.map Int.toNat).getD 0)) w:=by
    simp only[Instr.sliceAt,Instr.slice,Sem.run_bind,run_underlying hd',Result.andThen_ok,hrun,fH.run_sizeOf,Sem.run_pure]
   have hrep:aU (aH c R s.hp) w (.sl true st (Lf rows l hh)) (.slice (if (m.map Int.toNat).getD cap=(l.map Int.toNat).getD 0 then p else p.map (·.add ((l.map Int.toNat).getD 0*ei.size))) ((dJ rows.length hh).toNat-(l.map Int.toNat).getD 0) ((m.map Int.toNat).getD cap-(l.map Int.toNat).getD 0)):=by
     rw[JP];simp only[aU];refine⟨_,_,_,rfl,by simp;omega,⟨by omega,?_⟩,?_,?_⟩
     ·cases m with
      |none=>simp;omega
      |some mi=>have:=(k1 mi rfl);simp;omega
     ·intro hp';have:p=none:=by
       split at hp'
       ·exact hp'
       cases p with
       |none=>rfl
       |some _=>simp at hp'
      have:=hnone this;refine⟨this.1,?_⟩;cases m with
      |none=>simp;omega
      |some mi=>have:=k1 mi rfl;simp;omega
     intro ad hp';cases p with
     |none=>split at hp'<;>simp at hp'
     | some pa=>
       have h6:=hsome _ rfl;obtain⟨blk,off,spot⟩:=pa;simp only at h6;split at hp'
       ·rename_i hml;simp only[Option.some.injEq] at hp';subst hp';refine .inl ?_;apply List.eq_nil_of_length_eq_zero;simp;omega
       rcases h6 with h6|⟨hs,hn,cur,e2,fr,hg,hr⟩
       ·subst h6;exact .inl (by simp)
       subst hs;simp only[Option.map_some,Option.some.injEq,addr_add] at hp';subst hp';refine .inr ⟨rfl,hn,cur,e2,fr,hg,?_⟩;have:=jk ((l.map Int.toNat).getD 0) (jb (dJ rows.length hh).toNat hr);rw[List.drop_drop,hst] at this;rw[hst];exact this
   refine⟨_,_,hrun',h,?_⟩;simp only[ah];refine BB hrep ?_ ?_
   ·subst hm';subst z1;simp[dJ]
   have hp:p≠none:=fun e=>by have:=(hnone e).1;cases this
   split
   ·exact hp
   cases p with
   |none=>exact absurd rfl hp
   |some _=>simp
  exact h.elim
 ·rename_i hte;have hd':P.underlying t=some .string:=by
   rw[hte] at eH;cases d<;>simp[di] at eH
   exact hd
  split at h;rotate_left;cases h
  rename_i str;simp only[ah,aU] at hx;subst hx;split at h;rotate_left;cases h
  obtain⟨h,k2⟩:=iK h;obtain⟨h,k3⟩:=iK h;have mxn:mx=none:=by
   cases mx with
   |none=>rfl
   |some v=>simp only[Option.map_some] at v3;cases ev:a.eval v<;>rw[ev] at v3<;>exact v3.elim
  subst mxn;obtain⟨hrun,q1,q2,q3⟩:=fV (P:=P) (w:=w) (Lh:=false) (len:=str.size) (cap:=str.size) v1 v2 v3 (Nat.le_refl _) (fun i e=>by cases e) k2 k3;have hrun':(Instr.sliceAt t (.string str) (lo.map a.eval) (hi.map a.eval) none).run P w=.ok (.string (str.extract ((l.map Int.toNat).getD 0) (dJ str.size hh).toNat)) w:=by
   simp only[Option.map_none] at hrun;simp only[Instr.sliceAt,Instr.slice,Sem.run_bind,run_underlying hd',Result.andThen_ok,hrun,Sem.run_pure];simp[hrun]
  refine⟨_,_,hrun',h,?_⟩;simp only[ah,aU];have hsz:str.extract 0 str.size=str:=by
   rw[ByteArray.extract_zero_size]
  cases l<;>cases hh<;>simp[VI,dJ,hsz]
 exact h.elim
end
def Real.at (R:Real)(b g:Nat)(nil:Bool)(cap:Nat):Real:=
 { blk:=fun b'=>if b'=b then g else R.blk b',nil:=fun b'=>if b'=b then nil else R.nil b',cap:=fun b'=>if b'=b then (cap,[]) else R.cap b',Y:=R.Y }
theorem Real.sD (R:Real)(b g:Nat)(nil:Bool)(cap:Nat):∀b',b'≠b→(R.at b g nil cap).blk b'=R.blk b'∧(R.at b g nil cap).nil b'=R.nil b'∧(R.at b g nil cap).cap b'=R.cap b':=
 fun b' h=>by simp[Real.at,h]
section
variable {P:Program}{T:Tab}{c:Ctx}{R:Real}{s:AS}{a:Act}{w:World}
theorem aR.Io (g:aR c R s a w){id:Nat}(hf:lk s.hp id=none){o:Obj}{w':World}(hw':w'.heap=w.heap.push o∧w'.os=w.os∧w'.tape=w.tape∧w'.output=w.output)
  {R':Real} (hR:∀b',b'≠id→R'.blk b'=R.blk b'∧R'.nil b'=R.nil b'∧R'.cap b'=R.cap b') (hb:R'.nil id=false→R'.blk id=w.heap.size) {box:av}
  (jy:∀cells,box=.var cells→R'.nil id=false)
  (yE:(∀v x,ah (aH c R s.hp) w s.hp R v x→ah (aH c R' ((id,box)::s.hp)) w' ((id,box)::s.hp) R' v x) →
   dm (aH c R' ((id,box)::s.hp)) w' ((id,box)::s.hp) R' id box)
  (Nv:∀x y z u,box ≠ .tr x y z u:=by intros;intro h;cases h) (hY:R'.Y=R.Y:=by rfl) (hnf:∀a b c d e f g h i,box ≠ .bR a b c d e f g h i:=by intros;intro h;cases h) :
  aR c R' (s.app [(id,box)]) a w'∧(∀v x,ah (aH c R s.hp) w s.hp R v x→ah (aH c R' ((id,box)::s.hp)) w' ((id,box)::s.hp) R' v x):=by
 have r1:∀off v,aI R id off v (lk s.hp id)→aI R' id off v (some box):=fun off v h=>by rw[hf] at h;exact h.elim
 have r2:∀ver v,aD R id ver v (lk s.hp id)→aD R' id ver v (some box):=fun off v h=>by rw[hf] at h;exact h.elim
 have r3:∀ver i off v,aK R id ver i off v (lk s.hp id)→aK R' id ver i off v (some box):=fun _ _ _ v h=>by rw[hf] at h;exact h.elim
 have hown:∀r,ax R' id r (some box)→ax R id r (lk s.hp id)∨w.heap.size≤r:=by
  intro r h;refine .inr ?_;cases box with
  |var cells=>simp only[ax] at h;have:=hb (jy _ rfl);omega
  |ny _=>exact h.elim
  |arr _ _ _ _=>obtain⟨h1,h2⟩:=h;have:=hb h1;omega
  |bX _ _ _=>exact h.elim
  |tr x y z u=>exact absurd rfl (Nv x y z u)
  |dL _ _ _ _ _ _=>obtain⟨h1,h2⟩:=h;have:=hb h1;omega
  |mp _ _ _=>obtain⟨h1,h2⟩:=h;have:=hb h1;omega
  |bR _ _ _ _ _ _ _ _ _=>exact absurd rfl (hnf _ _ _ _ _ _ _ _ _)
 have hworld:iZ (fun r=>ax R id r (lk s.hp id)) w w':=by
  refine⟨by rw[hw'.1];simp,fun r hr _=>?_,hw'.2.1,hw'.2.2.1,hw'.2.2.2⟩;rw[hw'.1,Array.getElem?_push];simp[Nat.ne_of_lt hr]
 obtain⟨m1,m2,m3,m4,m5⟩:=g.zS hR r1 r2 r3 hown hworld hY;have hm:∀v x,ah (aH c R s.hp) w s.hp R v x→ah (aH c R' ((id,box)::s.hp)) w' ((id,box)::s.hp) R' v x:=fun v x h=>bF m1 m2 m3 m4 m5 v x h
 exact⟨g.upd hR r1 r2 r3 hown hworld (yE hm) hY,hm⟩
theorem aR.newVar (g:aR c R s a w){id:Nat}(hf:lk s.hp id=none){cells:List AV}{vs:Array Value}{t:TypeId}(hc:FC (ah (aH c R s.hp) w s.hp R) cells vs.toList) :
  ∃R',aR c R' (s.app [(id,.var cells)]) a { w with heap:=w.heap.push (.cells vs t) } ∧
   ah (aH c R' ((id,.var cells)::s.hp)) { w with heap:=w.heap.push (.cells vs t) } ((id,.var cells)::s.hp) R' (.ptr id 0) (.pointer (some ⟨w.heap.size,0,none⟩)):=by
 refine⟨R.at id w.heap.size false 0,?_,?_⟩
 ·refine (g.Io (w':={ w with heap:=w.heap.push (.cells vs t) }) (box:=.var cells) hf (o:=.cells vs t) ⟨rfl,rfl,rfl,rfl⟩ (Real.sD R id w.heap.size false 0)
   (fun _=>by simp[Real.at]) (fun _ _=>by simp[Real.at]) fun hm=>?_).1
  refine⟨vs,t,?_,?_⟩
  ·simp[Real.at]
  rw[aY];exact hc.imp hm
 simp only[ah,aj,if_true,aI];simp[Real.at]
theorem aR.Mx (g:aR c R s a w){id:Nat}(hf:lk s.hp id=none){e:TypeId}{st:Nat}{rows:List (List PV)}{w':World}{cur:Array Value}{cap:Nat}
  (hw':w'.heap=w.heap.push (.cells cur e)∧w'.os=w.os∧w'.tape=w.tape∧w'.output=w.output)
  (hle:rows.length≤cap) (hcm:cap≤maxLen) (hs:cur.size=cap*st) (hr:bf (aH c R s.hp) w st rows cur.toList) :
  ∃R',aR c R' (s.app [(id,.arr e 0 st rows)]) a w' ∧
   ah (aH c R' ((id,.arr e 0 st rows)::s.hp)) w' ((id,.arr e 0 st rows)::s.hp) R' (.aG id 0) (.slice (some ⟨w.heap.size,0,none⟩) rows.length cap):=by
 have hsl:bA (R.at id w.heap.size false cap) id rows.length=.slice (some ⟨w.heap.size,0,none⟩) rows.length cap:=by simp[bA,Real.at]
 refine⟨R.at id w.heap.size false cap,?_,?_⟩
 ·refine (g.Io hf (o:=.cells cur e) hw' (Real.sD R id _ _ _) (fun _=>by simp[Real.at]) (fun _ _=>by simp[Real.at]) fun hm=>?_).1;have hr':bf (aH c (R.at id w.heap.size false cap) ((id,av.arr e 0 st rows)::s.hp)) w' st rows cur.toList:=by
   refine aN ?_ ?_ _ _ _ hr
   ·rintro r hlt (h|⟨b,h⟩)
    ·exact .inl h
    refine .inr ⟨b,?_⟩;by_cases eb:b=id
    ·subst eb;simp only[aj,if_true,ax] at h;simp[Real.at] at h;omega
    rw[aj,if_neg (fun x=>eb x.symm)] at h;exact bU (Real.sD R id _ _ _ b eb) rfl h
   intro r hlt _;rw[hw'.1,Array.getElem?_push];simp[Nat.ne_of_lt hlt]
  obtain⟨t1,t2,t3⟩:=dR hr';refine⟨cur.toList.take (rows.length*st),?_,t2⟩;rw[hsl];refine⟨by simp only[List.length_take];omega,.inr ⟨w.heap.size,cap,cur,rfl,Nat.zero_le _,?_,hle,hcm,hs,rfl⟩⟩;rw[hw'.1];simp
 simp only[ah,aj,if_true,aD];exact⟨Nat.le_refl _,rfl,fun _=>hsl.symm⟩
theorem aR.freeze (g:aR c R s a w){b:Nat}{box aV:av}(hb:lk s.hp b=some box)
  (hf:(∃e v st rows,box=.arr e v st rows∧aV=.bX v st rows)∨(∃cells ps,box=.var cells∧gu cells=some ps∧aV=.ny ps)) :
  aR c R (s.app [(b,aV)]) a w∧(∀v x,ah (aH c R s.hp) w s.hp R v x→ah (aH c R ((b,aV)::s.hp)) w ((b,aV)::s.hp) R v x) ∧
   (∀r,aH c R ((b,aV)::s.hp) r→aH c R s.hp r)∧(∀r,ax R b r (lk s.hp b)→¬aH c R ((b,aV)::s.hp) r):=by
 have hR:∀b',b'≠b→R.blk b'=R.blk b'∧R.nil b'=R.nil b'∧R.cap b'=R.cap b':=fun _ _=>⟨rfl,rfl,rfl⟩
 have r1:∀off v,aI R b off v (lk s.hp b)→aI R b off v (some aV):=by
  intro off v h;rw[hb] at h;rcases hf with ⟨e,v',st,rows,rfl,rfl⟩|⟨cells,ps,rfl,_,rfl⟩
  ·exact h
  exact h
 have r2:∀ver v,aD R b ver v (lk s.hp b)→aD R b ver v (some aV):=by
  intro off v h;rw[hb] at h;rcases hf with ⟨e,v',st,rows,rfl,rfl⟩|⟨cells,ps,rfl,_,rfl⟩
  ·exact h
  exact h
 have r3:∀ver i off v,aK R b ver i off v (lk s.hp b)→aK R b ver i off v (some aV):=by
  intro _ _ off v h;rw[hb] at h;rcases hf with ⟨e,v',st,rows,rfl,rfl⟩|⟨cells,ps,rfl,_,rfl⟩
  ·exact h
  exact h
 have hno:∀r,¬ax R b r (some aV):=by
  intro r h;rcases hf with ⟨e,v',st,rows,rfl,rfl⟩|⟨cells,ps,rfl,_,rfl⟩<;>exact h
 have hown:∀r,ax R b r (some aV)→ax R b r (lk s.hp b)∨w.heap.size≤r:=fun r h=>(hno r h).elim
 obtain⟨m1,m2,m3,m4,m5⟩:=g.zS hR r1 r2 r3 hown (iZ.refl _ w);have oF:lk ((b,aV)::s.hp) b=some aV:=by rw[aj,if_pos rfl]
 have hsub:∀r,aH c R ((b,aV)::s.hp) r→aH c R s.hp r:=by
  rintro r (h|⟨b',h⟩)
  ·exact .inl h
  by_cases e:b'=b
  ·subst e;rw[oF] at h;exact (hno r h).elim
  rw[aj,if_neg (fun x=>e x.symm)] at h;exact .inr ⟨b',h⟩
 have hout:∀r,ax R b r (lk s.hp b)→¬aH c R ((b,aV)::s.hp) r:=by
  rintro r ho (h|⟨b',h⟩)
  ·exact g.free r ⟨b,ho⟩ h
  by_cases e:b'=b
  ·subst e;rw[oF] at h;exact hno r h
  rw[aj,if_neg (fun x=>e x.symm)] at h;exact e (g.inj b' b r h ho)
 refine⟨g.upd hR r1 r2 r3 hown (iZ.refl _ w) ?_,fun v x h=>bF m1 m2 m3 m4 m5 v x h,hsub,hout⟩;rcases hf with ⟨e,v',st,rows,rfl,rfl⟩|⟨cells,ps,rfl,hps,rfl⟩
 ·simp only[dm];refine kV g (b:=b) (ver:=v') (p:=.sl false st rows) ?_ hsub hout ?_
  ·rw[hb];simp[oJ]
  rw[hb];refine⟨Nat.le_refl _,?_,fun _=>rfl⟩;unfold bA;split<;>rfl
 obtain⟨cur,e,hg,hc⟩:=(g.boxes b _ hb);rw[aY] at hc;have hc':=mF hps hc;refine⟨cur,e,(0,0),hg,hout _ (by rw[hb];rfl),?_⟩;have:dM (aH c R s.hp) w ps cur.toList:=by rw[bM];exact hc'.fp
 exact bL (fun r _ h=>hsub r h) (fun _ _ _=>rfl) _ _ this
end
end Go.AX
end
