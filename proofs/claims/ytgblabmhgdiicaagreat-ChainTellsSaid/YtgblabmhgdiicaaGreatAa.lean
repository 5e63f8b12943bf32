/-
  Conditions: none. A framework for walks: abstract values, memory, and conditions that suffice; the chapters in plain terms.
-/
import Derived.Laws.AppendOwn
import Derived.Orders
import Derived.Tactics
import Derived.RangeFuncWrites
import Derived.Laws.Cells
import Derived.Laws.MakeOwn
import Derived.Laws.CopyRow
import Derived.Laws.StructEq
import Derived.Laws.BytesString
set_option linter.unusedSectionVars false
set_option linter.unusedVariables false
set_option linter.unusedSimpArgs false
section
namespace Go.AX
inductive PV where
  | sc (v : Value)
  | agg (cs : List PV)
  | tup (vs : List PV)
  | sl (nn : Bool) (st : Nat) (rows : List (List PV))
  | eptr (row : List PV) (off : Nat)
  | fn (f : Fn) (first caps : List PV)
  | junk
inductive AV where
  | pv (p : PV)
  | agg (cs : List AV)
  | tup (vs : List AV)
  | ptr (b off : Nat)
  | aptr (b ver i off : Nat)
  | slw (b ver : Nat)
  /-- the rows from lo to hi of a slice of one's own, of st cells each -/
  | sub (b ver st lo hi : Nat)
  | fn (f : Fn) (first caps : List AV)
inductive Box where
  | var (cells : List AV)
  | rov (cells : List PV)
  | arr (e : TypeId) (ver st : Nat) (rows : List (List PV))
  | roa (ver st : Nat) (rows : List (List PV))
  /-- of an iterator: what is still to be yielded; has the loop been left? -/
  | tr (y : Program × Nat) (ver : Nat) (rest : List (List PV)) (st : Option Bool)
structure AS where
  tm : List (Nat × AV)
  nx : Nat
  hp : List (Nat × Box)
def lk {α : Type} : List (Nat × α) → Nat → Option α
  | [], _ => none
  | (k, v) :: r, t => match Nat.beq k t with
    | true => some v
    | false => lk r t
theorem lk_cons {α : Type} (k : Nat) (v : α) (r : List (Nat × α)) (t : Nat) : lk ((k, v) :: r) t = if k = t then some v else lk r t := by
  simp only [lk]
  cases h : Nat.beq k t with
  | true => simp [Nat.eq_of_beq_eq_true h]
  | false => simp [Nat.ne_of_beq_eq_false h]
section
variable (N : Nat → Prop) (w : World)
mutual
def rep : PV → Value → Prop
  | .sc x, v => v = x
  | .agg cs, v => ∃ vs : Array Value, v = .agg vs ∧ repC cs vs.toList
  | .tup cs, v => ∃ vs : Array Value, v = .tuple vs ∧ repL cs vs.toList
  | .sl nn st rows, v => ∃ (p : Option Addr) (len cap : Nat), v = .slice p len cap ∧ len = rows.length ∧ (len ≤ cap ∧ cap ≤ 9223372036854775807) ∧ (p = none → nn = false ∧ cap = 0) ∧
      ∀ a, p = some a → rows = [] ∨ (a.spot = none ∧ ¬ N a.block ∧ ∃ cur e fr, w.heap[a.block]? = some (.cells cur e fr) ∧ repR st rows (cur.toList.drop a.off))
  | .eptr row off, v => ∃ (g base : Nat) (cur : Array Value) (e : TypeId) (fr : Nat × Nat), v = .pointer (some ⟨g, base + off, none⟩) ∧ ¬ N g ∧
      w.heap[g]? = some (.cells cur e fr) ∧ repP row (cur.toList.drop base)
  | .fn f first caps, v => ∃ fs cs : Array Value, v = .func f fs cs ∧ repL first fs.toList ∧ repL caps cs.toList
  | .junk, _ => True
def repL : List PV → List Value → Prop
  | [], vs => vs = []
  | p :: ps, vs => ∃ v r, vs = v :: r ∧ rep p v ∧ repL ps r
def repC : List PV → List Value → Prop
  | [], vs => vs = []
  | p :: ps, vs => ∃ v r, vs = v :: r ∧ v.oneCell' = true ∧ rep p v ∧ repC ps r
def repP : List PV → List Value → Prop
  | [], _ => True
  | p :: ps, vs => ∃ v r, vs = v :: r ∧ v.oneCell' = true ∧ rep p v ∧ repP ps r
def repR (st : Nat) : List (List PV) → List Value → Prop
  | [], _ => True
  | row :: rows, vs => row.length = st ∧ repP row vs ∧ repR st rows (vs.drop st)
end
end
theorem size_of_getElem? {α : Type} {a : Array α} {i : Nat} {x : α} (h : a[i]? = some x) : i < a.size := (Array.getElem?_eq_some_iff.1 h).1
section
variable {N N' : Nat → Prop} {w w' : World} (hN : ∀ r, r < w.heap.size → N' r → N r) (hw : ∀ r, r < w.heap.size → ¬ N r → w'.heap[r]? = w.heap[r]?)
include hN hw
mutual
theorem rep_mono : ∀ (p : PV) (v : Value), rep N w p v → rep N' w' p v
  | .sc x, v => by simp only [rep]; exact id
  | .agg cs, v => by simp only [rep]; rintro ⟨vs, h1, h2⟩; exact ⟨vs, h1, repC_mono cs _ h2⟩
  | .tup cs, v => by simp only [rep]; rintro ⟨vs, h1, h2⟩; exact ⟨vs, h1, repL_mono cs _ h2⟩
  | .sl nn st rows, v => by
    simp only [rep]
    rintro ⟨p, len, cap, h1, h2, h3, h4, h5⟩
    refine ⟨p, len, cap, h1, h2, h3, h4, fun a ha => ?_⟩
    rcases h5 a ha with h7 | ⟨h6, h7, cur, e, fr, h8, h9⟩
    · exact .inl h7
    · have hs := size_of_getElem? h8
      exact .inr ⟨h6, fun h => h7 (hN _ hs h), cur, e, fr, (hw _ hs h7).trans h8, repR_mono st rows _ h9⟩
  | .eptr row off, v => by
    simp only [rep]
    rintro ⟨g, base, cur, e, fr, h1, h7, h8, h9⟩
    have hs := size_of_getElem? h8
    exact ⟨g, base, cur, e, fr, h1, fun h => h7 (hN _ hs h), (hw _ hs h7).trans h8, repP_mono row _ h9⟩
  | .fn f first caps, v => by
    simp only [rep]; rintro ⟨fs, cs, h1, h2, h3⟩; exact ⟨fs, cs, h1, repL_mono _ _ h2, repL_mono _ _ h3⟩
  | .junk, v => by simp only [rep]; exact id
theorem repL_mono : ∀ (ps : List PV) (vs : List Value), repL N w ps vs → repL N' w' ps vs
  | [], vs => by simp only [repL]; exact id
  | p :: ps, vs => by simp only [repL]; rintro ⟨v, r, h1, h2, h3⟩; exact ⟨v, r, h1, rep_mono p v h2, repL_mono ps r h3⟩
theorem repC_mono : ∀ (ps : List PV) (vs : List Value), repC N w ps vs → repC N' w' ps vs
  | [], vs => by simp only [repC]; exact id
  | p :: ps, vs => by simp only [repC]; rintro ⟨v, r, h1, h0, h2, h3⟩; exact ⟨v, r, h1, h0, rep_mono p v h2, repC_mono ps r h3⟩
theorem repP_mono : ∀ (ps : List PV) (vs : List Value), repP N w ps vs → repP N' w' ps vs
  | [], vs => by simp only [repP]; exact id
  | p :: ps, vs => by simp only [repP]; rintro ⟨v, r, h1, h0, h2, h3⟩; exact ⟨v, r, h1, h0, rep_mono p v h2, repP_mono ps r h3⟩
theorem repR_mono (st : Nat) : ∀ (rows : List (List PV)) (vs : List Value), repR N w st rows vs → repR N' w' st rows vs
  | [], vs => by simp only [repR]; exact id
  | row :: rows, vs => by simp only [repR]; rintro ⟨h1, h2, h3⟩; exact ⟨h1, repP_mono row _ h2, repR_mono st rows _ h3⟩
end
end
structure Evo (O : Nat → Prop) (w w' : World) : Prop where
  size : w.heap.size ≤ w'.heap.size
  keep : ∀ r, r < w.heap.size → ¬ O r → w'.heap[r]? = w.heap[r]?
  os : w'.os = w.os
  tape : w'.tape = w.tape
  output : w'.output = w.output
theorem Evo.refl (O : Nat → Prop) (w : World) : Evo O w w := ⟨Nat.le_refl _, fun _ _ _ => rfl, rfl, rfl, rfl⟩
theorem Evo.trans {O O' : Nat → Prop} {w w1 w2 : World} (h : Evo O w w1) (h' : Evo O' w1 w2) (ho : ∀ r, r < w.heap.size → O' r → O r) : Evo O w w2 :=
  ⟨Nat.le_trans h.size h'.size, fun r hr hn => (h'.keep r (Nat.lt_of_lt_of_le hr h.size) fun x => hn (ho r hr x)).trans (h.keep r hr hn),
    h'.os.trans h.os, h'.tape.trans h.tape, h'.output.trans h.output⟩
theorem Evo.mono {O O' : Nat → Prop} {w w1 : World} (h : Evo O w w1) (ho : ∀ r, O r → O' r) : Evo O' w w1 :=
  ⟨h.size, fun r hr hn => h.keep r hr fun x => hn (ho r x), h.os, h.tape, h.output⟩
structure EvoC (n0 : Nat) (Z D : Nat → Prop) (w w' : World) : Prop where
  size : w.heap.size ≤ w'.heap.size
  keep : ∀ r o, w.heap[r]? = some o → ¬ Z r → (r < n0 ∨ o.isCells = true ∨ D r) → w'.heap[r]? = some o
  os : w'.os = w.os
  tape : w'.tape = w.tape
  output : w'.output = w.output
theorem EvoC.refl (n0 : Nat) (Z D : Nat → Prop) (w : World) : EvoC n0 Z D w w := ⟨Nat.le_refl _, fun _ _ h _ _ => h, rfl, rfl, rfl⟩
theorem EvoC.step {n0 : Nat} {Z D O : Nat → Prop} {w w1 w2 : World} (h : EvoC n0 Z D w w1) (h' : Evo O w1 w2) (ho : ∀ r, r < w.heap.size → O r → Z r) : EvoC n0 Z D w w2 :=
  ⟨Nat.le_trans h.size h'.size, fun r o hr hz hc => by
      have hlt := (Array.getElem?_eq_some_iff.1 hr).1
      rw [h'.keep r (Nat.lt_of_lt_of_le hlt h.size) fun x => hz (ho r hlt x)]
      exact h.keep r o hr hz hc, h'.os.trans h.os, h'.tape.trans h.tape, h'.output.trans h.output⟩
structure YS where
  Z : Nat → Prop
  D : Nat → Prop
  wy : World
  n0 : Nat × (List (List PV) → Bool → (Nat → Prop) → (Nat → Prop) → World → Prop)
def YH (y : Program × Nat) (n0 : Nat) (J : List (List PV) → Bool → (Nat → Prop) → (Nat → Prop) → World → Prop) : Prop :=
  ∀ (x : List PV) (rest : List (List PV)) (Z D : Nat → Prop) (wy w : World) (Z' : Nat → Prop) (vs : List Value), J (x :: rest) false Z D wy → EvoC n0 Z D wy w → (∀ r, D r → r < wy.heap.size) →
    (∀ r, Z' r → Z r ∨ wy.heap.size ≤ r) → (∀ r, Z' r → r < w.heap.size) → (∀ r, Z' r → ¬ D r) → repL (fun r => D r ∨ Z' r) w x vs →
    YieldAt Fence.wide 0 y.1 y.2 vs.toArray w fun e w' => ∃ (D' : Nat → Prop) (b : Bool), e = .returned (.bool b) ∧ Evo D w w' ∧ (∀ r, D' r → D r ∨ w.heap.size ≤ r) ∧ (∀ r, D' r → r < w'.heap.size) ∧ J rest (!b) Z' D' w'
structure Real where
  blk : Nat → Nat
  nil : Nat → Bool
  cap : Nat → Nat
  Y : YS
def slv (R : Real) (b n : Nat) : Value := if R.nil b then .slice none 0 0 else .slice (some ⟨R.blk b, 0, none⟩) n (R.cap b)
def refPtr (R : Real) (b off : Nat) (v : Value) : Option Box → Prop
  | some (.var _) => v = .pointer (some ⟨R.blk b, off, none⟩)
  | some (.rov _) => v = .pointer (some ⟨R.blk b, off, none⟩)
  | _ => False
def refSl (R : Real) (b ver : Nat) (v : Value) : Option Box → Prop
  | some (.arr _ ver' _ rows) => ver ≤ ver' ∧ v.oneCell' = true ∧ (ver = ver' → v = slv R b rows.length)
  | some (.roa ver' _ rows) => ver ≤ ver' ∧ v.oneCell' = true ∧ (ver = ver' → v = slv R b rows.length)
  | _ => False
def refAp (R : Real) (b ver i off : Nat) (v : Value) : Option Box → Prop
  | some (.arr _ ver' st _) => ver ≤ ver' ∧ v.oneCell' = true ∧ (ver = ver' → R.nil b = false ∧ v = .pointer (some ⟨R.blk b, i * st + off, none⟩))
  | some (.roa ver' st _) => ver ≤ ver' ∧ v.oneCell' = true ∧ (ver = ver' → R.nil b = false ∧ v = .pointer (some ⟨R.blk b, i * st + off, none⟩))
  | some (.tr _ ver' _ st) => ver ≤ ver' ∧ v.oneCell' = true ∧ (ver = ver' → st = none → v = .bool (R.nil b != Nat.beq off 1))
  | _ => False
def subv (st lo hi : Nat) : Value → Value
  | .slice (some a) _ cap => .slice (some (if cap = lo then a else a.add (lo * st))) (hi - lo) (cap - lo)
  | _ => .slice none 0 0
def subOK (lo hi : Nat) : Value → Prop
  | .slice _ n _ => lo ≤ hi ∧ hi ≤ n
  | _ => False
theorem subv_one (st lo hi : Nat) (u : Value) : (subv st lo hi u).oneCell' = true := by
  unfold subv
  split <;> rfl
section
variable (N : Nat → Prop) (w : World) (hp : List (Nat × Box)) (R : Real)
mutual
def repA : AV → Value → Prop
  | .pv p, v => rep N w p v
  | .agg cs, v => ∃ vs : Array Value, v = .agg vs ∧ repAC cs vs.toList
  | .tup cs, v => ∃ vs : Array Value, v = .tuple vs ∧ repAL cs vs.toList
  | .ptr b off, v => refPtr R b off v (lk hp b)
  | .slw b ver, v => refSl R b ver v (lk hp b)
  | .sub b ver st lo hi, v => ∃ u, refSl R b ver u (lk hp b) ∧ subOK lo hi u ∧ v = subv st lo hi u
  | .aptr b ver i off, v => refAp R b ver i off v (lk hp b)
  | .fn f first caps, v => ∃ fs cs : Array Value, v = .func f fs cs ∧ repAL first fs.toList ∧ repAL caps cs.toList
def repAL : List AV → List Value → Prop
  | [], vs => vs = []
  | p :: ps, vs => ∃ v r, vs = v :: r ∧ repA p v ∧ repAL ps r
def repAC : List AV → List Value → Prop
  | [], vs => vs = []
  | p :: ps, vs => ∃ v r, vs = v :: r ∧ v.oneCell' = true ∧ repA p v ∧ repAC ps r
end
end
section
variable {N N' : Nat → Prop} {w w' : World} {hp hp' : List (Nat × Box)} {R R' : Real}
variable (hN : ∀ r, r < w.heap.size → N' r → N r) (hw : ∀ r, r < w.heap.size → ¬ N r → w'.heap[r]? = w.heap[r]?)
variable (h1 : ∀ b off v, refPtr R b off v (lk hp b) → refPtr R' b off v (lk hp' b))
variable (h2 : ∀ b ver v, refSl R b ver v (lk hp b) → refSl R' b ver v (lk hp' b))
variable (h3 : ∀ b ver i off v, refAp R b ver i off v (lk hp b) → refAp R' b ver i off v (lk hp' b))
include hN hw h1 h2 h3
mutual
theorem repA_mono : ∀ (p : AV) (v : Value), repA N w hp R p v → repA N' w' hp' R' p v
  | .pv p, v => by simp only [repA]; exact rep_mono hN hw p v
  | .agg cs, v => by simp only [repA]; rintro ⟨vs, a, b⟩; exact ⟨vs, a, repAC_mono cs _ b⟩
  | .tup cs, v => by simp only [repA]; rintro ⟨vs, a, b⟩; exact ⟨vs, a, repAL_mono cs _ b⟩
  | .ptr b off, v => by simp only [repA]; exact h1 b off v
  | .slw b ver, v => by simp only [repA]; exact h2 b ver v
  | .sub b ver st lo hi, v => by simp only [repA]; rintro ⟨u, a, c⟩; exact ⟨u, h2 b ver u a, c⟩
  | .aptr b ver i off, v => by simp only [repA]; exact h3 b ver i off v
  | .fn f first caps, v => by
    simp only [repA]; rintro ⟨fs, cs, a, b, c⟩; exact ⟨fs, cs, a, repAL_mono _ _ b, repAL_mono _ _ c⟩
theorem repAL_mono : ∀ (ps : List AV) (vs : List Value), repAL N w hp R ps vs → repAL N' w' hp' R' ps vs
  | [], vs => by simp only [repAL]; exact id
  | p :: ps, vs => by simp only [repAL]; rintro ⟨v, r, a, b, c⟩; exact ⟨v, r, a, repA_mono p v b, repAL_mono ps r c⟩
theorem repAC_mono : ∀ (ps : List AV) (vs : List Value), repAC N w hp R ps vs → repAC N' w' hp' R' ps vs
  | [], vs => by simp only [repAC]; exact id
  | p :: ps, vs => by simp only [repAC]; rintro ⟨v, r, a, d, b, c⟩; exact ⟨v, r, a, d, repA_mono p v b, repAC_mono ps r c⟩
end
end
def ownBox (R : Real) (b r : Nat) : Option Box → Prop
  | some (.var _) => R.blk b = r
  | some (.arr _ _ _ _) => R.nil b = false ∧ R.blk b = r
  | some (.tr _ _ _ _) => R.Y.D r
  | _ => False
def owned (R : Real) (hp : List (Nat × Box)) (r : Nat) : Prop := ∃ b, ownBox R b r (lk hp b)
def realz (N : Nat → Prop) (w : World) (hp : List (Nat × Box)) (R : Real) (b : Nat) : Box → Prop
  | .var cells => ∃ cur e, w.heap[R.blk b]? = some (.cells cur e (0, 0)) ∧ repAC N w hp R cells cur.toList
  | .rov cells => ∃ cur e fr, w.heap[R.blk b]? = some (.cells cur e fr) ∧ ¬ N (R.blk b) ∧ repP N w cells cur.toList
  | .arr e _ st rows => ∃ xs, w.ownsRow 0 e st (slv R b rows.length) rows.length xs ∧ repR N w st rows xs
  | .roa _ st rows => rep N w (.sl false st rows) (slv R b rows.length)
  | .tr y _ rest st => b = 999 ∧ YH y R.Y.n0.1 R.Y.n0.2 ∧ R.Y.n0.2 rest (st.getD (!R.nil b)) R.Y.Z R.Y.D R.Y.wy ∧ EvoC R.Y.n0.1 R.Y.Z R.Y.D R.Y.wy w ∧ (∀ r, R.Y.D r → r < R.Y.wy.heap.size) ∧ ∀ r, N r → R.Y.D r ∨ R.Y.Z r ∨ R.Y.wy.heap.size ≤ r
def lowRef : AV → Bool
  | .ptr b _ => Nat.blt b 1000
  | .aptr b _ _ _ => Nat.blt b 1000 && !Nat.beq b 999
  | .slw b _ => Nat.blt b 1000
  | _ => false
structure Ctx where
  F : Nat → Prop
  O : Nat → Prop
  w : World
  n : Nat
  hF : ∀ r, F r → r < w.heap.size
  K : AV → Value → Prop
  hK : ∀ v x, K v x → lowRef v = true
  /-- objects that are no cells, and stay -/
  fix : Nat → Option Obj
  /-- the heap's size when the iterator's call began; when this call did -/
  n0 : Nat × (List (List PV) → Bool → (Nat → Prop) → (Nat → Prop) → World → Prop)
  lo : Nat
def Nof (c : Ctx) (R : Real) (hp : List (Nat × Box)) (r : Nat) : Prop := c.F r ∨ owned R hp r
def mark (D : Nat) : Deferred := { target := .collected D, args := #[] }
structure Marks (lo : Nat) (own : Nat → Prop) (w : World) (ds : List Deferred) (Ds : List Nat) : Prop where
  low : ∀ D ∈ Ds, lo ≤ D
  eq : ds = Ds.map mark
  nodup : Ds.Nodup
  obj : ∀ D ∈ Ds, w.heap[D]? = some (.deferred (some []))
  free : ∀ D ∈ Ds, ¬ own D
structure Fixed (fix : Nat → Option Obj) (own : Nat → Prop) (w : World) : Prop where
  obj : ∀ r o, fix r = some o → w.heap[r]? = some o
  free : ∀ r o, fix r = some o → ¬ own r
  nc : ∀ r o, fix r = some o → o.isCells = false
theorem Marks.kept {lo : Nat} {own own' : Nat → Prop} {w w' : World} {ds : List Deferred} {Ds : List Nat} (h : Marks lo own w ds Ds) (hw : ∀ r, r < w.heap.size → ¬ own r → w'.heap[r]? = w.heap[r]?)
    (ho : ∀ r, r < w.heap.size → own' r → own r) : Marks lo own' w' ds Ds :=
  ⟨h.low, h.eq, h.nodup, fun D hD => (hw D (size_of_getElem? (h.obj D hD)) (h.free D hD)).trans (h.obj D hD), fun D hD x => h.free D hD (ho D (size_of_getElem? (h.obj D hD)) x)⟩
theorem Fixed.kept {fix : Nat → Option Obj} {own own' : Nat → Prop} {w w' : World} (h : Fixed fix own w) (hw : ∀ r, r < w.heap.size → ¬ own r → w'.heap[r]? = w.heap[r]?)
    (ho : ∀ r, r < w.heap.size → own' r → own r) : Fixed fix own' w' :=
  ⟨fun r o hr => (hw r (size_of_getElem? (h.obj r o hr)) (h.free r o hr)).trans (h.obj r o hr), fun r o hr x => h.free r o hr (ho r (size_of_getElem? (h.obj r o hr)) x), h.nc⟩
theorem Fixed.none {own : Nat → Prop} {w : World} : Fixed (fun _ => none) own w := ⟨fun _ _ h => by simp at h, fun _ _ h => by simp at h, fun _ _ h => by simp at h⟩
theorem Marks.nil {lo : Nat} {own : Nat → Prop} {w : World} : Marks lo own w [] [] := ⟨by simp, rfl, List.nodup_nil, by simp, by simp⟩
structure Gam (c : Ctx) (R : Real) (s : AS) (a : Act) (w : World) : Prop where
  slots : ∀ t v, lk s.tm t = some v → ∃ x, a.tmps[t]? = some x ∧ repA (Nof c R s.hp) w s.hp R v x
  size : a.tmps.size = c.n
  lo : R.Y.n0 = c.n0 ∧ c.n0.1 ≤ c.lo ∧ c.lo ≤ w.heap.size
  marks : ∃ Ds, Marks c.lo (owned R s.hp) w a.defers Ds
  fixed : Fixed c.fix (owned R s.hp) w
  boxes : ∀ b box, lk s.hp b = some box → realz (Nof c R s.hp) w s.hp R b box
  inj : ∀ b b' r, ownBox R b r (lk s.hp b) → ownBox R b' r (lk s.hp b') → b = b'
  free : ∀ r, owned R s.hp r → ¬ c.F r
  evo : Evo c.O c.w w
  own0 : ∀ r, owned R s.hp r → c.O r ∨ c.w.heap.size ≤ r
  kept : ∀ v x, c.K v x → repA (Nof c R s.hp) w s.hp R v x
end Go.AX
end
section
namespace Go.AX
theorem slv_congr {R R' : Real} {b n : Nat} (h : R'.blk b = R.blk b ∧ R'.nil b = R.nil b ∧ R'.cap b = R.cap b) : slv R' b n = slv R b n := by
  simp only [slv, h.1, h.2.1, h.2.2]
theorem refPtr_congr {R R' : Real} {b : Nat} (h : R'.blk b = R.blk b ∧ R'.nil b = R.nil b ∧ R'.cap b = R.cap b) {off : Nat} {v : Value} {o : Option Box}
    (x : refPtr R b off v o) : refPtr R' b off v o := by
  cases o with
  | none => exact x
  | some o => cases o <;> simp only [refPtr, h.1] at x ⊢ <;> exact x
theorem refSl_congr {R R' : Real} {b : Nat} (h : R'.blk b = R.blk b ∧ R'.nil b = R.nil b ∧ R'.cap b = R.cap b) {ver : Nat} {v : Value} {o : Option Box}
    (x : refSl R b ver v o) : refSl R' b ver v o := by
  cases o with
  | none => exact x
  | some o => cases o <;> simp only [refSl, slv_congr h] at x ⊢ <;> exact x
theorem refAp_congr {R R' : Real} {b : Nat} (h : R'.blk b = R.blk b ∧ R'.nil b = R.nil b ∧ R'.cap b = R.cap b) {ver i off : Nat} {v : Value} {o : Option Box}
    (x : refAp R b ver i off v o) : refAp R' b ver i off v o := by
  cases o with
  | none => exact x
  | some o => cases o <;> simp only [refAp, h.1, h.2.1] at x ⊢ <;> exact x
theorem ownBox_congr {R R' : Real} {b : Nat} (h : R'.blk b = R.blk b ∧ R'.nil b = R.nil b ∧ R'.cap b = R.cap b) (hY : R'.Y = R.Y) {r : Nat} {o : Option Box}
    (x : ownBox R' b r o) : ownBox R b r o := by
  cases o with
  | none => exact x
  | some o => cases o <;> simp only [ownBox, h.1, h.2.1, hY] at x ⊢ <;> exact x
theorem ownsRow_kept {w w' : World} {base e size : Nat} {v : Value} {n : Nat} {xs : List Value} (h : w.ownsRow base e size v n xs)
    (hk : ∀ k, v.ownBlock = some k → w'.heap[k]? = w.heap[k]?) : w'.ownsRow base e size v n xs := by
  refine ⟨h.1, ?_⟩
  rcases h.2 with hn | ⟨g, cap, cur, rfl, hb, hg, rest⟩
  · exact .inl hn
  · exact .inr ⟨g, cap, cur, rfl, hb, (hk g rfl).trans hg, rest⟩
theorem own_lt {N : Nat → Prop} {w : World} {hp : List (Nat × Box)} {R : Real} {b r : Nat} {box : Box} (hr : realz N w hp R b box) (ho : ownBox R b r (some box)) :
    r < w.heap.size := by
  cases box with
  | var cells =>
    obtain ⟨cur, e, h, _⟩ := hr
    simp only [ownBox] at ho
    exact ho ▸ size_of_getElem? h
  | rov cells => exact ho.elim
  | arr e ver st rows =>
    obtain ⟨xs, h, _⟩ := hr
    simp only [ownBox] at ho
    exact (h.lt r (by simp [slv, ho.1, ho.2, Value.ownBlock])).2
  | roa ver st rows => exact ho.elim
  | tr y ver rest st =>
    obtain ⟨_, _, _, h2, h3, _⟩ := hr
    exact Nat.lt_of_lt_of_le (h3 r ho) h2.size
theorem Gam.own_lt {c : Ctx} {R : Real} {s : AS} {a : Act} {w : World} (g : Gam c R s a w) {b r : Nat} (ho : ownBox R b r (lk s.hp b)) : r < w.heap.size := by
  cases h : lk s.hp b with
  | none => rw [h] at ho; exact ho.elim
  | some box => rw [h] at ho; exact AX.own_lt (g.boxes b box h) ho
theorem Gam.Nlt {c : Ctx} {R : Real} {s : AS} {a : Act} {w : World} (g : Gam c R s a w) {r : Nat} (h : Nof c R s.hp r) : r < w.heap.size := by
  rcases h with h | ⟨b, h⟩
  · exact Nat.lt_of_lt_of_le (c.hF r h) g.evo.size
  · exact g.own_lt h
theorem Gam.updN {c : Ctx} {R : Real} {s : AS} {a : Act} {w : World} (g : Gam c R s a w) {R' : Real} {w' : World} {b : Nat} {box' : Box}
    (hR : ∀ b', b' ≠ b → R'.blk b' = R.blk b' ∧ R'.nil b' = R.nil b' ∧ R'.cap b' = R.cap b')
    (r1 : ∀ off v, refPtr R b off v (lk s.hp b) → refPtr R' b off v (some box'))
    (r2 : ∀ ver v, refSl R b ver v (lk s.hp b) → refSl R' b ver v (some box'))
    (r3 : ∀ ver i off v, refAp R b ver i off v (lk s.hp b) → refAp R' b ver i off v (some box'))
    (hown : ∀ r, ownBox R' b r (some box') → ownBox R b r (lk s.hp b) ∨ w.heap.size ≤ r)
    (hworld : Evo (fun r => ownBox R b r (lk s.hp b)) w w') (hY : R'.Y = R.Y := by rfl) :
    (∀ r, r < w.heap.size → Nof c R' ((b, box') :: s.hp) r → Nof c R s.hp r) ∧ (∀ r, r < w.heap.size → ¬ Nof c R s.hp r → w'.heap[r]? = w.heap[r]?) ∧
    (∀ b' off v, refPtr R b' off v (lk s.hp b') → refPtr R' b' off v (lk ((b, box') :: s.hp) b')) ∧
    (∀ b' ver v, refSl R b' ver v (lk s.hp b') → refSl R' b' ver v (lk ((b, box') :: s.hp) b')) ∧
    (∀ b' ver i off v, refAp R b' ver i off v (lk s.hp b') → refAp R' b' ver i off v (lk ((b, box') :: s.hp) b')) := by
  have lkb : lk ((b, box') :: s.hp) b = some box' := by rw [lk_cons, if_pos rfl]
  have lko : ∀ b', b' ≠ b → lk ((b, box') :: s.hp) b' = lk s.hp b' := fun b' h => by rw [lk_cons, if_neg (fun e => h e.symm)]
  refine ⟨?_, ?_, ?_, ?_, ?_⟩
  · rintro r hr (h | ⟨b', h⟩)
    · exact .inl h
    · by_cases e : b' = b
      · subst e
        rw [lkb] at h
        exact .inr ⟨b', (hown r h).resolve_right (by omega)⟩
      · rw [lko b' e] at h
        exact .inr ⟨b', ownBox_congr (hR b' e) hY h⟩
  · exact fun r hr hn => hworld.keep r hr fun x => hn (.inr ⟨b, x⟩)
  · intro b' off v h
    by_cases e : b' = b
    · subst e; rw [lkb]; exact r1 off v h
    · rw [lko b' e]; exact refPtr_congr (hR b' e) h
  · intro b' ver v h
    by_cases e : b' = b
    · subst e; rw [lkb]; exact r2 ver v h
    · rw [lko b' e]; exact refSl_congr (hR b' e) h
  · intro b' ver i off v h
    by_cases e : b' = b
    · subst e; rw [lkb]; exact r3 ver i off v h
    · rw [lko b' e]; exact refAp_congr (hR b' e) h
theorem Gam.upd {c : Ctx} {R : Real} {s : AS} {a : Act} {w : World} (g : Gam c R s a w) {R' : Real} {w' : World} {b : Nat} {box' : Box} {nx' : Nat}
    (hR : ∀ b', b' ≠ b → R'.blk b' = R.blk b' ∧ R'.nil b' = R.nil b' ∧ R'.cap b' = R.cap b')
    (r1 : ∀ off v, refPtr R b off v (lk s.hp b) → refPtr R' b off v (some box'))
    (r2 : ∀ ver v, refSl R b ver v (lk s.hp b) → refSl R' b ver v (some box'))
    (r3 : ∀ ver i off v, refAp R b ver i off v (lk s.hp b) → refAp R' b ver i off v (some box'))
    (hown : ∀ r, ownBox R' b r (some box') → ownBox R b r (lk s.hp b) ∨ w.heap.size ≤ r)
    (hworld : Evo (fun r => ownBox R b r (lk s.hp b)) w w')
    (hreal : realz (Nof c R' ((b, box') :: s.hp)) w' ((b, box') :: s.hp) R' b box') (hY : R'.Y = R.Y := by rfl) :
    Gam c R' ⟨s.tm, nx', (b, box') :: s.hp⟩ a w' := by
  have lkb : lk ((b, box') :: s.hp) b = some box' := by rw [lk_cons, if_pos rfl]
  have lko : ∀ b', b' ≠ b → lk ((b, box') :: s.hp) b' = lk s.hp b' := fun b' h => by rw [lk_cons, if_neg (fun e => h e.symm)]
  have ownN : ∀ r, owned R' ((b, box') :: s.hp) r → owned R s.hp r ∨ w.heap.size ≤ r := by
    rintro r ⟨b', h⟩
    by_cases e : b' = b
    · subst e
      rw [lkb] at h
      exact (hown r h).imp (fun x => ⟨b', x⟩) id
    · rw [lko b' e] at h
      exact .inl ⟨b', ownBox_congr (hR b' e) hY h⟩
  have hN : ∀ r, r < w.heap.size → Nof c R' ((b, box') :: s.hp) r → Nof c R s.hp r := by
    rintro r hr (h | h)
    · exact .inl h
    · exact .inr ((ownN r h).resolve_right (by omega))
  have hw : ∀ r, r < w.heap.size → ¬ Nof c R s.hp r → w'.heap[r]? = w.heap[r]? := fun r hr hn => hworld.keep r hr fun x => hn (.inr ⟨b, x⟩)
  have p1 : ∀ b' off v, refPtr R b' off v (lk s.hp b') → refPtr R' b' off v (lk ((b, box') :: s.hp) b') := fun b' off v h => by
    by_cases e : b' = b
    · subst e; rw [lkb]; exact r1 off v h
    · rw [lko b' e]; exact refPtr_congr (hR b' e) h
  have p2 : ∀ b' ver v, refSl R b' ver v (lk s.hp b') → refSl R' b' ver v (lk ((b, box') :: s.hp) b') := fun b' ver v h => by
    by_cases e : b' = b
    · subst e; rw [lkb]; exact r2 ver v h
    · rw [lko b' e]; exact refSl_congr (hR b' e) h
  have p3 : ∀ b' ver i off v, refAp R b' ver i off v (lk s.hp b') → refAp R' b' ver i off v (lk ((b, box') :: s.hp) b') := fun b' ver i off v h => by
    by_cases e : b' = b
    · subst e; rw [lkb]; exact r3 ver i off v h
    · rw [lko b' e]; exact refAp_congr (hR b' e) h
  have hwo : ∀ r, r < w.heap.size → ¬ owned R s.hp r → w'.heap[r]? = w.heap[r]? := fun r hr hn => hworld.keep r hr fun x => hn ⟨b, x⟩
  have hoo : ∀ r, r < w.heap.size → owned R' ((b, box') :: s.hp) r → owned R s.hp r := fun r hr h => (ownN r h).resolve_right (by omega)
  refine ⟨?_, g.size, ⟨by rw [hY]; exact g.lo.1, g.lo.2.1, Nat.le_trans g.lo.2.2 hworld.size⟩, g.marks.imp fun Ds h => h.kept hwo hoo, g.fixed.kept hwo hoo, ?_, ?_, ?_, ?_, ?_, fun v x h => repA_mono hN hw p1 p2 p3 v x (g.kept v x h)⟩
  · intro t v h
    obtain ⟨x, hx, hv⟩ := g.slots t v h
    exact ⟨x, hx, repA_mono hN hw p1 p2 p3 v x hv⟩
  · intro b' box h
    by_cases e : b' = b
    · subst e
      simp only [lkb, Option.some.injEq] at h
      subst h
      exact hreal
    · simp only [lko b' e] at h
      have hr := g.boxes b' box h
      have hRb := hR b' e
      have hkeep : ∀ r, ownBox R b' r (lk s.hp b') → w'.heap[r]? = w.heap[r]? := fun r ho =>
        hworld.keep r (g.own_lt ho) fun x => e (g.inj b' b r ho x)
      rw [h] at hkeep
      cases box with
      | var cells =>
        obtain ⟨cur, e', h8, h9⟩ := hr
        refine ⟨cur, e', ?_, repAC_mono hN hw p1 p2 p3 _ _ h9⟩
        rw [hRb.1, hkeep _ rfl]; exact h8
      | rov cells =>
        obtain ⟨cur, e', fr, h8, h7, h9⟩ := hr
        have hs := size_of_getElem? h8
        refine ⟨cur, e', fr, ?_, ?_, repP_mono hN hw _ _ h9⟩
        · rw [hRb.1, hw _ hs h7]; exact h8
        · rw [hRb.1]; exact fun x => h7 (hN _ hs x)
      | arr e' ver st rows =>
        obtain ⟨xs, h8, h9⟩ := hr
        refine ⟨xs, ?_, repR_mono hN hw _ _ _ h9⟩
        rw [slv_congr hRb]
        refine ownsRow_kept h8 fun k hk => hkeep k ?_
        simp only [slv] at hk
        cases hnil : R.nil b' with
        | true => simp [hnil, Value.ownBlock] at hk
        | false => simp [hnil, Value.ownBlock] at hk; exact ⟨hnil, hk⟩
      | roa ver st rows =>
        simp only [realz, slv_congr hRb] at hr ⊢
        exact rep_mono hN hw _ _ hr
      | tr y ver rest st =>
        obtain ⟨k0, kh, k1, k2, k3, k4⟩ := hr
        simp only [realz, hY, hRb.2.1]
        refine ⟨k0, kh, k1, k2.step hworld fun r hr ho => ?_, k3, fun r hn => ?_⟩
        · rcases k4 r (.inr ⟨b, ho⟩) with hd | hz | hs
          · exact absurd (g.inj b' b r (by rw [h]; exact hd) ho) e
          · exact hz
          · omega
        · by_cases hlt : r < w.heap.size
          · exact k4 r (hN r hlt hn)
          · exact .inr (.inr (by have := k2.size; omega))
  · intro b1 b2 r h1 h2
    by_cases e1 : b1 = b
    · by_cases e2 : b2 = b
      · rw [e1, e2]
      · subst e1
        simp only [lkb, lko b2 e2] at h1 h2
        have h2' := ownBox_congr (hR b2 e2) hY h2
        have hlt := g.own_lt h2'
        exact g.inj _ _ r ((hown r h1).resolve_right (by omega)) h2'
    · by_cases e2 : b2 = b
      · subst e2
        simp only [lkb, lko b1 e1] at h1 h2
        have h1' := ownBox_congr (hR b1 e1) hY h1
        have hlt := g.own_lt h1'
        exact g.inj _ _ r h1' ((hown r h2).resolve_right (by omega))
      · simp only [lko b1 e1, lko b2 e2] at h1 h2
        exact g.inj _ _ r (ownBox_congr (hR b1 e1) hY h1) (ownBox_congr (hR b2 e2) hY h2)
  · intro r h hF
    rcases ownN r h with h | h
    · exact g.free r h hF
    · have := c.hF r hF
      have := g.evo.size
      omega
  · refine g.evo.trans hworld fun r hr ho => ?_
    exact (g.own0 r ⟨b, ho⟩).resolve_right (by omega)
  · intro r h
    rcases ownN r h with h | h
    · exact g.own0 r h
    · exact .inr (Nat.le_trans g.evo.size h)
theorem Gam.grow {c : Ctx} {R : Real} {s : AS} {a : Act} {w w' : World} (g : Gam c R s a w) (h : Evo (fun _ => False) w w') : Gam c R s a w' := by
  have hk : ∀ r, r < w.heap.size → w'.heap[r]? = w.heap[r]? := fun r hr => h.keep r hr id
  refine ⟨?_, g.size, ⟨g.lo.1, g.lo.2.1, Nat.le_trans g.lo.2.2 h.size⟩, g.marks.imp fun Ds h' => h'.kept (fun r hr _ => hk r hr) (fun _ _ x => x), g.fixed.kept (fun r hr _ => hk r hr) (fun _ _ x => x), ?_, g.inj, g.free, g.evo.trans h fun _ _ x => x.elim, g.own0,
    fun v x hv => repA_mono (fun _ _ x => x) (fun r hr _ => hk r hr) (fun _ _ _ x => x) (fun _ _ _ x => x) (fun _ _ _ _ _ x => x) v x (g.kept v x hv)⟩
  · intro t v ht
    obtain ⟨x, hx, hv⟩ := g.slots t v ht
    exact ⟨x, hx, repA_mono (fun _ _ x => x) (fun r hr _ => hk r hr) (fun _ _ _ x => x) (fun _ _ _ x => x) (fun _ _ _ _ _ x => x) v x hv⟩
  · intro b box hb
    have hr := g.boxes b box hb
    cases box with
    | var cells =>
      obtain ⟨cur, e', h8, h9⟩ := hr
      exact ⟨cur, e', (hk _ (size_of_getElem? h8)).trans h8, repAC_mono (fun _ _ x => x) (fun r hr _ => hk r hr) (fun _ _ _ x => x) (fun _ _ _ x => x) (fun _ _ _ _ _ x => x) _ _ h9⟩
    | rov cells =>
      obtain ⟨cur, e', fr, h8, h7, h9⟩ := hr
      exact ⟨cur, e', fr, (hk _ (size_of_getElem? h8)).trans h8, h7, repP_mono (fun _ _ x => x) (fun r hr _ => hk r hr) _ _ h9⟩
    | arr e' ver st rows =>
      obtain ⟨xs, h8, h9⟩ := hr
      exact ⟨xs, ownsRow_kept h8 fun k hk' => hk k (h8.lt k hk').2, repR_mono (fun _ _ x => x) (fun r hr _ => hk r hr) _ _ _ h9⟩
    | roa ver st rows => exact rep_mono (fun _ _ x => x) (fun r hr _ => hk r hr) _ _ hr
    | tr y ver rest st =>
      obtain ⟨k0, kh, k1, k2, k3, k4⟩ := hr
      exact ⟨k0, kh, k1, k2.step h fun _ _ x => x.elim, k3, k4⟩
def AS.put (s : AS) (d : Option Tmp) (v : AV) : AS :=
  match d with
  | some d => { s with tm := (d, v) :: s.tm }
  | none => s
theorem Gam.put {c : Ctx} {R : Real} {s : AS} {a : Act} {w : World} (g : Gam c R s a w) (d : Option Tmp) (hd : ∀ t, d = some t → t < c.n) {v : AV} {x : Value}
    (hv : repA (Nof c R s.hp) w s.hp R v x) : Gam c R (s.put d v) (a.put d x) w := by
  cases d with
  | none => exact g
  | some d =>
    have hlt := hd d rfl
    refine ⟨?_, ?_, g.lo, g.marks, g.fixed, g.boxes, g.inj, g.free, g.evo, g.own0, g.kept⟩
    · intro t u h
      simp only [AS.put, lk_cons] at h
      by_cases e : d = t
      · subst e
        simp only [if_true, Option.some.injEq] at h
        subst h
        refine ⟨x, ?_, hv⟩
        simp only [Act.put]
        rw [Array.getElem?_setIfInBounds_self_of_lt (by rw [g.size]; exact hlt)]
      · simp only [if_neg e] at h
        obtain ⟨y, hy, hr⟩ := g.slots t u h
        refine ⟨y, ?_, hr⟩
        simp only [Act.put]
        rw [Array.getElem?_setIfInBounds_ne e]
        exact hy
    · simp only [Act.put, Array.size_setIfInBounds]; exact g.size
end Go.AX
end
section
namespace Go.AX
section cells
variable {α : Type} (R : α → Value → Prop)
def FC : List α → List Value → Prop
  | [], vs => vs = []
  | p :: ps, vs => ∃ v r, vs = v :: r ∧ v.oneCell' = true ∧ R p v ∧ FC ps r
def FP : List α → List Value → Prop
  | [], _ => True
  | p :: ps, vs => ∃ v r, vs = v :: r ∧ v.oneCell' = true ∧ R p v ∧ FP ps r
def FL : List α → List Value → Prop
  | [], vs => vs = []
  | p :: ps, vs => ∃ v r, vs = v :: r ∧ R p v ∧ FL ps r
end cells
theorem repC_iff (N : Nat → Prop) (w : World) : ∀ (ps : List PV) (vs : List Value), repC N w ps vs ↔ FC (rep N w) ps vs
  | [], vs => by simp only [repC, FC]
  | p :: ps, vs => by simp only [repC, FC, repC_iff N w ps]
theorem repP_iff (N : Nat → Prop) (w : World) : ∀ (ps : List PV) (vs : List Value), repP N w ps vs ↔ FP (rep N w) ps vs
  | [], vs => by simp only [repP, FP]
  | p :: ps, vs => by simp only [repP, FP, repP_iff N w ps]
theorem repL_iff (N : Nat → Prop) (w : World) : ∀ (ps : List PV) (vs : List Value), repL N w ps vs ↔ FL (rep N w) ps vs
  | [], vs => by simp only [repL, FL]
  | p :: ps, vs => by simp only [repL, FL, repL_iff N w ps]
theorem repAC_iff (N : Nat → Prop) (w : World) (hp : List (Nat × Box)) (R : Real) : ∀ (ps : List AV) (vs : List Value), repAC N w hp R ps vs ↔ FC (repA N w hp R) ps vs
  | [], vs => by simp only [repAC, FC]
  | p :: ps, vs => by simp only [repAC, FC, repAC_iff N w hp R ps]
theorem repAL_iff (N : Nat → Prop) (w : World) (hp : List (Nat × Box)) (R : Real) : ∀ (ps : List AV) (vs : List Value), repAL N w hp R ps vs ↔ FL (repA N w hp R) ps vs
  | [], vs => by simp only [repAL, FL]
  | p :: ps, vs => by simp only [repAL, FL, repAL_iff N w hp R ps]
section cells
variable {α β : Type} {R : α → Value → Prop} {S : β → Value → Prop}
theorem FC.length : ∀ {l : List α} {m : List Value}, FC R l m → m.length = l.length
  | [], m, h => by simp only [FC] at h; simp [h]
  | p :: ps, m, h => by obtain ⟨v, r, rfl, _, _, h⟩ := h; simp [h.length]
theorem FL.length : ∀ {l : List α} {m : List Value}, FL R l m → m.length = l.length
  | [], m, h => by simp only [FL] at h; simp [h]
  | p :: ps, m, h => by obtain ⟨v, r, rfl, _, h⟩ := h; simp [h.length]
theorem FP.length : ∀ {l : List α} {m : List Value}, FP R l m → l.length ≤ m.length
  | [], m, _ => by simp
  | p :: ps, m, h => by obtain ⟨v, r, rfl, _, _, h⟩ := h; simp [h.length]
theorem FC.one : ∀ {l : List α} {m : List Value}, FC R l m → ∀ u ∈ m, u.oneCell' = true
  | [], m, h => by simp only [FC] at h; simp [h]
  | p :: ps, m, h => by
    obtain ⟨v, r, rfl, h1, _, h⟩ := h
    intro u hu
    rcases List.mem_cons.1 hu with rfl | hu
    · exact h1
    · exact h.one u hu
theorem FC.fp : ∀ {l : List α} {m : List Value}, FC R l m → FP R l m
  | [], _, _ => trivial
  | p :: ps, m, h => by obtain ⟨v, r, rfl, h1, h2, h⟩ := h; exact ⟨v, r, rfl, h1, h2, h.fp⟩
theorem FP.app : ∀ {l : List α} {m : List Value} (m' : List Value), FP R l m → FP R l (m ++ m')
  | [], _, _, _ => trivial
  | p :: ps, m, m', h => by obtain ⟨v, r, rfl, h1, h2, h⟩ := h; exact ⟨v, r ++ m', rfl, h1, h2, h.app m'⟩
theorem FP.take : ∀ {l : List α} {m : List Value}, FP R l m → FC R l (m.take l.length)
  | [], m, _ => by simp [FC]
  | p :: ps, m, h => by obtain ⟨v, r, rfl, h1, h2, h⟩ := h; exact ⟨v, r.take ps.length, by simp, h1, h2, h.take⟩
theorem FC.imp : ∀ {l : List α} {m : List Value} {R' : α → Value → Prop}, (∀ p v, R p v → R' p v) → FC R l m → FC R' l m
  | [], _, _, _, h => h
  | p :: ps, m, R', hi, h => by obtain ⟨v, r, rfl, h1, h2, h⟩ := h; exact ⟨v, r, rfl, h1, hi _ _ h2, h.imp hi⟩
theorem FC.map {f : α → β} (hf : ∀ p v, R p v → S (f p) v) : ∀ {l : List α} {m : List Value}, FC R l m → FC S (l.map f) m
  | [], _, h => h
  | p :: ps, m, h => by obtain ⟨v, r, rfl, h1, h2, h⟩ := h; exact ⟨v, r, rfl, h1, hf _ _ h2, FC.map hf h⟩
theorem FL.map {f : α → β} (hf : ∀ p v, R p v → S (f p) v) : ∀ {l : List α} {m : List Value}, FL R l m → FL S (l.map f) m
  | [], _, h => h
  | p :: ps, m, h => by obtain ⟨v, r, rfl, h2, h⟩ := h; exact ⟨v, r, rfl, hf _ _ h2, FL.map hf h⟩
theorem FL.app : ∀ {l l' : List α} {m m' : List Value}, FL R l m → FL R l' m' → FL R (l ++ l') (m ++ m')
  | [], _, m, _, h, h' => by simp only [FL] at h; simpa [h] using h'
  | p :: ps, _, m, m', h, h' => by obtain ⟨v, r, rfl, h2, h⟩ := h; exact ⟨v, r ++ m', rfl, h2, h.app h'⟩
theorem FL.get : ∀ {l : List α} {m : List Value} {i : Nat} {x : α}, FL R l m → l[i]? = some x → ∃ v, m[i]? = some v ∧ R x v
  | [], _, _, _, _, hx => by simp at hx
  | p :: ps, m, 0, x, h, hx => by
    obtain ⟨v, r, rfl, h2, h⟩ := h
    simp only [List.getElem?_cons_zero, Option.some.injEq] at hx
    subst hx
    exact ⟨v, rfl, h2⟩
  | p :: ps, m, i + 1, x, h, hx => by
    obtain ⟨v, r, rfl, h2, h⟩ := h
    simp only [List.getElem?_cons_succ] at hx ⊢
    exact h.get hx
def takeX : Nat → List α → Option (List α)
  | 0, _ => some []
  | _ + 1, [] => none
  | n + 1, a :: r => match takeX n r with
    | some t => some (a :: t)
    | none => none
def dropX : Nat → List α → Option (List α)
  | 0, l => some l
  | _ + 1, [] => none
  | n + 1, _ :: r => dropX n r
def part (off n : Nat) (l : List α) : Option (List α) :=
  match dropX off l with
  | some r => takeX n r
  | none => none
def overX : List α → List α → Option (List α)
  | l, [] => some l
  | [], _ :: _ => none
  | _ :: r, x :: xs => match overX r xs with
    | some t => some (x :: t)
    | none => none
def setX : Nat → List α → List α → Option (List α)
  | 0, l, xs => overX l xs
  | _ + 1, [], _ => none
  | n + 1, a :: r, xs => match setX n r xs with
    | some t => some (a :: t)
    | none => none
theorem FP.dropX : ∀ {n : Nat} {l x : List α} {m : List Value}, FP R l m → dropX n l = some x → n ≤ m.length ∧ FP R x (m.drop n)
  | 0, l, x, m, h, e => by simp only [AX.dropX, Option.some.injEq] at e; subst e; exact ⟨Nat.zero_le _, by simpa using h⟩
  | n + 1, [], x, m, h, e => by simp [AX.dropX] at e
  | n + 1, p :: ps, x, m, h, e => by
    obtain ⟨v, r, rfl, h1, h2, h⟩ := h
    simp only [AX.dropX] at e
    have := h.dropX e
    simpa using this
theorem FP.takeX : ∀ {n : Nat} {l x : List α} {m : List Value}, FP R l m → takeX n l = some x → n ≤ m.length ∧ FC R x (m.take n)
  | 0, l, x, m, h, e => by simp only [AX.takeX, Option.some.injEq] at e; subst e; exact ⟨Nat.zero_le _, by simp [FC]⟩
  | n + 1, [], x, m, h, e => by simp [AX.takeX] at e
  | n + 1, p :: ps, x, m, h, e => by
    obtain ⟨v, r, rfl, h1, h2, h⟩ := h
    simp only [AX.takeX] at e
    split at e
    · rename_i t ht
      simp only [Option.some.injEq] at e
      subst e
      have := h.takeX ht
      refine ⟨by simpa using this.1, v, r.take n, by simp, h1, h2, this.2⟩
    · cases e
theorem FP.part {off n : Nat} {l x : List α} {m : List Value} (h : FP R l m) (e : part off n l = some x) : off + n ≤ m.length ∧ FC R x ((m.drop off).take n) := by
  simp only [AX.part] at e
  split at e
  · rename_i r hr
    obtain ⟨h1, h2⟩ := h.dropX hr
    obtain ⟨h3, h4⟩ := h2.takeX e
    simp only [List.length_drop] at h3
    exact ⟨by omega, h4⟩
  · cases e
theorem FC.overX : ∀ {l xs l' : List α} {m ys : List Value}, FC R l m → FC R xs ys → overX l xs = some l' → ys.length ≤ m.length ∧ FC R l' (ys ++ m.drop ys.length)
  | l, [], l', m, ys, h, hx, e => by
    have hy : ys = [] := by cases l <;> simpa only [FC] using hx
    have e' : l = l' := by cases l <;> simpa [AX.overX] using e
    subst hy; subst e'
    exact ⟨by simp, by simpa using h⟩
  | [], x :: xs, l', m, ys, h, hx, e => by simp [AX.overX] at e
  | p :: ps, x :: xs, l', m, ys, h, hx, e => by
    obtain ⟨v, r, rfl, h1, h2, h⟩ := h
    obtain ⟨u, s, rfl, g1, g2, hx⟩ := hx
    simp only [AX.overX] at e
    split at e
    · rename_i t ht
      simp only [Option.some.injEq] at e
      subst e
      obtain ⟨a, b⟩ := FC.overX h hx ht
      exact ⟨by simpa using a, u, _, by simp, g1, g2, b⟩
    · cases e
theorem FC.setX : ∀ {off : Nat} {l xs l' : List α} {m ys : List Value}, FC R l m → FC R xs ys → setX off l xs = some l' →
    off + ys.length ≤ m.length ∧ FC R l' (m.take off ++ ys ++ m.drop (off + ys.length))
  | 0, l, xs, l', m, ys, h, hx, e => by
    simp only [AX.setX] at e
    have := FC.overX h hx e
    simpa using this
  | off + 1, [], xs, l', m, ys, h, hx, e => by simp [AX.setX] at e
  | off + 1, p :: ps, xs, l', m, ys, h, hx, e => by
    obtain ⟨v, r, rfl, h1, h2, h⟩ := h
    simp only [AX.setX] at e
    split at e
    · rename_i t ht
      simp only [Option.some.injEq] at e
      subst e
      obtain ⟨a, b⟩ := FC.setX h hx ht
      rw [show off + 1 + ys.length = (off + ys.length) + 1 from by omega]
      exact ⟨by simp; omega, v, r.take off ++ ys ++ r.drop (off + ys.length), by simp, h1, h2, b⟩
    · cases e
theorem overX_length : ∀ {l xs l' : List α}, overX l xs = some l' → l'.length = l.length
  | l, [], l', e => by cases l <;> simp [AX.overX] at e <;> simp [← e]
  | [], x :: xs, l', e => by simp [AX.overX] at e
  | p :: ps, x :: xs, l', e => by
    simp only [AX.overX] at e
    split at e
    · rename_i t ht
      simp only [Option.some.injEq] at e
      subst e
      simp [overX_length ht]
    · cases e
theorem setX_length : ∀ {off : Nat} {l xs l' : List α}, setX off l xs = some l' → l'.length = l.length
  | 0, l, xs, l', e => overX_length e
  | off + 1, [], xs, l', e => by simp [AX.setX] at e
  | off + 1, p :: ps, xs, l', e => by
    simp only [AX.setX] at e
    split at e
    · rename_i t ht
      simp only [Option.some.injEq] at e
      subst e
      simp [setX_length ht]
    · cases e
end cells
section rows
variable {N : Nat → Prop} {w : World} {st : Nat}
theorem repR_take : ∀ {rows : List (List PV)} {m : List Value}, repR N w st rows m →
    rows.length * st ≤ m.length ∧ repR N w st rows (m.take (rows.length * st)) ∧ ∀ u ∈ m.take (rows.length * st), u.oneCell' = true
  | [], m, _ => by simp [repR]
  | row :: rows, m, h => by
    obtain ⟨h1, h2, h3⟩ := h
    obtain ⟨a, b, d⟩ := repR_take h3
    rw [repP_iff] at h2
    have hl := h2.length
    have e : (row :: rows).length * st = st + rows.length * st := by rw [List.length_cons, Nat.add_mul]; omega
    rw [e]
    have hs : m.take (st + rows.length * st) = m.take st ++ (m.drop st).take (rows.length * st) := by rw [List.take_add]
    have hc := h2.take
    rw [h1] at hc hl
    simp only [List.length_drop] at a
    have hlen : (m.take st).length = st := by rw [List.length_take]; omega
    refine ⟨by omega, ?_, ?_⟩
    · rw [hs]
      refine ⟨h1, ?_, ?_⟩
      · rw [repP_iff]; exact hc.fp.app _
      · rw [List.drop_left' hlen]; exact b
    · rw [hs]
      intro u hu
      rcases List.mem_append.1 hu with hu | hu
      · exact hc.one u hu
      · exact d u hu
theorem repR_append : ∀ {rows rows' : List (List PV)} {m m' : List Value}, repR N w st rows m → m.length = rows.length * st → repR N w st rows' m' →
    repR N w st (rows ++ rows') (m ++ m')
  | [], rows', m, m', _, hl, h' => by
    have : m = [] := List.eq_nil_of_length_eq_zero (by simpa using hl)
    subst this
    simpa using h'
  | row :: rows, rows', m, m', h, hl, h' => by
    obtain ⟨h1, h2, h3⟩ := h
    have e : (row :: rows).length * st = st + rows.length * st := by rw [List.length_cons, Nat.add_mul]; omega
    rw [e] at hl
    refine ⟨h1, ?_, ?_⟩
    · rw [repP_iff] at h2 ⊢; exact h2.app _
    · rw [List.drop_append_of_le_length (by omega)]
      exact repR_append h3 (by simp only [List.length_drop]; omega) h'
theorem repR_ext : ∀ {rows : List (List PV)} {m : List Value} (m' : List Value), repR N w st rows m → repR N w st rows (m ++ m')
  | [], _, _, _ => trivial
  | row :: rows, m, m', h => by
    obtain ⟨h1, h2, h3⟩ := h
    have hl : st ≤ m.length := by rw [repP_iff] at h2; have := h2.length; omega
    refine ⟨h1, by rw [repP_iff] at h2 ⊢; exact h2.app _, ?_⟩
    rw [List.drop_append_of_le_length hl]
    exact repR_ext m' h3
theorem repR_get : ∀ {rows : List (List PV)} {m : List Value} {i : Nat} {row : List PV}, repR N w st rows m → rows[i]? = some row →
    row.length = st ∧ repP N w row (m.drop (i * st))
  | [], _, _, _, _, hx => by simp at hx
  | r0 :: rows, m, 0, row, h, hx => by
    simp only [List.getElem?_cons_zero, Option.some.injEq] at hx
    subst hx
    exact ⟨h.1, by simpa using h.2.1⟩
  | r0 :: rows, m, i + 1, row, h, hx => by
    simp only [List.getElem?_cons_succ] at hx
    obtain ⟨a, b⟩ := repR_get h.2.2 hx
    refine ⟨a, ?_⟩
    rw [List.drop_drop] at b
    rw [show (i + 1) * st = st + i * st from by rw [Nat.add_mul]; omega]
    exact b
theorem repR_drop : ∀ {rows : List (List PV)} {m : List Value} (i : Nat), repR N w st rows m → repR N w st (rows.drop i) (m.drop (i * st))
  | [], m, i, _ => by simp [repR]
  | r0 :: rows, m, 0, h => by simpa using h
  | r0 :: rows, m, i + 1, h => by
    have := repR_drop i h.2.2
    rw [List.drop_drop] at this
    rw [show (i + 1) * st = st + i * st from by rw [Nat.add_mul]; omega]
    simpa using this
theorem repR_pre : ∀ {rows : List (List PV)} {m : List Value} (i : Nat), repR N w st rows m → repR N w st (rows.take i) m
  | [], m, i, _ => by simp [repR]
  | r0 :: rows, m, 0, h => by simp [repR]
  | r0 :: rows, m, i + 1, h => by
    obtain ⟨h1, h2, h3⟩ := h
    exact ⟨h1, h2, repR_pre i h3⟩
theorem repR_set : ∀ {rows : List (List PV)} {m : List Value} {i : Nat} {row : List PV} {ys : List Value}, repR N w st rows m → i < rows.length → row.length = st →
    FC (rep N w) row ys → repR N w st (rows.set i row) (m.take (i * st) ++ ys ++ m.drop (i * st + ys.length))
  | [], _, _, _, _, _, hi, _, _ => by simp at hi
  | r0 :: rows, m, 0, row, ys, h, _, hl, hy => by
    obtain ⟨h1, h2, h3⟩ := h
    have hyl := hy.length
    simp only [Nat.zero_mul, List.take_zero, List.nil_append, Nat.zero_add, List.set_cons_zero]
    refine ⟨hl, by rw [repP_iff]; exact hy.fp.app _, ?_⟩
    rw [List.drop_left' (by omega), hyl, hl]
    exact h3
  | r0 :: rows, m, i + 1, row, ys, h, hi, hl, hy => by
    obtain ⟨h1, h2, h3⟩ := h
    have hst : st ≤ m.length := by rw [repP_iff] at h2; have := h2.length; omega
    have ih := repR_set (i := i) h3 (by simpa using hi) hl hy
    have e : (i + 1) * st = st + i * st := by rw [Nat.add_mul]; omega
    have h2' := h2
    rw [repP_iff] at h2'
    have hc := h2'.take
    rw [h1] at hc
    have hlen : (m.take st).length = st := by rw [List.length_take]; omega
    rw [e, List.take_add, List.append_assoc, List.append_assoc]
    refine ⟨h1, by rw [repP_iff]; exact hc.fp.app _, ?_⟩
    rw [List.drop_left' hlen, show st + i * st + ys.length = st + (i * st + ys.length) from by omega, ← List.drop_drop, ← List.append_assoc]
    exact ih
end rows
inductive DI where
  | str (fs : List (Nat × TypeId))
  | arrt (n : Nat) (e : TypeId)
  | slt (e : TypeId)
  | intt (k : IntKind)
  | boolt
  | strt
  | ptrt (e : TypeId)
  | funt
  | mapt (k e : TypeId)
  | oth
def di : TypeDesc → DI
  | .struct fs => .str (fs.toList.map fun f => (f.offset, f.type))
  | .array n e => .arrt n e
  | .slice e => .slt e
  | .int k => .intt k
  | .bool => .boolt
  | .string => .strt
  | .pointer e => .ptrt e
  | .func _ _ _ => .funt
  | .map k e => .mapt k e
  | _ => .oth
inductive EK where
  | int (k : IntKind)
  | bool
  | str
structure TI where
  size : Nat
  bytes : Nat
  zero : List Value
  d : DI
  cmp : Option (List EK)
def tiF (i : TI) (K : Nat → Nat → Prop) : Prop :=
  match i with
  | ⟨sz, by_, _, _, _⟩ => K sz by_
theorem tiF_eq (i : TI) (K : Nat → Nat → Prop) : tiF i K = K i.size i.bytes := rfl
def DI.isAgg : DI → Bool
  | .str _ => true
  | .arrt _ _ => true
  | _ => false
def eqV : EK → Value → Value → Option Bool
  | .int i, .int j a, .int k b => match decide (i = j), decide (i = k) with
    | true, true => some (a == b)
    | _, _ => none
  | .bool, .bool a, .bool b => some (a == b)
  | .str, .string a, .string b => some (a.toList == b.toList)
  | _, _, _ => none
def eqVs : List EK → List Value → List Value → Option Bool
  | [], [], [] => some true
  | k :: ks, x :: xs, y :: ys => match eqV k x y with
    | some a => match ks with
      | [] => match xs, ys with
        | [], [] => some a
        | _, _ => none
      | _ => match eqVs ks xs ys with
        | some b => some (a && b)
        | none => none
    | none => none
  | _, _, _ => none
def EqOK (P : Program) (t : TypeId) (ks : List EK) : Prop := ∀ (w : World) (xs ys : Array Value) (b : Bool), eqVs ks xs.toList ys.toList = some b →
  (Op.equal t (.agg xs) (.agg ys)).run P w = .ok b w
structure TIok (P : Program) (t : TypeId) (i : TI) : Prop where
  info : (P.info? t).map (fun x => (x.size, x.bytes, x.zero.map (·.cells.toList))) = some (i.size, i.bytes, some i.zero)
  desc : (P.underlying t).map di = some i.d
  zlen : i.zero.length = i.size
  zone : i.zero.all (·.oneCell') = true
  agg : i.d.isAgg = false → i.size = 1
  zagg : i.d.isAgg = (((P.info? t).bind (·.zero)).map (fun z => z matches .agg _)).getD false
  cmp : ∀ ks, i.cmp = some ks → EqOK P t ks ∧ P.eqGuardType P.depth t = false
def TabOk (P : Program) (T : List (Nat × TI)) : Prop := ∀ t i, lk T t = some i → TIok P t i
section table
variable {P : Program} {t : TypeId} {i : TI}
theorem TIok.info' (h : TIok P t i) : ∃ x z, P.info? t = some x ∧ x.size = i.size ∧ x.bytes = i.bytes ∧ x.zero = some z ∧ z.cells.toList = i.zero := by
  have := h.info
  cases hx : P.info? t with
  | none => rw [hx] at this; cases this
  | some x =>
    rw [hx] at this
    simp only [Option.map_some, Option.some.injEq, Prod.mk.injEq] at this
    obtain ⟨a, b, c⟩ := this
    cases hz : x.zero with
    | none => rw [hz] at c; cases c
    | some z =>
      rw [hz] at c
      simp only [Option.map_some, Option.some.injEq] at c
      exact ⟨x, z, rfl, a, b, hz, c⟩
theorem TIok.desc' (h : TIok P t i) : ∃ d, P.underlying t = some d ∧ di d = i.d := by
  have := h.desc
  cases hx : P.underlying t with
  | none => rw [hx] at this; cases this
  | some d => rw [hx] at this; simp only [Option.map_some, Option.some.injEq] at this; exact ⟨d, rfl, this⟩
theorem TIok.run_sizeOf (h : TIok P t i) (w : World) : (sizeOf t).run P w = .ok i.size w := by
  obtain ⟨x, z, h1, h2, _⟩ := h.info'
  simp [sizeOf, typeInfo, h1, h2]
theorem TIok.run_isAgg (h : TIok P t i) (w : World) : (isAgg t).run P w = .ok i.d.isAgg w := by
  obtain ⟨d, h1, h2⟩ := h.desc'
  rw [← h2]
  simp only [isAgg, Sem.run_bind, run_underlying h1, Result.andThen_ok]
  cases d <;> simp [di, DI.isAgg]
theorem TIok.run_zero (h : TIok P t i) (w : World) : ∃ z, (zeroValue t).run P w = .ok z w ∧ z.cells.toList = i.zero ∧ (i.d.isAgg = (z matches .agg _)) := by
  obtain ⟨x, z, h1, h2, h3, h4, h5⟩ := h.info'
  refine ⟨z, by simp [zeroValue, typeInfo, h1, h4], h5, ?_⟩
  have := h.zagg
  simpa [h1, h4] using this
end table
section runs
variable {P : Program} {w : World}
theorem addr_add (g o n : Nat) : (⟨g, o, none⟩ : Addr).add n = ⟨g, o + n, none⟩ := by
  unfold Addr.add
  split
  · rename_i h; simp [h]
  · rfl
theorem cell_at {g j : Nat} {cur : Array Value} {e : TypeId} {fr : Nat × Nat} (hg : w.heap[g]? = some (.cells cur e fr)) : w.cell? ⟨g, j, none⟩ = cur[j]? :=
  cell_of_row w g j cur e fr hg
theorem run_load_at {g j : Nat} {cur : Array Value} {e : TypeId} {fr : Nat × Nat} (hg : w.heap[g]? = some (.cells cur e fr)) {v : Value} (hv : cur[j]? = some v) :
    (load ⟨g, j, none⟩).run P w = .ok v w := by
  rw [run_load, cell_at hg, hv]
theorem run_loadCells_at {g off n : Nat} {cur : Array Value} {e : TypeId} {fr : Nat × Nat} (hg : w.heap[g]? = some (.cells cur e fr)) (hl : off + n ≤ cur.size) :
    (loadCells ⟨g, off, none⟩ n).run P w = .ok ((cur.toList.drop off).take n).toArray w := by
  have hlen : ((cur.toList.drop off).take n).length = n := by simp; omega
  have := run_loadCells_list (P := P) (w := w) ⟨g, off, none⟩ ((cur.toList.drop off).take n) (fun j v h => by
    rw [addr_add, cell_at hg]
    rw [List.getElem?_take] at h
    split at h
    · rw [List.getElem?_drop] at h
      simpa using h
    · cases h)
  rw [hlen] at this
  exact this
theorem run_loadVar_at {t : TypeId} {i : TI} (hi : TIok P t i) {g off : Nat} {cur : Array Value} {e : TypeId} {fr : Nat × Nat} (hg : w.heap[g]? = some (.cells cur e fr))
    (hl : off + i.size ≤ cur.size) :
    (loadVar t ⟨g, off, none⟩).run P w = .ok (if i.d.isAgg then .agg ((cur.toList.drop off).take i.size).toArray else cur[off]!) w := by
  cases ha : i.d.isAgg with
  | true =>
    simp only [loadVar, Sem.run_bind, hi.run_isAgg, Result.andThen_ok, ha, if_true, hi.run_sizeOf, run_loadCells_at hg hl, Sem.run_pure]
  | false =>
    have h1 := hi.agg ha
    have hv : cur[off]? = some cur[off]! := by
      rw [getElem!_pos cur off (by omega)]
      exact Array.getElem?_eq_getElem (by omega)
    simp only [loadVar, Sem.run_bind, hi.run_isAgg, Result.andThen_ok, ha, Bool.false_eq_true, if_false, run_load_at hg hv]
theorem run_storeVar_at {t : TypeId} {i : TI} (hi : TIok P t i) {g off : Nat} {cur : Array Value} {e : TypeId} {v : Value} (hg : w.heap[g]? = some (.cells cur e (0, 0)))
    (hs : v.cells.size = i.size) (hl : off + i.size ≤ cur.size) (h1 : ∀ u ∈ v.cells.toList, u.oneCell' = true) :
    (storeVar t ⟨g, off, none⟩ v).run P w = .ok () (w.setRow g (cur.toList.take off ++ v.cells.toList ++ cur.toList.drop (off + v.cells.toList.length)).toArray) := by
  have := run_storeCells_at P g off e v.cells.toList 0 cur w hg (by simp; omega) h1
  simp only [Nat.add_zero] at this
  simp [storeVar, hi.run_sizeOf, hs, this]
end runs
end Go.AX
end
section
namespace Go.AX
def Same (w w' : World) : Prop := Evo (fun _ => False) w w'
def Enters (P : Program) (f : FuncId) : Prop := ∃ fn, P.funcs[f]? = some fn ∧ fn.body.isSome = true ∧ (fn.name == "runtime.NumGoroutine") = false
def PC (P : Program) (f : FuncId) (args : List PV) (Q : PV → Prop) : Prop :=
  Enters P f ∧ ∀ (F : Nat → Prop) (w : World) (cargs : Array Value), (∀ r, F r → r < w.heap.size) → repL F w args cargs.toList →
    Calls P f cargs w fun e w' => ∃ v r, e = .returned v ∧ Q r ∧ rep F w' r v ∧ Same w w'
def PCx (P : Program) (f : FuncId) (args : List PV) (r : PV) : Prop := PC P f args (fun x => x = r)
abbrev Tab := List (Nat × TI)
def cellP : PV → Bool
  | .sc v => v.oneCell'
  | .sl _ _ _ => true
  | .eptr _ _ => true
  | .fn _ _ _ => true
  | _ => false
def cellA : AV → Bool
  | .pv p => cellP p
  | .ptr _ _ => true
  | .aptr _ _ _ _ => true
  | .slw _ _ => true
  | .sub _ _ _ _ _ => true
  | .fn _ _ _ => true
  | _ => false
def mapPV : List PV → Option (List AV)
  | [] => some []
  | p :: r => match mapPV r with
    | some t => some (.pv p :: t)
    | none => none
def zPV : List Value → Option (List PV)
  | [] => some []
  | v :: r => match zPV r with
    | some t => some (.sc v :: t)
    | none => none
def zAV : List Value → Option (List AV)
  | [] => some []
  | v :: r => match zAV r with
    | some t => some (.pv (.sc v) :: t)
    | none => none
def allPV : List AV → Option (List PV)
  | [] => some []
  | .pv p :: r => match allPV r with
    | some ps => some (p :: ps)
    | none => none
  | _ :: _ => none
def mkAgg (cs : List AV) : Option AV :=
  match allPV cs with
  | some ps => some (.pv (.agg ps))
  | none => some (.agg cs)
def cellsOf (i : TI) (v : AV) : Option (List AV) :=
  match i.d.isAgg with
  | true => match v with
    | .pv (.agg cs) => mapPV cs
    | .agg cs => some cs
    | _ => none
  | false => match cellA v with
    | true => some [v]
    | false => none
def pcellsOf (i : TI) (p : PV) : Option (List PV) :=
  match i.d.isAgg with
  | true => match p with
    | .agg cs => some cs
    | _ => none
  | false => match cellP p with
    | true => some [p]
    | false => none
def vwSl (o : Option Box) (ver : Nat) : Option PV :=
  match o with
  | some (.arr _ v st rows) => match Nat.beq ver v with
    | true => some (.sl false st rows)
    | false => none
  | some (.roa v st rows) => match Nat.beq ver v with
    | true => some (.sl false st rows)
    | false => none
  | _ => none
def vwPtr (o : Option Box) (off : Nat) : Option PV :=
  match o with
  | some (.var cells) => match allPV cells with
    | some ps => some (.eptr ps off)
    | none => none
  | some (.rov cells) => some (.eptr cells off)
  | _ => none
def cutN (rows : List (List PV)) (lo hi : Nat) : List (List PV) := (rows.drop lo).take (hi - lo)
def vwSub (o : Option PV) (st lo hi : Nat) : Option PV :=
  match o with
  | some (.sl _ st' rows) => match Nat.beq st st' with
    | true => some (.sl false st' (cutN rows lo hi))
    | false => none
  | _ => none
mutual
def vw (H : List (Nat × Box)) : AV → Option PV
  | .pv p => some p
  | .slw b ver => vwSl (lk H b) ver
  | .sub b ver st lo hi => vwSub (vwSl (lk H b) ver) st lo hi
  | .ptr b off => vwPtr (lk H b) off
  | .agg cs => match vws H cs with
    | some ps => some (.agg ps)
    | none => none
  | .tup cs => match vws H cs with
    | some ps => some (.tup ps)
    | none => none
  | .fn f a c => match vws H a, vws H c with
    | some x, some y => some (.fn f x y)
    | _, _ => none
  | .aptr _ _ _ _ => none
def vws (H : List (Nat × Box)) : List AV → Option (List PV)
  | [] => some []
  | v :: r => match vw H v with
    | some p => match vws H r with
      | some t => some (p :: t)
      | none => none
    | none => none
end
/- the boxes that a value refers to -/
mutual
def refs : AV → List Nat
  | .pv _ => []
  | .slw b _ => [b]
  | .sub b _ _ _ _ => [b]
  | .ptr b _ => [b]
  | .aptr b _ _ _ => [b]
  | .agg cs => refss cs
  | .tup cs => refss cs
  | .fn _ a c => refss a ++ refss c
def refss : List AV → List Nat
  | [] => []
  | v :: r => refs v ++ refss r
end
def frz (H : List (Nat × Box)) : List Nat → Option (List (Nat × Box))
  | [] => some []
  | b :: r => match frz H r with
    | some t => match lk t b with
      | some _ => some t
      | none => match lk H b with
        | some (.arr _ v st rows) => some ((b, .roa v st rows) :: t)
        | some (.var cells) => match allPV cells with
          | some ps => some ((b, .rov ps) :: t)
          | none => none
        | some (.roa _ _ _) => some t
        | some (.rov _) => some t
        | some (.tr _ _ _ _) => none
        | none => none
    | none => none
mutual
def scal : PV → Bool
  | .sc _ => true
  | .agg cs => scals cs
  | .tup cs => scals cs
  | _ => false
def scals : List PV → Bool
  | [] => true
  | p :: r => match scal p with
    | true => scals r
    | false => false
end
def eqPs : List EK → List PV → List PV → Option Bool
  | [], [], [] => some true
  | k :: ks, .sc x :: xs, .sc y :: ys => match eqV k x y with
    | some a => match ks with
      | [] => match xs, ys with
        | [], [] => some a
        | _, _ => none
      | _ => match eqPs ks xs ys with
        | some b => some (a && b)
        | none => none
    | none => none
  | _, _, _ => none
def cInt (op : BinOp) (k : IntKind) (a b : Int) (K : AV → Prop) : Prop :=
  match op with
  | .add => K (.pv (.sc (.int k (k.wrap (a + b)))))
  | .sub => K (.pv (.sc (.int k (k.wrap (a - b)))))
  | .mul => K (.pv (.sc (.int k (k.wrap (a * b)))))
  | .quo => b ≠ 0 ∧ K (.pv (.sc (.int k (k.wrap (a.tdiv b)))))
  | .rem => b ≠ 0 ∧ K (.pv (.sc (.int k (a.tmod b))))
  | .and => K (.pv (.sc (.int k (k.wrap (BitVec.toNat (BitVec.ofInt k.bits a &&& BitVec.ofInt k.bits b))))))
  | .or => K (.pv (.sc (.int k (k.wrap (BitVec.toNat (BitVec.ofInt k.bits a ||| BitVec.ofInt k.bits b))))))
  | .xor => K (.pv (.sc (.int k (k.wrap (BitVec.toNat (BitVec.ofInt k.bits a ^^^ BitVec.ofInt k.bits b))))))
  | .andNot => K (.pv (.sc (.int k (k.wrap (BitVec.toNat (BitVec.ofInt k.bits a &&& ~~~ (BitVec.ofInt k.bits b)))))))
  | .eql => K (.pv (.sc (.bool (a == b))))
  | .neq => K (.pv (.sc (.bool (a != b))))
  | .lss => K (.pv (.sc (.bool (decide (a < b)))))
  | .leq => K (.pv (.sc (.bool (decide (a ≤ b)))))
  | .gtr => K (.pv (.sc (.bool (decide (a > b)))))
  | .geq => K (.pv (.sc (.bool (decide (a ≥ b)))))
  | _ => False
def isShift : BinOp → Bool
  | .shl => true
  | .shr => true
  | _ => false
def cShift (op : BinOp) (k : IntKind) (a b : Int) (K : AV → Prop) : Prop :=
  match op with
  | .shl => 0 ≤ b ∧ K (.pv (.sc (.int k (k.wrap (a * 2 ^ (min b.toNat k.bits))))))
  | .shr => 0 ≤ b ∧ K (.pv (.sc (.int k (a.fdiv (2 ^ (min b.toNat k.bits))))))
  | _ => False
def cStr (op : BinOp) (a b : ByteArray) (K : AV → Prop) : Prop :=
  match op with
  | .eql => K (.pv (.sc (.bool (a.toList == b.toList))))
  | .neq => K (.pv (.sc (.bool (!(a.toList == b.toList)))))
  | .add => a.size + b.size ≤ 9223372036854775807 ∧ K (.pv (.sc (.string (a ++ b))))
  | .lss => K (.pv (.sc (.bool (Op.bytesLess a.toList b.toList))))
  | .leq => K (.pv (.sc (.bool (Op.bytesLess a.toList b.toList || a.toList == b.toList))))
  | .gtr => K (.pv (.sc (.bool (!(Op.bytesLess a.toList b.toList || a.toList == b.toList)))))
  | .geq => K (.pv (.sc (.bool (!(Op.bytesLess a.toList b.toList)))))
  | _ => False
def cEq (op : BinOp) (b : Bool) (K : AV → Prop) : Prop :=
  match op with
  | .eql => K (.pv (.sc (.bool b)))
  | .neq => K (.pv (.sc (.bool (!b))))
  | _ => False
def isPtr : AV → Bool
  | .ptr _ _ => true
  | .pv (.eptr _ _) => true
  | _ => false
def isFn : AV → Bool
  | .fn _ _ _ => true
  | .pv (.fn _ _ _) => true
  | _ => false
def cEqs (i : TI) (op : BinOp) (x y : AV) (K : AV → Prop) : Prop :=
  match i.d with
  | .boolt => match x, y with
    | .pv (.sc (.bool a)), .pv (.sc (.bool b)) => cEq op (a == b) K
    | _, _ => False
  | .str _ => match x, y with
    | .pv (.agg xs), .pv (.agg ys) => match i.cmp with
      | some ks => match eqPs ks xs ys with
        | some b => cEq op b K
        | none => False
      | none => False
    | _, _ => False
  | .ptrt _ => match x, y with
    | .pv (.sc (.pointer none)), .pv (.sc (.pointer none)) => cEq op true K
    | x, .pv (.sc (.pointer none)) => match isPtr x with
      | true => cEq op false K
      | false => False
    | _, _ => False
  | .slt _ => match x, y with
    | .pv (.sc (.slice none _ _)), .pv (.sc (.slice none _ _)) => cEq op true K
    | .pv (.sl true _ _), .pv (.sc (.slice none _ _)) => cEq op false K
    | _, _ => False
  | .funt => match x, y with
    | .pv (.sc .nilFunc), .pv (.sc .nilFunc) => cEq op true K
    | x, .pv (.sc .nilFunc) => match isFn x with
      | true => cEq op false K
      | false => False
    | _, _ => False
  | _ => False
def cBin (T : Tab) (op : BinOp) (t : TypeId) (x y : AV) (K : AV → Prop) : Prop :=
  match x, y with
  | .pv (.sc (.int k a)), .pv (.sc (.int j b)) => match isShift op with
    | true => cShift op k a b K
    | false => match decide (k = j) with
      | true => cInt op k a b K
      | false => False
  | .pv (.sc (.string a)), .pv (.sc (.string b)) => cStr op a b K
  | x, y => match lk T t with
    | some i => cEqs i op x y K
    | none => False
theorem eqPs_eqVs {N : Nat → Prop} {w : World} : ∀ {ks : List EK} {xs ys : List PV} {us vs : List Value} {b : Bool}, FC (rep N w) xs us → FC (rep N w) ys vs → eqPs ks xs ys = some b → eqVs ks us vs = some b
  | [], [], [], us, vs, b, h1, h2, e => by
    simp only [FC] at h1 h2
    subst h1; subst h2
    simpa [eqPs, eqVs] using e
  | [], [], y :: ys, us, vs, b, h1, h2, e => by simp [eqPs] at e
  | [], x :: xs, ys, us, vs, b, h1, h2, e => by simp [eqPs] at e
  | k :: ks, [], ys, us, vs, b, h1, h2, e => by simp [eqPs] at e
  | k :: ks, x :: xs, [], us, vs, b, h1, h2, e => by cases x <;> simp [eqPs] at e
  | k :: ks, x :: xs, y :: ys, us, vs, b, h1, h2, e => by
    obtain ⟨u, us, rfl, _, hu, h1⟩ := h1
    obtain ⟨v, vs, rfl, _, hv, h2⟩ := h2
    cases x <;> cases y <;> simp only [eqPs] at e <;> try (cases e; done)
    simp only [rep] at hu hv
    subst hu; subst hv
    split at e
    · rename_i a ha
      split at e
      · split at e
        · simp only [FC] at h1 h2
          subst h1; subst h2
          simp only [eqVs, ha]
          exact e
        · cases e
      · rename_i hne
        split at e
        · rename_i b' hb
          have := eqPs_eqVs h1 h2 hb
          cases ks with
          | nil => exact (hne rfl).elim
          | cons k2 ks => simp only [eqVs, ha, this]; exact e
        · cases e
    · cases e
section binsound
variable {P : Program} {T : Tab} {N : Nat → Prop} {w : World} {hp : List (Nat × Box)} {R : Real}
theorem cEq_sound {op : BinOp} {b : Bool} {K : AV → Prop} (h : cEq op b K) {t : TypeId} {x y : Value} (hx : (Op.equal t x y).run P w = .ok b w)
    (h1 : (op = .eql → binOp op t x y = (do pure (.bool (← Op.equal t x y)))) ∧ (op = .neq → binOp op t x y = (do pure (.bool (!(← Op.equal t x y)))))) :
    ∃ v, (binOp op t x y).run P w = .ok v w ∧ ∃ p, K (.pv p) ∧ rep N w p v := by
  cases op <;> simp only [cEq] at h
  · refine ⟨.bool b, ?_, _, h, by simp [rep]⟩
    rw [h1.1 rfl]; simp [hx]
  · refine ⟨.bool (!b), ?_, _, h, by simp [rep]⟩
    rw [h1.2 rfl]; simp [hx]
theorem repA_ptr {b : AV} (h : isPtr b = true) {v : Value} (hv : repA N w hp R b v) : ∃ a, v = .pointer (some a) := by
  cases b with
  | ptr b off =>
    simp only [repA] at hv
    cases hb : lk hp b with
    | none => rw [hb] at hv; exact hv.elim
    | some box => rw [hb] at hv; cases box <;> simp only [refPtr] at hv <;> exact ⟨_, hv⟩
  | pv p =>
    cases p <;> simp [isPtr] at h
    simp only [repA, rep] at hv
    obtain ⟨g, base, cur, e, fr, h1, _⟩ := hv
    exact ⟨_, h1⟩
  | _ => simp [isPtr] at h
theorem repA_fn {b : AV} (h : isFn b = true) {v : Value} (hv : repA N w hp R b v) : ∃ f a c, v = .func f a c := by
  cases b with
  | fn f a c =>
    simp only [repA] at hv
    obtain ⟨fs, cs, h1, _⟩ := hv
    exact ⟨_, _, _, h1⟩
  | pv p =>
    cases p <;> simp [isFn] at h
    simp only [repA, rep] at hv
    obtain ⟨fs, cs, h1, _⟩ := hv
    exact ⟨_, _, _, h1⟩
  | _ => simp [isFn] at h
theorem run_eqGuard_plain (op : BinOp) (t : TypeId) (x y : Operand) (u v : Value) (h : (∀ a b, u = .agg a → v = .agg b → False) ∧ (u = .nilIface → v = .nilIface → False)) :
    (eqGuard op t x y u v).run P w = .ok () w := by
  obtain ⟨h1, h2⟩ := h
  unfold eqGuard
  cases op <;> simp <;> (split <;> first | rfl | (exfalso; first | exact h2 rfl rfl | exact h1 _ _ rfl rfl))
theorem run_eqGuard_agg (op : BinOp) (t : TypeId) (x y : Operand) (a b : Array Value) (h : P.eqGuardType P.depth t = false) :
    (eqGuard op t x y (.agg a) (.agg b)).run P w = .ok () w := by
  unfold eqGuard
  cases op <;> simp [h]
theorem sc_ok {m : Sem Value} {r : Value} {K : AV → Prop} (h : K (.pv (.sc r))) (hr : m.run P w = .ok r w) :
    ∃ r, m.run P w = .ok r w ∧ ∃ p, K (.pv p) ∧ rep N w p r := ⟨r, hr, _, h, by simp only [rep]⟩
theorem cInt_sound {op : BinOp} {k : IntKind} {a b : Int} {K : AV → Prop} (h : cInt op k a b K) (t : TypeId) (hs : op ≠ .shl ∧ op ≠ .shr) :
    ∃ r, (binOp op t (.int k a) (.int k b)).run P w = .ok r w ∧ ∃ p, K (.pv p) ∧ rep N w p r := by
  obtain ⟨s1, s2⟩ := hs
  cases op <;> simp only [cInt] at h <;> try (exact h.elim)
  all_goals first
    | exact absurd rfl s1
    | exact absurd rfl s2
    | (obtain ⟨hb, h⟩ := h
       exact sc_ok h (by simp [binOp, Op.intDiv, hb]))
    | exact sc_ok h (by simp [binOp, Op.intArith, Op.intCmp, Op.intBits])
theorem cStr_sound {op : BinOp} {a b : ByteArray} {K : AV → Prop} (h : cStr op a b K) (t : TypeId) :
    ∃ r, (binOp op t (.string a) (.string b)).run P w = .ok r w ∧ ∃ p, K (.pv p) ∧ rep N w p r := by
  cases op <;> simp only [cStr] at h <;> try (exact h.elim)
  all_goals first
    | (obtain ⟨hb, h⟩ := h
       refine sc_ok h ?_
       have : ¬ ((a.size + b.size : Nat) : Int) > IntKind.i64.max := by
         have e : IntKind.i64.max = 9223372036854775807 := by decide
         rw [e]; omega
       simp only [binOp, Op.stringOp]
       rw [if_neg this]
       simp)
    | exact sc_ok h (by simp [binOp, Op.stringOp])
theorem fin {op : BinOp} {b : Bool} {K : AV → Prop} (h : cEq op b K) {t : TypeId} {x y : Value} {xo yo : Operand} (hx : (Op.equal t x y).run P w = .ok b w)
    (h1 : (op = .eql → binOp op t x y = (do pure (.bool (← Op.equal t x y)))) ∧ (op = .neq → binOp op t x y = (do pure (.bool (!(← Op.equal t x y))))))
    (hg : (∀ a b, x = .agg a → y = .agg b → False) ∧ (x = .nilIface → y = .nilIface → False)) :
    ∃ r, (do eqGuard op t xo yo x y; binOp op t x y : Sem Value).run P w = .ok r w ∧ ∃ p, K (.pv p) ∧ rep N w p r := by
  obtain ⟨r, h3, h4⟩ := cEq_sound (N := N) h hx h1
  exact ⟨r, by rw [Sem.run_bind, run_eqGuard_plain _ _ _ _ _ _ hg]; exact h3, h4⟩
theorem rEq_pp (d : Nat) {t el : TypeId} (h : P.underlying t = some (.pointer el)) : (Op.equalIn (d + 1) t (.pointer none) (.pointer none)).run P w = .ok true w := by
  simp [Op.equalIn, run_underlying h]
theorem rEq_p (d : Nat) {t el : TypeId} (a : Addr) (h : P.underlying t = some (.pointer el)) : (Op.equalIn (d + 1) t (.pointer (some a)) (.pointer none)).run P w = .ok false w := by
  simp [Op.equalIn, run_underlying h]
theorem rEq_ss (d : Nat) {t el : TypeId} (a b c e : Nat) (h : P.underlying t = some (.slice el)) : (Op.equalIn (d + 1) t (.slice none a b) (.slice none c e)).run P w = .ok true w := by
  simp [Op.equalIn, run_underlying h]
theorem rEq_s (d : Nat) {t el : TypeId} (x : Addr) (a b c e : Nat) (h : P.underlying t = some (.slice el)) : (Op.equalIn (d + 1) t (.slice (some x) a b) (.slice none c e)).run P w = .ok false w := by
  simp [Op.equalIn, run_underlying h]
theorem rEq_ff (d : Nat) {t : TypeId} {a b : Array TypeId} {c : Bool} (h : P.underlying t = some (.func a b c)) : (Op.equalIn (d + 1) t .nilFunc .nilFunc).run P w = .ok true w := by
  simp [Op.equalIn, run_underlying h]
theorem rEq_f (d : Nat) {t : TypeId} {a b : Array TypeId} {c : Bool} (f : Fn) (x y : Array Value) (h : P.underlying t = some (.func a b c)) : (Op.equalIn (d + 1) t (.func f x y) .nilFunc).run P w = .ok false w := by
  simp [Op.equalIn, run_underlying h]
theorem cEqs_sound (i : TI) {t : TypeId} (hi : TIok P t i) {op : BinOp} {x y : AV} {K : AV → Prop} (h : cEqs i op x y K) {u v : Value}
    (hx : repA N w hp R x u) (hy : repA N w hp R y v) (xo yo : Operand) :
    ∃ r, (do eqGuard op t xo yo u v; binOp op t u v : Sem Value).run P w = .ok r w ∧ ∃ p, K (.pv p) ∧ rep N w p r := by
  obtain ⟨d, hd, hdi⟩ := hi.desc'
  unfold cEqs at h
  split at h
  · -- bool
    rename_i e
    split at h
    · simp only [repA, rep] at hx hy
      subst hx; subst hy
      have hd' : P.underlying t = some .bool := by
        rw [e] at hdi
        cases d <;> simp [di] at hdi
        exact hd
      exact fin h (run_equalIn_bool w 9999 t _ _ hd') ⟨fun e => by subst e; rfl, fun e => by subst e; rfl⟩ ⟨fun _ _ ha _ => (by cases ha), fun ha _ => (by cases ha)⟩
    · exact h.elim
  · -- struct
    rename_i fs e
    split at h
    · rename_i x' y' xs ys
      split at h
      · rename_i ks hc
        split at h
        · rename_i b hb
          simp only [repA, rep] at hx hy
          obtain ⟨us, rfl, hx⟩ := hx
          obtain ⟨vs, rfl, hy⟩ := hy
          rw [repC_iff] at hx hy
          obtain ⟨ho, hg⟩ := hi.cmp ks hc
          have hr := ho w us vs b (eqPs_eqVs hx hy hb)
          obtain ⟨r, h3, h4⟩ := cEq_sound (N := N) h hr ⟨fun e => by subst e; rfl, fun e => by subst e; rfl⟩
          exact ⟨r, by rw [Sem.run_bind, run_eqGuard_agg _ _ _ _ _ _ hg]; exact h3, h4⟩
        · exact h.elim
      · exact h.elim
    · exact h.elim
  · -- pointer
    rename_i el e
    have hd' : P.underlying t = some (.pointer el) := by
      rw [e] at hdi
      cases d <;> simp [di] at hdi
      subst hdi
      exact hd
    split at h
    · simp only [repA, rep] at hx hy
      subst hx; subst hy
      exact fin h (rEq_pp 9999 hd') ⟨fun e => by subst e; rfl, fun e => by subst e; rfl⟩ ⟨fun _ _ ha _ => (by cases ha), fun ha _ => (by cases ha)⟩
    · split at h
      · rename_i hp'
        obtain ⟨a, rfl⟩ := repA_ptr hp' hx
        simp only [repA, rep] at hy
        subst hy
        exact fin h (rEq_p 9999 a hd') ⟨fun e => by subst e; rfl, fun e => by subst e; rfl⟩ ⟨fun _ _ ha _ => (by cases ha), fun ha _ => (by cases ha)⟩
      · exact h.elim
    · exact h.elim
  · -- slice
    rename_i el e
    have hd' : P.underlying t = some (.slice el) := by
      rw [e] at hdi
      cases d <;> simp [di] at hdi
      subst hdi
      exact hd
    split at h
    · simp only [repA, rep] at hx hy
      subst hx; subst hy
      exact fin h (rEq_ss 9999 _ _ _ _ hd') ⟨fun e => by subst e; rfl, fun e => by subst e; rfl⟩ ⟨fun _ _ ha _ => (by cases ha), fun ha _ => (by cases ha)⟩
    · simp only [repA, rep] at hx hy
      subst hy
      obtain ⟨p, len, cap, rfl, _, _, hp', _⟩ := hx
      cases p with
      | none => exact absurd (hp' rfl).1 (by simp)
      | some a =>
        exact fin h (rEq_s 9999 a _ _ _ _ hd') ⟨fun e => by subst e; rfl, fun e => by subst e; rfl⟩ ⟨fun _ _ ha _ => (by cases ha), fun ha _ => (by cases ha)⟩
    · exact h.elim
  · -- func
    rename_i e
    have hd' : ∃ a b c, P.underlying t = some (.func a b c) := by
      rw [e] at hdi
      cases d <;> simp [di] at hdi
      exact ⟨_, _, _, hd⟩
    obtain ⟨fa, fb, fc, hd'⟩ := hd'
    split at h
    · simp only [repA, rep] at hx hy
      subst hx; subst hy
      exact fin h (rEq_ff 9999 hd') ⟨fun e => by subst e; rfl, fun e => by subst e; rfl⟩ ⟨fun _ _ ha _ => (by cases ha), fun ha _ => (by cases ha)⟩
    · split at h
      · rename_i hp'
        obtain ⟨f, a, b, rfl⟩ := repA_fn hp' hx
        simp only [repA, rep] at hy
        subst hy
        exact fin h (rEq_f 9999 f a b hd') ⟨fun e => by subst e; rfl, fun e => by subst e; rfl⟩ ⟨fun _ _ ha _ => (by cases ha), fun ha _ => (by cases ha)⟩
      · exact h.elim
    · exact h.elim
  · exact h.elim
theorem cBin_sound (hT : TabOk P T) {t : TypeId} {op : BinOp} {x y : AV} {K : AV → Prop} (h : cBin T op t x y K) {u v : Value}
    (hx : repA N w hp R x u) (hy : repA N w hp R y v) (xo yo : Operand) :
    ∃ r, (do eqGuard op t xo yo u v; binOp op t u v : Sem Value).run P w = .ok r w ∧ ∃ p, K (.pv p) ∧ rep N w p r := by
  unfold cBin at h
  split at h
  · rename_i k a j b
    simp only [repA, rep] at hx hy
    subst hx; subst hy
    split at h
    · unfold cShift at h
      split at h
      · obtain ⟨h0, h⟩ := h
        refine ⟨_, by rw [Sem.run_bind, run_eqGuard_plain _ _ _ _ _ _ ⟨fun _ _ ha _ => (by cases ha), fun ha _ => (by cases ha)⟩]; simp only [Result.andThen_ok, binOp, Op.shift]; rw [if_neg (by omega)]; rfl, _, h, by simp only [rep]⟩
      · obtain ⟨h0, h⟩ := h
        refine ⟨_, by rw [Sem.run_bind, run_eqGuard_plain _ _ _ _ _ _ ⟨fun _ _ ha _ => (by cases ha), fun ha _ => (by cases ha)⟩]; simp only [Result.andThen_ok, binOp, Op.shift]; rw [if_neg (by omega)]; rfl, _, h, by simp only [rep]⟩
      · exact h.elim
    · rename_i hsh
      split at h
      · rename_i hk
        have hk := of_decide_eq_true hk
        subst hk
        have key : op ≠ .shl ∧ op ≠ .shr ∧ cInt op k a b K := ⟨by rintro rfl; simp [isShift] at hsh, by rintro rfl; simp [isShift] at hsh, h⟩
        obtain ⟨r, h1, h2⟩ := cInt_sound (P := P) (N := N) (w := w) key.2.2 t ⟨key.1, key.2.1⟩
        exact ⟨r, by rw [Sem.run_bind, run_eqGuard_plain _ _ _ _ _ _ ⟨fun _ _ ha _ => (by cases ha), fun ha _ => (by cases ha)⟩]; exact h1, h2⟩
      · exact h.elim
  · simp only [repA, rep] at hx hy
    subst hx; subst hy
    obtain ⟨r, h1, h2⟩ := cStr_sound (P := P) (N := N) (w := w) h t
    exact ⟨r, by rw [Sem.run_bind, run_eqGuard_plain _ _ _ _ _ _ ⟨fun _ _ ha _ => (by cases ha), fun ha _ => (by cases ha)⟩]; exact h1, h2⟩
  · split at h
    · rename_i i hi
      exact cEqs_sound i (hT t i hi) h hx hy xo yo
    · exact h.elim
end binsound
end Go.AX
end
section
namespace Go.AX
def opnds : Op → List Operand
  | .move x => [x]
  | .assign x => [x]
  | .pick c a b => [c, a, b]
  | .alloc _ => []
  | .box _ v => [v]
  | .build _ ps => ps.toList.map (·.2)
  | .buildSlice _ _ ps => ps.toList.map (·.2)
  | .load _ a => [a]
  | .store _ a v => [a, v]
  | .nilCheck x => [x]
  | .binOp _ _ x y _ => [x, y]
  | .unOp _ _ x => [x]
  | .convert _ _ x => [x]
  | .makeFunc _ f c => f.toList ++ c.toList
  | .makeSlice _ l c => [l, c]
  | .slice _ x l h m => x :: (l.toList ++ (h.toList ++ m.toList))
  | .fieldAddr _ x _ => [x]
  | .field _ x _ => [x]
  | .indexAddr _ x i => [x, i]
  | .index _ x i => [x, i]
  | .extract t _ => [t]
  | .call c => match c.callee with
    | .value f => f :: c.args.toList
    | _ => c.args.toList
  | _ => []
section
variable {α : Type} {R : α → Value → Prop} {f : Operand → Value}
theorem FL1 {x : α} {a : Operand} (h : FL R [x] (List.map f [a])) : R x (f a) := by
  obtain ⟨v, r, e, h1, _⟩ := h
  simp only [List.map, List.cons.injEq] at e
  rw [e.1]; exact h1
theorem FL2 {x y : α} {a b : Operand} (h : FL R [x, y] (List.map f [a, b])) : R x (f a) ∧ R y (f b) := by
  obtain ⟨v, r, e, h1, u, s, e', h2, _⟩ := h
  simp only [List.map, List.cons.injEq] at e
  obtain ⟨e1, rfl⟩ := e
  simp only [List.cons.injEq] at e'
  rw [e1, e'.1]; exact ⟨h1, h2⟩
theorem FL3 {x y z : α} {a b c : Operand} (h : FL R [x, y, z] (List.map f [a, b, c])) : R x (f a) ∧ R y (f b) ∧ R z (f c) := by
  obtain ⟨v, r, e, h1, h'⟩ := h
  simp only [List.map, List.cons.injEq] at e
  obtain ⟨e1, rfl⟩ := e
  have := FL2 (f := f) (a := b) (b := c) (by simpa using h')
  rw [e1]; exact ⟨h1, this⟩
end
def AS.app (s : AS) (ws : List (Nat × Box)) : AS := ⟨s.tm, s.nx, ws ++ s.hp⟩
def outA (i : TI) (cs : List AV) (K : AV → Prop) : Prop :=
  match i.d.isAgg with
  | true => match mkAgg cs with
    | some v => K v
    | none => False
  | false => match cs with
    | [v] => K v
    | _ => False
def outP (i : TI) (cs : List PV) (K : AV → Prop) : Prop :=
  match i.d.isAgg with
  | true => K (.pv (.agg cs))
  | false => match cs with
    | [v] => K (.pv v)
    | _ => False
def cLoad (T : Tab) (H : List (Nat × Box)) (t : TypeId) (x : AV) (K : AV → Prop) : Prop :=
  match lk T t with
  | none => False
  | some i => match x with
    | .ptr b off => match lk H b with
      | some (.var cells) => match part off i.size cells with
        | some cs => outA i cs K
        | none => False
      | some (.rov cells) => match part off i.size cells with
        | some cs => outP i cs K
        | none => False
      | _ => False
    | .pv (.eptr row off) => match part off i.size row with
      | some cs => outP i cs K
      | none => False
    | .aptr b ver k off => match lk H b with
      | some (.arr _ v _ rows) => match Nat.beq ver v with
        | true => ∃ row, rows[k]? = some row ∧ match part off i.size row with
          | some cs => outP i cs K
          | none => False
        | false => False
      | some (.roa v _ rows) => match Nat.beq ver v with
        | true => ∃ row, rows[k]? = some row ∧ match part off i.size row with
          | some cs => outP i cs K
          | none => False
        | false => False
      | _ => False
    | _ => False
section
variable {P : Program} {T : Tab} {N : Nat → Prop} {w : World} {hp : List (Nat × Box)} {R : Real}
theorem loadA_sound (i : TI) {t : TypeId} (hi : TIok P t i) {g off : Nat} {cur : Array Value} {e : TypeId} {fr : Nat × Nat} {cells cs : List AV} {K : AV → Prop}
    (hg : w.heap[g]? = some (.cells cur e fr)) (hc : FC (repA N w hp R) cells cur.toList) (hp' : part off i.size cells = some cs)
    (h : outA i cs K) :
    ∃ x v, (loadVar t ⟨g, off, none⟩).run P w = .ok x w ∧ K v ∧ repA N w hp R v x := by
  obtain ⟨hl, hcs⟩ := hc.fp.part hp'
  have hrun := run_loadVar_at (w := w) hi hg (by simpa using hl)
  cases ha : i.d.isAgg with
  | true =>
    simp only [outA, ha] at h
    simp only [ha] at hrun
    unfold mkAgg at h
    split at h
    · rename_i v hv
      refine ⟨_, v, hrun, h, ?_⟩
      split at hv
      · rename_i ps hps
        simp only [Option.some.injEq] at hv
        subst hv
        simp only [repA, rep, if_true]
        refine ⟨_, rfl, ?_⟩
        rw [repC_iff]
        have : ∀ (cs : List AV) (ps : List PV) (vs : List Value), allPV cs = some ps → FC (repA N w hp R) cs vs → FC (rep N w) ps vs := by
          intro cs
          induction cs with
          | nil => intro ps vs h h'; simp only [allPV, Option.some.injEq] at h; subst h; exact h'
          | cons c cs ih =>
            intro ps vs h h'
            obtain ⟨v, r, rfl, h1, h2, h3⟩ := h'
            cases c <;> simp only [allPV] at h <;> try (cases h; done)
            split at h
            · rename_i ps' hps'
              simp only [Option.some.injEq] at h
              subst h
              exact ⟨v, r, rfl, h1, by simpa only [repA] using h2, ih _ _ hps' h3⟩
            · cases h
        exact this cs ps _ hps (by simpa using hcs)
      · simp only [Option.some.injEq] at hv
        subst hv
        simp only [repA, if_true]
        refine ⟨_, rfl, ?_⟩
        rw [repAC_iff]
        simpa using hcs
    · exact h.elim
  | false =>
    have h1 := hi.agg ha
    simp only [outA, ha] at h
    simp only [ha, Bool.false_eq_true, if_false] at hrun
    split at h
    · rename_i v
      obtain ⟨u, r, e1, e2, e3, e4⟩ := hcs
      refine ⟨_, _, hrun, h, ?_⟩
      have : cur[off]! = u := by
        have hlt : off < cur.size := by simp at hl; omega
        rw [getElem!_pos cur off hlt]
        have hh : ((cur.toList.drop off).take i.size)[0]? = some u := by rw [e1]; rfl
        rw [h1] at hh
        simp only [List.getElem?_take, Nat.zero_lt_one, if_true, List.getElem?_drop, Nat.add_zero] at hh
        have h3 : cur[off]? = some u := by simpa using hh
        rw [Array.getElem?_eq_getElem hlt] at h3
        exact Option.some.inj h3
      rw [this]; exact e3
    · exact h.elim
theorem loadP_sound (i : TI) {t : TypeId} (hi : TIok P t i) {g base off : Nat} {cur : Array Value} {e : TypeId} {fr : Nat × Nat} {cells cs : List PV} {K : AV → Prop}
    (hg : w.heap[g]? = some (.cells cur e fr)) (hc : FP (rep N w) cells (cur.toList.drop base)) (hp' : part off i.size cells = some cs)
    (h : outP i cs K) :
    ∃ x v, (loadVar t ⟨g, base + off, none⟩).run P w = .ok x w ∧ K v ∧ repA N w hp R v x := by
  obtain ⟨hl, hcs⟩ := hc.part hp'
  rw [List.drop_drop] at hcs
  have hl' : i.size = 0 ∨ base + off + i.size ≤ cur.size := by simp at hl; omega
  cases ha : i.d.isAgg with
  | true =>
    simp only [outP, ha] at h
    by_cases hz : base + off + i.size ≤ cur.size
    · have hrun := run_loadVar_at (w := w) hi hg hz
      simp only [ha, if_true] at hrun
      refine ⟨_, _, hrun, h, ?_⟩
      simp only [repA, rep]
      exact ⟨_, rfl, by rw [repC_iff]; simpa using hcs⟩
    · have hz0 := hl'.resolve_right hz
      refine ⟨.agg #[], _, ?_, h, ?_⟩
      · simp [loadVar, hi.run_isAgg, ha, hi.run_sizeOf, hz0, loadCells, loadCellsFrom]
      · simp only [repA, rep]
        exact ⟨_, rfl, by rw [repC_iff]; simpa [hz0] using hcs⟩
  | false =>
    have h1 := hi.agg ha
    have hz : base + off + i.size ≤ cur.size := by omega
    have hrun := run_loadVar_at (w := w) hi hg hz
    simp only [outP, ha] at h
    simp only [ha, Bool.false_eq_true, if_false] at hrun
    split at h
    · rename_i v
      obtain ⟨u, r, e1, e2, e3, e4⟩ := hcs
      refine ⟨_, _, hrun, h, ?_⟩
      have : cur[base + off]! = u := by
        have hlt : base + off < cur.size := by omega
        rw [getElem!_pos cur (base + off) hlt]
        have hh : ((cur.toList.drop (base + off)).take i.size)[0]? = some u := by rw [e1]; rfl
        rw [h1] at hh
        simp only [List.getElem?_take, Nat.zero_lt_one, if_true, List.getElem?_drop, Nat.add_zero] at hh
        have h3 : cur[base + off]? = some u := by simpa using hh
        rw [Array.getElem?_eq_getElem hlt] at h3
        exact Option.some.inj h3
      rw [this]; simpa only [repA] using e3
    · exact h.elim
end
section
variable {P : Program} {T : Tab} {c : Ctx} {R : Real} {s : AS} {a : Act} {w : World}
theorem arr_block {N : Nat → Prop} {hp : List (Nat × Box)} {b : Nat} {e : TypeId} {ver st : Nat} {rows : List (List PV)} (h : realz N w hp R b (.arr e ver st rows)) (hn : R.nil b = false) :
    ∃ cur, w.heap[R.blk b]? = some (.cells cur e (0, 0)) ∧ cur.size = R.cap b * st ∧ rows.length ≤ R.cap b ∧ R.cap b ≤ maxLen ∧ repR N w st rows cur.toList ∧
      cur.toList.take (rows.length * st) = cur.toList.take (rows.length * st) := by
  obtain ⟨xs, ⟨h1, h2⟩, h3⟩ := h
  rcases h2 with ⟨h2, _⟩ | ⟨g, cap, cur, e1, _, hg, hle, hm, hs, ht⟩
  · simp [slv, hn] at h2
  · simp only [slv, hn, Bool.false_eq_true, if_false, Value.slice.injEq, Option.some.injEq, Addr.mk.injEq, and_true, true_and] at e1
    obtain ⟨rfl, rfl⟩ := e1
    refine ⟨cur, hg, hs, hle, hm, ?_, rfl⟩
    have := repR_ext (cur.toList.drop (rows.length * st)) h3
    rw [← ht, List.take_append_drop] at this
    exact this
theorem cLoad_sound (g : Gam c R s a w) (hT : TabOk P T) {H : List (Nat × Box)} (hH : ∀ b box, lk H b = some box → lk s.hp b = some box) {t : TypeId} {x : AV} {K : AV → Prop}
    (h : cLoad T H t x K) {u : Value} (hx : repA (Nof c R s.hp) w s.hp R x u) :
    ∃ y v, (Instr.loadAt t u).run P w = .ok y w ∧ K v ∧ repA (Nof c R s.hp) w s.hp R v y := by
  unfold cLoad at h
  split at h
  · exact h.elim
  · rename_i i hi
    have hi' := hT t i hi
    split at h
    · rename_i b off
      simp only [repA] at hx
      split at h
      · rename_i cells hb
        have hb' := hH _ _ hb
        rw [hb'] at hx
        simp only [refPtr] at hx
        subst hx
        split at h
        · rename_i cs hcs
          obtain ⟨cur, e, hg, hc⟩ := (g.boxes b _ hb')
          rw [repAC_iff] at hc
          obtain ⟨y, v, h1, h2, h3⟩ := loadA_sound i hi' hg hc hcs h
          exact ⟨y, v, by simpa [Instr.loadAt, Instr.sureAddr] using h1, h2, h3⟩
        · exact h.elim
      · rename_i cells hb
        have hb' := hH _ _ hb
        rw [hb'] at hx
        simp only [refPtr] at hx
        subst hx
        split at h
        · rename_i cs hcs
          obtain ⟨cur, e, fr, hg, hn, hc⟩ := (g.boxes b _ hb')
          rw [repP_iff] at hc
          obtain ⟨y, v, h1, h2, h3⟩ := loadP_sound (base := 0) (hp := s.hp) (R := R) i hi' hg (by simpa using hc) hcs h
          exact ⟨y, v, by simpa [Instr.loadAt, Instr.sureAddr] using h1, h2, h3⟩
        · exact h.elim
      · exact h.elim
    · rename_i row off
      simp only [repA, rep] at hx
      obtain ⟨gg, base, cur, e, fr, rfl, hn, hg, hc⟩ := hx
      rw [repP_iff] at hc
      split at h
      · rename_i cs hcs
        obtain ⟨y, v, h1, h2, h3⟩ := loadP_sound (hp := s.hp) (R := R) i hi' hg hc hcs h
        exact ⟨y, v, by simpa [Instr.loadAt, Instr.sureAddr] using h1, h2, h3⟩
      · exact h.elim
    · rename_i b ver k off
      simp only [repA] at hx
      split at h
      · rename_i e v st rows hb
        have hb' := hH _ _ hb
        rw [hb'] at hx
        simp only [refAp] at hx
        split at h
        · rename_i hv
          obtain ⟨hn, rfl⟩ := hx.2.2 (Nat.eq_of_beq_eq_true hv)
          obtain ⟨row, hrow, h⟩ := h
          split at h
          · rename_i cs hcs
            obtain ⟨cur, hg, hs, hle, hm, hr, _⟩ := arr_block (g.boxes b _ hb') hn
            obtain ⟨hl, hrp⟩ := repR_get hr hrow
            rw [repP_iff] at hrp
            obtain ⟨y, v, h1, h2, h3⟩ := loadP_sound (hp := s.hp) (R := R) i hi' hg hrp hcs h
            exact ⟨y, v, by simpa [Instr.loadAt, Instr.sureAddr] using h1, h2, h3⟩
          · exact h.elim
        · exact h.elim
      · rename_i v st rows hb
        have hb' := hH _ _ hb
        rw [hb'] at hx
        simp only [refAp] at hx
        split at h
        · rename_i hv
          obtain ⟨hn, rfl⟩ := hx.2.2 (Nat.eq_of_beq_eq_true hv)
          obtain ⟨row, hrow, h⟩ := h
          split at h
          · rename_i cs hcs
            have hre := (g.boxes b _ hb')
            simp only [realz, rep, slv, hn, Bool.false_eq_true, if_false] at hre
            obtain ⟨p, len, cap, e1, e2, e3, _, e4⟩ := hre
            simp only [Value.slice.injEq] at e1
            obtain ⟨rfl, rfl, rfl⟩ := e1
            rcases e4 _ rfl with e5 | ⟨_, _, cur, e, fr, hg, hr⟩
            · subst e5; simp at hrow
            · simp only [List.drop_zero] at hr
              obtain ⟨hl, hrp⟩ := repR_get hr hrow
              rw [repP_iff] at hrp
              obtain ⟨y, v, h1, h2, h3⟩ := loadP_sound (hp := s.hp) (R := R) i hi' hg hrp hcs h
              exact ⟨y, v, by simpa [Instr.loadAt, Instr.sureAddr] using h1, h2, h3⟩
          · exact h.elim
        · exact h.elim
      · exact h.elim
    · exact h.elim
end
end Go.AX
end
section
namespace Go.AX
def nth {α : Type} : List α → Nat → Option α
  | [], _ => none
  | a :: _, 0 => some a
  | _ :: r, n + 1 => nth r n
theorem nth_eq {α : Type} : ∀ (l : List α) (n : Nat), nth l n = l[n]?
  | [], _ => by simp [nth]
  | a :: _, 0 => by simp [nth]
  | _ :: r, n + 1 => by simp [nth, nth_eq r n]
def fieldOf (T : Tab) (t : TypeId) (f : Nat) : Option (Nat × TI) :=
  match lk T t with
  | some i => match i.d with
    | .str fs => match nth fs f with
      | some (off, ft) => match lk T ft with
        | some j => some (off, j)
        | none => none
      | none => none
    | _ => none
  | none => none
def verOf : Option Box → Option Nat
  | some (.arr _ v _ _) => some v
  | some (.roa v _ _) => some v
  | _ => none
def cFieldAddr (T : Tab) (H : List (Nat × Box)) (t : TypeId) (x : AV) (f : Nat) (K : AV → Prop) : Prop :=
  match fieldOf T t f with
  | some (off, j) => match Nat.beq j.size 0 with
    | true => False
    | false => match x with
      | .ptr b o => K (.ptr b (o + off))
      | .aptr b ver i o => match verOf (lk H b) with
        | some v => match Nat.beq ver v with
          | true => K (.aptr b ver i (o + off))
          | false => False
        | none => False
      | .pv (.eptr row o) => K (.pv (.eptr row (o + off)))
      | _ => False
  | none => False
def cFld (T : Tab) (t : TypeId) (x : AV) (f : Nat) (K : AV → Prop) : Prop :=
  match fieldOf T t f with
  | some (off, j) => match x with
    | .pv (.agg cs) => match part off j.size cs with
      | some ds => outP j ds K
      | none => False
    | .agg cs => match part off j.size cs with
      | some ds => outA j ds K
      | none => False
    | _ => False
  | none => False
def cIndexAddr (T : Tab) (H : List (Nat × Box)) (t : TypeId) (x ix : AV) (K : AV → Prop) : Prop :=
  match ix with
  | .pv (.sc (.int _ i)) => match lk T t with
    | some ti => match ti.d with
      | .slt e => match lk T e with
        | some ei => match x with
          | .pv (.sl _ st rows) => match Nat.beq st ei.size with
            | true => 0 ≤ i ∧ ∃ row, rows[i.toNat]? = some row ∧ K (.pv (.eptr row 0))
            | false => False
          | .slw b ver => match lk H b with
            | some (.arr _ v st rows) => match Nat.beq ver v, Nat.beq st ei.size with
              | true, true => 0 ≤ i ∧ i.toNat < rows.length ∧ K (.aptr b ver i.toNat 0)
              | _, _ => False
            | some (.roa v st rows) => match Nat.beq ver v, Nat.beq st ei.size with
              | true, true => 0 ≤ i ∧ ∃ row, rows[i.toNat]? = some row ∧ K (.pv (.eptr row 0))
              | _, _ => False
            | _ => False
          | _ => False
        | none => False
      | .arrt n e => match lk T e with
        | some ei => match x with
          | .ptr b off => 0 ≤ i ∧ i < n ∧ K (.ptr b (off + i.toNat * ei.size))
          | _ => False
        | none => False
      | _ => False
    | none => False
  | _ => False
def cIndex (T : Tab) (t : TypeId) (x ix : AV) (K : AV → Prop) : Prop :=
  match ix with
  | .pv (.sc (.int _ i)) => match lk T t with
    | some ti => match ti.d with
      | .strt => match x with
        | .pv (.sc (.string s)) => 0 ≤ i ∧ ∃ b, s.data.toList[i.toNat]? = some b ∧ K (.pv (.sc (.int .u8 b.toNat)))
        | _ => False
      | _ => False
    | none => False
  | _ => False
def cExtract (x : AV) (i : Nat) (K : AV → Prop) : Prop :=
  match x with
  | .tup vs => match nth vs i with
    | some v => K v
    | none => False
  | .pv (.tup vs) => match nth vs i with
    | some v => K (.pv v)
    | none => False
  | _ => False
def cUn (op : UnOp) (x : AV) (K : AV → Prop) : Prop :=
  match op, x with
  | .not, .pv (.sc (.bool b)) => K (.pv (.sc (.bool (!b))))
  | .neg, .pv (.sc (.int k n)) => K (.pv (.sc (.int k (k.wrap (0 - n)))))
  | _, _ => False
def byteRow (b : UInt8) : List PV := [.sc (.int .u8 b.toNat)]
def cConv (T : Tab) (H : List (Nat × Box)) (src dst : TypeId) (x : AV) (K : AV → Prop) : Prop :=
  match lk T src, lk T dst with
  | some si, some dt => match dt.d with
    | .intt k => match x with
      | .pv (.sc (.int _ n)) => K (.pv (.sc (.int k (k.wrap n))))
      | _ => False
    | .strt => match si.d with
      | .strt => match x with
        | .pv (.sc (.string s)) => K (.pv (.sc (.string s)))
        | _ => False
      | .slt e => match lk T e with
        | some ei => match ei.d with
          | .intt .u8 => match x with
            | .pv (.sc (.slice none _ _)) => K (.pv (.sc (.string .empty)))
            | _ => match vw H x with
              | some (.sl _ st rows) => match Nat.beq st 1 with
                | true => ∃ bs : List UInt8, rows = bs.map byteRow ∧ K (.pv (.sc (.string ⟨bs.toArray⟩)))
                | false => False
              | _ => False
          | _ => False
        | none => False
      | _ => False
    | _ => False
  | _, _ => False
def cLen (T : Tab) (H : List (Nat × Box)) (t : TypeId) (x : AV) (K : AV → Prop) : Prop :=
  match lk T t with
  | some i => match i.d with
    | .strt => match x with
      | .pv (.sc (.string s)) => K (.pv (.sc (.int .i64 s.size)))
      | _ => False
    | .slt _ => match x with
      | .pv (.sc (.slice none n _)) => K (.pv (.sc (.int .i64 n)))
      | _ => match vw H x with
        | some (.sl _ _ rows) => K (.pv (.sc (.int .i64 rows.length)))
        | _ => False
    | .arrt n _ => K (.pv (.sc (.int .i64 n)))
    | _ => False
  | none => False
section
variable {P : Program} {T : Tab} {c : Ctx} {R : Real} {s : AS} {a : Act} {w : World}
theorem fieldOf_sound (hT : TabOk P T) {t : TypeId} {f off : Nat} {j : TI} (h : fieldOf T t f = some (off, j)) :
    ∃ fs fd, P.underlying t = some (.struct fs) ∧ fs[f]? = some fd ∧ fd.offset = off ∧ TIok P fd.type j := by
  unfold fieldOf at h
  split at h
  · rename_i i hi
    split at h
    · rename_i l hl
      split at h
      · rename_i o ft hn
        split at h
        · rename_i j' hj
          simp only [Option.some.injEq, Prod.mk.injEq] at h
          obtain ⟨rfl, rfl⟩ := h
          obtain ⟨d, hd, hdi⟩ := (hT t i hi).desc'
          rw [hl] at hdi
          cases d <;> simp [di] at hdi
          rename_i fs
          subst hdi
          rw [nth_eq] at hn
          simp only [List.getElem?_map, Option.map_eq_some_iff, Prod.mk.injEq] at hn
          obtain ⟨fd, h1, rfl, rfl⟩ := hn
          exact ⟨fs, fd, hd, by simpa using h1, rfl, hT _ _ hj⟩
        · cases h
      · cases h
    · cases h
  · cases h
theorem verOf_ap {b ver i off : Nat} {v : Value} {o : Option Box} (h : refAp R b ver i off v o) {k : Nat} (hk : verOf o = some k) (e : ver = k) :
    ∃ st, R.nil b = false ∧ v = .pointer (some ⟨R.blk b, i * st + off, none⟩) ∧ ∀ off', refAp R b ver i off' (.pointer (some ⟨R.blk b, i * st + off', none⟩)) o := by
  cases o with
  | none => exact h.elim
  | some box =>
    cases box <;> simp only [refAp] at h <;> simp only [verOf, Option.some.injEq] at hk <;> try (first | exact h.elim | (cases hk; done))
    · obtain ⟨hn, hv⟩ := h.2.2 (e.trans hk.symm)
      refine ⟨_, hn, hv, fun off' => ?_⟩
      exact ⟨h.1, rfl, fun _ => ⟨hn, rfl⟩⟩
    · obtain ⟨hn, hv⟩ := h.2.2 (e.trans hk.symm)
      refine ⟨_, hn, hv, fun off' => ?_⟩
      exact ⟨h.1, rfl, fun _ => ⟨hn, rfl⟩⟩
theorem cFieldAddr_sound (hT : TabOk P T) {N : Nat → Prop} {hp : List (Nat × Box)} {H : List (Nat × Box)} (hH : ∀ b box, lk H b = some box → lk hp b = some box)
    {t : TypeId} {x : AV} {f : Nat} {K : AV → Prop} (h : cFieldAddr T H t x f K)
    {u : Value} (hx : repA N w hp R x u) :
    ∃ y v, (Instr.fieldAt t u f).run P w = .ok y w ∧ K v ∧ repA N w hp R v y := by
  unfold cFieldAddr at h
  split at h
  · rename_i off j hf
    split at h
    · exact h.elim
    · rename_i hz
      have hz : j.size ≠ 0 := Nat.ne_of_beq_eq_false hz
      obtain ⟨fs, fd, h1, h2, rfl, h4⟩ := fieldOf_sound hT hf
      have run : ∀ g o, (Instr.fieldAt t (.pointer (some ⟨g, o, none⟩)) f).run P w = .ok (.pointer (some ⟨g, o + fd.offset, none⟩)) w := by
        intro g o
        simp [Instr.fieldAt, run_underlying h1, h2, Instr.sureAddr, fieldPlace, h4.run_sizeOf, hz, addr_add]
      split at h
      · rename_i b o
        simp only [repA] at hx
        cases hb : lk hp b with
        | none => rw [hb] at hx; exact hx.elim
        | some box =>
          rw [hb] at hx
          cases box <;> simp only [refPtr] at hx <;> (subst hx; exact ⟨_, _, run _ _, h, by simp only [repA, hb, refPtr]⟩)
      · rename_i b ver i o
        split at h
        · rename_i v hv
          split at h
          · rename_i hver
            simp only [repA] at hx
            cases hb : lk H b with
            | none => rw [hb] at hv; cases hv
            | some box =>
              rw [hb, ← hH _ _ hb] at hv
              obtain ⟨st, hn, hu, hr⟩ := verOf_ap hx hv (Nat.eq_of_beq_eq_true hver)
              subst hu
              exact ⟨_, _, run _ _, h, by simp only [repA]; rw [Nat.add_assoc]; exact hr _⟩
          · exact h.elim
        · exact h.elim
      · rename_i row o
        simp only [repA, rep] at hx
        obtain ⟨g, base, cur, e, fr, rfl, hx⟩ := hx
        refine ⟨_, _, run _ _, h, ?_⟩
        simp only [repA, rep]
        exact ⟨g, base, cur, e, fr, by rw [Nat.add_assoc], hx⟩
      · exact h.elim
  · exact h.elim
theorem cExtract_sound {N : Nat → Prop} {hp : List (Nat × Box)} {x : AV} {i : Nat} {K : AV → Prop} (h : cExtract x i K) {u : Value} (hx : repA N w hp R x u) :
    ∃ y v, (Instr.extract u i).run P w = .ok y w ∧ K v ∧ repA N w hp R v y := by
  unfold cExtract at h
  split at h
  · split at h
    · rename_i vs v hv
      simp only [repA] at hx
      obtain ⟨us, rfl, hx⟩ := hx
      rw [repAL_iff] at hx
      rw [nth_eq] at hv
      obtain ⟨y, h1, h2⟩ := hx.get hv
      refine ⟨y, v, ?_, h, h2⟩
      have : us[i]? = some y := by simpa using h1
      simp [Instr.extract, this]
    · exact h.elim
  · split at h
    · rename_i vs v hv
      simp only [repA, rep] at hx
      obtain ⟨us, rfl, hx⟩ := hx
      rw [repL_iff] at hx
      rw [nth_eq] at hv
      obtain ⟨y, h1, h2⟩ := hx.get hv
      refine ⟨y, _, ?_, h, by simpa only [repA] using h2⟩
      have : us[i]? = some y := by simpa using h1
      simp [Instr.extract, this]
    · exact h.elim
  · exact h.elim
theorem cUn_sound {N : Nat → Prop} {hp : List (Nat × Box)} {op : UnOp} {x : AV} {K : AV → Prop} (h : cUn op x K) {u : Value} (hx : repA N w hp R x u) :
    ∃ y v, (Op.unary op u).run P w = .ok y w ∧ K v ∧ repA N w hp R v y := by
  unfold cUn at h
  split at h
  · rename_i b
    simp only [repA, rep] at hx
    subst hx
    exact ⟨.bool (!b), _, by simp [Op.unary], h, by simp only [repA, rep]⟩
  · rename_i k n
    simp only [repA, rep] at hx
    subst hx
    exact ⟨.int k (k.wrap (0 - n)), _, by simp [Op.unary, Op.intArith], h, by simp only [repA, rep]⟩
  · exact h.elim
theorem part_some {α : Type} {off n : Nat} {l x : List α} (h : part off n l = some x) : x.length = n ∧ off + n ≤ l.length ∧ x = (l.drop off).take n := by
  have hd : ∀ (n : Nat) (l r : List α), dropX n l = some r → n ≤ l.length ∧ r = l.drop n := by
    intro n
    induction n with
    | zero => intro l r h; simp only [dropX, Option.some.injEq] at h; subst h; simp
    | succ n ih =>
      intro l r h
      cases l with
      | nil => simp [dropX] at h
      | cons a l => simp only [dropX] at h; have := ih l r h; simpa using this
  have ht : ∀ (n : Nat) (l r : List α), takeX n l = some r → n ≤ l.length ∧ r = l.take n := by
    intro n
    induction n with
    | zero => intro l r h; simp only [takeX, Option.some.injEq] at h; subst h; simp
    | succ n ih =>
      intro l r h
      cases l with
      | nil => simp [takeX] at h
      | cons a l =>
        simp only [takeX] at h
        split at h
        · rename_i t ht
          simp only [Option.some.injEq] at h
          subst h
          have := ih l t ht
          refine ⟨by simp [this.1], by simp [this.2]⟩
        · cases h
  unfold part at h
  split at h
  · rename_i r hr
    obtain ⟨h1, rfl⟩ := hd _ _ _ hr
    obtain ⟨h2, rfl⟩ := ht _ _ _ h
    simp only [List.length_drop] at h2
    refine ⟨by simp; omega, by omega, rfl⟩
  · cases h
theorem outA_sound {N : Nat → Prop} {hp : List (Nat × Box)} {i : TI} {t : TypeId} (hi : TIok P t i) {ds : List AV} {K : AV → Prop} (h : outA i ds K) {vs : Array Value} {off : Nat}
    (hd : FC (repA N w hp R) ds ((vs.toList.drop off).take i.size)) (_ : off + i.size ≤ vs.size) :
    ∃ y v, (Go.part t vs off).run P w = .ok y w ∧ K v ∧ repA N w hp R v y := by
  unfold outA at h
  split at h
  · rename_i ha
    unfold mkAgg at h
    split at h
    · rename_i v hv
      refine ⟨.agg (vs.extract off (off + i.size)), v, ?_, h, ?_⟩
      · simp [Go.part, hi.run_isAgg, ha, hi.run_sizeOf]
      · have e : (vs.extract off (off + i.size)).toList = (vs.toList.drop off).take i.size := by
          simp [Array.toList_extract, List.extract]
        split at hv
        · rename_i ps hps
          simp only [Option.some.injEq] at hv
          subst hv
          simp only [repA, rep]
          refine ⟨_, rfl, ?_⟩
          rw [repC_iff, e]
          have : ∀ (cs : List AV) (ps : List PV) (vs : List Value), allPV cs = some ps → FC (repA N w hp R) cs vs → FC (rep N w) ps vs := by
            intro cs
            induction cs with
            | nil => intro ps vs h h'; simp only [allPV, Option.some.injEq] at h; subst h; exact h'
            | cons c cs ih =>
              intro ps vs h h'
              obtain ⟨v, r, rfl, h1, h2, h3⟩ := h'
              cases c <;> simp only [allPV] at h <;> try (cases h; done)
              split at h
              · rename_i ps' hps'
                simp only [Option.some.injEq] at h
                subst h
                exact ⟨v, r, rfl, h1, by simpa only [repA] using h2, ih _ _ hps' h3⟩
              · cases h
          exact this _ _ _ hps hd
        · simp only [Option.some.injEq] at hv
          subst hv
          simp only [repA]
          refine ⟨_, rfl, ?_⟩
          rw [repAC_iff, e]
          exact hd
    · exact h.elim
  · rename_i ha
    have h1 := hi.agg ha
    split at h
    · rename_i v
      obtain ⟨u, r, e1, e2, e3, e4⟩ := hd
      refine ⟨u, _, ?_, h, e3⟩
      have hh : ((vs.toList.drop off).take i.size)[0]? = some u := by rw [e1]; rfl
      rw [h1] at hh
      simp only [List.getElem?_take, Nat.zero_lt_one, if_true, List.getElem?_drop, Nat.add_zero] at hh
      have h3 : vs[off]? = some u := by simpa using hh
      simp [Go.part, hi.run_isAgg, ha, h3]
    · exact h.elim
theorem outP_outA {i : TI} {ds : List PV} {K : AV → Prop} (h : outP i ds K) : outA i (ds.map .pv) K := by
  have hall : ∀ l : List PV, allPV (l.map AV.pv) = some l := by
    intro l
    induction l with
    | nil => rfl
    | cons p r ih => simp [allPV, ih]
  unfold outP at h
  unfold outA
  split at h
  · rename_i ha
    simp only [mkAgg, hall]
    exact h
  · rename_i ha
    split at h
    · exact h
    · exact h.elim
theorem cFld_sound (hT : TabOk P T) {N : Nat → Prop} {hp : List (Nat × Box)} {t : TypeId} {x : AV} {f : Nat} {K : AV → Prop} (h : cFld T t x f K) {u : Value} (hx : repA N w hp R x u) :
    ∃ y v, (Instr.field t u f).run P w = .ok y w ∧ K v ∧ repA N w hp R v y := by
  unfold cFld at h
  split at h
  · rename_i off j hf
    obtain ⟨fs, fd, h1, h2, rfl, h4⟩ := fieldOf_sound hT hf
    have key : ∀ (cs : List AV) (us : Array Value) (ds : List AV), FC (repA N w hp R) cs us.toList → part fd.offset j.size cs = some ds → outA j ds K →
        ∃ y v, (Instr.field t (.agg us) f).run P w = .ok y w ∧ K v ∧ repA N w hp R v y := by
      intro cs us ds hc hp' ho
      obtain ⟨hl, hd⟩ := hc.fp.part hp'
      obtain ⟨y, v, h5, h6, h7⟩ := outA_sound h4 ho hd (by simpa using hl)
      exact ⟨y, v, by simp [Instr.field, run_underlying h1, h2, asAgg, h5], h6, h7⟩
    split at h
    · rename_i cs
      simp only [repA, rep] at hx
      obtain ⟨us, rfl, hx⟩ := hx
      rw [repC_iff] at hx
      split at h
      · rename_i ds hds
        refine key (cs.map .pv) us (ds.map .pv) (FC.map (fun p v hv => by simpa only [repA] using hv) hx) ?_ (outP_outA h)
        obtain ⟨e1, e2, e3⟩ := part_some hds
        have gd : ∀ (n : Nat) (l : List PV), n ≤ l.length → dropX n (l.map AV.pv) = some ((l.drop n).map .pv) := by
          intro n
          induction n with
          | zero => intro l _; simp [dropX]
          | succ n ih => intro l hl; cases l with
            | nil => simp at hl
            | cons a l => simpa [dropX] using ih l (by simpa using hl)
        have gt : ∀ (n : Nat) (l : List PV), n ≤ l.length → takeX n (l.map AV.pv) = some ((l.take n).map .pv) := by
          intro n
          induction n with
          | zero => intro l _; simp [takeX]
          | succ n ih => intro l hl; cases l with
            | nil => simp at hl
            | cons a l => simp [takeX, ih l (by simpa using hl)]
        unfold part
        rw [gd _ _ (by omega)]
        simp only
        rw [gt _ _ (by simp; omega), e3]
      · exact h.elim
    · rename_i cs
      simp only [repA] at hx
      obtain ⟨us, rfl, hx⟩ := hx
      rw [repAC_iff] at hx
      split at h
      · rename_i ds hds
        exact key cs us ds hx hds h
      · exact h.elim
    · exact h.elim
  · exact h.elim
theorem cIndexAddr_sound (g : Gam c R s a w) (hT : TabOk P T) {H : List (Nat × Box)} (hH : ∀ b box, lk H b = some box → lk s.hp b = some box) {t : TypeId} {x ix : AV} {K : AV → Prop}
    (h : cIndexAddr T H t x ix K) {u v : Value} (hx : repA (Nof c R s.hp) w s.hp R x u) (hv : repA (Nof c R s.hp) w s.hp R ix v) :
    ∃ y z, (Instr.indexAt t u v).run P w = .ok y w ∧ K z ∧ repA (Nof c R s.hp) w s.hp R z y := by
  unfold cIndexAddr at h
  split at h
  · rename_i k i
    simp only [repA, rep] at hv
    subst hv
    split at h
    · rename_i ti hti
      obtain ⟨d, hd, hdi⟩ := (hT t ti hti).desc'
      split at h
      · rename_i e hte
        have hd' : P.underlying t = some (.slice e) := by
          rw [hte] at hdi
          cases d <;> simp [di] at hdi
          subst hdi; exact hd
        split at h
        · rename_i ei hei
          have hei' := hT e ei hei
          have run : ∀ (a : Addr) (len cap : Nat), 0 ≤ i → i.toNat < len →
              (Instr.indexAt t (.slice (some a) len cap) (.int k i)).run P w = .ok (.pointer (some (a.add (i.toNat * ei.size)))) w := by
            intro a len cap h0 h1
            have : i < (len : Int) := by omega
            simp [Instr.indexAt, asIntOf, run_underlying hd', h0, this, hei'.run_sizeOf]
          have cell : ∀ (p : Option Addr) (len cap : Nat) (nn : Bool) (st : Nat) (rows : List (List PV)) (row : List PV), rep (Nof c R s.hp) w (.sl nn st rows) (.slice p len cap) → st = ei.size →
              0 ≤ i → rows[i.toNat]? = some row → K (.pv (.eptr row 0)) → ∃ y z, (Instr.indexAt t (.slice p len cap) (.int k i)).run P w = .ok y w ∧ K z ∧ repA (Nof c R s.hp) w s.hp R z y := by
            intro p len cap nn st rows row hr hst h0 hrow hK
            simp only [rep] at hr
            obtain ⟨p', len', cap', e1, e2, e3, e4, e5⟩ := hr
            simp only [Value.slice.injEq] at e1
            obtain ⟨rfl, rfl, rfl⟩ := e1
            have hlt : i.toNat < rows.length := (List.getElem?_eq_some_iff.1 hrow).1
            cases p with
            | none => have := (e4 rfl).2; omega
            | some ad =>
              rcases e5 _ rfl with e6 | ⟨hs, hn, cur, e, fr, hg, hr⟩
              · subst e6; simp at hrow
              · obtain ⟨blk, off, spot⟩ := ad
                simp only at hs hn hg hr
                subst hs
                refine ⟨_, _, run _ _ _ h0 (by omega), hK, ?_⟩
                obtain ⟨_, hp'⟩ := repR_get hr hrow
                simp only [repA, rep, addr_add]
                refine ⟨blk, off + i.toNat * ei.size, cur, e, fr, rfl, hn, hg, ?_⟩
                rw [List.drop_drop, hst] at hp'
                exact hp'
          split at h
          · rename_i nn st rows
            split at h
            · rename_i hst
              obtain ⟨h0, row, hrow, hK⟩ := h
              simp only [repA] at hx
              have hx' := hx
              simp only [rep] at hx'
              obtain ⟨p, len, cap, rfl, _⟩ := hx'
              exact cell p len cap nn st rows row hx (Nat.eq_of_beq_eq_true hst) h0 hrow hK
            · exact h.elim
          · rename_i b ver
            simp only [repA] at hx
            split at h
            · rename_i e' v st rows hb
              have hb' := hH _ _ hb
              rw [hb'] at hx
              simp only [refSl] at hx
              split at h
              · rename_i hver hst
                obtain ⟨h0, hlt, hK⟩ := h
                have := hx.2.2 (Nat.eq_of_beq_eq_true hver)
                subst this
                have hst := Nat.eq_of_beq_eq_true hst
                have hnil : R.nil b = false := by
                  cases hn : R.nil b with
                  | false => rfl
                  | true =>
                    obtain ⟨xs, ⟨_, h2⟩, _⟩ := (g.boxes b _ hb')
                    rcases h2 with ⟨_, h2⟩ | ⟨g', cap, cur, e1, _⟩
                    · omega
                    · simp [slv, hn] at e1
                simp only [slv, hnil, Bool.false_eq_true, if_false]
                refine ⟨_, _, run _ _ _ h0 hlt, hK, ?_⟩
                simp only [repA, hb', refAp, addr_add]
                exact ⟨by rw [Nat.eq_of_beq_eq_true hver]; exact Nat.le_refl _, rfl, fun _ => ⟨hnil, by rw [← hst]; simp⟩⟩
              · exact h.elim
            · rename_i v st rows hb
              have hb' := hH _ _ hb
              rw [hb'] at hx
              simp only [refSl] at hx
              split at h
              · rename_i hver hst
                obtain ⟨h0, row, hrow, hK⟩ := h
                have := hx.2.2 (Nat.eq_of_beq_eq_true hver)
                subst this
                have hre := (g.boxes b _ hb')
                simp only [realz] at hre
                have hre' := hre
                simp only [rep] at hre'
                obtain ⟨p, len, cap, e1, _⟩ := hre'
                rw [e1] at hre ⊢
                exact cell p len cap false st rows row hre (Nat.eq_of_beq_eq_true hst) h0 hrow hK
              · exact h.elim
            · exact h.elim
          · exact h.elim
        · exact h.elim
      · rename_i n e hte
        have hd' : P.underlying t = some (.array n e) := by
          rw [hte] at hdi
          cases d <;> simp [di] at hdi
          obtain ⟨rfl, rfl⟩ := hdi; exact hd
        split at h
        · rename_i ei hei
          have hei' := hT e ei hei
          split at h
          · rename_i b off
            obtain ⟨h0, h1, hK⟩ := h
            simp only [repA] at hx
            cases hb : lk s.hp b with
            | none => rw [hb] at hx; exact hx.elim
            | some box =>
              rw [hb] at hx
              have run : ∀ gg o, (Instr.indexAt t (.pointer (some ⟨gg, o, none⟩)) (.int k i)).run P w = .ok (.pointer (some ⟨gg, o + i.toNat * ei.size, none⟩)) w := by
                intro gg o
                simp [Instr.indexAt, asIntOf, run_underlying hd', Instr.sureAddr, h0, h1, hei'.run_sizeOf, addr_add]
              cases box <;> simp only [refPtr] at hx <;> (subst hx; exact ⟨_, _, run _ _, hK, by simp only [repA, hb, refPtr]⟩)
          · exact h.elim
        · exact h.elim
      · exact h.elim
    · exact h.elim
  · exact h.elim
theorem cIndex_sound (hT : TabOk P T) {N : Nat → Prop} {hp : List (Nat × Box)} {t : TypeId} {x ix : AV} {K : AV → Prop}
    (h : cIndex T t x ix K) {u v : Value} (hx : repA N w hp R x u) (hv : repA N w hp R ix v) :
    ∃ y z, (Instr.index t u v).run P w = .ok y w ∧ K z ∧ repA N w hp R z y := by
  unfold cIndex at h
  split at h
  · rename_i k i
    simp only [repA, rep] at hv
    subst hv
    split at h
    · rename_i ti hti
      obtain ⟨d, hd, hdi⟩ := (hT t ti hti).desc'
      split at h
      · rename_i hte
        have hd' : P.underlying t = some .string := by
          rw [hte] at hdi
          cases d <;> simp [di] at hdi
          exact hd
        split at h
        · rename_i str
          obtain ⟨h0, b, hb, hK⟩ := h
          simp only [repA, rep] at hx
          subst hx
          refine ⟨.int .u8 b.toNat, _, ?_, hK, by simp only [repA, rep]⟩
          have hlt : i.toNat < str.size := by
            have := (List.getElem?_eq_some_iff.1 hb).1
            simpa using this
          have : str[i.toNat]? = some b := by
            rw [ByteArray.getElem?_lt' str _ hlt]
            have h2 : str.data[i.toNat]? = some b := by simpa using hb
            have h3 : str.data[i.toNat]'(by simpa using hlt) = b := by
              rw [Array.getElem?_eq_getElem (by simpa using hlt)] at h2
              exact Option.some.inj h2
            rw [← h3]
            rfl
          simp [Instr.index, asIntOf, run_underlying hd', h0, this]
        · exact h.elim
      · exact h.elim
    · exact h.elim
  · exact h.elim
end
end Go.AX
end
section
namespace Go.AX
theorem allPV_rep {N : Nat → Prop} {w : World} {hp : List (Nat × Box)} {R : Real} : ∀ {cs : List AV} {ps : List PV} {vs : List Value}, allPV cs = some ps → FC (repA N w hp R) cs vs → FC (rep N w) ps vs
  | [], ps, vs, h, h' => by simp only [allPV, Option.some.injEq] at h; subst h; exact h'
  | c :: cs, ps, vs, h, h' => by
    obtain ⟨v, r, rfl, h1, h2, h3⟩ := h'
    cases c <;> simp only [allPV] at h <;> try (cases h; done)
    split at h
    · rename_i ps' hps'
      simp only [Option.some.injEq] at h
      subst h
      exact ⟨v, r, rfl, h1, by simpa only [repA] using h2, allPV_rep hps' h3⟩
    · cases h
section
variable {P : Program} {T : Tab} {c : Ctx} {R : Real} {s : AS} {a : Act} {w : World}
theorem vwSl_sound (g : Gam c R s a w) {b ver : Nat} {p : PV} (h : vwSl (lk s.hp b) ver = some p) {N' : Nat → Prop} (hN : ∀ r, N' r → Nof c R s.hp r)
    (h2 : ∀ r, ownBox R b r (lk s.hp b) → ¬ N' r) {u : Value} (hx : refSl R b ver u (lk s.hp b)) : rep N' w p u := by
  cases hb : lk s.hp b with
  | none => rw [hb] at hx; exact hx.elim
  | some box =>
    rw [hb] at h hx h2
    have hre := (g.boxes b box hb)
    cases box with
    | var cells => cases h
    | rov cells => cases h
    | arr e v st rows =>
      simp only [vwSl] at h
      split at h
      · rename_i hv
        simp only [Option.some.injEq] at h
        subst h
        simp only [refSl] at hx
        have := hx.2.2 (Nat.eq_of_beq_eq_true hv)
        subst this
        cases hn : R.nil b with
        | true =>
          obtain ⟨xs, ⟨_, h3⟩, _⟩ := hre
          rcases h3 with ⟨_, h3⟩ | ⟨g', cap, cur, e1, _⟩
          · have e1 : slv R b rows.length = .slice none 0 0 := by simp [slv, hn]
            rw [e1, rep]
            exact ⟨none, 0, 0, rfl, h3.symm, ⟨Nat.le_refl _, by omega⟩, fun _ => ⟨rfl, rfl⟩, fun a ha => by cases ha⟩
          · simp [slv, hn] at e1
        | false =>
          obtain ⟨cur, hg, hs, hle, hm, hr, _⟩ := arr_block hre hn
          have e1 : slv R b rows.length = .slice (some ⟨R.blk b, 0, none⟩) rows.length (R.cap b) := by simp [slv, hn]
          rw [e1, rep]
          refine ⟨_, _, _, rfl, rfl, ⟨hle, by unfold maxLen at hm; omega⟩, fun h => (by cases h), fun ad ha => ?_⟩
          simp only [Option.some.injEq] at ha
          subst ha
          exact .inr ⟨rfl, h2 _ ⟨hn, rfl⟩, cur, e, (0, 0), hg, by simpa using repR_mono (fun r _ h => hN r h) (fun _ _ _ => rfl) _ _ _ hr⟩
      · cases h
    | roa v st rows =>
      simp only [vwSl] at h
      split at h
      · rename_i hv
        simp only [Option.some.injEq] at h
        subst h
        simp only [refSl] at hx
        have := hx.2.2 (Nat.eq_of_beq_eq_true hv)
        subst this
        exact rep_mono (fun r _ h => hN r h) (fun _ _ _ => rfl) _ _ hre
      · cases h
    | tr _ _ _ _ => exact hx.elim
theorem vwPtr_sound (g : Gam c R s a w) {b off : Nat} {p : PV} (h : vwPtr (lk s.hp b) off = some p) {N' : Nat → Prop} (hN : ∀ r, N' r → Nof c R s.hp r)
    (h2 : ∀ r, ownBox R b r (lk s.hp b) → ¬ N' r) {u : Value} (hx : refPtr R b off u (lk s.hp b)) : rep N' w p u := by
  cases hb : lk s.hp b with
  | none => rw [hb] at hx; exact hx.elim
  | some box =>
    rw [hb] at h hx h2
    have hre := (g.boxes b box hb)
    cases box with
    | var cells =>
      simp only [vwPtr] at h
      split at h
      · rename_i ps hps
        simp only [Option.some.injEq] at h
        subst h
        simp only [refPtr] at hx
        subst hx
        obtain ⟨cur, e, hg, hc⟩ := hre
        rw [repAC_iff] at hc
        have hc' := allPV_rep hps hc
        simp only [rep]
        refine ⟨R.blk b, 0, cur, e, (0, 0), by simp, h2 _ rfl, hg, ?_⟩
        have : repP (Nof c R s.hp) w ps (cur.toList.drop 0) := by rw [repP_iff]; simpa using hc'.fp
        exact repP_mono (fun r _ h => hN r h) (fun _ _ _ => rfl) _ _ this
      · cases h
    | rov cells =>
      simp only [vwPtr, Option.some.injEq] at h
      subst h
      simp only [refPtr] at hx
      subst hx
      obtain ⟨cur, e, fr, hg, hn, hc⟩ := hre
      simp only [rep]
      exact ⟨R.blk b, 0, cur, e, fr, by simp, fun x => hn (hN _ x), hg, by simpa using repP_mono (fun r _ h => hN r h) (fun _ _ _ => rfl) _ _ hc⟩
    | arr e v st rows => cases h
    | roa v st rows => cases h
    | tr _ _ _ _ => cases h
theorem sub_rep {N : Nat → Prop} {nn : Bool} {st lo hi : Nat} {rows : List (List PV)} {u : Value} (h : rep N w (.sl nn st rows) u) (hok : subOK lo hi u) :
    rep N w (.sl false st (cutN rows lo hi)) (subv st lo hi u) ∧ lo ≤ hi ∧ hi ≤ rows.length := by
  simp only [rep] at h
  obtain ⟨p, len, cap, rfl, rfl, ⟨h1, h2⟩, h3, h4⟩ := h
  simp only [subOK] at hok
  obtain ⟨k1, k2⟩ := hok
  refine ⟨?_, k1, k2⟩
  have hlen : (cutN rows lo hi).length = hi - lo := by simp only [cutN, List.length_take, List.length_drop]; omega
  cases p with
  | none =>
    have hc := (h3 rfl).2
    simp only [subv, rep]
    exact ⟨none, 0, 0, rfl, by rw [hlen]; omega, ⟨Nat.le_refl _, by omega⟩, fun _ => ⟨by trivial, by trivial⟩, fun a e => by cases e⟩
  | some a =>
    simp only [subv, rep]
    refine ⟨_, _, _, rfl, hlen.symm, ⟨by omega, by omega⟩, fun e => (by cases e), fun ad e => ?_⟩
    simp only [Option.some.injEq] at e
    subst e
    by_cases hcl : cap = lo
    · refine .inl (List.eq_nil_of_length_eq_zero ?_)
      rw [hlen]; omega
    rw [if_neg hcl]
    rcases h4 a rfl with h5 | ⟨h5, h6, cur, e, fr, h7, h8⟩
    · refine .inl (List.eq_nil_of_length_eq_zero ?_)
      have := congrArg List.length h5
      simp only [List.length_nil] at this
      rw [hlen]
      omega
    · obtain ⟨g, o, sp⟩ := a
      simp only at h5 h6 h7 h8
      subst h5
      rw [addr_add]
      refine .inr ⟨rfl, h6, cur, e, fr, h7, ?_⟩
      have h9 := repR_pre (hi - lo) (repR_drop lo h8)
      rw [List.drop_drop] at h9
      exact h9
mutual
theorem vw_sound (g : Gam c R s a w) {H : List (Nat × Box)} (hH : ∀ b box, lk H b = some box → lk s.hp b = some box) {N' : Nat → Prop} (hN : ∀ r, N' r → Nof c R s.hp r) :
    ∀ (x : AV) (p : PV) (u : Value), (∀ b, b ∈ refs x → ∀ r, ownBox R b r (lk s.hp b) → ¬ N' r) → vw H x = some p → repA (Nof c R s.hp) w s.hp R x u → rep N' w p u
  | .pv q, p, u, _, h, hx => by
    simp only [vw, Option.some.injEq] at h
    subst h
    simp only [repA] at hx
    exact rep_mono (fun r _ h => hN r h) (fun _ _ _ => rfl) _ _ hx
  | .slw b ver, p, u, h2, h, hx => by
    simp only [vw] at h
    simp only [repA] at hx
    cases hb : lk H b with
    | none => rw [hb] at h; cases h
    | some box =>
      rw [hb, ← hH _ _ hb] at h
      exact vwSl_sound g h hN (h2 b (by simp [refs])) hx
  | .ptr b off, p, u, h2, h, hx => by
    simp only [vw] at h
    simp only [repA] at hx
    cases hb : lk H b with
    | none => rw [hb] at h; cases h
    | some box =>
      rw [hb, ← hH _ _ hb] at h
      exact vwPtr_sound g h hN (h2 b (by simp [refs])) hx
  | .aptr b ver i off, p, u, _, h, _ => by simp [vw] at h
  | .sub b ver st lo hi, p, u, h2, h, hx => by
    simp only [vw] at h
    simp only [repA] at hx
    obtain ⟨u', hx, hok, rfl⟩ := hx
    unfold vwSub at h
    split at h
    · rename_i nn st' rows hv
      split at h
      · rename_i hst
        simp only [Option.some.injEq] at h
        subst h
        have := Nat.eq_of_beq_eq_true hst
        subst this
        cases hb : lk H b with
        | none => rw [hb] at hv; cases hv
        | some box =>
          rw [hb, ← hH _ _ hb] at hv
          exact (sub_rep (vwSl_sound g hv hN (h2 b (by simp [refs])) hx) hok).1
      · cases h
    · cases h
  | .agg cs, p, u, h2, h, hx => by
    simp only [vw] at h
    split at h
    · rename_i ps hps
      simp only [Option.some.injEq] at h
      subst h
      simp only [repA] at hx
      obtain ⟨vs, rfl, hx⟩ := hx
      simp only [rep]
      exact ⟨vs, rfl, vwsC_sound g hH hN cs ps _ (fun b hb => h2 b (by simpa [refs] using hb)) hps hx⟩
    · cases h
  | .tup cs, p, u, h2, h, hx => by
    simp only [vw] at h
    split at h
    · rename_i ps hps
      simp only [Option.some.injEq] at h
      subst h
      simp only [repA] at hx
      obtain ⟨vs, rfl, hx⟩ := hx
      simp only [rep]
      exact ⟨vs, rfl, vwsL_sound g hH hN cs ps _ (fun b hb => h2 b (by simpa [refs] using hb)) hps hx⟩
    · cases h
  | .fn f x y, p, u, h2, h, hx => by
    simp only [vw] at h
    split at h
    · rename_i p1 p2 hp1 hp2
      simp only [Option.some.injEq] at h
      subst h
      simp only [repA] at hx
      obtain ⟨vs, us, rfl, hx1, hx2⟩ := hx
      simp only [rep]
      exact ⟨vs, us, rfl, vwsL_sound g hH hN x p1 _ (fun b hb => h2 b (by simp only [refs, List.mem_append]; exact .inl hb)) hp1 hx1,
        vwsL_sound g hH hN y p2 _ (fun b hb => h2 b (by simp only [refs, List.mem_append]; exact .inr hb)) hp2 hx2⟩
    · cases h
theorem vwsC_sound (g : Gam c R s a w) {H : List (Nat × Box)} (hH : ∀ b box, lk H b = some box → lk s.hp b = some box) {N' : Nat → Prop} (hN : ∀ r, N' r → Nof c R s.hp r) :
    ∀ (xs : List AV) (ps : List PV) (us : List Value), (∀ b, b ∈ refss xs → ∀ r, ownBox R b r (lk s.hp b) → ¬ N' r) → vws H xs = some ps → repAC (Nof c R s.hp) w s.hp R xs us → repC N' w ps us
  | [], ps, us, _, h, hx => by
    simp only [vws, Option.some.injEq] at h
    subst h
    simpa only [repAC, repC] using hx
  | x :: xs, ps, us, h2, h, hx => by
    simp only [vws] at h
    split at h
    · rename_i p hp
      split at h
      · rename_i t ht
        simp only [Option.some.injEq] at h
        subst h
        simp only [repAC] at hx
        obtain ⟨v, r, rfl, h1, h3, h4⟩ := hx
        simp only [repC]
        exact ⟨v, r, rfl, h1, vw_sound g hH hN x p v (fun b hb => h2 b (by simp only [refss, List.mem_append]; exact .inl hb)) hp h3,
          vwsC_sound g hH hN xs t r (fun b hb => h2 b (by simp only [refss, List.mem_append]; exact .inr hb)) ht h4⟩
      · cases h
    · cases h
theorem vwsL_sound (g : Gam c R s a w) {H : List (Nat × Box)} (hH : ∀ b box, lk H b = some box → lk s.hp b = some box) {N' : Nat → Prop} (hN : ∀ r, N' r → Nof c R s.hp r) :
    ∀ (xs : List AV) (ps : List PV) (us : List Value), (∀ b, b ∈ refss xs → ∀ r, ownBox R b r (lk s.hp b) → ¬ N' r) → vws H xs = some ps → repAL (Nof c R s.hp) w s.hp R xs us → repL N' w ps us
  | [], ps, us, _, h, hx => by
    simp only [vws, Option.some.injEq] at h
    subst h
    simpa only [repAL, repL] using hx
  | x :: xs, ps, us, h2, h, hx => by
    simp only [vws] at h
    split at h
    · rename_i p hp
      split at h
      · rename_i t ht
        simp only [Option.some.injEq] at h
        subst h
        simp only [repAL] at hx
        obtain ⟨v, r, rfl, h3, h4⟩ := hx
        simp only [repL]
        exact ⟨v, r, rfl, vw_sound g hH hN x p v (fun b hb => h2 b (by simp only [refss, List.mem_append]; exact .inl hb)) hp h3,
          vwsL_sound g hH hN xs t r (fun b hb => h2 b (by simp only [refss, List.mem_append]; exact .inr hb)) ht h4⟩
      · cases h
    · cases h
end
theorem cLen_sound (g : Gam c R s a w) (hT : TabOk P T) {H : List (Nat × Box)} (hH : ∀ b box, lk H b = some box → lk s.hp b = some box) {t ty : TypeId} {x : AV} {K : AV → Prop}
    (h : cLen T H t x K) {u : Value} (hx : repA (Nof c R s.hp) w s.hp R x u) :
    ∃ y z, (Builtin.len_ #[t] ty #[u]).run P w = .ok y w ∧ K z ∧ repA (Nof c R s.hp) w s.hp R z y := by
  unfold cLen at h
  split at h
  · rename_i i hi
    obtain ⟨d, hd, hdi⟩ := (hT t i hi).desc'
    split at h
    · rename_i hte
      have hd' : P.underlying t = some .string := by
        rw [hte] at hdi
        cases d <;> simp [di] at hdi
        exact hd
      split at h
      · rename_i str
        simp only [repA, rep] at hx
        subst hx
        exact ⟨.int .i64 str.size, _, by simp [Builtin.len_, run_underlying hd', goInt], h, by simp only [repA, rep]⟩
      · exact h.elim
    · rename_i e hte
      have hd' : P.underlying t = some (.slice e) := by
        rw [hte] at hdi
        cases d <;> simp [di] at hdi
        subst hdi; exact hd
      split at h
      · rename_i n cp
        simp only [repA, rep] at hx
        subst hx
        exact ⟨.int .i64 n, _, by simp [Builtin.len_, run_underlying hd', goInt], h, by simp only [repA, rep]⟩
      · split at h
        · rename_i nn st rows hv
          have := vw_sound g hH (N' := fun _ => False) (fun _ h => h.elim) x _ u (fun _ _ _ _ h => h) hv hx
          simp only [rep] at this
          obtain ⟨p, len, cap, rfl, rfl, _⟩ := this
          exact ⟨.int .i64 rows.length, _, by simp [Builtin.len_, run_underlying hd', goInt], h, by simp only [repA, rep]⟩
        · exact h.elim
    · rename_i n e hte
      have hd' : P.underlying t = some (.array n e) := by
        rw [hte] at hdi
        cases d <;> simp [di] at hdi
        obtain ⟨rfl, rfl⟩ := hdi; exact hd
      exact ⟨.int .i64 n, _, by simp [Builtin.len_, run_underlying hd', goInt], h, by simp only [repA, rep]⟩
    · exact h.elim
  · exact h.elim
theorem repR_bytes {N : Nat → Prop} : ∀ {bs : List UInt8} {vs : List Value}, repR N w 1 (bs.map byteRow) vs → vs.take bs.length = bs.map fun b => Value.int .u8 b.toNat
  | [], vs, _ => by simp
  | b :: bs, vs, h => by
    simp only [List.map_cons, repR, byteRow, repP] at h
    obtain ⟨_, ⟨v, r, rfl, _, hv, _⟩, h3⟩ := h
    simp only [rep] at hv
    subst hv
    simp only [List.drop_succ_cons, List.drop_zero] at h3
    simp [repR_bytes h3]
theorem foldl_push (bs : List UInt8) : ∀ acc : ByteArray, (bs.map fun b => (b.toNat : Int)).foldl (fun r n => r.push (UInt8.ofNat n.toNat)) acc = ⟨acc.data ++ bs.toArray⟩ := by
  induction bs with
  | nil => intro acc; simp
  | cons b bs ih =>
    intro acc
    simp only [List.map_cons, List.foldl_cons]
    rw [ih]
    simp [ByteArray.push]
theorem cConv_sound (g : Gam c R s a w) (hT : TabOk P T) {H : List (Nat × Box)} (hH : ∀ b box, lk H b = some box → lk s.hp b = some box) {src dst : TypeId} {x : AV} {K : AV → Prop}
    (h : cConv T H src dst x K) {u : Value} (hx : repA (Nof c R s.hp) w s.hp R x u) :
    ∃ y z, (convert src dst u).run P w = .ok y w ∧ K z ∧ repA (Nof c R s.hp) w s.hp R z y := by
  unfold cConv at h
  split at h
  · rename_i si dt hsi hdt
    obtain ⟨d1, hd1, hdi1⟩ := (hT _ _ hsi).desc'
    obtain ⟨d2, hd2, hdi2⟩ := (hT _ _ hdt).desc'
    split at h
    · rename_i k hk
      have hd' : P.underlying dst = some (.int k) := by
        rw [hk] at hdi2
        cases d2 <;> simp [di] at hdi2
        subst hdi2; exact hd2
      split at h
      · rename_i j n
        simp only [repA, rep] at hx
        subst hx
        refine ⟨.int k (k.wrap n), _, ?_, h, by simp only [repA, rep]⟩
        simp only [convert, Sem.run_bind, run_underlying hd1, run_underlying hd', Result.andThen_ok]
        cases d1 <;> simp [Conv.intToInt]
      · exact h.elim
    · rename_i hk
      have hd' : P.underlying dst = some .string := by
        rw [hk] at hdi2
        cases d2 <;> simp [di] at hdi2
        exact hd2
      split at h
      · rename_i hs
        have hs' : P.underlying src = some .string := by
          rw [hs] at hdi1
          cases d1 <;> simp [di] at hdi1
          exact hd1
        split at h
        · rename_i str
          simp only [repA, rep] at hx
          subst hx
          exact ⟨.string str, _, by simp [convert, run_underlying hs', run_underlying hd'], h, by simp only [repA, rep]⟩
        · exact h.elim
      · rename_i e hs
        have hs' : P.underlying src = some (.slice e) := by
          rw [hs] at hdi1
          cases d1 <;> simp [di] at hdi1
          subst hdi1; exact hd1
        split at h
        · rename_i ei hei
          obtain ⟨d3, hd3, hdi3⟩ := (hT _ _ hei).desc'
          split at h
          · rename_i hu8
            have he' : P.underlying e = some (.int .u8) := by
              rw [hu8] at hdi3
              cases d3 <;> simp [di] at hdi3
              subst hdi3; exact hd3
            split at h
            · simp only [repA, rep] at hx
              subst hx
              exact ⟨.string .empty, _, by simp [convert, run_underlying hs', run_underlying hd', run_underlying he', Conv.bytesToString], h, by simp only [repA, rep]⟩
            · split at h
              · rename_i nn st rows hv
                split at h
                · rename_i hst
                  have hst := Nat.eq_of_beq_eq_true hst
                  subst hst
                  obtain ⟨bs, rfl, hK⟩ := h
                  have := vw_sound g hH (N' := fun _ => False) (fun _ h => h.elim) x _ u (fun _ _ _ _ h => h) hv hx
                  simp only [rep] at this
                  obtain ⟨p, len, cap, rfl, hl, hle, hnone, hsome⟩ := this
                  refine ⟨.string ⟨bs.toArray⟩, _, ?_, hK, by simp only [repA, rep]⟩
                  cases p with
                  | none =>
                    have : bs = [] := by
                      have := (hnone rfl).2
                      exact List.eq_nil_of_length_eq_zero (by simp at hl; omega)
                    subst this
                    simp [convert, run_underlying hs', run_underlying hd', run_underlying he', Conv.bytesToString]
                    rfl
                  | some ad =>
                    have h6 := hsome _ rfl
                    have hload : (loadCells ad len).run P w = .ok ((bs.map fun b => (b.toNat : Int)).map (Value.int .u8)).toArray w := by
                      obtain ⟨blk, off, spot⟩ := ad
                      simp only at h6
                      rcases h6 with h6 | ⟨hsp, _, cur, e2, fr, hg, hr⟩
                      · have : bs = [] := by simpa using h6
                        subst this
                        simp at hl
                        subst hl
                        simp [loadCells, loadCellsFrom]
                      · subst hsp
                        obtain ⟨h7, h8, h9⟩ := repR_take hr
                        have hb := repR_bytes hr
                        simp only [List.length_map] at hl h7
                        simp only [List.length_drop, Array.length_toList] at h7
                        have hz : bs.length = 0 ∨ off + len ≤ cur.size := by omega
                        rcases hz with hz | hz
                        · have : bs = [] := List.eq_nil_of_length_eq_zero hz
                          subst this
                          simp at hl
                          subst hl
                          simp [loadCells, loadCellsFrom]
                        · rw [run_loadCells_at hg hz, hl, hb]
                          simp
                    simp only [convert, Sem.run_bind, run_underlying hs', run_underlying hd', run_underlying he', Result.andThen_ok]
                    rw [run_bytesToString w ad len cap _ hload, foldl_push, show ByteArray.empty.data ++ bs.toArray = bs.toArray from by rw [show ByteArray.empty.data = #[] from rfl, Array.empty_append]]
                · exact h.elim
              · exact h.elim
          · exact h.elim
        · exact h.elim
      · exact h.elim
    · exact h.elim
  · exact h.elim
def optI (o : Option Operand) (vs : List AV) : Option (Option Int × List AV) :=
  match o with
  | none => some (none, vs)
  | some _ => match vs with
    | .pv (.sc (.int _ i)) :: r => some (some i, r)
    | _ => none
def inB (lo : Int) (o : Option Int) (hi : Int) (X : Prop) : Prop :=
  match o with
  | none => X
  | some i => lo ≤ i ∧ i ≤ hi ∧ X
def cutR (rows : List (List PV)) (lo hi : Option Int) : List (List PV) :=
  match lo, hi with
  | none, none => rows
  | some l, none => rows.drop l.toNat
  | none, some h => rows.take h.toNat
  | some l, some h => (rows.take h.toNat).drop l.toNat
def hiOf (n : Nat) (hi : Option Int) : Int :=
  match hi with
  | none => n
  | some h => h
def cutS (str : ByteArray) (lo hi : Option Int) : ByteArray :=
  match lo, hi with
  | none, none => str
  | some l, none => str.extract l.toNat str.size
  | none, some h => str.extract 0 h.toNat
  | some l, some h => str.extract l.toNat h.toNat
def okHM (h m : Option Int) : Bool :=
  match h, m with
  | none, some _ => false
  | _, _ => true
def cSlice (T : Tab) (t : TypeId) (lo hi mx : Option Operand) (vs : List AV) (K : AV → Prop) : Prop :=
  match vs with
  | x :: r => match optI lo r with
    | some (l, r1) => match optI hi r1 with
      | some (h, r2) => match optI mx r2 with
        | some (m, _) => match lk T t with
          | some i => match i.d with
            | .slt e => match lk T e with
              | some ei => match x with
                | .pv (.sc (.slice none 0 0)) => match m with
                  | none => inB 0 h 0 (inB 0 l 0 (K (.pv (.sc (.slice none 0 0)))))
                  | some _ => False
                | .pv (.sl nn st rows) => match Nat.beq st ei.size, okHM h m with
                  | true, true => inB 0 m rows.length (inB 0 h (hiOf rows.length m) (inB 0 l (hiOf rows.length h) (K (.pv (.sl nn st (cutR rows l h))))))
                  | _, _ => False
                | _ => False
              | none => False
            | .strt => match x with
              | .pv (.sc (.string str)) => match m with
                | none => inB 0 h str.size (inB 0 l (hiOf str.size h) (K (.pv (.sc (.string (cutS str l h))))))
                | some _ => False
              | _ => False
            | _ => False
          | none => False
        | none => False
      | none => False
    | none => False
  | [] => False
def vI : Option Value → Option Int → Prop
  | none, none => True
  | some (.int _ i), some j => i = j
  | _, _ => False
theorem optI_sound {N : Nat → Prop} {hp : List (Nat × Box)} {f : Operand → Value} {o : Option Operand} {rest : List Operand} {vs : List AV} {i : Option Int} {r : List AV}
    (h : FL (repA N w hp R) vs ((o.toList ++ rest).map f)) (e : optI o vs = some (i, r)) : vI (o.map f) i ∧ FL (repA N w hp R) r (rest.map f) := by
  unfold optI at e
  split at e
  · simp only [Option.some.injEq, Prod.mk.injEq] at e
    obtain ⟨rfl, rfl⟩ := e
    exact ⟨trivial, by simpa using h⟩
  · rename_i oo
    split at e
    · rename_i k j r'
      simp only [Option.some.injEq, Prod.mk.injEq] at e
      obtain ⟨rfl, rfl⟩ := e
      simp only [Option.toList, List.cons_append, List.nil_append, List.map_cons] at h
      obtain ⟨v, r2, e1, h1, h2⟩ := h
      simp only [List.cons.injEq] at e1
      obtain ⟨rfl, rfl⟩ := e1
      simp only [repA, rep] at h1
      exact ⟨by simp [vI, h1], h2⟩
    · cases e
theorem run_sliceBound {y : Nat} {k : IntKind} {i : Int} (code : BoundsCode) (h0 : 0 ≤ i) (h1 : i ≤ y) : (Instr.sliceBound (.int k i) y code).run P w = .ok i.toNat w := by
  simp [Instr.sliceBound, asIntOf, h0, h1]
theorem run_bounds {isS : Bool} {len cap : Nat} {lo hi mx : Option Value} {l h m : Option Int} (v1 : vI lo l) (v2 : vI hi h) (v3 : vI mx m) (hle : len ≤ cap)
    (hm : ∀ i, m = some i → 0 ≤ i ∧ i ≤ len ∧ h.isSome = true) (hh : ∀ i, h = some i → 0 ≤ i ∧ i ≤ hiOf len m) (hl : ∀ i, l = some i → 0 ≤ i ∧ i ≤ hiOf len h) :
    (Instr.sliceBounds isS len cap lo hi mx).run P w = .ok ((l.map Int.toNat).getD 0, (hiOf len h).toNat, (m.map Int.toNat).getD cap) w ∧
      ((l.map Int.toNat).getD 0) ≤ (hiOf len h).toNat ∧ (hiOf len h).toNat ≤ len ∧ (hiOf len h).toNat ≤ (m.map Int.toNat).getD cap := by
  have hh2 : 0 ≤ hiOf len h ∧ hiOf len h ≤ len ∧ hiOf len h ≤ (((m.map Int.toNat).getD cap : Nat) : Int) := by
    cases h with
    | none =>
      cases m with
      | none => simp [hiOf]; omega
      | some mi => have := (hm mi rfl).2.2; simp at this
    | some hi' =>
      have := hh hi' rfl
      cases m with
      | none => simp [hiOf] at this ⊢; omega
      | some mi => have h2 := hm mi rfl; simp [hiOf] at this ⊢; omega
  have hl2 : (((l.map Int.toNat).getD 0 : Nat) : Int) ≤ hiOf len h := by
    cases l with
    | none => simp; omega
    | some li => have := hl li rfl; simp; omega
  refine ⟨?_, by omega, by omega, by omega⟩
  have h1 : ∀ code, (∀ v, mx = some v → (Instr.sliceBound v cap code).run P w = .ok ((m.map Int.toNat).getD cap) w) := by
    intro code v hv
    subst hv
    cases m with
    | none => cases v <;> exact v3.elim
    | some mi =>
      cases v <;> simp only [vI] at v3
      subst v3
      have := hm _ rfl
      simp [run_sliceBound code this.1 (show _ ≤ ((cap : Nat) : Int) by omega)]
  have h2 : ∀ code, (∀ v, hi = some v → (Instr.sliceBound v ((m.map Int.toNat).getD cap) code).run P w = .ok (hiOf len h).toNat w) := by
    intro code v hv
    subst hv
    cases h with
    | none => cases v <;> exact v2.elim
    | some mi =>
      cases v <;> simp only [vI] at v2
      subst v2
      simp only [hiOf] at hh2 ⊢
      exact run_sliceBound code hh2.1 hh2.2.2
  have h3 : ∀ code, (∀ v, lo = some v → (Instr.sliceBound v (hiOf len h).toNat code).run P w = .ok ((l.map Int.toNat).getD 0) w) := by
    intro code v hv
    subst hv
    cases l with
    | none => cases v <;> exact v1.elim
    | some mi =>
      cases v <;> simp only [vI] at v1
      subst v1
      have := hl _ rfl
      simp only [Option.map_some, Option.getD_some]
      exact run_sliceBound code this.1 (by omega)
  have hi0 : hi = none → h = none := fun e => by subst e; cases h with
    | none => rfl
    | some _ => exact v2.elim
  have lo0 : lo = none → l = none := fun e => by subst e; cases l with
    | none => rfl
    | some _ => exact v1.elim
  have mx0 : mx = none → m = none := fun e => by subst e; cases m with
    | none => rfl
    | some _ => exact v3.elim
  cases mx with
  | none =>
    have := mx0 rfl; subst this
    cases hi with
    | none =>
      have := hi0 rfl; subst this
      cases lo with
      | none => have := lo0 rfl; subst this; simp [Instr.sliceBounds, hiOf]
      | some lv => simp only [Instr.sliceBounds, Sem.run_bind, Sem.run_pure, Result.andThen_ok]; have := h3 .sliceB lv rfl; simp [hiOf] at this ⊢; simp [this]
    | some hv =>
      cases lo with
      | none => have := lo0 rfl; subst this; have := h2 (if isS then .sliceAcap else .sliceAlen) hv rfl; simp at this; simp [Instr.sliceBounds, this]
      | some lv => have a1 := h2 (if isS then .sliceAcap else .sliceAlen) hv rfl; simp at a1; have a2 := h3 .sliceB lv rfl; simp [Instr.sliceBounds, a1, a2]
  | some mv =>
    have b1 := h1 (if isS then .slice3Acap else .slice3Alen) mv rfl
    cases hi with
    | none =>
      have := hi0 rfl; subst this
      cases m with
      | none => cases mv <;> exact v3.elim
      | some mi => have := (hm mi rfl).2.2; simp at this
    | some hv =>
      have b2 := h2 .slice3B hv rfl
      cases lo with
      | none => have := lo0 rfl; subst this; simp [Instr.sliceBounds, b1, b2]
      | some lv => have b3 := h3 .slice3C lv rfl; simp [Instr.sliceBounds, b1, b2, b3]
theorem inB_spec {lo hi : Int} {o : Option Int} {X : Prop} (h : inB lo o hi X) : X ∧ ∀ i, o = some i → lo ≤ i ∧ i ≤ hi := by
  cases o with
  | none => exact ⟨h, fun i e => by cases e⟩
  | some j => obtain ⟨a, b, c⟩ := h; exact ⟨c, fun i e => by simp only [Option.some.injEq] at e; subst e; exact ⟨a, b⟩⟩
theorem cutR_eq (rows : List (List PV)) (l h : Option Int) : cutR rows l h = (rows.take (hiOf rows.length h).toNat).drop ((l.map Int.toNat).getD 0) := by
  cases l <;> cases h <;> simp [cutR, hiOf]
theorem cSlice_sound (g : Gam c R s a w) (hT : TabOk P T) {t : TypeId} {x0 : Operand} {lo hi mx : Option Operand} {vs : List AV} {K : AV → Prop} (h : cSlice T t lo hi mx vs K)
    (hv : FL (repA (Nof c R s.hp) w s.hp R) vs ((x0 :: (lo.toList ++ (hi.toList ++ mx.toList))).map a.eval)) :
    ∃ y z, (Instr.sliceAt t (a.eval x0) (lo.map a.eval) (hi.map a.eval) (mx.map a.eval)).run P w = .ok y w ∧ K z ∧ repA (Nof c R s.hp) w s.hp R z y := by
  unfold cSlice at h
  split at h
  · rename_i x r
    simp only [List.map_cons] at hv
    obtain ⟨u, r', e1, hx, hv⟩ := hv
    simp only [List.cons.injEq] at e1
    obtain ⟨e1, rfl⟩ := e1
    rw [e1]
    split at h
    · rename_i l r1 hl
      split at h
      · rename_i hh r2 hhi
        split at h
        · rename_i m r3 hm
          obtain ⟨v1, hv⟩ := optI_sound hv hl
          obtain ⟨v2, hv⟩ := optI_sound hv hhi
          have hv' : FL (repA (Nof c R s.hp) w s.hp R) r2 ((mx.toList ++ []).map a.eval) := by simpa using hv
          obtain ⟨v3, _⟩ := optI_sound hv' hm
          split at h
          · rename_i i hi'
            obtain ⟨d, hd, hdi⟩ := (hT t i hi').desc'
            split at h
            · rename_i e hte
              have hd' : P.underlying t = some (.slice e) := by
                rw [hte] at hdi
                cases d <;> simp [di] at hdi
                subst hdi; exact hd
              split at h
              · rename_i ei hei
                have hei' := hT _ _ hei
                split at h
                · split at h
                  · obtain ⟨h, k2⟩ := inB_spec h
                    obtain ⟨h, k3⟩ := inB_spec h
                    simp only [repA, rep] at hx
                    subst hx
                    have hz : (hiOf 0 hh) = 0 := by
                      cases hh with
                      | none => rfl
                      | some j => have := k2 j rfl; simp only [hiOf]; omega
                    have lz : (l.map Int.toNat).getD 0 = 0 := by
                      cases l with
                      | none => rfl
                      | some j => have := k3 j rfl; simp; omega
                    obtain ⟨hrun, q1, q2, q3⟩ := run_bounds (P := P) (w := w) (isS := true) (len := 0) (cap := 0) v1 v2 v3 (Nat.le_refl _) (fun i e => by cases e) k2 (fun i e => by rw [hz]; exact k3 i e)
                    rw [hz, lz] at hrun
                    have hrun' : (Instr.sliceAt t (.slice none 0 0) (lo.map a.eval) (hi.map a.eval) (mx.map a.eval)).run P w = .ok (.slice none 0 0) w := by
                      simp only [Instr.sliceAt, Instr.slice, Sem.run_bind, run_underlying hd', Result.andThen_ok, hrun, hei'.run_sizeOf, Sem.run_pure]
                      simp
                    exact ⟨_, _, hrun', h, by simp only [repA, rep]⟩
                  · exact h.elim
                · rename_i nn st rows
                  split at h
                  · rename_i hst hok
                    have hst := Nat.eq_of_beq_eq_true hst
                    obtain ⟨h, k1⟩ := inB_spec h
                    obtain ⟨h, k2⟩ := inB_spec h
                    obtain ⟨h, k3⟩ := inB_spec h
                    simp only [repA] at hx
                    have hx' := hx
                    simp only [rep] at hx'
                    obtain ⟨p, len, cap, rfl, rfl, ⟨hle, hcm⟩, hnone, hsome⟩ := hx'
                    obtain ⟨hrun, q1, q2, q3⟩ := run_bounds (P := P) (w := w) (isS := true) v1 v2 v3 hle (fun i e => ⟨(k1 i e).1, (k1 i e).2, by
                      subst e; cases hh with
                      | none => simp [okHM] at hok
                      | some _ => rfl⟩) k2 k3
                    have hrun' : (Instr.sliceAt t (.slice p rows.length cap) (lo.map a.eval) (hi.map a.eval) (mx.map a.eval)).run P w =
                        .ok (.slice (if (m.map Int.toNat).getD cap = (l.map Int.toNat).getD 0 then p else p.map (·.add ((l.map Int.toNat).getD 0 * ei.size)))
                          ((hiOf rows.length hh).toNat - (l.map Int.toNat).getD 0) ((m.map Int.toNat).getD cap - (l.map Int.toNat).getD 0)) w := by
                      simp only [Instr.sliceAt, Instr.slice, Sem.run_bind, run_underlying hd', Result.andThen_ok, hrun, hei'.run_sizeOf, Sem.run_pure]
                    refine ⟨_, _, hrun', h, ?_⟩
                    · rw [cutR_eq]
                      simp only [repA, rep]
                      refine ⟨_, _, _, rfl, by simp; omega, ⟨by omega, ?_⟩, ?_, ?_⟩
                      · cases m with
                        | none => simp; omega
                        | some mi => have := (k1 mi rfl); simp; omega
                      · intro hp'
                        have : p = none := by
                          split at hp'
                          · exact hp'
                          · cases p with
                            | none => rfl
                            | some _ => simp at hp'
                        have := hnone this
                        refine ⟨this.1, ?_⟩
                        cases m with
                        | none => simp; omega
                        | some mi => have := k1 mi rfl; simp; omega
                      · intro ad hp'
                        cases p with
                        | none => split at hp' <;> simp at hp'
                        | some pa =>
                          have h6 := hsome _ rfl
                          obtain ⟨blk, off, spot⟩ := pa
                          simp only at h6
                          split at hp'
                          · rename_i hml
                            simp only [Option.some.injEq] at hp'
                            subst hp'
                            refine .inl ?_
                            apply List.eq_nil_of_length_eq_zero
                            simp
                            omega
                          · rcases h6 with h6 | ⟨hs, hn, cur, e2, fr, hg, hr⟩
                            · subst h6; exact .inl (by simp)
                            · subst hs
                              simp only [Option.map_some, Option.some.injEq, addr_add] at hp'
                              subst hp'
                              refine .inr ⟨rfl, hn, cur, e2, fr, hg, ?_⟩
                              have := repR_drop ((l.map Int.toNat).getD 0) (repR_pre (hiOf rows.length hh).toNat hr)
                              rw [List.drop_drop, hst] at this
                              rw [hst]
                              exact this
                  · exact h.elim
                · exact h.elim
              · exact h.elim
            · rename_i hte
              have hd' : P.underlying t = some .string := by
                rw [hte] at hdi
                cases d <;> simp [di] at hdi
                exact hd
              split at h
              · rename_i str
                simp only [repA, rep] at hx
                subst hx
                split at h
                · obtain ⟨h, k2⟩ := inB_spec h
                  obtain ⟨h, k3⟩ := inB_spec h
                  have mxn : mx = none := by
                    cases mx with
                    | none => rfl
                    | some v => simp only [Option.map_some] at v3; cases ev : a.eval v <;> rw [ev] at v3 <;> exact v3.elim
                  subst mxn
                  obtain ⟨hrun, q1, q2, q3⟩ := run_bounds (P := P) (w := w) (isS := false) (len := str.size) (cap := str.size) v1 v2 v3 (Nat.le_refl _) (fun i e => by cases e) k2 k3
                  have hrun' : (Instr.sliceAt t (.string str) (lo.map a.eval) (hi.map a.eval) none).run P w = .ok (.string (str.extract ((l.map Int.toNat).getD 0) (hiOf str.size hh).toNat)) w := by
                    simp only [Option.map_none] at hrun
                    simp only [Instr.sliceAt, Instr.slice, Sem.run_bind, run_underlying hd', Result.andThen_ok, hrun, Sem.run_pure]
                    simp [hrun]
                  refine ⟨_, _, hrun', h, ?_⟩
                  simp only [repA, rep]
                  have hsz : str.extract 0 str.size = str := by
                    rw [ByteArray.extract_zero_size]
                  cases l <;> cases hh <;> simp [cutS, hiOf, hsz]
                · exact h.elim
              · exact h.elim
            · exact h.elim
          · exact h.elim
        · exact h.elim
      · exact h.elim
    · exact h.elim
  · exact h.elim
end
end Go.AX
end
section
namespace Go.AX
def Real.at (R : Real) (b g : Nat) (nil : Bool) (cap : Nat) : Real :=
  { blk := fun b' => if b' = b then g else R.blk b', nil := fun b' => if b' = b then nil else R.nil b', cap := fun b' => if b' = b then cap else R.cap b', Y := R.Y }
theorem Real.at_ne (R : Real) (b g : Nat) (nil : Bool) (cap : Nat) : ∀ b', b' ≠ b → (R.at b g nil cap).blk b' = R.blk b' ∧ (R.at b g nil cap).nil b' = R.nil b' ∧ (R.at b g nil cap).cap b' = R.cap b' :=
  fun b' h => by simp [Real.at, h]
section
variable {P : Program} {T : Tab} {c : Ctx} {R : Real} {s : AS} {a : Act} {w : World}
theorem Gam.newBox (g : Gam c R s a w) {id : Nat} (hf : lk s.hp id = none) {o : Obj} {w' : World} (hw' : w'.heap = w.heap.push o ∧ w'.os = w.os ∧ w'.tape = w.tape ∧ w'.output = w.output)
    {R' : Real} (hR : ∀ b', b' ≠ id → R'.blk b' = R.blk b' ∧ R'.nil b' = R.nil b' ∧ R'.cap b' = R.cap b') (hb : R'.nil id = false → R'.blk id = w.heap.size) {box : Box}
    (hbox : ∀ cells, box = .var cells → R'.nil id = false)
    (hreal : (∀ v x, repA (Nof c R s.hp) w s.hp R v x → repA (Nof c R' ((id, box) :: s.hp)) w' ((id, box) :: s.hp) R' v x) →
      realz (Nof c R' ((id, box) :: s.hp)) w' ((id, box) :: s.hp) R' id box)
    (hntr : ∀ x y z u, box ≠ .tr x y z u := by intros; intro h; cases h) (hY : R'.Y = R.Y := by rfl) :
    Gam c R' (s.app [(id, box)]) a w' ∧ (∀ v x, repA (Nof c R s.hp) w s.hp R v x → repA (Nof c R' ((id, box) :: s.hp)) w' ((id, box) :: s.hp) R' v x) := by
  have r1 : ∀ off v, refPtr R id off v (lk s.hp id) → refPtr R' id off v (some box) := fun off v h => by rw [hf] at h; exact h.elim
  have r2 : ∀ ver v, refSl R id ver v (lk s.hp id) → refSl R' id ver v (some box) := fun off v h => by rw [hf] at h; exact h.elim
  have r3 : ∀ ver i off v, refAp R id ver i off v (lk s.hp id) → refAp R' id ver i off v (some box) := fun _ _ _ v h => by rw [hf] at h; exact h.elim
  have hown : ∀ r, ownBox R' id r (some box) → ownBox R id r (lk s.hp id) ∨ w.heap.size ≤ r := by
    intro r h
    refine .inr ?_
    cases box with
    | var cells => simp only [ownBox] at h; have := hb (hbox _ rfl); omega
    | rov _ => exact h.elim
    | arr _ _ _ _ => obtain ⟨h1, h2⟩ := h; have := hb h1; omega
    | roa _ _ _ => exact h.elim
    | tr x y z u => exact absurd rfl (hntr x y z u)
  have hworld : Evo (fun r => ownBox R id r (lk s.hp id)) w w' := by
    refine ⟨by rw [hw'.1]; simp, fun r hr _ => ?_, hw'.2.1, hw'.2.2.1, hw'.2.2.2⟩
    rw [hw'.1, Array.getElem?_push]
    simp [Nat.ne_of_lt hr]
  obtain ⟨m1, m2, m3, m4, m5⟩ := g.updN hR r1 r2 r3 hown hworld hY
  have hm : ∀ v x, repA (Nof c R s.hp) w s.hp R v x → repA (Nof c R' ((id, box) :: s.hp)) w' ((id, box) :: s.hp) R' v x := fun v x h => repA_mono m1 m2 m3 m4 m5 v x h
  exact ⟨g.upd hR r1 r2 r3 hown hworld (hreal hm) hY, hm⟩
theorem Gam.newVar (g : Gam c R s a w) {id : Nat} (hf : lk s.hp id = none) {cells : List AV} {vs : Array Value} {t : TypeId} (hc : FC (repA (Nof c R s.hp) w s.hp R) cells vs.toList) :
    ∃ R', Gam c R' (s.app [(id, .var cells)]) a { w with heap := w.heap.push (.cells vs t) } ∧
      repA (Nof c R' ((id, .var cells) :: s.hp)) { w with heap := w.heap.push (.cells vs t) } ((id, .var cells) :: s.hp) R' (.ptr id 0) (.pointer (some ⟨w.heap.size, 0, none⟩)) := by
  refine ⟨R.at id w.heap.size false 0, ?_, ?_⟩
  · refine (g.newBox (w' := { w with heap := w.heap.push (.cells vs t) }) (box := .var cells) hf (o := .cells vs t) ⟨rfl, rfl, rfl, rfl⟩ (Real.at_ne R id w.heap.size false 0)
      (fun _ => by simp [Real.at]) (fun _ _ => by simp [Real.at]) fun hm => ?_).1
    refine ⟨vs, t, ?_, ?_⟩
    · simp [Real.at]
    · rw [repAC_iff]; exact hc.imp hm
  · simp only [repA, lk_cons, if_true, refPtr]
    simp [Real.at]
theorem Gam.newArr (g : Gam c R s a w) {id : Nat} (hf : lk s.hp id = none) {e : TypeId} {st : Nat} {rows : List (List PV)} {w' : World} {cur : Array Value} {cap : Nat}
    (hw' : w'.heap = w.heap.push (.cells cur e) ∧ w'.os = w.os ∧ w'.tape = w.tape ∧ w'.output = w.output)
    (hle : rows.length ≤ cap) (hcm : cap ≤ maxLen) (hs : cur.size = cap * st) (hr : repR (Nof c R s.hp) w st rows cur.toList) :
    ∃ R', Gam c R' (s.app [(id, .arr e 0 st rows)]) a w' ∧
      repA (Nof c R' ((id, .arr e 0 st rows) :: s.hp)) w' ((id, .arr e 0 st rows) :: s.hp) R' (.slw id 0) (.slice (some ⟨w.heap.size, 0, none⟩) rows.length cap) := by
  have hsl : slv (R.at id w.heap.size false cap) id rows.length = .slice (some ⟨w.heap.size, 0, none⟩) rows.length cap := by simp [slv, Real.at]
  refine ⟨R.at id w.heap.size false cap, ?_, ?_⟩
  · refine (g.newBox hf (o := .cells cur e) hw' (Real.at_ne R id _ _ _) (fun _ => by simp [Real.at]) (fun _ _ => by simp [Real.at]) fun hm => ?_).1
    have hr' : repR (Nof c (R.at id w.heap.size false cap) ((id, Box.arr e 0 st rows) :: s.hp)) w' st rows cur.toList := by
      refine repR_mono ?_ ?_ _ _ _ hr
      · rintro r hlt (h | ⟨b, h⟩)
        · exact .inl h
        · refine .inr ⟨b, ?_⟩
          by_cases eb : b = id
          · subst eb
            simp only [lk_cons, if_true, ownBox] at h
            simp [Real.at] at h
            omega
          · rw [lk_cons, if_neg (fun x => eb x.symm)] at h
            exact ownBox_congr (Real.at_ne R id _ _ _ b eb) rfl h
      · intro r hlt _
        rw [hw'.1, Array.getElem?_push]
        simp [Nat.ne_of_lt hlt]
    obtain ⟨t1, t2, t3⟩ := repR_take hr'
    refine ⟨cur.toList.take (rows.length * st), ?_, t2⟩
    rw [hsl]
    refine ⟨by simp only [List.length_take]; omega, .inr ⟨w.heap.size, cap, cur, rfl, Nat.zero_le _, ?_, hle, hcm, hs, rfl⟩⟩
    rw [hw'.1]; simp
  · simp only [repA, lk_cons, if_true, refSl]
    exact ⟨Nat.le_refl _, rfl, fun _ => hsl.symm⟩
theorem Gam.freeze (g : Gam c R s a w) {b : Nat} {box box' : Box} (hb : lk s.hp b = some box)
    (hf : (∃ e v st rows, box = .arr e v st rows ∧ box' = .roa v st rows) ∨ (∃ cells ps, box = .var cells ∧ allPV cells = some ps ∧ box' = .rov ps)) :
    Gam c R (s.app [(b, box')]) a w ∧ (∀ v x, repA (Nof c R s.hp) w s.hp R v x → repA (Nof c R ((b, box') :: s.hp)) w ((b, box') :: s.hp) R v x) ∧
      (∀ r, Nof c R ((b, box') :: s.hp) r → Nof c R s.hp r) ∧ (∀ r, ownBox R b r (lk s.hp b) → ¬ Nof c R ((b, box') :: s.hp) r) := by
  have hR : ∀ b', b' ≠ b → R.blk b' = R.blk b' ∧ R.nil b' = R.nil b' ∧ R.cap b' = R.cap b' := fun _ _ => ⟨rfl, rfl, rfl⟩
  have r1 : ∀ off v, refPtr R b off v (lk s.hp b) → refPtr R b off v (some box') := by
    intro off v h
    rw [hb] at h
    rcases hf with ⟨e, v', st, rows, rfl, rfl⟩ | ⟨cells, ps, rfl, _, rfl⟩
    · exact h
    · exact h
  have r2 : ∀ ver v, refSl R b ver v (lk s.hp b) → refSl R b ver v (some box') := by
    intro off v h
    rw [hb] at h
    rcases hf with ⟨e, v', st, rows, rfl, rfl⟩ | ⟨cells, ps, rfl, _, rfl⟩
    · exact h
    · exact h
  have r3 : ∀ ver i off v, refAp R b ver i off v (lk s.hp b) → refAp R b ver i off v (some box') := by
    intro _ _ off v h
    rw [hb] at h
    rcases hf with ⟨e, v', st, rows, rfl, rfl⟩ | ⟨cells, ps, rfl, _, rfl⟩
    · exact h
    · exact h
  have hno : ∀ r, ¬ ownBox R b r (some box') := by
    intro r h
    rcases hf with ⟨e, v', st, rows, rfl, rfl⟩ | ⟨cells, ps, rfl, _, rfl⟩ <;> exact h
  have hown : ∀ r, ownBox R b r (some box') → ownBox R b r (lk s.hp b) ∨ w.heap.size ≤ r := fun r h => (hno r h).elim
  obtain ⟨m1, m2, m3, m4, m5⟩ := g.updN hR r1 r2 r3 hown (Evo.refl _ w)
  have lkb : lk ((b, box') :: s.hp) b = some box' := by rw [lk_cons, if_pos rfl]
  have hsub : ∀ r, Nof c R ((b, box') :: s.hp) r → Nof c R s.hp r := by
    rintro r (h | ⟨b', h⟩)
    · exact .inl h
    · by_cases e : b' = b
      · subst e; rw [lkb] at h; exact (hno r h).elim
      · rw [lk_cons, if_neg (fun x => e x.symm)] at h
        exact .inr ⟨b', h⟩
  have hout : ∀ r, ownBox R b r (lk s.hp b) → ¬ Nof c R ((b, box') :: s.hp) r := by
    rintro r ho (h | ⟨b', h⟩)
    · exact g.free r ⟨b, ho⟩ h
    · by_cases e : b' = b
      · subst e; rw [lkb] at h; exact hno r h
      · rw [lk_cons, if_neg (fun x => e x.symm)] at h
        exact e (g.inj b' b r h ho)
  refine ⟨g.upd hR r1 r2 r3 hown (Evo.refl _ w) ?_, fun v x h => repA_mono m1 m2 m3 m4 m5 v x h, hsub, hout⟩
  rcases hf with ⟨e, v', st, rows, rfl, rfl⟩ | ⟨cells, ps, rfl, hps, rfl⟩
  · simp only [realz]
    refine vwSl_sound g (b := b) (ver := v') (p := .sl false st rows) ?_ hsub hout ?_
    · rw [hb]; simp [vwSl]
    · rw [hb]
      refine ⟨Nat.le_refl _, ?_, fun _ => rfl⟩
      unfold slv; split <;> rfl
  · obtain ⟨cur, e, hg, hc⟩ := (g.boxes b _ hb)
    rw [repAC_iff] at hc
    have hc' := allPV_rep hps hc
    refine ⟨cur, e, (0, 0), hg, hout _ (by rw [hb]; rfl), ?_⟩
    have : repP (Nof c R s.hp) w ps cur.toList := by rw [repP_iff]; exact hc'.fp
    exact repP_mono (fun r _ h => hsub r h) (fun _ _ _ => rfl) _ _ this
end
end Go.AX
end
section
namespace Go.AX
theorem mapPV_eq : ∀ {ps : List PV} {cs : List AV}, mapPV ps = some cs → cs = ps.map .pv
  | [], cs, h => by simp only [mapPV, Option.some.injEq] at h; simp [← h]
  | p :: ps, cs, h => by
    simp only [mapPV] at h
    split at h
    · rename_i t ht
      simp only [Option.some.injEq] at h
      simp [← h, mapPV_eq ht]
    · cases h
theorem zAV_eq : ∀ {vs : List Value} {cs : List AV}, zAV vs = some cs → cs = vs.map fun v => .pv (.sc v)
  | [], cs, h => by simp only [zAV, Option.some.injEq] at h; simp [← h]
  | p :: ps, cs, h => by
    simp only [zAV] at h
    split at h
    · rename_i t ht
      simp only [Option.some.injEq] at h
      simp [← h, zAV_eq ht]
    · cases h
theorem zPV_eq : ∀ {vs : List Value} {cs : List PV}, zPV vs = some cs → cs = vs.map .sc
  | [], cs, h => by simp only [zPV, Option.some.injEq] at h; simp [← h]
  | p :: ps, cs, h => by
    simp only [zPV] at h
    split at h
    · rename_i t ht
      simp only [Option.some.injEq] at h
      simp [← h, zPV_eq ht]
    · cases h
section
variable {N : Nat → Prop} {w : World} {hp : List (Nat × Box)} {R : Real}
theorem cellP_one {p : PV} (h : cellP p = true) {v : Value} (hv : rep N w p v) : v.oneCell' = true := by
  cases p <;> simp only [cellP] at h <;> simp only [rep] at hv <;> try (cases h; done)
  · subst hv; exact h
  · obtain ⟨p, len, cap, rfl, _⟩ := hv; rfl
  · obtain ⟨g, base, cur, e, fr, rfl, _⟩ := hv; rfl
  · obtain ⟨fs, cs, rfl, _⟩ := hv; rfl
theorem cellA_one {p : AV} (h : cellA p = true) {v : Value} (hv : repA N w hp R p v) : v.oneCell' = true := by
  cases p with
  | pv p => exact cellP_one h (by simpa only [repA] using hv)
  | agg _ => cases h
  | tup _ => cases h
  | ptr b off =>
    simp only [repA] at hv
    cases hb : lk hp b with
    | none => rw [hb] at hv; exact hv.elim
    | some box => rw [hb] at hv; cases box <;> simp only [refPtr] at hv <;> (subst hv; rfl)
  | aptr b ver i off =>
    simp only [repA] at hv
    cases hb : lk hp b with
    | none => rw [hb] at hv; exact hv.elim
    | some box => rw [hb] at hv; cases box <;> simp only [refAp] at hv <;> exact hv.2.1
  | sub b ver st lo hi =>
    simp only [repA] at hv
    obtain ⟨u, _, _, rfl⟩ := hv
    exact subv_one _ _ _ _
  | slw b ver =>
    simp only [repA] at hv
    cases hb : lk hp b with
    | none => rw [hb] at hv; exact hv.elim
    | some box => rw [hb] at hv; cases box <;> simp only [refSl] at hv <;> exact hv.2.1
  | fn f a c =>
    simp only [repA] at hv
    obtain ⟨fs, cs, rfl, _⟩ := hv; rfl
theorem one_cells {v : Value} (h : v.oneCell' = true) : v.cells = #[v] := by
  cases v <;> first | rfl | (simp [Value.oneCell'] at h)
theorem cellsOf_sound {i : TI} {v : AV} {cs : List AV} (h : cellsOf i v = some cs) {u : Value} (hv : repA N w hp R v u) : FC (repA N w hp R) cs u.cells.toList := by
  unfold cellsOf at h
  split at h
  · split at h
    · rename_i ps
      have := mapPV_eq h
      subst this
      simp only [repA, rep] at hv
      obtain ⟨vs, rfl, hv⟩ := hv
      rw [repC_iff] at hv
      exact FC.map (fun p v hv => by simpa only [repA] using hv) hv
    · simp only [Option.some.injEq] at h
      subst h
      simp only [repA] at hv
      obtain ⟨vs, rfl, hv⟩ := hv
      rw [repAC_iff] at hv
      exact hv
    · cases h
  · split at h
    · rename_i hc
      simp only [Option.some.injEq] at h
      subst h
      have h1 := cellA_one hc hv
      rw [one_cells h1]
      exact ⟨u, [], rfl, h1, hv, rfl⟩
    · cases h
theorem pcellsOf_sound {i : TI} {p : PV} {cs : List PV} (h : pcellsOf i p = some cs) {u : Value} (hv : rep N w p u) : FC (rep N w) cs u.cells.toList := by
  unfold pcellsOf at h
  split at h
  · split at h
    · simp only [Option.some.injEq] at h
      subst h
      simp only [rep] at hv
      obtain ⟨vs, rfl, hv⟩ := hv
      rw [repC_iff] at hv
      exact hv
    · cases h
  · split at h
    · rename_i hc
      simp only [Option.some.injEq] at h
      subst h
      have h1 := cellP_one hc hv
      rw [one_cells h1]
      exact ⟨u, [], rfl, h1, hv, rfl⟩
    · cases h
end
def cStore (T : Tab) (H : List (Nat × Box)) (t : TypeId) (x y : AV) (K : AV → List (Nat × Box) → Prop) : Prop :=
  match lk T t with
  | some i => match x with
    | .ptr b off => match lk H b with
      | some (.var cells) => match cellsOf i y with
        | some cs => match Nat.beq cs.length i.size with
          | true => match setX off cells cs with
            | some cells' => K (.pv (.sc undef)) [(b, .var cells')]
            | none => False
          | false => False
        | none => False
      | _ => False
    | .aptr b ver k off => match lk H b with
      | some (.arr e v st rows) => match Nat.beq ver v with
        | true => match y with
          | .pv p => match pcellsOf i p with
            | some cs => match Nat.beq cs.length i.size with
              | true => ∃ row, rows[k]? = some row ∧ match setX off row cs with
                | some row' => K (.pv (.sc undef)) [(b, .arr e v st (rows.set k row'))]
                | none => False
              | false => False
            | none => False
          | _ => False
        | false => False
      | _ => False
    | _ => False
  | none => False
section
variable {P : Program} {T : Tab} {c : Ctx} {R : Real} {s : AS} {a : Act} {w : World}
theorem setRow_evo (w : World) (g : Nat) (cs : Array Value) : Evo (fun r => r = g) w (w.setRow g cs) :=
  ⟨by simp, fun r _ hn => setRow_other w g r cs hn, rfl, rfl, rfl⟩
theorem cStore_sound (g : Gam c R s a w) (hT : TabOk P T) {H : List (Nat × Box)} (hH : ∀ b box, lk H b = some box → lk s.hp b = some box) {t : TypeId} {x y : AV}
    {K : AV → List (Nat × Box) → Prop} (h : cStore T H t x y K) {u v : Value} (hx : repA (Nof c R s.hp) w s.hp R x u) (hy : repA (Nof c R s.hp) w s.hp R y v) :
    ∃ w' ws, (Instr.storeAt t u v).run P w = .ok () w' ∧ K (.pv (.sc undef)) ws ∧ Gam c R (s.app ws) a w' := by
  unfold cStore at h
  split at h
  · rename_i i hi
    have hi' := hT _ _ hi
    split at h
    · rename_i b off
      split at h
      · rename_i cells hb
        have hb' := hH _ _ hb
        split at h
        · rename_i cs hcs
          split at h
          · rename_i hlen
            have hlen := Nat.eq_of_beq_eq_true hlen
            split at h
            · rename_i cells' hset
              simp only [repA, hb', refPtr] at hx
              subst hx
              obtain ⟨cur, e, hg, hc⟩ := (g.boxes b _ hb')
              rw [repAC_iff] at hc
              have hcv := cellsOf_sound hcs hy
              obtain ⟨hl, hc'⟩ := FC.setX hc hcv hset
              have hvs : v.cells.size = i.size := by rw [← hlen, ← hcv.length]; simp
              have hrun := run_storeVar_at (w := w) hi' hg hvs (off := off) (by simp at hl; omega) hcv.one
              have hrun' : (Instr.storeAt t (.pointer (some ⟨R.blk b, off, none⟩)) v).run P w = .ok () (w.setRow (R.blk b) (cur.toList.take off ++ v.cells.toList ++ cur.toList.drop (off + v.cells.toList.length)).toArray) := by
                simp only [Instr.storeAt, Instr.sureAddr, pure_bind]
                exact hrun
              refine ⟨_, _, hrun', h, ?_⟩
              have hR : ∀ b', b' ≠ b → R.blk b' = R.blk b' ∧ R.nil b' = R.nil b' ∧ R.cap b' = R.cap b' := fun _ _ => ⟨rfl, rfl, rfl⟩
              have r1 : ∀ off v, refPtr R b off v (lk s.hp b) → refPtr R b off v (some (.var cells')) := fun off v h => by rw [hb'] at h; exact h
              have r2 : ∀ ver v, refSl R b ver v (lk s.hp b) → refSl R b ver v (some (.var cells')) := fun _ v h => by rw [hb'] at h; exact h
              have r3 : ∀ ver i off v, refAp R b ver i off v (lk s.hp b) → refAp R b ver i off v (some (.var cells')) := fun _ _ _ v h => by rw [hb'] at h; exact h
              have hown : ∀ r, ownBox R b r (some (.var cells')) → ownBox R b r (lk s.hp b) ∨ w.heap.size ≤ r := fun r h => by rw [hb']; exact .inl h
              have hworld : Evo (fun r => ownBox R b r (lk s.hp b)) w (w.setRow (R.blk b) (cur.toList.take off ++ v.cells.toList ++ cur.toList.drop (off + v.cells.toList.length)).toArray) := by
                refine (setRow_evo w _ _).mono ?_
                rintro r rfl
                rw [hb']; rfl
              obtain ⟨m1, m2, m3, m4, m5⟩ := g.updN hR r1 r2 r3 hown hworld
              refine g.upd hR r1 r2 r3 hown hworld ?_
              refine ⟨_, e, setRow_heap w _ cur _ e _ hg, ?_⟩
              rw [repAC_iff]
              exact hc'.imp fun p v h => repA_mono m1 m2 m3 m4 m5 p v h
            · exact h.elim
          · exact h.elim
        · exact h.elim
      · exact h.elim
    · rename_i b ver k off
      split at h
      · rename_i e vr st rows hb
        have hb' := hH _ _ hb
        split at h
        · rename_i hver
          split at h
          · rename_i p
            split at h
            · rename_i cs hcs
              split at h
              · rename_i hlen
                have hlen := Nat.eq_of_beq_eq_true hlen
                obtain ⟨row, hrow, h⟩ := h
                split at h
                · rename_i row' hset
                  simp only [repA, hb', refAp] at hx
                  obtain ⟨hn, rfl⟩ := hx.2.2 (Nat.eq_of_beq_eq_true hver)
                  simp only [repA] at hy
                  obtain ⟨cur, hg, hs, hle, hm, hr, _⟩ := arr_block (g.boxes b _ hb') hn
                  have hcv := pcellsOf_sound hcs hy
                  have hklt : k < rows.length := (List.getElem?_eq_some_iff.1 hrow).1
                  obtain ⟨hrl, hrp⟩ := repR_get hr hrow
                  rw [repP_iff] at hrp
                  have hrc := hrp.take
                  rw [hrl] at hrc
                  obtain ⟨hl, hc'⟩ := FC.setX hrc hcv hset
                  have hvs : v.cells.size = i.size := by rw [← hlen, ← hcv.length]; simp
                  have hpl := hrp.length
                  simp only [List.length_take, List.length_drop, Array.length_toList] at hl hpl
                  have hks : k * st + st ≤ cur.size := by
                    have : (k + 1) * st ≤ R.cap b * st := Nat.mul_le_mul_right _ (by omega)
                    rw [Nat.add_mul] at this
                    omega
                  have hrun := run_storeVar_at (w := w) hi' hg hvs (off := k * st + off) (by have := hcv.length; simp only [Array.length_toList] at this hl; omega) hcv.one
                  have hrun' : (Instr.storeAt t (.pointer (some ⟨R.blk b, k * st + off, none⟩)) v).run P w =
                      .ok () (w.setRow (R.blk b) (cur.toList.take (k * st + off) ++ v.cells.toList ++ cur.toList.drop (k * st + off + v.cells.toList.length)).toArray) := by
                    simp only [Instr.storeAt, Instr.sureAddr, pure_bind]
                    exact hrun
                  refine ⟨_, _, hrun', h, ?_⟩
                  have hR : ∀ b', b' ≠ b → R.blk b' = R.blk b' ∧ R.nil b' = R.nil b' ∧ R.cap b' = R.cap b' := fun _ _ => ⟨rfl, rfl, rfl⟩
                  have hll : (rows.set k row').length = rows.length := by simp
                  have r1 : ∀ off v, refPtr R b off v (lk s.hp b) → refPtr R b off v (some (.arr e vr st (rows.set k row'))) := fun off v h => by rw [hb'] at h; exact h
                  have r2 : ∀ ver v, refSl R b ver v (lk s.hp b) → refSl R b ver v (some (.arr e vr st (rows.set k row'))) := fun _ v h => by rw [hb'] at h; simp only [refSl, hll] at h ⊢; exact h
                  have r3 : ∀ ver i off v, refAp R b ver i off v (lk s.hp b) → refAp R b ver i off v (some (.arr e vr st (rows.set k row'))) := fun _ _ _ v h => by rw [hb'] at h; exact h
                  have hown : ∀ r, ownBox R b r (some (.arr e vr st (rows.set k row'))) → ownBox R b r (lk s.hp b) ∨ w.heap.size ≤ r := fun r h => by rw [hb']; exact .inl h
                  have hworld : Evo (fun r => ownBox R b r (lk s.hp b)) w (w.setRow (R.blk b) (cur.toList.take (k * st + off) ++ v.cells.toList ++ cur.toList.drop (k * st + off + v.cells.toList.length)).toArray) := by
                    refine (setRow_evo w _ _).mono ?_
                    rintro r rfl
                    rw [hb']; exact ⟨hn, rfl⟩
                  obtain ⟨m1, m2, m3, m4, m5⟩ := g.updN hR r1 r2 r3 hown hworld
                  refine g.upd hR r1 r2 r3 hown hworld ?_
                  -- the new cells
                  have hrow'l : row'.length = st := (setX_length hset).trans hrl
                  have hset' := repR_set (i := k) hr hklt hrow'l hc'
                  have hyl : (List.take off (List.take st (List.drop (k * st) cur.toList)) ++ v.cells.toList ++ List.drop (off + v.cells.toList.length) (List.take st (List.drop (k * st) cur.toList))).length = st := by
                    rw [hc'.length]; exact hrow'l
                  rw [hyl] at hset'
                  have heq : cur.toList.take (k * st) ++ (List.take off (List.take st (List.drop (k * st) cur.toList)) ++ v.cells.toList ++ List.drop (off + v.cells.toList.length) (List.take st (List.drop (k * st) cur.toList))) ++ cur.toList.drop (k * st + st) =
                      cur.toList.take (k * st + off) ++ v.cells.toList ++ cur.toList.drop (k * st + off + v.cells.toList.length) := by
                    have e1 : List.take off (List.take st (List.drop (k * st) cur.toList)) = List.take off (List.drop (k * st) cur.toList) := by
                      have : min off st = off := by omega
                      rw [List.take_take, this]
                    have e2 : List.drop (off + v.cells.toList.length) (List.take st (List.drop (k * st) cur.toList)) ++ cur.toList.drop (k * st + st) = cur.toList.drop (k * st + off + v.cells.toList.length) := by
                      have h1 : cur.toList.drop (k * st + st) = (cur.toList.drop (k * st)).drop st := by rw [List.drop_drop]
                      have h2 : cur.toList.drop (k * st + off + v.cells.toList.length) = (cur.toList.drop (k * st)).drop (off + v.cells.toList.length) := by rw [List.drop_drop, Nat.add_assoc]
                      rw [h1, h2, ← List.drop_append_of_le_length (by simp only [List.length_take, List.length_drop, Array.length_toList]; omega), List.take_append_drop]
                    rw [e1, List.take_add]
                    simp only [List.append_assoc] at e2 ⊢
                    rw [e2]
                  rw [heq] at hset'
                  have hsl : slv R b (rows.set k row').length = .slice (some ⟨R.blk b, 0, none⟩) rows.length (R.cap b) := by simp [slv, hn]
                  obtain ⟨t1, t2, t3⟩ := repR_take (repR_mono m1 m2 _ _ _ hset')
                  refine ⟨_, ?_, t2⟩
                  rw [hsl, hll]
                  rw [hll] at t1
                  refine ⟨?_, .inr ⟨R.blk b, R.cap b, _, rfl, Nat.zero_le _, setRow_heap w _ cur _ e _ hg, hle, hm, ?_, by simp⟩⟩
                  · simp only [List.length_take]; omega
                  · simp only [List.size_toArray, List.length_append, List.length_take, List.length_drop, Array.length_toList]
                    have := hcv.length
                    simp only [Array.length_toList] at this hl ⊢
                    omega
                · exact h.elim
              · exact h.elim
            · exact h.elim
          · exact h.elim
        · exact h.elim
      · exact h.elim
    · exact h.elim
  · exact h.elim
end
end Go.AX
end
