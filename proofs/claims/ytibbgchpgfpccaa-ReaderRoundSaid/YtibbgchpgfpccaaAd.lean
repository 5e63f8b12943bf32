/-
  Conditions: none. This text holds: the chapters in plain terms: places, fragments, ledgers, fetches.
-/
import Derived.Test.YtibbgchpgfpccaaAc
section
/-
  The program's data as plain structures, and how they read as values.
-/
set_option linter.unusedVariables false
universe u
variable {α : Type}
namespace Go.AX
abbrev uu (n : Int) : PV := .sc (.int .u64 n)
abbrev ii (n : Int) : PV := .sc (.int .i64 n)
abbrev bl (b : Bool) : PV := .sc (.bool b)
abbrev nilS : PV := .sc (.slice none 0 0)
abbrev unit : PV := .tup []

structure Pl where
  node : Int
  serial : Int
deriving DecidableEq, Inhabited
def Pl.c (x : Pl) : List PV := [ii x.node, uu x.serial]
def slP (l : List Pl) : PV := .sl false 2 (l.map Pl.c)

structure Fr where
  first : Int
  bookies : List Pl
deriving DecidableEq, Inhabited
def Fr.c (f : Fr) : List PV := [uu f.first, slP f.bookies]
def slF (l : List Fr) : PV := .sl false 2 (l.map Fr.c)

structure Lg where
  id : Int
  w : Int
  a : Int
  frags : List Fr
  closed : Int
  last : Int
deriving DecidableEq, Inhabited
def Lg.c (l : Lg) : List PV := [uu l.id, ii l.w, ii l.a, slF l.frags, ii l.closed, uu l.last]

def bys (l : List UInt8) : PV := .sl false 1 (l.map byteRow)

structure Ft where
  ledger : Int
  n : Int
  set : List Pl
  at_ : Int
  since : Int
  tag : Int
  done : Int
  body : List UInt8
deriving DecidableEq, Inhabited
def Ft.c (f : Ft) : List PV := [uu f.ledger, uu f.n, slP f.set, ii f.at_, uu f.since, uu f.tag, ii f.done, bys f.body]

structure Rq where
  to : Pl
  kind : Int
  ledger : Int
  n : Int
  epoch : Int
  sure : Int
  copy : Int
  body : List UInt8
  keep : List Int
deriving DecidableEq, Inhabited
def uRow (n : Int) : List PV := [uu n]
def slU (l : List Int) : PV := .sl false 1 (l.map uRow)
def Rq.c (r : Rq) : List PV := [ii r.to.node, uu r.to.serial, ii r.kind, uu r.ledger, uu r.n, uu r.epoch, uu r.sure, ii r.copy, bys r.body, slU r.keep]
def slR (l : List Rq) : PV := .sl false 10 (l.map Rq.c)

structure Rs where
  from_ : Pl
  kind : Int
  code : Int
  ledger : Int
  n : Int
  epoch : Int
  sure : Int
  body : List UInt8
deriving DecidableEq, Inhabited
def Rs.c (r : Rs) : List PV := [ii r.from_.node, uu r.from_.serial, ii r.kind, ii r.code, uu r.ledger, uu r.n, uu r.epoch, uu r.sure, bys r.body]

/-! ### plain words -/
/-- the index of the first that is so; -1: there is none -/
def ixP {α : Type} (p : α → Bool) : List α → Int
  | [] => -1
  | x :: r => match p x with
    | true => 0
    | false => match ixP p r with
      | .ofNat n => n + 1
      | .negSucc _ => -1
theorem ixP_none {α : Type} (p : α → Bool) : ∀ {l : List α}, (∀ x ∈ l, p x = false) → ixP p l = -1
  | [], _ => rfl
  | x :: r, h => by
    have e := ixP_none p (l := r) fun y hy => h y (by simp [hy])
    simp only [ixP, h x (by simp), e]
    rfl
theorem ixP_at {α : Type} (p : α → Bool) : ∀ {l : List α} {k : Nat} (hk : k < l.length), (∀ j (hj : j < l.length), j < k → p l[j] = false) → p l[k] = true → ixP p l = k
  | [], k, hk, _, _ => by simp at hk
  | x :: r, 0, _, _, h => by
    simp only [List.getElem_cons_zero] at h
    simp [ixP, h]
  | x :: r, k + 1, hk, h, h' => by
    have h0 := h 0 (by simp) (by omega)
    simp only [List.getElem_cons_zero] at h0
    simp only [List.getElem_cons_succ] at h'
    have := ixP_at p (l := r) (k := k) (by simpa using hk) (fun j hj hlt => by
      have := h (j + 1) (by simpa using hj) (by omega)
      simpa using this) h'
    simp only [ixP, h0, this]
    show ((k : Int) + 1 = _)
    omega
theorem ixP_spec {α : Type} (p : α → Bool) : ∀ (l : List α), (ixP p l = -1 ∧ ∀ x ∈ l, p x = false) ∨ ∃ k, ∃ hk : k < l.length, ixP p l = (k : Nat) ∧ p l[k] = true ∧ ∀ j (hj : j < l.length), j < k → p l[j] = false
  | [] => .inl ⟨rfl, by simp⟩
  | x :: r => by
    cases hx : p x with
    | true =>
      refine .inr ⟨0, by simp, ?_, by simpa using hx, by simp⟩
      simp [ixP, hx]
    | false =>
      rcases ixP_spec p r with ⟨h1, h2⟩ | ⟨k, hk, h1, h2, h3⟩
      · refine .inl ⟨?_, ?_⟩
        · simp only [ixP, hx, h1]; rfl
        · intro y hy
          rcases List.mem_cons.1 hy with rfl | hy
          · exact hx
          · exact h2 y hy
      · refine .inr ⟨k + 1, by simpa using hk, ?_, by simpa using h2, ?_⟩
        · simp only [ixP, hx, h1]
          show ((k : Int) + 1 = _)
          omega
        · intro j hj hlt
          cases j with
          | zero => simpa using hx
          | succ j => simpa using h3 j (by simpa using hj) (by omega)
theorem ixP_ge {α : Type} (p : α → Bool) (l : List α) : decide (ixP p l ≥ 0) = l.any p := by
  rw [Bool.eq_iff_iff]
  simp only [decide_eq_true_eq, List.any_eq_true]
  rcases ixP_spec p l with ⟨h1, h2⟩ | ⟨k, hk, h1, h2, h3⟩
  · rw [h1]
    constructor
    · intro h; omega
    · rintro ⟨x, hx, hp⟩; rw [h2 x hx] at hp; cases hp
  · rw [h1]
    exact ⟨fun _ => ⟨l[k], List.getElem_mem hk, h2⟩, fun _ => by omega⟩
/-- the first that is so, from k on -/
theorem ixP_mem {α : Type} (p : α → Bool) {l : List α} (h : 0 ≤ ixP p l) : ∃ hk : (ixP p l).toNat < l.length, p l[(ixP p l).toNat] = true := by
  rcases ixP_spec p l with ⟨h1, _⟩ | ⟨k, hk, h1, h2, h3⟩
  · omega
  · have e : (ixP p l).toNat = k := by omega
    exact ⟨by omega, by simpa [e] using h2⟩

theorem Pl.eta (x : Pl) : (⟨x.node, x.serial⟩ : Pl) = x := rfl
theorem Pl.beq (x y : Pl) : ((x.node == y.node) && (x.serial == y.serial)) = (x == y) := by
  rw [Bool.eq_iff_iff]
  simp only [Bool.and_eq_true, beq_iff_eq]
  cases x; cases y; simp
theorem Pl.beqr (x : Pl) (a b : Int) : ((a == x.node) && (b == x.serial)) = (x == ⟨a, b⟩) := by
  rw [Bool.eq_iff_iff]
  simp only [Bool.and_eq_true, beq_iff_eq]
  cases x; simp; omega
theorem Pl.beql (x : Pl) (a b : Int) : ((x.node == a) && (x.serial == b)) = (x == ⟨a, b⟩) := by
  rw [Bool.eq_iff_iff]
  simp only [Bool.and_eq_true, beq_iff_eq]
  cases x; simp
theorem step_lt {k : Nat} {l : List α} {q : (j : Nat) → j < l.length → Prop} (h : ∀ j (hj : j < l.length), j < k → q j hj) (hk : ∀ (hj : k < l.length), q k hj) : ∀ j (hj : j < l.length), j < k + 1 → q j hj := by
  intro j hj hjk
  rcases Nat.lt_succ_iff_lt_or_eq.1 hjk with hj' | rfl
  · exact h j hj hj'
  · exact hk hj
theorem all_of {l : List α} {q : α → Prop} (h : ∀ j (hj : j < l.length), j < l.length → q l[j]) : ∀ x ∈ l, q x := by
  intro x hx
  obtain ⟨j, hj, rfl⟩ := List.getElem_of_mem hx
  exact h j hj hj
end Go.AX
end
section
/-
  What may be, in plain words: places, fragments, ledgers; write sets.
-/
set_option linter.unusedVariables false
namespace Go.AX
def fromZ (n l m : Int) : Bool := decide (l ≤ n) && decide (n ≤ m)
def mayPl (x : Pl) : Bool := fromZ x.node 1 15 && fromZ x.serial 1 4611686018427387903
def mayFr (w : Int) (f : Fr) : Bool := fromZ f.first 1 9 && (fromZ f.bookies.length w 5 && (f.bookies.all mayPl && decide (f.bookies.map (·.node)).Nodup))
def first1 (l : List Fr) : Bool :=
  match l with
  | [] => false
  | f :: _ => f.first == 1
def mayFrs (w : Int) (l : List Fr) : Bool := fromZ l.length 1 6 && (first1 l && (l.all (mayFr w) && decide (l.Pairwise fun a b => a.first < b.first)))
def mayLg (l : Lg) : Bool := fromZ l.id 1 4611686018427387903 && (fromZ l.a 1 l.w && (decide (l.w ≤ 5) && (mayFrs l.w l.frags && (fromZ l.closed 0 1 && decide (l.last ≤ 8 * l.closed)))))

theorem adj_pairwise {α : Type} {key : α → Int} {l : List α} (h : ∀ j (hj : j + 1 < l.length), key (l[j]'(by omega)) < key l[j + 1]) : l.Pairwise fun a b => key a < key b := by
  rw [List.pairwise_iff_getElem]
  intro i j hi hj hij
  induction j with
  | zero => omega
  | succ j ih =>
    by_cases e : i = j
    · subst e; exact h i hj
    · exact Int.lt_trans (ih (by omega) (by omega)) (h j hj)

def cmpPl (x y : Pl) : Int := Go.Lib.compareInt x.node y.node
def sortA (d : Array Pl) : Array Pl := Go.Sort.pdq (Go.Proofs.ltOf cmpPl) d 0 d.size (Go.Lib.bitLen d.size) true true
def sortPl (l : List Pl) : List Pl := (sortA l.toArray).toList
theorem ltPl (x y : Pl) : Go.Proofs.ltOf cmpPl x y = decide (x.node < y.node) := by
  unfold Go.Proofs.ltOf cmpPl Go.Lib.compareInt
  by_cases h1 : x.node < y.node
  · simp [h1]
  · by_cases h2 : y.node < x.node <;> simp [h1, h2]
theorem swoPl : Go.Sort.SWO (Go.Proofs.ltOf cmpPl) where
  irrefl x := by rw [ltPl]; simp
  trans x y z h1 h2 := by rw [ltPl] at *; simp at *; omega
  ntrans x y z h1 h2 := by rw [ltPl] at *; simp at *; omega
theorem sortA_sorts (d : Array Pl) : Go.Sort.PermIn 0 d.size d (sortA d) ∧ Go.Sort.SortedIn (Go.Proofs.ltOf cmpPl) 0 d.size (sortA d) :=
  Go.Sort.pdq_sorts (Go.Proofs.ltOf cmpPl) swoPl d 0 d.size (Go.Lib.bitLen d.size) true true (Nat.zero_le _) (Nat.le_refl _) (Or.inl rfl)
theorem sortA_size (d : Array Pl) : (sortA d).size = d.size := (sortA_sorts d).1.1
theorem sortPl_perm (l : List Pl) : (sortPl l).Perm l := by
  have h := (sortA_sorts l.toArray).1
  have h1 := h.1
  have h2 := h.2.2
  rw [show (sortA l.toArray).extract 0 l.toArray.size = sortA l.toArray from by rw [← h1]; simp, show l.toArray.extract 0 l.toArray.size = l.toArray from by simp] at h2
  exact h2
theorem sortPl_sorted (l : List Pl) : (sortPl l).Pairwise fun a b => a.node ≤ b.node := by
  have h := (sortA_sorts l.toArray).2
  have h1 := sortA_size l.toArray
  rw [List.pairwise_iff_getElem]
  intro i j hi hj hij
  simp only [sortPl, Array.length_toList] at hi hj
  have := h i j (Nat.zero_le _) hij (by omega)
  rw [ltPl, getElem!_pos (sortA l.toArray) j hj, getElem!_pos (sortA l.toArray) i hi] at this
  simp only [sortPl, Array.getElem_toList]
  simp at this
  exact this
theorem sortPl_rise (l : List Pl) : decide ((sortPl l).Pairwise fun a b => a.node < b.node) = decide (l.map (·.node)).Nodup := by
  rw [decide_eq_decide]
  have hp := (sortPl_perm l).map (·.node)
  rw [← hp.nodup_iff]
  unfold List.Nodup
  rw [List.pairwise_map]
  constructor
  · intro h; exact h.imp fun {a b} h => by omega
  · intro h; exact ((sortPl_sorted l).and h).imp fun {a b} h => by omega
def Lg.ok (l : Lg) : Prop := ∀ x ∈ l.frags, x.bookies.length ≤ 8796093022208
end Go.AX
end
section
/-
  Write sets and fetches, in plain words.
-/
set_option linter.unusedVariables false
namespace Go.AX
variable {α : Type}
def Fr.ok (f : Fr) : Prop := 0 ≤ f.first ∧ f.first ≤ 18446744073709551615 ∧ f.bookies.length ≤ 8796093022208
def frsOk (l : List Fr) : Prop := ∀ x ∈ l, x.ok
/-- the last that is so -/
def lastP (p : α → Bool) (l : List α) : Option α := l.foldl (fun o x => if p x then some x else o) none
theorem take_foldl {β : Type} (f : β → α → β) (a : β) (l : List α) (k : Nat) (h : k < l.length) : (l.take (k + 1)).foldl f a = f ((l.take k).foldl f a) l[k] := by
  rw [List.take_succ_eq_append_getElem h, List.foldl_append]; rfl
theorem lastP_mem (p : α → Bool) : ∀ (l : List α) (x : α), lastP p l = some x → x ∈ l ∧ p x = true := by
  have : ∀ (l : List α) (o : Option α) (x : α), l.foldl (fun o x => if p x then some x else o) o = some x → (x ∈ l ∧ p x = true) ∨ o = some x := by
    intro l
    induction l with
    | nil => intro o x h; exact .inr h
    | cons y l ih =>
      intro o x h
      rcases ih _ x h with ⟨h1, h2⟩ | h1
      · exact .inl ⟨by simp [h1], h2⟩
      · simp only at h1
        split at h1
        · simp only [Option.some.injEq] at h1; subst h1; rename_i hp; exact .inl ⟨by simp, hp⟩
        · exact .inr h1
  intro l x h
  rcases this l none x h with h | h
  · exact h
  · cases h
def fragAt (l : List Fr) (n : Int) : Option Fr := lastP (fun f => decide (f.first ≤ n)) l
def fr0 : Fr := ⟨0, []⟩
def fromPl (l : List Pl) (k w : Nat) : List Pl := (List.range w).map fun i => l[(k + i) % l.length]!
def setOf (l : List Fr) (w n : Int) : List Pl :=
  match fragAt l n with
  | none => []
  | some f => if 1 ≤ w ∧ w ≤ f.bookies.length then fromPl f.bookies ((n - f.first) % f.bookies.length).toNat w.toNat else []
theorem fragAt_ok {l : List Fr} (h : frsOk l) {n : Int} {f : Fr} (hf : fragAt l n = some f) : f.ok ∧ f.first ≤ n := by
  obtain ⟨h1, h2⟩ := lastP_mem _ _ _ hf
  exact ⟨h f h1, by simpa using h2⟩
theorem fragAt_len {l : List Fr} (h : frsOk l) (n : Int) : ((fragAt l n).getD fr0).bookies.length ≤ 8796093022208 := by
  cases hf : fragAt l n with
  | none => simp [fr0]
  | some f => exact (fragAt_ok h hf).1.2.2

/-! ### fetches -/
def askedP (f : Ft) : Pl := if f.at_ < 0 ∨ f.at_ ≥ f.set.length then ⟨0, 0⟩ else f.set[f.at_.toNat]!
def askF (f : Ft) (a now : Int) : Ft := { f with at_ := (max a 0).tmod f.set.length, since := now }
def reqOf (f : Ft) : Rq := { to := f.set[f.at_.toNat]!, kind := 3, ledger := f.ledger, n := f.n, epoch := f.tag, sure := 0, copy := 0, body := [], keep := [] }
def askP (f : Ft) (a now : Int) : Ft × List Rq := if f.set = [] then (f, []) else (askF f a now, [reqOf (askF f a now)])
/-- a fact that is kept out of sight -/
structure Hd (p : Prop) : Prop where
  out : p
theorem askP_cases (f : Ft) (a now : Int) : (Hd (f.set = []) ∧ askP f a now = (f, [])) ∨ (Hd (f.set ≠ []) ∧ askP f a now = (askF f a now, [reqOf (askF f a now)])) := by
  by_cases h : f.set = []
  · exact .inl ⟨⟨h⟩, by simp [askP, h]⟩
  · exact .inr ⟨⟨h⟩, by simp [askP, h]⟩
def ft0 : Ft := ⟨0, 0, [], 0, 0, 0, 0, []⟩
def newP (l : Lg) (n tag now : Int) : Ft × List Rq × Int :=
  if mayLg l && decide (1 ≤ n) && decide (n ≤ 8) && !(l.closed == 1 && decide (n > l.last)) then
    let x := askP { ft0 with ledger := l.id, n := n, tag := tag, set := setOf l.frags l.w n } 0 now
    (x.1, x.2, 0)
  else (ft0, [], 1)
def goneP (now since k : Int) : Bool := decide (max now since - since ≥ k)
def takeP (f : Ft) (now : Int) (r : Rs) : Ft × List Rq :=
  if (f.done == 1) || (r.kind != 3) || (r.ledger != f.ledger) || (r.n != f.n) || (r.epoch != f.tag) then (f, [])
  else if r.code == 0 then (if f.set.any (fun y => y == ⟨r.from_.node, r.from_.serial⟩) then { f with done := 1, body := r.body } else f, [])
  else if (r.code == 3) || (r.code == 2) || (r.code == 1) then (if (r.from_.node == (askedP f).node) && (r.from_.serial == (askedP f).serial) then askP f (f.at_ + 1) now else (f, []))
  else if r.code == 4 then (if r.from_.node == (askedP f).node then askP f (f.at_ + 1) now else (f, []))
  else (f, [])
def tickP (f : Ft) (now : Int) : Ft × List Rq := if (f.done != 1) && decide ((if f.since > now then f.since else now) - f.since ≥ 3) then askP f (f.at_ + 1) now else (f, [])
def movedP (f : Ft) (now : Int) (l : Lg) : Ft × List Rq :=
  if (f.done != 1) && (l.id == f.ledger) && mayLg l && !decide (setOf l.frags l.w f.n = f.set) then askP { f with set := setOf l.frags l.w f.n } 0 now else (f, [])
def sameP (a b : Ft) : Bool := (a.ledger == b.ledger) && (a.n == b.n) && decide (a.set = b.set) && (a.at_ == b.at_) && (a.since == b.since) && (a.tag == b.tag) && (a.done == b.done) && (a.body == b.body)
theorem sameP_iff (a b : Ft) : sameP a b = decide (a = b) := by
  rw [Bool.eq_iff_iff]
  cases a; cases b
  simp [sameP]
  constructor
  · rintro ⟨⟨⟨⟨⟨⟨⟨h1, h2⟩, h3⟩, h4⟩, h5⟩, h6⟩, h7⟩, h8⟩; exact ⟨h1, h2, h3, h4, h5, h6, h7, h8⟩
  · rintro ⟨h1, h2, h3, h4, h5, h6, h7, h8⟩; exact ⟨⟨⟨⟨⟨⟨⟨h1, h2⟩, h3⟩, h4⟩, h5⟩, h6⟩, h7⟩, h8⟩

/-! ### what the references say -/
/-- the index of the last that is so; -1: there is none -/
def lastIx (p : α → Bool) : List α → Int
  | [] => -1
  | x :: r => match lastIx p r with
    | .ofNat n => n + 1
    | .negSucc _ => if p x then 0 else -1
theorem lastIx_none (p : α → Bool) : ∀ {l : List α}, (∀ x ∈ l, p x = false) → lastIx p l = -1
  | [], _ => rfl
  | x :: r, h => by
    have e := lastIx_none p (l := r) fun y hy => h y (by simp [hy])
    simp only [lastIx, e, h x (by simp)]
    rfl
theorem lastIx_at (p : α → Bool) : ∀ {l : List α} {k : Nat} (hk : k < l.length), (∀ j (hj : j < l.length), k < j → p l[j] = false) → p l[k] = true → lastIx p l = k
  | [], k, hk, _, _ => by simp at hk
  | x :: r, 0, _, h, h' => by
    have e := lastIx_none p (l := r) fun y hy => by
      obtain ⟨j, hj, rfl⟩ := List.getElem_of_mem hy
      have := h (j + 1) (by simpa using hj) (by omega)
      simpa using this
    simp only [List.getElem_cons_zero] at h'
    simp only [lastIx, e, h']
    rfl
  | x :: r, k + 1, hk, h, h' => by
    simp only [List.getElem_cons_succ] at h'
    have e := lastIx_at p (l := r) (k := k) (by simpa using hk) (fun j hj hlt => by
      have := h (j + 1) (by simpa using hj) (by omega)
      simpa using this) h'
    simp only [lastIx, e]
    show ((k : Int) + 1 = _)
    omega
theorem lastP_cons (p : α → Bool) (x : α) (r : List α) : lastP p (x :: r) = (lastP p r).or (if p x then some x else none) := by
  have : ∀ (l : List α) (o : Option α), l.foldl (fun o x => if p x then some x else o) o = (l.foldl (fun o x => if p x then some x else o) none).or o := by
    intro l
    induction l with
    | nil => intro o; simp
    | cons y l ih =>
      intro o
      simp only [List.foldl_cons]
      rw [ih, ih (if p y then some y else none)]
      split <;> simp
  simp only [lastP, List.foldl_cons]
  rw [this]
theorem lastIx_lastP (p : α → Bool) : ∀ (l : List α), (lastIx p l = -1 ∧ lastP p l = none) ∨ ∃ k, ∃ hk : k < l.length, lastIx p l = (k : Nat) ∧ lastP p l = some l[k]
  | [] => .inl ⟨rfl, rfl⟩
  | x :: r => by
    rw [lastP_cons]
    rcases lastIx_lastP p r with ⟨h1, h2⟩ | ⟨k, hk, h1, h2⟩
    · cases hx : p x with
      | true =>
        refine .inr ⟨0, by simp, ?_, by simp [h2]⟩
        simp only [lastIx, h1, hx]; rfl
      | false =>
        refine .inl ⟨?_, by simp [h2]⟩
        simp only [lastIx, h1, hx]; rfl
    · refine .inr ⟨k + 1, by simpa using hk, ?_, by simp [h2]⟩
      simp only [lastIx, h1]
      show ((k : Int) + 1 = _)
      omega
/-- a fragment may be, where it stands -/
def frGood (w : Int) (l : List Fr) (j : Nat) (hj : j < l.length) : Prop :=
  l[j].first ≤ 9 ∧ (∀ h : 0 < j, (l[j - 1]'(by omega)).first < l[j].first) ∧ w ≤ l[j].bookies.length ∧ l[j].bookies.length ≤ 5 ∧ l[j].bookies.all mayPl = true ∧ (l[j].bookies.map (·.node)).Nodup
theorem first1_iff (l : List Fr) : first1 l = true ↔ ∃ h : 0 < l.length, l[0].first = 1 := by
  cases l with
  | nil => simp [first1]
  | cons f r => simp [first1]
theorem mayFrs_iff (w : Int) (l : List Fr) : mayFrs w l = true ↔ 1 ≤ l.length ∧ l.length ≤ 6 ∧ first1 l = true ∧ ∀ j (hj : j < l.length), frGood w l j hj := by
  simp only [mayFrs, Bool.and_eq_true, fromZ, decide_eq_true_eq, List.all_eq_true]
  constructor
  · rintro ⟨⟨h1, h2⟩, h3, h4, h5⟩
    refine ⟨by omega, by omega, h3, fun j hj => ?_⟩
    have := h4 l[j] (List.getElem_mem hj)
    simp only [mayFr, Bool.and_eq_true, fromZ, decide_eq_true_eq, List.all_eq_true] at this
    obtain ⟨⟨a1, a2⟩, ⟨a3, a4⟩, a5, a6⟩ := this
    refine ⟨a2, fun h => ?_, a3, by omega, List.all_eq_true.2 a5, a6⟩
    exact List.pairwise_iff_getElem.1 h5 (j - 1) j (by omega) hj (by omega)
  · rintro ⟨h1, h2, h3, h4⟩
    refine ⟨⟨by omega, by omega⟩, h3, fun x hx => ?_, ?_⟩
    · obtain ⟨j, hj, rfl⟩ := List.getElem_of_mem hx
      obtain ⟨a2, a1, a3, a4, a5, a6⟩ := h4 j hj
      simp only [mayFr, Bool.and_eq_true, fromZ, decide_eq_true_eq]
      refine ⟨⟨?_, a2⟩, ⟨a3, by omega⟩, a5, a6⟩
      obtain ⟨h0, e0⟩ := (first1_iff l).1 h3
      have : ∀ j (hj : j < l.length), 1 ≤ l[j].first := by
        intro j
        induction j with
        | zero => intro hj; omega
        | succ j ih =>
          intro hj
          have := ih (by omega)
          have := (h4 (j + 1) hj).2.1 (by omega)
          simp only [Nat.add_sub_cancel] at this
          omega
      exact this j hj
    · exact adj_pairwise (key := fun f : Fr => f.first) fun j hj => by
        have := (h4 (j + 1) hj).2.1 (by omega)
        simp only [Nat.add_sub_cancel] at this
        exact this
theorem mayFrs_not {w : Int} {l : List Fr} {j : Nat} (hj : j < l.length) (h : ¬ frGood w l j hj) : mayFrs w l = false := by
  cases e : mayFrs w l with
  | false => rfl
  | true => exact absurd (((mayFrs_iff w l).1 e).2.2.2 j hj) h
/-- places of which the first k are well, and apart -/
theorem nodup_take {l : List Pl} {k : Nat} (hk : k < l.length) (h : ((l.take k).map (·.node)).Nodup) (h' : ∀ i (hi : i < l.length), i < k → l[i].node ≠ l[k].node) : ((l.take (k + 1)).map (·.node)).Nodup := by
  rw [List.take_succ_eq_append_getElem hk, List.map_append]
  rw [List.nodup_append]
  refine ⟨h, by simp, ?_⟩
  intro a ha b hb
  simp only [List.map_cons, List.map_nil, List.mem_singleton] at hb
  subst hb
  obtain ⟨x, hx, rfl⟩ := List.mem_map.1 ha
  obtain ⟨i, hi, rfl⟩ := List.getElem_of_mem hx
  rw [List.length_take] at hi
  rw [List.getElem_take]
  exact h' i (by omega) (by omega)
theorem fragAt_may {w n : Int} {l : List Fr} (h : mayFrs w l = true) (hn : 1 ≤ n) : ∃ f, fragAt l n = some f ∧ f ∈ l := by
  obtain ⟨h1, h2, h3, h4⟩ := (mayFrs_iff w l).1 h
  obtain ⟨h0, e0⟩ := (first1_iff l).1 h3
  cases hf : fragAt l n with
  | some f => exact ⟨f, rfl, (lastP_mem _ _ _ hf).1⟩
  | none =>
    exfalso
    have : ∀ (l : List Fr), lastP (fun f : Fr => decide (f.first ≤ n)) l = none → ∀ x ∈ l, ¬ x.first ≤ n := by
      intro l
      induction l with
      | nil => intro _ x hx; simp at hx
      | cons y l ih =>
        intro hn x hx
        rw [lastP_cons] at hn
        simp only [Option.or_eq_none_iff] at hn
        rcases List.mem_cons.1 hx with rfl | hx
        · intro hle
          have := hn.2
          simp [hle] at this
        · exact ih hn.1 x hx
    exact this l hf l[0] (List.getElem_mem h0) (by omega)
/-- a ledger that may be has write sets -/
theorem setOf_len {l : Lg} (h : mayLg l = true) {n : Int} (hn : 1 ≤ n) : (setOf l.frags l.w n).length = l.w.toNat ∧ 1 ≤ l.w ∧ l.w ≤ 5 := by
  simp only [mayLg, Bool.and_eq_true, fromZ, decide_eq_true_eq] at h
  obtain ⟨⟨a1, a2⟩, ⟨a3, a4⟩, a5, a6, ⟨a7, a8⟩, a9⟩ := h
  obtain ⟨f, hf, hm⟩ := fragAt_may a6 hn
  obtain ⟨j, hj, rfl⟩ := List.getElem_of_mem hm
  have g := ((mayFrs_iff _ _).1 a6).2.2.2 j hj
  refine ⟨?_, by omega, a5⟩
  simp only [setOf, hf]
  rw [if_pos ⟨by omega, g.2.2.1⟩]
  simp [fromPl]
theorem mod_succ (a n : Nat) (h : 0 < n) : (a + 1) % n = if a % n + 1 = n then 0 else a % n + 1 := by
  have h1 := Nat.div_add_mod a n
  have h2 := Nat.mod_lt a h
  split
  · rename_i e
    have : a + 1 = n * (a / n + 1) := by rw [Nat.mul_add]; omega
    rw [this, Nat.mul_mod_right]
  · have : a + 1 = n * (a / n) + (a % n + 1) := by omega
    rw [this, Nat.mul_add_mod, Nat.mod_eq_of_lt (by omega)]
end Go.AX
end
section
/-
  The reader's laws: what a call does to a fetch.
-/
set_option linter.unusedVariables false
namespace Go.AX
/-- a call of a fetch -/
structure Cl where
  what : Int
  own : Int
  now : Int
  r : Rs
  l : Lg
deriving DecidableEq, Inhabited
def Cl.c (x : Cl) : List PV := [ii x.what, ii x.own, uu x.now, ii x.r.from_.node, uu x.r.from_.serial, ii x.r.kind, ii x.r.code, uu x.r.ledger, uu x.r.n, uu x.r.epoch, uu x.r.sure, bys x.r.body,
  uu x.l.id, ii x.l.w, ii x.l.a, slF x.l.frags, ii x.l.closed, uu x.l.last]
def slC (l : List Cl) : PV := .sl false 18 (l.map Cl.c)
def longF (l : List Fr) : Bool := decide (l.length > 30) || l.any fun f => decide ((f.bookies.length : Int) > 30)
def heavyC (c : Cl) : Bool := decide ((c.r.body.length : Int) > 5000) || longF c.l.frags
def heavyR (x : Lg) (l : List Cl) : Bool := decide (l.length > 200) || (longF x.frags || l.any heavyC)

/-- what is in range -/
def u64R (n : Int) : Prop := 0 ≤ n ∧ n ≤ 18446744073709551615
def i64R (n : Int) : Prop := -9223372036854775808 ≤ n ∧ n ≤ 9223372036854775807
def lgR (l : Lg) : Prop := u64R l.id ∧ i64R l.w ∧ i64R l.a ∧ i64R l.closed ∧ u64R l.last ∧ ∀ f ∈ l.frags, u64R f.first
def clR (c : Cl) : Prop := i64R c.what ∧ i64R c.own ∧ u64R c.now ∧ lgR c.l
theorem frsOk_of {l : Lg} (h : lgR l) (hl : longF l.frags = false) : frsOk l.frags ∧ l.ok := by
  simp only [longF, Bool.or_eq_false_iff, List.any_eq_false, decide_eq_true_eq] at hl
  refine ⟨fun f hf => ?_, fun f hf => ?_⟩
  · have := h.2.2.2.2.2 f hf
    have := hl.2 f hf
    exact ⟨by simp only [u64R] at *; omega, by simp only [u64R] at *; omega, by omega⟩
  · have := hl.2 f hf
    omega

structure GoodF (n : Int) (f : Ft) : Prop where
  n : f.n = n
  pos : 0 < f.set.length
  len : f.set.length ≤ 5
  at0 : 0 ≤ f.at_
  at1 : f.at_ < f.set.length
  body : f.body.length ≤ 5000
  since : u64R f.since
  done : f.done = 0 ∨ f.done = 1
theorem GoodF.sm {n : Int} {f : Ft} (h : GoodF n f) : f.set.length ≤ 8796093022208 ∧ f.body.length ≤ 140737488355328 := ⟨by have := h.len; omega, by have := h.body; omega⟩

structure StepOK (n : Int) (f F : Ft) (Q : List Rq) (d : Prop) : Prop where
  good : GoodF n F
  stays : f.done = 1 → F = f ∧ Q = []
  asks : Q = [] ∨ ∃ r, Q = [r] ∧ r.to = F.set[F.at_.toNat]! ∧ r.n = n
  takes : F.done = 1 → f.done = 0 → d

theorem askF_good {n : Int} {f : Ft} {a now : Int} (hn : f.n = n) (hp : 0 < f.set.length) (hl : f.set.length ≤ 5) (hb : f.body.length ≤ 5000) (hd : f.done = 0 ∨ f.done = 1) (hnow : u64R now) : GoodF n (askF f a now) := by
  have h0 : 0 ≤ (max a 0).tmod f.set.length := Int.tmod_nonneg _ (by omega)
  have h1 : (max a 0).tmod f.set.length < f.set.length := by
    rw [Int.tmod_eq_emod_of_nonneg (by omega)]
    exact Int.emod_lt_of_pos _ (by omega)
  exact ⟨hn, hp, hl, h0, h1, hb, hnow, hd⟩
theorem askP_ok {n : Int} {f : Ft} {a now : Int} (d : Prop) {g : Ft} (hn : f.n = n) (hp : 0 < f.set.length) (hl : f.set.length ≤ 5) (hb : f.body.length ≤ 5000) (hd : f.done = 0) (hnow : u64R now) (hg : g.done ≠ 1) :
    StepOK n g (askP f a now).1 (askP f a now).2 d := by
  have hne : f.set ≠ [] := List.length_pos_iff.1 hp
  simp only [askP, hne, if_false]
  exact ⟨askF_good hn hp hl hb (.inl hd) hnow, fun h => absurd h hg, .inr ⟨_, rfl, rfl, hn⟩, fun h => absurd h (by simp only [askF, hd]; decide)⟩
theorem same_ok {n : Int} {f : Ft} (d : Prop) (h : GoodF n f) : StepOK n f f [] d := ⟨h, fun _ => ⟨rfl, rfl⟩, .inl rfl, fun h1 h2 => by rw [h1] at h2; cases h2⟩

theorem takeP_ok {n : Int} {f : Ft} (h : GoodF n f) {now : Int} (hnow : u64R now) (r : Rs) (hr : r.body.length ≤ 5000) :
    StepOK n f (takeP f now r).1 (takeP f now r).2 (f.set.any (fun y => y == r.from_) = true) := by
  have hask : f.done ≠ 1 → StepOK n f (askP f (f.at_ + 1) now).1 (askP f (f.at_ + 1) now).2 (f.set.any (fun y => y == r.from_) = true) :=
    fun hd => askP_ok _ h.n h.pos h.len h.body (h.done.resolve_right hd) hnow hd
  unfold takeP
  split
  · exact same_ok _ h
  · rename_i hc
    have hd : f.done ≠ 1 := by intro e; simp [e] at hc
    split
    · split
      · rename_i hany
        exact ⟨⟨h.n, h.pos, h.len, h.at0, h.at1, hr, h.since, .inr rfl⟩, fun e => absurd e hd, .inl rfl, fun _ _ => hany⟩
      · exact same_ok _ h
    · split
      · split
        · exact hask hd
        · exact same_ok _ h
      · split
        · split
          · exact hask hd
          · exact same_ok _ h
        · exact same_ok _ h
theorem tickP_ok {n : Int} {f : Ft} (h : GoodF n f) {now : Int} (hnow : u64R now) (d : Prop) : StepOK n f (tickP f now).1 (tickP f now).2 d := by
  unfold tickP
  generalize (if f.since > now then f.since else now) = m
  split
  · rename_i hc
    have hd : f.done ≠ 1 := by intro e; simp [e] at hc
    exact askP_ok _ h.n h.pos h.len h.body (h.done.resolve_right hd) hnow hd
  · exact same_ok _ h
theorem movedP_ok {n : Int} {f : Ft} (h : GoodF n f) {now : Int} (hnow : u64R now) (l : Lg) (hn : 1 ≤ n) (d : Prop) : StepOK n f (movedP f now l).1 (movedP f now l).2 d := by
  unfold movedP
  split
  · rename_i hc
    simp only [Bool.and_eq_true, bne_iff_ne, ne_eq] at hc
    obtain ⟨⟨⟨hd, _⟩, hm⟩, _⟩ := hc
    have := setOf_len hm (n := f.n) (by rw [h.n]; exact hn)
    exact askP_ok (f := { f with set := setOf l.frags l.w f.n }) _ h.n (by simp only; omega) (by simp only; omega) h.body (h.done.resolve_right hd) hnow hd
  · exact same_ok _ h
theorem newP_good {l : Lg} {n tag now : Int} (h : (newP l n tag now).2.2 = 0) (hnow : u64R now) : GoodF n (newP l n tag now).1 ∧ 1 ≤ n ∧ n ≤ 8 ∧ mayLg l = true ∧ (newP l n tag now).1.done = 0 ∧
    (newP l n tag now).1 = askF { ft0 with ledger := l.id, n := n, tag := tag, set := setOf l.frags l.w n } 0 now ∧ (newP l n tag now).2.1 = [reqOf (askF { ft0 with ledger := l.id, n := n, tag := tag, set := setOf l.frags l.w n } 0 now)] := by
  unfold newP at h ⊢
  split at h
  · rename_i hc
    rw [if_pos hc]
    simp only [Bool.and_eq_true, decide_eq_true_eq] at hc
    obtain ⟨⟨⟨hm, h1⟩, h8⟩, _⟩ := hc
    have hs := setOf_len hm h1
    have hne : setOf l.frags l.w n ≠ [] := by intro e; rw [e] at hs; simp at hs; omega
    refine ⟨?_, h1, h8, hm, ?_, ?_, ?_⟩
    · simp only [askP, hne, if_false]
      exact askF_good rfl (by simp only; omega) (by simp only; omega) (by simp [ft0]) (.inl rfl) hnow
    all_goals
      simp only [askP, hne, if_false]
    rfl
  · simp at h
end Go.AX
end
section
/-
  The reader's laws: requests keep nothing; what is too much.
-/
set_option linter.unusedVariables false
namespace Go.AX
def QK (Q : List Rq) : Prop := ∀ x ∈ Q, x.keep.length ≤ 9223372036854775807
theorem askP_keep (f : Ft) (a now : Int) : QK (askP f a now).2 := by
  unfold askP QK
  split <;> simp [reqOf]
theorem takeP_keep (f : Ft) (now : Int) (r : Rs) : QK (takeP f now r).2 := by
  unfold takeP
  repeat' split
  all_goals first
    | exact askP_keep _ _ _
    | (intro x hx; simp at hx)
theorem tickP_keep (f : Ft) (now : Int) : QK (tickP f now).2 := by
  unfold tickP
  generalize (if f.since > now then f.since else now) = m
  split
  · exact askP_keep _ _ _
  · intro x hx; simp at hx
theorem movedP_keep (f : Ft) (now : Int) (l : Lg) : QK (movedP f now l).2 := by
  unfold movedP
  split
  · exact askP_keep _ _ _
  · intro x hx; simp at hx
theorem newP_keep (l : Lg) (n tag now : Int) : QK (newP l n tag now).2.1 := by
  unfold newP
  split
  · exact askP_keep _ _ _
  · intro x hx; simp at hx
theorem heavyR_false {x : Lg} {l : List Cl} (h : heavyR x l = false) : l.length ≤ 200 ∧ longF x.frags = false ∧ ∀ c ∈ l, c.r.body.length ≤ 5000 ∧ longF c.l.frags = false := by
  simp only [heavyR, heavyC, Bool.or_eq_false_iff, List.any_eq_false, decide_eq_false_iff_not, Bool.not_eq_true] at h
  refine ⟨by omega, h.2.1, fun c hc => ?_⟩
  have := h.2.2 c hc
  exact ⟨by omega, this.2⟩
def ovR (x : Lg) (n tag : Int) (c : Cl) : Rs := { c.r with kind := 3, ledger := x.id, n := n, epoch := tag }
def ovL (x : Lg) (c : Cl) : Lg := { c.l with id := x.id }
end Go.AX
end
section
/-
  The reader's round: that it ends, in plain words.
-/
set_option linter.unusedVariables false
namespace Go.AX
def Pend (f : Ft) (q : List Rq) : Prop := q = [] ∨ q = [reqOf f]
theorem askP_pend {f : Ft} (h : 0 < f.set.length) (a now : Int) : askP f a now = (askF f a now, [reqOf (askF f a now)]) := by
  have : f.set ≠ [] := List.length_pos_iff.1 h
  simp [askP, this]
theorem newP_pend {l : Lg} {n tag now : Int} (h : (newP l n tag now).2.2 = 0) (hnow : u64R now) : (newP l n tag now).1.set = setOf l.frags l.w n ∧ (newP l n tag now).1.since = now ∧ Pend (newP l n tag now).1 (newP l n tag now).2.1 := by
  obtain ⟨_, _, _, _, _, h1, h2⟩ := newP_good h hnow
  rw [h1, h2]
  exact ⟨rfl, rfl, .inr rfl⟩
theorem tickP_cases {n : Int} {f : Ft} (h : GoodF n f) (hd : f.done = 0) {now : Int} (hs : f.since ≤ now) :
    (now - f.since ≥ 3 ∧ tickP f now = (askF f (f.at_ + 1) now, [reqOf (askF f (f.at_ + 1) now)])) ∨ (now - f.since < 3 ∧ tickP f now = (f, [])) := by
  unfold tickP
  rw [if_neg (show ¬ f.since > now by omega)]
  by_cases h3 : now - f.since ≥ 3
  · left
    refine ⟨h3, ?_⟩
    rw [if_pos (by simp [hd, h3]), askP_pend h.pos]
  · right
    exact ⟨by omega, by rw [if_neg (by simp [h3])]⟩
theorem tickP_any {n : Int} {f : Ft} (h : GoodF n f) (hd : f.done = 0) {now : Int} (hnow : u64R now) {m : Int} (hs : f.since ≤ m) (hnm : now ≤ m) {q : List Rq} :
    GoodF n (tickP f now).1 ∧ (tickP f now).1.done = 0 ∧ (tickP f now).1.set = f.set ∧ (tickP f now).1.since ≤ m ∧ Pend (tickP f now).1 (tickP f now).2 := by
  refine ⟨(tickP_ok h hnow True).good, ?_⟩
  unfold tickP
  generalize (if f.since > now then f.since else now) = z
  split
  · rw [askP_pend h.pos]
    exact ⟨hd, rfl, hnm, .inr rfl⟩
  · exact ⟨hd, rfl, hs, .inl rfl⟩
theorem tickP_done {f : Ft} (h : f.done = 1) (now : Int) : tickP f now = (f, []) := by
  unfold tickP
  simp [h]
theorem at_succ {n : Int} {f : Ft} (h : GoodF n f) {j : Nat} (hj : f.at_ = ((j % f.set.length : Nat) : Int)) (now : Int) : (askF f (f.at_ + 1) now).at_ = (((j + 1) % f.set.length : Nat) : Int) := by
  have hl := h.pos
  simp only [askF]
  rw [hj, show max (((j % f.set.length : Nat) : Int) + 1) 0 = ((j % f.set.length + 1 : Nat) : Int) from by omega, ← Int.ofNat_tmod]
  congr 1
  rw [Nat.mod_add_mod]
def ansR (f : Ft) (q : Rq) (has : Pl) (entry : List UInt8) : Rs := if q.to = has then ⟨q.to, q.kind, 0, q.ledger, q.n, q.epoch, 0, entry⟩ else ⟨q.to, q.kind, 3, q.ledger, q.n, q.epoch, 0, []⟩
theorem take_has {n : Int} {f : Ft} (h : GoodF n f) (hd : f.done = 0) (now : Int) (entry : List UInt8) :
    takeP f now ⟨(reqOf f).to, (reqOf f).kind, 0, (reqOf f).ledger, (reqOf f).n, (reqOf f).epoch, 0, entry⟩ = ({ f with done := 1, body := entry }, []) := by
  have hlt : f.at_.toNat < f.set.length := by have := h.at0; have := h.at1; omega
  unfold takeP
  rw [if_neg (by simp [reqOf, hd])]
  have : (f.set.any fun y => y == ⟨(reqOf f).to.node, (reqOf f).to.serial⟩) = true := by
    rw [List.any_eq_true]
    refine ⟨f.set[f.at_.toNat], List.getElem_mem hlt, ?_⟩
    have e : (reqOf f).to = f.set[f.at_.toNat] := getElem!_pos f.set f.at_.toNat hlt
    rw [e]
    simp
  simp only [this]
  rfl
theorem take_not {n : Int} {f : Ft} (h : GoodF n f) (hd : f.done = 0) (now : Int) (b : List UInt8) :
    takeP f now ⟨(reqOf f).to, (reqOf f).kind, 3, (reqOf f).ledger, (reqOf f).n, (reqOf f).epoch, 0, b⟩ = (askF f (f.at_ + 1) now, [reqOf (askF f (f.at_ + 1) now)]) := by
  have h0 := h.at0
  have h1 := h.at1
  unfold takeP
  rw [if_neg (by simp [reqOf, hd])]
  have e : askedP f = (reqOf f).to := by
    simp only [askedP, reqOf]
    rw [if_neg (by omega)]
  rw [if_neg (by simp), if_pos (by simp), if_pos (by rw [e]; simp), askP_pend h.pos]
/-- among L places one behind the other each is met -/
theorem meets {a0 h L : Nat} (ha : a0 < L) (hh : h < L) : ∃ i, 1 ≤ i ∧ i ≤ L ∧ (a0 + i) % L = h := by
  by_cases c : a0 < h
  · exact ⟨h - a0, by omega, by omega, by rw [show a0 + (h - a0) = h by omega]; exact Nat.mod_eq_of_lt hh⟩
  · exact ⟨h + L - a0, by omega, by omega, by rw [show a0 + (h + L - a0) = h + L by omega, Nat.add_mod_right]; exact Nat.mod_eq_of_lt hh⟩
/-- the round under way, nothing found yet: k rounds, J asks since it began; pend: the last ask is not yet answered -/
structure Und (n : Int) (S : List Pl) (a0 : Nat) (has : Pl) (f : Ft) (now : Int) (J : Nat) (pend : Bool) : Prop where
  good : GoodF n f
  done : f.done = 0
  set : f.set = S
  at_ : f.at_ = (((a0 + J) % S.length : Nat) : Int)
  since : f.since ≤ now
  seen : ∀ i, 1 ≤ i → i ≤ J → (i < J ∨ pend = false) → S[(a0 + i) % S.length]! ≠ has
/-- and of time -/
def Late (k J : Nat) (e : Int) : Prop := (k : Int) ≤ 3 * J + 2 ∧ (k : Int) ≤ 3 * J + e
theorem Und.bound {n : Int} {S : List Pl} {a0 : Nat} {f : Ft} {now : Int} {J h : Nat} (u : Und n S a0 S[h]! f now J false) (ha : a0 < S.length) (hh : h < S.length) : J + 1 ≤ S.length := by
  by_cases c : J + 1 ≤ S.length
  · exact c
  · obtain ⟨i, h1, h2, h3⟩ := meets ha hh
    exact absurd (by rw [h3]) (u.seen i h1 (by omega) (.inr rfl))
theorem Und.bound1 {n : Int} {S : List Pl} {a0 : Nat} {f : Ft} {now : Int} {J h : Nat} {p : Bool} (u : Und n S a0 S[h]! f now J p) (ha : a0 < S.length) (hh : h < S.length) : J ≤ S.length := by
  by_cases c : J ≤ S.length
  · exact c
  · obtain ⟨i, h1, h2, h3⟩ := meets ha hh
    exact absurd (by rw [h3]) (u.seen i h1 (by omega) (.inl (by omega)))
theorem Und.ask {n : Int} {S : List Pl} {a0 : Nat} {has : Pl} {f : Ft} {now now' : Int} {J : Nat} (u : Und n S a0 has f now J false) (hnow : u64R now') : Und n S a0 has (askF f (f.at_ + 1) now') now' (J + 1) true := by
  have hs := u.set
  refine ⟨askF_good u.good.n u.good.pos u.good.len u.good.body u.good.done hnow, u.done, u.set, ?_, Int.le_refl _, fun i h1 h2 h3 => u.seen i h1 (by rcases h3 with h3 | h3; (omega); (cases h3)) (.inr rfl)⟩
  have := at_succ u.good (j := a0 + J) (by rw [u.at_, hs]) now'
  rw [this, hs]
  rfl
theorem Und.passed {n : Int} {S : List Pl} {a0 : Nat} {has : Pl} {f : Ft} {now : Int} {J : Nat} (u : Und n S a0 has f now J true) (hne : (reqOf f).to ≠ has) : Und n S a0 has f now J false := by
  refine ⟨u.good, u.done, u.set, u.at_, u.since, fun i h1 h2 h3 => ?_⟩
  by_cases c : i < J
  · exact u.seen i h1 h2 (.inl c)
  · have e : i = J := by omega
    subst e
    intro hx
    apply hne
    simp only [reqOf, u.set, u.at_, Int.toNat_natCast]
    exact hx
theorem eqPl (a b : Pl) : ((a.node == b.node) && (a.serial == b.serial)) = decide (a = b) := by
  obtain ⟨a1, a2⟩ := a
  obtain ⟨b1, b2⟩ := b
  rw [Bool.eq_iff_iff]
  simp
end Go.AX
end
