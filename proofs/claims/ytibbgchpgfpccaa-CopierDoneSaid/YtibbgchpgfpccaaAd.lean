/-
  Conditions: none. This text holds: the chapters in plain terms: places, fragments, ledgers, fetches, copiers.
-/
import Derived.Test.YtibbgchpgfpccaaAe
section
/-
  The program's data as plain structures, and how they read as values.
-/
set_option linter.unusedVariables false
universe u
variable {α : Type}
namespace Go.AX
abbrev uu (n : Int) : PV := .sc (.int .u64 n)
abbrev ii (n : Int) : PV := .sc (.int .i64 n)
abbrev bl (b : Bool) : PV := .sc (.bool b)
abbrev nilS : PV := .sc (.slice none 0 0)
abbrev unit : PV := .tup []

structure Pl where
  node : Int
  serial : Int
deriving DecidableEq, Inhabited
def Pl.c (x : Pl) : List PV := [ii x.node, uu x.serial]
def slP (l : List Pl) : PV := .sl false 2 (l.map Pl.c)

structure Fr where
  first : Int
  bookies : List Pl
deriving DecidableEq, Inhabited
def Fr.c (f : Fr) : List PV := [uu f.first, slP f.bookies]
def slF (l : List Fr) : PV := .sl false 2 (l.map Fr.c)

structure Lg where
  id : Int
  w : Int
  a : Int
  frags : List Fr
  closed : Int
  last : Int
deriving DecidableEq, Inhabited
def Lg.c (l : Lg) : List PV := [uu l.id, ii l.w, ii l.a, slF l.frags, ii l.closed, uu l.last]

def bys (l : List UInt8) : PV := .sl false 1 (l.map byteRow)

structure Ft where
  ledger : Int
  n : Int
  set : List Pl
  at_ : Int
  since : Int
  tag : Int
  done : Int
  body : List UInt8
deriving DecidableEq, Inhabited
def Ft.c (f : Ft) : List PV := [uu f.ledger, uu f.n, slP f.set, ii f.at_, uu f.since, uu f.tag, ii f.done, bys f.body]

structure Rq where
  to : Pl
  kind : Int
  ledger : Int
  n : Int
  epoch : Int
  sure : Int
  copy : Int
  body : List UInt8
  keep : List Int
deriving DecidableEq, Inhabited
def uRow (n : Int) : List PV := [uu n]
def slU (l : List Int) : PV := .sl false 1 (l.map uRow)
def Rq.c (r : Rq) : List PV := [ii r.to.node, uu r.to.serial, ii r.kind, uu r.ledger, uu r.n, uu r.epoch, uu r.sure, ii r.copy, bys r.body, slU r.keep]
def slR (l : List Rq) : PV := .sl false 10 (l.map Rq.c)

structure Rs where
  from_ : Pl
  kind : Int
  code : Int
  ledger : Int
  n : Int
  epoch : Int
  sure : Int
  body : List UInt8
deriving DecidableEq, Inhabited
def Rs.c (r : Rs) : List PV := [ii r.from_.node, uu r.from_.serial, ii r.kind, ii r.code, uu r.ledger, uu r.n, uu r.epoch, uu r.sure, bys r.body]

/-! ### plain words -/
/-- the index of the first that is so; -1: there is none -/
def ixP {α : Type} (p : α → Bool) : List α → Int
  | [] => -1
  | x :: r => match p x with
    | true => 0
    | false => match ixP p r with
      | .ofNat n => n + 1
      | .negSucc _ => -1
theorem ixP_none {α : Type} (p : α → Bool) : ∀ {l : List α}, (∀ x ∈ l, p x = false) → ixP p l = -1
  | [], _ => rfl
  | x :: r, h => by
    have e := ixP_none p (l := r) fun y hy => h y (by simp [hy])
    simp only [ixP, h x (by simp), e]
    rfl
theorem ixP_at {α : Type} (p : α → Bool) : ∀ {l : List α} {k : Nat} (hk : k < l.length), (∀ j (hj : j < l.length), j < k → p l[j] = false) → p l[k] = true → ixP p l = k
  | [], k, hk, _, _ => by simp at hk
  | x :: r, 0, _, _, h => by
    simp only [List.getElem_cons_zero] at h
    simp [ixP, h]
  | x :: r, k + 1, hk, h, h' => by
    have h0 := h 0 (by simp) (by omega)
    simp only [List.getElem_cons_zero] at h0
    simp only [List.getElem_cons_succ] at h'
    have := ixP_at p (l := r) (k := k) (by simpa using hk) (fun j hj hlt => by
      have := h (j + 1) (by simpa using hj) (by omega)
      simpa using this) h'
    simp only [ixP, h0, this]
    show ((k : Int) + 1 = _)
    omega
theorem ixP_spec {α : Type} (p : α → Bool) : ∀ (l : List α), (ixP p l = -1 ∧ ∀ x ∈ l, p x = false) ∨ ∃ k, ∃ hk : k < l.length, ixP p l = (k : Nat) ∧ p l[k] = true ∧ ∀ j (hj : j < l.length), j < k → p l[j] = false
  | [] => .inl ⟨rfl, by simp⟩
  | x :: r => by
    cases hx : p x with
    | true =>
      refine .inr ⟨0, by simp, ?_, by simpa using hx, by simp⟩
      simp [ixP, hx]
    | false =>
      rcases ixP_spec p r with ⟨h1, h2⟩ | ⟨k, hk, h1, h2, h3⟩
      · refine .inl ⟨?_, ?_⟩
        · simp only [ixP, hx, h1]; rfl
        · intro y hy
          rcases List.mem_cons.1 hy with rfl | hy
          · exact hx
          · exact h2 y hy
      · refine .inr ⟨k + 1, by simpa using hk, ?_, by simpa using h2, ?_⟩
        · simp only [ixP, hx, h1]
          show ((k : Int) + 1 = _)
          omega
        · intro j hj hlt
          cases j with
          | zero => simpa using hx
          | succ j => simpa using h3 j (by simpa using hj) (by omega)
theorem ixP_ge {α : Type} (p : α → Bool) (l : List α) : decide (ixP p l ≥ 0) = l.any p := by
  rw [Bool.eq_iff_iff]
  simp only [decide_eq_true_eq, List.any_eq_true]
  rcases ixP_spec p l with ⟨h1, h2⟩ | ⟨k, hk, h1, h2, h3⟩
  · rw [h1]
    constructor
    · intro h; omega
    · rintro ⟨x, hx, hp⟩; rw [h2 x hx] at hp; cases hp
  · rw [h1]
    exact ⟨fun _ => ⟨l[k], List.getElem_mem hk, h2⟩, fun _ => by omega⟩
/-- the first that is so, from k on -/
theorem ixP_mem {α : Type} (p : α → Bool) {l : List α} (h : 0 ≤ ixP p l) : ∃ hk : (ixP p l).toNat < l.length, p l[(ixP p l).toNat] = true := by
  rcases ixP_spec p l with ⟨h1, _⟩ | ⟨k, hk, h1, h2, h3⟩
  · omega
  · have e : (ixP p l).toNat = k := by omega
    exact ⟨by omega, by simpa [e] using h2⟩

theorem Pl.eta (x : Pl) : (⟨x.node, x.serial⟩ : Pl) = x := rfl
theorem Pl.beq (x y : Pl) : ((x.node == y.node) && (x.serial == y.serial)) = (x == y) := by
  rw [Bool.eq_iff_iff]
  simp only [Bool.and_eq_true, beq_iff_eq]
  cases x; cases y; simp
theorem Pl.beqr (x : Pl) (a b : Int) : ((a == x.node) && (b == x.serial)) = (x == ⟨a, b⟩) := by
  rw [Bool.eq_iff_iff]
  simp only [Bool.and_eq_true, beq_iff_eq]
  cases x; simp; omega
theorem Pl.beql (x : Pl) (a b : Int) : ((x.node == a) && (x.serial == b)) = (x == ⟨a, b⟩) := by
  rw [Bool.eq_iff_iff]
  simp only [Bool.and_eq_true, beq_iff_eq]
  cases x; simp
theorem step_lt {k : Nat} {l : List α} {q : (j : Nat) → j < l.length → Prop} (h : ∀ j (hj : j < l.length), j < k → q j hj) (hk : ∀ (hj : k < l.length), q k hj) : ∀ j (hj : j < l.length), j < k + 1 → q j hj := by
  intro j hj hjk
  rcases Nat.lt_succ_iff_lt_or_eq.1 hjk with hj' | rfl
  · exact h j hj hj'
  · exact hk hj
theorem all_of {l : List α} {q : α → Prop} (h : ∀ j (hj : j < l.length), j < l.length → q l[j]) : ∀ x ∈ l, q x := by
  intro x hx
  obtain ⟨j, hj, rfl⟩ := List.getElem_of_mem hx
  exact h j hj hj
end Go.AX
end
section
/-
  What may be, in plain words: places, fragments, ledgers; write sets.
-/
set_option linter.unusedVariables false
namespace Go.AX
def fromZ (n l m : Int) : Bool := decide (l ≤ n) && decide (n ≤ m)
def mayPl (x : Pl) : Bool := fromZ x.node 1 15 && fromZ x.serial 1 4611686018427387903
def mayFr (w : Int) (f : Fr) : Bool := fromZ f.first 1 9 && (fromZ f.bookies.length w 5 && (f.bookies.all mayPl && decide (f.bookies.map (·.node)).Nodup))
def first1 (l : List Fr) : Bool :=
  match l with
  | [] => false
  | f :: _ => f.first == 1
def mayFrs (w : Int) (l : List Fr) : Bool := fromZ l.length 1 6 && (first1 l && (l.all (mayFr w) && decide (l.Pairwise fun a b => a.first < b.first)))
def mayLg (l : Lg) : Bool := fromZ l.id 1 4611686018427387903 && (fromZ l.a 1 l.w && (decide (l.w ≤ 5) && (mayFrs l.w l.frags && (fromZ l.closed 0 1 && decide (l.last ≤ 8 * l.closed)))))

theorem adj_pairwise {α : Type} {key : α → Int} {l : List α} (h : ∀ j (hj : j + 1 < l.length), key (l[j]'(by omega)) < key l[j + 1]) : l.Pairwise fun a b => key a < key b := by
  rw [List.pairwise_iff_getElem]
  intro i j hi hj hij
  induction j with
  | zero => omega
  | succ j ih =>
    by_cases e : i = j
    · subst e; exact h i hj
    · exact Int.lt_trans (ih (by omega) (by omega)) (h j hj)

def cmpPl (x y : Pl) : Int := Go.Lib.compareInt x.node y.node
def sortA (d : Array Pl) : Array Pl := Go.Sort.pdq (Go.Proofs.ltOf cmpPl) d 0 d.size (Go.Lib.bitLen d.size) true true
def sortPl (l : List Pl) : List Pl := (sortA l.toArray).toList
theorem ltPl (x y : Pl) : Go.Proofs.ltOf cmpPl x y = decide (x.node < y.node) := by
  unfold Go.Proofs.ltOf cmpPl Go.Lib.compareInt
  by_cases h1 : x.node < y.node
  · simp [h1]
  · by_cases h2 : y.node < x.node <;> simp [h1, h2]
theorem swoPl : Go.Sort.SWO (Go.Proofs.ltOf cmpPl) where
  irrefl x := by rw [ltPl]; simp
  trans x y z h1 h2 := by rw [ltPl] at *; simp at *; omega
  ntrans x y z h1 h2 := by rw [ltPl] at *; simp at *; omega
theorem sortA_sorts (d : Array Pl) : Go.Sort.PermIn 0 d.size d (sortA d) ∧ Go.Sort.SortedIn (Go.Proofs.ltOf cmpPl) 0 d.size (sortA d) :=
  Go.Sort.pdq_sorts (Go.Proofs.ltOf cmpPl) swoPl d 0 d.size (Go.Lib.bitLen d.size) true true (Nat.zero_le _) (Nat.le_refl _) (Or.inl rfl)
theorem sortA_size (d : Array Pl) : (sortA d).size = d.size := (sortA_sorts d).1.1
theorem sortPl_perm (l : List Pl) : (sortPl l).Perm l := by
  have h := (sortA_sorts l.toArray).1
  have h1 := h.1
  have h2 := h.2.2
  rw [show (sortA l.toArray).extract 0 l.toArray.size = sortA l.toArray from by rw [← h1]; simp, show l.toArray.extract 0 l.toArray.size = l.toArray from by simp] at h2
  exact h2
theorem sortPl_sorted (l : List Pl) : (sortPl l).Pairwise fun a b => a.node ≤ b.node := by
  have h := (sortA_sorts l.toArray).2
  have h1 := sortA_size l.toArray
  rw [List.pairwise_iff_getElem]
  intro i j hi hj hij
  simp only [sortPl, Array.length_toList] at hi hj
  have := h i j (Nat.zero_le _) hij (by omega)
  rw [ltPl, getElem!_pos (sortA l.toArray) j hj, getElem!_pos (sortA l.toArray) i hi] at this
  simp only [sortPl, Array.getElem_toList]
  simp at this
  exact this
theorem sortPl_rise (l : List Pl) : decide ((sortPl l).Pairwise fun a b => a.node < b.node) = decide (l.map (·.node)).Nodup := by
  rw [decide_eq_decide]
  have hp := (sortPl_perm l).map (·.node)
  rw [← hp.nodup_iff]
  unfold List.Nodup
  rw [List.pairwise_map]
  constructor
  · intro h; exact h.imp fun {a b} h => by omega
  · intro h; exact ((sortPl_sorted l).and h).imp fun {a b} h => by omega
def Lg.ok (l : Lg) : Prop := ∀ x ∈ l.frags, x.bookies.length ≤ 8796093022208
end Go.AX
end
section
/-
  Write sets and fetches, in plain words.
-/
set_option linter.unusedVariables false
namespace Go.AX
variable {α : Type}
def Fr.ok (f : Fr) : Prop := 0 ≤ f.first ∧ f.first ≤ 18446744073709551615 ∧ f.bookies.length ≤ 8796093022208
def frsOk (l : List Fr) : Prop := ∀ x ∈ l, x.ok
/-- the last that is so -/
def lastP (p : α → Bool) (l : List α) : Option α := l.foldl (fun o x => if p x then some x else o) none
theorem take_foldl {β : Type} (f : β → α → β) (a : β) (l : List α) (k : Nat) (h : k < l.length) : (l.take (k + 1)).foldl f a = f ((l.take k).foldl f a) l[k] := by
  rw [List.take_succ_eq_append_getElem h, List.foldl_append]; rfl
theorem lastP_mem (p : α → Bool) : ∀ (l : List α) (x : α), lastP p l = some x → x ∈ l ∧ p x = true := by
  have : ∀ (l : List α) (o : Option α) (x : α), l.foldl (fun o x => if p x then some x else o) o = some x → (x ∈ l ∧ p x = true) ∨ o = some x := by
    intro l
    induction l with
    | nil => intro o x h; exact .inr h
    | cons y l ih =>
      intro o x h
      rcases ih _ x h with ⟨h1, h2⟩ | h1
      · exact .inl ⟨by simp [h1], h2⟩
      · simp only at h1
        split at h1
        · simp only [Option.some.injEq] at h1; subst h1; rename_i hp; exact .inl ⟨by simp, hp⟩
        · exact .inr h1
  intro l x h
  rcases this l none x h with h | h
  · exact h
  · cases h
def fragAt (l : List Fr) (n : Int) : Option Fr := lastP (fun f => decide (f.first ≤ n)) l
def fr0 : Fr := ⟨0, []⟩
def fromPl (l : List Pl) (k w : Nat) : List Pl := (List.range w).map fun i => l[(k + i) % l.length]!
def setOf (l : List Fr) (w n : Int) : List Pl :=
  match fragAt l n with
  | none => []
  | some f => if 1 ≤ w ∧ w ≤ f.bookies.length then fromPl f.bookies ((n - f.first) % f.bookies.length).toNat w.toNat else []
theorem fragAt_ok {l : List Fr} (h : frsOk l) {n : Int} {f : Fr} (hf : fragAt l n = some f) : f.ok ∧ f.first ≤ n := by
  obtain ⟨h1, h2⟩ := lastP_mem _ _ _ hf
  exact ⟨h f h1, by simpa using h2⟩
theorem fragAt_len {l : List Fr} (h : frsOk l) (n : Int) : ((fragAt l n).getD fr0).bookies.length ≤ 8796093022208 := by
  cases hf : fragAt l n with
  | none => simp [fr0]
  | some f => exact (fragAt_ok h hf).1.2.2

/-! ### fetches -/
def askedP (f : Ft) : Pl := if f.at_ < 0 ∨ f.at_ ≥ f.set.length then ⟨0, 0⟩ else f.set[f.at_.toNat]!
def askF (f : Ft) (a now : Int) : Ft := { f with at_ := (max a 0).tmod f.set.length, since := now }
def reqOf (f : Ft) : Rq := { to := f.set[f.at_.toNat]!, kind := 3, ledger := f.ledger, n := f.n, epoch := f.tag, sure := 0, copy := 0, body := [], keep := [] }
def askP (f : Ft) (a now : Int) : Ft × List Rq := if f.set = [] then (f, []) else (askF f a now, [reqOf (askF f a now)])
/-- a fact that is kept out of sight -/
structure Hd (p : Prop) : Prop where
  out : p
theorem askP_cases (f : Ft) (a now : Int) : (Hd (f.set = []) ∧ askP f a now = (f, [])) ∨ (Hd (f.set ≠ []) ∧ askP f a now = (askF f a now, [reqOf (askF f a now)])) := by
  by_cases h : f.set = []
  · exact .inl ⟨⟨h⟩, by simp [askP, h]⟩
  · exact .inr ⟨⟨h⟩, by simp [askP, h]⟩
def ft0 : Ft := ⟨0, 0, [], 0, 0, 0, 0, []⟩
def newP (l : Lg) (n tag now : Int) : Ft × List Rq × Int :=
  if mayLg l && decide (1 ≤ n) && decide (n ≤ 8) && !(l.closed == 1 && decide (n > l.last)) then
    let x := askP { ft0 with ledger := l.id, n := n, tag := tag, set := setOf l.frags l.w n } 0 now
    (x.1, x.2, 0)
  else (ft0, [], 1)
def goneP (now since k : Int) : Bool := decide (max now since - since ≥ k)
def takeP (f : Ft) (now : Int) (r : Rs) : Ft × List Rq :=
  if (f.done == 1) || (r.kind != 3) || (r.ledger != f.ledger) || (r.n != f.n) || (r.epoch != f.tag) then (f, [])
  else if r.code == 0 then (if f.set.any (fun y => y == ⟨r.from_.node, r.from_.serial⟩) then { f with done := 1, body := r.body } else f, [])
  else if (r.code == 3) || (r.code == 2) || (r.code == 1) then (if (r.from_.node == (askedP f).node) && (r.from_.serial == (askedP f).serial) then askP f (f.at_ + 1) now else (f, []))
  else if r.code == 4 then (if r.from_.node == (askedP f).node then askP f (f.at_ + 1) now else (f, []))
  else (f, [])
def tickP (f : Ft) (now : Int) : Ft × List Rq := if (f.done != 1) && decide ((if f.since > now then f.since else now) - f.since ≥ 3) then askP f (f.at_ + 1) now else (f, [])
def movedP (f : Ft) (now : Int) (l : Lg) : Ft × List Rq :=
  if (f.done != 1) && (l.id == f.ledger) && mayLg l && !decide (setOf l.frags l.w f.n = f.set) then askP { f with set := setOf l.frags l.w f.n } 0 now else (f, [])
def sameP (a b : Ft) : Bool := (a.ledger == b.ledger) && (a.n == b.n) && decide (a.set = b.set) && (a.at_ == b.at_) && (a.since == b.since) && (a.tag == b.tag) && (a.done == b.done) && (a.body == b.body)
theorem sameP_iff (a b : Ft) : sameP a b = decide (a = b) := by
  rw [Bool.eq_iff_iff]
  cases a; cases b
  simp [sameP]
  constructor
  · rintro ⟨⟨⟨⟨⟨⟨⟨h1, h2⟩, h3⟩, h4⟩, h5⟩, h6⟩, h7⟩, h8⟩; exact ⟨h1, h2, h3, h4, h5, h6, h7, h8⟩
  · rintro ⟨h1, h2, h3, h4, h5, h6, h7, h8⟩; exact ⟨⟨⟨⟨⟨⟨⟨h1, h2⟩, h3⟩, h4⟩, h5⟩, h6⟩, h7⟩, h8⟩

/-! ### what the references say -/
/-- the index of the last that is so; -1: there is none -/
def lastIx (p : α → Bool) : List α → Int
  | [] => -1
  | x :: r => match lastIx p r with
    | .ofNat n => n + 1
    | .negSucc _ => if p x then 0 else -1
theorem lastIx_none (p : α → Bool) : ∀ {l : List α}, (∀ x ∈ l, p x = false) → lastIx p l = -1
  | [], _ => rfl
  | x :: r, h => by
    have e := lastIx_none p (l := r) fun y hy => h y (by simp [hy])
    simp only [lastIx, e, h x (by simp)]
    rfl
theorem lastIx_at (p : α → Bool) : ∀ {l : List α} {k : Nat} (hk : k < l.length), (∀ j (hj : j < l.length), k < j → p l[j] = false) → p l[k] = true → lastIx p l = k
  | [], k, hk, _, _ => by simp at hk
  | x :: r, 0, _, h, h' => by
    have e := lastIx_none p (l := r) fun y hy => by
      obtain ⟨j, hj, rfl⟩ := List.getElem_of_mem hy
      have := h (j + 1) (by simpa using hj) (by omega)
      simpa using this
    simp only [List.getElem_cons_zero] at h'
    simp only [lastIx, e, h']
    rfl
  | x :: r, k + 1, hk, h, h' => by
    simp only [List.getElem_cons_succ] at h'
    have e := lastIx_at p (l := r) (k := k) (by simpa using hk) (fun j hj hlt => by
      have := h (j + 1) (by simpa using hj) (by omega)
      simpa using this) h'
    simp only [lastIx, e]
    show ((k : Int) + 1 = _)
    omega
theorem lastP_cons (p : α → Bool) (x : α) (r : List α) : lastP p (x :: r) = (lastP p r).or (if p x then some x else none) := by
  have : ∀ (l : List α) (o : Option α), l.foldl (fun o x => if p x then some x else o) o = (l.foldl (fun o x => if p x then some x else o) none).or o := by
    intro l
    induction l with
    | nil => intro o; simp
    | cons y l ih =>
      intro o
      simp only [List.foldl_cons]
      rw [ih, ih (if p y then some y else none)]
      split <;> simp
  simp only [lastP, List.foldl_cons]
  rw [this]
theorem lastIx_lastP (p : α → Bool) : ∀ (l : List α), (lastIx p l = -1 ∧ lastP p l = none) ∨ ∃ k, ∃ hk : k < l.length, lastIx p l = (k : Nat) ∧ lastP p l = some l[k]
  | [] => .inl ⟨rfl, rfl⟩
  | x :: r => by
    rw [lastP_cons]
    rcases lastIx_lastP p r with ⟨h1, h2⟩ | ⟨k, hk, h1, h2⟩
    · cases hx : p x with
      | true =>
        refine .inr ⟨0, by simp, ?_, by simp [h2]⟩
        simp only [lastIx, h1, hx]; rfl
      | false =>
        refine .inl ⟨?_, by simp [h2]⟩
        simp only [lastIx, h1, hx]; rfl
    · refine .inr ⟨k + 1, by simpa using hk, ?_, by simp [h2]⟩
      simp only [lastIx, h1]
      show ((k : Int) + 1 = _)
      omega
/-- a fragment may be, where it stands -/
def frGood (w : Int) (l : List Fr) (j : Nat) (hj : j < l.length) : Prop :=
  l[j].first ≤ 9 ∧ (∀ h : 0 < j, (l[j - 1]'(by omega)).first < l[j].first) ∧ w ≤ l[j].bookies.length ∧ l[j].bookies.length ≤ 5 ∧ l[j].bookies.all mayPl = true ∧ (l[j].bookies.map (·.node)).Nodup
theorem first1_iff (l : List Fr) : first1 l = true ↔ ∃ h : 0 < l.length, l[0].first = 1 := by
  cases l with
  | nil => simp [first1]
  | cons f r => simp [first1]
theorem mayFrs_iff (w : Int) (l : List Fr) : mayFrs w l = true ↔ 1 ≤ l.length ∧ l.length ≤ 6 ∧ first1 l = true ∧ ∀ j (hj : j < l.length), frGood w l j hj := by
  simp only [mayFrs, Bool.and_eq_true, fromZ, decide_eq_true_eq, List.all_eq_true]
  constructor
  · rintro ⟨⟨h1, h2⟩, h3, h4, h5⟩
    refine ⟨by omega, by omega, h3, fun j hj => ?_⟩
    have := h4 l[j] (List.getElem_mem hj)
    simp only [mayFr, Bool.and_eq_true, fromZ, decide_eq_true_eq, List.all_eq_true] at this
    obtain ⟨⟨a1, a2⟩, ⟨a3, a4⟩, a5, a6⟩ := this
    refine ⟨a2, fun h => ?_, a3, by omega, List.all_eq_true.2 a5, a6⟩
    exact List.pairwise_iff_getElem.1 h5 (j - 1) j (by omega) hj (by omega)
  · rintro ⟨h1, h2, h3, h4⟩
    refine ⟨⟨by omega, by omega⟩, h3, fun x hx => ?_, ?_⟩
    · obtain ⟨j, hj, rfl⟩ := List.getElem_of_mem hx
      obtain ⟨a2, a1, a3, a4, a5, a6⟩ := h4 j hj
      simp only [mayFr, Bool.and_eq_true, fromZ, decide_eq_true_eq]
      refine ⟨⟨?_, a2⟩, ⟨a3, by omega⟩, a5, a6⟩
      obtain ⟨h0, e0⟩ := (first1_iff l).1 h3
      have : ∀ j (hj : j < l.length), 1 ≤ l[j].first := by
        intro j
        induction j with
        | zero => intro hj; omega
        | succ j ih =>
          intro hj
          have := ih (by omega)
          have := (h4 (j + 1) hj).2.1 (by omega)
          simp only [Nat.add_sub_cancel] at this
          omega
      exact this j hj
    · exact adj_pairwise (key := fun f : Fr => f.first) fun j hj => by
        have := (h4 (j + 1) hj).2.1 (by omega)
        simp only [Nat.add_sub_cancel] at this
        exact this
theorem mayFrs_not {w : Int} {l : List Fr} {j : Nat} (hj : j < l.length) (h : ¬ frGood w l j hj) : mayFrs w l = false := by
  cases e : mayFrs w l with
  | false => rfl
  | true => exact absurd (((mayFrs_iff w l).1 e).2.2.2 j hj) h
/-- places of which the first k are well, and apart -/
theorem nodup_take {l : List Pl} {k : Nat} (hk : k < l.length) (h : ((l.take k).map (·.node)).Nodup) (h' : ∀ i (hi : i < l.length), i < k → l[i].node ≠ l[k].node) : ((l.take (k + 1)).map (·.node)).Nodup := by
  rw [List.take_succ_eq_append_getElem hk, List.map_append]
  rw [List.nodup_append]
  refine ⟨h, by simp, ?_⟩
  intro a ha b hb
  simp only [List.map_cons, List.map_nil, List.mem_singleton] at hb
  subst hb
  obtain ⟨x, hx, rfl⟩ := List.mem_map.1 ha
  obtain ⟨i, hi, rfl⟩ := List.getElem_of_mem hx
  rw [List.length_take] at hi
  rw [List.getElem_take]
  exact h' i (by omega) (by omega)
theorem fragAt_may {w n : Int} {l : List Fr} (h : mayFrs w l = true) (hn : 1 ≤ n) : ∃ f, fragAt l n = some f ∧ f ∈ l := by
  obtain ⟨h1, h2, h3, h4⟩ := (mayFrs_iff w l).1 h
  obtain ⟨h0, e0⟩ := (first1_iff l).1 h3
  cases hf : fragAt l n with
  | some f => exact ⟨f, rfl, (lastP_mem _ _ _ hf).1⟩
  | none =>
    exfalso
    have : ∀ (l : List Fr), lastP (fun f : Fr => decide (f.first ≤ n)) l = none → ∀ x ∈ l, ¬ x.first ≤ n := by
      intro l
      induction l with
      | nil => intro _ x hx; simp at hx
      | cons y l ih =>
        intro hn x hx
        rw [lastP_cons] at hn
        simp only [Option.or_eq_none_iff] at hn
        rcases List.mem_cons.1 hx with rfl | hx
        · intro hle
          have := hn.2
          simp [hle] at this
        · exact ih hn.1 x hx
    exact this l hf l[0] (List.getElem_mem h0) (by omega)
/-- a ledger that may be has write sets -/
theorem setOf_len {l : Lg} (h : mayLg l = true) {n : Int} (hn : 1 ≤ n) : (setOf l.frags l.w n).length = l.w.toNat ∧ 1 ≤ l.w ∧ l.w ≤ 5 := by
  simp only [mayLg, Bool.and_eq_true, fromZ, decide_eq_true_eq] at h
  obtain ⟨⟨a1, a2⟩, ⟨a3, a4⟩, a5, a6, ⟨a7, a8⟩, a9⟩ := h
  obtain ⟨f, hf, hm⟩ := fragAt_may a6 hn
  obtain ⟨j, hj, rfl⟩ := List.getElem_of_mem hm
  have g := ((mayFrs_iff _ _).1 a6).2.2.2 j hj
  refine ⟨?_, by omega, a5⟩
  simp only [setOf, hf]
  rw [if_pos ⟨by omega, g.2.2.1⟩]
  simp [fromPl]
theorem mod_succ (a n : Nat) (h : 0 < n) : (a + 1) % n = if a % n + 1 = n then 0 else a % n + 1 := by
  have h1 := Nat.div_add_mod a n
  have h2 := Nat.mod_lt a h
  split
  · rename_i e
    have : a + 1 = n * (a / n + 1) := by rw [Nat.mul_add]; omega
    rw [this, Nat.mul_mod_right]
  · have : a + 1 = n * (a / n) + (a % n + 1) := by omega
    rw [this, Nat.mul_add_mod, Nat.mod_eq_of_lt (by omega)]
end Go.AX
end
section
/-
  The reader's laws: what a call does to a fetch.
-/
set_option linter.unusedVariables false
namespace Go.AX
/-- a call of a fetch -/
structure Cl where
  what : Int
  own : Int
  now : Int
  r : Rs
  l : Lg
deriving DecidableEq, Inhabited
def Cl.c (x : Cl) : List PV := [ii x.what, ii x.own, uu x.now, ii x.r.from_.node, uu x.r.from_.serial, ii x.r.kind, ii x.r.code, uu x.r.ledger, uu x.r.n, uu x.r.epoch, uu x.r.sure, bys x.r.body,
  uu x.l.id, ii x.l.w, ii x.l.a, slF x.l.frags, ii x.l.closed, uu x.l.last]
def slC (l : List Cl) : PV := .sl false 18 (l.map Cl.c)
def longF (l : List Fr) : Bool := decide (l.length > 30) || l.any fun f => decide ((f.bookies.length : Int) > 30)
def heavyC (c : Cl) : Bool := decide ((c.r.body.length : Int) > 5000) || longF c.l.frags
def heavyR (x : Lg) (l : List Cl) : Bool := decide (l.length > 200) || (longF x.frags || l.any heavyC)

/-- what is in range -/
def u64R (n : Int) : Prop := 0 ≤ n ∧ n ≤ 18446744073709551615
def i64R (n : Int) : Prop := -9223372036854775808 ≤ n ∧ n ≤ 9223372036854775807
def lgR (l : Lg) : Prop := u64R l.id ∧ i64R l.w ∧ i64R l.a ∧ i64R l.closed ∧ u64R l.last ∧ ∀ f ∈ l.frags, u64R f.first
def clR (c : Cl) : Prop := i64R c.what ∧ i64R c.own ∧ u64R c.now ∧ lgR c.l
theorem frsOk_of {l : Lg} (h : lgR l) (hl : longF l.frags = false) : frsOk l.frags ∧ l.ok := by
  simp only [longF, Bool.or_eq_false_iff, List.any_eq_false, decide_eq_true_eq] at hl
  refine ⟨fun f hf => ?_, fun f hf => ?_⟩
  · have := h.2.2.2.2.2 f hf
    have := hl.2 f hf
    exact ⟨by simp only [u64R] at *; omega, by simp only [u64R] at *; omega, by omega⟩
  · have := hl.2 f hf
    omega

structure GoodF (n : Int) (f : Ft) : Prop where
  n : f.n = n
  pos : 0 < f.set.length
  len : f.set.length ≤ 5
  at0 : 0 ≤ f.at_
  at1 : f.at_ < f.set.length
  body : f.body.length ≤ 5000
  since : u64R f.since
  done : f.done = 0 ∨ f.done = 1
theorem GoodF.sm {n : Int} {f : Ft} (h : GoodF n f) : f.set.length ≤ 8796093022208 ∧ f.body.length ≤ 140737488355328 := ⟨by have := h.len; omega, by have := h.body; omega⟩

structure StepOK (n : Int) (f F : Ft) (Q : List Rq) (d : Prop) : Prop where
  good : GoodF n F
  stays : f.done = 1 → F = f ∧ Q = []
  asks : Q = [] ∨ ∃ r, Q = [r] ∧ r.to = F.set[F.at_.toNat]! ∧ r.n = n
  takes : F.done = 1 → f.done = 0 → d

theorem askF_good {n : Int} {f : Ft} {a now : Int} (hn : f.n = n) (hp : 0 < f.set.length) (hl : f.set.length ≤ 5) (hb : f.body.length ≤ 5000) (hd : f.done = 0 ∨ f.done = 1) (hnow : u64R now) : GoodF n (askF f a now) := by
  have h0 : 0 ≤ (max a 0).tmod f.set.length := Int.tmod_nonneg _ (by omega)
  have h1 : (max a 0).tmod f.set.length < f.set.length := by
    rw [Int.tmod_eq_emod_of_nonneg (by omega)]
    exact Int.emod_lt_of_pos _ (by omega)
  exact ⟨hn, hp, hl, h0, h1, hb, hnow, hd⟩
theorem askP_ok {n : Int} {f : Ft} {a now : Int} (d : Prop) {g : Ft} (hn : f.n = n) (hp : 0 < f.set.length) (hl : f.set.length ≤ 5) (hb : f.body.length ≤ 5000) (hd : f.done = 0) (hnow : u64R now) (hg : g.done ≠ 1) :
    StepOK n g (askP f a now).1 (askP f a now).2 d := by
  have hne : f.set ≠ [] := List.length_pos_iff.1 hp
  simp only [askP, hne, if_false]
  exact ⟨askF_good hn hp hl hb (.inl hd) hnow, fun h => absurd h hg, .inr ⟨_, rfl, rfl, hn⟩, fun h => absurd h (by simp only [askF, hd]; decide)⟩
theorem same_ok {n : Int} {f : Ft} (d : Prop) (h : GoodF n f) : StepOK n f f [] d := ⟨h, fun _ => ⟨rfl, rfl⟩, .inl rfl, fun h1 h2 => by rw [h1] at h2; cases h2⟩

theorem takeP_ok {n : Int} {f : Ft} (h : GoodF n f) {now : Int} (hnow : u64R now) (r : Rs) (hr : r.body.length ≤ 5000) :
    StepOK n f (takeP f now r).1 (takeP f now r).2 (f.set.any (fun y => y == r.from_) = true) := by
  have hask : f.done ≠ 1 → StepOK n f (askP f (f.at_ + 1) now).1 (askP f (f.at_ + 1) now).2 (f.set.any (fun y => y == r.from_) = true) :=
    fun hd => askP_ok _ h.n h.pos h.len h.body (h.done.resolve_right hd) hnow hd
  unfold takeP
  split
  · exact same_ok _ h
  · rename_i hc
    have hd : f.done ≠ 1 := by intro e; simp [e] at hc
    split
    · split
      · rename_i hany
        exact ⟨⟨h.n, h.pos, h.len, h.at0, h.at1, hr, h.since, .inr rfl⟩, fun e => absurd e hd, .inl rfl, fun _ _ => hany⟩
      · exact same_ok _ h
    · split
      · split
        · exact hask hd
        · exact same_ok _ h
      · split
        · split
          · exact hask hd
          · exact same_ok _ h
        · exact same_ok _ h
theorem tickP_ok {n : Int} {f : Ft} (h : GoodF n f) {now : Int} (hnow : u64R now) (d : Prop) : StepOK n f (tickP f now).1 (tickP f now).2 d := by
  unfold tickP
  generalize (if f.since > now then f.since else now) = m
  split
  · rename_i hc
    have hd : f.done ≠ 1 := by intro e; simp [e] at hc
    exact askP_ok _ h.n h.pos h.len h.body (h.done.resolve_right hd) hnow hd
  · exact same_ok _ h
theorem movedP_ok {n : Int} {f : Ft} (h : GoodF n f) {now : Int} (hnow : u64R now) (l : Lg) (hn : 1 ≤ n) (d : Prop) : StepOK n f (movedP f now l).1 (movedP f now l).2 d := by
  unfold movedP
  split
  · rename_i hc
    simp only [Bool.and_eq_true, bne_iff_ne, ne_eq] at hc
    obtain ⟨⟨⟨hd, _⟩, hm⟩, _⟩ := hc
    have := setOf_len hm (n := f.n) (by rw [h.n]; exact hn)
    exact askP_ok (f := { f with set := setOf l.frags l.w f.n }) _ h.n (by simp only; omega) (by simp only; omega) h.body (h.done.resolve_right hd) hnow hd
  · exact same_ok _ h
theorem newP_good {l : Lg} {n tag now : Int} (h : (newP l n tag now).2.2 = 0) (hnow : u64R now) : GoodF n (newP l n tag now).1 ∧ 1 ≤ n ∧ n ≤ 8 ∧ mayLg l = true ∧ (newP l n tag now).1.done = 0 ∧
    (newP l n tag now).1 = askF { ft0 with ledger := l.id, n := n, tag := tag, set := setOf l.frags l.w n } 0 now ∧ (newP l n tag now).2.1 = [reqOf (askF { ft0 with ledger := l.id, n := n, tag := tag, set := setOf l.frags l.w n } 0 now)] := by
  unfold newP at h ⊢
  split at h
  · rename_i hc
    rw [if_pos hc]
    simp only [Bool.and_eq_true, decide_eq_true_eq] at hc
    obtain ⟨⟨⟨hm, h1⟩, h8⟩, _⟩ := hc
    have hs := setOf_len hm h1
    have hne : setOf l.frags l.w n ≠ [] := by intro e; rw [e] at hs; simp at hs; omega
    refine ⟨?_, h1, h8, hm, ?_, ?_, ?_⟩
    · simp only [askP, hne, if_false]
      exact askF_good rfl (by simp only; omega) (by simp only; omega) (by simp [ft0]) (.inl rfl) hnow
    all_goals
      simp only [askP, hne, if_false]
    rfl
  · simp at h
end Go.AX
end
section
/-
  The reader's laws: requests keep nothing; what is too much.
-/
set_option linter.unusedVariables false
namespace Go.AX
def QK (Q : List Rq) : Prop := ∀ x ∈ Q, x.keep.length ≤ 9223372036854775807
theorem askP_keep (f : Ft) (a now : Int) : QK (askP f a now).2 := by
  unfold askP QK
  split <;> simp [reqOf]
theorem takeP_keep (f : Ft) (now : Int) (r : Rs) : QK (takeP f now r).2 := by
  unfold takeP
  repeat' split
  all_goals first
    | exact askP_keep _ _ _
    | (intro x hx; simp at hx)
theorem tickP_keep (f : Ft) (now : Int) : QK (tickP f now).2 := by
  unfold tickP
  generalize (if f.since > now then f.since else now) = m
  split
  · exact askP_keep _ _ _
  · intro x hx; simp at hx
theorem movedP_keep (f : Ft) (now : Int) (l : Lg) : QK (movedP f now l).2 := by
  unfold movedP
  split
  · exact askP_keep _ _ _
  · intro x hx; simp at hx
theorem newP_keep (l : Lg) (n tag now : Int) : QK (newP l n tag now).2.1 := by
  unfold newP
  split
  · exact askP_keep _ _ _
  · intro x hx; simp at hx
theorem heavyR_false {x : Lg} {l : List Cl} (h : heavyR x l = false) : l.length ≤ 200 ∧ longF x.frags = false ∧ ∀ c ∈ l, c.r.body.length ≤ 5000 ∧ longF c.l.frags = false := by
  simp only [heavyR, heavyC, Bool.or_eq_false_iff, List.any_eq_false, decide_eq_false_iff_not, Bool.not_eq_true] at h
  refine ⟨by omega, h.2.1, fun c hc => ?_⟩
  have := h.2.2 c hc
  exact ⟨by omega, this.2⟩
def ovR (x : Lg) (n tag : Int) (c : Cl) : Rs := { c.r with kind := 3, ledger := x.id, n := n, epoch := tag }
def ovL (x : Lg) (c : Cl) : Lg := { c.l with id := x.id }
end Go.AX
end
section
/-
  The reader's round: that it ends, in plain words.
-/
set_option linter.unusedVariables false
namespace Go.AX
def Pend (f : Ft) (q : List Rq) : Prop := q = [] ∨ q = [reqOf f]
theorem askP_pend {f : Ft} (h : 0 < f.set.length) (a now : Int) : askP f a now = (askF f a now, [reqOf (askF f a now)]) := by
  have : f.set ≠ [] := List.length_pos_iff.1 h
  simp [askP, this]
theorem newP_pend {l : Lg} {n tag now : Int} (h : (newP l n tag now).2.2 = 0) (hnow : u64R now) : (newP l n tag now).1.set = setOf l.frags l.w n ∧ (newP l n tag now).1.since = now ∧ Pend (newP l n tag now).1 (newP l n tag now).2.1 := by
  obtain ⟨_, _, _, _, _, h1, h2⟩ := newP_good h hnow
  rw [h1, h2]
  exact ⟨rfl, rfl, .inr rfl⟩
theorem tickP_cases {n : Int} {f : Ft} (h : GoodF n f) (hd : f.done = 0) {now : Int} (hs : f.since ≤ now) :
    (now - f.since ≥ 3 ∧ tickP f now = (askF f (f.at_ + 1) now, [reqOf (askF f (f.at_ + 1) now)])) ∨ (now - f.since < 3 ∧ tickP f now = (f, [])) := by
  unfold tickP
  rw [if_neg (show ¬ f.since > now by omega)]
  by_cases h3 : now - f.since ≥ 3
  · left
    refine ⟨h3, ?_⟩
    rw [if_pos (by simp [hd, h3]), askP_pend h.pos]
  · right
    exact ⟨by omega, by rw [if_neg (by simp [h3])]⟩
theorem tickP_any {n : Int} {f : Ft} (h : GoodF n f) (hd : f.done = 0) {now : Int} (hnow : u64R now) {m : Int} (hs : f.since ≤ m) (hnm : now ≤ m) {q : List Rq} :
    GoodF n (tickP f now).1 ∧ (tickP f now).1.done = 0 ∧ (tickP f now).1.set = f.set ∧ (tickP f now).1.since ≤ m ∧ Pend (tickP f now).1 (tickP f now).2 := by
  refine ⟨(tickP_ok h hnow True).good, ?_⟩
  unfold tickP
  generalize (if f.since > now then f.since else now) = z
  split
  · rw [askP_pend h.pos]
    exact ⟨hd, rfl, hnm, .inr rfl⟩
  · exact ⟨hd, rfl, hs, .inl rfl⟩
theorem tickP_done {f : Ft} (h : f.done = 1) (now : Int) : tickP f now = (f, []) := by
  unfold tickP
  simp [h]
theorem at_succ {n : Int} {f : Ft} (h : GoodF n f) {j : Nat} (hj : f.at_ = ((j % f.set.length : Nat) : Int)) (now : Int) : (askF f (f.at_ + 1) now).at_ = (((j + 1) % f.set.length : Nat) : Int) := by
  have hl := h.pos
  simp only [askF]
  rw [hj, show max (((j % f.set.length : Nat) : Int) + 1) 0 = ((j % f.set.length + 1 : Nat) : Int) from by omega, ← Int.ofNat_tmod]
  congr 1
  rw [Nat.mod_add_mod]
def ansR (f : Ft) (q : Rq) (has : Pl) (entry : List UInt8) : Rs := if q.to = has then ⟨q.to, q.kind, 0, q.ledger, q.n, q.epoch, 0, entry⟩ else ⟨q.to, q.kind, 3, q.ledger, q.n, q.epoch, 0, []⟩
theorem take_has {n : Int} {f : Ft} (h : GoodF n f) (hd : f.done = 0) (now : Int) (entry : List UInt8) :
    takeP f now ⟨(reqOf f).to, (reqOf f).kind, 0, (reqOf f).ledger, (reqOf f).n, (reqOf f).epoch, 0, entry⟩ = ({ f with done := 1, body := entry }, []) := by
  have hlt : f.at_.toNat < f.set.length := by have := h.at0; have := h.at1; omega
  unfold takeP
  rw [if_neg (by simp [reqOf, hd])]
  have : (f.set.any fun y => y == ⟨(reqOf f).to.node, (reqOf f).to.serial⟩) = true := by
    rw [List.any_eq_true]
    refine ⟨f.set[f.at_.toNat], List.getElem_mem hlt, ?_⟩
    have e : (reqOf f).to = f.set[f.at_.toNat] := getElem!_pos f.set f.at_.toNat hlt
    rw [e]
    simp
  simp only [this]
  rfl
theorem take_not {n : Int} {f : Ft} (h : GoodF n f) (hd : f.done = 0) (now : Int) (b : List UInt8) :
    takeP f now ⟨(reqOf f).to, (reqOf f).kind, 3, (reqOf f).ledger, (reqOf f).n, (reqOf f).epoch, 0, b⟩ = (askF f (f.at_ + 1) now, [reqOf (askF f (f.at_ + 1) now)]) := by
  have h0 := h.at0
  have h1 := h.at1
  unfold takeP
  rw [if_neg (by simp [reqOf, hd])]
  have e : askedP f = (reqOf f).to := by
    simp only [askedP, reqOf]
    rw [if_neg (by omega)]
  rw [if_neg (by simp), if_pos (by simp), if_pos (by rw [e]; simp), askP_pend h.pos]
/-- among L places one behind the other each is met -/
theorem meets {a0 h L : Nat} (ha : a0 < L) (hh : h < L) : ∃ i, 1 ≤ i ∧ i ≤ L ∧ (a0 + i) % L = h := by
  by_cases c : a0 < h
  · exact ⟨h - a0, by omega, by omega, by rw [show a0 + (h - a0) = h by omega]; exact Nat.mod_eq_of_lt hh⟩
  · exact ⟨h + L - a0, by omega, by omega, by rw [show a0 + (h + L - a0) = h + L by omega, Nat.add_mod_right]; exact Nat.mod_eq_of_lt hh⟩
/-- the round under way, nothing found yet: k rounds, J asks since it began; pend: the last ask is not yet answered -/
structure Und (n : Int) (S : List Pl) (a0 : Nat) (has : Pl) (f : Ft) (now : Int) (J : Nat) (pend : Bool) : Prop where
  good : GoodF n f
  done : f.done = 0
  set : f.set = S
  at_ : f.at_ = (((a0 + J) % S.length : Nat) : Int)
  since : f.since ≤ now
  seen : ∀ i, 1 ≤ i → i ≤ J → (i < J ∨ pend = false) → S[(a0 + i) % S.length]! ≠ has
/-- and of time -/
def Late (k J : Nat) (e : Int) : Prop := (k : Int) ≤ 3 * J + 2 ∧ (k : Int) ≤ 3 * J + e
theorem Und.bound {n : Int} {S : List Pl} {a0 : Nat} {f : Ft} {now : Int} {J h : Nat} (u : Und n S a0 S[h]! f now J false) (ha : a0 < S.length) (hh : h < S.length) : J + 1 ≤ S.length := by
  by_cases c : J + 1 ≤ S.length
  · exact c
  · obtain ⟨i, h1, h2, h3⟩ := meets ha hh
    exact absurd (by rw [h3]) (u.seen i h1 (by omega) (.inr rfl))
theorem Und.bound1 {n : Int} {S : List Pl} {a0 : Nat} {f : Ft} {now : Int} {J h : Nat} {p : Bool} (u : Und n S a0 S[h]! f now J p) (ha : a0 < S.length) (hh : h < S.length) : J ≤ S.length := by
  by_cases c : J ≤ S.length
  · exact c
  · obtain ⟨i, h1, h2, h3⟩ := meets ha hh
    exact absurd (by rw [h3]) (u.seen i h1 (by omega) (.inl (by omega)))
theorem Und.ask {n : Int} {S : List Pl} {a0 : Nat} {has : Pl} {f : Ft} {now now' : Int} {J : Nat} (u : Und n S a0 has f now J false) (hnow : u64R now') : Und n S a0 has (askF f (f.at_ + 1) now') now' (J + 1) true := by
  have hs := u.set
  refine ⟨askF_good u.good.n u.good.pos u.good.len u.good.body u.good.done hnow, u.done, u.set, ?_, Int.le_refl _, fun i h1 h2 h3 => u.seen i h1 (by rcases h3 with h3 | h3; (omega); (cases h3)) (.inr rfl)⟩
  have := at_succ u.good (j := a0 + J) (by rw [u.at_, hs]) now'
  rw [this, hs]
  rfl
theorem Und.passed {n : Int} {S : List Pl} {a0 : Nat} {has : Pl} {f : Ft} {now : Int} {J : Nat} (u : Und n S a0 has f now J true) (hne : (reqOf f).to ≠ has) : Und n S a0 has f now J false := by
  refine ⟨u.good, u.done, u.set, u.at_, u.since, fun i h1 h2 h3 => ?_⟩
  by_cases c : i < J
  · exact u.seen i h1 h2 (.inl c)
  · have e : i = J := by omega
    subst e
    intro hx
    apply hne
    simp only [reqOf, u.set, u.at_, Int.toNat_natCast]
    exact hx
theorem eqPl (a b : Pl) : ((a.node == b.node) && (a.serial == b.serial)) = decide (a = b) := by
  obtain ⟨a1, a2⟩ := a
  obtain ⟨b1, b2⟩ := b
  rw [Bool.eq_iff_iff]
  simp
end Go.AX
end
section
/-
  Law 18 (the copier): what its functions compute.
-/
namespace Go.AX
structure Cp where
  l : Lg
  from_ : Pl
  to : Pl
  phase : Int
  n : Int
  none : List Pl
  body : List UInt8
  born : Int
  since : Int
deriving DecidableEq
def Cp.c (x : Cp) : List PV := [uu x.l.id, ii x.l.w, ii x.l.a, slF x.l.frags, ii x.l.closed, uu x.l.last, ii x.from_.node, uu x.from_.serial, ii x.to.node, uu x.to.serial, ii x.phase, uu x.n, slP x.none, bys x.body, uu x.born, uu x.since]
def Cp.v (x : Cp) (no : AV) : List AV := [.pv (uu x.l.id), .pv (ii x.l.w), .pv (ii x.l.a), .pv (slF x.l.frags), .pv (ii x.l.closed), .pv (uu x.l.last), .pv (ii x.from_.node), .pv (uu x.from_.serial), .pv (ii x.to.node), .pv (uu x.to.serial), .pv (ii x.phase), .pv (uu x.n), no, .pv (bys x.body), .pv (uu x.born), .pv (uu x.since)]
def cGone (p : Pl) (known : List Pl) : Bool := known.any fun q => q.node == p.node && q.serial != p.serial
def hasOther (l : List Pl) (from_ to : Pl) : Bool := l.any fun p => p.node == to.node && p != from_
def cFits (l : Lg) (from_ to : Pl) : Bool :=
  (l.frags.all fun f => !(f.bookies.any (· == from_)) || !hasOther f.bookies from_ to) && (l.frags.any fun f => f.bookies.any (· == from_)) && from_ != to
def cClosed (l : Lg) : Bool := mayLg l && l.closed == 1
structure Cp.sm (c : Cp) : Prop where
  h1 : c.none.length ≤ 8796093022208
  h2 : c.body.length ≤ 140737488355328
  h3 : c.l.frags.length ≤ 4398046511104
  h4 : c.l.ok
def Cp.vf (x : Cp) (fr no : AV) : List AV := [.pv (uu x.l.id), .pv (ii x.l.w), .pv (ii x.l.a), fr, .pv (ii x.l.closed), .pv (uu x.l.last), .pv (ii x.from_.node), .pv (uu x.from_.serial), .pv (ii x.to.node), .pv (uu x.to.serial), .pv (ii x.phase), .pv (uu x.n), no, .pv (bys x.body), .pv (uu x.born), .pv (uu x.since)]
def Cp.z : List AV := [.pv (uu 0), .pv (ii 0), .pv (ii 0), .pv nilS, .pv (ii 0), .pv (uu 0), .pv (ii 0), .pv (uu 0), .pv (ii 0), .pv (uu 0), .pv (ii 0), .pv (uu 0), .pv nilS, .pv nilS, .pv (uu 0), .pv (uu 0)]
theorem set_same {α β : Type} (f : α → β) (l : List α) (k : Nat) (h : k < l.length) : (l.map f).set k (f l[k]) = l.map f := by
  apply List.ext_getElem
  · simp
  · intro i h1 h2
    simp only [List.getElem_set, List.getElem_map]
    split
    · rename_i e; subst e; rfl
    · rfl
/-- those from the k-th on -/
def hadFrom (l : Lg) (from_ : Pl) (behind : Int) (k : Nat) : List Int :=
  ((List.range' k ((l.last - behind).toNat - k)).map fun (i : Nat) => behind + 1 + (i : Int)).filter fun n => (setOf l.frags l.w n).any (· == from_)
theorem hadFrom_end (l : Lg) (from_ : Pl) (behind : Int) (k : Nat) (h : ¬ behind + 1 + (k : Int) ≤ l.last) : hadFrom l from_ behind k = [] := by
  have : (l.last - behind).toNat - k = 0 := by omega
  simp [hadFrom, this]
theorem hadFrom_step (l : Lg) (from_ : Pl) (behind : Int) (k : Nat) (h : behind + 1 + (k : Int) ≤ l.last) : hadFrom l from_ behind k =
    if (setOf l.frags l.w (behind + 1 + (k : Int))).any (· == from_) then (behind + 1 + (k : Int)) :: hadFrom l from_ behind (k + 1) else hadFrom l from_ behind (k + 1) := by
  obtain ⟨m, hm⟩ : ∃ m, (l.last - behind).toNat - k = m + 1 := ⟨(l.last - behind).toNat - k - 1, by omega⟩
  have hm' : (l.last - behind).toNat - (k + 1) = m := by omega
  simp only [hadFrom, hm, hm', List.range'_succ, List.map_cons, List.filter_cons]
/-- the entries behind one that a place had -/
def hadL (l : Lg) (from_ : Pl) (behind : Int) : List Int :=
  if cClosed l && decide (behind < l.last) then hadFrom l from_ behind 0 else []
def others (c : Cp) : List Pl := (setOf c.l.frags c.l.w c.n).filter fun p => !(p == c.from_)
def askC (c : Cp) (now : Int) : Cp × List Rq :=
  if c.phase = 2 then ({ c with since := now }, [⟨c.to, 1, c.l.id, c.n, 0, c.l.last, 1, c.body, []⟩])
  else
    let none' := if (others c).all fun p => c.none.any (· == p) then [] else c.none
    ({ c with since := now, none := none' }, ((others c).filter fun p => !none'.any (· == p)).map fun p => ⟨p, 3, c.l.id, c.n, 0, 0, 0, [], []⟩)
def onC (c : Cp) (now : Int) : Cp × List Rq :=
  match hadL c.l c.from_ c.n with
  | n :: _ => askC { c with none := [], body := [], phase := 1, n := n, born := now } now
  | [] => ({ c with none := [], body := [], phase := 3, n := 0 }, [])
theorem ent_frz {s s' : AS} (ids : List Nat) (h : match frz s.hp ids with | some fs => entC (s.app fs) s' | none => False) (c : Ctx) (R : Real) (a : Act) (w : World) (g : Gam c R s a w) : ∃ R', Gam c R' s' a w := by
  split at h
  · rename_i fs hfs
    obtain ⟨g1, _⟩ := frz_sound g (fun _ _ h => h) _ _ hfs
    exact ent_of h c R a w g1
  · exact h.elim
theorem any_take_succ {α : Type} (p : α → Bool) (l : List α) (k : Nat) (h : k < l.length) : (l.take (k + 1)).any p = ((l.take k).any p || p l[k]) := by
  rw [List.take_succ_eq_append_getElem h, List.any_append]; simp
theorem cFits_no {l : Lg} {from_ to : Pl} (k : Nat) (h : k < l.frags.length) (h1 : (l.frags[k].bookies.any (· == from_)) = true) (h2 : hasOther l.frags[k].bookies from_ to = true) : cFits l from_ to = false := by
  have : (l.frags.all fun f => !(f.bookies.any (· == from_)) || !hasOther f.bookies from_ to) = false := by
    rw [List.all_eq_false]
    exact ⟨l.frags[k], List.getElem_mem h, by simp [h1, h2]⟩
  simp [cFits, this]
theorem cFits_yes {l : Lg} {from_ to : Pl} (h : ∀ j (hj : j < l.frags.length), (l.frags[j].bookies.any (· == from_) && hasOther l.frags[j].bookies from_ to) = false) :
    cFits l from_ to = ((l.frags.any fun f => f.bookies.any (· == from_)) && from_ != to) := by
  have : (l.frags.all fun f => !(f.bookies.any (· == from_)) || !hasOther f.bookies from_ to) = true := by
    rw [List.all_eq_true]
    intro f hf
    obtain ⟨j, hj, rfl⟩ := List.getElem_of_mem hf
    have := h j hj
    simpa [← Bool.not_and] using this
  rw [cFits, this, Bool.true_and]
theorem filter_take_succ {α : Type} (p : α → Bool) (l : List α) (k : Nat) (h : k < l.length) : (l.take (k + 1)).filter p = if p l[k] then (l.take k).filter p ++ [l[k]] else (l.take k).filter p := by
  rw [List.take_succ_eq_append_getElem h, List.filter_append]
  cases hp : p l[k] <;> simp [hp]
end Go.AX
end
section
/-
  Law 18 (the copier): its life.
-/
namespace Go.AX
theorem hadFrom_mem {l : Lg} {from_ : Pl} {behind : Int} {k : Nat} {n : Int} (h : n ∈ hadFrom l from_ behind k) : behind < n ∧ n ≤ l.last ∧ (setOf l.frags l.w n).any (· == from_) = true := by
  unfold hadFrom at h
  rw [List.mem_filter, List.mem_map] at h
  obtain ⟨⟨i, hi, rfl⟩, h2⟩ := h
  rw [List.mem_range'_1] at hi
  exact ⟨by omega, by omega, h2⟩
theorem closed_last {l : Lg} (hcl : cClosed l = true) : l.last ≤ 8 ∧ mayLg l = true := by
  unfold cClosed at hcl
  simp only [Bool.and_eq_true, beq_iff_eq] at hcl
  refine ⟨?_, hcl.1⟩
  have h8 := hcl.1
  unfold mayLg at h8
  simp only [Bool.and_eq_true, decide_eq_true_eq] at h8
  have := h8.2.2.2.2.2
  omega
theorem hadL_mem {l : Lg} {from_ : Pl} {behind : Int} {n : Int} (h : n ∈ hadL l from_ behind) : behind < n ∧ n ≤ l.last ∧ l.last ≤ 8 ∧ (setOf l.frags l.w n).any (· == from_) = true := by
  unfold hadL at h
  split at h
  · rename_i hc
    simp only [Bool.and_eq_true] at hc
    obtain ⟨h1, h2, h3⟩ := hadFrom_mem h
    exact ⟨h1, h2, (closed_last hc.1).1, h3⟩
  · simp at h
def newC (l : Lg) (from_ to : Pl) (now : Int) : Cp × List Rq × Int :=
  if cClosed l && cFits l from_ to then ((onC ⟨l, from_, to, 0, 0, [], [], now, now⟩ now).1, (onC ⟨l, from_, to, 0, 0, [], [], now, now⟩ now).2, 0)
  else (⟨⟨0, 0, 0, [], 0, 0⟩, ⟨0, 0⟩, ⟨0, 0⟩, 0, 0, [], [], 0, 0⟩, [], 1)
def takeC (c : Cp) (now : Int) (r : Rs) : Cp × List Rq :=
  if r.ledger != c.l.id || (r.n != c.n || r.epoch != 0) then (c, [])
  else if c.phase == 1 && (r.kind == 3 && (others c).any (· == r.from_)) then
    if r.code == 0 then askC { c with phase := 2, body := r.body } now
    else if r.code == 3 then (if c.none.any (· == r.from_) then c else { c with none := c.none ++ [r.from_] }, [])
    else (c, [])
  else if c.phase == 2 && (r.kind == 1 && r.from_.node == c.to.node) then
    if r.code == 0 && r.from_ == c.to then onC c now
    else if r.code == 4 || (r.code == 2 && r.from_ == c.to) then ({ c with phase := 4 }, [])
    else (c, [])
  else (c, [])
def afterC (now then_ : Int) : Int := if now < then_ then 0 else now - then_
def tickC (c : Cp) (now : Int) : Cp × List Rq :=
  if c.phase != 1 && c.phase != 2 then (c, [])
  else if decide (afterC now c.born ≥ 9) then ({ c with phase := 4 }, [])
  else if decide (afterC now c.since ≥ 3) then askC c now
  else (c, [])
end Go.AX
end
section
/-
  Law 18 (the copier), in plain terms: a steady copier; a copier that is answered at once.
-/
set_option linter.unusedVariables false
namespace Go.AX
/-- the others of an entry's write set -/
def oth (l : Lg) (from_ : Pl) (n : Int) : List Pl := (setOf l.frags l.w n).filter fun p => !(p == from_)
def getR (l : Lg) (n : Int) (p : Pl) : Rq := ⟨p, 3, l.id, n, 0, 0, 0, [], []⟩
def addR (l : Lg) (to : Pl) (n : Int) (b : List UInt8) : Rq := ⟨to, 1, l.id, n, 0, l.last, 1, b, []⟩
theorem filter_any_nil (l : List Pl) : (l.filter fun p => !([] : List Pl).any (· == p)) = l := by simp
theorem onC_cons {c : Cp} {n : Int} {r : List Int} (h : hadL c.l c.from_ c.n = n :: r) (now : Int) :
    onC c now = (⟨c.l, c.from_, c.to, 1, n, [], [], now, now⟩, (oth c.l c.from_ n).map (getR c.l n)) := by
  unfold onC
  rw [h]
  simp only [askC]
  rw [if_neg (by omega)]
  simp only [ite_self, filter_any_nil]
  rfl
theorem onC_nil {c : Cp} (h : hadL c.l c.from_ c.n = []) (now : Int) : onC c now = (⟨c.l, c.from_, c.to, 3, 0, [], [], c.born, c.since⟩, []) := by
  unfold onC
  rw [h]
theorem hadFrom_next {l : Lg} {f : Pl} : ∀ (m k : Nat) {b n : Int} {r : List Int}, (l.last - b).toNat - k = m → hadFrom l f b k = n :: r → b < n ∧ n ≤ l.last ∧ hadFrom l f n 0 = r := by
  intro m
  induction m with
  | zero =>
    intro k b n r hm h
    rw [hadFrom_end l f b k (by omega)] at h
    cases h
  | succ m ih =>
    intro k b n r hm h
    rw [hadFrom_step l f b k (by omega)] at h
    split at h
    · rename_i hp
      simp only [List.cons.injEq] at h
      obtain ⟨rfl, rfl⟩ := h
      refine ⟨by omega, by omega, ?_⟩
      unfold hadFrom
      congr 1
      apply List.ext_getElem
      · simp only [List.length_map, List.length_range']; omega
      · intro i h1 h2
        simp only [List.getElem_map, List.getElem_range']
        omega
    · exact ih (k + 1) (by omega) h
theorem hadL_next {l : Lg} {f : Pl} {b n : Int} {r : List Int} (h : hadL l f b = n :: r) : hadL l f n = r := by
  unfold hadL at h
  split at h
  · rename_i hc
    simp only [Bool.and_eq_true, decide_eq_true_eq] at hc
    obtain ⟨h1, h2, h3⟩ := hadFrom_next _ 0 rfl h
    unfold hadL
    split
    · exact h3
    · rename_i hn
      simp only [Bool.and_eq_true, decide_eq_true_eq] at hn
      have : ¬ n < l.last := fun hlt => hn ⟨hc.1, hlt⟩
      rw [hadFrom_end l f n 0 (by omega)] at h3
      exact h3
  · cases h
theorem setOf_le5 {l : Lg} (h : mayLg l = true) (n : Int) : (setOf l.frags l.w n).length ≤ 5 := by
  have hw : l.w ≤ 5 := by
    simp only [mayLg, Bool.and_eq_true, fromZ, decide_eq_true_eq] at h
    exact h.2.2.1
  unfold setOf
  split
  · simp
  · split
    · simp only [fromPl, List.length_map, List.length_range]; omega
    · simp
theorem newC_ok {l : Lg} {f t : Pl} {now : Int} (h : (newC l f t now).2.2 = 0) : cClosed l = true ∧ cFits l f t = true ∧ newC l f t now = ((onC ⟨l, f, t, 0, 0, [], [], now, now⟩ now).1, (onC ⟨l, f, t, 0, 0, [], [], now, now⟩ now).2, 0) := by
  unfold newC at h ⊢
  split
  · rename_i hc
    simp only [Bool.and_eq_true] at hc
    exact ⟨hc.1, hc.2, rfl⟩
  · rename_i hc
    rw [if_neg hc] at h
    simp at h
theorem newC_err {l : Lg} {f t : Pl} {now : Int} (h : (newC l f t now).2.2 ≠ 0) : (newC l f t now).2.2 = 1 := by
  unfold newC at h ⊢
  split
  · rename_i hc
    rw [if_pos hc] at h
    simp at h
  · rfl
/-- New's copier: it asks for the first entry, or has nothing to do -/
theorem newC_cases {l : Lg} {f t : Pl} {now : Int} (h : (newC l f t now).2.2 = 0) :
    (∃ n r, hadL l f 0 = n :: r ∧ newC l f t now = (⟨l, f, t, 1, n, [], [], now, now⟩, (oth l f n).map (getR l n), 0)) ∨
    (hadL l f 0 = [] ∧ newC l f t now = (⟨l, f, t, 3, 0, [], [], now, now⟩, [], 0)) := by
  obtain ⟨h1, h2, h3⟩ := newC_ok h
  rw [h3]
  cases hL : hadL l f 0 with
  | nil =>
    refine .inr ⟨rfl, ?_⟩
    rw [onC_nil (c := ⟨l, f, t, 0, 0, [], [], now, now⟩) hL]
  | cons n r =>
    refine .inl ⟨n, r, rfl, ?_⟩
    rw [onC_cons (c := ⟨l, f, t, 0, 0, [], [], now, now⟩) hL]

/-! ### steady -/
def unlike (c : Cp) (r : Rs) : Prop := r.ledger ≠ c.l.id ∨ r.n ≠ c.n ∨ r.epoch ≠ 0 ∨ r.kind ≠ 3 ∨ r.from_ = c.from_ ∨ c.phase ≠ 1
theorem others_from (c : Cp) : ((others c).any (· == c.from_)) = false := by
  rw [List.any_eq_false]
  intro x hx
  simp only [others, List.mem_filter] at hx
  simpa using hx.2
theorem takeC_unlike {c : Cp} (hp : c.phase = 1 ∨ c.phase = 3) {r : Rs} (h : unlike c r) (now : Int) : takeC c now r = (c, []) := by
  unfold takeC
  split
  · rfl
  · rename_i h0
    simp only [Bool.or_eq_true, bne_iff_ne, ne_eq, not_or, Decidable.not_not] at h0
    obtain ⟨e1, e2, e3⟩ := h0
    split
    · rename_i h1
      simp only [Bool.and_eq_true, beq_iff_eq] at h1
      exfalso
      rcases h with h | h | h | h | h | h
      · exact h e1
      · exact h e2
      · exact h e3
      · exact h h1.2.1
      · rw [h] at h1
        rw [others_from] at h1
        exact absurd h1.2.2 (by simp)
      · exact h h1.1
    · split
      · rename_i h2
        simp only [Bool.and_eq_true, beq_iff_eq] at h2
        exfalso
        omega
      · rfl
theorem takeC_like {c : Cp} (hp : c.phase = 1) {r : Rs} (now : Int) : ((takeC c now r).1.phase = 1 ∧ (takeC c now r).2 = [] ∨ (takeC c now r).1.phase = 2 ∧ (takeC c now r).2.length = 1 ∧ r.code = 0) ∧ (takeC c now r).1.n = c.n := by
  unfold takeC
  split
  · exact ⟨.inl ⟨hp, rfl⟩, rfl⟩
  · split
    · split
      · rename_i hc
        simp only [beq_iff_eq] at hc
        unfold askC
        rw [if_pos rfl]
        exact ⟨.inr ⟨rfl, rfl, hc⟩, rfl⟩
      · split
        · split
          · exact ⟨.inl ⟨hp, rfl⟩, rfl⟩
          · exact ⟨.inl ⟨hp, rfl⟩, rfl⟩
        · exact ⟨.inl ⟨hp, rfl⟩, rfl⟩
    · split
      · rename_i h2
        simp only [Bool.and_eq_true, beq_iff_eq] at h2
        omega
      · exact ⟨.inl ⟨hp, rfl⟩, rfl⟩

/-! ### answers -/
def bodyL (n : Int) : List UInt8 := [101, UInt8.ofNat (48 + (n % 10).toNat)]
def ansC (l : Lg) (lost fresh : Pl) (has : List ByteArray) (r : Rq) : Rs × List ByteArray :=
  if r.to == fresh && r.kind == 1 then (⟨r.to, r.kind, 0, r.ledger, r.n, r.epoch, 0, []⟩, if decide (r.n < has.length) then has.set r.n.toNat ⟨r.body.toArray⟩ else has)
  else if r.to == lost || r.to == fresh then (⟨r.to, r.kind, 4, r.ledger, r.n, r.epoch, 0, []⟩, has)
  else if r.kind == 3 && (setOf l.frags l.w r.n).any (· == r.to) then (⟨r.to, r.kind, 0, r.ledger, r.n, r.epoch, 0, bodyL r.n⟩, has)
  else (⟨r.to, r.kind, 3, r.ledger, r.n, r.epoch, 0, []⟩, has)
theorem ansC_len (l : Lg) (lost fresh : Pl) (has : List ByteArray) (r : Rq) : (ansC l lost fresh has r).2.length = has.length := by
  unfold ansC
  split
  · simp only; split <;> simp
  · split
    · rfl
    · split <;> rfl

/-! ### the places of a write set -/
theorem getElem!_mem' {l : List Pl} (h : 0 < l.length) (k : Nat) : l[k % l.length]! ∈ l := by
  rw [getElem!_pos l _ (Nat.mod_lt _ h)]
  exact List.getElem_mem _
theorem setOf_frag {l : Lg} {n : Int} {p : Pl} (h : p ∈ setOf l.frags l.w n) : ∃ f ∈ l.frags, (∀ q ∈ setOf l.frags l.w n, q ∈ f.bookies) := by
  unfold setOf at h ⊢
  split at h
  · simp at h
  · rename_i f hf
    refine ⟨f, (lastP_mem _ _ _ hf).1, ?_⟩
    intro q hq
    split at hq
    · rename_i hw
      simp only [fromPl, List.mem_map] at hq
      obtain ⟨i, _, rfl⟩ := hq
      exact getElem!_mem' (by omega) _
    · simp at hq
theorem fits_ne {l : Lg} {f t : Pl} (hF : cFits l f t = true) {n : Int} (hf : (setOf l.frags l.w n).any (· == f) = true) {p : Pl} (hp : p ∈ setOf l.frags l.w n) (hne : p ≠ f) : p ≠ t := by
  rintro rfl
  obtain ⟨g, hg, hall⟩ := setOf_frag hp
  obtain ⟨q, hq, e⟩ := List.any_eq_true.1 hf
  obtain rfl : q = f := by simpa using e
  have h1 : g.bookies.any (· == q) = true := List.any_eq_true.2 ⟨q, hall q hq, by simp⟩
  have h2 : hasOther g.bookies q p = true := List.any_eq_true.2 ⟨p, hall p hp, by simp [hne]⟩
  obtain ⟨i, hi, rfl⟩ := List.getElem_of_mem hg
  rw [cFits_no i hi h1 h2] at hF
  cases hF
theorem oth_pos {l : Lg} (h : mayLg l = true) (hw : l.w ≠ 1) {n : Int} (hn : 1 ≤ n) (f : Pl) : ∃ p r, oth l f n = p :: r := by
  obtain ⟨hlen, hw1, hw5⟩ := setOf_len h hn
  have hw2 : 2 ≤ l.w := by omega
  cases ho : oth l f n with
  | cons p r => exact ⟨p, r, rfl⟩
  | nil =>
    exfalso
    have hall : ∀ x ∈ setOf l.frags l.w n, x = f := by
      intro x hx
      have := List.filter_eq_nil_iff.1 ho x hx
      simpa using this
    simp only [mayLg, Bool.and_eq_true, fromZ, decide_eq_true_eq] at h
    obtain ⟨_, _, _, a6, _⟩ := h
    obtain ⟨g, hg, hm⟩ := fragAt_may a6 hn
    obtain ⟨j, hj, e⟩ := List.getElem_of_mem hm
    have hgood := ((mayFrs_iff _ _).1 a6).2.2.2 j hj
    simp only [setOf, hg] at hall
    have hlw : l.w ≤ g.bookies.length := by
      simp only [frGood] at hgood
      rw [e] at hgood
      exact hgood.2.2.1
    rw [if_pos ⟨by omega, hlw⟩] at hall
    obtain ⟨k, hk⟩ : ∃ k, k = ((n - g.first) % g.bookies.length).toNat := ⟨_, rfl⟩
    rw [← hk] at hall
    have hpos : 0 < g.bookies.length := by omega
    have h0 := hall (g.bookies[(k + 0) % g.bookies.length]!) (List.mem_map.2 ⟨0, by simp; omega, rfl⟩)
    have h1 := hall (g.bookies[(k + 1) % g.bookies.length]!) (List.mem_map.2 ⟨1, by simp; omega, rfl⟩)
    rw [getElem!_pos g.bookies _ (Nat.mod_lt _ hpos)] at h0 h1
    have hnd : (g.bookies.map (·.node)).Nodup := by
      simp only [frGood] at hgood
      rw [e] at hgood
      exact hgood.2.2.2.2.2
    have hlt0 := Nat.mod_lt (k + 0) hpos
    have hlt1 := Nat.mod_lt (k + 1) hpos
    have hne : (k + 0) % g.bookies.length ≠ (k + 1) % g.bookies.length := by
      rw [Nat.add_zero, mod_succ k _ hpos]
      split <;> omega
    rcases Nat.lt_or_gt_of_ne hne with hlt | hlt
    · have := List.pairwise_iff_getElem.1 hnd _ _ (by simpa using hlt0) (by simpa using hlt1) hlt
      simp only [List.getElem_map, h0, h1, ne_eq, not_true_eq_false] at this
    · have := List.pairwise_iff_getElem.1 hnd _ _ (by simpa using hlt1) (by simpa using hlt0) hlt
      simp only [List.getElem_map, h0, h1, ne_eq, not_true_eq_false] at this

/-! ### answered at once -/
/-- with so many questions and answers still to come -/
inductive EndInv (l : Lg) (f t : Pl) (now : Int) : Nat → Cp → List Rq → Prop
  | get (m : Int) (R : List Int) (hR : hadL l f m = R) (hm : m ∈ hadL l f 0) : EndInv l f t now (2 * R.length + 2) ⟨l, f, t, 1, m, [], [], now, now⟩ ((oth l f m).map (getR l m))
  | add (m : Int) (R : List Int) (b : List UInt8) (hb : b.length = 2) (hR : hadL l f m = R) (hm : m ∈ hadL l f 0) : EndInv l f t now (2 * R.length + 1) ⟨l, f, t, 2, m, [], b, now, now⟩ [addR l t m b]
  | done (born since : Int) : EndInv l f t now 0 ⟨l, f, t, 3, 0, [], [], born, since⟩ []
theorem EndInv.start {l : Lg} {f t : Pl} {now : Int} (h : (newC l f t now).2.2 = 0) : EndInv l f t now (2 * (hadL l f 0).length) (newC l f t now).1 (newC l f t now).2.1 := by
  rcases newC_cases h with ⟨n, r, hL, e⟩ | ⟨hL, e⟩
  · rw [e, hL]
    exact EndInv.get n r (hadL_next hL) (by rw [hL]; simp)
  · rw [e, hL]
    exact EndInv.done now now
theorem EndInv.zero {l : Lg} {f t : Pl} {now : Int} {c : Cp} {q : List Rq} (h : EndInv l f t now 0 c q) : c.phase = 3 ∧ q = [] := by
  generalize hk : 0 = k at h
  cases h with
  | get => omega
  | add => omega
  | done => exact ⟨rfl, rfl⟩
theorem EndInv.facts {l : Lg} {f t : Pl} {now : Int} (hok : l.ok) (hfr : frsOk l.frags) (hfl : l.frags.length ≤ 50) (hmay : mayLg l = true) {k : Nat} {c : Cp} {q : List Rq} (h : EndInv l f t now k c q) :
    Cp.sm c ∧ (frsOk c.l.frags ∧ c.l.ok ∧ (0 ≤ c.n ∧ c.n ≤ 18446744073709551615) ∧ ∀ n, (setOf c.l.frags c.l.w n).length ≤ 1000000) ∧ c.none = [] := by
  have hset : ∀ n, (setOf l.frags l.w n).length ≤ 1000000 := fun n => Nat.le_trans (setOf_le5 hmay n) (by decide)
  cases h with
  | get m R hR hm =>
    have := hadL_mem hm
    exact ⟨⟨by simp, by simp, by simp only; omega, hok⟩, ⟨hfr, hok, by simp only; omega, hset⟩, rfl⟩
  | add m R b hb hR hm =>
    have := hadL_mem hm
    exact ⟨⟨by simp, by simp only; omega, by simp only; omega, hok⟩, ⟨hfr, hok, by simp only; omega, hset⟩, rfl⟩
  | done => exact ⟨⟨by simp, by simp, by simp only; omega, hok⟩, ⟨hfr, hok, by simp, hset⟩, rfl⟩
theorem EndInv.step {l : Lg} {f t : Pl} {now : Int} (hmay : mayLg l = true) (hF : cFits l f t = true) (hw : l.w ≠ 1) {k : Nat} {c : Cp} {q : List Rq} (h : EndInv l f t now (k + 1) c q) (has : List ByteArray) :
    ∃ q0 r, q = q0 :: r ∧ (c.phase = 1 ∨ c.phase = 2) ∧ (ansC l f t has q0).1.body.length ≤ 2 ∧ q0.body.length ≤ 2 ∧ (0 ≤ q0.n ∧ q0.n ≤ 8) ∧ EndInv l f t now k (takeC c now (ansC l f t has q0).1).1 (takeC c now (ansC l f t has q0).1).2 := by
  have hft : f ≠ t := by
    simp only [cFits, Bool.and_eq_true, bne_iff_ne] at hF
    exact hF.2
  generalize hk : k + 1 = k1 at h
  cases h with
  | get m R hR hm =>
    have hmm := hadL_mem hm
    obtain ⟨p, r, hp⟩ := oth_pos hmay hw (n := m) (by omega) f
    have hpm : p ∈ oth l f m := by rw [hp]; simp
    have hpm' := hpm
    simp only [oth, List.mem_filter, Bool.not_eq_true', beq_eq_false_iff_ne] at hpm'
    have hpt := fits_ne hF hmm.2.2.2 hpm'.1 hpm'.2
    have hans : ansC l f t has (getR l m p) = (⟨p, 3, 0, l.id, m, 0, 0, bodyL m⟩, has) := by
      unfold ansC
      rw [if_neg (by simp [getR]), if_neg (by simp [getR, hpm'.2, hpt]), if_pos]
      · rfl
      simp only [Bool.and_eq_true]
      exact ⟨by simp [getR], List.any_eq_true.2 ⟨p, hpm'.1, by simp [getR]⟩⟩
    refine ⟨getR l m p, r.map (getR l m), by rw [hp]; rfl, .inl rfl, by rw [hans]; simp [bodyL], by simp [getR], by simp only [getR]; omega, ?_⟩
    rw [hans]
    have hothers : (others ⟨l, f, t, 1, m, [], [], now, now⟩).any (· == p) = true := List.any_eq_true.2 ⟨p, hpm, by simp⟩
    have htake : takeC ⟨l, f, t, 1, m, [], [], now, now⟩ now ⟨p, 3, 0, l.id, m, 0, 0, bodyL m⟩ = (⟨l, f, t, 2, m, [], bodyL m, now, now⟩, [addR l t m (bodyL m)]) := by
      unfold takeC
      rw [if_neg (by simp), if_pos (by simp only [hothers]; simp), if_pos (by simp)]
      unfold askC
      rw [if_pos rfl]
      rfl
    rw [htake]
    obtain rfl : k = 2 * R.length + 1 := by omega
    exact EndInv.add m R (bodyL m) (by simp [bodyL]) hR hm
  | add m R b hb hR hm =>
    have hmm := hadL_mem hm
    have hans : (ansC l f t has (addR l t m b)).1 = ⟨t, 1, 0, l.id, m, 0, 0, []⟩ := by
      unfold ansC
      rw [if_pos (by simp [addR])]
      rfl
    refine ⟨addR l t m b, [], rfl, .inr rfl, by rw [hans]; simp, by simp [addR]; omega, by simp only [addR]; omega, ?_⟩
    rw [hans]
    have htake : takeC ⟨l, f, t, 2, m, [], b, now, now⟩ now ⟨t, 1, 0, l.id, m, 0, 0, []⟩ = onC ⟨l, f, t, 2, m, [], b, now, now⟩ now := by
      unfold takeC
      rw [if_neg (by simp), if_neg (by simp), if_pos (by simp), if_pos (by simp)]
    rw [htake]
    obtain rfl : k = 2 * R.length := by omega
    cases R with
    | nil =>
      rw [onC_nil (c := ⟨l, f, t, 2, m, [], b, now, now⟩) hR]
      exact EndInv.done now now
    | cons n r =>
      rw [onC_cons (c := ⟨l, f, t, 2, m, [], b, now, now⟩) hR]
      exact EndInv.get n r (hadL_next hR) (by
        have h1 : n ∈ hadL l f m := by rw [hR]; simp
        unfold hadL at h1 ⊢
        split at h1
        · rename_i hc
          simp only [Bool.and_eq_true, decide_eq_true_eq] at hc
          rw [if_pos (by simp only [Bool.and_eq_true, decide_eq_true_eq]; exact ⟨hc.1, by omega⟩)]
          obtain ⟨g1, g2, g3⟩ := hadFrom_mem h1
          unfold hadFrom
          rw [List.mem_filter, List.mem_map]
          refine ⟨⟨(n - 0 - 1).toNat, ?_, by omega⟩, g3⟩
          rw [List.mem_range'_1]
          omega
        · simp at h1)
  | done => omega
end Go.AX
end
section
/-
  AX: a state told otherwise: some boxes are written no more, slots that refer to them hold plain values.
-/
set_option linter.unusedVariables false
namespace Go.AX
def tmT (H : List (Nat × Box)) : List (Nat × AV) → List (Nat × AV)
  | [] => []
  | (t, v) :: r => (t, thA H v) :: tmT H r
theorem lk_tmT (H : List (Nat × Box)) : ∀ (tm : List (Nat × AV)) (t : Nat), lk (tmT H tm) t = (lk tm t).map (thA H)
  | [], t => rfl
  | (k, v) :: r, t => by
    simp only [tmT, lk_cons]
    split
    · rfl
    · exact lk_tmT H r t
theorem Gam.told {c : Ctx} {R : Real} {s : AS} {a : Act} {w : World} (g : Gam c R s a w) : Gam c R ⟨tmT s.hp s.tm, s.nx, s.hp⟩ a w := by
  refine ⟨?_, g.size, g.lo, g.marks, g.fixed, g.boxes, g.inj, g.free, g.evo, g.own0, g.kept⟩
  intro t v hv
  rw [lk_tmT] at hv
  cases h : lk s.tm t with
  | none => rw [h] at hv; cases hv
  | some v0 =>
    rw [h] at hv
    simp only [Option.map_some, Option.some.injEq] at hv
    subst hv
    obtain ⟨x, hx, hr⟩ := g.slots t v0 h
    exact ⟨x, hx, thA_sound g hr⟩
theorem ent_told {s s' : AS} (ids : List Nat) (h : match frz s.hp ids with | some fs => entC ⟨tmT (s.app fs).hp (s.app fs).tm, (s.app fs).nx, (s.app fs).hp⟩ s' | none => False) (c : Ctx) (R : Real) (a : Act) (w : World) (g : Gam c R s a w) : ∃ R', Gam c R' s' a w := by
  split at h
  · rename_i fs hfs
    obtain ⟨g1, _⟩ := frz_sound g (fun _ _ h => h) _ _ hfs
    exact ent_of h c R a w g1.told
  · exact h.elim
end Go.AX
end
section
/-
  Law 18 (the copier), in plain terms: messages lost, doubled, turned round.
-/
set_option linter.unusedVariables false
namespace Go.AX
structure It where
  req : Rq
  resp : Rs
  answer : Bool
def rq0 : Rq := ⟨⟨0, 0⟩, 0, 0, 0, 0, 0, 0, [], []⟩
def rs0 : Rs := ⟨⟨0, 0⟩, 0, 0, 0, 0, 0, 0, []⟩
def itQ (q : Rq) : It := ⟨q, rs0, false⟩
def itA (a : Rs) : It := ⟨rq0, a, true⟩
def hasR (has : List ByteArray) (n : Int) : Prop := has[n.toNat]? = some ⟨(bodyL n).toArray⟩
/-- a request that is right -/
structure Good (l : Lg) (f t : Pl) (x : Rq) : Prop where
  had : x.n ∈ hadL l f 0
  led : x.ledger = l.id
  to : x.to ≠ f
  body : x.body.length ≤ 1000
  what : (x.kind = 3 ∧ (setOf l.frags l.w x.n).any (· == x.to) = true) ∨ (x.kind = 1 ∧ x.to = t ∧ x.copy = 1 ∧ x.body = bodyL x.n)
/-- an answer that is honest -/
structure GoodA (t : Pl) (has : List ByteArray) (a : Rs) : Prop where
  get : a.kind = 3 → a.code = 0 → a.body = bodyL a.n
  add : a.kind = 1 → a.code = 0 → a.from_ = t → hasR has a.n
  body : a.body.length ≤ 1000
  n : 0 ≤ a.n
def GoodI (l : Lg) (f t : Pl) (has : List ByteArray) (x : It) : Prop := if x.answer then GoodA t has x.resp else Good l f t x.req
structure CInv (l : Lg) (f t : Pl) (has : List ByteArray) (c : Cp) (k : Nat) : Prop where
  hl : c.l = l
  hf : c.from_ = f
  ht : c.to = t
  none : c.none.length ≤ k
  born : u64R c.born
  since : u64R c.since
  n : 0 ≤ c.n ∧ c.n ≤ 18446744073709551615
  body : c.body.length ≤ 1000
  ph : ((c.phase = 1 ∨ c.phase = 2 ∧ c.body = bodyL c.n) ∧ c.n ∈ hadL l f 0 ∧ ∀ m ∈ hadL l f 0, m < c.n → hasR has m) ∨ (c.phase = 3 ∧ ∀ m ∈ hadL l f 0, hasR has m) ∨ c.phase = 4
theorem mem_hadFrom {l : Lg} {f : Pl} {b n : Int} : n ∈ hadFrom l f b 0 ↔ b < n ∧ n ≤ l.last ∧ (setOf l.frags l.w n).any (· == f) = true := by
  constructor
  · exact hadFrom_mem
  · rintro ⟨h1, h2, h3⟩
    unfold hadFrom
    rw [List.mem_filter, List.mem_map]
    refine ⟨⟨(n - b - 1).toNat, ?_, by omega⟩, h3⟩
    rw [List.mem_range'_1]
    omega
theorem mem_hadL {l : Lg} {f : Pl} {b n : Int} : n ∈ hadL l f b ↔ cClosed l = true ∧ b < n ∧ n ≤ l.last ∧ (setOf l.frags l.w n).any (· == f) = true := by
  unfold hadL
  split
  · rename_i h
    simp only [Bool.and_eq_true, decide_eq_true_eq] at h
    rw [mem_hadFrom]
    exact ⟨fun x => ⟨h.1, x⟩, fun x => x.2⟩
  · rename_i h
    simp only [Bool.and_eq_true, decide_eq_true_eq, not_and] at h
    constructor
    · intro h; simp at h
    · rintro ⟨h1, h2, h3, -⟩
      exact absurd (h h1) (by omega)
theorem hadL_behind {l : Lg} {f : Pl} {b m : Int} (h : m ∈ hadL l f 0) (hb : b < m) : m ∈ hadL l f b := by
  rw [mem_hadL] at h ⊢
  exact ⟨h.1, hb, h.2.2⟩
theorem hadL_zero {l : Lg} {f : Pl} {b m : Int} (h : m ∈ hadL l f b) (hb : 0 ≤ b) : m ∈ hadL l f 0 := by
  rw [mem_hadL] at h ⊢
  exact ⟨h.1, by omega, h.2.2⟩
/-- the first one behind -/
theorem hadL_first {l : Lg} {f : Pl} {b n m : Int} {r : List Int} (h : hadL l f b = n :: r) (hm : m ∈ hadL l f 0) (hlt : m < n) : m ≤ b := by
  by_cases hb : b < m
  · exfalso
    have h1 := hadL_behind hm hb
    rw [h] at h1
    rcases List.mem_cons.1 h1 with rfl | h1
    · omega
    · rw [← hadL_next h, mem_hadL] at h1
      omega
  · omega
theorem getR_good {l : Lg} {f t : Pl} {n : Int} (hn : n ∈ hadL l f 0) {p : Pl} (hp : p ∈ oth l f n) : Good l f t (getR l n p) := by
  simp only [oth, List.mem_filter, Bool.not_eq_true', beq_eq_false_iff_ne] at hp
  exact ⟨hn, rfl, hp.2, by simp [getR], .inl ⟨rfl, List.any_eq_true.2 ⟨p, hp.1, by simp [getR]⟩⟩⟩
theorem addR_good {l : Lg} {f t : Pl} {n : Int} (hn : n ∈ hadL l f 0) (hft : f ≠ t) : Good l f t (addR l t n (bodyL n)) :=
  ⟨hn, rfl, fun h => hft h.symm, by simp [addR, bodyL], .inr ⟨rfl, rfl, rfl, rfl⟩⟩
section
variable {l : Lg} {f t : Pl} {has : List ByteArray} {c : Cp} {k : Nat} (hft : f ≠ t)
include hft
theorem askC_inv (h : CInv l f t has c k) (hp : c.phase = 1 ∨ c.phase = 2) {now : Int} (hnow : u64R now) : CInv l f t has (askC c now).1 k ∧ ∀ x ∈ (askC c now).2, Good l f t x := by
  obtain ⟨h1, h2, h3, h4, h5, h6, h7, h8, h9⟩ := h
  have h9 : (c.phase = 1 ∨ c.phase = 2 ∧ c.body = bodyL c.n) ∧ c.n ∈ hadL l f 0 ∧ ∀ m ∈ hadL l f 0, m < c.n → hasR has m := by
    rcases h9 with h9 | h9 | h9
    · exact h9
    · omega
    · omega
  unfold askC
  split
  · rename_i h2p
    refine ⟨⟨h1, h2, h3, h4, h5, hnow, h7, h8, .inl h9⟩, ?_⟩
    intro x hx
    simp only [List.mem_singleton] at hx
    have hb : c.body = bodyL c.n := by
      rcases h9.1 with h | h
      · omega
      · exact h.2
    have := addR_good (t := t) h9.2.1 hft
    rw [hx, h1, h3, hb]
    exact this
  · rename_i h2p
    refine ⟨⟨h1, h2, h3, ?_, h5, hnow, h7, h8, .inl h9⟩, ?_⟩
    · simp only; split
      · simp
      · exact h4
    · intro x hx
      simp only [List.mem_map, List.mem_filter] at hx
      obtain ⟨p, ⟨hp1, _⟩, rfl⟩ := hx
      have hp2 : p ∈ oth l f c.n := by
        simp only [others, h1, h2] at hp1
        exact hp1
      have := getR_good (t := t) h9.2.1 hp2
      rw [h1]
      exact this
omit hft in
theorem onC_inv (h : CInv l f t has c k) (hn : hasR has c.n) (hm : ∀ m ∈ hadL l f 0, m < c.n → hasR has m) {now : Int} (hnow : u64R now) : CInv l f t has (onC c now).1 k ∧ ∀ x ∈ (onC c now).2, Good l f t x := by
  obtain ⟨h1, h2, h3, h4, h5, h6, h7, h8, h9⟩ := h
  cases hL : hadL c.l c.from_ c.n with
  | nil =>
    rw [onC_nil hL]
    rw [h1, h2] at hL
    refine ⟨⟨h1, h2, h3, by simp, h5, h6, by simp, by simp, .inr (.inl ⟨rfl, ?_⟩)⟩, by simp⟩
    intro m hmm
    by_cases hlt : m < c.n
    · exact hm m hmm hlt
    · by_cases he : m = c.n
      · rw [he]; exact hn
      · have := hadL_behind (b := c.n) hmm (by omega)
        rw [hL] at this
        simp at this
  | cons n r =>
    rw [onC_cons hL]
    rw [h1, h2] at hL
    have hmem : n ∈ hadL l f c.n := by rw [hL]; simp
    have h0 := hadL_zero hmem h7.1
    have hb := hadL_mem hmem
    refine ⟨⟨h1, h2, h3, by simp, hnow, hnow, by simp only; omega, by simp, .inl ⟨.inl rfl, h0, ?_⟩⟩, ?_⟩
    · intro m hmm hlt
      have := hadL_first hL hmm hlt
      by_cases he : m = c.n
      · rw [he]; exact hn
      · exact hm m hmm (by omega)
    · intro x hx
      rw [h1, h2] at hx
      obtain ⟨p, hp, rfl⟩ := List.mem_map.1 hx
      exact getR_good h0 hp
omit hft in
theorem CInv.more (h : CInv l f t has c k) {k' : Nat} (hk : k ≤ k') : CInv l f t has c k' := ⟨h.1, h.2, h.3, Nat.le_trans h.4 hk, h.5, h.6, h.7, h.8, h.9⟩
theorem takeC_inv (h : CInv l f t has c k) {a : Rs} (ha : GoodA t has a) {now : Int} (hnow : u64R now) : CInv l f t has (takeC c now a).1 (k + 1) ∧ ∀ x ∈ (takeC c now a).2, Good l f t x := by
  have hk := h.more (Nat.le_succ k)
  unfold takeC
  split
  · exact ⟨hk, by simp⟩
  · rename_i h0
    simp only [Bool.or_eq_true, bne_iff_ne, ne_eq, not_or, Decidable.not_not] at h0
    obtain ⟨e1, e2, e3⟩ := h0
    split
    · rename_i hp
      simp only [Bool.and_eq_true, beq_iff_eq] at hp
      obtain ⟨hp1, hk3, ho⟩ := hp
      have hph : c.n ∈ hadL l f 0 ∧ ∀ m ∈ hadL l f 0, m < c.n → hasR has m := by
        rcases h.ph with h | h | h
        · exact h.2
        · omega
        · omega
      split
      · rename_i hc
        have hb := ha.get hk3 (by simpa using hc)
        rw [e2] at hb
        refine askC_inv hft ?_ (.inr rfl) hnow
        exact ⟨h.hl, h.hf, h.ht, hk.none, h.born, h.since, h.n, by simp only [hb]; simp [bodyL], .inl ⟨.inr ⟨rfl, hb⟩, hph⟩⟩
      · split
        · split
          · exact ⟨hk, by simp⟩
          · refine ⟨⟨h.hl, h.hf, h.ht, ?_, h.born, h.since, h.n, h.body, h.ph⟩, by simp⟩
            simp only [List.length_append, List.length_singleton]
            have := h.none
            omega
        · exact ⟨hk, by simp⟩
    · split
      · rename_i hp
        simp only [Bool.and_eq_true, beq_iff_eq] at hp
        obtain ⟨hp2, hk1, ho⟩ := hp
        have hph : c.n ∈ hadL l f 0 ∧ ∀ m ∈ hadL l f 0, m < c.n → hasR has m := by
          rcases h.ph with h | h | h
          · exact h.2
          · omega
          · omega
        split
        · rename_i hc
          simp only [Bool.and_eq_true, beq_iff_eq] at hc
          have := ha.add hk1 hc.1 (by rw [hc.2]; exact h.ht)
          rw [e2] at this
          exact onC_inv hk this hph.2 hnow
        · split
          · exact ⟨⟨h.hl, h.hf, h.ht, hk.none, h.born, h.since, h.n, h.body, .inr (.inr rfl)⟩, by simp⟩
          · exact ⟨hk, by simp⟩
      · exact ⟨hk, by simp⟩
theorem tickC_inv (h : CInv l f t has c k) {now : Int} (hnow : u64R now) : CInv l f t has (tickC c now).1 k ∧ ∀ x ∈ (tickC c now).2, Good l f t x := by
  unfold tickC
  split
  · exact ⟨h, by simp⟩
  · rename_i hp
    simp only [Bool.and_eq_true, bne_iff_ne, ne_eq, not_and, Decidable.not_not] at hp
    have hp : c.phase = 1 ∨ c.phase = 2 := by
      by_cases h1 : c.phase = 1
      · exact .inl h1
      · exact .inr (hp h1)
    split
    · exact ⟨⟨h.hl, h.hf, h.ht, h.none, h.born, h.since, h.n, h.body, .inr (.inr rfl)⟩, by simp⟩
    · split
      · exact askC_inv hft h hp hnow
      · exact ⟨h, by simp⟩
omit hft in
theorem newC_inv {now : Int} (he : (newC l f t now).2.2 = 0) (hnow : u64R now) (has : List ByteArray) : CInv l f t has (newC l f t now).1 0 ∧ ∀ x ∈ (newC l f t now).2.1, Good l f t x := by
  rcases newC_cases he with ⟨n, r, hL, e⟩ | ⟨hL, e⟩
  · rw [e]
    have h0 : n ∈ hadL l f 0 := by rw [hL]; simp
    have hb := hadL_mem h0
    refine ⟨⟨rfl, rfl, rfl, by simp, hnow, hnow, by simp only; omega, by simp, .inl ⟨.inl rfl, h0, ?_⟩⟩, ?_⟩
    · intro m hm hlt
      have h1 := hadL_first hL hm hlt
      have := (hadL_mem hm).1
      omega
    · intro x hx
      obtain ⟨p, hp, rfl⟩ := List.mem_map.1 hx
      exact getR_good h0 hp
  · rw [e]
    exact ⟨⟨rfl, rfl, rfl, by simp, hnow, hnow, by simp, by simp, .inr (.inl ⟨rfl, by rw [hL]; simp⟩)⟩, by simp⟩
omit hft in
/-- what is written stays -/
theorem hasR_set {has : List ByteArray} {m n : Int} (hl : has.length = 20) (hm : hasR has m) (h0 : 0 ≤ m) (hn : 0 ≤ n) : hasR (has.set n.toNat ⟨(bodyL n).toArray⟩) m := by
  unfold hasR at *
  rw [List.getElem?_set]
  split
  · rename_i e
    have : m = n := by omega
    subst this
    split
    · rfl
    · rename_i hh
      have := (List.getElem?_eq_some_iff.1 hm).1
      omega
  · exact hm
omit hft in
theorem hasR_new {has : List ByteArray} {n : Int} (hl : has.length = 20) (hn : 0 ≤ n ∧ n < 20) : hasR (has.set n.toNat ⟨(bodyL n).toArray⟩) n := by
  unfold hasR
  rw [List.getElem?_set]
  simp only [if_true]
  rw [if_pos (by omega)]
omit hft in
theorem ansC_good {q : Rq} (hq : Good l f t q) (hl : has.length = 20) : GoodA t (ansC l f t has q).2 (ansC l f t has q).1 ∧ (∀ m, 0 ≤ m → hasR has m → hasR (ansC l f t has q).2 m) := by
  have hb := hadL_mem hq.had
  unfold ansC
  split
  · rename_i h1
    simp only [Bool.and_eq_true, beq_iff_eq] at h1
    have hbd : q.body = bodyL q.n := by
      rcases hq.what with h | h
      · omega
      · exact h.2.2.2
    simp only [hbd]
    rw [if_pos (by simp only [decide_eq_true_eq]; omega)]
    exact ⟨⟨fun h => by simp only at h; omega, fun _ _ _ => hasR_new hl (by omega), by simp, by simp only; omega⟩, fun m h0 hm => hasR_set hl hm h0 (by omega)⟩
  · rename_i h1
    have hk3 : q.kind ≠ 1 := by
      intro hk
      rcases hq.what with h | h
      · omega
      · exact h1 (by simp [h.1, h.2.1])
    split
    · exact ⟨⟨fun _ h => by simp only at h; omega, fun h => absurd h hk3, by simp, by simp only; omega⟩, fun m _ h => h⟩
    · split
      · exact ⟨⟨fun _ _ => rfl, fun h => absurd h hk3, by simp [bodyL], by simp only; omega⟩, fun m _ h => h⟩
      · exact ⟨⟨fun _ h => by simp only at h; omega, fun h => absurd h hk3, by simp, by simp only; omega⟩, fun m _ h => h⟩
omit hft in
theorem GoodA.kept {has has' : List ByteArray} {a : Rs} (h : GoodA t has a) (hk : ∀ m, 0 ≤ m → hasR has m → hasR has' m) : GoodA t has' a := ⟨h.1, fun h1 h2 h3 => hk _ h.4 (h.2 h1 h2 h3), h.3, h.4⟩
omit hft in
theorem CInv.kept {has has' : List ByteArray} (h : CInv l f t has c k) (hk : ∀ m, 0 ≤ m → hasR has m → hasR has' m) : CInv l f t has' c k := by
  refine ⟨h.1, h.2, h.3, h.4, h.5, h.6, h.7, h.8, ?_⟩
  have h0 : ∀ m ∈ hadL l f 0, 0 ≤ m := fun m hm => by have := (hadL_mem hm).1; omega
  rcases h.ph with h | h | h
  · exact .inl ⟨h.1, h.2.1, fun m hm hlt => hk m (h0 m hm) (h.2.2 m hm hlt)⟩
  · exact .inr (.inl ⟨h.1, fun m hm => hk m (h0 m hm) (h.2 m hm)⟩)
  · exact .inr (.inr h)
end
def rightC (c : Cp) (l : Lg) (r : Rq) : Bool :=
  if !(hadL l c.from_ 0).any (· == r.n) || (r.ledger != l.id || r.to == c.from_) then false
  else if r.kind == 3 then (setOf l.frags l.w r.n).any (· == r.to)
  else r.kind == 1 && (r.to == c.to && (r.copy == 1 && decide (r.body = bodyL r.n)))
theorem rightC_good {l : Lg} {f t : Pl} {has : List ByteArray} {c : Cp} {k : Nat} (h : CInv l f t has c k) {x : Rq} (hx : Good l f t x) : rightC c l x = true := by
  unfold rightC
  rw [h.hf, h.ht]
  have h1 : (hadL l f 0).any (· == x.n) = true := List.any_eq_true.2 ⟨x.n, hx.had, by simp⟩
  rw [if_neg (by simp [h1, hx.led, hx.to])]
  rcases hx.what with h | h
  · rw [if_pos (by simp [h.1])]; exact h.2
  · rw [if_neg (by simp [h.1])]
    simp [h.1, h.2.1, h.2.2.1, h.2.2.2]
end Go.AX
end
section
/-
  Law 18 (the copier): what holds after so many events.
-/
set_option linter.unusedVariables false
namespace Go.AX
structure Ev where
  do_ : Int
  i : Int
def Ev.c (x : Ev) : List PV := [ii x.do_, ii x.i]
def slE (l : List Ev) : PV := .sl false 2 (l.map Ev.c)
def It.c (x : It) : List PV := [ii x.req.to.node, uu x.req.to.serial, ii x.req.kind, uu x.req.ledger, uu x.req.n, uu x.req.epoch, uu x.req.sure, ii x.req.copy, bys x.req.body, slU x.req.keep,
  ii x.resp.from_.node, uu x.resp.from_.serial, ii x.resp.kind, ii x.resp.code, uu x.resp.ledger, uu x.resp.n, uu x.resp.epoch, uu x.resp.sure, bys x.resp.body, bl x.answer]
theorem askC_len {c : Cp} (h : ∀ n, (setOf c.l.frags c.l.w n).length ≤ 5) (now : Int) : (askC c now).2.length ≤ 5 := by
  unfold askC
  split
  · simp
  · simp only [List.length_map]
    refine Nat.le_trans (List.length_filter_le _ _) ?_
    exact Nat.le_trans (List.length_filter_le _ _) (h _)
theorem onC_len {c : Cp} (h : ∀ n, (setOf c.l.frags c.l.w n).length ≤ 5) (now : Int) : (onC c now).2.length ≤ 5 := by
  unfold onC
  split
  · exact askC_len (c := { c with none := [], body := [], phase := 1, n := _, born := now }) h now
  · simp
theorem takeC_len {c : Cp} (h : ∀ n, (setOf c.l.frags c.l.w n).length ≤ 5) (now : Int) (r : Rs) : (takeC c now r).2.length ≤ 5 := by
  unfold takeC
  split
  · simp
  · split
    · split
      · exact askC_len (c := { c with phase := 2, body := r.body }) h now
      · split
        · simp
        · simp
    · split
      · split
        · exact onC_len h now
        · split <;> simp
      · simp
theorem tickC_len {c : Cp} (h : ∀ n, (setOf c.l.frags c.l.w n).length ≤ 5) (now : Int) : (tickC c now).2.length ≤ 5 := by
  unfold tickC
  split
  · simp
  · split
    · simp
    · split
      · exact askC_len h now
      · simp
theorem newC_len {l : Lg} {f t : Pl} {now : Int} (h : ∀ n, (setOf l.frags l.w n).length ≤ 5) : (newC l f t now).2.1.length ≤ 5 := by
  unfold newC
  split
  · exact onC_len (c := ⟨l, f, t, 0, 0, [], [], now, now⟩) h now
  · simp
theorem wrapU_range (n : Int) : u64R (IntKind.u64.wrap n) := by
  unfold u64R
  simp [IntKind.wrap, IntKind.bits, IntKind.signed]; omega
/-- the last bits of a number -/
theorem and_range (a : Int) (m : Nat) (hm : m < 2 ^ 62) : 0 ≤ IntKind.i64.wrap (BitVec.toNat (BitVec.ofInt IntKind.i64.bits a &&& BitVec.ofInt IntKind.i64.bits (m : Int))) ∧
    IntKind.i64.wrap (BitVec.toNat (BitVec.ofInt IntKind.i64.bits a &&& BitVec.ofInt IntKind.i64.bits (m : Int))) ≤ m := by
  have h1 : (BitVec.ofInt IntKind.i64.bits a &&& BitVec.ofInt IntKind.i64.bits (m : Int)).toNat ≤ m := by
    rw [BitVec.toNat_and]
    refine Nat.le_trans Nat.and_le_right ?_
    rw [BitVec.ofInt_natCast, BitVec.toNat_ofNat]
    exact Nat.mod_le _ _
  generalize (BitVec.ofInt IntKind.i64.bits a &&& BitVec.ofInt IntKind.i64.bits (m : Int)).toNat = x at *
  rw [wrapI (by omega) (by omega)]
  omega
structure DInv (l : Lg) (f t : Pl) (N i : Nat) (now : Int) (c : Cp) (q : List Rq) (has : List ByteArray) (w : List It) : Prop where
  hi : i ≤ N
  hnow : u64R now
  hc : CInv l f t has c i
  hq : ∀ x ∈ q, Good l f t x
  ql : q.length ≤ 5
  hw : ∀ x ∈ w, GoodI l f t has x
  wl : w.length ≤ 200
  hl : has.length = 20
structure WInv (l : Lg) (f t : Pl) (has : List ByteArray) (n k : Nat) (w : List It) : Prop where
  hk : k ≤ n
  hw : ∀ x ∈ w, GoodI l f t has x
  wl : w.length ≤ 200
theorem WInv.send {l : Lg} {f t : Pl} {has : List ByteArray} {n k : Nat} {w : List It} (h : WInv l f t has n k w) (hk : k < n) (hw : w.length < 200) {x : Rq} (hx : Good l f t x) : WInv l f t has n (k + 1) (w ++ [itQ x]) := by
  refine ⟨hk, ?_, by rw [List.length_append, List.length_singleton]; omega⟩
  intro y hy
  rcases List.mem_append.1 hy with hy | hy
  · exact h.hw y hy
  · simp only [List.mem_singleton] at hy
    rw [hy]
    exact hx
theorem CInv.sm {l : Lg} {f t : Pl} {has : List ByteArray} {c : Cp} {k : Nat} (h : CInv l f t has c k) (hk : k ≤ 301) (hfl : l.frags.length ≤ 50) (hok : l.ok) : Cp.sm c := by
  have := h.none
  have := h.body
  exact ⟨by omega, by omega, by rw [h.hl]; omega, by rw [h.hl]; exact hok⟩
theorem CInv.phs {l : Lg} {f t : Pl} {has : List ByteArray} {c : Cp} {k : Nat} (h : CInv l f t has c k) : decide (c.phase ≥ 1) = true ∧ decide (c.phase ≤ 4) = true := by
  simp only [decide_eq_true_eq]
  rcases h.ph with ⟨h | h, _⟩ | ⟨h, _⟩ | h <;> omega
theorem sub_mem {w : List It} {A : Nat} {x : It} (h : x ∈ w.take A ++ w.drop (A + 1)) : x ∈ w := by
  rcases List.mem_append.1 h with h | h
  · exact List.mem_of_mem_take h
  · exact List.mem_of_mem_drop h
theorem sub_len {w : List It} {A : Nat} : (w.take A ++ w.drop (A + 1)).length ≤ w.length := by
  simp only [List.length_append, List.length_take, List.length_drop]
  omega
theorem GoodI.kept {l : Lg} {f t : Pl} {has has' : List ByteArray} {x : It} (h : GoodI l f t has x) (hk : ∀ m, 0 ≤ m → hasR has m → hasR has' m) : GoodI l f t has' x := by
  unfold GoodI at *
  split
  · rename_i ha
    rw [if_pos ha] at h
    exact h.kept hk
  · rename_i ha
    rw [if_neg ha] at h
    exact h
end Go.AX
end
