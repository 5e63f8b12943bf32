/-
  Contracts of functions of the program and of the document, each for every input that its premises name.
-/
import Derived.Test.YtgblabmhgdiicaaGreatAe
import Derived.Test.YtgblabmhgdiicaaGreatProg
set_option linter.unusedSectionVars false
set_option maxRecDepth 100000
set_option linter.unusedVariables false
set_option linter.unusedSimpArgs false
open Go Go.AX
namespace Go.Proofs.YtgblabmhgdiicaaGreat.Tb
def plR (x : Pl) : Prop := i64R x.node ∧ u64R x.serial
def frR (x : Fr) : Prop := u64R x.first ∧ ∀ p ∈ x.bookies, plR p
def lgF (l : Lg) : Prop := u64R l.id ∧ i64R l.w ∧ i64R l.a ∧ i64R l.closed ∧ u64R l.last ∧ ∀ f ∈ l.frags, frR f
theorem lgF.r {l : Lg} (h : lgF l) : lgR l := ⟨h.1, h.2.1, h.2.2.1, h.2.2.2.1, h.2.2.2.2.1, fun f hf => (h.2.2.2.2.2 f hf).1⟩
def mkR (x : Mk) : Prop := i64R x.producer ∧ u64R x.seq ∧ u64R x.offset
def cuR (x : Cu) : Prop := i64R x.sub ∧ u64R x.at_
def chR (x : Ch) : Prop := u64R x.epoch ∧ i64R x.owner ∧ u64R x.inc ∧ u64R x.renewed ∧ u64R x.first ∧ u64R x.trim ∧ (∀ n ∈ x.ledgers, u64R n) ∧ (∀ y ∈ x.seen, mkR y) ∧ ∀ y ∈ x.cursors, cuR y
def paR (x : Pa) : Prop := i64R x.who ∧ u64R x.inc ∧ u64R x.n ∧ i64R x.out.code ∧ u64R x.out.epoch ∧ u64R x.out.at_ ∧ u64R x.out.ledger ∧ i64R x.out.owner
def pnR (x : Pn) : Prop := u64R x.version ∧ u64R x.next ∧ (∀ c ∈ x.channels, chR c) ∧ (∀ l ∈ x.ledgers, lgF l) ∧ ∀ y ∈ x.past, paR y
section
variable (w : World)
theorem rdI : Rd Tryz.prog w 3 1 (fun row => ∃ i, row = [ii i] ∧ i64R i) :=
  (rd_int Tryz.underlying3 (by kernel_rfl)).imp fun row _ ⟨i, e, h⟩ => ⟨i, e, wf_i64 h⟩
theorem rdU : Rd Tryz.prog w 22 1 (fun row => ∃ i, row = [uu i] ∧ u64R i) :=
  (rd_int Tryz.underlying22 (by kernel_rfl)).imp fun row _ ⟨i, e, h⟩ => ⟨i, e, wf_u64 h⟩
theorem rdPl : Rd Tryz.prog w 112 2 (fun row => ∃ x : Pl, row = x.c ∧ plR x) :=
  (rd_struct (sp := [(1, _), (1, _)]) Tryz.underlying112 (by kernel_rfl) ⟨rfl, rdI w, rfl, rdU w, trivial⟩).imp fun row _ h => by
    obtain ⟨_, _, rfl, _, ⟨i, rfl, hi⟩, _, _, rfl, _, ⟨j, rfl, hj⟩, rfl⟩ := h
    exact ⟨⟨i, j⟩, rfl, hi, hj⟩
theorem rdPls : Rd Tryz.prog w 85 1 (fun row => ∃ l : List Pl, row = [slP l] ∧ ∀ x ∈ l, plR x) :=
  (rd_slice Tryz.underlying85 (by kernel_rfl) (by decide) (rdPl w)).imp fun row _ ⟨rows, e, h⟩ => by
    obtain ⟨l, rfl, hl⟩ := rows_of fun r hr => (h r hr).2
    exact ⟨l, e, hl⟩
theorem rdFr : Rd Tryz.prog w 87 2 (fun row => ∃ x : Fr, row = x.c ∧ frR x) :=
  (rd_struct (sp := [(1, _), (1, _)]) Tryz.underlying87 (by kernel_rfl) ⟨rfl, rdU w, rfl, rdPls w, trivial⟩).imp fun row _ h => by
    obtain ⟨_, _, rfl, _, ⟨i, rfl, hi⟩, _, _, rfl, _, ⟨l, rfl, hl⟩, rfl⟩ := h
    exact ⟨⟨i, l⟩, rfl, hi, hl⟩
theorem rdFrs : Rd Tryz.prog w 54 1 (fun row => ∃ l : List Fr, row = [slF l] ∧ ∀ x ∈ l, frR x) :=
  (rd_slice Tryz.underlying54 (by kernel_rfl) (by decide) (rdFr w)).imp fun row _ ⟨rows, e, h⟩ => by
    obtain ⟨l, rfl, hl⟩ := rows_of fun r hr => (h r hr).2
    exact ⟨l, e, hl⟩
theorem rdLg : Rd Tryz.prog w 56 6 (fun row => ∃ x : Lg, row = x.c ∧ lgF x) :=
  (rd_struct (sp := [(1, _), (1, _), (1, _), (1, _), (1, _), (1, _)]) Tryz.underlying56 (by kernel_rfl) ⟨rfl, rdU w, rfl, rdI w, rfl, rdI w, rfl, rdFrs w, rfl, rdI w, rfl, rdU w, trivial⟩).imp fun row _ h => by
    obtain ⟨_, _, rfl, _, ⟨i1, rfl, h1⟩, _, _, rfl, _, ⟨i2, rfl, h2⟩, _, _, rfl, _, ⟨i3, rfl, h3⟩, _, _, rfl, _, ⟨l, rfl, hl⟩, _, _, rfl, _, ⟨i4, rfl, h4⟩, _, _, rfl, _, ⟨i5, rfl, h5⟩, rfl⟩ := h
    exact ⟨⟨i1, i2, i3, l, i4, i5⟩, rfl, h1, h2, h3, h4, h5, hl⟩
theorem rdUs : Rd Tryz.prog w 38 1 (fun row => ∃ l : List Int, row = [slU l] ∧ ∀ x ∈ l, u64R x) :=
  (rd_slice Tryz.underlying38 (by kernel_rfl) (by decide) (rdU w)).imp fun row _ ⟨rows, e, h⟩ => by
    obtain ⟨l, rfl, hl⟩ := rows_of (c := uRow) fun r hr => (h r hr).2
    exact ⟨l, e, hl⟩
theorem rdMk : Rd Tryz.prog w 135 3 (fun row => ∃ x : Mk, row = x.c ∧ mkR x) :=
  (rd_struct (sp := [(1, _), (1, _), (1, _)]) Tryz.underlying135 (by kernel_rfl) ⟨rfl, rdI w, rfl, rdU w, rfl, rdU w, trivial⟩).imp fun row _ h => by
    obtain ⟨_, _, rfl, _, ⟨i, rfl, hi⟩, _, _, rfl, _, ⟨j, rfl, hj⟩, _, _, rfl, _, ⟨k, rfl, hk⟩, rfl⟩ := h
    exact ⟨⟨i, j, k⟩, rfl, hi, hj, hk⟩
theorem rdMks : Rd Tryz.prog w 39 1 (fun row => ∃ l : List Mk, row = [slM l] ∧ ∀ x ∈ l, mkR x) :=
  (rd_slice Tryz.underlying39 (by kernel_rfl) (by decide) (rdMk w)).imp fun row _ ⟨rows, e, h⟩ => by
    obtain ⟨l, rfl, hl⟩ := rows_of fun r hr => (h r hr).2
    exact ⟨l, e, hl⟩
theorem rdCu : Rd Tryz.prog w 105 2 (fun row => ∃ x : Cu, row = x.c ∧ cuR x) :=
  (rd_struct (sp := [(1, _), (1, _)]) Tryz.underlying105 (by kernel_rfl) ⟨rfl, rdI w, rfl, rdU w, trivial⟩).imp fun row _ h => by
    obtain ⟨_, _, rfl, _, ⟨i, rfl, hi⟩, _, _, rfl, _, ⟨j, rfl, hj⟩, rfl⟩ := h
    exact ⟨⟨i, j⟩, rfl, hi, hj⟩
theorem rdCus : Rd Tryz.prog w 40 1 (fun row => ∃ l : List Cu, row = [slK l] ∧ ∀ x ∈ l, cuR x) :=
  (rd_slice Tryz.underlying40 (by kernel_rfl) (by decide) (rdCu w)).imp fun row _ ⟨rows, e, h⟩ => by
    obtain ⟨l, rfl, hl⟩ := rows_of fun r hr => (h r hr).2
    exact ⟨l, e, hl⟩
theorem rdCh : Rd Tryz.prog w 42 9 (fun row => ∃ x : Ch, row = x.c ∧ chR x) :=
  (rd_struct (sp := [(1, _), (1, _), (1, _), (1, _), (1, _), (1, _), (1, _), (1, _), (1, _)]) Tryz.underlying42 (by kernel_rfl) ⟨rfl, rdU w, rfl, rdI w, rfl, rdU w, rfl, rdU w, rfl, rdU w, rfl, rdU w, rfl, rdUs w, rfl, rdMks w, rfl, rdCus w, trivial⟩).imp fun row _ h => by
    obtain ⟨_, _, rfl, _, ⟨i1, rfl, h1⟩, _, _, rfl, _, ⟨i2, rfl, h2⟩, _, _, rfl, _, ⟨i3, rfl, h3⟩, _, _, rfl, _, ⟨i4, rfl, h4⟩, _, _, rfl, _, ⟨i5, rfl, h5⟩, _, _, rfl, _, ⟨i6, rfl, h6⟩, _, _, rfl, _, ⟨l1, rfl, k1⟩, _, _, rfl, _, ⟨l2, rfl, k2⟩, _, _, rfl, _, ⟨l3, rfl, k3⟩, rfl⟩ := h
    exact ⟨⟨i1, i2, i3, i4, i5, i6, l1, l2, l3⟩, rfl, h1, h2, h3, h4, h5, h6, k1, k2, k3⟩
theorem rdChs : Rd Tryz.prog w 23 1 (fun row => ∃ l : List Ch, row = [slH l] ∧ ∀ x ∈ l, chR x) :=
  (rd_slice Tryz.underlying23 (by kernel_rfl) (by decide) (rdCh w)).imp fun row _ ⟨rows, e, h⟩ => by
    obtain ⟨l, rfl, hl⟩ := rows_of fun r hr => (h r hr).2
    exact ⟨l, e, hl⟩
theorem rdLgs : Rd Tryz.prog w 24 1 (fun row => ∃ l : List Lg, row = [slLg l] ∧ ∀ x ∈ l, lgF x) :=
  (rd_slice Tryz.underlying24 (by kernel_rfl) (by decide) (rdLg w)).imp fun row _ ⟨rows, e, h⟩ => by
    obtain ⟨l, rfl, hl⟩ := rows_of fun r hr => (h r hr).2
    exact ⟨l, e, hl⟩
theorem rdE : Rd Tryz.prog w 34 1 (fun row => ∃ i, row = [ii i] ∧ i64R i) :=
  (rd_int Tryz.underlying34 (by kernel_rfl)).imp fun row _ ⟨i, e, h⟩ => ⟨i, e, wf_i64 h⟩
theorem rdOc : Rd Tryz.prog w 73 5 (fun row => ∃ x : Oc, row = x.c ∧ i64R x.code ∧ u64R x.epoch ∧ u64R x.at_ ∧ u64R x.ledger ∧ i64R x.owner) :=
  (rd_struct (sp := [(1, _), (1, _), (1, _), (1, _), (1, _)]) Tryz.underlying73 (by kernel_rfl) ⟨rfl, rdE w, rfl, rdU w, rfl, rdU w, rfl, rdU w, rfl, rdI w, trivial⟩).imp fun row _ h => by
    obtain ⟨_, _, rfl, _, ⟨i1, rfl, h1⟩, _, _, rfl, _, ⟨i2, rfl, h2⟩, _, _, rfl, _, ⟨i3, rfl, h3⟩, _, _, rfl, _, ⟨i4, rfl, h4⟩, _, _, rfl, _, ⟨i5, rfl, h5⟩, rfl⟩ := h
    exact ⟨⟨i1, i2, i3, i4, i5⟩, rfl, h1, h2, h3, h4, h5⟩
theorem rdPa : Rd Tryz.prog w 75 8 (fun row => ∃ x : Pa, row = x.c ∧ paR x) :=
  (rd_struct (sp := [(1, _), (1, _), (1, _), (5, _)]) Tryz.underlying75 (by kernel_rfl) ⟨rfl, rdI w, rfl, rdU w, rfl, rdU w, rfl, rdOc w, trivial⟩).imp fun row _ h => by
    obtain ⟨_, _, rfl, _, ⟨i1, rfl, h1⟩, _, _, rfl, _, ⟨i2, rfl, h2⟩, _, _, rfl, _, ⟨i3, rfl, h3⟩, _, _, rfl, _, ⟨o, rfl, k1, k2, k3, k4, k5⟩, rfl⟩ := h
    exact ⟨⟨i1, i2, i3, o⟩, rfl, h1, h2, h3, k1, k2, k3, k4, k5⟩
theorem rdPas : Rd Tryz.prog w 25 1 (fun row => ∃ l : List Pa, row = [slA l] ∧ ∀ x ∈ l, paR x) :=
  (rd_slice Tryz.underlying25 (by kernel_rfl) (by decide) (rdPa w)).imp fun row _ ⟨rows, e, h⟩ => by
    obtain ⟨l, rfl, hl⟩ := rows_of fun r hr => (h r hr).2
    exact ⟨l, e, hl⟩
theorem rdPn : Rd Tryz.prog w 27 5 (fun row => ∃ x : Pn, row = x.c ∧ pnR x) :=
  (rd_struct (sp := [(1, _), (1, _), (1, _), (1, _), (1, _)]) Tryz.underlying27 (by kernel_rfl) ⟨rfl, rdU w, rfl, rdU w, rfl, rdChs w, rfl, rdLgs w, rfl, rdPas w, trivial⟩).imp fun row _ h => by
    obtain ⟨_, _, rfl, _, ⟨i1, rfl, h1⟩, _, _, rfl, _, ⟨i2, rfl, h2⟩, _, _, rfl, _, ⟨l1, rfl, k1⟩, _, _, rfl, _, ⟨l2, rfl, k2⟩, _, _, rfl, _, ⟨l3, rfl, k3⟩, rfl⟩ := h
    exact ⟨⟨i1, i2, l1, l2, l3⟩, rfl, h1, h2, k1, k2, k3⟩
end
end Go.Proofs.YtgblabmhgdiicaaGreat.Tb
