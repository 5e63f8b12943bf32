/-
  Contracts of functions of the program and of the document, each for every input that its premises name.
-/
import Derived.Test.YtpbjamihhkmgiaaAe
import Derived.Test.YtpbjamihhkmgiaaProg
set_option linter.unusedSectionVars false
set_option maxRecDepth 100000
set_option linter.unusedVariables false
set_option linter.unusedSimpArgs false
open Go Go.AX
namespace Go.Proofs.Ytpbjamihhkmgiaa.Tb
def plR (x : Pl) : Prop := i64R x.node ∧ u64R x.serial
def frR (x : Fr) : Prop := u64R x.first ∧ ∀ p ∈ x.bookies, plR p
def lgF (l : Lg) : Prop := u64R l.id ∧ i64R l.w ∧ i64R l.a ∧ i64R l.closed ∧ u64R l.last ∧ ∀ f ∈ l.frags, frR f
theorem lgF.r {l : Lg} (h : lgF l) : lgR l := ⟨h.1, h.2.1, h.2.2.1, h.2.2.2.1, h.2.2.2.2.1, fun f hf => (h.2.2.2.2.2 f hf).1⟩
def rsF (x : Rs) : Prop := plR x.from_ ∧ i64R x.kind ∧ i64R x.code ∧ u64R x.ledger ∧ u64R x.n ∧ u64R x.epoch ∧ u64R x.sure
section
variable (w : World)
theorem rdI : Rd Try.prog w 3 1 (fun row => ∃ i, row = [ii i] ∧ i64R i) :=
  (rd_int Try.underlying3 (by kernel_rfl)).imp fun row _ ⟨i, e, h⟩ => ⟨i, e, wf_i64 h⟩
theorem rdU : Rd Try.prog w 22 1 (fun row => ∃ i, row = [uu i] ∧ u64R i) :=
  (rd_int Try.underlying22 (by kernel_rfl)).imp fun row _ ⟨i, e, h⟩ => ⟨i, e, wf_u64 h⟩
theorem rdBys : Rd Try.prog w 30 1 (fun row => ∃ l : List UInt8, row = [bys l]) :=
  (rd_slice Try.underlying30 (by kernel_rfl) (by decide) (rd_int (k := .u8) Try.underlying5 (by kernel_rfl))).imp fun row _ ⟨rows, e, h⟩ => by
    obtain ⟨l, rfl, _⟩ := rows_of (c := byteRow) (R := fun _ => True) (rows := rows) fun r hr => by
      obtain ⟨_, i, rfl, hi⟩ := h r hr
      have := wf_u8 hi
      refine ⟨UInt8.ofNat i.toNat, ?_, trivial⟩
      simp only [byteRow, UInt8.toNat_ofNat']
      rw [Nat.mod_eq_of_lt (by omega), Int.toNat_of_nonneg this.1]
    exact ⟨l, e⟩
theorem rdPl : Rd Try.prog w 38 2 (fun row => ∃ x : Pl, row = x.c ∧ plR x) :=
  (rd_struct (sp := [(1, _), (1, _)]) Try.underlying38 (by kernel_rfl) ⟨rfl, rdI w, rfl, rdU w, trivial⟩).imp fun row _ h => by
    obtain ⟨_, _, rfl, _, ⟨i, rfl, hi⟩, _, _, rfl, _, ⟨j, rfl, hj⟩, rfl⟩ := h
    exact ⟨⟨i, j⟩, rfl, hi, hj⟩
theorem rdPls : Rd Try.prog w 29 1 (fun row => ∃ l : List Pl, row = [slP l] ∧ ∀ x ∈ l, plR x) :=
  (rd_slice Try.underlying29 (by kernel_rfl) (by decide) (rdPl w)).imp fun row _ ⟨rows, e, h⟩ => by
    obtain ⟨l, rfl, hl⟩ := rows_of fun r hr => (h r hr).2
    exact ⟨l, e, hl⟩
theorem rdFr : Rd Try.prog w 49 2 (fun row => ∃ x : Fr, row = x.c ∧ frR x) :=
  (rd_struct (sp := [(1, _), (1, _)]) Try.underlying49 (by kernel_rfl) ⟨rfl, rdU w, rfl, rdPls w, trivial⟩).imp fun row _ h => by
    obtain ⟨_, _, rfl, _, ⟨i, rfl, hi⟩, _, _, rfl, _, ⟨l, rfl, hl⟩, rfl⟩ := h
    exact ⟨⟨i, l⟩, rfl, hi, hl⟩
theorem rdFrs : Rd Try.prog w 23 1 (fun row => ∃ l : List Fr, row = [slF l] ∧ ∀ x ∈ l, frR x) :=
  (rd_slice Try.underlying23 (by kernel_rfl) (by decide) (rdFr w)).imp fun row _ ⟨rows, e, h⟩ => by
    obtain ⟨l, rfl, hl⟩ := rows_of fun r hr => (h r hr).2
    exact ⟨l, e, hl⟩
theorem rdLg : Rd Try.prog w 25 6 (fun row => ∃ x : Lg, row = x.c ∧ lgF x) :=
  (rd_struct (sp := [(1, _), (1, _), (1, _), (1, _), (1, _), (1, _)]) Try.underlying25 (by kernel_rfl) ⟨rfl, rdU w, rfl, rdI w, rfl, rdI w, rfl, rdFrs w, rfl, rdI w, rfl, rdU w, trivial⟩).imp fun row _ h => by
    obtain ⟨_, _, rfl, _, ⟨i1, rfl, h1⟩, _, _, rfl, _, ⟨i2, rfl, h2⟩, _, _, rfl, _, ⟨i3, rfl, h3⟩, _, _, rfl, _, ⟨l, rfl, hl⟩, _, _, rfl, _, ⟨i4, rfl, h4⟩, _, _, rfl, _, ⟨i5, rfl, h5⟩, rfl⟩ := h
    exact ⟨⟨i1, i2, i3, l, i4, i5⟩, rfl, h1, h2, h3, h4, h5, hl⟩
theorem rdRs : Rd Try.prog w 40 9 (fun row => ∃ x : Rs, row = x.c ∧ rsF x) :=
  (rd_struct (sp := [(2, _), (1, _), (1, _), (1, _), (1, _), (1, _), (1, _), (1, _)]) Try.underlying40 (by kernel_rfl) ⟨rfl, rdPl w, rfl, rdI w, rfl, rdI w, rfl, rdU w, rfl, rdU w, rfl, rdU w, rfl, rdU w, rfl, rdBys w, trivial⟩).imp fun row _ h => by
    obtain ⟨_, _, rfl, _, ⟨p, rfl, hp⟩, _, _, rfl, _, ⟨i1, rfl, h1⟩, _, _, rfl, _, ⟨i2, rfl, h2⟩, _, _, rfl, _, ⟨i3, rfl, h3⟩, _, _, rfl, _, ⟨i4, rfl, h4⟩, _, _, rfl, _, ⟨i5, rfl, h5⟩, _, _, rfl, _, ⟨i6, rfl, h6⟩, _, _, rfl, _, ⟨l, rfl⟩, rfl⟩ := h
    exact ⟨⟨p, i1, i2, i3, i4, i5, i6, l⟩, rfl, hp, h1, h2, h3, h4, h5, h6⟩
theorem rdCr : Rd Try.prog w 42 13 (fun row => ∃ x : Cr, row = x.c ∧ crR x) :=
  (rd_struct (sp := [(1, _), (1, _), (1, _), (9, _), (1, _)]) Try.underlying42 (by kernel_rfl) ⟨rfl, rdI w, rfl, rdI w, rfl, rdU w, rfl, rdRs w, rfl, rdPls w, trivial⟩).imp fun row _ h => by
    obtain ⟨_, _, rfl, _, ⟨i1, rfl, h1⟩, _, _, rfl, _, ⟨i2, rfl, h2⟩, _, _, rfl, _, ⟨i3, rfl, h3⟩, _, _, rfl, _, ⟨r, rfl, hr⟩, _, _, rfl, _, ⟨g, rfl, hg⟩, rfl⟩ := h
    exact ⟨⟨i1, i2, i3, r, g⟩, rfl, h3, hr.2.2.2.2.2.2⟩
theorem rdCrs : Rd Try.prog w 26 1 (fun row => ∃ l : List Cr, row = [slCr l] ∧ ∀ x ∈ l, crR x) :=
  (rd_slice Try.underlying26 (by kernel_rfl) (by decide) (rdCr w)).imp fun row _ ⟨rows, e, h⟩ => by
    obtain ⟨l, rfl, hl⟩ := rows_of fun r hr => (h r hr).2
    exact ⟨l, e, hl⟩
end
end Go.Proofs.Ytpbjamihhkmgiaa.Tb
