/-
  Contracts of functions of the program and of the document, each for every input that its premises name.
-/
import Derived.Test.YtibbgchpgfpccaaFR
import Derived.Test.YtibbgchpgfpccaaAd
set_option maxRecDepth 100000
set_option linter.unusedVariables false
open Go Go.AX
namespace Go.Proofs.Ytibbgchpgfpccaa.Tb
section
variable (w : World)
theorem rdEv : Rd Try.prog w 78 2 (fun row => ∃ x : Ev, row = x.c ∧ i64R x.do_ ∧ i64R x.i) :=
  (rd_struct (sp := [(1, _), (1, _)]) Try.underlying78 (by kernel_rfl) ⟨rfl, rdI w, rfl, rdI w, trivial⟩).imp fun row _ h => by
    obtain ⟨_, _, rfl, _, ⟨i, rfl, hi⟩, _, _, rfl, _, ⟨j, rfl, hj⟩, rfl⟩ := h
    exact ⟨⟨i, j⟩, rfl, hi, hj⟩
theorem rdEvs : Rd Try.prog w 71 1 (fun row => ∃ l : List Ev, row = [slE l] ∧ ∀ x ∈ l, i64R x.do_ ∧ i64R x.i) :=
  (rd_slice Try.underlying71 (by kernel_rfl) (by decide) (rdEv w)).imp fun row _ ⟨rows, e, h⟩ => by
    obtain ⟨l, rfl, hl⟩ := rows_of fun r hr => (h r hr).2
    exact ⟨l, e, hl⟩
end
end Go.Proofs.Ytibbgchpgfpccaa.Tb
