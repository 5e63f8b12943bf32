/-
  No cell of these rows narrows 'for every input' (looked for: loops, veiled, ifaces, maps, wideKeys, modest, calm, conditions, laid).
  DERIVED. THE GIVEN ROWS OF THIS SEAT. 5 by the template 'for every input the law returns true; each argument reads behind the call as it read before'; 0 by the template 'total and deterministic' (their statements: YtfoiekbkkbnpkaaGreatTotals.lean).
  GIVEN WITH THE SEED: the statements are not yours to turn. If you find one false, say at which input.
  Laid BY PROGRAM, IN A SANDBOX (cutbox-rows.mjs): the forced cells as the released guide's own fill.sh prints them over the translation d898bdf8d6843f31… (all of the seat's roots in one cut). By AI agents, Wed Nov 11 2026. No macro, syntax, notation, axiom, sorry.
-/
import Derived.Test.YtfoiekbkkbnpkaaGreatChecked
import GoSem.Claim
import GoSem.ClaimJoined
import GoSem.ClaimMapViews
import Derived.JoinedTies
import Derived.KernelRfl
namespace Go.Proofs.YtfoiekbkkbnpkaaGreat
/- THE CELL 'sum', in the pinned program and in every row, IS THE sha256 OF THE DUMP (.gsa) THAT YtfoiekbkkbnpkaaGreatProg.lean LOADS. Nothing in Lean hashes anything: it is a label: what it is worth is what the hold of that sum in a sandbox is worth. -/
noncomputable def Tryz.pinned : Pinned := { name := "ytfoiekbkkbnpkaagreat", sum := "d898bdf8d6843f318a0831f2aeb9c9ced6c33ad7227ef7caa8234b8b1e9cf868", checked := Tryz.checked }
namespace Rows
def none {H : Type} : Left H := { results := [], args := [] }

/-- 'scrivenerlaw18.CopierTakes': WHATEVER THE INPUT: true; the input reads as it did. -/
def copierTakesSpec : ChangeSpec := { name := "copierTakes", fn := fun _ => fun
  | [d1, d2, d3, d4] => { results := [.lit (.bool true)], args := [d1, d2, d3, d4] }
  | _ => none }
def copierTakesRow : OpenClaim := { program := "ytfoiekbkkbnpkaagreat", sum := "d898bdf8d6843f318a0831f2aeb9c9ced6c33ad7227ef7caa8234b8b1e9cf868", func := "scrivener/scrivenerlaw18.CopierTakes", spec := "copierTakes", unfollowed := true, recurses := true, apart := false }
def CopierTakesSaid : Prop := copierTakesRow.holds Tryz.pinned (OpenSpec.ofChange copierTakesSpec)

/-- ITS FALSE NEIGHBOUR: 'it returns false'. Refute it at one input. -/
def copierTakesWrong : ChangeSpec := { name := "copierTakes", fn := fun _ => fun
  | [d1, d2, d3, d4] => { results := [.lit (.bool false)], args := [d1, d2, d3, d4] }
  | _ => none }
def CopierTakesWrongFalsely : Prop := copierTakesRow.holds Tryz.pinned (OpenSpec.ofChange copierTakesWrong)

/-- 'scrivenerlaw15.WriterSure': WHATEVER THE INPUT: true; the input reads as it did. -/
def writerSureSpec : ChangeSpec := { name := "writerSure", fn := fun _ => fun
  | [d1, d2, d3] => { results := [.lit (.bool true)], args := [d1, d2, d3] }
  | _ => none }
def writerSureRow : OpenClaim := { program := "ytfoiekbkkbnpkaagreat", sum := "d898bdf8d6843f318a0831f2aeb9c9ced6c33ad7227ef7caa8234b8b1e9cf868", func := "scrivener/scrivenerlaw15.WriterSure", spec := "writerSure", unfollowed := true, recurses := true, apart := false }
def WriterSureSaid : Prop := writerSureRow.holds Tryz.pinned (OpenSpec.ofChange writerSureSpec)

/-- ITS FALSE NEIGHBOUR: 'it returns false'. Refute it at one input. -/
def writerSureWrong : ChangeSpec := { name := "writerSure", fn := fun _ => fun
  | [d1, d2, d3] => { results := [.lit (.bool false)], args := [d1, d2, d3] }
  | _ => none }
def WriterSureWrongFalsely : Prop := writerSureRow.holds Tryz.pinned (OpenSpec.ofChange writerSureWrong)

/-- 'scrivenerlaw15.WriterGoes': WHATEVER THE INPUT: true; the input reads as it did. -/
def writerGoesSpec : ChangeSpec := { name := "writerGoes", fn := fun _ => fun
  | [d1, d2, d3, d4] => { results := [.lit (.bool true)], args := [d1, d2, d3, d4] }
  | _ => none }
def writerGoesRow : OpenClaim := { program := "ytfoiekbkkbnpkaagreat", sum := "d898bdf8d6843f318a0831f2aeb9c9ced6c33ad7227ef7caa8234b8b1e9cf868", func := "scrivener/scrivenerlaw15.WriterGoes", spec := "writerGoes", unfollowed := true, recurses := true, apart := false }
def WriterGoesSaid : Prop := writerGoesRow.holds Tryz.pinned (OpenSpec.ofChange writerGoesSpec)

/-- ITS FALSE NEIGHBOUR: 'it returns false'. Refute it at one input. -/
def writerGoesWrong : ChangeSpec := { name := "writerGoes", fn := fun _ => fun
  | [d1, d2, d3, d4] => { results := [.lit (.bool false)], args := [d1, d2, d3, d4] }
  | _ => none }
def WriterGoesWrongFalsely : Prop := writerGoesRow.holds Tryz.pinned (OpenSpec.ofChange writerGoesWrong)

/-- 'scrivenerlaw16.RecoveryKeeps': WHATEVER THE INPUT: true; the input reads as it did. -/
def recoveryKeepsSpec : ChangeSpec := { name := "recoveryKeeps", fn := fun _ => fun
  | [d1, d2, d3] => { results := [.lit (.bool true)], args := [d1, d2, d3] }
  | _ => none }
def recoveryKeepsRow : OpenClaim := { program := "ytfoiekbkkbnpkaagreat", sum := "d898bdf8d6843f318a0831f2aeb9c9ced6c33ad7227ef7caa8234b8b1e9cf868", func := "scrivener/scrivenerlaw16.RecoveryKeeps", spec := "recoveryKeeps", unfollowed := true, recurses := true, apart := false }
def RecoveryKeepsSaid : Prop := recoveryKeepsRow.holds Tryz.pinned (OpenSpec.ofChange recoveryKeepsSpec)

/-- ITS FALSE NEIGHBOUR: 'it returns false'. Refute it at one input. -/
def recoveryKeepsWrong : ChangeSpec := { name := "recoveryKeeps", fn := fun _ => fun
  | [d1, d2, d3] => { results := [.lit (.bool false)], args := [d1, d2, d3] }
  | _ => none }
def RecoveryKeepsWrongFalsely : Prop := recoveryKeepsRow.holds Tryz.pinned (OpenSpec.ofChange recoveryKeepsWrong)

/-- 'scrivenerlaw16.RecoveryEnds': WHATEVER THE INPUT: true; the input reads as it did. -/
def recoveryEndsSpec : ChangeSpec := { name := "recoveryEnds", fn := fun _ => fun
  | [d1, d2, d3, d4, d5] => { results := [.lit (.bool true)], args := [d1, d2, d3, d4, d5] }
  | _ => none }
def recoveryEndsRow : OpenClaim := { program := "ytfoiekbkkbnpkaagreat", sum := "d898bdf8d6843f318a0831f2aeb9c9ced6c33ad7227ef7caa8234b8b1e9cf868", func := "scrivener/scrivenerlaw16.RecoveryEnds", spec := "recoveryEnds", unfollowed := true, recurses := true, apart := false }
def RecoveryEndsSaid : Prop := recoveryEndsRow.holds Tryz.pinned (OpenSpec.ofChange recoveryEndsSpec)

/-- ITS FALSE NEIGHBOUR: 'it returns false'. Refute it at one input. -/
def recoveryEndsWrong : ChangeSpec := { name := "recoveryEnds", fn := fun _ => fun
  | [d1, d2, d3, d4, d5] => { results := [.lit (.bool false)], args := [d1, d2, d3, d4, d5] }
  | _ => none }
def RecoveryEndsWrongFalsely : Prop := recoveryEndsRow.holds Tryz.pinned (OpenSpec.ofChange recoveryEndsWrong)

/- THE SECOND FORM. 'bulk': how many values and letters a reading holds, each counted each time it is reached (what is shared counts as often as it is met; a slice's spare places count too). A statement '..UptoSaid' is the law's where the arguments, and the package variables that the reading takes, are together of bulk at most 1048576: NARROWER than '..Said'. Prove '..Said' where nothing that the law and all that it calls make is longer than what came in: it says more and counts as full. Else prove '..UptoSaid'. A law counts once. -/
mutual
def uptoBulk {H : Type} : DataW H → Nat
  | .lit (.string bytes) => bytes.length + 1
  | .lit _ => 1
  | .nil => 1
  | .ptr d => uptoBulk d + 1
  | .slice elems spare => uptoBulkAll elems + uptoBulkAll spare + 1
  | .agg parts => uptoBulkAll parts + 1
  | .iface _ d => uptoBulk d + 1
  | .map entries => uptoBulkEntries entries + 1
  | .held _ => 1
def uptoBulkAll {H : Type} : List (DataW H) → Nat
  | [] => 0
  | d :: r => uptoBulk d + uptoBulkAll r
def uptoBulkEntries {H : Type} : List (Lit × DataW H) → Nat
  | [] => 0
  | x :: r => uptoBulkEntry x + uptoBulkEntries r
def uptoBulkEntry {H : Type} : Lit × DataW H → Nat
  | (.string bytes, d) => bytes.length + uptoBulk d + 1
  | (_, d) => uptoBulk d + 1
 end
def uptoSmall : (H : Type) → List (DataW H) → Bool := fun _ ds => decide (uptoBulkAll ds ≤ 1048576)
def OpenSpec.upto (s : _root_.Go.ChangeSpec) : _root_.Go.OpenSpec := { _root_.Go.OpenSpec.ofChange s with cond := some uptoSmall }

/-- 'scrivenerlaw18.CopierTakes', WHERE WHAT IT READS IS OF BULK AT MOST 1048576: true; the input reads as it did. -/
def copierTakesUptoRow : OpenClaim := { program := "ytfoiekbkkbnpkaagreat", sum := "d898bdf8d6843f318a0831f2aeb9c9ced6c33ad7227ef7caa8234b8b1e9cf868", func := "scrivener/scrivenerlaw18.CopierTakes", spec := "copierTakes", unfollowed := true, recurses := true, apart := false, narrowed := true }
def CopierTakesUptoSaid : Prop := copierTakesUptoRow.holds Tryz.pinned (OpenSpec.upto copierTakesSpec)

/-- 'scrivenerlaw15.WriterSure', WHERE WHAT IT READS IS OF BULK AT MOST 1048576: true; the input reads as it did. -/
def writerSureUptoRow : OpenClaim := { program := "ytfoiekbkkbnpkaagreat", sum := "d898bdf8d6843f318a0831f2aeb9c9ced6c33ad7227ef7caa8234b8b1e9cf868", func := "scrivener/scrivenerlaw15.WriterSure", spec := "writerSure", unfollowed := true, recurses := true, apart := false, narrowed := true }
def WriterSureUptoSaid : Prop := writerSureUptoRow.holds Tryz.pinned (OpenSpec.upto writerSureSpec)

/-- 'scrivenerlaw15.WriterGoes', WHERE WHAT IT READS IS OF BULK AT MOST 1048576: true; the input reads as it did. -/
def writerGoesUptoRow : OpenClaim := { program := "ytfoiekbkkbnpkaagreat", sum := "d898bdf8d6843f318a0831f2aeb9c9ced6c33ad7227ef7caa8234b8b1e9cf868", func := "scrivener/scrivenerlaw15.WriterGoes", spec := "writerGoes", unfollowed := true, recurses := true, apart := false, narrowed := true }
def WriterGoesUptoSaid : Prop := writerGoesUptoRow.holds Tryz.pinned (OpenSpec.upto writerGoesSpec)

/-- 'scrivenerlaw16.RecoveryKeeps', WHERE WHAT IT READS IS OF BULK AT MOST 1048576: true; the input reads as it did. -/
def recoveryKeepsUptoRow : OpenClaim := { program := "ytfoiekbkkbnpkaagreat", sum := "d898bdf8d6843f318a0831f2aeb9c9ced6c33ad7227ef7caa8234b8b1e9cf868", func := "scrivener/scrivenerlaw16.RecoveryKeeps", spec := "recoveryKeeps", unfollowed := true, recurses := true, apart := false, narrowed := true }
def RecoveryKeepsUptoSaid : Prop := recoveryKeepsUptoRow.holds Tryz.pinned (OpenSpec.upto recoveryKeepsSpec)

/-- 'scrivenerlaw16.RecoveryEnds', WHERE WHAT IT READS IS OF BULK AT MOST 1048576: true; the input reads as it did. -/
def recoveryEndsUptoRow : OpenClaim := { program := "ytfoiekbkkbnpkaagreat", sum := "d898bdf8d6843f318a0831f2aeb9c9ced6c33ad7227ef7caa8234b8b1e9cf868", func := "scrivener/scrivenerlaw16.RecoveryEnds", spec := "recoveryEnds", unfollowed := true, recurses := true, apart := false, narrowed := true }
def RecoveryEndsUptoSaid : Prop := recoveryEndsUptoRow.holds Tryz.pinned (OpenSpec.upto recoveryEndsSpec)

end Rows
end Go.Proofs.YtfoiekbkkbnpkaaGreat
