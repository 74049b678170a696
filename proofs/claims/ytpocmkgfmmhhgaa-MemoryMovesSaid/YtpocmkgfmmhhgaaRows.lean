/-
  No cell of these rows narrows 'for every input' (looked for: loops, veiled, ifaces, maps, wideKeys, modest, calm, conditions, laid).
  DERIVED. THE GIVEN ROWS OF THIS SEAT. 5 by the template 'for every input the law returns true; each argument reads behind the call as it read before'; 0 by the template 'total and deterministic' (their statements: YtpocmkgfmmhhgaaTotals.lean).
  GIVEN WITH THE SEED: the statements are not yours to turn. If you find one false, say at which input.
  Laid BY PROGRAM, IN A SANDBOX (cutbox-rows.mjs): the forced cells as the released guide's own fill.sh prints them over the translation fb17cf4f1d95fde2… (all of the seat's roots in one cut). By AI agents, Wed Nov 11 2026. No macro, syntax, notation, axiom, sorry.
-/
import Derived.Test.YtpocmkgfmmhhgaaChecked
import GoSem.Claim
import GoSem.ClaimJoined
import GoSem.ClaimMapViews
import Derived.JoinedTies
import Derived.KernelRfl
namespace Go.Proofs.Ytpocmkgfmmhhgaa
/- THE CELL 'sum', in the pinned program and in every row, IS THE sha256 OF THE DUMP (.gsa) THAT YtpocmkgfmmhhgaaProg.lean LOADS. Nothing in Lean hashes anything: it is a label: what it is worth is what the hold of that sum in a sandbox is worth. -/
noncomputable def Try.pinned : Pinned := { name := "ytpocmkgfmmhhgaa", sum := "fb17cf4f1d95fde22a1c09a66b3827eb139715324b8b68762da146b4b8cd667c", checked := Try.checked }
namespace Rows
def none {H : Type} : Left H := { results := [], args := [] }

/-- 'grottolaw09.MemoryHolds': WHATEVER THE INPUT: true; the input reads as it did. -/
def memoryHoldsSpec : ChangeSpec := { name := "memoryHolds", fn := fun _ => fun
  | [d1, d2, d3, d4] => { results := [.lit (.bool true)], args := [d1, d2, d3, d4] }
  | _ => none }
def memoryHoldsRow : OpenClaim := { program := "ytpocmkgfmmhhgaa", sum := "fb17cf4f1d95fde22a1c09a66b3827eb139715324b8b68762da146b4b8cd667c", func := "grotto/grottolaw09.MemoryHolds", spec := "memoryHolds", inPlace := ["slices.overlaps[grotto/api.Block]"], unfollowed := true, recurses := true, apart := false }
def MemoryHoldsSaid : Prop := memoryHoldsRow.holds Try.pinned (OpenSpec.ofChange memoryHoldsSpec)

/-- ITS FALSE NEIGHBOUR: 'it returns false'. Refute it at one input. -/
def memoryHoldsWrong : ChangeSpec := { name := "memoryHolds", fn := fun _ => fun
  | [d1, d2, d3, d4] => { results := [.lit (.bool false)], args := [d1, d2, d3, d4] }
  | _ => none }
def MemoryHoldsWrongFalsely : Prop := memoryHoldsRow.holds Try.pinned (OpenSpec.ofChange memoryHoldsWrong)

/-- 'grottolaw09.MemoryMoves': WHATEVER THE INPUT: true; the input reads as it did. -/
def memoryMovesSpec : ChangeSpec := { name := "memoryMoves", fn := fun _ => fun
  | [d1, d2, d3, d4] => { results := [.lit (.bool true)], args := [d1, d2, d3, d4] }
  | _ => none }
def memoryMovesRow : OpenClaim := { program := "ytpocmkgfmmhhgaa", sum := "fb17cf4f1d95fde22a1c09a66b3827eb139715324b8b68762da146b4b8cd667c", func := "grotto/grottolaw09.MemoryMoves", spec := "memoryMoves", inPlace := ["slices.overlaps[grotto/api.Block]"], unfollowed := true, recurses := true, apart := false }
def MemoryMovesSaid : Prop := memoryMovesRow.holds Try.pinned (OpenSpec.ofChange memoryMovesSpec)

/-- ITS FALSE NEIGHBOUR: 'it returns false'. Refute it at one input. -/
def memoryMovesWrong : ChangeSpec := { name := "memoryMoves", fn := fun _ => fun
  | [d1, d2, d3, d4] => { results := [.lit (.bool false)], args := [d1, d2, d3, d4] }
  | _ => none }
def MemoryMovesWrongFalsely : Prop := memoryMovesRow.holds Try.pinned (OpenSpec.ofChange memoryMovesWrong)

/-- 'grottolaw09.MemoryProtects': WHATEVER THE INPUT: true; the input reads as it did. -/
def memoryProtectsSpec : ChangeSpec := { name := "memoryProtects", fn := fun _ => fun
  | [d1, d2, d3] => { results := [.lit (.bool true)], args := [d1, d2, d3] }
  | _ => none }
def memoryProtectsRow : OpenClaim := { program := "ytpocmkgfmmhhgaa", sum := "fb17cf4f1d95fde22a1c09a66b3827eb139715324b8b68762da146b4b8cd667c", func := "grotto/grottolaw09.MemoryProtects", spec := "memoryProtects", inPlace := ["slices.overlaps[grotto/api.Block]"], unfollowed := true, recurses := true, apart := false }
def MemoryProtectsSaid : Prop := memoryProtectsRow.holds Try.pinned (OpenSpec.ofChange memoryProtectsSpec)

/-- ITS FALSE NEIGHBOUR: 'it returns false'. Refute it at one input. -/
def memoryProtectsWrong : ChangeSpec := { name := "memoryProtects", fn := fun _ => fun
  | [d1, d2, d3] => { results := [.lit (.bool false)], args := [d1, d2, d3] }
  | _ => none }
def MemoryProtectsWrongFalsely : Prop := memoryProtectsRow.holds Try.pinned (OpenSpec.ofChange memoryProtectsWrong)

/-- 'grottolaw09.MemoryGrows': WHATEVER THE INPUT: true; the input reads as it did. -/
def memoryGrowsSpec : ChangeSpec := { name := "memoryGrows", fn := fun _ => fun
  | [d1, d2, d3] => { results := [.lit (.bool true)], args := [d1, d2, d3] }
  | _ => none }
def memoryGrowsRow : OpenClaim := { program := "ytpocmkgfmmhhgaa", sum := "fb17cf4f1d95fde22a1c09a66b3827eb139715324b8b68762da146b4b8cd667c", func := "grotto/grottolaw09.MemoryGrows", spec := "memoryGrows", inPlace := ["slices.overlaps[grotto/api.Block]"], unfollowed := true, recurses := true, apart := false }
def MemoryGrowsSaid : Prop := memoryGrowsRow.holds Try.pinned (OpenSpec.ofChange memoryGrowsSpec)

/-- ITS FALSE NEIGHBOUR: 'it returns false'. Refute it at one input. -/
def memoryGrowsWrong : ChangeSpec := { name := "memoryGrows", fn := fun _ => fun
  | [d1, d2, d3] => { results := [.lit (.bool false)], args := [d1, d2, d3] }
  | _ => none }
def MemoryGrowsWrongFalsely : Prop := memoryGrowsRow.holds Try.pinned (OpenSpec.ofChange memoryGrowsWrong)

/-- 'grottolaw09.MemoryNil': WHATEVER THE INPUT: true; the input reads as it did. -/
def memoryNilSpec : ChangeSpec := { name := "memoryNil", fn := fun _ => fun
  | [d1, d2, d3] => { results := [.lit (.bool true)], args := [d1, d2, d3] }
  | _ => none }
def memoryNilRow : OpenClaim := { program := "ytpocmkgfmmhhgaa", sum := "fb17cf4f1d95fde22a1c09a66b3827eb139715324b8b68762da146b4b8cd667c", func := "grotto/grottolaw09.MemoryNil", spec := "memoryNil", inPlace := ["slices.overlaps[grotto/api.Block]"], unfollowed := true, recurses := true, apart := false }
def MemoryNilSaid : Prop := memoryNilRow.holds Try.pinned (OpenSpec.ofChange memoryNilSpec)

/-- ITS FALSE NEIGHBOUR: 'it returns false'. Refute it at one input. -/
def memoryNilWrong : ChangeSpec := { name := "memoryNil", fn := fun _ => fun
  | [d1, d2, d3] => { results := [.lit (.bool false)], args := [d1, d2, d3] }
  | _ => none }
def MemoryNilWrongFalsely : Prop := memoryNilRow.holds Try.pinned (OpenSpec.ofChange memoryNilWrong)

/- THE SECOND FORM. 'bulk': how many values and letters a reading holds, each counted each time it is reached (what is shared counts as often as it is met; a slice's spare places count too). A statement '..UptoSaid' is the law's where the arguments, and the package variables that the reading takes, are together of bulk at most 1048576: NARROWER than '..Said'. Prove '..Said' where nothing that the law and all that it calls make is longer than what came in: it says more and counts as full. Else prove '..UptoSaid'. A law counts once. -/
mutual
def uptoBulk {H : Type} : DataW H → Nat
  | .lit (.string bytes) => bytes.length + 1
  | .lit _ => 1
  | .nil => 1
  | .ptr d => uptoBulk d + 1
  | .slice elems spare => uptoBulkAll elems + uptoBulkAll spare + 1
  | .agg parts => uptoBulkAll parts + 1
  | .iface _ d => uptoBulk d + 1
  | .map entries => uptoBulkEntries entries + 1
  | .held _ => 1
def uptoBulkAll {H : Type} : List (DataW H) → Nat
  | [] => 0
  | d :: r => uptoBulk d + uptoBulkAll r
def uptoBulkEntries {H : Type} : List (Lit × DataW H) → Nat
  | [] => 0
  | x :: r => uptoBulkEntry x + uptoBulkEntries r
def uptoBulkEntry {H : Type} : Lit × DataW H → Nat
  | (.string bytes, d) => bytes.length + uptoBulk d + 1
  | (_, d) => uptoBulk d + 1
 end
def uptoSmall : (H : Type) → List (DataW H) → Bool := fun _ ds => decide (uptoBulkAll ds ≤ 1048576)
def OpenSpec.upto (s : _root_.Go.ChangeSpec) : _root_.Go.OpenSpec := { _root_.Go.OpenSpec.ofChange s with cond := some uptoSmall }

/-- 'grottolaw09.MemoryHolds', WHERE WHAT IT READS IS OF BULK AT MOST 1048576: true; the input reads as it did. -/
def memoryHoldsUptoRow : OpenClaim := { program := "ytpocmkgfmmhhgaa", sum := "fb17cf4f1d95fde22a1c09a66b3827eb139715324b8b68762da146b4b8cd667c", func := "grotto/grottolaw09.MemoryHolds", spec := "memoryHolds", inPlace := ["slices.overlaps[grotto/api.Block]"], unfollowed := true, recurses := true, apart := false, narrowed := true }
def MemoryHoldsUptoSaid : Prop := memoryHoldsUptoRow.holds Try.pinned (OpenSpec.upto memoryHoldsSpec)

/-- 'grottolaw09.MemoryMoves', WHERE WHAT IT READS IS OF BULK AT MOST 1048576: true; the input reads as it did. -/
def memoryMovesUptoRow : OpenClaim := { program := "ytpocmkgfmmhhgaa", sum := "fb17cf4f1d95fde22a1c09a66b3827eb139715324b8b68762da146b4b8cd667c", func := "grotto/grottolaw09.MemoryMoves", spec := "memoryMoves", inPlace := ["slices.overlaps[grotto/api.Block]"], unfollowed := true, recurses := true, apart := false, narrowed := true }
def MemoryMovesUptoSaid : Prop := memoryMovesUptoRow.holds Try.pinned (OpenSpec.upto memoryMovesSpec)

/-- 'grottolaw09.MemoryProtects', WHERE WHAT IT READS IS OF BULK AT MOST 1048576: true; the input reads as it did. -/
def memoryProtectsUptoRow : OpenClaim := { program := "ytpocmkgfmmhhgaa", sum := "fb17cf4f1d95fde22a1c09a66b3827eb139715324b8b68762da146b4b8cd667c", func := "grotto/grottolaw09.MemoryProtects", spec := "memoryProtects", inPlace := ["slices.overlaps[grotto/api.Block]"], unfollowed := true, recurses := true, apart := false, narrowed := true }
def MemoryProtectsUptoSaid : Prop := memoryProtectsUptoRow.holds Try.pinned (OpenSpec.upto memoryProtectsSpec)

/-- 'grottolaw09.MemoryGrows', WHERE WHAT IT READS IS OF BULK AT MOST 1048576: true; the input reads as it did. -/
def memoryGrowsUptoRow : OpenClaim := { program := "ytpocmkgfmmhhgaa", sum := "fb17cf4f1d95fde22a1c09a66b3827eb139715324b8b68762da146b4b8cd667c", func := "grotto/grottolaw09.MemoryGrows", spec := "memoryGrows", inPlace := ["slices.overlaps[grotto/api.Block]"], unfollowed := true, recurses := true, apart := false, narrowed := true }
def MemoryGrowsUptoSaid : Prop := memoryGrowsUptoRow.holds Try.pinned (OpenSpec.upto memoryGrowsSpec)

/-- 'grottolaw09.MemoryNil', WHERE WHAT IT READS IS OF BULK AT MOST 1048576: true; the input reads as it did. -/
def memoryNilUptoRow : OpenClaim := { program := "ytpocmkgfmmhhgaa", sum := "fb17cf4f1d95fde22a1c09a66b3827eb139715324b8b68762da146b4b8cd667c", func := "grotto/grottolaw09.MemoryNil", spec := "memoryNil", inPlace := ["slices.overlaps[grotto/api.Block]"], unfollowed := true, recurses := true, apart := false, narrowed := true }
def MemoryNilUptoSaid : Prop := memoryNilUptoRow.holds Try.pinned (OpenSpec.upto memoryNilSpec)

end Rows
end Go.Proofs.Ytpocmkgfmmhhgaa
