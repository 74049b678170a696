/-
  No cell of these rows narrows 'for every input' (looked for: loops, veiled, ifaces, maps, wideKeys, modest, calm, conditions, laid).
  DERIVED. THE GIVEN ROWS OF THIS SEAT. 8 by the template 'for every input the law returns true; each argument reads behind the call as it read before'; 0 by the template 'total and deterministic' (their statements: YthbooolgpfhcmaaTotals.lean).
  GIVEN WITH THE SEED: the statements are not yours to turn. If you find one false, say at which input.
  Laid BY PROGRAM, IN A SANDBOX (cutbox-rows.mjs): the forced cells as the released guide's own fill.sh prints them over the translation 3cafa5a2bed34092… (all of the seat's roots in one cut). By AI agents, Wed Nov 11 2026. No macro, syntax, notation, axiom, sorry.
-/
import Derived.Test.YthbooolgpfhcmaaChecked
import GoSem.Claim
import GoSem.ClaimJoined
import GoSem.ClaimMapViews
import Derived.JoinedTies
import Derived.KernelRfl
namespace Go.Proofs.Ythbooolgpfhcmaa
/- THE CELL 'sum', in the pinned program and in every row, IS THE sha256 OF THE DUMP (.gsa) THAT YthbooolgpfhcmaaProg.lean LOADS. Nothing in Lean hashes anything: it is a label: what it is worth is what the hold of that sum in a sandbox is worth. -/
noncomputable def Try.pinned : Pinned := { name := "ythbooolgpfhcmaa", sum := "3cafa5a2bed340924adc772c68a5b84d434126494723cf1528bff92f477768bc", checked := Try.checked }
namespace Rows
def none {H : Type} : Left H := { results := [], args := [] }

/-- 'grottolaw10.StackFormats': WHATEVER THE INPUT: true; the input reads as it did. -/
def stackFormatsSpec : ChangeSpec := { name := "stackFormats", fn := fun _ => fun
  | [d] => { results := [.lit (.bool true)], args := [d] }
  | _ => none }
def stackFormatsRow : OpenClaim := { program := "ythbooolgpfhcmaa", sum := "3cafa5a2bed340924adc772c68a5b84d434126494723cf1528bff92f477768bc", func := "grotto/grottolaw10.StackFormats", spec := "stackFormats", unfollowed := true, recurses := true, apart := false }
def StackFormatsSaid : Prop := stackFormatsRow.holds Try.pinned (OpenSpec.ofChange stackFormatsSpec)

/-- ITS FALSE NEIGHBOUR: 'it returns false'. Refute it at one input. -/
def stackFormatsWrong : ChangeSpec := { name := "stackFormats", fn := fun _ => fun
  | [d] => { results := [.lit (.bool false)], args := [d] }
  | _ => none }
def StackFormatsWrongFalsely : Prop := stackFormatsRow.holds Try.pinned (OpenSpec.ofChange stackFormatsWrong)

/-- 'grottolaw10.StackLoads': WHATEVER THE INPUT: true; the input reads as it did. -/
def stackLoadsSpec : ChangeSpec := { name := "stackLoads", fn := fun _ => fun
  | [d1, d2] => { results := [.lit (.bool true)], args := [d1, d2] }
  | _ => none }
def stackLoadsRow : OpenClaim := { program := "ythbooolgpfhcmaa", sum := "3cafa5a2bed340924adc772c68a5b84d434126494723cf1528bff92f477768bc", func := "grotto/grottolaw10.StackLoads", spec := "stackLoads", unfollowed := true, recurses := true, apart := false }
def StackLoadsSaid : Prop := stackLoadsRow.holds Try.pinned (OpenSpec.ofChange stackLoadsSpec)

/-- ITS FALSE NEIGHBOUR: 'it returns false'. Refute it at one input. -/
def stackLoadsWrong : ChangeSpec := { name := "stackLoads", fn := fun _ => fun
  | [d1, d2] => { results := [.lit (.bool false)], args := [d1, d2] }
  | _ => none }
def StackLoadsWrongFalsely : Prop := stackLoadsRow.holds Try.pinned (OpenSpec.ofChange stackLoadsWrong)

/-- 'grottolaw10.StackRolls': WHATEVER THE INPUT: true; the input reads as it did. -/
def stackRollsSpec : ChangeSpec := { name := "stackRolls", fn := fun _ => fun
  | [d1, d2, d3] => { results := [.lit (.bool true)], args := [d1, d2, d3] }
  | _ => none }
def stackRollsRow : OpenClaim := { program := "ythbooolgpfhcmaa", sum := "3cafa5a2bed340924adc772c68a5b84d434126494723cf1528bff92f477768bc", func := "grotto/grottolaw10.StackRolls", spec := "stackRolls", unfollowed := true, recurses := true, apart := false }
def StackRollsSaid : Prop := stackRollsRow.holds Try.pinned (OpenSpec.ofChange stackRollsSpec)

/-- ITS FALSE NEIGHBOUR: 'it returns false'. Refute it at one input. -/
def stackRollsWrong : ChangeSpec := { name := "stackRolls", fn := fun _ => fun
  | [d1, d2, d3] => { results := [.lit (.bool false)], args := [d1, d2, d3] }
  | _ => none }
def StackRollsWrongFalsely : Prop := stackRollsRow.holds Try.pinned (OpenSpec.ofChange stackRollsWrong)

/-- 'grottolaw10.StackPushes': WHATEVER THE INPUT: true; the input reads as it did. -/
def stackPushesSpec : ChangeSpec := { name := "stackPushes", fn := fun _ => fun
  | [d1, d2] => { results := [.lit (.bool true)], args := [d1, d2] }
  | _ => none }
def stackPushesRow : OpenClaim := { program := "ythbooolgpfhcmaa", sum := "3cafa5a2bed340924adc772c68a5b84d434126494723cf1528bff92f477768bc", func := "grotto/grottolaw10.StackPushes", spec := "stackPushes", unfollowed := true, recurses := true, apart := false }
def StackPushesSaid : Prop := stackPushesRow.holds Try.pinned (OpenSpec.ofChange stackPushesSpec)

/-- ITS FALSE NEIGHBOUR: 'it returns false'. Refute it at one input. -/
def stackPushesWrong : ChangeSpec := { name := "stackPushes", fn := fun _ => fun
  | [d1, d2] => { results := [.lit (.bool false)], args := [d1, d2] }
  | _ => none }
def StackPushesWrongFalsely : Prop := stackPushesRow.holds Try.pinned (OpenSpec.ofChange stackPushesWrong)

/-- 'grottolaw10.StackCalls': WHATEVER THE INPUT: true; the input reads as it did. -/
def stackCallsSpec : ChangeSpec := { name := "stackCalls", fn := fun _ => fun
  | [d1, d2, d3, d4, d5] => { results := [.lit (.bool true)], args := [d1, d2, d3, d4, d5] }
  | _ => none }
def stackCallsRow : OpenClaim := { program := "ythbooolgpfhcmaa", sum := "3cafa5a2bed340924adc772c68a5b84d434126494723cf1528bff92f477768bc", func := "grotto/grottolaw10.StackCalls", spec := "stackCalls", unfollowed := true, recurses := true, apart := false }
def StackCallsSaid : Prop := stackCallsRow.holds Try.pinned (OpenSpec.ofChange stackCallsSpec)

/-- ITS FALSE NEIGHBOUR: 'it returns false'. Refute it at one input. -/
def stackCallsWrong : ChangeSpec := { name := "stackCalls", fn := fun _ => fun
  | [d1, d2, d3, d4, d5] => { results := [.lit (.bool false)], args := [d1, d2, d3, d4, d5] }
  | _ => none }
def StackCallsWrongFalsely : Prop := stackCallsRow.holds Try.pinned (OpenSpec.ofChange stackCallsWrong)

/-- 'grottolaw10.StackThrows': WHATEVER THE INPUT: true; the input reads as it did. -/
def stackThrowsSpec : ChangeSpec := { name := "stackThrows", fn := fun _ => fun
  | [d1, d2, d3, d4, d5] => { results := [.lit (.bool true)], args := [d1, d2, d3, d4, d5] }
  | _ => none }
def stackThrowsRow : OpenClaim := { program := "ythbooolgpfhcmaa", sum := "3cafa5a2bed340924adc772c68a5b84d434126494723cf1528bff92f477768bc", func := "grotto/grottolaw10.StackThrows", spec := "stackThrows", unfollowed := true, recurses := true, apart := false }
def StackThrowsSaid : Prop := stackThrowsRow.holds Try.pinned (OpenSpec.ofChange stackThrowsSpec)

/-- ITS FALSE NEIGHBOUR: 'it returns false'. Refute it at one input. -/
def stackThrowsWrong : ChangeSpec := { name := "stackThrows", fn := fun _ => fun
  | [d1, d2, d3, d4, d5] => { results := [.lit (.bool false)], args := [d1, d2, d3, d4, d5] }
  | _ => none }
def StackThrowsWrongFalsely : Prop := stackThrowsRow.holds Try.pinned (OpenSpec.ofChange stackThrowsWrong)

/-- 'grottolaw10.StackBack': WHATEVER THE INPUT: true; the input reads as it did. -/
def stackBackSpec : ChangeSpec := { name := "stackBack", fn := fun _ => fun
  | [d1, d2] => { results := [.lit (.bool true)], args := [d1, d2] }
  | _ => none }
def stackBackRow : OpenClaim := { program := "ythbooolgpfhcmaa", sum := "3cafa5a2bed340924adc772c68a5b84d434126494723cf1528bff92f477768bc", func := "grotto/grottolaw10.StackBack", spec := "stackBack", unfollowed := true, recurses := true, apart := false }
def StackBackSaid : Prop := stackBackRow.holds Try.pinned (OpenSpec.ofChange stackBackSpec)

/-- ITS FALSE NEIGHBOUR: 'it returns false'. Refute it at one input. -/
def stackBackWrong : ChangeSpec := { name := "stackBack", fn := fun _ => fun
  | [d1, d2] => { results := [.lit (.bool false)], args := [d1, d2] }
  | _ => none }
def StackBackWrongFalsely : Prop := stackBackRow.holds Try.pinned (OpenSpec.ofChange stackBackWrong)

/-- 'grottolaw10.StackNil': WHATEVER THE INPUT: true; the input reads as it did. -/
def stackNilSpec : ChangeSpec := { name := "stackNil", fn := fun _ => fun
  | [d1, d2, d3] => { results := [.lit (.bool true)], args := [d1, d2, d3] }
  | _ => none }
def stackNilRow : OpenClaim := { program := "ythbooolgpfhcmaa", sum := "3cafa5a2bed340924adc772c68a5b84d434126494723cf1528bff92f477768bc", func := "grotto/grottolaw10.StackNil", spec := "stackNil", unfollowed := true, recurses := true, apart := false }
def StackNilSaid : Prop := stackNilRow.holds Try.pinned (OpenSpec.ofChange stackNilSpec)

/-- ITS FALSE NEIGHBOUR: 'it returns false'. Refute it at one input. -/
def stackNilWrong : ChangeSpec := { name := "stackNil", fn := fun _ => fun
  | [d1, d2, d3] => { results := [.lit (.bool false)], args := [d1, d2, d3] }
  | _ => none }
def StackNilWrongFalsely : Prop := stackNilRow.holds Try.pinned (OpenSpec.ofChange stackNilWrong)

/- THE SECOND FORM. 'bulk': how many values and letters a reading holds, each counted each time it is reached (what is shared counts as often as it is met; a slice's spare places count too). A statement '..UptoSaid' is the law's where the arguments, and the package variables that the reading takes, are together of bulk at most 1048576: NARROWER than '..Said'. Prove '..Said' where nothing that the law and all that it calls make is longer than what came in: it says more and counts as full. Else prove '..UptoSaid'. A law counts once. -/
mutual
def uptoBulk {H : Type} : DataW H → Nat
  | .lit (.string bytes) => bytes.length + 1
  | .lit _ => 1
  | .nil => 1
  | .ptr d => uptoBulk d + 1
  | .slice elems spare => uptoBulkAll elems + uptoBulkAll spare + 1
  | .agg parts => uptoBulkAll parts + 1
  | .iface _ d => uptoBulk d + 1
  | .map entries => uptoBulkEntries entries + 1
  | .held _ => 1
def uptoBulkAll {H : Type} : List (DataW H) → Nat
  | [] => 0
  | d :: r => uptoBulk d + uptoBulkAll r
def uptoBulkEntries {H : Type} : List (Lit × DataW H) → Nat
  | [] => 0
  | x :: r => uptoBulkEntry x + uptoBulkEntries r
def uptoBulkEntry {H : Type} : Lit × DataW H → Nat
  | (.string bytes, d) => bytes.length + uptoBulk d + 1
  | (_, d) => uptoBulk d + 1
 end
def uptoSmall : (H : Type) → List (DataW H) → Bool := fun _ ds => decide (uptoBulkAll ds ≤ 1048576)
def OpenSpec.upto (s : _root_.Go.ChangeSpec) : _root_.Go.OpenSpec := { _root_.Go.OpenSpec.ofChange s with cond := some uptoSmall }

/-- 'grottolaw10.StackFormats', WHERE WHAT IT READS IS OF BULK AT MOST 1048576: true; the input reads as it did. -/
def stackFormatsUptoRow : OpenClaim := { program := "ythbooolgpfhcmaa", sum := "3cafa5a2bed340924adc772c68a5b84d434126494723cf1528bff92f477768bc", func := "grotto/grottolaw10.StackFormats", spec := "stackFormats", unfollowed := true, recurses := true, apart := false, narrowed := true }
def StackFormatsUptoSaid : Prop := stackFormatsUptoRow.holds Try.pinned (OpenSpec.upto stackFormatsSpec)

/-- 'grottolaw10.StackLoads', WHERE WHAT IT READS IS OF BULK AT MOST 1048576: true; the input reads as it did. -/
def stackLoadsUptoRow : OpenClaim := { program := "ythbooolgpfhcmaa", sum := "3cafa5a2bed340924adc772c68a5b84d434126494723cf1528bff92f477768bc", func := "grotto/grottolaw10.StackLoads", spec := "stackLoads", unfollowed := true, recurses := true, apart := false, narrowed := true }
def StackLoadsUptoSaid : Prop := stackLoadsUptoRow.holds Try.pinned (OpenSpec.upto stackLoadsSpec)

/-- 'grottolaw10.StackRolls', WHERE WHAT IT READS IS OF BULK AT MOST 1048576: true; the input reads as it did. -/
def stackRollsUptoRow : OpenClaim := { program := "ythbooolgpfhcmaa", sum := "3cafa5a2bed340924adc772c68a5b84d434126494723cf1528bff92f477768bc", func := "grotto/grottolaw10.StackRolls", spec := "stackRolls", unfollowed := true, recurses := true, apart := false, narrowed := true }
def StackRollsUptoSaid : Prop := stackRollsUptoRow.holds Try.pinned (OpenSpec.upto stackRollsSpec)

/-- 'grottolaw10.StackPushes', WHERE WHAT IT READS IS OF BULK AT MOST 1048576: true; the input reads as it did. -/
def stackPushesUptoRow : OpenClaim := { program := "ythbooolgpfhcmaa", sum := "3cafa5a2bed340924adc772c68a5b84d434126494723cf1528bff92f477768bc", func := "grotto/grottolaw10.StackPushes", spec := "stackPushes", unfollowed := true, recurses := true, apart := false, narrowed := true }
def StackPushesUptoSaid : Prop := stackPushesUptoRow.holds Try.pinned (OpenSpec.upto stackPushesSpec)

/-- 'grottolaw10.StackCalls', WHERE WHAT IT READS IS OF BULK AT MOST 1048576: true; the input reads as it did. -/
def stackCallsUptoRow : OpenClaim := { program := "ythbooolgpfhcmaa", sum := "3cafa5a2bed340924adc772c68a5b84d434126494723cf1528bff92f477768bc", func := "grotto/grottolaw10.StackCalls", spec := "stackCalls", unfollowed := true, recurses := true, apart := false, narrowed := true }
def StackCallsUptoSaid : Prop := stackCallsUptoRow.holds Try.pinned (OpenSpec.upto stackCallsSpec)

/-- 'grottolaw10.StackThrows', WHERE WHAT IT READS IS OF BULK AT MOST 1048576: true; the input reads as it did. -/
def stackThrowsUptoRow : OpenClaim := { program := "ythbooolgpfhcmaa", sum := "3cafa5a2bed340924adc772c68a5b84d434126494723cf1528bff92f477768bc", func := "grotto/grottolaw10.StackThrows", spec := "stackThrows", unfollowed := true, recurses := true, apart := false, narrowed := true }
def StackThrowsUptoSaid : Prop := stackThrowsUptoRow.holds Try.pinned (OpenSpec.upto stackThrowsSpec)

/-- 'grottolaw10.StackBack', WHERE WHAT IT READS IS OF BULK AT MOST 1048576: true; the input reads as it did. -/
def stackBackUptoRow : OpenClaim := { program := "ythbooolgpfhcmaa", sum := "3cafa5a2bed340924adc772c68a5b84d434126494723cf1528bff92f477768bc", func := "grotto/grottolaw10.StackBack", spec := "stackBack", unfollowed := true, recurses := true, apart := false, narrowed := true }
def StackBackUptoSaid : Prop := stackBackUptoRow.holds Try.pinned (OpenSpec.upto stackBackSpec)

/-- 'grottolaw10.StackNil', WHERE WHAT IT READS IS OF BULK AT MOST 1048576: true; the input reads as it did. -/
def stackNilUptoRow : OpenClaim := { program := "ythbooolgpfhcmaa", sum := "3cafa5a2bed340924adc772c68a5b84d434126494723cf1528bff92f477768bc", func := "grotto/grottolaw10.StackNil", spec := "stackNil", unfollowed := true, recurses := true, apart := false, narrowed := true }
def StackNilUptoSaid : Prop := stackNilUptoRow.holds Try.pinned (OpenSpec.upto stackNilSpec)

end Rows
end Go.Proofs.Ythbooolgpfhcmaa
