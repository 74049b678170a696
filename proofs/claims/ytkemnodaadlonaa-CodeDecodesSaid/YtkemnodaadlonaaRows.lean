/-
  No cell of these rows narrows 'for every input' (looked for: loops, veiled, ifaces, maps, wideKeys, modest, calm, conditions, laid).
  DERIVED. THE GIVEN ROWS OF THIS SEAT. 9 by the template 'for every input the law returns true; each argument reads behind the call as it read before'; 0 by the template 'total and deterministic' (their statements: YtkemnodaadlonaaTotals.lean).
  GIVEN WITH THE SEED: the statements are not yours to turn. If you find one false, say at which input.
  Laid BY PROGRAM, IN A SANDBOX (cutbox-rows.mjs): the forced cells as the released guide's own fill.sh prints them over the translation 3bd88da0ce9616a3… (all of the seat's roots in one cut). By AI agents, Wed Nov 11 2026. No macro, syntax, notation, axiom, sorry.
-/
import Derived.Test.YtkemnodaadlonaaChecked
import GoSem.Claim
import GoSem.ClaimJoined
import GoSem.ClaimMapViews
import Derived.JoinedTies
import Derived.KernelRfl
namespace Go.Proofs.Ytkemnodaadlonaa
/- THE CELL 'sum', in the pinned program and in every row, IS THE sha256 OF THE DUMP (.gsa) THAT YtkemnodaadlonaaProg.lean LOADS. Nothing in Lean hashes anything: it is a label: what it is worth is what the hold of that sum in a sandbox is worth. -/
noncomputable def Try.pinned : Pinned := { name := "ytkemnodaadlonaa", sum := "3bd88da0ce9616a375fb65ec84893482b179ffbcccabffcaf5cefb7ff691783a", checked := Try.checked }
namespace Rows
def none {H : Type} : Left H := { results := [], args := [] }

/-- 'grottolaw11.CodeDecodes': WHATEVER THE INPUT: true; the input reads as it did. -/
def codeDecodesSpec : ChangeSpec := { name := "codeDecodes", fn := fun _ => fun
  | [d1, d2] => { results := [.lit (.bool true)], args := [d1, d2] }
  | _ => none }
def codeDecodesRow : OpenClaim := { program := "ytkemnodaadlonaa", sum := "3bd88da0ce9616a375fb65ec84893482b179ffbcccabffcaf5cefb7ff691783a", func := "grotto/grottolaw11.CodeDecodes", spec := "codeDecodes", unfollowed := true, recurses := true, apart := false }
def CodeDecodesSaid : Prop := codeDecodesRow.holds Try.pinned (OpenSpec.ofChange codeDecodesSpec)

/-- ITS FALSE NEIGHBOUR: 'it returns false'. Refute it at one input. -/
def codeDecodesWrong : ChangeSpec := { name := "codeDecodes", fn := fun _ => fun
  | [d1, d2] => { results := [.lit (.bool false)], args := [d1, d2] }
  | _ => none }
def CodeDecodesWrongFalsely : Prop := codeDecodesRow.holds Try.pinned (OpenSpec.ofChange codeDecodesWrong)

/-- 'grottolaw11.CodeHeads': WHATEVER THE INPUT: true; the input reads as it did. -/
def codeHeadsSpec : ChangeSpec := { name := "codeHeads", fn := fun _ => fun
  | [d1, d2] => { results := [.lit (.bool true)], args := [d1, d2] }
  | _ => none }
def codeHeadsRow : OpenClaim := { program := "ytkemnodaadlonaa", sum := "3bd88da0ce9616a375fb65ec84893482b179ffbcccabffcaf5cefb7ff691783a", func := "grotto/grottolaw11.CodeHeads", spec := "codeHeads", unfollowed := true, recurses := true, apart := false }
def CodeHeadsSaid : Prop := codeHeadsRow.holds Try.pinned (OpenSpec.ofChange codeHeadsSpec)

/-- ITS FALSE NEIGHBOUR: 'it returns false'. Refute it at one input. -/
def codeHeadsWrong : ChangeSpec := { name := "codeHeads", fn := fun _ => fun
  | [d1, d2] => { results := [.lit (.bool false)], args := [d1, d2] }
  | _ => none }
def CodeHeadsWrongFalsely : Prop := codeHeadsRow.holds Try.pinned (OpenSpec.ofChange codeHeadsWrong)

/-- 'grottolaw11.CodeJumps': WHATEVER THE INPUT: true; the input reads as it did. -/
def codeJumpsSpec : ChangeSpec := { name := "codeJumps", fn := fun _ => fun
  | [d1, d2] => { results := [.lit (.bool true)], args := [d1, d2] }
  | _ => none }
def codeJumpsRow : OpenClaim := { program := "ytkemnodaadlonaa", sum := "3bd88da0ce9616a375fb65ec84893482b179ffbcccabffcaf5cefb7ff691783a", func := "grotto/grottolaw11.CodeJumps", spec := "codeJumps", unfollowed := true, recurses := true, apart := false }
def CodeJumpsSaid : Prop := codeJumpsRow.holds Try.pinned (OpenSpec.ofChange codeJumpsSpec)

/-- ITS FALSE NEIGHBOUR: 'it returns false'. Refute it at one input. -/
def codeJumpsWrong : ChangeSpec := { name := "codeJumps", fn := fun _ => fun
  | [d1, d2] => { results := [.lit (.bool false)], args := [d1, d2] }
  | _ => none }
def CodeJumpsWrongFalsely : Prop := codeJumpsRow.holds Try.pinned (OpenSpec.ofChange codeJumpsWrong)

/-- 'grottolaw11.CodeTables': WHATEVER THE INPUT: true; the input reads as it did. -/
def codeTablesSpec : ChangeSpec := { name := "codeTables", fn := fun _ => fun
  | [d1, d2] => { results := [.lit (.bool true)], args := [d1, d2] }
  | _ => none }
def codeTablesRow : OpenClaim := { program := "ytkemnodaadlonaa", sum := "3bd88da0ce9616a375fb65ec84893482b179ffbcccabffcaf5cefb7ff691783a", func := "grotto/grottolaw11.CodeTables", spec := "codeTables", unfollowed := true, recurses := true, apart := false }
def CodeTablesSaid : Prop := codeTablesRow.holds Try.pinned (OpenSpec.ofChange codeTablesSpec)

/-- ITS FALSE NEIGHBOUR: 'it returns false'. Refute it at one input. -/
def codeTablesWrong : ChangeSpec := { name := "codeTables", fn := fun _ => fun
  | [d1, d2] => { results := [.lit (.bool false)], args := [d1, d2] }
  | _ => none }
def CodeTablesWrongFalsely : Prop := codeTablesRow.holds Try.pinned (OpenSpec.ofChange codeTablesWrong)

/-- 'grottolaw11.CodeNames': WHATEVER THE INPUT: true; the input reads as it did. -/
def codeNamesSpec : ChangeSpec := { name := "codeNames", fn := fun _ => fun
  | [d] => { results := [.lit (.bool true)], args := [d] }
  | _ => none }
def codeNamesRow : OpenClaim := { program := "ytkemnodaadlonaa", sum := "3bd88da0ce9616a375fb65ec84893482b179ffbcccabffcaf5cefb7ff691783a", func := "grotto/grottolaw11.CodeNames", spec := "codeNames", unfollowed := true, recurses := true, apart := false }
def CodeNamesSaid : Prop := codeNamesRow.holds Try.pinned (OpenSpec.ofChange codeNamesSpec)

/-- ITS FALSE NEIGHBOUR: 'it returns false'. Refute it at one input. -/
def codeNamesWrong : ChangeSpec := { name := "codeNames", fn := fun _ => fun
  | [d] => { results := [.lit (.bool false)], args := [d] }
  | _ => none }
def CodeNamesWrongFalsely : Prop := codeNamesRow.holds Try.pinned (OpenSpec.ofChange codeNamesWrong)

/-- 'grottolaw11.CodeEncodes': WHATEVER THE INPUT: true; the input reads as it did. -/
def codeEncodesSpec : ChangeSpec := { name := "codeEncodes", fn := fun _ => fun
  | [d] => { results := [.lit (.bool true)], args := [d] }
  | _ => none }
def codeEncodesRow : OpenClaim := { program := "ytkemnodaadlonaa", sum := "3bd88da0ce9616a375fb65ec84893482b179ffbcccabffcaf5cefb7ff691783a", func := "grotto/grottolaw11.CodeEncodes", spec := "codeEncodes", unfollowed := true, recurses := true, apart := false }
def CodeEncodesSaid : Prop := codeEncodesRow.holds Try.pinned (OpenSpec.ofChange codeEncodesSpec)

/-- ITS FALSE NEIGHBOUR: 'it returns false'. Refute it at one input. -/
def codeEncodesWrong : ChangeSpec := { name := "codeEncodes", fn := fun _ => fun
  | [d] => { results := [.lit (.bool false)], args := [d] }
  | _ => none }
def CodeEncodesWrongFalsely : Prop := codeEncodesRow.holds Try.pinned (OpenSpec.ofChange codeEncodesWrong)

/-- 'grottolaw11.CodeBack': WHATEVER THE INPUT: true; the input reads as it did. -/
def codeBackSpec : ChangeSpec := { name := "codeBack", fn := fun _ => fun
  | [d1, d2, d3] => { results := [.lit (.bool true)], args := [d1, d2, d3] }
  | _ => none }
def codeBackRow : OpenClaim := { program := "ytkemnodaadlonaa", sum := "3bd88da0ce9616a375fb65ec84893482b179ffbcccabffcaf5cefb7ff691783a", func := "grotto/grottolaw11.CodeBack", spec := "codeBack", unfollowed := true, recurses := true, apart := false }
def CodeBackSaid : Prop := codeBackRow.holds Try.pinned (OpenSpec.ofChange codeBackSpec)

/-- ITS FALSE NEIGHBOUR: 'it returns false'. Refute it at one input. -/
def codeBackWrong : ChangeSpec := { name := "codeBack", fn := fun _ => fun
  | [d1, d2, d3] => { results := [.lit (.bool false)], args := [d1, d2, d3] }
  | _ => none }
def CodeBackWrongFalsely : Prop := codeBackRow.holds Try.pinned (OpenSpec.ofChange codeBackWrong)

/-- 'grottolaw11.CodeForms': WHATEVER THE INPUT: true; the input reads as it did. -/
def codeFormsSpec : ChangeSpec := { name := "codeForms", fn := fun _ => fun
  | [d] => { results := [.lit (.bool true)], args := [d] }
  | _ => none }
def codeFormsRow : OpenClaim := { program := "ytkemnodaadlonaa", sum := "3bd88da0ce9616a375fb65ec84893482b179ffbcccabffcaf5cefb7ff691783a", func := "grotto/grottolaw11.CodeForms", spec := "codeForms", unfollowed := true, recurses := true, apart := false }
def CodeFormsSaid : Prop := codeFormsRow.holds Try.pinned (OpenSpec.ofChange codeFormsSpec)

/-- ITS FALSE NEIGHBOUR: 'it returns false'. Refute it at one input. -/
def codeFormsWrong : ChangeSpec := { name := "codeForms", fn := fun _ => fun
  | [d] => { results := [.lit (.bool false)], args := [d] }
  | _ => none }
def CodeFormsWrongFalsely : Prop := codeFormsRow.holds Try.pinned (OpenSpec.ofChange codeFormsWrong)

/-- 'grottolaw11.CodeCuts': WHATEVER THE INPUT: true; the input reads as it did. -/
def codeCutsSpec : ChangeSpec := { name := "codeCuts", fn := fun _ => fun
  | [d1, d2] => { results := [.lit (.bool true)], args := [d1, d2] }
  | _ => none }
def codeCutsRow : OpenClaim := { program := "ytkemnodaadlonaa", sum := "3bd88da0ce9616a375fb65ec84893482b179ffbcccabffcaf5cefb7ff691783a", func := "grotto/grottolaw11.CodeCuts", spec := "codeCuts", unfollowed := true, recurses := true, apart := false }
def CodeCutsSaid : Prop := codeCutsRow.holds Try.pinned (OpenSpec.ofChange codeCutsSpec)

/-- ITS FALSE NEIGHBOUR: 'it returns false'. Refute it at one input. -/
def codeCutsWrong : ChangeSpec := { name := "codeCuts", fn := fun _ => fun
  | [d1, d2] => { results := [.lit (.bool false)], args := [d1, d2] }
  | _ => none }
def CodeCutsWrongFalsely : Prop := codeCutsRow.holds Try.pinned (OpenSpec.ofChange codeCutsWrong)

/- THE SECOND FORM. 'bulk': how many values and letters a reading holds, each counted each time it is reached (what is shared counts as often as it is met; a slice's spare places count too). A statement '..UptoSaid' is the law's where the arguments, and the package variables that the reading takes, are together of bulk at most 1048576: NARROWER than '..Said'. Prove '..Said' where nothing that the law and all that it calls make is longer than what came in: it says more and counts as full. Else prove '..UptoSaid'. A law counts once. -/
mutual
def uptoBulk {H : Type} : DataW H → Nat
  | .lit (.string bytes) => bytes.length + 1
  | .lit _ => 1
  | .nil => 1
  | .ptr d => uptoBulk d + 1
  | .slice elems spare => uptoBulkAll elems + uptoBulkAll spare + 1
  | .agg parts => uptoBulkAll parts + 1
  | .iface _ d => uptoBulk d + 1
  | .map entries => uptoBulkEntries entries + 1
  | .held _ => 1
def uptoBulkAll {H : Type} : List (DataW H) → Nat
  | [] => 0
  | d :: r => uptoBulk d + uptoBulkAll r
def uptoBulkEntries {H : Type} : List (Lit × DataW H) → Nat
  | [] => 0
  | x :: r => uptoBulkEntry x + uptoBulkEntries r
def uptoBulkEntry {H : Type} : Lit × DataW H → Nat
  | (.string bytes, d) => bytes.length + uptoBulk d + 1
  | (_, d) => uptoBulk d + 1
 end
def uptoSmall : (H : Type) → List (DataW H) → Bool := fun _ ds => decide (uptoBulkAll ds ≤ 1048576)
def OpenSpec.upto (s : _root_.Go.ChangeSpec) : _root_.Go.OpenSpec := { _root_.Go.OpenSpec.ofChange s with cond := some uptoSmall }

/-- 'grottolaw11.CodeDecodes', WHERE WHAT IT READS IS OF BULK AT MOST 1048576: true; the input reads as it did. -/
def codeDecodesUptoRow : OpenClaim := { program := "ytkemnodaadlonaa", sum := "3bd88da0ce9616a375fb65ec84893482b179ffbcccabffcaf5cefb7ff691783a", func := "grotto/grottolaw11.CodeDecodes", spec := "codeDecodes", unfollowed := true, recurses := true, apart := false, narrowed := true }
def CodeDecodesUptoSaid : Prop := codeDecodesUptoRow.holds Try.pinned (OpenSpec.upto codeDecodesSpec)

/-- 'grottolaw11.CodeHeads', WHERE WHAT IT READS IS OF BULK AT MOST 1048576: true; the input reads as it did. -/
def codeHeadsUptoRow : OpenClaim := { program := "ytkemnodaadlonaa", sum := "3bd88da0ce9616a375fb65ec84893482b179ffbcccabffcaf5cefb7ff691783a", func := "grotto/grottolaw11.CodeHeads", spec := "codeHeads", unfollowed := true, recurses := true, apart := false, narrowed := true }
def CodeHeadsUptoSaid : Prop := codeHeadsUptoRow.holds Try.pinned (OpenSpec.upto codeHeadsSpec)

/-- 'grottolaw11.CodeJumps', WHERE WHAT IT READS IS OF BULK AT MOST 1048576: true; the input reads as it did. -/
def codeJumpsUptoRow : OpenClaim := { program := "ytkemnodaadlonaa", sum := "3bd88da0ce9616a375fb65ec84893482b179ffbcccabffcaf5cefb7ff691783a", func := "grotto/grottolaw11.CodeJumps", spec := "codeJumps", unfollowed := true, recurses := true, apart := false, narrowed := true }
def CodeJumpsUptoSaid : Prop := codeJumpsUptoRow.holds Try.pinned (OpenSpec.upto codeJumpsSpec)

/-- 'grottolaw11.CodeTables', WHERE WHAT IT READS IS OF BULK AT MOST 1048576: true; the input reads as it did. -/
def codeTablesUptoRow : OpenClaim := { program := "ytkemnodaadlonaa", sum := "3bd88da0ce9616a375fb65ec84893482b179ffbcccabffcaf5cefb7ff691783a", func := "grotto/grottolaw11.CodeTables", spec := "codeTables", unfollowed := true, recurses := true, apart := false, narrowed := true }
def CodeTablesUptoSaid : Prop := codeTablesUptoRow.holds Try.pinned (OpenSpec.upto codeTablesSpec)

/-- 'grottolaw11.CodeNames', WHERE WHAT IT READS IS OF BULK AT MOST 1048576: true; the input reads as it did. -/
def codeNamesUptoRow : OpenClaim := { program := "ytkemnodaadlonaa", sum := "3bd88da0ce9616a375fb65ec84893482b179ffbcccabffcaf5cefb7ff691783a", func := "grotto/grottolaw11.CodeNames", spec := "codeNames", unfollowed := true, recurses := true, apart := false, narrowed := true }
def CodeNamesUptoSaid : Prop := codeNamesUptoRow.holds Try.pinned (OpenSpec.upto codeNamesSpec)

/-- 'grottolaw11.CodeEncodes', WHERE WHAT IT READS IS OF BULK AT MOST 1048576: true; the input reads as it did. -/
def codeEncodesUptoRow : OpenClaim := { program := "ytkemnodaadlonaa", sum := "3bd88da0ce9616a375fb65ec84893482b179ffbcccabffcaf5cefb7ff691783a", func := "grotto/grottolaw11.CodeEncodes", spec := "codeEncodes", unfollowed := true, recurses := true, apart := false, narrowed := true }
def CodeEncodesUptoSaid : Prop := codeEncodesUptoRow.holds Try.pinned (OpenSpec.upto codeEncodesSpec)

/-- 'grottolaw11.CodeBack', WHERE WHAT IT READS IS OF BULK AT MOST 1048576: true; the input reads as it did. -/
def codeBackUptoRow : OpenClaim := { program := "ytkemnodaadlonaa", sum := "3bd88da0ce9616a375fb65ec84893482b179ffbcccabffcaf5cefb7ff691783a", func := "grotto/grottolaw11.CodeBack", spec := "codeBack", unfollowed := true, recurses := true, apart := false, narrowed := true }
def CodeBackUptoSaid : Prop := codeBackUptoRow.holds Try.pinned (OpenSpec.upto codeBackSpec)

/-- 'grottolaw11.CodeForms', WHERE WHAT IT READS IS OF BULK AT MOST 1048576: true; the input reads as it did. -/
def codeFormsUptoRow : OpenClaim := { program := "ytkemnodaadlonaa", sum := "3bd88da0ce9616a375fb65ec84893482b179ffbcccabffcaf5cefb7ff691783a", func := "grotto/grottolaw11.CodeForms", spec := "codeForms", unfollowed := true, recurses := true, apart := false, narrowed := true }
def CodeFormsUptoSaid : Prop := codeFormsUptoRow.holds Try.pinned (OpenSpec.upto codeFormsSpec)

/-- 'grottolaw11.CodeCuts', WHERE WHAT IT READS IS OF BULK AT MOST 1048576: true; the input reads as it did. -/
def codeCutsUptoRow : OpenClaim := { program := "ytkemnodaadlonaa", sum := "3bd88da0ce9616a375fb65ec84893482b179ffbcccabffcaf5cefb7ff691783a", func := "grotto/grottolaw11.CodeCuts", spec := "codeCuts", unfollowed := true, recurses := true, apart := false, narrowed := true }
def CodeCutsUptoSaid : Prop := codeCutsUptoRow.holds Try.pinned (OpenSpec.upto codeCutsSpec)

end Rows
end Go.Proofs.Ytkemnodaadlonaa
