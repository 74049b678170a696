/-
  No cell of these rows narrows 'for every input' (looked for: loops, veiled, ifaces, maps, wideKeys, modest, calm, conditions, laid).
  DERIVED. THE GIVEN ROWS OF THIS SEAT. 7 by the template 'for every input the law returns true; each argument reads behind the call as it read before'; 0 by the template 'total and deterministic' (their statements: YtkmkbpnlccomnaaTotals.lean).
  GIVEN WITH THE SEED: the statements are not yours to turn. If you find one false, say at which input.
  Laid BY PROGRAM, IN A SANDBOX (cutbox-rows.mjs): the forced cells as the released guide's own fill.sh prints them over the translation e9331ccef05a368a… (all of the seat's roots in one cut). By AI agents, Wed Nov 11 2026. No macro, syntax, notation, axiom, sorry.
-/
import Derived.Test.YtkmkbpnlccomnaaChecked
import GoSem.Claim
import GoSem.ClaimJoined
import GoSem.ClaimMapViews
import Derived.JoinedTies
import Derived.KernelRfl
namespace Go.Proofs.Ytkmkbpnlccomnaa
/- THE CELL 'sum', in the pinned program and in every row, IS THE sha256 OF THE DUMP (.gsa) THAT YtkmkbpnlccomnaaProg.lean LOADS. Nothing in Lean hashes anything: it is a label: what it is worth is what the hold of that sum in a sandbox is worth. -/
noncomputable def Try.pinned : Pinned := { name := "ytkmkbpnlccomnaa", sum := "e9331ccef05a368ab47c639473a09e6fbd59f23e65191889cab13f5188f5a84d", checked := Try.checked }
namespace Rows
def none {H : Type} : Left H := { results := [], args := [] }

/-- 'grottolaw06.BlorbReads': WHATEVER THE INPUT: true; the input reads as it did. -/
def blorbReadsSpec : ChangeSpec := { name := "blorbReads", fn := fun _ => fun
  | [d] => { results := [.lit (.bool true)], args := [d] }
  | _ => none }
def blorbReadsRow : OpenClaim := { program := "ytkmkbpnlccomnaa", sum := "e9331ccef05a368ab47c639473a09e6fbd59f23e65191889cab13f5188f5a84d", func := "grotto/grottolaw06.BlorbReads", spec := "blorbReads", plainKeys := false, apart := false }
def BlorbReadsSaid : Prop := blorbReadsRow.holds Try.pinned (OpenSpec.ofChange blorbReadsSpec)

/-- ITS FALSE NEIGHBOUR: 'it returns false'. Refute it at one input. -/
def blorbReadsWrong : ChangeSpec := { name := "blorbReads", fn := fun _ => fun
  | [d] => { results := [.lit (.bool false)], args := [d] }
  | _ => none }
def BlorbReadsWrongFalsely : Prop := blorbReadsRow.holds Try.pinned (OpenSpec.ofChange blorbReadsWrong)

/-- 'grottolaw06.BlorbLays': WHATEVER THE INPUT: true; the input reads as it did. -/
def blorbLaysSpec : ChangeSpec := { name := "blorbLays", fn := fun _ => fun
  | [d] => { results := [.lit (.bool true)], args := [d] }
  | _ => none }
def blorbLaysRow : OpenClaim := { program := "ytkmkbpnlccomnaa", sum := "e9331ccef05a368ab47c639473a09e6fbd59f23e65191889cab13f5188f5a84d", func := "grotto/grottolaw06.BlorbLays", spec := "blorbLays", plainKeys := false, apart := false }
def BlorbLaysSaid : Prop := blorbLaysRow.holds Try.pinned (OpenSpec.ofChange blorbLaysSpec)

/-- ITS FALSE NEIGHBOUR: 'it returns false'. Refute it at one input. -/
def blorbLaysWrong : ChangeSpec := { name := "blorbLays", fn := fun _ => fun
  | [d] => { results := [.lit (.bool false)], args := [d] }
  | _ => none }
def BlorbLaysWrongFalsely : Prop := blorbLaysRow.holds Try.pinned (OpenSpec.ofChange blorbLaysWrong)

/-- 'grottolaw06.BlorbGames': WHATEVER THE INPUT: true; the input reads as it did. -/
def blorbGamesSpec : ChangeSpec := { name := "blorbGames", fn := fun _ => fun
  | [d] => { results := [.lit (.bool true)], args := [d] }
  | _ => none }
def blorbGamesRow : OpenClaim := { program := "ytkmkbpnlccomnaa", sum := "e9331ccef05a368ab47c639473a09e6fbd59f23e65191889cab13f5188f5a84d", func := "grotto/grottolaw06.BlorbGames", spec := "blorbGames", plainKeys := false, apart := false }
def BlorbGamesSaid : Prop := blorbGamesRow.holds Try.pinned (OpenSpec.ofChange blorbGamesSpec)

/-- ITS FALSE NEIGHBOUR: 'it returns false'. Refute it at one input. -/
def blorbGamesWrong : ChangeSpec := { name := "blorbGames", fn := fun _ => fun
  | [d] => { results := [.lit (.bool false)], args := [d] }
  | _ => none }
def BlorbGamesWrongFalsely : Prop := blorbGamesRow.holds Try.pinned (OpenSpec.ofChange blorbGamesWrong)

/-- 'grottolaw06.BlorbBack': WHATEVER THE INPUT: true; the input reads as it did. -/
def blorbBackSpec : ChangeSpec := { name := "blorbBack", fn := fun _ => fun
  | [d] => { results := [.lit (.bool true)], args := [d] }
  | _ => none }
def blorbBackRow : OpenClaim := { program := "ytkmkbpnlccomnaa", sum := "e9331ccef05a368ab47c639473a09e6fbd59f23e65191889cab13f5188f5a84d", func := "grotto/grottolaw06.BlorbBack", spec := "blorbBack", plainKeys := false, apart := false }
def BlorbBackSaid : Prop := blorbBackRow.holds Try.pinned (OpenSpec.ofChange blorbBackSpec)

/-- ITS FALSE NEIGHBOUR: 'it returns false'. Refute it at one input. -/
def blorbBackWrong : ChangeSpec := { name := "blorbBack", fn := fun _ => fun
  | [d] => { results := [.lit (.bool false)], args := [d] }
  | _ => none }
def BlorbBackWrongFalsely : Prop := blorbBackRow.holds Try.pinned (OpenSpec.ofChange blorbBackWrong)

/-- 'grottolaw06.BlorbRaw': WHATEVER THE INPUT: true; the input reads as it did. -/
def blorbRawSpec : ChangeSpec := { name := "blorbRaw", fn := fun _ => fun
  | [d1, d2, d3] => { results := [.lit (.bool true)], args := [d1, d2, d3] }
  | _ => none }
def blorbRawRow : OpenClaim := { program := "ytkmkbpnlccomnaa", sum := "e9331ccef05a368ab47c639473a09e6fbd59f23e65191889cab13f5188f5a84d", func := "grotto/grottolaw06.BlorbRaw", spec := "blorbRaw", plainKeys := false, apart := false }
def BlorbRawSaid : Prop := blorbRawRow.holds Try.pinned (OpenSpec.ofChange blorbRawSpec)

/-- ITS FALSE NEIGHBOUR: 'it returns false'. Refute it at one input. -/
def blorbRawWrong : ChangeSpec := { name := "blorbRaw", fn := fun _ => fun
  | [d1, d2, d3] => { results := [.lit (.bool false)], args := [d1, d2, d3] }
  | _ => none }
def BlorbRawWrongFalsely : Prop := blorbRawRow.holds Try.pinned (OpenSpec.ofChange blorbRawWrong)

/-- 'grottolaw06.BlorbCuts': WHATEVER THE INPUT: true; the input reads as it did. -/
def blorbCutsSpec : ChangeSpec := { name := "blorbCuts", fn := fun _ => fun
  | [d1, d2] => { results := [.lit (.bool true)], args := [d1, d2] }
  | _ => none }
def blorbCutsRow : OpenClaim := { program := "ytkmkbpnlccomnaa", sum := "e9331ccef05a368ab47c639473a09e6fbd59f23e65191889cab13f5188f5a84d", func := "grotto/grottolaw06.BlorbCuts", spec := "blorbCuts", plainKeys := false, apart := false }
def BlorbCutsSaid : Prop := blorbCutsRow.holds Try.pinned (OpenSpec.ofChange blorbCutsSpec)

/-- ITS FALSE NEIGHBOUR: 'it returns false'. Refute it at one input. -/
def blorbCutsWrong : ChangeSpec := { name := "blorbCuts", fn := fun _ => fun
  | [d1, d2] => { results := [.lit (.bool false)], args := [d1, d2] }
  | _ => none }
def BlorbCutsWrongFalsely : Prop := blorbCutsRow.holds Try.pinned (OpenSpec.ofChange blorbCutsWrong)

/-- 'grottolaw06.BlorbOthers': WHATEVER THE INPUT: true; the input reads as it did. -/
def blorbOthersSpec : ChangeSpec := { name := "blorbOthers", fn := fun _ => fun
  | [d1, d2, d3] => { results := [.lit (.bool true)], args := [d1, d2, d3] }
  | _ => none }
def blorbOthersRow : OpenClaim := { program := "ytkmkbpnlccomnaa", sum := "e9331ccef05a368ab47c639473a09e6fbd59f23e65191889cab13f5188f5a84d", func := "grotto/grottolaw06.BlorbOthers", spec := "blorbOthers", plainKeys := false, apart := false }
def BlorbOthersSaid : Prop := blorbOthersRow.holds Try.pinned (OpenSpec.ofChange blorbOthersSpec)

/-- ITS FALSE NEIGHBOUR: 'it returns false'. Refute it at one input. -/
def blorbOthersWrong : ChangeSpec := { name := "blorbOthers", fn := fun _ => fun
  | [d1, d2, d3] => { results := [.lit (.bool false)], args := [d1, d2, d3] }
  | _ => none }
def BlorbOthersWrongFalsely : Prop := blorbOthersRow.holds Try.pinned (OpenSpec.ofChange blorbOthersWrong)

/- THE SECOND FORM. 'bulk': how many values and letters a reading holds, each counted each time it is reached (what is shared counts as often as it is met; a slice's spare places count too). A statement '..UptoSaid' is the law's where the arguments, and the package variables that the reading takes, are together of bulk at most 1048576: NARROWER than '..Said'. Prove '..Said' where nothing that the law and all that it calls make is longer than what came in: it says more and counts as full. Else prove '..UptoSaid'. A law counts once. -/
mutual
def uptoBulk {H : Type} : DataW H → Nat
  | .lit (.string bytes) => bytes.length + 1
  | .lit _ => 1
  | .nil => 1
  | .ptr d => uptoBulk d + 1
  | .slice elems spare => uptoBulkAll elems + uptoBulkAll spare + 1
  | .agg parts => uptoBulkAll parts + 1
  | .iface _ d => uptoBulk d + 1
  | .map entries => uptoBulkEntries entries + 1
  | .held _ => 1
def uptoBulkAll {H : Type} : List (DataW H) → Nat
  | [] => 0
  | d :: r => uptoBulk d + uptoBulkAll r
def uptoBulkEntries {H : Type} : List (Lit × DataW H) → Nat
  | [] => 0
  | x :: r => uptoBulkEntry x + uptoBulkEntries r
def uptoBulkEntry {H : Type} : Lit × DataW H → Nat
  | (.string bytes, d) => bytes.length + uptoBulk d + 1
  | (_, d) => uptoBulk d + 1
 end
def uptoSmall : (H : Type) → List (DataW H) → Bool := fun _ ds => decide (uptoBulkAll ds ≤ 1048576)
def OpenSpec.upto (s : _root_.Go.ChangeSpec) : _root_.Go.OpenSpec := { _root_.Go.OpenSpec.ofChange s with cond := some uptoSmall }

/-- 'grottolaw06.BlorbReads', WHERE WHAT IT READS IS OF BULK AT MOST 1048576: true; the input reads as it did. -/
def blorbReadsUptoRow : OpenClaim := { program := "ytkmkbpnlccomnaa", sum := "e9331ccef05a368ab47c639473a09e6fbd59f23e65191889cab13f5188f5a84d", func := "grotto/grottolaw06.BlorbReads", spec := "blorbReads", plainKeys := false, apart := false, narrowed := true }
def BlorbReadsUptoSaid : Prop := blorbReadsUptoRow.holds Try.pinned (OpenSpec.upto blorbReadsSpec)

/-- 'grottolaw06.BlorbLays', WHERE WHAT IT READS IS OF BULK AT MOST 1048576: true; the input reads as it did. -/
def blorbLaysUptoRow : OpenClaim := { program := "ytkmkbpnlccomnaa", sum := "e9331ccef05a368ab47c639473a09e6fbd59f23e65191889cab13f5188f5a84d", func := "grotto/grottolaw06.BlorbLays", spec := "blorbLays", plainKeys := false, apart := false, narrowed := true }
def BlorbLaysUptoSaid : Prop := blorbLaysUptoRow.holds Try.pinned (OpenSpec.upto blorbLaysSpec)

/-- 'grottolaw06.BlorbGames', WHERE WHAT IT READS IS OF BULK AT MOST 1048576: true; the input reads as it did. -/
def blorbGamesUptoRow : OpenClaim := { program := "ytkmkbpnlccomnaa", sum := "e9331ccef05a368ab47c639473a09e6fbd59f23e65191889cab13f5188f5a84d", func := "grotto/grottolaw06.BlorbGames", spec := "blorbGames", plainKeys := false, apart := false, narrowed := true }
def BlorbGamesUptoSaid : Prop := blorbGamesUptoRow.holds Try.pinned (OpenSpec.upto blorbGamesSpec)

/-- 'grottolaw06.BlorbBack', WHERE WHAT IT READS IS OF BULK AT MOST 1048576: true; the input reads as it did. -/
def blorbBackUptoRow : OpenClaim := { program := "ytkmkbpnlccomnaa", sum := "e9331ccef05a368ab47c639473a09e6fbd59f23e65191889cab13f5188f5a84d", func := "grotto/grottolaw06.BlorbBack", spec := "blorbBack", plainKeys := false, apart := false, narrowed := true }
def BlorbBackUptoSaid : Prop := blorbBackUptoRow.holds Try.pinned (OpenSpec.upto blorbBackSpec)

/-- 'grottolaw06.BlorbRaw', WHERE WHAT IT READS IS OF BULK AT MOST 1048576: true; the input reads as it did. -/
def blorbRawUptoRow : OpenClaim := { program := "ytkmkbpnlccomnaa", sum := "e9331ccef05a368ab47c639473a09e6fbd59f23e65191889cab13f5188f5a84d", func := "grotto/grottolaw06.BlorbRaw", spec := "blorbRaw", plainKeys := false, apart := false, narrowed := true }
def BlorbRawUptoSaid : Prop := blorbRawUptoRow.holds Try.pinned (OpenSpec.upto blorbRawSpec)

/-- 'grottolaw06.BlorbCuts', WHERE WHAT IT READS IS OF BULK AT MOST 1048576: true; the input reads as it did. -/
def blorbCutsUptoRow : OpenClaim := { program := "ytkmkbpnlccomnaa", sum := "e9331ccef05a368ab47c639473a09e6fbd59f23e65191889cab13f5188f5a84d", func := "grotto/grottolaw06.BlorbCuts", spec := "blorbCuts", plainKeys := false, apart := false, narrowed := true }
def BlorbCutsUptoSaid : Prop := blorbCutsUptoRow.holds Try.pinned (OpenSpec.upto blorbCutsSpec)

/-- 'grottolaw06.BlorbOthers', WHERE WHAT IT READS IS OF BULK AT MOST 1048576: true; the input reads as it did. -/
def blorbOthersUptoRow : OpenClaim := { program := "ytkmkbpnlccomnaa", sum := "e9331ccef05a368ab47c639473a09e6fbd59f23e65191889cab13f5188f5a84d", func := "grotto/grottolaw06.BlorbOthers", spec := "blorbOthers", plainKeys := false, apart := false, narrowed := true }
def BlorbOthersUptoSaid : Prop := blorbOthersUptoRow.holds Try.pinned (OpenSpec.upto blorbOthersSpec)

end Rows
end Go.Proofs.Ytkmkbpnlccomnaa
