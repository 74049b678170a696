/-
  No cell of these rows narrows 'for every input' (looked for: loops, veiled, ifaces, maps, wideKeys, modest, calm, conditions, laid).
  DERIVED. THE GIVEN ROWS OF THIS SEAT. 5 by the template 'for every input the law returns true; each argument reads behind the call as it read before'; 0 by the template 'total and deterministic' (their statements: YtddenboepgfbgaaTotals.lean).
  GIVEN WITH THE SEED: the statements are not yours to turn. If you find one false, say at which input.
  Laid BY PROGRAM, IN A SANDBOX (cutbox-rows.mjs): the forced cells as the released guide's own fill.sh prints them over the translation 8ecca21e202c971f… (all of the seat's roots in one cut). By AI agents, Wed Nov 11 2026. No macro, syntax, notation, axiom, sorry.
-/
import Derived.Test.YtddenboepgfbgaaChecked
import GoSem.Claim
import GoSem.ClaimJoined
import GoSem.ClaimMapViews
import Derived.JoinedTies
import Derived.KernelRfl
namespace Go.Proofs.Ytddenboepgfbgaa
/- THE CELL 'sum', in the pinned program and in every row, IS THE sha256 OF THE DUMP (.gsa) THAT YtddenboepgfbgaaProg.lean LOADS. Nothing in Lean hashes anything: it is a label: what it is worth is what the hold of that sum in a sandbox is worth. -/
noncomputable def Try.pinned : Pinned := { name := "ytddenboepgfbgaa", sum := "8ecca21e202c971f252b20e8037d2b01af370ae7e204f89a8cf636f7d3b0b76b", checked := Try.checked }
namespace Rows
def none {H : Type} : Left H := { results := [], args := [] }

/-- 'grottolaw17.SnapSqueezes': WHATEVER THE INPUT: true; the input reads as it did. -/
def snapSqueezesSpec : ChangeSpec := { name := "snapSqueezes", fn := fun _ => fun
  | [d1, d2] => { results := [.lit (.bool true)], args := [d1, d2] }
  | _ => none }
def snapSqueezesRow : OpenClaim := { program := "ytddenboepgfbgaa", sum := "8ecca21e202c971f252b20e8037d2b01af370ae7e204f89a8cf636f7d3b0b76b", func := "grotto/grottolaw17.SnapSqueezes", spec := "snapSqueezes", apart := false }
def SnapSqueezesSaid : Prop := snapSqueezesRow.holds Try.pinned (OpenSpec.ofChange snapSqueezesSpec)

/-- ITS FALSE NEIGHBOUR: 'it returns false'. Refute it at one input. -/
def snapSqueezesWrong : ChangeSpec := { name := "snapSqueezes", fn := fun _ => fun
  | [d1, d2] => { results := [.lit (.bool false)], args := [d1, d2] }
  | _ => none }
def SnapSqueezesWrongFalsely : Prop := snapSqueezesRow.holds Try.pinned (OpenSpec.ofChange snapSqueezesWrong)

/-- 'grottolaw17.SnapStretches': WHATEVER THE INPUT: true; the input reads as it did. -/
def snapStretchesSpec : ChangeSpec := { name := "snapStretches", fn := fun _ => fun
  | [d1, d2, d3] => { results := [.lit (.bool true)], args := [d1, d2, d3] }
  | _ => none }
def snapStretchesRow : OpenClaim := { program := "ytddenboepgfbgaa", sum := "8ecca21e202c971f252b20e8037d2b01af370ae7e204f89a8cf636f7d3b0b76b", func := "grotto/grottolaw17.SnapStretches", spec := "snapStretches", apart := false }
def SnapStretchesSaid : Prop := snapStretchesRow.holds Try.pinned (OpenSpec.ofChange snapStretchesSpec)

/-- ITS FALSE NEIGHBOUR: 'it returns false'. Refute it at one input. -/
def snapStretchesWrong : ChangeSpec := { name := "snapStretches", fn := fun _ => fun
  | [d1, d2, d3] => { results := [.lit (.bool false)], args := [d1, d2, d3] }
  | _ => none }
def SnapStretchesWrongFalsely : Prop := snapStretchesRow.holds Try.pinned (OpenSpec.ofChange snapStretchesWrong)

/-- 'grottolaw17.SnapBack': WHATEVER THE INPUT: true; the input reads as it did. -/
def snapBackSpec : ChangeSpec := { name := "snapBack", fn := fun _ => fun
  | [d1, d2] => { results := [.lit (.bool true)], args := [d1, d2] }
  | _ => none }
def snapBackRow : OpenClaim := { program := "ytddenboepgfbgaa", sum := "8ecca21e202c971f252b20e8037d2b01af370ae7e204f89a8cf636f7d3b0b76b", func := "grotto/grottolaw17.SnapBack", spec := "snapBack", apart := false }
def SnapBackSaid : Prop := snapBackRow.holds Try.pinned (OpenSpec.ofChange snapBackSpec)

/-- ITS FALSE NEIGHBOUR: 'it returns false'. Refute it at one input. -/
def snapBackWrong : ChangeSpec := { name := "snapBack", fn := fun _ => fun
  | [d1, d2] => { results := [.lit (.bool false)], args := [d1, d2] }
  | _ => none }
def SnapBackWrongFalsely : Prop := snapBackRow.holds Try.pinned (OpenSpec.ofChange snapBackWrong)

/-- 'grottolaw17.SnapUndo': WHATEVER THE INPUT: true; the input reads as it did. -/
def snapUndoSpec : ChangeSpec := { name := "snapUndo", fn := fun _ => fun
  | [d1, d2] => { results := [.lit (.bool true)], args := [d1, d2] }
  | _ => none }
def snapUndoRow : OpenClaim := { program := "ytddenboepgfbgaa", sum := "8ecca21e202c971f252b20e8037d2b01af370ae7e204f89a8cf636f7d3b0b76b", func := "grotto/grottolaw17.SnapUndo", spec := "snapUndo", apart := false }
def SnapUndoSaid : Prop := snapUndoRow.holds Try.pinned (OpenSpec.ofChange snapUndoSpec)

/-- ITS FALSE NEIGHBOUR: 'it returns false'. Refute it at one input. -/
def snapUndoWrong : ChangeSpec := { name := "snapUndo", fn := fun _ => fun
  | [d1, d2] => { results := [.lit (.bool false)], args := [d1, d2] }
  | _ => none }
def SnapUndoWrongFalsely : Prop := snapUndoRow.holds Try.pinned (OpenSpec.ofChange snapUndoWrong)

/-- 'grottolaw05.IffBack': WHATEVER THE INPUT: true; the input reads as it did. -/
def iffBackSpec : ChangeSpec := { name := "iffBack", fn := fun _ => fun
  | [d1, d2] => { results := [.lit (.bool true)], args := [d1, d2] }
  | _ => none }
def iffBackRow : OpenClaim := { program := "ytddenboepgfbgaa", sum := "8ecca21e202c971f252b20e8037d2b01af370ae7e204f89a8cf636f7d3b0b76b", func := "grotto/grottolaw05.IffBack", spec := "iffBack", unfollowed := true, recurses := true, apart := false }
def IffBackSaid : Prop := iffBackRow.holds Try.pinned (OpenSpec.ofChange iffBackSpec)

/-- ITS FALSE NEIGHBOUR: 'it returns false'. Refute it at one input. -/
def iffBackWrong : ChangeSpec := { name := "iffBack", fn := fun _ => fun
  | [d1, d2] => { results := [.lit (.bool false)], args := [d1, d2] }
  | _ => none }
def IffBackWrongFalsely : Prop := iffBackRow.holds Try.pinned (OpenSpec.ofChange iffBackWrong)

/- THE SECOND FORM. 'bulk': how many values and letters a reading holds, each counted each time it is reached (what is shared counts as often as it is met; a slice's spare places count too). A statement '..UptoSaid' is the law's where the arguments, and the package variables that the reading takes, are together of bulk at most 1048576: NARROWER than '..Said'. Prove '..Said' where nothing that the law and all that it calls make is longer than what came in: it says more and counts as full. Else prove '..UptoSaid'. A law counts once. -/
mutual
def uptoBulk {H : Type} : DataW H → Nat
  | .lit (.string bytes) => bytes.length + 1
  | .lit _ => 1
  | .nil => 1
  | .ptr d => uptoBulk d + 1
  | .slice elems spare => uptoBulkAll elems + uptoBulkAll spare + 1
  | .agg parts => uptoBulkAll parts + 1
  | .iface _ d => uptoBulk d + 1
  | .map entries => uptoBulkEntries entries + 1
  | .held _ => 1
def uptoBulkAll {H : Type} : List (DataW H) → Nat
  | [] => 0
  | d :: r => uptoBulk d + uptoBulkAll r
def uptoBulkEntries {H : Type} : List (Lit × DataW H) → Nat
  | [] => 0
  | x :: r => uptoBulkEntry x + uptoBulkEntries r
def uptoBulkEntry {H : Type} : Lit × DataW H → Nat
  | (.string bytes, d) => bytes.length + uptoBulk d + 1
  | (_, d) => uptoBulk d + 1
 end
def uptoSmall : (H : Type) → List (DataW H) → Bool := fun _ ds => decide (uptoBulkAll ds ≤ 1048576)
def OpenSpec.upto (s : _root_.Go.ChangeSpec) : _root_.Go.OpenSpec := { _root_.Go.OpenSpec.ofChange s with cond := some uptoSmall }

/-- 'grottolaw17.SnapSqueezes', WHERE WHAT IT READS IS OF BULK AT MOST 1048576: true; the input reads as it did. -/
def snapSqueezesUptoRow : OpenClaim := { program := "ytddenboepgfbgaa", sum := "8ecca21e202c971f252b20e8037d2b01af370ae7e204f89a8cf636f7d3b0b76b", func := "grotto/grottolaw17.SnapSqueezes", spec := "snapSqueezes", apart := false, narrowed := true }
def SnapSqueezesUptoSaid : Prop := snapSqueezesUptoRow.holds Try.pinned (OpenSpec.upto snapSqueezesSpec)

/-- 'grottolaw17.SnapStretches', WHERE WHAT IT READS IS OF BULK AT MOST 1048576: true; the input reads as it did. -/
def snapStretchesUptoRow : OpenClaim := { program := "ytddenboepgfbgaa", sum := "8ecca21e202c971f252b20e8037d2b01af370ae7e204f89a8cf636f7d3b0b76b", func := "grotto/grottolaw17.SnapStretches", spec := "snapStretches", apart := false, narrowed := true }
def SnapStretchesUptoSaid : Prop := snapStretchesUptoRow.holds Try.pinned (OpenSpec.upto snapStretchesSpec)

/-- 'grottolaw17.SnapBack', WHERE WHAT IT READS IS OF BULK AT MOST 1048576: true; the input reads as it did. -/
def snapBackUptoRow : OpenClaim := { program := "ytddenboepgfbgaa", sum := "8ecca21e202c971f252b20e8037d2b01af370ae7e204f89a8cf636f7d3b0b76b", func := "grotto/grottolaw17.SnapBack", spec := "snapBack", apart := false, narrowed := true }
def SnapBackUptoSaid : Prop := snapBackUptoRow.holds Try.pinned (OpenSpec.upto snapBackSpec)

/-- 'grottolaw17.SnapUndo', WHERE WHAT IT READS IS OF BULK AT MOST 1048576: true; the input reads as it did. -/
def snapUndoUptoRow : OpenClaim := { program := "ytddenboepgfbgaa", sum := "8ecca21e202c971f252b20e8037d2b01af370ae7e204f89a8cf636f7d3b0b76b", func := "grotto/grottolaw17.SnapUndo", spec := "snapUndo", apart := false, narrowed := true }
def SnapUndoUptoSaid : Prop := snapUndoUptoRow.holds Try.pinned (OpenSpec.upto snapUndoSpec)

/-- 'grottolaw05.IffBack', WHERE WHAT IT READS IS OF BULK AT MOST 1048576: true; the input reads as it did. -/
def iffBackUptoRow : OpenClaim := { program := "ytddenboepgfbgaa", sum := "8ecca21e202c971f252b20e8037d2b01af370ae7e204f89a8cf636f7d3b0b76b", func := "grotto/grottolaw05.IffBack", spec := "iffBack", unfollowed := true, recurses := true, apart := false, narrowed := true }
def IffBackUptoSaid : Prop := iffBackUptoRow.holds Try.pinned (OpenSpec.upto iffBackSpec)

end Rows
end Go.Proofs.Ytddenboepgfbgaa
