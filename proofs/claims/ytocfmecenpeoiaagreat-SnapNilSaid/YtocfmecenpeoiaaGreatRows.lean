/-
  No cell of these rows narrows 'for every input' (looked for: loops, veiled, ifaces, maps, wideKeys, modest, calm, conditions, laid).
  DERIVED. THE GIVEN ROWS OF THIS SEAT. 6 by the template 'for every input the law returns true; each argument reads behind the call as it read before'; 0 by the template 'total and deterministic' (their statements: YtocfmecenpeoiaaGreatTotals.lean).
  GIVEN WITH THE SEED: the statements are not yours to turn. If you find one false, say at which input.
  Laid BY PROGRAM, IN A SANDBOX (cutbox-rows.mjs): the forced cells as the released guide's own fill.sh prints them over the translation d96c758e0a93d45d… (all of the seat's roots in one cut). By AI agents, Wed Nov 11 2026. No macro, syntax, notation, axiom, sorry.
-/
import Derived.Test.YtocfmecenpeoiaaGreatChecked
import GoSem.Claim
import GoSem.ClaimJoined
import GoSem.ClaimMapViews
import Derived.JoinedTies
import Derived.KernelRfl
namespace Go.Proofs.YtocfmecenpeoiaaGreat
/- THE CELL 'sum', in the pinned program and in every row, IS THE sha256 OF THE DUMP (.gsa) THAT YtocfmecenpeoiaaGreatProg.lean LOADS. Nothing in Lean hashes anything: it is a label: what it is worth is what the hold of that sum in a sandbox is worth. -/
noncomputable def Tryz.pinned : Pinned := { name := "ytocfmecenpeoiaagreat", sum := "d96c758e0a93d45d9e63e8bb869e54c70682367edb5a24d2c8f0c91457e2ec1f", checked := Tryz.checked }
namespace Rows
def none {H : Type} : Left H := { results := [], args := [] }

/-- 'grottolaw17.SnapPuts': WHATEVER THE INPUT: true; the input reads as it did. -/
def snapPutsSpec : ChangeSpec := { name := "snapPuts", fn := fun _ => fun
  | [d] => { results := [.lit (.bool true)], args := [d] }
  | _ => none }
def snapPutsRow : OpenClaim := { program := "ytocfmecenpeoiaagreat", sum := "d96c758e0a93d45d9e63e8bb869e54c70682367edb5a24d2c8f0c91457e2ec1f", func := "grotto/grottolaw17.SnapPuts", spec := "snapPuts", inPlace := ["slices.overlaps[grotto/api.Block]"], unfollowed := true, recurses := true, apart := false }
def SnapPutsSaid : Prop := snapPutsRow.holds Tryz.pinned (OpenSpec.ofChange snapPutsSpec)

/-- ITS FALSE NEIGHBOUR: 'it returns false'. Refute it at one input. -/
def snapPutsWrong : ChangeSpec := { name := "snapPuts", fn := fun _ => fun
  | [d] => { results := [.lit (.bool false)], args := [d] }
  | _ => none }
def SnapPutsWrongFalsely : Prop := snapPutsRow.holds Tryz.pinned (OpenSpec.ofChange snapPutsWrong)

/-- 'grottolaw17.SnapLoads': WHATEVER THE INPUT: true; the input reads as it did. -/
def snapLoadsSpec : ChangeSpec := { name := "snapLoads", fn := fun _ => fun
  | [d1, d2, d3, d4] => { results := [.lit (.bool true)], args := [d1, d2, d3, d4] }
  | _ => none }
def snapLoadsRow : OpenClaim := { program := "ytocfmecenpeoiaagreat", sum := "d96c758e0a93d45d9e63e8bb869e54c70682367edb5a24d2c8f0c91457e2ec1f", func := "grotto/grottolaw17.SnapLoads", spec := "snapLoads", inPlace := ["slices.overlaps[grotto/api.Block]"], unfollowed := true, recurses := true, apart := false }
def SnapLoadsSaid : Prop := snapLoadsRow.holds Tryz.pinned (OpenSpec.ofChange snapLoadsSpec)

/-- ITS FALSE NEIGHBOUR: 'it returns false'. Refute it at one input. -/
def snapLoadsWrong : ChangeSpec := { name := "snapLoads", fn := fun _ => fun
  | [d1, d2, d3, d4] => { results := [.lit (.bool false)], args := [d1, d2, d3, d4] }
  | _ => none }
def SnapLoadsWrongFalsely : Prop := snapLoadsRow.holds Tryz.pinned (OpenSpec.ofChange snapLoadsWrong)

/-- 'grottolaw17.SnapGets': WHATEVER THE INPUT: true; the input reads as it did. -/
def snapGetsSpec : ChangeSpec := { name := "snapGets", fn := fun _ => fun
  | [d1, d2] => { results := [.lit (.bool true)], args := [d1, d2] }
  | _ => none }
def snapGetsRow : OpenClaim := { program := "ytocfmecenpeoiaagreat", sum := "d96c758e0a93d45d9e63e8bb869e54c70682367edb5a24d2c8f0c91457e2ec1f", func := "grotto/grottolaw17.SnapGets", spec := "snapGets", inPlace := ["slices.overlaps[grotto/api.Block]"], unfollowed := true, recurses := true, apart := false }
def SnapGetsSaid : Prop := snapGetsRow.holds Tryz.pinned (OpenSpec.ofChange snapGetsSpec)

/-- ITS FALSE NEIGHBOUR: 'it returns false'. Refute it at one input. -/
def snapGetsWrong : ChangeSpec := { name := "snapGets", fn := fun _ => fun
  | [d1, d2] => { results := [.lit (.bool false)], args := [d1, d2] }
  | _ => none }
def SnapGetsWrongFalsely : Prop := snapGetsRow.holds Tryz.pinned (OpenSpec.ofChange snapGetsWrong)

/-- 'grottolaw17.SnapCuts': WHATEVER THE INPUT: true; the input reads as it did. -/
def snapCutsSpec : ChangeSpec := { name := "snapCuts", fn := fun _ => fun
  | [d1, d2, d3] => { results := [.lit (.bool true)], args := [d1, d2, d3] }
  | _ => none }
def snapCutsRow : OpenClaim := { program := "ytocfmecenpeoiaagreat", sum := "d96c758e0a93d45d9e63e8bb869e54c70682367edb5a24d2c8f0c91457e2ec1f", func := "grotto/grottolaw17.SnapCuts", spec := "snapCuts", inPlace := ["slices.overlaps[grotto/api.Block]"], unfollowed := true, recurses := true, apart := false }
def SnapCutsSaid : Prop := snapCutsRow.holds Tryz.pinned (OpenSpec.ofChange snapCutsSpec)

/-- ITS FALSE NEIGHBOUR: 'it returns false'. Refute it at one input. -/
def snapCutsWrong : ChangeSpec := { name := "snapCuts", fn := fun _ => fun
  | [d1, d2, d3] => { results := [.lit (.bool false)], args := [d1, d2, d3] }
  | _ => none }
def SnapCutsWrongFalsely : Prop := snapCutsRow.holds Tryz.pinned (OpenSpec.ofChange snapCutsWrong)

/-- 'grottolaw17.SnapNil': WHATEVER THE INPUT: true; the input reads as it did. -/
def snapNilSpec : ChangeSpec := { name := "snapNil", fn := fun _ => fun
  | [d1, d2] => { results := [.lit (.bool true)], args := [d1, d2] }
  | _ => none }
def snapNilRow : OpenClaim := { program := "ytocfmecenpeoiaagreat", sum := "d96c758e0a93d45d9e63e8bb869e54c70682367edb5a24d2c8f0c91457e2ec1f", func := "grotto/grottolaw17.SnapNil", spec := "snapNil", inPlace := ["slices.overlaps[grotto/api.Block]"], unfollowed := true, recurses := true, apart := false }
def SnapNilSaid : Prop := snapNilRow.holds Tryz.pinned (OpenSpec.ofChange snapNilSpec)

/-- ITS FALSE NEIGHBOUR: 'it returns false'. Refute it at one input. -/
def snapNilWrong : ChangeSpec := { name := "snapNil", fn := fun _ => fun
  | [d1, d2] => { results := [.lit (.bool false)], args := [d1, d2] }
  | _ => none }
def SnapNilWrongFalsely : Prop := snapNilRow.holds Tryz.pinned (OpenSpec.ofChange snapNilWrong)

/-- 'grottolaw17.SnapSaves': WHATEVER THE INPUT: true; the input reads as it did. -/
def snapSavesSpec : ChangeSpec := { name := "snapSaves", fn := fun _ => fun
  | [d1, d2, d3] => { results := [.lit (.bool true)], args := [d1, d2, d3] }
  | _ => none }
def snapSavesRow : OpenClaim := { program := "ytocfmecenpeoiaagreat", sum := "d96c758e0a93d45d9e63e8bb869e54c70682367edb5a24d2c8f0c91457e2ec1f", func := "grotto/grottolaw17.SnapSaves", spec := "snapSaves", inPlace := ["slices.overlaps[grotto/api.Block]"], unfollowed := true, recurses := true, apart := false }
def SnapSavesSaid : Prop := snapSavesRow.holds Tryz.pinned (OpenSpec.ofChange snapSavesSpec)

/-- ITS FALSE NEIGHBOUR: 'it returns false'. Refute it at one input. -/
def snapSavesWrong : ChangeSpec := { name := "snapSaves", fn := fun _ => fun
  | [d1, d2, d3] => { results := [.lit (.bool false)], args := [d1, d2, d3] }
  | _ => none }
def SnapSavesWrongFalsely : Prop := snapSavesRow.holds Tryz.pinned (OpenSpec.ofChange snapSavesWrong)

/- THE SECOND FORM. 'bulk': how many values and letters a reading holds, each counted each time it is reached (what is shared counts as often as it is met; a slice's spare places count too). A statement '..UptoSaid' is the law's where the arguments, and the package variables that the reading takes, are together of bulk at most 1048576: NARROWER than '..Said'. Prove '..Said' where nothing that the law and all that it calls make is longer than what came in: it says more and counts as full. Else prove '..UptoSaid'. A law counts once. -/
mutual
def uptoBulk {H : Type} : DataW H → Nat
  | .lit (.string bytes) => bytes.length + 1
  | .lit _ => 1
  | .nil => 1
  | .ptr d => uptoBulk d + 1
  | .slice elems spare => uptoBulkAll elems + uptoBulkAll spare + 1
  | .agg parts => uptoBulkAll parts + 1
  | .iface _ d => uptoBulk d + 1
  | .map entries => uptoBulkEntries entries + 1
  | .held _ => 1
def uptoBulkAll {H : Type} : List (DataW H) → Nat
  | [] => 0
  | d :: r => uptoBulk d + uptoBulkAll r
def uptoBulkEntries {H : Type} : List (Lit × DataW H) → Nat
  | [] => 0
  | x :: r => uptoBulkEntry x + uptoBulkEntries r
def uptoBulkEntry {H : Type} : Lit × DataW H → Nat
  | (.string bytes, d) => bytes.length + uptoBulk d + 1
  | (_, d) => uptoBulk d + 1
 end
def uptoSmall : (H : Type) → List (DataW H) → Bool := fun _ ds => decide (uptoBulkAll ds ≤ 1048576)
def OpenSpec.upto (s : _root_.Go.ChangeSpec) : _root_.Go.OpenSpec := { _root_.Go.OpenSpec.ofChange s with cond := some uptoSmall }

/-- 'grottolaw17.SnapPuts', WHERE WHAT IT READS IS OF BULK AT MOST 1048576: true; the input reads as it did. -/
def snapPutsUptoRow : OpenClaim := { program := "ytocfmecenpeoiaagreat", sum := "d96c758e0a93d45d9e63e8bb869e54c70682367edb5a24d2c8f0c91457e2ec1f", func := "grotto/grottolaw17.SnapPuts", spec := "snapPuts", inPlace := ["slices.overlaps[grotto/api.Block]"], unfollowed := true, recurses := true, apart := false, narrowed := true }
def SnapPutsUptoSaid : Prop := snapPutsUptoRow.holds Tryz.pinned (OpenSpec.upto snapPutsSpec)

/-- 'grottolaw17.SnapLoads', WHERE WHAT IT READS IS OF BULK AT MOST 1048576: true; the input reads as it did. -/
def snapLoadsUptoRow : OpenClaim := { program := "ytocfmecenpeoiaagreat", sum := "d96c758e0a93d45d9e63e8bb869e54c70682367edb5a24d2c8f0c91457e2ec1f", func := "grotto/grottolaw17.SnapLoads", spec := "snapLoads", inPlace := ["slices.overlaps[grotto/api.Block]"], unfollowed := true, recurses := true, apart := false, narrowed := true }
def SnapLoadsUptoSaid : Prop := snapLoadsUptoRow.holds Tryz.pinned (OpenSpec.upto snapLoadsSpec)

/-- 'grottolaw17.SnapGets', WHERE WHAT IT READS IS OF BULK AT MOST 1048576: true; the input reads as it did. -/
def snapGetsUptoRow : OpenClaim := { program := "ytocfmecenpeoiaagreat", sum := "d96c758e0a93d45d9e63e8bb869e54c70682367edb5a24d2c8f0c91457e2ec1f", func := "grotto/grottolaw17.SnapGets", spec := "snapGets", inPlace := ["slices.overlaps[grotto/api.Block]"], unfollowed := true, recurses := true, apart := false, narrowed := true }
def SnapGetsUptoSaid : Prop := snapGetsUptoRow.holds Tryz.pinned (OpenSpec.upto snapGetsSpec)

/-- 'grottolaw17.SnapCuts', WHERE WHAT IT READS IS OF BULK AT MOST 1048576: true; the input reads as it did. -/
def snapCutsUptoRow : OpenClaim := { program := "ytocfmecenpeoiaagreat", sum := "d96c758e0a93d45d9e63e8bb869e54c70682367edb5a24d2c8f0c91457e2ec1f", func := "grotto/grottolaw17.SnapCuts", spec := "snapCuts", inPlace := ["slices.overlaps[grotto/api.Block]"], unfollowed := true, recurses := true, apart := false, narrowed := true }
def SnapCutsUptoSaid : Prop := snapCutsUptoRow.holds Tryz.pinned (OpenSpec.upto snapCutsSpec)

/-- 'grottolaw17.SnapNil', WHERE WHAT IT READS IS OF BULK AT MOST 1048576: true; the input reads as it did. -/
def snapNilUptoRow : OpenClaim := { program := "ytocfmecenpeoiaagreat", sum := "d96c758e0a93d45d9e63e8bb869e54c70682367edb5a24d2c8f0c91457e2ec1f", func := "grotto/grottolaw17.SnapNil", spec := "snapNil", inPlace := ["slices.overlaps[grotto/api.Block]"], unfollowed := true, recurses := true, apart := false, narrowed := true }
def SnapNilUptoSaid : Prop := snapNilUptoRow.holds Tryz.pinned (OpenSpec.upto snapNilSpec)

/-- 'grottolaw17.SnapSaves', WHERE WHAT IT READS IS OF BULK AT MOST 1048576: true; the input reads as it did. -/
def snapSavesUptoRow : OpenClaim := { program := "ytocfmecenpeoiaagreat", sum := "d96c758e0a93d45d9e63e8bb869e54c70682367edb5a24d2c8f0c91457e2ec1f", func := "grotto/grottolaw17.SnapSaves", spec := "snapSaves", inPlace := ["slices.overlaps[grotto/api.Block]"], unfollowed := true, recurses := true, apart := false, narrowed := true }
def SnapSavesUptoSaid : Prop := snapSavesUptoRow.holds Tryz.pinned (OpenSpec.upto snapSavesSpec)

end Rows
end Go.Proofs.YtocfmecenpeoiaaGreat
