/- The page's example of chapter 10, run over the abstract heap. No statement of the seat is proved in this text. -/
import Derived.Test.YthbooolgpfhcmaaAb13
import Derived.Test.YthbooolgpfhcmaaProg
import Derived.KernelRfl
set_option linter.unusedVariables false
set_option maxRecDepth 100000
namespace Go.Proofs.Ythbooolgpfhcmaa
open GAb Go

theorem live_told : told (ev Try.prog (fun _ => none) 3000 [] (.call 11 []) empty) = some (.bool true) := by kernel_rfl
theorem live_call (E : Nat → Prop) (σ : AState) : SCall Try.prog E 11 [] σ fun v s => v = .bool true ∧ s = σ := closed_told live_told rfl rfl E σ

end Go.Proofs.Ythbooolgpfhcmaa
