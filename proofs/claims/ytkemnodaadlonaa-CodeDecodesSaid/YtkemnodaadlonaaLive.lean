/- The page's example, run over the abstract heap. No statement of the seat is proved in this text. -/
import Derived.Test.YtkemnodaadlonaaAb13
import Derived.Test.YtkemnodaadlonaaProg
import Derived.KernelRfl
set_option linter.unusedVariables false
set_option maxRecDepth 100000
namespace Go.Proofs.Ytkemnodaadlonaa
open GAb Go

theorem live_told : told (ev Try.prog (fun _ => none) 2000 [] (.call 12 []) empty) = some (.bool true) := by kernel_rfl
theorem live_call (E : Nat → Prop) (σ : AState) : SCall Try.prog E 12 [] σ fun v s => v = .bool true ∧ s = σ := closed_told live_told rfl rfl E σ

end Go.Proofs.Ytkemnodaadlonaa
