/- The page's example of chapter 17, run over the abstract heap. No statement of the seat is proved in this text. -/
import Derived.Test.YtddenboepgfbgaaAb13
import Derived.Test.YtddenboepgfbgaaProg
import Derived.KernelRfl
set_option linter.unusedVariables false
set_option maxRecDepth 100000
namespace Go.Proofs.Ytddenboepgfbgaa
open GAb Go

theorem live17_told : told (ev Try.prog (fun _ => none) 2000 [] (.call 8 []) empty) = some (.bool true) := by kernel_rfl
theorem live17_call (E : Nat → Prop) (σ : AState) : SCall Try.prog E 8 [] σ fun v s => v = .bool true ∧ s = σ := closed_told live17_told rfl rfl E σ

end Go.Proofs.Ytddenboepgfbgaa
