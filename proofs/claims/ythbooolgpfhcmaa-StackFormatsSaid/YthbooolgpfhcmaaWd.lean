/- Words for walks by pieces. No statement of the seat is proved in this text. -/
import Derived.Test.YthbooolgpfhcmaaAb22
import Derived.Test.YthbooolgpfhcmaaProg
import Derived.KernelRfl
set_option linter.unusedVariables false
set_option linter.unusedSimpArgs false
namespace GAb
open Go
abbrev u8l (zs : List Int) : List Value := zs.map (.int .u8)
abbrev E0 : Nat → Prop := fpOf []
theorem Old.len8 {O : Nat → Prop} {σ : AState} {a : Option Addr} {l c : Nat} {bs : List Int} (h : Old O σ a l c 1 (u8l bs)) : bs.length = l := by simpa using h.1.size
theorem Facts.len8 {O : Nat → Prop} {σ0 σ : AState} {L : List Fact} (F : Facts O σ0 σ L) (k : Nat) {a : Option Addr} {l c : Nat} {bs : List Int} (hk : L[k]? = some (own a l c 1 (u8l bs))) : bs.length = l := by simpa using (F.has k hk).size
def Bytes (bs : List Int) : Prop := ∀ i, i < bs.length → 0 ≤ bs.getD i 0 ∧ bs.getD i 0 ≤ 255
theorem Bytes.at {bs : List Int} (h : Bytes bs) (i : Nat) : 0 ≤ bs.getD i 0 ∧ bs.getD i 0 ≤ 255 := by
  by_cases hi : i < bs.length
  · exact h i hi
  · simp [List.getD, List.getElem?_eq_none (by omega : bs.length ≤ i)]
theorem old_row {k : IntKind} {σ : AState} {x : Option Addr} {l c : Nat} {zs : List Int} (R : Row σ x l c 1 (zs.map (.int k))) : Old E0 σ x l c 1 ((zs.take l).map (.int k)) := by
  have := R.has
  rw [Nat.mul_one, ← List.map_take] at this
  exact Old.pure this
theorem bytes_row {w : World} {a : Option Addr} {l c : Nat} {zs : List Int} (h : IsRow .u8 w a l c zs) : Bytes (zs.take l) := by
  intro i hi
  have hi' : i < zs.length := by rw [List.length_take] at hi; omega
  have := isRow8 h zs[i] (List.getElem_mem hi')
  rw [List.length_take] at hi
  simpa [List.getD, List.getElem?_take, show i < l by omega, hi'] using this
end GAb
namespace Go.Proofs.Ythbooolgpfhcmaa
open GAb Go
theorem mixed : Try.prog.follows .mixedOrders = true := by kernel_rfl
end Go.Proofs.Ythbooolgpfhcmaa
