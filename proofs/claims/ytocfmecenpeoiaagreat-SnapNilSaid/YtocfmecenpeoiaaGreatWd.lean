/- Words for walks by pieces, and the longest steps by name. No statement of the seat is proved in this text. -/
import Derived.Test.YtocfmecenpeoiaaGreatAb32
import Derived.Test.YtocfmecenpeoiaaGreatProg
import Derived.KernelRfl
set_option linter.unusedVariables false
theorem n_1 {α : Type _} {a b : α} {l : List α} : (a :: l).set 0 b = b :: l := rfl
theorem n_2 {α : Type _} {a b : α} {l : List α} {n : Nat} : (a :: l).set (n + 1) b = a :: l.set n b := rfl
theorem n_3 {α : Type _} {a : α} {l k : List α} : (a :: l) ++ k = a :: (l ++ k) := rfl
theorem n_4 {α : Type _} {l : List α} : [] ++ l = l := rfl
theorem n_5 {α : Type _} {a : α} {l : List α} : (a :: l)[0]? = some a := rfl
theorem n_6 {α : Type _} {a : α} {l : List α} {n : Nat} : (a :: l)[n + 1]? = l[n]? := rfl
theorem i_1 (b : Bool) : GAb.irr b = b := GAb.irr_eq b
theorem i_2 {α : Type _} [BEq α] [LawfulBEq α] {a b : α} : a == b ↔ a = b := beq_iff_eq
theorem i_3 {α : Type _} [BEq α] [LawfulBEq α] {a b : α} : a != b ↔ a ≠ b := bne_iff_ne
theorem i_4 {α : Type _} [BEq α] [LawfulBEq α] {a b : α} : (a == b) = false ↔ a ≠ b := beq_eq_false_iff_ne
theorem i_5 {α : Type _} [BEq α] [LawfulBEq α] {a b : α} : (a != b) = false ↔ a = b := bne_eq_false_iff_eq
theorem i_6 {p : Prop} [Decidable p] : (decide p = true) = p := decide_eq_true_eq
theorem i_7 {p : Prop} [Decidable p] : (decide p = false) ↔ ¬ p := decide_eq_false_iff_not
theorem i_8 {b : Bool} : ((!b) = true) = (b = false) := Bool.not_eq_true' b
theorem i_9 {b : Bool} : ((!b) = false) = (b = true) := Bool.not_eq_false' b
set_option linter.unusedVariables false
set_option linter.unusedSimpArgs false
namespace GAb
open Go
abbrev u8l (zs : List Int) : List Value := zs.map (.int .u8)
abbrev E0 : Nat → Prop := fpOf []
theorem Old.len8 {O : Nat → Prop} {σ : AState} {a : Option Addr} {l c : Nat} {bs : List Int} (h : Old O σ a l c 1 (u8l bs)) : bs.length = l := by simpa using h.1.size
theorem Facts.len8 {O : Nat → Prop} {σ0 σ : AState} {L : List Fact} (F : Facts O σ0 σ L) (k : Nat) {a : Option Addr} {l c : Nat} {bs : List Int} (hk : L[k]? = some (own a l c 1 (u8l bs))) : bs.length = l := by simpa using (F.has k hk).size
def Bytes (bs : List Int) : Prop := ∀ i, i < bs.length → 0 ≤ bs.getD i 0 ∧ bs.getD i 0 ≤ 255
theorem Bytes.at {bs : List Int} (h : Bytes bs) (i : Nat) : 0 ≤ bs.getD i 0 ∧ bs.getD i 0 ≤ 255 := by
  by_cases hi : i < bs.length
  · exact h i hi
  · simp [List.getD, List.getElem?_eq_none (by omega : bs.length ≤ i)]
theorem Has.part8 {k : IntKind} {σ : AState} {a : Option Addr} {l c : Nat} {bs : List Int} (h : Has σ a l c 1 (bs.map (.int k))) {lo hi : Nat} (h1 : lo ≤ hi) (h2 : hi ≤ l) : Has σ (shift a (lo * 1)) (hi - lo) (c - lo) 1 (((bs.drop lo).take (hi - lo)).map (.int k)) := by
  have := h.part h1 h2
  simp only [Nat.mul_one, ← List.map_drop, ← List.map_take] at this ⊢
  exact this
theorem Old.part8 {k : IntKind} {O : Nat → Prop} {σ : AState} {a : Option Addr} {l c : Nat} {bs : List Int} (h : Old O σ a l c 1 (bs.map (.int k))) {lo hi : Nat} (h1 : lo ≤ hi) (h2 : hi ≤ l) : Old O σ (shift a (lo * 1)) (hi - lo) (c - lo) 1 (((bs.drop lo).take (hi - lo)).map (.int k)) := by
  have := h.part h1 h2
  simp only [Nat.mul_one, ← List.map_drop, ← List.map_take] at this ⊢
  exact this
theorem Has.upto8 {k : IntKind} {σ : AState} {a : Option Addr} {l c : Nat} {bs : List Int} (h : Has σ a l c 1 (bs.map (.int k))) {hi : Nat} (h2 : hi ≤ l) : Has σ a hi c 1 ((bs.take hi).map (.int k)) := by
  have := h.upto h2
  rwa [Nat.mul_one, ← List.map_take] at this
theorem Old.upto8 {k : IntKind} {O : Nat → Prop} {σ : AState} {a : Option Addr} {l c : Nat} {bs : List Int} (h : Old O σ a l c 1 (bs.map (.int k))) {hi : Nat} (h2 : hi ≤ l) : Old O σ a hi c 1 ((bs.take hi).map (.int k)) := ⟨h.1.upto8 h2, h.2⟩
theorem Has.from8 {k : IntKind} {σ : AState} {a : Option Addr} {l c : Nat} {bs : List Int} (h : Has σ a l c 1 (bs.map (.int k))) {lo : Nat} (h1 : lo ≤ l) : Has σ (shift a (lo * 1)) (l - lo) (c - lo) 1 ((bs.drop lo).map (.int k)) := by
  have := h.part8 h1 (Nat.le_refl l)
  have hl := h.size
  rw [List.length_map, Nat.mul_one] at hl
  rwa [List.take_of_length_le (by rw [List.length_drop]; omega)] at this
theorem getD_part (bs : List Int) (lo n i : Nat) (h : i < n) : ((bs.drop lo).take n).getD i 0 = bs.getD (lo + i) 0 := by
  simp [List.getD, List.getElem?_take, List.getElem?_drop, h]
theorem Bytes.drop {bs : List Int} (h : Bytes bs) (k : Nat) : Bytes (bs.drop k) := by
  intro i hi
  have := h.at (k + i)
  simpa [List.getD, List.getElem?_drop] using this
theorem Bytes.take {bs : List Int} (h : Bytes bs) (k : Nat) : Bytes (bs.take k) := by
  intro i hi
  have hi' : i < k := by rw [List.length_take] at hi; omega
  have := h.at i
  simpa [List.getD, List.getElem?_take, hi'] using this
theorem getD_drop (bs : List Int) (k j : Nat) : (bs.drop k).getD j 0 = bs.getD (k + j) 0 := by simp [List.getD, List.getElem?_drop]
theorem old_row {k : IntKind} {σ : AState} {x : Option Addr} {l c : Nat} {zs : List Int} (R : Row σ x l c 1 (zs.map (.int k))) : Old E0 σ x l c 1 ((zs.take l).map (.int k)) := by
  have := R.has
  rw [Nat.mul_one, ← List.map_take] at this
  exact Old.pure this
theorem bytes_row {w : World} {a : Option Addr} {l c : Nat} {zs : List Int} (h : IsRow .u8 w a l c zs) : Bytes (zs.take l) := by
  intro i hi
  have hi' : i < zs.length := by rw [List.length_take] at hi; omega
  have := isRow8 h zs[i] (List.getElem_mem hi')
  rw [List.length_take] at hi
  simpa [List.getD, List.getElem?_take, show i < l by omega, hi'] using this
end GAb
namespace Go.Proofs.YtocfmecenpeoiaaGreat
open GAb Go
theorem mixed : Tryz.prog.follows .mixedOrders = true := by kernel_rfl
end Go.Proofs.YtocfmecenpeoiaaGreat
