/- What bytes are stretched to, as plain lists. No statement of the seat is proved in this text. -/
import Derived.Test.YtddenboepgfbgaaSqueeze
import Derived.Test.YtddenboepgfbgaaAb18
set_option linter.unusedVariables false
set_option linter.unusedSimpArgs false
namespace Go.Proofs.Ytddenboepgfbgaa
open GAb Go

/-- The row that is told, or the first fault. -/
def ex (size : Nat) : List Int → List Int → Int × List Int
  | row, [] => (0, row)
  | row, x :: r => if x ≠ 0 then (if size < row.length + 1 then (3, []) else ex size (row ++ [x]) r)
    else match r with
      | [] => (2, [])
      | y :: r' => if size < row.length + (y.toNat + 1) then (3, []) else ex size (row ++ List.replicate (y.toNat + 1) 0) r'
termination_by _ b => b.length
def outL (was : List Int) (size : Nat) (row : List Int) : List Int := (List.range size).map fun j => rowAt was j (row.getD j 0)
def stretchL (was : List Int) (size : Int) (b : List Int) : Int × List Int :=
  if size < 0 ∨ 1048576 < size then (1, [])
  else if (ex size.toNat [] b).1 = 0 then (0, outL was size.toNat (ex size.toNat [] b).2) else ((ex size.toNat [] b).1, [])

theorem ex_nil {size : Nat} {row b : List Int} {i : Nat} (h : b.length ≤ i) : ex size row (b.drop i) = (0, row) := by
  rw [List.drop_eq_nil_of_le h, ex]
theorem drop_get {b : List Int} {i : Nat} (h : i < b.length) : b.drop i = b.getD i 0 :: b.drop (i + 1) := by
  rw [List.drop_eq_getElem_cons h]
  simp [List.getD, h]
theorem ex_other {size : Nat} {row b : List Int} {i : Nat} (h : i < b.length) (hx : b.getD i 0 ≠ 0) : ex size row (b.drop i) = if size < row.length + 1 then (3, []) else ex size (row ++ [b.getD i 0]) (b.drop (i + 1)) := by
  rw [drop_get h]
  conv => lhs; rw [ex.eq_def]
  simp only [hx, ne_eq, not_false_eq_true, if_true]
theorem ex_short {size : Nat} {row b : List Int} {i : Nat} (h : i < b.length) (hx : b.getD i 0 = 0) (hl : b.length ≤ i + 1) : ex size row (b.drop i) = (2, []) := by
  rw [drop_get h, List.drop_eq_nil_of_le hl]
  conv => lhs; rw [ex.eq_def]
  simp only [hx, ne_eq, not_true_eq_false, if_false]
theorem ex_zeros {size : Nat} {row b : List Int} {i : Nat} (h : i < b.length) (hx : b.getD i 0 = 0) (hl : i + 1 < b.length) :
    ex size row (b.drop i) = if size < row.length + ((b.getD (i + 1) 0).toNat + 1) then (3, []) else ex size (row ++ List.replicate ((b.getD (i + 1) 0).toNat + 1) 0) (b.drop (i + 2)) := by
  rw [drop_get h, drop_get hl]
  conv => lhs; rw [ex.eq_def]
  simp only [hx, ne_eq, not_true_eq_false, if_false]

theorem ofBits (x : Int) (h : 0 ≤ x ∧ x ≤ 255) : ((BitVec.ofInt 8 x).toNat : Int) = x := by
  rw [BitVec.toNat_ofInt]; omega
theorem xor8_comm (a b : Int) : xor8 a b = xor8 b a := by unfold xor8; rw [BitVec.xor_comm]
theorem xor8_zero {x : Int} (h : 0 ≤ x ∧ x ≤ 255) : xor8 0 x = x := by
  unfold xor8
  rw [show BitVec.ofInt 8 0 = 0#8 from rfl, BitVec.zero_xor, ofBits x h, wrap8 h.1 h.2]
theorem xor8_bound (a b : Int) : 0 ≤ xor8 a b ∧ xor8 a b ≤ 255 := by
  unfold xor8
  simp only [IntKind.wrap, IntKind.bits, IntKind.signed]
  simp
  omega

theorem outL_length (was : List Int) (size : Nat) (row : List Int) : (outL was size row).length = size := by simp [outL]
theorem outL_zeros (was : List Int) (size : Nat) (row : List Int) (k : Nat) : outL was size (row ++ List.replicate k 0) = outL was size row := by
  unfold outL
  refine List.map_congr_left fun j _ => ?_
  congr 1
  simp only [List.getD, List.getElem?_append]
  split
  · rfl
  · rename_i h
    rw [List.getElem?_eq_none (by omega : row.length ≤ j), List.getElem?_replicate]
    split <;> rfl
theorem rowL_pad (was : List Int) (size : Nat) (row : List Int) (h : row.length ≤ size) : rowL was (row ++ List.replicate (size - row.length) 0) = outL was size row := by
  rw [← outL_zeros was size row (size - row.length)]
  have hl : (row ++ List.replicate (size - row.length) (0 : Int)).length = size := by simp; omega
  unfold rowL rowTo outL
  rw [hl]
theorem outL_start {was : List Int} (hw : ∀ x ∈ was, 0 ≤ x ∧ x ≤ 255) (size : Nat) : splice (u8l (List.replicate size 0)) 0 (u8l (was.take (min was.length size))) = u8l (outL was size []) := by
  unfold splice outL
  apply List.ext_getElem?
  intro j
  simp only [List.take_zero, List.nil_append, Nat.zero_add, u8l, List.map_take, List.length_take, List.length_map, List.map_replicate, List.drop_replicate]
  rw [List.getElem?_append]
  by_cases hj : j < size
  · by_cases hl : j < was.length
    · rw [if_pos (by simp; omega)]
      have hx := hw was[j] (List.getElem_mem hl)
      simp [hj, hl, rowAt, xor8_zero hx, List.getElem?_take]
      omega
    · rw [if_neg (by simp; omega)]
      rw [List.getElem?_replicate, if_pos (by simp; omega)]
      simp [hj, hl, rowAt]
  · rw [if_neg (by simp; omega)]
    simp [hj]
    omega
theorem outL_set {was : List Int} {size : Nat} {row : List Int} {x : Int} (h : row.length < size) (hw : ∀ x ∈ was, 0 ≤ x ∧ x ≤ 255) (hx : 0 ≤ x ∧ x ≤ 255) :
    splice (u8l (outL was size row)) row.length [.int .u8 (xor8 ((outL was size row).getD row.length 0) x)] = u8l (outL was size (row ++ [x])) := by
  have hat : xor8 ((outL was size row).getD row.length 0) x = rowAt was row.length x := by
    unfold outL rowAt
    by_cases hl : row.length < was.length
    · have hb := hw was[row.length] (List.getElem_mem hl)
      simp [h, hl, List.getD, rowAt, xor8_zero hb]
      exact xor8_comm _ _
    · simp [h, hl, List.getD, rowAt, xor8_zero hx]
  rw [hat]
  unfold splice outL
  apply List.ext_getElem?
  intro j
  simp only [u8l, List.map_map, List.length_singleton]
  rw [List.getElem?_append, List.length_take]
  simp only [List.length_map, List.length_range, Nat.min_eq_left (Nat.le_of_lt h)]
  by_cases hj : j < row.length
  · have : j < size := by omega
    simp [hj, this, List.getElem?_take, List.getD, List.getElem?_append]
  · rw [if_neg hj]
    by_cases he : j = row.length
    · subst he
      simp [h, List.getD, List.getElem?_append]
    · rw [List.getElem?_append, if_neg (by simp; omega)]
      simp only [List.length_singleton, List.getElem?_drop]
      rw [show row.length + 1 + (j - row.length - 1) = j by omega]
      by_cases hs : j < size
      · simp [hs, List.getD, List.getElem?_append, hj, show row.length ≤ j by omega, show ¬ j - row.length < 1 by omega]
      · simp [hs]

end Go.Proofs.Ytddenboepgfbgaa
