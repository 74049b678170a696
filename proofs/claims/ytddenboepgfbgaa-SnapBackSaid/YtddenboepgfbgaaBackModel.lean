/- What was squeezed is stretched to what it was, as plain lists. No statement of the seat is proved in this text. -/
import Derived.Test.YtddenboepgfbgaaStretchModel
import Derived.Test.YtddenboepgfbgaaRefSqueeze
set_option linter.unusedVariables false
set_option linter.unusedSimpArgs false
namespace Go.Proofs.Ytddenboepgfbgaa
open GAb Go

theorem ex_pair {size : Nat} {row rest : List Int} {y : Int} (h : ¬ size < row.length + (y.toNat + 1)) : ex size row (0 :: y :: rest) = ex size (row ++ List.replicate (y.toNat + 1) 0) rest := by
  conv => lhs; rw [ex.eq_def]
  simp [h]
theorem ex_one {size : Nat} {row rest : List Int} {x : Int} (hx : x ≠ 0) (h : ¬ size < row.length + 1) : ex size row (x :: rest) = ex size (row ++ [x]) rest := by
  conv => lhs; rw [ex.eq_def]
  simp [h, hx]
theorem ex_flush (size : Nat) : ∀ (n z : Nat) (row rest : List Int), z ≤ n → row.length + z ≤ size → ex size row (flush z ++ rest) = ex size (row ++ List.replicate z 0) rest
  | 0, z, row, rest, hz, _ => by
    have : z = 0 := by omega
    subst this
    rw [flush_zero]; simp
  | n + 1, z, row, rest, hz, h => by
    rcases Nat.eq_zero_or_pos z with h0 | h0
    · subst h0; rw [flush_zero]; simp
    · rw [flush_pos h0]
      simp only [List.cons_append, List.nil_append]
      have ht : (((min z 256 : Nat) : Int) - 1).toNat + 1 = min z 256 := by omega
      rw [ex_pair (by rw [ht]; omega), ht, ex_flush size n (z - min z 256) _ rest (by omega) (by simp; omega), List.append_assoc, List.replicate_append_replicate]
      congr 3
      omega
def tel : Nat → List Int → List Int
  | _, [] => []
  | z, x :: r => if x = 0 then tel (z + 1) r else List.replicate z 0 ++ x :: tel 0 r
theorem ex_sqz (size : Nat) : ∀ (r : List Int) (z : Nat) (row : List Int), row.length + z + r.length ≤ size → ex size row (sqz z r) = (0, row ++ tel z r)
  | [], z, row, _ => by rw [sqz, ex, tel, List.append_nil]
  | x :: r, z, row, h => by
    simp only [List.length_cons] at h
    by_cases hx : x = 0
    · subst hx
      rw [sqz_zero, ex_sqz size r (z + 1) row (by omega)]
      simp [tel]
    · rw [sqz_other _ hx, ex_flush size z z row _ (Nat.le_refl _) (by omega), ex_one hx (by simp; omega), ex_sqz size r 0 _ (by simp; omega)]
      simp [tel, hx]
theorem outL_tel (was : List Int) (size : Nat) : ∀ (r : List Int) (z : Nat) (row : List Int), outL was size (row ++ tel z r) = outL was size (row ++ List.replicate z 0 ++ r)
  | [], z, row => by rw [tel, List.append_nil, List.append_nil, outL_zeros]
  | x :: r, z, row => by
    by_cases hx : x = 0
    · subst hx
      have e : tel z (0 :: r) = tel (z + 1) r := by simp [tel]
      rw [e, outL_tel was size r (z + 1) row, List.replicate_succ']
      simp
    · have e : row ++ tel z (x :: r) = (row ++ List.replicate z 0 ++ [x]) ++ tel 0 r := by simp [tel, hx]
      rw [e, outL_tel was size r 0 _]
      simp
theorem ofInt_xor8 (a b : Int) : BitVec.ofInt 8 (xor8 a b) = BitVec.ofInt 8 a ^^^ BitVec.ofInt 8 b := by
  unfold xor8
  have := (BitVec.ofInt 8 a ^^^ BitVec.ofInt 8 b).isLt
  rw [wrap8 (by omega) (by omega), BitVec.ofInt_natCast, BitVec.ofNat_toNat, BitVec.setWidth_eq]
theorem xor8_back {a b : Int} (h : 0 ≤ a ∧ a ≤ 255) : xor8 (xor8 a b) b = a := by
  have : xor8 (xor8 a b) b = IntKind.u8.wrap ((BitVec.ofInt 8 (xor8 a b) ^^^ BitVec.ofInt 8 b).toNat : Int) := rfl
  rw [this, ofInt_xor8, BitVec.xor_assoc, BitVec.xor_self, BitVec.xor_zero, ofBits a h, wrap8 h.1 h.2]
theorem xor8_self (a : Int) : xor8 a a = 0 := by
  unfold xor8
  rw [BitVec.xor_self]
  rfl
theorem back_out {was now : List Int} (hn : ∀ x ∈ now, 0 ≤ x ∧ x ≤ 255) : outL was now.length (rowL was now) = now := by
  apply List.ext_getElem?
  intro j
  unfold outL
  by_cases hj : j < now.length
  · have hb := hn now[j] (List.getElem_mem hj)
    simp only [List.getElem?_map, List.getElem?_range hj, Option.map_some, rowL_at hj, List.getElem?_eq_getElem hj]
    congr 1
    unfold rowAt
    have : now.getD j 0 = now[j] := by simp [List.getD, hj]
    split
    · rw [this, xor8_back hb]
    · rw [this]
  · rw [List.getElem?_eq_none (by simp; omega), List.getElem?_eq_none (by omega)]
theorem back_law {was now : List Int} (hn : ∀ x ∈ now, 0 ≤ x ∧ x ≤ 255) (hl : now.length ≤ 1000000) : stretchL was now.length (sqz 0 (rowL was now)) = (0, now) := by
  unfold stretchL
  rw [if_neg (by omega), Int.toNat_natCast, ex_sqz _ _ 0 [] (by simp [rowL_length]), if_pos rfl]
  simp only
  rw [outL_tel]
  simp [back_out hn]
theorem flush_length : ∀ (n z : Nat), z ≤ n → 2 * (flush z).length ≤ 3 * z + 1
  | 0, z, h => by
    have : z = 0 := by omega
    subst this
    rw [flush_zero]; simp
  | n + 1, z, h => by
    rcases Nat.eq_zero_or_pos z with h0 | h0
    · subst h0; rw [flush_zero]; simp
    · have := flush_length n (z - min z 256) (by omega)
      rw [flush_pos h0, List.length_append]
      simp only [List.length_cons, List.length_nil]
      by_cases hz : z ≤ 256
      · rw [show z - min z 256 = 0 by omega, flush_zero]
        simp
        omega
      · omega
theorem sqz_length : ∀ (r : List Int) (z : Nat), 2 * (sqz z r).length ≤ 3 * (z + r.length)
  | [], z => by simp [sqz]
  | x :: r, z => by
    by_cases hx : x = 0
    · subst hx
      have := sqz_length r (z + 1)
      rw [sqz_zero]
      simp only [List.length_cons]
      omega
    · have h1 := sqz_length r 0
      have h2 := flush_length z z (Nat.le_refl _)
      rw [sqz_other _ hx, List.length_append]
      simp only [List.length_cons]
      omega
theorem sqz_bytes : ∀ (r : List Int) (z : Nat), (∀ x ∈ r, 0 ≤ x ∧ x ≤ 255) → ∀ x ∈ sqz z r, 0 ≤ x ∧ x ≤ 255 := by
  have hf : ∀ (n z : Nat), z ≤ n → ∀ x ∈ flush z, 0 ≤ x ∧ x ≤ 255 := by
    intro n
    induction n with
    | zero => intro z h x hx; have : z = 0 := by omega
              subst this; rw [flush_zero] at hx; cases hx
    | succ n ih =>
      intro z h x hx
      rcases Nat.eq_zero_or_pos z with h0 | h0
      · subst h0; rw [flush_zero] at hx; cases hx
      · rw [flush_pos h0] at hx
        rcases List.mem_append.1 hx with hx | hx
        · simp at hx
          omega
        · exact ih (z - min z 256) (by omega) x hx
  intro r
  induction r with
  | nil => intro z _ x hx; cases hx
  | cons y r ih =>
    intro z h x hx
    by_cases hy : y = 0
    · subst hy
      rw [sqz_zero] at hx
      exact ih (z + 1) (fun x hx => h x (List.mem_cons_of_mem _ hx)) x hx
    · rw [sqz_other _ hy] at hx
      rcases List.mem_append.1 hx with hx | hx
      · exact hf z z (Nat.le_refl _) x hx
      · rcases List.mem_cons.1 hx with rfl | hx
        · exact h _ (by simp)
        · exact ih 0 (fun x hx => h x (List.mem_cons_of_mem _ hx)) x hx
theorem rowL_bytes {was now : List Int} (hn : ∀ x ∈ now, 0 ≤ x ∧ x ≤ 255) : ∀ x ∈ rowL was now, 0 ≤ x ∧ x ≤ 255 := by
  intro x hx
  unfold rowL rowTo at hx
  obtain ⟨i, hi, rfl⟩ := List.mem_map.1 hx
  have hi' : i < now.length := by simpa using hi
  unfold rowAt
  split
  · exact xor8_bound _ _
  · have := hn now[i] (List.getElem_mem hi')
    simpa [List.getD, hi'] using this
theorem same_none (now : List Int) : sqz 0 (rowL now now) = [] := by
  refine sqz_zeros 0 fun x hx => ?_
  unfold rowL rowTo at hx
  obtain ⟨i, hi, rfl⟩ := List.mem_map.1 hx
  have hi' : i < now.length := by simpa using hi
  unfold rowAt
  rw [if_pos hi', xor8_self]

end Go.Proofs.Ytddenboepgfbgaa
