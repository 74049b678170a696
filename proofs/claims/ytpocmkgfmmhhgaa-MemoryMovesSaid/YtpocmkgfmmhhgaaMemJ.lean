/- Bytes that are put stay, and what lies beside. No statement of the seat is proved in this text. -/
import Derived.Test.YtpocmkgfmmhhgaaMemI
set_option linter.unusedVariables false
set_option linter.unusedSimpArgs false
set_option maxRecDepth 100000
set_option maxHeartbeats 8000000
namespace Go.Proofs.Ytpocmkgfmmhhgaa
open GAb Go

theorem putB_take {bs C : List Int} {a : Nat} (h : a + C.length ≤ bs.length) : (putB bs a C).take a = bs.take a := by
  unfold putB
  rw [List.take_append_of_le_length (by rw [List.length_take]; omega), List.take_take, Nat.min_self]
theorem putB_drop {bs C : List Int} {a : Nat} (h : a + C.length ≤ bs.length) : (putB bs a C).drop (a + C.length) = bs.drop (a + C.length) := by
  unfold putB
  rw [← List.append_assoc]
  have e : (bs.take a ++ C).length = a + C.length := by rw [List.length_append, List.length_take]; omega
  rw [List.drop_append_of_le_length (by omega), ← e, List.drop_length, List.nil_append, e]
theorem putB_be {bs : List Int} {a x n : Int} (h : n = 1 ∨ n = 2 ∨ n = 4) (h0 : 0 ≤ a) (h1 : a + n ≤ bs.length) : be (putB bs a.toNat (putR x n)) a.toNat n.toNat = x % 256 ^ n.toNat := by
  have := be_put (bs.take a.toNat) (bs.drop (a.toNat + (putR x n).length)) x n h
  rw [List.length_take, Nat.min_eq_left (by omega)] at this
  exact this
theorem andM {x w : Int} (hw : w = 256 ∨ w = 65536) (h0 : 0 ≤ x) (h1 : x ≤ 4294967295) : IntKind.u32.wrap ↑(BitVec.ofInt IntKind.u32.bits x &&& BitVec.ofInt IntKind.u32.bits (w - 1)).toNat = x % w := by
  rcases hw with rfl | rfl
  · have e : (BitVec.ofInt IntKind.u32.bits x &&& BitVec.ofInt IntKind.u32.bits (256 - 1)).toNat = (x % 4294967296).toNat % 2 ^ 8 := by
      rw [BitVec.toNat_and, BitVec.toNat_ofInt]
      exact Nat.and_two_pow_sub_one_eq_mod _ 8
    rw [e, wrap32 (by omega) (by omega)]
    omega
  · have e : (BitVec.ofInt IntKind.u32.bits x &&& BitVec.ofInt IntKind.u32.bits (65536 - 1)).toNat = (x % 4294967296).toNat % 2 ^ 16 := by
      rw [BitVec.toNat_and, BitVec.toNat_ofInt]
      exact Nat.and_two_pow_sub_one_eq_mod _ 16
    rw [e, wrap32 (by omega) (by omega)]
    omega
theorem pow256 {n : Int} (h : n = 1 ∨ n = 2 ∨ n = 4) : ∃ w : Int, 256 ^ n.toNat = w ∧ ((n = 1 ∧ w = 256) ∨ (n = 2 ∧ w = 65536) ∨ (n = 4 ∧ w = 4294967296)) := by
  rcases h with rfl | rfl | rfl
  · exact ⟨256, rfl, by omega⟩
  · exact ⟨65536, rfl, by omega⟩
  · exact ⟨4294967296, rfl, by omega⟩
theorem shlN {n w : Int} (h : (n = 1 ∧ w = 256) ∨ (n = 2 ∧ w = 65536)) : IntKind.u32.wrap (1 * 2 ^ min (8 * n).toNat IntKind.u32.bits) = w := by
  rcases h with ⟨rfl, rfl⟩ | ⟨rfl, rfl⟩ <;> decide
theorem wr_cases (len a n : Int) : ∃ w, wrE len a n = w ∧ ((w = 1 ∧ ¬ (n = 1 ∨ n = 2 ∨ n = 4)) ∨ (w = 91 ∧ (n = 1 ∨ n = 2 ∨ n = 4) ∧ ¬ (256 ≤ a ∧ a + n ≤ len)) ∨ (w = 0 ∧ (n = 1 ∨ n = 2 ∨ n = 4) ∧ 256 ≤ a ∧ a + n ≤ len)) := by
  unfold wrE
  split
  · exact ⟨1, rfl, .inl ⟨rfl, by assumption⟩⟩
  · split
    · exact ⟨0, rfl, .inr (.inr ⟨rfl, by omega, by omega⟩)⟩
    · exact ⟨91, rfl, .inr (.inl ⟨rfl, by omega, by omega⟩)⟩
theorem wrA_same {bs : List Int} {a n x : Int} (h : wrE bs.length a n ≠ 0) : wrA bs a n x = bs := if_neg h
theorem wrA_put {bs : List Int} {a n x : Int} (h : wrE bs.length a n = 0) : wrA bs a n x = putB bs a.toNat (putR x n) := if_pos h

end Go.Proofs.Ytpocmkgfmmhhgaa
