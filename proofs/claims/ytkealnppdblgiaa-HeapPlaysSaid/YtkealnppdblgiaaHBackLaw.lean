/- What is laid and freed at once: plain laws. No statement of the seat is proved in this text. -/
import Derived.Test.YtkealnppdblgiaaHApart
import Derived.Test.YtkealnppdblgiaaHSame
set_option linter.unusedVariables false
set_option linter.unusedSimpArgs false
set_option maxHeartbeats 4000000
namespace Go.Proofs.Ytkealnppdblgiaa
open GAb Go

theorem idx_ins {en n : Int} (hn : 0 < n) : ∀ {bl : List (Int × Int)} {q : Int}, BlkOK bl → rightL en q bl = true → idxR (placeR n q bl).1 (ins bl (placeR n q bl).2 ((placeR n q bl).1, n)) = (placeR n q bl).2 ∧ 0 ≤ (placeR n q bl).2
  | [], q, _, _ => by simp [placeR, ins, idxR]
  | b :: bl, q, hB, h => by
    obtain ⟨⟨a1, a2⟩, ⟨a3, a4⟩⟩ := hB b (by simp)
    rw [placeR]
    split
    · simp [ins, idxR]
    · rename_i hle
      simp only [rightL] at h
      split at h
      · cases h
      · rename_i hb
        have hB' : BlkOK bl := fun x hx => hB x (by simp [hx])
        obtain ⟨ih1, ih2⟩ := idx_ins hn hB' h
        have hp := (placeR_in (n := n) hB' h).1
        have e1 : ((placeR n (b.1 + b.2) bl).2 + 1).toNat = (placeR n (b.1 + b.2) bl).2.toNat + 1 := by omega
        have hi : ins (b :: bl) ((placeR n (b.1 + b.2) bl).2 + 1) ((placeR n (b.1 + b.2) bl).1, n) = b :: ins bl (placeR n (b.1 + b.2) bl).2 ((placeR n (b.1 + b.2) bl).1, n) := by
          simp [ins, e1]
        simp only
        rw [hi, idxR, if_neg (by omega), ih1, if_neg (by omega)]
        exact ⟨rfl, by omega⟩
theorem erase_ins (bl : List (Int × Int)) {i : Nat} (x : Int × Int) (h : i ≤ bl.length) : (bl.take i ++ x :: bl.drop i).eraseIdx i = bl := by
  have hl : (bl.take i).length = i := by rw [List.length_take]; omega
  rw [List.eraseIdx_append_of_length_le (by omega), hl, Nat.sub_self, List.eraseIdx_cons_zero, List.take_append_drop]
/-- What Malloc and then Free does. -/
theorem back_A {most st0 en0 st en n : Int} {bl : List (Int × Int)} (hB : BlkOK bl) (hn : 0 < n) (hm : most ≤ 4294967295) (hst : 0 ≤ st ∧ st ≤ 8589934590) (hr : rightL en st bl = true) :
    mallocA most st0 en0 st en bl n = ⟨0, false, st0, en0, bl⟩ ∨
      ∃ r, mallocA most st0 en0 st en bl n = r ∧ r.ok = true ∧ (freeR r.st r.en r.bl r.ret).ret = 0 ∧ (freeR r.st r.en r.bl r.ret).bl = bl := by
  have hbd := placeR_bound n bl st hB hst.1 hst.2
  obtain ⟨h1, h2⟩ := idx_ins hn hB hr
  generalize hpe : placeR n st bl = pi at hbd h1 h2
  obtain ⟨p, i⟩ := pi
  simp only at hbd h1 h2
  have key : ∀ en', (freeR st en' (ins bl i (p, n)) p).ret = 0 ∧ (freeR st en' (ins bl i (p, n)) p).bl = bl := fun en' => by
    have he : (ins bl i (p, n)).eraseIdx i.toNat = bl := erase_ins bl (p, n) (by omega)
    unfold freeR
    rw [h1, if_neg (by omega), he]
    split <;> exact ⟨rfl, rfl⟩
  by_cases h3 : p + n ≤ en
  · rw [mallocA_in hpe h3]; exact .inr ⟨_, rfl, rfl, key _⟩
  · by_cases h4 : (p + n + 255) / 256 * 256 ≤ most
    · rw [mallocA_top hpe (by omega) h4 hm]; exact .inr ⟨_, rfl, rfl, key _⟩
    · rw [mallocA_no hpe (by omega) (by omega)]; exact .inl rfl
theorem back_R {most st en n e : Int} {bl : List (Int × Int)} (h0 : HOK most st en bl) (hm : U32 most) (hn : U32 n) (he : U32 e) :
    mallocR most st en bl n e = ⟨0, false, st, en, bl⟩ ∨
      ∃ r, mallocR most st en bl n e = r ∧ r.ok = true ∧ (freeR r.st r.en r.bl r.ret).ret = 0 ∧ (freeR r.st r.en r.bl r.ret).bl = bl := by
  obtain ⟨n0, n1⟩ := hn
  obtain ⟨e0, e1⟩ := he
  by_cases h1 : n = 0 ∨ bl.length = 4096 ∨ bl = [] ∧ (e = 0 ∨ e % 256 ≠ 0 ∨ e > most)
  · exact .inl (mallocR_none h1)
  · by_cases h2 : bl = []
    · subst h2
      have h3 : ¬ (e = 0 ∨ e % 256 ≠ 0 ∨ e > most) := fun h => h1 (.inr (.inr ⟨rfl, h⟩))
      rw [mallocR_new (by omega) (by omega) (by omega) (by omega)]
      exact back_A h0.blk (by omega) hm.2 ⟨by omega, by omega⟩ (by simp [rightL])
    · have h3 : n ≠ 0 := fun h => h1 (.inl h)
      have h4 : bl.length ≠ 4096 := fun h => h1 (.inr (.inl h))
      rw [mallocR_on h3 h2 h4]
      have := h0.ust
      exact back_A h0.blk (by omega) hm.2 ⟨this.1, by have := this.2; omega⟩ (h0.on h2).2.2.2.2
theorem idx_last {en : Int} : ∀ {bl : List (Int × Int)} {q : Int} {j : Nat}, BlkOK bl → rightL en q bl = true → j < bl.length → idxR (bl.getD j default).1 (bl.take (j + 1)) = j ∧ q ≤ (bl.getD j default).1
  | [], q, j, _, _, h => by simp at h
  | b :: bl, q, 0, hB, h, _ => by
    simp only [rightL] at h
    split at h
    · cases h
    · simp [idxR]; omega
  | b :: bl, q, j + 1, hB, h, hj => by
    obtain ⟨⟨a1, a2⟩, ⟨a3, a4⟩⟩ := hB b (by simp)
    simp only [rightL] at h
    split at h
    · cases h
    · obtain ⟨ih1, ih2⟩ := idx_last (j := j) (fun x hx => hB x (by simp [hx])) h (by simpa using hj)
      have e1 : (b :: bl).getD (j + 1) default = bl.getD j default := by simp [List.getD]
      rw [e1, List.take_succ_cons, idxR, if_neg (by omega), ih1, if_neg (by omega)]
      exact ⟨by omega, by omega⟩
theorem free_last {en0 q st en : Int} {bl : List (Int × Int)} {j : Nat} (hB : BlkOK bl) (h : rightL en0 q bl = true) (hj : j < bl.length) :
    (freeR st en (bl.take (j + 1)) (bl.getD j default).1).ret = 0 ∧ (freeR st en (bl.take (j + 1)) (bl.getD j default).1).bl = bl.take j := by
  have h1 := (idx_last hB h hj).1
  have h2 : (bl.take (j + 1)).eraseIdx j = bl.take j := by
    rw [List.take_succ_eq_append_getElem hj, List.eraseIdx_append_of_length_le (by rw [List.length_take]; omega), List.length_take, Nat.min_eq_left (by omega), Nat.sub_self]
    simp
  unfold freeR
  rw [h1, if_neg (by omega), show ((j : Int).toNat) = j by omega, h2]
  split <;> exact ⟨rfl, rfl⟩
end Go.Proofs.Ytkealnppdblgiaa
