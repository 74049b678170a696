/- A memory is read, written, moved, grown, by the program. No statement of the seat is proved in this text. -/
import Derived.Test.YtocfmecenpeoiaaGreatMemA
set_option linter.unusedVariables false
set_option linter.unusedSimpArgs false
set_option maxRecDepth 100000
set_option maxHeartbeats 4000000
namespace Go.Proofs.YtocfmecenpeoiaaGreat
open GAb Go

theorem splice_midm {A B C Z : List Int} (h : B.length = C.length) : splice (u8l (A ++ (B ++ Z))) A.length (u8l C) = u8l (A ++ (C ++ Z)) := by
  unfold splice u8l
  simp only [List.map_append, List.length_map]
  rw [List.take_append_of_le_length (by simp), List.take_of_length_le (by simp), ← h]
  congr 1
  congr 1
  rw [← List.append_assoc, List.drop_append_of_le_length (by simp)]
  simp
/-- Some bytes in the place of others. -/
def putB (bs : List Int) (a : Nat) (C : List Int) : List Int := bs.take a ++ (C ++ bs.drop (a + C.length))
theorem putB_len {bs C : List Int} {a : Nat} (h : a + C.length ≤ bs.length) : (putB bs a C).length = bs.length := by
  unfold putB
  simp only [List.length_append, List.length_take, List.length_drop]; omega
theorem putB_splice {bs C : List Int} {a : Nat} (h : a + C.length ≤ bs.length) : splice (u8l bs) a (u8l C) = u8l (putB bs a C) := by
  have e : bs = bs.take a ++ ((bs.drop a).take C.length ++ bs.drop (a + C.length)) := by
    rw [← List.drop_drop, List.take_append_drop, List.take_append_drop]
  have hl : (bs.take a).length = a := by rw [List.length_take]; omega
  have := splice_midm (A := bs.take a) (B := (bs.drop a).take C.length) (C := C) (Z := bs.drop (a + C.length)) (by rw [List.length_take, List.length_drop]; omega)
  rw [← e, hl] at this
  exact this
theorem Bytes.appm {xs ys : List Int} (h1 : Bytes xs) (h2 : Bytes ys) : Bytes (xs ++ ys) := by
  intro i hi
  by_cases h : i < xs.length
  · have := h1.at i
    simpa [List.getD, List.getElem?_append_left h] using this
  · have := h2.at (i - xs.length)
    simpa [List.getD, List.getElem?_append_right (by omega : xs.length ≤ i)] using this
theorem bytesm_mem {bs : List Int} : Bytes bs ↔ ∀ x ∈ bs, 0 ≤ x ∧ x ≤ 255 := by
  constructor
  · intro h x hx
    obtain ⟨i, hi, rfl⟩ := List.mem_iff_getElem.1 hx
    have := h i hi
    simpa [List.getD, hi] using this
  · intro h i hi
    simpa [List.getD, hi] using h _ (List.getElem_mem hi)
theorem putB_bytes {bs C : List Int} {a : Nat} (h : Bytes bs) (hC : Bytes C) : Bytes (putB bs a C) := by
  rw [bytesm_mem] at *
  intro x hx
  unfold putB at hx
  rcases List.mem_append.1 hx with h1 | h1
  · exact h x (List.mem_of_mem_take h1)
  · rcases List.mem_append.1 h1 with h1 | h1
    · exact hC x h1
    · exact h x (List.mem_of_mem_drop h1)
/-- The same memory with other bytes. -/
abbrev MZ.wb (z : MZ) (bs : List Int) : MZ := { z with bs := bs }
theorem MOK.wb {z : MZ} (ok : MOK z) {bs : List Int} (hl : bs.length = z.bs.length) (hB : Bytes bs) : MOK (z.wb bs) := by
  obtain ⟨h1, h2, h3, h4, h5, h6, h7⟩ := ok
  exact ⟨h1, by show bs.length ≤ _ ∧ _; rw [hl]; exact h2, by show 768 ≤ bs.length ∧ bs.length % 256 = 0; rw [hl]; exact h3, hB, h5, h6, h7⟩
theorem mF_wb {O : Nat → Prop} {σ0 σ : AState} {m : Nat} {z : MZ} {bs : List Int} {vs : List Value} (F : Facts O σ0 σ [cel m (mC z), own z.ga 512 z.gc 1 (u8l smallB), own (some ⟨z.q, 0, some 0⟩) z.bs.length z.c 1 vs, cel z.h (hC z.h z.la z.lc 1048576 z.st z.en z.bl), own z.la z.bl.length z.lc 2 (rows eB z.bl)]) (hl : bs.length = z.bs.length) (hv : vs = u8l bs) : Facts O σ0 σ (mF m (z.wb bs)) := by
  subst hv
  show Facts O σ0 σ [cel m [.int .u64 z.f1, .int .u64 z.t1, .int .u32 196867, .int .u32 256, .int .u32 512, .int .u32 768, .int .u32 256, .int .u32 36, .int .u32 0, .int .u32 1198488979, .slice z.ga 512 z.gc, .slice (some ⟨z.q, 0, some 0⟩) bs.length z.cb, .pointer (some ⟨z.h, 0, none⟩)], own z.ga 512 z.gc 1 (u8l smallB), own (some ⟨z.q, 0, some 0⟩) bs.length z.c 1 (u8l bs), cel z.h (hC z.h z.la z.lc 1048576 z.st z.en z.bl), own z.la z.bl.length z.lc 2 (rows eB z.bl)]
  rw [hl]; exact F
def wrE (len a n : Int) : Int := if ¬ (n = 1 ∨ n = 2 ∨ n = 4) then 1 else if 256 ≤ a ∧ a + n ≤ len then 0 else 91
def wrA (bs : List Int) (a n x : Int) : List Int := if wrE bs.length a n = 0 then putB bs a.toNat (putR x n) else bs
theorem write_call {O : Nat → Prop} {σ : AState} {m : Nat} {z : MZ} {a n x : Int} (F : Facts O σ σ (mF m z)) (ok : MOK z) (ha : U32 a) (hx : U32 x) :
    SCall Tryz.prog O 84 [.pointer (some ⟨m, 0, none⟩), .int .u32 a, .int .i64 n, .int .u32 x] σ (Ret O σ (fun (_ : Unit) => .int .i64 (wrE z.bs.length a n)) (fun _ => mF m (z.wb (wrA z.bs a n x))) fun _ => True) := by
  have ha' := ha
  obtain ⟨a0, a1⟩ := ha
  have hr := ok.room
  refine k_fun Tryz.func84 rfl (m := 36) rfl fun B hD Q K => ?_
  refine k_seq fun Q K => k_lin fun W K => ?_
  refine l_op 0 rfl rfl rfl rfl rfl ?_
  refine l_nil (WK.nx ‹_› (SeqK.nx ‹_› ?_))
  refine k_seq fun Q K => k_block fun Q K => k_seq fun Q K => k_lin fun W K => ?_
  refine l_op 0 rfl rfl rfl rfl rfl ?_
  refine l_cmp rfl rfl rfl rfl ?_
  refine l_op 0 rfl rfl rfl rfl rfl ?_
  refine l_nil (WK.nx ‹_› (SeqK.nx ‹_› ?_))
  refine l_cond rfl rfl (fun hc1 => ?_) (fun hc1 => ?_)
  · simp only [irr_eq, beq_iff_eq, beq_eq_false_iff_ne, ne_eq, decide_eq_true_eq, decide_eq_false_iff_not] at hc1
    refine k_seq fun Q K => k_lin fun W K => ?_
    refine l_op 0 rfl rfl rfl rfl rfl ?_
    refine l_nil (WK.nx ‹_› (SeqK.nx ‹_› (k_ret (BlkK.rt ‹_› (SeqK.rt ‹_› ?_)))))
    refine FunK.rt (by assumption) rfl ?_
    -- leaf 1
    exact absurd hc1 (by decide)
  simp only [irr_eq, beq_iff_eq, beq_eq_false_iff_ne, ne_eq, decide_eq_true_eq, decide_eq_false_iff_not] at hc1
  refine k_seq fun Q K => k_lin fun W K => ?_
  refine l_op 0 rfl rfl rfl rfl rfl ?_
  refine l_callp F rfl rfl (by kernel_rfl) rfl rfl sizedm_call (fun _ s F _ => ?_)
  (try dsimp only [n_1, n_2, n_3, n_4, List.append_nil, pk, n_5, n_6] at F)
  refine l_op 2 rfl rfl rfl rfl rfl ?_
  refine l_op 0 rfl rfl rfl rfl rfl ?_
  refine l_nil (WK.nx ‹_› (SeqK.nx ‹_› ?_))
  refine l_cond rfl rfl (fun hc2 => ?_) (fun hc2 => ?_)
  · try simp only [i_1, i_2, i_3, i_4, i_5, ne_eq, i_6, i_7, i_8, i_9] at hc2
    refine k_seq fun Q K => k_lin fun W K => ?_
    refine l_op 0 rfl rfl rfl rfl rfl ?_
    refine l_nil (WK.nx ‹_› (SeqK.nx ‹_› (k_ret (BlkK.rt ‹_› (SeqK.rt ‹_› ?_)))))
    refine FunK.rt (by assumption) rfl ?_
    -- leaf 2
    (have he : wrE z.bs.length a n = 1 := if_pos (by assumption)
     have e : wrA z.bs a n x = z.bs := if_neg (by omega)
     rw [he, e]; exact ⟨(), rfl, F, trivial⟩)
  try simp only [i_1, i_2, i_3, i_4, i_5, ne_eq, i_6, i_7, i_8, i_9] at hc2
  refine k_seq fun Q K => k_lin fun W K => ?_
  refine l_op 0 rfl rfl rfl rfl rfl ?_
  iterate 2 refine l_op 2 rfl rfl rfl rfl rfl ?_
  iterate 2 refine l_op 0 rfl rfl rfl rfl rfl ?_
  refine l_cu64 rfl rfl rfl (by omega) rfl ?_
  refine l_callp F rfl rfl (by kernel_rfl) rfl rfl (open_call (oldM_of F ok 0 1 2 3 4 rfl rfl rfl rfl rfl) ok ha' (by omega)) (fun _ s F _ => ?_)
  (try dsimp only [n_1, n_2, n_3, n_4, List.append_nil, pk, n_5, n_6] at F)
  refine l_op 2 rfl rfl rfl rfl rfl ?_
  refine l_op 0 rfl rfl rfl rfl rfl ?_
  refine l_nil (WK.nx ‹_› (SeqK.nx ‹_› ?_))
  refine l_cond rfl rfl (fun hc3 => ?_) (fun hc3 => ?_)
  · try simp only [i_1, i_2, i_3, i_4, i_5, ne_eq, i_6, i_7, i_8, i_9] at hc3
    refine k_seq fun Q K => k_lin fun W K => ?_
    refine l_op 0 rfl rfl rfl rfl rfl ?_
    refine l_nil (WK.nx ‹_› (SeqK.nx ‹_› (k_ret (BlkK.rt ‹_› (SeqK.rt ‹_› ?_)))))
    refine FunK.rt (by assumption) rfl ?_
    -- leaf 3
    (have he : wrE z.bs.length a n = 91 := by unfold wrE; rw [if_neg (by omega), if_neg (by omega)]
     have e : wrA z.bs a n x = z.bs := if_neg (by omega)
     rw [he, e]; exact ⟨(), rfl, F, trivial⟩)
  try simp only [i_1, i_2, i_3, i_4, i_5, ne_eq, i_6, i_7, i_8, i_9] at hc3
  refine k_skip (BlkK.nx ‹_› (SeqK.nx ‹_› ?_))
  refine k_seq fun Q K => ?_
  refine k_linm [0, 1, 2, 3, 5, 7, 8, 4, 6, 9, 10] mixed (by kernel_rfl) (fun W K => ?_)
  try have hpS := F.pns
  refine l_op 0 rfl rfl rfl rfl rfl ?_
  iterate 3 refine l_op 2 rfl rfl rfl rfl rfl ?_
  iterate 3 refine l_op 0 rfl rfl rfl rfl rfl ?_
  refine l_ldc F 0 rfl rfl rfl rfl rfl rfl rfl ?_
  skip
  refine l_sl (es := 1) (l := a.toNat) rfl rfl rfl rfl rfl rfl rfl rfl rfl (hb_of F ok 2 rfl) (by omega) ?_
  have hpA := PnA.cel F 0 rfl pna_nil
  refine l_callp F rfl rfl (by kernel_rfl) rfl rfl (wput_call (n := n) hx) (fun y s F _ => ?_)
  (try dsimp only [n_1, n_2, n_3, n_4, List.append_nil, pk, n_5, n_6] at F)
  have hpn := putR_n (x := x) (n := n) (by omega)
  refine l_cpo (es := 1) (j := 0 + a.toNat * 1) F 2 rfl rfl rfl rfl rfl rfl rfl (F.has 5 rfl) (by rw [List.all_eq_true]; exact fun v hv => List.all_eq_true.1 (ints_one _) v (List.mem_of_mem_take hv)) (by omega) hD (fun s F => ?_) (.inl (PnA.celE F 0 2 rfl rfl (by decide) pna_nil))
  (try dsimp only [n_1, n_2, n_3, n_4, List.append_nil, pk, n_5, n_6] at F)
  refine l_nil (WK.nx ‹_› (SeqK.nx ‹_› ?_))
  refine k_seq fun Q K => k_lin fun W K => ?_
  refine l_op 0 rfl rfl rfl rfl rfl ?_
  refine l_nil (WK.nx ‹_› (SeqK.nx ‹_› (k_ret ?_)))
  refine FunK.rt (by assumption) rfl ?_
  -- leaf 4
  (have he : wrE z.bs.length a n = 0 := by unfold wrE; rw [if_neg (by omega), if_pos (by omega)]
   have e : wrA z.bs a n x = putB z.bs a.toNat (putR x n) := if_pos he
   rw [he, e]
   refine ⟨(), rfl, mF_wb (F.pick [0, 1, 2, 3, 4] (by decide)) (putB_len (by omega)) ?_, trivial⟩
   have e2 : (u8l (putR x n)).take (min (putR x n).length (z.bs.length - a.toNat) * 1) = u8l (putR x n) := List.take_of_length_le (by rw [List.length_map]; omega)
   rw [e2, show 0 + a.toNat * 1 = a.toNat by omega]
   exact putB_splice (by omega))
def fiE (len a n : Int) : Int := if n = 0 then 0 else if 256 ≤ a ∧ a + n ≤ len then 0 else 91
def fiA (bs : List Int) (a n : Int) : List Int := if n ≠ 0 ∧ fiE bs.length a n = 0 then putB bs a.toNat (List.replicate n.toNat 0) else bs
def moE (len n f t : Int) : Int := if n = 0 then 0 else if ¬ (f + n ≤ len) then 90 else if 256 ≤ t ∧ t + n ≤ len then 0 else 91
def moA (bs : List Int) (n f t : Int) : List Int := if n ≠ 0 ∧ moE bs.length n f t = 0 then putB bs t.toNat ((bs.drop f.toNat).take n.toNat) else bs
end Go.Proofs.YtocfmecenpeoiaaGreat
