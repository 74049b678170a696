/- A stack is loaded, left, told, by the program. No statement of the seat is proved in this text. -/
import Derived.Test.YtocfmecenpeoiaaGreatStB
set_option linter.unusedVariables false
set_option linter.unusedSimpArgs false
set_option maxRecDepth 100000
set_option maxHeartbeats 4000000
namespace Go.Proofs.YtocfmecenpeoiaaGreat.Stk
open GAb Go

theorem bytes_call {σ : AState} {m n c : Nat} {a : Option Addr} {size fp : Int} {on : Bool} {bs : List Int} (hc : OldC E0 σ m (sC a n c size fp on)) (hl : Old E0 σ a n c 1 (u8l bs)) (hn : n ≤ 1000000) :
    SCall Tryz.prog E0 34 [.pointer (some ⟨m, 0, none⟩)] σ (Ret E0 σ (fun (y : Option Addr × Nat) => .slice y.1 n y.2) (fun y => [own y.1 n y.2 1 (u8l bs)]) fun _ => True) := by
  refine k_fun Tryz.func34 rfl (m := 10) rfl fun B hD Q K => ?_
  have F := Facts.nil E0 σ
  refine k_seq fun Q K => k_lin fun W K => ?_
  refine l_op 0 rfl rfl rfl rfl rfl ?_
  refine l_nil (WK.nx ‹_› (SeqK.nx ‹_› ?_))
  refine k_seq fun Q K => k_seq fun Q K => k_lin fun W K => ?_
  refine l_op 0 rfl rfl rfl rfl rfl ?_
  refine l_cmp rfl rfl rfl rfl ?_
  refine l_nil (WK.nx ‹_› (SeqK.nx ‹_› ?_))
  refine l_cond rfl rfl (fun hc1 => ?_) (fun hc1 => ?_)
  · exact absurd ((irr_eq _).symm.trans hc1) (by decide)
  simp only [irr_eq, beq_iff_eq, beq_eq_false_iff_ne, ne_eq, decide_eq_true_eq, decide_eq_false_iff_not] at hc1
  refine k_skip (SeqK.nx ‹_› ?_)
  refine k_seq fun Q K => k_lin fun W K => ?_
  refine l_op 0 rfl rfl rfl rfl rfl ?_
  iterate 2 refine l_op 2 rfl rfl rfl rfl rfl ?_
  refine l_ldo F (by assumption) rfl rfl rfl rfl rfl rfl ?_
  refine l_callp F rfl rfl (by kernel_rfl) rfl rfl (clone_call (Old.pure (F.old hl)) (by omega)) (fun y s F _ => ?_)
  (try dsimp only [n_1, n_2, n_3, n_4, List.append_nil, pk, n_5, n_6] at F)
  refine l_op 0 rfl rfl rfl rfl rfl ?_
  refine l_nil (WK.nx ‹_› (SeqK.nx ‹_› (k_ret ?_)))
  refine FunK.rt (by assumption) rfl ?_
  -- leaf 1
  exact ⟨y, rfl, F, trivial⟩
theorem ready0 {on : Bool} {n size : Int} (h : n ≤ size) : readyR on n 0 size = 102 ∧ on = false ∨ readyR on n 0 size = 0 ∧ on = true := by
  unfold readyR
  cases on
  · exact .inl ⟨rfl, rfl⟩
  · right; rw [if_neg (by decide), if_neg (by omega)]; exact ⟨rfl, rfl⟩
/-- What an Unstub tells and leaves: three numbers, the error, how many bytes, the frame, is there one. -/
def UnsR (bs : List Int) (n : Nat) (fp : Int) (on : Bool) (x y z e : Int) (n' : Nat) (fp' : Int) (on' : Bool) : Prop :=
  on = true ∧ (n - (fp + at4 bs fp)) / 4 < 4 ∧ x = 0 ∧ y = 0 ∧ z = 0 ∧ e = 101 ∧ n' = n ∧ fp' = fp ∧ on' = on ∨
  on = false ∧ n = 0 ∧ x = 0 ∧ y = 0 ∧ z = 0 ∧ e = 5 ∧ n' = n ∧ fp' = fp ∧ on' = on ∨
  on = true ∧ 4 ≤ (n - (fp + at4 bs fp)) / 4 ∧ at4 bs (n - 16 + 12) ≠ fp ∧ x = 0 ∧ y = 0 ∧ z = 0 ∧ e = 102 ∧ n' = n ∧ fp' = fp ∧ on' = on ∨
  (on = true ∧ 4 ≤ (n - (fp + at4 bs fp)) / 4 ∧ at4 bs (n - 16 + 12) = fp ∨ on = false ∧ 16 ≤ n) ∧ x = at4 bs (n - 16) ∧ y = at4 bs (n - 16 + 4) ∧ z = at4 bs (n - 16 + 8) ∧ e = 0 ∧ n' = n - 16 ∧ fp' = at4 bs (n - 16 + 12) ∧ on' = true
abbrev unsV (y : Int × Int × Int × Int × Nat × Int × Bool) : Value := .tuple #[.int .u32 y.1, .int .u32 y.2.1, .int .u32 y.2.2.1, .int .i64 y.2.2.2.1]
abbrev unsF (m c : Nat) (a : Option Addr) (size : Int) (bs : List Int) (y : Int × Int × Int × Int × Nat × Int × Bool) : List Fact := [cel m (sC a y.2.2.2.2.1 c size y.2.2.2.2.2.1 y.2.2.2.2.2.2), own a y.2.2.2.2.1 c 1 (u8l (bs.take y.2.2.2.2.1))]
abbrev unsP (bs : List Int) (n : Nat) (fp : Int) (on : Bool) (y : Int × Int × Int × Int × Nat × Int × Bool) : Prop := UnsR bs n fp on y.1 y.2.1 y.2.2.1 y.2.2.2.1 y.2.2.2.2.1 y.2.2.2.2.2.1 y.2.2.2.2.2.2
theorem unstub_call {O : Nat → Prop} {σ : AState} {m n c : Nat} {a : Option Addr} {size fp : Int} {on : Bool} {bs : List Int} (F : Facts O σ σ [cel m (sC a n c size fp on), own a n c 1 (u8l bs)]) (hB : Bytes bs) (hn : n ≤ 1000000) (hf : 0 ≤ fp ∧ fp ≤ 4294967295) (hon : on = true → fp + at4 bs fp ≤ n) (hoff : on = false → n = 0 ∨ 16 ≤ n) :
    SCall Tryz.prog O 38 [.pointer (some ⟨m, 0, none⟩)] σ (Ret O σ unsV (unsF m c a size bs) (unsP bs n fp on)) := by
  have hbl := F.len8 1 rfl
  have hb := at4_bd hB fp
  have hbA := at4_bd hB ((n : Int) - 16)
  have hbB := at4_bd hB ((n : Int) - 16 + 4)
  have hbC := at4_bd hB ((n : Int) - 16 + 8)
  have hbt : bs.take n = bs := List.take_of_length_le (by omega)
  cases on
  · have hoff' := hoff rfl
    refine k_fun Tryz.func38 rfl (m := 91) rfl fun B hD Q K => ?_
    refine k_seq fun Q K => k_lin fun W K => ?_
    iterate 4 refine l_op 0 rfl rfl rfl rfl rfl ?_
    refine l_nil (WK.nx ‹_› (SeqK.nx ‹_› ?_))
    refine k_seq fun Q K => k_block fun Q K => k_seq fun Q K => k_lin fun W K => ?_
    refine l_op 0 rfl rfl rfl rfl rfl ?_
    refine l_cmp rfl rfl rfl rfl ?_
    refine l_op 0 rfl rfl rfl rfl rfl ?_
    refine l_nil (WK.nx ‹_› (SeqK.nx ‹_› ?_))
    refine l_cond rfl rfl (fun hc1 => ?_) (fun hc1 => ?_)
    · exact absurd ((irr_eq _).symm.trans hc1) (by decide)
    simp only [irr_eq, beq_iff_eq, beq_eq_false_iff_ne, ne_eq, decide_eq_true_eq, decide_eq_false_iff_not] at hc1
    refine k_seq fun Q K => k_lin fun W K => ?_
    refine l_op 0 rfl rfl rfl rfl rfl ?_
    iterate 2 refine l_op 2 rfl rfl rfl rfl rfl ?_
    refine l_ldc F 0 rfl rfl rfl rfl rfl rfl rfl ?_
    refine l_op 0 rfl rfl rfl rfl rfl ?_
    refine l_guard rfl rfl rfl (fun hc2 => ?_) (fun hc2 => ?_)
    · cases hc2
    try simp only [i_1, i_2, i_3, i_4, i_5, ne_eq, i_6, i_7, i_8, i_9] at hc2
    iterate 3 refine l_s rfl rfl ?_
    refine l_op 2 rfl rfl rfl rfl rfl ?_
    refine l_op 0 rfl rfl rfl rfl rfl ?_
    refine l_nil (WK.nx ‹_› (SeqK.nx ‹_› ?_))
    refine e_cond_f rfl rfl rfl ?_
    refine k_seq fun Q K => k_lin fun W K => ?_
    refine l_op 0 rfl rfl rfl rfl rfl ?_
    iterate 2 refine l_op 2 rfl rfl rfl rfl rfl ?_
    refine l_ldc F 0 rfl rfl rfl rfl rfl rfl rfl ?_
    refine l_op 2 rfl rfl rfl rfl rfl ?_
    refine l_op 0 rfl rfl rfl rfl rfl ?_
    refine l_guard rfl rfl rfl (fun hc3 => ?_) (fun hc3 => ?_)
    · try simp only [i_1, i_2, i_3, i_4, i_5, ne_eq, i_6, i_7, i_8, i_9] at hc3
      refine l_op 0 rfl rfl rfl rfl rfl ?_
      iterate 2 refine l_op 2 rfl rfl rfl rfl rfl ?_
      refine l_ldc F 0 rfl rfl rfl rfl rfl rfl rfl ?_
      refine l_op 2 rfl rfl rfl rfl rfl ?_
      refine l_cmp rfl rfl rfl rfl ?_
      refine l_op 2 rfl rfl rfl rfl rfl ?_
      refine l_op 0 rfl rfl rfl rfl rfl ?_
      refine l_nil (WK.nx ‹_› (SeqK.nx ‹_› ?_))
      refine l_cond rfl rfl (fun hc4 => ?_) (fun hc4 => ?_)
      · replace hc4 := eq_of_beq ((irr_eq _).symm.trans hc4)
        refine k_seq fun Q K => k_lin fun W K => ?_
        iterate 4 refine l_op 0 rfl rfl rfl rfl rfl ?_
        refine l_nil (WK.nx ‹_› (SeqK.nx ‹_› (k_ret (BlkK.rt ‹_› (SeqK.rt ‹_› ?_)))))
        refine FunK.rt (by assumption) rfl ?_
        -- leaf 1
        have F' := F.pick [0, 1] (by decide)
        exact ⟨(0, 0, 0, 5, n, fp, false), rfl, by dsimp only [unsF]; rw [hbt]; exact F', .inr (.inl ⟨rfl, by omega, rfl, rfl, rfl, rfl, rfl, rfl, rfl⟩)⟩
      replace hc4 := ne_of_beq_false ((irr_eq _).symm.trans hc4)
      refine k_skip (BlkK.nx ‹_› (SeqK.nx ‹_› ?_))
      refine k_seq fun Q K => k_lin fun W K => ?_
      refine l_op 0 rfl rfl rfl rfl rfl ?_
      iterate 2 refine l_op 2 rfl rfl rfl rfl rfl ?_
      refine l_ldc F 0 rfl rfl rfl rfl rfl rfl rfl ?_
      refine l_op 2 rfl rfl rfl rfl rfl ?_
      refine l_a64 rfl rfl rfl (by omega) rfl ?_
      refine l_op 0 rfl rfl rfl rfl rfl ?_
      refine l_nil (WK.nx ‹_› (SeqK.nx ‹_› ?_))
      refine k_seq fun Q K => k_seq fun Q K => ?_
      refine k_linm [0, 1, 2, 3, 4, 5, 6, 7, 9, 10, 11, 12, 8, 13, 14] mixed (by kernel_rfl) (fun W K => ?_)
      try have hpS := F.pns
      refine l_op 0 rfl rfl rfl rfl rfl ?_
      iterate 2 refine l_op 2 rfl rfl rfl rfl rfl ?_
      refine l_ldc F 0 rfl rfl rfl rfl rfl rfl rfl ?_
      skip
      refine l_op 0 rfl rfl rfl rfl rfl ?_
      refine l_guard rfl rfl rfl (fun hc5 => ?_) (fun hc5 => ?_)
      · cases hc5
      try simp only [i_1, i_2, i_3, i_4, i_5, ne_eq, i_6, i_7, i_8, i_9] at hc5
      iterate 9 refine l_s rfl rfl ?_
      refine l_op 2 rfl rfl rfl rfl rfl ?_
      refine l_nil (WK.nx ‹_› (SeqK.nx ‹_› ?_))
      refine e_cond_f rfl rfl rfl ?_
      refine k_skip (SeqK.nx ‹_› ?_)
      refine k_seq fun Q K => k_lin fun W K => ?_
      iterate 2 refine l_op 0 rfl rfl rfl rfl rfl ?_
      refine l_callp F rfl rfl (by kernel_rfl) rfl rfl (at_call (F.cel0 0 rfl) (Old.pure (F.has 1 rfl)) hB (by omega)) (fun _ s F _ => ?_)
      (try dsimp only [n_1, n_2, n_3, n_4, List.append_nil, pk, n_5, n_6] at F)
      refine l_c32 rfl rfl rfl (by omega) rfl ?_
      iterate 2 refine l_op 0 rfl rfl rfl rfl rfl ?_
      refine l_a64 rfl rfl rfl (by omega) rfl ?_
      refine l_callp F rfl rfl (by kernel_rfl) rfl rfl (at_call (F.cel0 0 rfl) (Old.pure (F.has 1 rfl)) hB (by omega)) (fun _ s F _ => ?_)
      (try dsimp only [n_1, n_2, n_3, n_4, List.append_nil, pk, n_5, n_6] at F)
      refine l_c32 rfl rfl rfl (by omega) rfl ?_
      iterate 2 refine l_op 0 rfl rfl rfl rfl rfl ?_
      refine l_a64 rfl rfl rfl (by omega) rfl ?_
      refine l_callp F rfl rfl (by kernel_rfl) rfl rfl (at_call (F.cel0 0 rfl) (Old.pure (F.has 1 rfl)) hB (by omega)) (fun _ s F _ => ?_)
      (try dsimp only [n_1, n_2, n_3, n_4, List.append_nil, pk, n_5, n_6] at F)
      refine l_c32 rfl rfl rfl (by omega) rfl ?_
      iterate 3 refine l_op 0 rfl rfl rfl rfl rfl ?_
      refine l_nil (WK.nx ‹_› (SeqK.nx ‹_› ?_))
      refine k_seq fun Q K => k_lin fun W K => ?_
      iterate 4 refine l_op 0 rfl rfl rfl rfl rfl ?_
      refine l_a64 rfl rfl rfl (by omega) rfl ?_
      refine l_callp F rfl rfl (by kernel_rfl) rfl rfl (at_call (F.cel0 0 rfl) (Old.pure (F.has 1 rfl)) hB (by omega)) (fun _ s F _ => ?_)
      (try dsimp only [n_1, n_2, n_3, n_4, List.append_nil, pk, n_5, n_6] at F)
      iterate 2 refine l_op 2 rfl rfl rfl rfl rfl ?_
      refine l_stc F 0 rfl rfl rfl rfl rfl rfl rfl rfl rfl hD (fun s F => ?_)
      (try dsimp only [n_1, n_2, n_3, n_4, List.append_nil, pk, n_5, n_6] at F)
      iterate 2 refine l_op 2 rfl rfl rfl rfl rfl ?_
      refine l_stc F 0 rfl rfl rfl rfl rfl rfl rfl rfl rfl hD (fun s F => ?_)
      (try dsimp only [n_1, n_2, n_3, n_4, List.append_nil, pk, n_5, n_6] at F)
      refine l_nil (WK.nx ‹_› (SeqK.nx ‹_› ?_))
      refine k_seq fun Q K => k_lin fun W K => ?_
      iterate 2 refine l_op 0 rfl rfl rfl rfl rfl ?_
      iterate 2 refine l_op 2 rfl rfl rfl rfl rfl ?_
      refine l_ldc F 0 rfl rfl rfl rfl rfl rfl rfl ?_
      refine l_op 0 rfl rfl rfl rfl rfl ?_
      refine l_slh rfl rfl rfl rfl rfl ⟨rfl, _, _, rfl, by omega, rfl⟩ (F.has 1 rfl) (by omega) ?_
      iterate 2 refine l_op 2 rfl rfl rfl rfl rfl ?_
      refine l_stc F 0 rfl rfl rfl rfl rfl rfl rfl rfl rfl hD (fun s F => ?_)
      (try dsimp only [n_1, n_2, n_3, n_4, List.append_nil, pk, n_5, n_6] at F)
      refine l_nil (WK.nx ‹_› (SeqK.nx ‹_› ?_))
      refine k_seq fun Q K => k_lin fun W K => ?_
      iterate 7 refine l_op 0 rfl rfl rfl rfl rfl ?_
      refine l_nil (WK.nx ‹_› (SeqK.nx ‹_› (k_ret ?_)))
      refine FunK.rt (by assumption) rfl ?_
      -- leaf 2
      have F := Facts.upto (F := F) 1 rfl (h := n - 16) (by omega)
      (try dsimp only [n_1, n_2, n_3, n_4, List.append_nil, pk, n_5, n_6] at F)
      rw [Nat.mul_one, ← List.map_take] at F
      have e1 : ((n : Int) - 16).toNat = n - 16 := by omega
      rw [e1] at F
      exact ⟨(_, _, _, 0, n - 16, at4 bs (n - 16 + 12), true), rfl, F.pick [0, 1] (by decide), .inr (.inr (.inr ⟨.inr ⟨rfl, by omega⟩, rfl, rfl, rfl, rfl, rfl, rfl, rfl⟩))⟩
    cases hc3
  · have hon' := hon rfl
    have hcr : countR true bs n fp = (n - (fp + at4 bs fp)) / 4 := rfl
    refine k_fun Tryz.func38 rfl (m := 91) rfl fun B hD Q K => ?_
    refine k_seq fun Q K => k_lin fun W K => ?_
    iterate 4 refine l_op 0 rfl rfl rfl rfl rfl ?_
    refine l_nil (WK.nx ‹_› (SeqK.nx ‹_› ?_))
    refine k_seq fun Q K => k_block fun Q K => k_seq fun Q K => k_lin fun W K => ?_
    refine l_op 0 rfl rfl rfl rfl rfl ?_
    refine l_cmp rfl rfl rfl rfl ?_
    refine l_op 0 rfl rfl rfl rfl rfl ?_
    refine l_nil (WK.nx ‹_› (SeqK.nx ‹_› ?_))
    refine l_cond rfl rfl (fun hc1 => ?_) (fun hc1 => ?_)
    · exact absurd ((irr_eq _).symm.trans hc1) (by decide)
    simp only [irr_eq, beq_iff_eq, beq_eq_false_iff_ne, ne_eq, decide_eq_true_eq, decide_eq_false_iff_not] at hc1
    refine k_seq fun Q K => k_lin fun W K => ?_
    refine l_op 0 rfl rfl rfl rfl rfl ?_
    iterate 2 refine l_op 2 rfl rfl rfl rfl rfl ?_
    refine l_ldc F 0 rfl rfl rfl rfl rfl rfl rfl ?_
    refine l_op 0 rfl rfl rfl rfl rfl ?_
    refine l_guard rfl rfl rfl (fun hc2 => ?_) (fun hc2 => ?_)
    · try simp only [i_1, i_2, i_3, i_4, i_5, ne_eq, i_6, i_7, i_8, i_9] at hc2
      refine l_op 0 rfl rfl rfl rfl rfl ?_
      refine l_callp F rfl rfl (by kernel_rfl) rfl rfl (count_call (F.cel0 0 rfl) (Old.pure (F.has 1 rfl)) hB (by omega) hf hon) (fun _ s F _ => ?_)
      (try dsimp only [n_1, n_2, n_3, n_4, List.append_nil, pk, n_5, n_6] at F)
      refine l_cmp rfl rfl rfl rfl ?_
      refine l_op 2 rfl rfl rfl rfl rfl ?_
      refine l_op 0 rfl rfl rfl rfl rfl ?_
      refine l_nil (WK.nx ‹_› (SeqK.nx ‹_› ?_))
      refine l_cond rfl rfl (fun hc3 => ?_) (fun hc3 => ?_)
      · replace hc3 := of_decide_eq_true ((irr_eq _).symm.trans hc3)
        refine k_seq fun Q K => k_lin fun W K => ?_
        iterate 4 refine l_op 0 rfl rfl rfl rfl rfl ?_
        refine l_nil (WK.nx ‹_› (SeqK.nx ‹_› (k_ret (BlkK.rt ‹_› (SeqK.rt ‹_› ?_)))))
        refine FunK.rt (by assumption) rfl ?_
        -- leaf 1
        have F' := F.pick [0, 1] (by decide)
        exact ⟨(0, 0, 0, 101, n, fp, true), rfl, by dsimp only [unsF]; rw [hbt]; exact F', .inl ⟨rfl, by omega, rfl, rfl, rfl, rfl, rfl, rfl, rfl⟩⟩
      replace hc3 := of_decide_eq_false ((irr_eq _).symm.trans hc3)
      refine k_seq fun Q K => k_lin fun W K => ?_
      refine l_op 0 rfl rfl rfl rfl rfl ?_
      iterate 2 refine l_op 2 rfl rfl rfl rfl rfl ?_
      refine l_ldc F 0 rfl rfl rfl rfl rfl rfl rfl ?_
      refine l_op 2 rfl rfl rfl rfl rfl ?_
      refine l_op 0 rfl rfl rfl rfl rfl ?_
      refine l_guard rfl rfl rfl (fun hc4 => ?_) (fun hc4 => ?_)
      · cases hc4
      try simp only [i_1, i_2, i_3, i_4, i_5, ne_eq, i_6, i_7, i_8, i_9] at hc4
      iterate 6 refine l_s rfl rfl ?_
      refine l_op 2 rfl rfl rfl rfl rfl ?_
      refine l_op 0 rfl rfl rfl rfl rfl ?_
      refine l_nil (WK.nx ‹_› (SeqK.nx ‹_› ?_))
      refine e_cond_f rfl rfl rfl ?_
      refine k_skip (BlkK.nx ‹_› (SeqK.nx ‹_› ?_))
      refine k_seq fun Q K => k_lin fun W K => ?_
      refine l_op 0 rfl rfl rfl rfl rfl ?_
      iterate 2 refine l_op 2 rfl rfl rfl rfl rfl ?_
      refine l_ldc F 0 rfl rfl rfl rfl rfl rfl rfl ?_
      refine l_op 2 rfl rfl rfl rfl rfl ?_
      refine l_a64 rfl rfl rfl (by omega) rfl ?_
      refine l_op 0 rfl rfl rfl rfl rfl ?_
      refine l_nil (WK.nx ‹_› (SeqK.nx ‹_› ?_))
      refine k_seq fun Q K => k_seq fun Q K => ?_
      refine k_linm [0, 1, 2, 3, 4, 5, 6, 7, 9, 10, 11, 12, 8, 13, 14] mixed (by kernel_rfl) (fun W K => ?_)
      try have hpS := F.pns
      refine l_op 0 rfl rfl rfl rfl rfl ?_
      iterate 2 refine l_op 2 rfl rfl rfl rfl rfl ?_
      refine l_ldc F 0 rfl rfl rfl rfl rfl rfl rfl ?_
      skip
      refine l_op 0 rfl rfl rfl rfl rfl ?_
      refine l_guard rfl rfl rfl (fun hc5 => ?_) (fun hc5 => ?_)
      · try simp only [i_1, i_2, i_3, i_4, i_5, ne_eq, i_6, i_7, i_8, i_9] at hc5
        iterate 2 refine l_op 0 rfl rfl rfl rfl rfl ?_
        refine l_a64 rfl rfl rfl (by omega) rfl ?_
        refine l_op 0 rfl rfl rfl rfl rfl ?_
        iterate 2 refine l_op 2 rfl rfl rfl rfl rfl ?_
        refine l_ldc F 0 rfl rfl rfl rfl rfl rfl rfl ?_
        skip
        have hpA := PnA.cel F 0 rfl (PnA.cel F 0 rfl pna_nil)
        refine l_callp F rfl rfl (by kernel_rfl) rfl rfl (at_call (F.cel0 0 rfl) (Old.pure (F.has 1 rfl)) hB (by omega)) (fun _ s F _ => ?_)
        (try dsimp only [n_1, n_2, n_3, n_4, List.append_nil, pk, n_5, n_6] at F)
        refine l_cmp rfl rfl rfl rfl ?_
        refine l_op 2 rfl rfl rfl rfl rfl ?_
        refine l_nil (WK.nx ‹_› (SeqK.nx ‹_› ?_))
        refine l_cond rfl rfl (fun hc6 => ?_) (fun hc6 => ?_)
        · replace hc6 := bne_iff_ne.1 ((irr_eq _).symm.trans hc6)
          refine k_seq fun Q K => k_lin fun W K => ?_
          iterate 4 refine l_op 0 rfl rfl rfl rfl rfl ?_
          refine l_nil (WK.nx ‹_› (SeqK.nx ‹_› (k_ret (SeqK.rt ‹_› ?_))))
          refine FunK.rt (by assumption) rfl ?_
          -- leaf 2
          have F' := F.pick [0, 1] (by decide)
          exact ⟨(0, 0, 0, 102, n, fp, true), rfl, by dsimp only [unsF]; rw [hbt]; exact F', .inr (.inr (.inl ⟨rfl, by omega, by assumption, rfl, rfl, rfl, rfl, rfl, rfl, rfl⟩))⟩
        replace hc6 := bne_eq_false_iff_eq.1 ((irr_eq _).symm.trans hc6)
        refine k_skip (SeqK.nx ‹_› ?_)
        refine k_seq fun Q K => k_lin fun W K => ?_
        iterate 2 refine l_op 0 rfl rfl rfl rfl rfl ?_
        refine l_callp F rfl rfl (by kernel_rfl) rfl rfl (at_call (F.cel0 0 rfl) (Old.pure (F.has 1 rfl)) hB (by omega)) (fun _ s F _ => ?_)
        (try dsimp only [n_1, n_2, n_3, n_4, List.append_nil, pk, n_5, n_6] at F)
        refine l_c32 rfl rfl rfl (by omega) rfl ?_
        iterate 2 refine l_op 0 rfl rfl rfl rfl rfl ?_
        refine l_a64 rfl rfl rfl (by omega) rfl ?_
        refine l_callp F rfl rfl (by kernel_rfl) rfl rfl (at_call (F.cel0 0 rfl) (Old.pure (F.has 1 rfl)) hB (by omega)) (fun _ s F _ => ?_)
        (try dsimp only [n_1, n_2, n_3, n_4, List.append_nil, pk, n_5, n_6] at F)
        refine l_c32 rfl rfl rfl (by omega) rfl ?_
        iterate 2 refine l_op 0 rfl rfl rfl rfl rfl ?_
        refine l_a64 rfl rfl rfl (by omega) rfl ?_
        refine l_callp F rfl rfl (by kernel_rfl) rfl rfl (at_call (F.cel0 0 rfl) (Old.pure (F.has 1 rfl)) hB (by omega)) (fun _ s F _ => ?_)
        (try dsimp only [n_1, n_2, n_3, n_4, List.append_nil, pk, n_5, n_6] at F)
        refine l_c32 rfl rfl rfl (by omega) rfl ?_
        iterate 3 refine l_op 0 rfl rfl rfl rfl rfl ?_
        refine l_nil (WK.nx ‹_› (SeqK.nx ‹_› ?_))
        refine k_seq fun Q K => k_lin fun W K => ?_
        iterate 4 refine l_op 0 rfl rfl rfl rfl rfl ?_
        refine l_a64 rfl rfl rfl (by omega) rfl ?_
        refine l_callp F rfl rfl (by kernel_rfl) rfl rfl (at_call (F.cel0 0 rfl) (Old.pure (F.has 1 rfl)) hB (by omega)) (fun _ s F _ => ?_)
        (try dsimp only [n_1, n_2, n_3, n_4, List.append_nil, pk, n_5, n_6] at F)
        iterate 2 refine l_op 2 rfl rfl rfl rfl rfl ?_
        refine l_stc F 0 rfl rfl rfl rfl rfl rfl rfl rfl rfl hD (fun s F => ?_)
        (try dsimp only [n_1, n_2, n_3, n_4, List.append_nil, pk, n_5, n_6] at F)
        iterate 2 refine l_op 2 rfl rfl rfl rfl rfl ?_
        refine l_stc F 0 rfl rfl rfl rfl rfl rfl rfl rfl rfl hD (fun s F => ?_)
        (try dsimp only [n_1, n_2, n_3, n_4, List.append_nil, pk, n_5, n_6] at F)
        refine l_nil (WK.nx ‹_› (SeqK.nx ‹_› ?_))
        refine k_seq fun Q K => k_lin fun W K => ?_
        iterate 2 refine l_op 0 rfl rfl rfl rfl rfl ?_
        iterate 2 refine l_op 2 rfl rfl rfl rfl rfl ?_
        refine l_ldc F 0 rfl rfl rfl rfl rfl rfl rfl ?_
        refine l_op 0 rfl rfl rfl rfl rfl ?_
        refine l_slh rfl rfl rfl rfl rfl ⟨rfl, _, _, rfl, by omega, rfl⟩ (F.has 1 rfl) (by omega) ?_
        iterate 2 refine l_op 2 rfl rfl rfl rfl rfl ?_
        refine l_stc F 0 rfl rfl rfl rfl rfl rfl rfl rfl rfl hD (fun s F => ?_)
        (try dsimp only [n_1, n_2, n_3, n_4, List.append_nil, pk, n_5, n_6] at F)
        refine l_nil (WK.nx ‹_› (SeqK.nx ‹_› ?_))
        refine k_seq fun Q K => k_lin fun W K => ?_
        iterate 7 refine l_op 0 rfl rfl rfl rfl rfl ?_
        refine l_nil (WK.nx ‹_› (SeqK.nx ‹_› (k_ret ?_)))
        refine FunK.rt (by assumption) rfl ?_
        -- leaf 3
        have F := Facts.upto (F := F) 1 rfl (h := n - 16) (by omega)
        (try dsimp only [n_1, n_2, n_3, n_4, List.append_nil, pk, n_5, n_6] at F)
        rw [Nat.mul_one, ← List.map_take] at F
        have e1 : ((n : Int) - 16).toNat = n - 16 := by omega
        rw [e1] at F
        exact ⟨(_, _, _, 0, n - 16, at4 bs (n - 16 + 12), true), rfl, F.pick [0, 1] (by decide), .inr (.inr (.inr ⟨.inl ⟨rfl, by omega, by assumption⟩, rfl, rfl, rfl, rfl, rfl, rfl, rfl⟩))⟩
      cases hc5
    cases hc2

end Go.Proofs.YtocfmecenpeoiaaGreat.Stk
