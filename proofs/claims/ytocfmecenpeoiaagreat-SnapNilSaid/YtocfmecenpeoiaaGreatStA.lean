/- The small functions of a stack, by the program. No statement of the seat is proved in this text. -/
import Derived.Test.YtocfmecenpeoiaaGreatStPlain
import Derived.Test.YtocfmecenpeoiaaGreatLibBytes
set_option linter.unusedVariables false
set_option linter.unusedSimpArgs false
set_option maxRecDepth 100000
set_option maxHeartbeats 4000000
namespace Go.Proofs.YtocfmecenpeoiaaGreat.Stk
open GAb Go

theorem new_call {σ : AState} {size : Int} (h : 1 ≤ size ∧ size ≤ 65536) : SCall Tryz.prog E0 46 [.int .i64 size] σ (Ret E0 σ (fun (m : Nat) => .tuple #[.pointer (some ⟨m, 0, none⟩), .int .i64 0]) (fun m => [cel m (sC none 0 0 size 0 false), own none 0 0 1 (u8l [])]) fun _ => True) := by
  refine k_fun Tryz.func46 rfl (m := 13) rfl fun B hD Q K => ?_
  have F := Facts.nil E0 σ
  refine k_seq fun Q K => k_lin fun W K => ?_
  iterate 2 refine l_op 0 rfl rfl rfl rfl rfl ?_
  refine l_nil (WK.nx ‹_› (SeqK.nx ‹_› ?_))
  refine k_seq fun Q K => k_seq fun Q K => k_lin fun W K => ?_
  refine l_op 0 rfl rfl rfl rfl rfl ?_
  refine l_cmp rfl rfl rfl rfl ?_
  refine l_op 0 rfl rfl rfl rfl rfl ?_
  refine l_guard rfl rfl rfl (fun hc1 => ?_) (fun hc1 => ?_)
  · replace hc1 := of_decide_eq_true ((irr_eq _).symm.trans hc1)
    omega
  replace hc1 := of_decide_eq_false ((irr_eq _).symm.trans hc1)
  refine l_op 0 rfl rfl rfl rfl rfl ?_
  refine l_cmp rfl rfl rfl rfl ?_
  refine l_op 2 rfl rfl rfl rfl rfl ?_
  refine l_nil (WK.nx ‹_› (SeqK.nx ‹_› ?_))
  refine l_cond rfl rfl (fun hc2 => ?_) (fun hc2 => ?_)
  · replace hc2 := of_decide_eq_true ((irr_eq _).symm.trans hc2)
    omega
  replace hc2 := of_decide_eq_false ((irr_eq _).symm.trans hc2)
  refine k_skip (SeqK.nx ‹_› ?_)
  refine k_seq fun Q K => k_lin fun W K => ?_
  refine l_op 0 rfl rfl rfl rfl rfl ?_
  refine l_bld rfl rfl rfl rfl ?_
  refine l_bx F rfl rfl rfl rfl rfl (fun q12 s F => ?_)
  (try dsimp only [n_1, n_2, n_3, n_4, List.append_nil, pk, n_5, n_6] at F)
  iterate 2 refine l_op 0 rfl rfl rfl rfl rfl ?_
  refine l_nil (WK.nx ‹_› (SeqK.nx ‹_› (k_ret ?_)))
  refine FunK.rt (by assumption) rfl ?_
  -- leaf 1
  exact ⟨q12, rfl, F.nilrow 1, trivial⟩

theorem at_call {σ : AState} {m n c : Nat} {a : Option Addr} {size fp p : Int} {on : Bool} {bs : List Int} (hc : OldC E0 σ m (sC a n c size fp on)) (hl : Old E0 σ a n c 1 (u8l bs)) (hB : Bytes bs) (hn : n ≤ 1000000) :
    SCall Tryz.prog E0 98 [.pointer (some ⟨m, 0, none⟩), .int .i64 p] σ (Ret E0 σ (fun (_ : Unit) => .int .i64 (at4 bs p)) (fun _ => []) fun _ => True) := by
  have hb := at4_bd hB p
  refine k_fun Tryz.func98 rfl (m := 18) rfl fun B hD Q K => ?_
  have F := Facts.nil E0 σ
  refine k_seq fun Q K => k_lin fun W K => ?_
  refine l_op 0 rfl rfl rfl rfl rfl ?_
  refine l_nil (WK.nx ‹_› (SeqK.nx ‹_› ?_))
  refine k_seq fun Q K => k_lin fun W K => ?_
  refine l_op 0 rfl rfl rfl rfl rfl ?_
  iterate 2 refine l_op 2 rfl rfl rfl rfl rfl ?_
  refine l_ldo F (by assumption) rfl rfl rfl rfl rfl rfl ?_
  refine l_op 0 rfl rfl rfl rfl rfl ?_
  refine l_callp F rfl rfl (by kernel_rfl) rfl rfl (wbe_call (at_ := p) (n := 4) (Old.pure (F.old hl)) hB (by omega)) (fun _ s F _ => ?_)
  (try dsimp only [n_1, n_2, n_3, n_4, List.append_nil, pk, n_5, n_6] at F)
  refine l_op 0 rfl rfl rfl rfl rfl ?_
  iterate 2 refine l_op 2 rfl rfl rfl rfl rfl ?_
  iterate 2 refine l_op 0 rfl rfl rfl rfl rfl ?_
  refine l_nil (WK.nx ‹_› (SeqK.nx ‹_› ?_))
  refine k_seq fun Q K => k_lin fun W K => ?_
  refine l_op 0 rfl rfl rfl rfl rfl ?_
  refine l_c64 (z := at4 bs p) rfl rfl rfl (by omega) rfl ?_
  refine l_op 0 rfl rfl rfl rfl rfl ?_
  refine l_nil (WK.nx ‹_› (SeqK.nx ‹_› (k_ret ?_)))
  refine FunK.rt (by assumption) rfl ?_
  -- leaf 1
  exact ⟨(), rfl, F, trivial⟩

theorem base_call {σ : AState} {m n c : Nat} {a : Option Addr} {size fp : Int} {on : Bool} {bs : List Int} (hc : OldC E0 σ m (sC a n c size fp on)) (hl : Old E0 σ a n c 1 (u8l bs)) (hB : Bytes bs) (hn : n ≤ 1000000) (hf : 0 ≤ fp ∧ fp ≤ 4294967295) :
    SCall Tryz.prog E0 147 [.pointer (some ⟨m, 0, none⟩)] σ (Ret E0 σ (fun (_ : Unit) => .int .i64 (fp + at4 bs fp)) (fun _ => []) fun _ => True) := by
  have hb := at4_bd hB fp
  refine k_fun Tryz.func147 rfl (m := 14) rfl fun B hD Q K => ?_
  have F := Facts.nil E0 σ
  refine k_seq fun Q K => k_lin fun W K => ?_
  refine l_op 0 rfl rfl rfl rfl rfl ?_
  refine l_nil (WK.nx ‹_› (SeqK.nx ‹_› ?_))
  refine k_seq fun Q K => ?_
  refine k_linm [0, 1, 2, 4, 5, 6, 7, 3, 8, 9, 10, 11] mixed (by kernel_rfl) (fun W K => ?_)
  try have hpS := F.pns
  refine l_op 0 rfl rfl rfl rfl rfl ?_
  iterate 2 refine l_op 2 rfl rfl rfl rfl rfl ?_
  iterate 2 refine l_op 0 rfl rfl rfl rfl rfl ?_
  iterate 2 refine l_op 2 rfl rfl rfl rfl rfl ?_
  refine l_ldo F (by assumption) rfl rfl rfl rfl rfl rfl ?_
  have hpS := PnS.add hpS (OldC.sf (by assumption))
  refine l_ldo F (by assumption) rfl rfl rfl rfl rfl rfl ?_
  have hpS := PnS.add hpS (OldC.sf (by assumption))
  refine l_callp F rfl rfl (by kernel_rfl) rfl rfl (at_call (F.oldc0 hc) (Old.pure (F.old hl)) hB (by omega)) (fun _ s F _ => ?_)
  (try dsimp only [n_1, n_2, n_3, n_4, List.append_nil, pk, n_5, n_6] at F)
  refine l_a64 rfl rfl rfl (by omega) rfl ?_
  refine l_op 0 rfl rfl rfl rfl rfl ?_
  refine l_nil (WK.nx ‹_› (SeqK.nx ‹_› (k_ret ?_)))
  refine FunK.rt (by assumption) rfl ?_
  -- leaf 1
  exact ⟨(), rfl, F, trivial⟩

def readyR (on : Bool) (n k size : Int) : Int := if on = false then 102 else if n + k > size then 100 else 0
theorem ready_call {σ : AState} {m n c : Nat} {a : Option Addr} {size fp k : Int} {on : Bool} {bs : List Int} (hc : OldC E0 σ m (sC a n c size fp on)) (hl : Old E0 σ a n c 1 (u8l bs)) (hn : n ≤ 1000000) (hk : 0 ≤ k ∧ k ≤ 68719476736) :
    SCall Tryz.prog E0 134 [.pointer (some ⟨m, 0, none⟩), .int .i64 k] σ (Ret E0 σ (fun (_ : Unit) => .int .i64 (readyR on n k size)) (fun _ => []) fun _ => True) := by
  refine k_fun Tryz.func134 rfl (m := 27) rfl fun B hD Q K => ?_
  have F := Facts.nil E0 σ
  refine k_seq fun Q K => k_lin fun W K => ?_
  refine l_op 0 rfl rfl rfl rfl rfl ?_
  refine l_nil (WK.nx ‹_› (SeqK.nx ‹_› ?_))
  refine k_seq fun Q K => k_block fun Q K => k_seq fun Q K => k_lin fun W K => ?_
  refine l_op 0 rfl rfl rfl rfl rfl ?_
  refine l_cmp rfl rfl rfl rfl ?_
  refine l_op 0 rfl rfl rfl rfl rfl ?_
  refine l_nil (WK.nx ‹_› (SeqK.nx ‹_› ?_))
  refine l_cond rfl rfl (fun hc1 => ?_) (fun hc1 => ?_)
  · exact absurd ((irr_eq _).symm.trans hc1) (by decide)
  simp only [irr_eq, beq_iff_eq, beq_eq_false_iff_ne, ne_eq, decide_eq_true_eq, decide_eq_false_iff_not] at hc1
  refine k_seq fun Q K => k_lin fun W K => ?_
  refine l_op 0 rfl rfl rfl rfl rfl ?_
  iterate 2 refine l_op 2 rfl rfl rfl rfl rfl ?_
  refine l_ldo F (by assumption) rfl rfl rfl rfl rfl rfl ?_
  refine l_op 2 rfl rfl rfl rfl rfl ?_
  refine l_op 0 rfl rfl rfl rfl rfl ?_
  refine l_nil (WK.nx ‹_› (SeqK.nx ‹_› ?_))
  refine l_cond rfl rfl (fun hc2 => ?_) (fun hc2 => ?_)
  · try simp only [i_1, i_2, i_3, i_4, i_5, ne_eq, i_6, i_7, i_8, i_9] at hc2
    refine k_seq fun Q K => k_lin fun W K => ?_
    refine l_op 0 rfl rfl rfl rfl rfl ?_
    refine l_nil (WK.nx ‹_› (SeqK.nx ‹_› (k_ret (BlkK.rt ‹_› (SeqK.rt ‹_› ?_)))))
    refine FunK.rt (by assumption) rfl ?_
    -- leaf 1
    refine ⟨(), ?_, F, trivial⟩
    show Value.int .i64 _ = Value.int .i64 (readyR on n k size)
    unfold readyR
    (rw [if_pos (by simpa using hc2)]; done)
  try simp only [i_1, i_2, i_3, i_4, i_5, ne_eq, i_6, i_7, i_8, i_9] at hc2
  refine k_seq fun Q K => ?_
  refine k_linm [0, 1, 2, 5, 7, 8, 9, 3, 4, 6, 10, 11, 12] mixed (by kernel_rfl) (fun W K => ?_)
  try have hpS := F.pns
  refine l_op 0 rfl rfl rfl rfl rfl ?_
  iterate 2 refine l_op 2 rfl rfl rfl rfl rfl ?_
  iterate 2 refine l_op 0 rfl rfl rfl rfl rfl ?_
  iterate 2 refine l_op 2 rfl rfl rfl rfl rfl ?_
  refine l_ldo F (by assumption) rfl rfl rfl rfl rfl rfl ?_
  have hpS := PnS.add hpS (OldC.sf (by assumption))
  refine l_op 2 rfl rfl rfl rfl rfl ?_
  refine l_a64 rfl rfl rfl (by omega) rfl ?_
  refine l_ldo F (by assumption) rfl rfl rfl rfl rfl rfl ?_
  have hpS := PnS.add hpS (OldC.sf (by assumption))
  refine l_cmp rfl rfl rfl rfl ?_
  refine l_op 0 rfl rfl rfl rfl rfl ?_
  refine l_nil (WK.nx ‹_› (SeqK.nx ‹_› ?_))
  refine l_cond rfl rfl (fun hc3 => ?_) (fun hc3 => ?_)
  · replace hc3 := of_decide_eq_true ((irr_eq _).symm.trans hc3)
    refine k_seq fun Q K => k_lin fun W K => ?_
    refine l_op 0 rfl rfl rfl rfl rfl ?_
    refine l_nil (WK.nx ‹_› (SeqK.nx ‹_› (k_ret (BlkK.rt ‹_› (SeqK.rt ‹_› ?_)))))
    refine FunK.rt (by assumption) rfl ?_
    -- leaf 2
    refine ⟨(), ?_, F, trivial⟩
    show Value.int .i64 _ = Value.int .i64 (readyR on n k size)
    unfold readyR
    (rw [if_neg (by simpa using hc2), if_pos (by omega)]; done)
  replace hc3 := of_decide_eq_false ((irr_eq _).symm.trans hc3)
  refine k_skip (BlkK.nx ‹_› (SeqK.nx ‹_› ?_))
  refine k_seq fun Q K => k_lin fun W K => ?_
  refine l_op 0 rfl rfl rfl rfl rfl ?_
  refine l_nil (WK.nx ‹_› (SeqK.nx ‹_› (k_ret ?_)))
  refine FunK.rt (by assumption) rfl ?_
  -- leaf 3
  refine ⟨(), ?_, F, trivial⟩
  show Value.int .i64 _ = Value.int .i64 (readyR on n k size)
  unfold readyR
  (rw [if_neg (by simpa using hc2), if_neg (by omega)]; done)

def countR (on : Bool) (bs : List Int) (n : Int) (fp : Int) : Int := if on = false then 0 else (n - (fp + at4 bs fp)) / 4
theorem count_call {σ : AState} {m n c : Nat} {a : Option Addr} {size fp : Int} {on : Bool} {bs : List Int} (hc : OldC E0 σ m (sC a n c size fp on)) (hl : Old E0 σ a n c 1 (u8l bs)) (hB : Bytes bs) (hn : n ≤ 1000000) (hf : 0 ≤ fp ∧ fp ≤ 4294967295) (hon : on = true → fp + at4 bs fp ≤ n) :
    SCall Tryz.prog E0 97 [.pointer (some ⟨m, 0, none⟩)] σ (Ret E0 σ (fun (_ : Unit) => .int .i64 (countR on bs n fp)) (fun _ => []) fun _ => True) := by
  have hb := at4_bd hB fp
  refine k_fun Tryz.func97 rfl (m := 21) rfl fun B hD Q K => ?_
  have F := Facts.nil E0 σ
  refine k_seq fun Q K => k_lin fun W K => ?_
  refine l_op 0 rfl rfl rfl rfl rfl ?_
  refine l_nil (WK.nx ‹_› (SeqK.nx ‹_› ?_))
  refine k_seq fun Q K => k_seq fun Q K => k_lin fun W K => ?_
  refine l_op 0 rfl rfl rfl rfl rfl ?_
  refine l_cmp rfl rfl rfl rfl ?_
  refine l_op 0 rfl rfl rfl rfl rfl ?_
  refine l_guard rfl rfl rfl (fun hc1 => ?_) (fun hc1 => ?_)
  · exact absurd ((irr_eq _).symm.trans hc1) (by decide)
  simp only [irr_eq, beq_iff_eq, beq_eq_false_iff_ne, ne_eq, decide_eq_true_eq, decide_eq_false_iff_not] at hc1
  refine l_op 0 rfl rfl rfl rfl rfl ?_
  iterate 2 refine l_op 2 rfl rfl rfl rfl rfl ?_
  refine l_ldo F (by assumption) rfl rfl rfl rfl rfl rfl ?_
  iterate 2 refine l_op 2 rfl rfl rfl rfl rfl ?_
  refine l_nil (WK.nx ‹_› (SeqK.nx ‹_› ?_))
  refine l_cond rfl rfl (fun hc2 => ?_) (fun hc2 => ?_)
  · try simp only [i_1, i_2, i_3, i_4, i_5, ne_eq, i_6, i_7, i_8, i_9] at hc2
    refine k_seq fun Q K => k_lin fun W K => ?_
    refine l_op 0 rfl rfl rfl rfl rfl ?_
    refine l_nil (WK.nx ‹_› (SeqK.nx ‹_› (k_ret (SeqK.rt ‹_› ?_))))
    refine FunK.rt (by assumption) rfl ?_
    -- leaf 1
    refine ⟨(), ?_, F, trivial⟩
    show Value.int .i64 _ = Value.int .i64 (countR on bs n fp)
    unfold countR
    (rw [if_pos (by simpa using hc2)]; done)
  try simp only [i_1, i_2, i_3, i_4, i_5, ne_eq, i_6, i_7, i_8, i_9] at hc2
  have hon' : on = true := by simpa using hc2
  have hle := hon hon'
  refine k_skip (SeqK.nx ‹_› ?_)
  refine k_seq fun Q K => ?_
  refine k_linm [0, 1, 2, 5, 3, 4, 6, 7, 8, 9] mixed (by kernel_rfl) (fun W K => ?_)
  try have hpS := F.pns
  refine l_op 0 rfl rfl rfl rfl rfl ?_
  iterate 2 refine l_op 2 rfl rfl rfl rfl rfl ?_
  refine l_op 0 rfl rfl rfl rfl rfl ?_
  refine l_ldo F (by assumption) rfl rfl rfl rfl rfl rfl ?_
  have hpS := PnS.add hpS (OldC.sf (by assumption))
  refine l_op 2 rfl rfl rfl rfl rfl ?_
  refine l_callp F rfl rfl (by kernel_rfl) rfl rfl (base_call (F.oldc0 hc) (Old.pure (F.old hl)) hB (by omega) hf) (fun _ s F _ => ?_)
  (try dsimp only [n_1, n_2, n_3, n_4, List.append_nil, pk, n_5, n_6] at F)
  refine l_a64 rfl rfl rfl (by omega) rfl ?_
  refine l_quon rfl rfl rfl rfl rfl (by omega) rfl ?_
  refine l_op 0 rfl rfl rfl rfl rfl ?_
  refine l_nil (WK.nx ‹_› (SeqK.nx ‹_› (k_ret ?_)))
  refine FunK.rt (by assumption) rfl ?_
  -- leaf 2
  refine ⟨(), ?_, F, trivial⟩
  show Value.int .i64 _ = Value.int .i64 (countR on bs n fp)
  unfold countR
  (rw [if_neg (by rw [hon']; decide)]; done)

end Go.Proofs.YtocfmecenpeoiaaGreat.Stk
