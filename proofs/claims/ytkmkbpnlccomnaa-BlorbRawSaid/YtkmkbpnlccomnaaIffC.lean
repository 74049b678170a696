/- A form's first bytes and its chunks, by the program. No statement of the seat is proved in this text. -/
import Derived.Test.YtkmkbpnlccomnaaIffP
import Derived.Test.YtkmkbpnlccomnaaAb32
set_option linter.unusedVariables false
set_option linter.unusedSimpArgs false
set_option maxRecDepth 100000
set_option maxHeartbeats 4000000
namespace Go.Proofs.Ytkmkbpnlccomnaa
open GAb Go

theorem form_cut (k : Int) (h : k = 0 ∨ k = 1 ∨ k = 2 ∨ k = 3 ∨ k = 4) : (ByteArray.mk #[70, 79, 82, 77]).extract 0 k.toNat = strOfNums (([70, 79, 82, 77] : List Int).take k.toNat) := by
  rcases h with rfl | rfl | rfl | rfl | rfl <;> decide
theorem form_b : Bytes [70, 79, 82, 77] := by
  intro i hi
  have : i = 0 ∨ i = 1 ∨ i = 2 ∨ i = 3 := by simp at hi; omega
  rcases this with rfl | rfl | rfl | rfl <;> decide
theorem head_call {σ : AState} {a : Option Addr} {l c : Nat} {bs : List Int} (hl : Old E0 σ a l c 1 (u8l bs)) (hB : Bytes bs) (hn : l ≤ 2000000) (hc : a = none ∨ 0 < c) :
    SCall Try.prog E0 41 [.slice a l c] σ (Ret E0 σ (fun (_ : Unit) => .tuple #[.int .i64 (headR bs).1, .int .i64 (headR bs).2]) (fun _ => []) fun _ => True) := by
  have hbl := hl.len8
  refine k_fun Try.func41 rfl (m := 41) rfl fun B hD Q K => ?_
  have F := Facts.nil E0 σ
  refine k_seq (fun Q K => ?_)
  refine k_lin (fun W K => ?_)
  refine l_op 0 rfl rfl rfl rfl rfl ?_
  refine l_op 0 rfl rfl rfl rfl rfl ?_
  refine l_nil (WK.nx (by assumption) ?_)
  refine SeqK.nx (by assumption) ?_
  refine k_seq (fun Q K => ?_)
  refine k_seq (fun Q K => ?_)
  refine k_lin (fun W K => ?_)
  refine l_op 0 rfl rfl rfl rfl rfl ?_
  first | refine l_op 2 rfl rfl rfl rfl rfl ?_ | refine l_ln rfl rfl rfl rfl ?_
  refine l_cmp rfl rfl rfl rfl ?_
  refine l_nil (WK.nx (by assumption) ?_)
  refine SeqK.nx (by assumption) ?_
  refine l_cond rfl rfl (fun hc1 => ?_) (fun hc1 => ?_)
  · replace hc1 := of_decide_eq_true ((irr_eq _).symm.trans hc1)
    refine k_seq (fun Q K => ?_)
    refine k_lin (fun W K => ?_)
    refine l_op 0 rfl rfl rfl rfl rfl ?_
    refine l_op 0 rfl rfl rfl rfl rfl ?_
    refine l_nil (WK.nx (by assumption) ?_)
    refine SeqK.nx (by assumption) ?_
    refine k_ret ?_
    refine SeqK.rt (by assumption) ?_
    refine FunK.rt (by assumption) rfl ?_
    -- leaf 1
    refine ⟨(), ?_, F.pick [] (by decide), trivial⟩
    have g : ∀ z, headR bs = z → one [Value.int IntKind.i64 z.1, Value.int IntKind.i64 z.2] = Value.tuple #[.int .i64 (headR bs).1, .int .i64 (headR bs).2] := fun z hz => by rw [hz]; rfl
    first
      | exact g (3, 0) (if_pos (by omega))
      | (refine g (50, 0) ?_; unfold headR; rw [if_neg (by omega), if_pos hc2]; done)
      | (refine g (2, (l : Int)) ?_; unfold headR; rw [if_neg (by omega), if_neg (not_not_intro hc2), if_pos (by omega), hbl]; done)
      | (refine g (51, 4) ?_; unfold headR; rw [if_neg (by omega), if_neg (not_not_intro hc2), if_neg (by omega), if_pos hc4]; done)
      | (refine g (50, 8) ?_; unfold headR; rw [if_neg (by omega), if_neg (not_not_intro hc2), if_neg (by omega), if_neg (not_not_intro hc4), if_pos hc5]; done)
      | (refine g (0, 0) ?_; unfold headR; rw [if_neg (by omega), if_neg (not_not_intro hc2), if_neg (by omega), if_neg (not_not_intro hc4), if_neg (by rw [hc5]; decide)]; done)
  replace hc1 := of_decide_eq_false ((irr_eq _).symm.trans hc1)
  refine k_skip ?_
  refine SeqK.nx (by assumption) ?_
  refine k_seq (fun Q K => ?_)
  refine k_seq (fun Q K => ?_)
  refine k_lin (fun W K => ?_)
  refine l_op 0 rfl rfl rfl rfl rfl ?_
  first | refine l_op 2 rfl rfl rfl rfl rfl ?_ | refine l_ln rfl rfl rfl rfl ?_
  obtain ⟨k, hk⟩ : ∃ k : Int, (if (4 : Int) < l then (4 : Int) else l) = k := ⟨_, rfl⟩
  have hk2 : 0 ≤ k ∧ k ≤ 4 ∧ k ≤ l ∧ k.toNat = min bs.length 4 := by split at hk <;> omega
  refine l_op 2 (u := .int .i64 k) rfl rfl rfl (congrArg (Value.int .i64) hk) rfl ?_
  refine l_op 0 rfl rfl rfl rfl rfl ?_
  refine l_nil (WK.nx (by assumption) ?_)
  refine SeqK.nx (by assumption) ?_
  refine k_seq (fun Q K => ?_)
  refine k_linm [0, 1, 2, 4, 5, 3, 6] mixed (by kernel_rfl) (fun W K => ?_)
  try have hpS := F.pns
  refine l_op 0 rfl rfl rfl rfl rfl ?_
  refine l_op 0 rfl rfl rfl rfl rfl ?_
  refine l_slh rfl rfl rfl rfl rfl ⟨rfl, _, _, rfl, by omega, rfl⟩ (F.old hl) (by omega) ?_
  refine l_op 0 rfl rfl rfl rfl rfl ?_
  have h5 : k = 0 ∨ k = 1 ∨ k = 2 ∨ k = 3 ∨ k = 4 := by omega
  refine l_op 9 (v := .string ((ByteArray.mk #[70, 79, 82, 77]).extract 0 k.toNat)) rfl rfl ?_ (congrArg Value.string (form_cut k h5)) rfl ?_
  · rcases h5 with rfl | rfl | rfl | rfl | rfl <;> rfl
  refine l_strm F (hl.upto8 (hi := k.toNat) (by omega)) hc rfl rfl rfl rfl rfl (fun pn' hpn => ?_)
  refine l_cmp rfl rfl rfl rfl ?_
  refine l_nil (WK.nx (by assumption) ?_)
  refine SeqK.nx (by assumption) ?_
  refine l_cond rfl rfl (fun hc2 => ?_) (fun hc2 => ?_)
  · first | replace hc2 := bne_iff_ne.1 ((irr_eq _).symm.trans hc2) | simp only [irr_eq, bne_iff_ne, bne_eq_false_iff_eq, ne_eq, decide_eq_true_eq, decide_eq_false_iff_not, Bool.not_eq_true', Bool.not_eq_false'] at hc2
    replace hc2 : bs.take (min bs.length 4) ≠ ([70, 79, 82, 77] : List Int).take (min bs.length 4) := by
      rw [← hk2.2.2.2]; exact fun hh => hc2 (by rw [hh])
    refine k_seq (fun Q K => ?_)
    refine k_lin (fun W K => ?_)
    refine l_op 0 rfl rfl rfl rfl rfl ?_
    refine l_op 0 rfl rfl rfl rfl rfl ?_
    refine l_nil (WK.nx (by assumption) ?_)
    refine SeqK.nx (by assumption) ?_
    refine k_ret ?_
    refine SeqK.rt (by assumption) ?_
    refine FunK.rt (by assumption) rfl ?_
    -- leaf 2
    refine ⟨(), ?_, F.pick [] (by decide), trivial⟩
    have g : ∀ z, headR bs = z → one [Value.int IntKind.i64 z.1, Value.int IntKind.i64 z.2] = Value.tuple #[.int .i64 (headR bs).1, .int .i64 (headR bs).2] := fun z hz => by rw [hz]; rfl
    first
      | exact g (3, 0) (if_pos (by omega))
      | (refine g (50, 0) ?_; unfold headR; rw [if_neg (by omega), if_pos hc2]; done)
      | (refine g (2, (l : Int)) ?_; unfold headR; rw [if_neg (by omega), if_neg (not_not_intro hc2), if_pos (by omega), hbl]; done)
      | (refine g (51, 4) ?_; unfold headR; rw [if_neg (by omega), if_neg (not_not_intro hc2), if_neg (by omega), if_pos hc4]; done)
      | (refine g (50, 8) ?_; unfold headR; rw [if_neg (by omega), if_neg (not_not_intro hc2), if_neg (by omega), if_neg (not_not_intro hc4), if_pos hc5]; done)
      | (refine g (0, 0) ?_; unfold headR; rw [if_neg (by omega), if_neg (not_not_intro hc2), if_neg (by omega), if_neg (not_not_intro hc4), if_neg (by rw [hc5]; decide)]; done)
  first | replace hc2 := bne_eq_false_iff_eq.1 ((irr_eq _).symm.trans hc2) | simp only [irr_eq, bne_iff_ne, bne_eq_false_iff_eq, ne_eq, decide_eq_true_eq, decide_eq_false_iff_not, Bool.not_eq_true', Bool.not_eq_false'] at hc2
  replace hc2 : bs.take (min bs.length 4) = ([70, 79, 82, 77] : List Int).take (min bs.length 4) := by
    rw [← hk2.2.2.2]; exact (sbeq_str (hB.take _) (form_b.take _)).1 (beq_iff_eq.2 hc2)
  refine k_skip ?_
  refine SeqK.nx (by assumption) ?_
  refine k_seq (fun Q K => ?_)
  refine k_seq (fun Q K => ?_)
  refine k_lin (fun W K => ?_)
  refine l_op 0 rfl rfl rfl rfl rfl ?_
  first | refine l_op 2 rfl rfl rfl rfl rfl ?_ | refine l_ln rfl rfl rfl rfl ?_
  refine l_cmp rfl rfl rfl rfl ?_
  refine l_nil (WK.nx (by assumption) ?_)
  refine SeqK.nx (by assumption) ?_
  refine l_cond rfl rfl (fun hc3 => ?_) (fun hc3 => ?_)
  · replace hc3 := of_decide_eq_true ((irr_eq _).symm.trans hc3)
    refine k_seq (fun Q K => ?_)
    refine k_lin (fun W K => ?_)
    refine l_op 0 rfl rfl rfl rfl rfl ?_
    first | refine l_op 2 rfl rfl rfl rfl rfl ?_ | refine l_ln rfl rfl rfl rfl ?_
    refine l_op 0 rfl rfl rfl rfl rfl ?_
    refine l_op 0 rfl rfl rfl rfl rfl ?_
    refine l_nil (WK.nx (by assumption) ?_)
    refine SeqK.nx (by assumption) ?_
    refine k_ret ?_
    refine SeqK.rt (by assumption) ?_
    refine FunK.rt (by assumption) rfl ?_
    -- leaf 3
    refine ⟨(), ?_, F.pick [] (by decide), trivial⟩
    have g : ∀ z, headR bs = z → one [Value.int IntKind.i64 z.1, Value.int IntKind.i64 z.2] = Value.tuple #[.int .i64 (headR bs).1, .int .i64 (headR bs).2] := fun z hz => by rw [hz]; rfl
    first
      | exact g (3, 0) (if_pos (by omega))
      | (refine g (50, 0) ?_; unfold headR; rw [if_neg (by omega), if_pos hc2]; done)
      | (refine g (2, (l : Int)) ?_; unfold headR; rw [if_neg (by omega), if_neg (not_not_intro hc2), if_pos (by omega), hbl]; done)
      | (refine g (51, 4) ?_; unfold headR; rw [if_neg (by omega), if_neg (not_not_intro hc2), if_neg (by omega), if_pos hc4]; done)
      | (refine g (50, 8) ?_; unfold headR; rw [if_neg (by omega), if_neg (not_not_intro hc2), if_neg (by omega), if_neg (not_not_intro hc4), if_pos hc5]; done)
      | (refine g (0, 0) ?_; unfold headR; rw [if_neg (by omega), if_neg (not_not_intro hc2), if_neg (by omega), if_neg (not_not_intro hc4), if_neg (by rw [hc5]; decide)]; done)
  replace hc3 := of_decide_eq_false ((irr_eq _).symm.trans hc3)
  have hbe : beR bs 4 4 = (be bs 4 4, 0) := beR_ok ⟨by omega, by omega⟩
  have hbb := be_lt4 hB 4 (k := 4) (by omega)
  refine k_skip ?_
  refine SeqK.nx (by assumption) ?_
  refine k_seq (fun Q K => ?_)
  refine k_seq (fun Q K => ?_)
  refine k_lin (fun W K => ?_)
  refine l_op 0 rfl rfl rfl rfl rfl ?_
  refine l_callp F rfl rfl (by kernel_rfl) rfl rfl (wbe_call (at_ := 4) (n := 4) (Old.pure (F.old hl)) hB (by omega)) (fun y s F _ => ?_)
  (try dsimp only [n_1, n_2, n_3, n_4, List.append_nil, pk, n_5, n_6] at F)
  refine l_op 0 rfl rfl rfl rfl rfl ?_
  refine l_op 2 rfl rfl rfl rfl rfl ?_
  refine l_op 2 rfl rfl rfl rfl rfl ?_
  refine l_op 0 rfl rfl rfl rfl rfl ?_
  refine l_op 0 rfl rfl rfl rfl rfl ?_
  refine l_nil (WK.nx (by assumption) ?_)
  refine SeqK.nx (by assumption) ?_
  refine k_seq (fun Q K => ?_)
  refine k_lin (fun W K => ?_)
  refine l_op 0 rfl rfl rfl rfl rfl ?_
  refine l_c64 (z := (beR bs 4 4).1) rfl rfl rfl (by rw [hbe]; omega) rfl ?_
  refine l_op 0 rfl rfl rfl rfl rfl ?_
  first | refine l_op 2 rfl rfl rfl rfl rfl ?_ | refine l_ln rfl rfl rfl rfl ?_
  refine l_a64 rfl rfl rfl (by omega) rfl ?_
  refine l_cmp rfl rfl rfl rfl ?_
  refine l_nil (WK.nx (by assumption) ?_)
  refine SeqK.nx (by assumption) ?_
  refine l_cond rfl rfl (fun hc4 => ?_) (fun hc4 => ?_)
  · first | replace hc4 := bne_iff_ne.1 ((irr_eq _).symm.trans hc4) | simp only [irr_eq, bne_iff_ne, bne_eq_false_iff_eq, ne_eq, decide_eq_true_eq, decide_eq_false_iff_not, Bool.not_eq_true', Bool.not_eq_false'] at hc4
    rw [hbe] at hc4
    replace hc4 : be bs 4 4 ≠ (bs.length : Int) - 8 := by rw [hbl]; exact hc4
    refine k_seq (fun Q K => ?_)
    refine k_lin (fun W K => ?_)
    refine l_op 0 rfl rfl rfl rfl rfl ?_
    refine l_op 0 rfl rfl rfl rfl rfl ?_
    refine l_nil (WK.nx (by assumption) ?_)
    refine SeqK.nx (by assumption) ?_
    refine k_ret ?_
    refine SeqK.rt (by assumption) ?_
    refine FunK.rt (by assumption) rfl ?_
    -- leaf 4
    refine ⟨(), ?_, F.pick [] (by decide), trivial⟩
    have g : ∀ z, headR bs = z → one [Value.int IntKind.i64 z.1, Value.int IntKind.i64 z.2] = Value.tuple #[.int .i64 (headR bs).1, .int .i64 (headR bs).2] := fun z hz => by rw [hz]; rfl
    first
      | exact g (3, 0) (if_pos (by omega))
      | (refine g (50, 0) ?_; unfold headR; rw [if_neg (by omega), if_pos hc2]; done)
      | (refine g (2, (l : Int)) ?_; unfold headR; rw [if_neg (by omega), if_neg (not_not_intro hc2), if_pos (by omega), hbl]; done)
      | (refine g (51, 4) ?_; unfold headR; rw [if_neg (by omega), if_neg (not_not_intro hc2), if_neg (by omega), if_pos hc4]; done)
      | (refine g (50, 8) ?_; unfold headR; rw [if_neg (by omega), if_neg (not_not_intro hc2), if_neg (by omega), if_neg (not_not_intro hc4), if_pos hc5]; done)
      | (refine g (0, 0) ?_; unfold headR; rw [if_neg (by omega), if_neg (not_not_intro hc2), if_neg (by omega), if_neg (not_not_intro hc4), if_neg (by rw [hc5]; decide)]; done)
  first | replace hc4 := bne_eq_false_iff_eq.1 ((irr_eq _).symm.trans hc4) | simp only [irr_eq, bne_iff_ne, bne_eq_false_iff_eq, ne_eq, decide_eq_true_eq, decide_eq_false_iff_not, Bool.not_eq_true', Bool.not_eq_false'] at hc4
  rw [hbe] at hc4
  replace hc4 : be bs 4 4 = (bs.length : Int) - 8 := by rw [hbl]; exact hc4
  refine k_skip ?_
  refine SeqK.nx (by assumption) ?_
  refine k_seq (fun Q K => ?_)
  refine k_seq (fun Q K => ?_)
  refine k_lin (fun W K => ?_)
  refine l_op 0 rfl rfl rfl rfl rfl ?_
  first | refine l_sl rfl rfl rfl rfl rfl rfl rfl rfl ⟨rfl, _, _, rfl, by omega, rfl⟩ (F.old (by assumption)) (by omega) ?_ | refine l_sl rfl rfl rfl rfl rfl rfl rfl rfl ⟨rfl, _, _, rfl, by omega, rfl⟩ (F.has 0 rfl) (by omega) ?_ | refine l_sl rfl rfl rfl rfl rfl rfl rfl rfl ⟨rfl, _, _, rfl, by omega, rfl⟩ (F.has 1 rfl) (by omega) ?_ | refine l_sl rfl rfl rfl rfl rfl rfl rfl rfl ⟨rfl, _, _, rfl, by omega, rfl⟩ (F.has 2 rfl) (by omega) ?_ | refine l_sl rfl rfl rfl rfl rfl rfl rfl rfl ⟨rfl, _, _, rfl, by omega, rfl⟩ (F.has 3 rfl) (by omega) ?_
  refine l_str rfl rfl rfl rfl rfl (F.old (hl.part8 (lo := 8) (hi := 12) (by omega) (by omega))) ?_
  refine l_callp F rfl rfl (by kernel_rfl) rfl rfl (id_call (by rw [str_size]; simp; omega)) (fun y s F _ => ?_)
  (try dsimp only [n_1, n_2, n_3, n_4, List.append_nil, pk, n_5, n_6] at F)
  refine l_op 2 rfl rfl rfl rfl rfl ?_
  refine l_nil (WK.nx (by assumption) ?_)
  refine SeqK.nx (by assumption) ?_
  refine l_cond rfl rfl (fun hc5 => ?_) (fun hc5 => ?_)
  · try simp only [irr_eq, beq_iff_eq, bne_iff_ne, beq_eq_false_iff_ne, bne_eq_false_iff_eq, ne_eq, decide_eq_true_eq, decide_eq_false_iff_not, Bool.not_eq_true', Bool.not_eq_false'] at hc5
    rw [ltr_str ((hB.drop _).take _)] at hc5
    refine k_seq (fun Q K => ?_)
    refine k_lin (fun W K => ?_)
    refine l_op 0 rfl rfl rfl rfl rfl ?_
    refine l_op 0 rfl rfl rfl rfl rfl ?_
    refine l_nil (WK.nx (by assumption) ?_)
    refine SeqK.nx (by assumption) ?_
    refine k_ret ?_
    refine SeqK.rt (by assumption) ?_
    refine FunK.rt (by assumption) rfl ?_
    -- leaf 5
    refine ⟨(), ?_, F.pick [] (by decide), trivial⟩
    have g : ∀ z, headR bs = z → one [Value.int IntKind.i64 z.1, Value.int IntKind.i64 z.2] = Value.tuple #[.int .i64 (headR bs).1, .int .i64 (headR bs).2] := fun z hz => by rw [hz]; rfl
    first
      | exact g (3, 0) (if_pos (by omega))
      | (refine g (50, 0) ?_; unfold headR; rw [if_neg (by omega), if_pos hc2]; done)
      | (refine g (2, (l : Int)) ?_; unfold headR; rw [if_neg (by omega), if_neg (not_not_intro hc2), if_pos (by omega), hbl]; done)
      | (refine g (51, 4) ?_; unfold headR; rw [if_neg (by omega), if_neg (not_not_intro hc2), if_neg (by omega), if_pos hc4]; done)
      | (refine g (50, 8) ?_; unfold headR; rw [if_neg (by omega), if_neg (not_not_intro hc2), if_neg (by omega), if_neg (not_not_intro hc4), if_pos hc5]; done)
      | (refine g (0, 0) ?_; unfold headR; rw [if_neg (by omega), if_neg (not_not_intro hc2), if_neg (by omega), if_neg (not_not_intro hc4), if_neg (by rw [hc5]; decide)]; done)
  try simp only [irr_eq, beq_iff_eq, bne_iff_ne, beq_eq_false_iff_ne, bne_eq_false_iff_eq, ne_eq, decide_eq_true_eq, decide_eq_false_iff_not, Bool.not_eq_true', Bool.not_eq_false'] at hc5
  rw [ltr_str ((hB.drop _).take _)] at hc5
  refine k_skip ?_
  refine SeqK.nx (by assumption) ?_
  refine k_seq (fun Q K => ?_)
  refine k_lin (fun W K => ?_)
  refine l_op 0 rfl rfl rfl rfl rfl ?_
  refine l_op 0 rfl rfl rfl rfl rfl ?_
  refine l_nil (WK.nx (by assumption) ?_)
  refine SeqK.nx (by assumption) ?_
  refine k_ret ?_
  refine FunK.rt (by assumption) rfl ?_
  -- leaf 6
  refine ⟨(), ?_, F.pick [] (by decide), trivial⟩
  have g : ∀ z, headR bs = z → one [Value.int IntKind.i64 z.1, Value.int IntKind.i64 z.2] = Value.tuple #[.int .i64 (headR bs).1, .int .i64 (headR bs).2] := fun z hz => by rw [hz]; rfl
  first
    | exact g (3, 0) (if_pos (by omega))
    | (refine g (50, 0) ?_; unfold headR; rw [if_neg (by omega), if_pos hc2]; done)
    | (refine g (2, (l : Int)) ?_; unfold headR; rw [if_neg (by omega), if_neg (not_not_intro hc2), if_pos (by omega), hbl]; done)
    | (refine g (51, 4) ?_; unfold headR; rw [if_neg (by omega), if_neg (not_not_intro hc2), if_neg (by omega), if_pos hc4]; done)
    | (refine g (50, 8) ?_; unfold headR; rw [if_neg (by omega), if_neg (not_not_intro hc2), if_neg (by omega), if_neg (not_not_intro hc4), if_pos hc5]; done)
    | (refine g (0, 0) ?_; unfold headR; rw [if_neg (by omega), if_neg (not_not_intro hc2), if_neg (by omega), if_neg (not_not_intro hc4), if_neg (by rw [hc5]; decide)]; done)

theorem chunk_call {σ : AState} {a : Option Addr} {l c : Nat} {bs : List Int} {p : Int} (hl : Old E0 σ a l c 1 (u8l bs)) (hB : Bytes bs) (hn : l ≤ 2000000) (hp : 0 ≤ p ∧ p ≤ l) :
    SCall Try.prog E0 42 [.slice a l c, .int .i64 p] σ (Ret E0 σ (fun (y : ByteArray × Option Addr × Nat × Nat × List Int) => .tuple #[.agg #[.string y.1, .slice y.2.1 y.2.2.1 y.2.2.2.1], .int .i64 (chunkE bs p).1, .int .i64 (chunkE bs p).2]) (fun y => [own y.2.1 y.2.2.1 y.2.2.2.1 1 (u8l y.2.2.2.2)]) fun y => (chunkE bs p).1 = 0 → (ltr y.1, y.2.2.2.2) = chunkI bs p) := by
  have hbl := hl.len8
  have hbb := be_lt4 hB (p + 4).toNat (k := 4) (by omega)
  refine k_fun Try.func42 rfl (m := 81) rfl fun B hD Q K => ?_
  have F := Facts.nil E0 σ
  refine k_seq (fun Q K => ?_)
  refine k_lin (fun W K => ?_)
  refine l_al F rfl rfl rfl rfl (fun q4 s F => ?_)
  (try dsimp only [n_1, n_2, n_3, n_4, List.append_nil, pk, n_5, n_6] at F)
  refine l_op 0 rfl rfl rfl rfl rfl ?_
  refine l_op 0 rfl rfl rfl rfl rfl ?_
  refine l_nil (WK.nx (by assumption) ?_)
  refine SeqK.nx (by assumption) ?_
  refine k_seq (fun Q K => ?_)
  refine k_seq (fun Q K => ?_)
  refine k_lin (fun W K => ?_)
  refine l_op 0 rfl rfl rfl rfl rfl ?_
  first | refine l_op 2 rfl rfl rfl rfl rfl ?_ | refine l_ln rfl rfl rfl rfl ?_
  refine l_op 0 rfl rfl rfl rfl rfl ?_
  refine l_a64 rfl rfl rfl (by omega) rfl ?_
  refine l_cmp rfl rfl rfl rfl ?_
  refine l_nil (WK.nx (by assumption) ?_)
  refine SeqK.nx (by assumption) ?_
  refine l_cond rfl rfl (fun hc1 => ?_) (fun hc1 => ?_)
  · replace hc1 := of_decide_eq_true ((irr_eq _).symm.trans hc1)
    refine k_seq (fun Q K => ?_)
    refine k_lin (fun W K => ?_)
    refine l_bld rfl rfl rfl rfl ?_
    refine l_op 0 rfl rfl rfl rfl rfl ?_
    first | refine l_op 2 rfl rfl rfl rfl rfl ?_ | refine l_ln rfl rfl rfl rfl ?_
    refine l_stca F 0 rfl rfl rfl rfl rfl rfl rfl rfl rfl rfl hD rfl (fun s F => ?_)
    (try dsimp only [n_1, n_2, n_3, n_4, List.append_nil, pk, n_5, n_6] at F)
    refine l_op 0 rfl rfl rfl rfl rfl ?_
    refine l_op 0 rfl rfl rfl rfl rfl ?_
    refine l_nil (WK.nx (by assumption) ?_)
    refine SeqK.nx (by assumption) ?_
    refine k_ret ?_
    refine SeqK.rt (by assumption) ?_
    first | refine FunK.rtc (by assumption) (res_cell F 0 rfl rfl (by kernel_rfl) (resE_rsv rfl)) ?_ | refine FunK.rtc (by assumption) (res_cell F 1 rfl rfl (by kernel_rfl) (resE_rsv rfl)) ?_ | refine FunK.rtc (by assumption) (res_cell F 2 rfl rfl (by kernel_rfl) (resE_rsv rfl)) ?_ | refine FunK.rtc (by assumption) (res_cell F 3 rfl rfl (by kernel_rfl) (resE_rsv rfl)) ?_ | refine FunK.rtc (by assumption) (res_cell F 4 rfl rfl (by kernel_rfl) (resE_rsv rfl)) ?_ | refine FunK.rtc (by assumption) (res_cell F 5 rfl rfl (by kernel_rfl) (resE_rsv rfl)) ?_ | refine FunK.rtc (by assumption) (res_cell F 6 rfl rfl (by kernel_rfl) (resE_rsv rfl)) ?_ | refine FunK.rtc (by assumption) (res_cell F 7 rfl rfl (by kernel_rfl) (resE_rsv rfl)) ?_
    -- leaf 1
    have g : ∀ z, chunkE bs p = z → z.1 ≠ 0 → Ret E0 σ (fun (y : ByteArray × Option Addr × Nat × Nat × List Int) => .tuple #[.agg #[.string y.1, .slice y.2.1 y.2.2.1 y.2.2.2.1], .int .i64 (chunkE bs p).1, .int .i64 (chunkE bs p).2]) (fun y => [own y.2.1 y.2.2.1 y.2.2.2.1 1 (u8l y.2.2.2.2)]) (fun y => (chunkE bs p).1 = 0 → (ltr y.1, y.2.2.2.2) = chunkI bs p) (one [Value.agg #[Value.string { data := #[] }, Value.slice none 0 0], Value.int .i64 z.1, Value.int .i64 z.2]) s := fun z hz h0 =>
      ⟨(⟨#[]⟩, none, 0, 0, []), by rw [hz]; rfl, (F.pick [] (by decide)).nilrow 1, fun h => absurd (hz ▸ h) h0⟩
    first
      | (refine g (2, (l : Int)) ?_ (show (2 : Int) ≠ 0 by decide); unfold chunkE; rw [if_pos (by omega), hbl]; done)
      | (refine g (50, p) ?_ (show (50 : Int) ≠ 0 by decide); unfold chunkE; rw [if_neg (by omega), if_pos hc2]; done)
      | (rw [hbe] at *; refine g (51, p + 4) ?_ (show (51 : Int) ≠ 0 by decide); unfold chunkE; rw [if_neg (by omega), if_neg (by rw [hc2]; decide), if_pos (by omega)]; done)
      | (rw [hbe] at *; refine g (2, p + 8 + be bs (p + 4).toNat 4) ?_ (show (2 : Int) ≠ 0 by decide); unfold chunkE; rw [if_neg (by omega), if_neg (by rw [hc2]; decide), if_neg (by omega), if_pos ⟨by omega, by omega⟩, hbl, hc5]; done)
      | (rw [hbe] at *; refine g (52, p + 8 + be bs (p + 4).toNat 4) ?_ (show (52 : Int) ≠ 0 by decide); unfold chunkE; rw [if_neg (by omega), if_neg (by rw [hc2]; decide), if_neg (by omega), if_neg (by omega), if_pos ⟨by omega, hc6⟩]; done)
      | (have h0 : chunkE bs p = (0, 0) := by
           unfold chunkE; rw [if_neg (by omega), if_neg (by rw [hc2]; decide), if_neg (by omega), if_neg (by omega), if_neg ?_]
           rintro ⟨k1, k2⟩
           rw [← hbe] at k1 k2
           first | exact k2 hc6 | exact hc4 k1
         refine ⟨(strOfNums (List.take ((p + 4).toNat - p.toNat) (List.drop p.toNat bs)), y.1, _, y.2, _), ?_, F.pick [1] (by decide), fun _ => ?_⟩
         · rw [h0]; rfl
         · rw [ltr_str ((hB.drop _).take _), e4, show (p + 8 + (beR bs (p + 4) 4).1).toNat - (p + 8).toNat = (be bs (p + 4).toNat 4).toNat by omega]
           rfl)
  replace hc1 := of_decide_eq_false ((irr_eq _).symm.trans hc1)
  have hbe : (beR bs (p + 4) 4).1 = be bs (p + 4).toNat 4 := by rw [beR_ok ⟨by omega, by omega⟩]
  refine k_skip ?_
  refine SeqK.nx (by assumption) ?_
  refine k_seq (fun Q K => ?_)
  refine k_lin (fun W K => ?_)
  refine l_op 0 rfl rfl rfl rfl rfl ?_
  refine l_op 0 rfl rfl rfl rfl rfl ?_
  refine l_op 0 rfl rfl rfl rfl rfl ?_
  refine l_a64 rfl rfl rfl (by omega) rfl ?_
  first | refine l_sl rfl rfl rfl rfl rfl rfl rfl rfl ⟨rfl, _, _, rfl, by omega, rfl⟩ (F.old (by assumption)) (by omega) ?_ | refine l_sl rfl rfl rfl rfl rfl rfl rfl rfl ⟨rfl, _, _, rfl, by omega, rfl⟩ (F.has 0 rfl) (by omega) ?_ | refine l_sl rfl rfl rfl rfl rfl rfl rfl rfl ⟨rfl, _, _, rfl, by omega, rfl⟩ (F.has 1 rfl) (by omega) ?_ | refine l_sl rfl rfl rfl rfl rfl rfl rfl rfl ⟨rfl, _, _, rfl, by omega, rfl⟩ (F.has 2 rfl) (by omega) ?_ | refine l_sl rfl rfl rfl rfl rfl rfl rfl rfl ⟨rfl, _, _, rfl, by omega, rfl⟩ (F.has 3 rfl) (by omega) ?_
  refine l_str rfl rfl rfl rfl rfl (F.old (hl.part8 (lo := p.toNat) (hi := (p + 4).toNat) (by omega) (by omega))) ?_
  have e4 : (p + 4).toNat - p.toNat = 4 := by omega
  refine l_op 0 rfl rfl rfl rfl rfl ?_
  refine l_nil (WK.nx (by assumption) ?_)
  refine SeqK.nx (by assumption) ?_
  refine k_seq (fun Q K => ?_)
  refine k_seq (fun Q K => ?_)
  refine k_lin (fun W K => ?_)
  refine l_op 0 rfl rfl rfl rfl rfl ?_
  refine l_callp F rfl rfl (by kernel_rfl) rfl rfl (id_call (by rw [str_size]; simp; omega)) (fun y s F _ => ?_)
  (try dsimp only [n_1, n_2, n_3, n_4, List.append_nil, pk, n_5, n_6] at F)
  refine l_op 2 rfl rfl rfl rfl rfl ?_
  refine l_nil (WK.nx (by assumption) ?_)
  refine SeqK.nx (by assumption) ?_
  refine l_cond rfl rfl (fun hc2 => ?_) (fun hc2 => ?_)
  · try simp only [irr_eq, beq_iff_eq, bne_iff_ne, beq_eq_false_iff_ne, bne_eq_false_iff_eq, ne_eq, decide_eq_true_eq, decide_eq_false_iff_not, Bool.not_eq_true', Bool.not_eq_false'] at hc2
    rw [ltr_str ((hB.drop _).take _), e4] at hc2
    refine k_seq (fun Q K => ?_)
    refine k_lin (fun W K => ?_)
    refine l_bld rfl rfl rfl rfl ?_
    refine l_op 0 rfl rfl rfl rfl rfl ?_
    refine l_stca F 0 rfl rfl rfl rfl rfl rfl rfl rfl rfl rfl hD rfl (fun s F => ?_)
    (try dsimp only [n_1, n_2, n_3, n_4, List.append_nil, pk, n_5, n_6] at F)
    refine l_op 0 rfl rfl rfl rfl rfl ?_
    refine l_op 0 rfl rfl rfl rfl rfl ?_
    refine l_nil (WK.nx (by assumption) ?_)
    refine SeqK.nx (by assumption) ?_
    refine k_ret ?_
    refine SeqK.rt (by assumption) ?_
    first | refine FunK.rtc (by assumption) (res_cell F 0 rfl rfl (by kernel_rfl) (resE_rsv rfl)) ?_ | refine FunK.rtc (by assumption) (res_cell F 1 rfl rfl (by kernel_rfl) (resE_rsv rfl)) ?_ | refine FunK.rtc (by assumption) (res_cell F 2 rfl rfl (by kernel_rfl) (resE_rsv rfl)) ?_ | refine FunK.rtc (by assumption) (res_cell F 3 rfl rfl (by kernel_rfl) (resE_rsv rfl)) ?_ | refine FunK.rtc (by assumption) (res_cell F 4 rfl rfl (by kernel_rfl) (resE_rsv rfl)) ?_ | refine FunK.rtc (by assumption) (res_cell F 5 rfl rfl (by kernel_rfl) (resE_rsv rfl)) ?_ | refine FunK.rtc (by assumption) (res_cell F 6 rfl rfl (by kernel_rfl) (resE_rsv rfl)) ?_ | refine FunK.rtc (by assumption) (res_cell F 7 rfl rfl (by kernel_rfl) (resE_rsv rfl)) ?_
    -- leaf 2
    have g : ∀ z, chunkE bs p = z → z.1 ≠ 0 → Ret E0 σ (fun (y : ByteArray × Option Addr × Nat × Nat × List Int) => .tuple #[.agg #[.string y.1, .slice y.2.1 y.2.2.1 y.2.2.2.1], .int .i64 (chunkE bs p).1, .int .i64 (chunkE bs p).2]) (fun y => [own y.2.1 y.2.2.1 y.2.2.2.1 1 (u8l y.2.2.2.2)]) (fun y => (chunkE bs p).1 = 0 → (ltr y.1, y.2.2.2.2) = chunkI bs p) (one [Value.agg #[Value.string { data := #[] }, Value.slice none 0 0], Value.int .i64 z.1, Value.int .i64 z.2]) s := fun z hz h0 =>
      ⟨(⟨#[]⟩, none, 0, 0, []), by rw [hz]; rfl, (F.pick [] (by decide)).nilrow 1, fun h => absurd (hz ▸ h) h0⟩
    first
      | (refine g (2, (l : Int)) ?_ (show (2 : Int) ≠ 0 by decide); unfold chunkE; rw [if_pos (by omega), hbl]; done)
      | (refine g (50, p) ?_ (show (50 : Int) ≠ 0 by decide); unfold chunkE; rw [if_neg (by omega), if_pos hc2]; done)
      | (rw [hbe] at *; refine g (51, p + 4) ?_ (show (51 : Int) ≠ 0 by decide); unfold chunkE; rw [if_neg (by omega), if_neg (by rw [hc2]; decide), if_pos (by omega)]; done)
      | (rw [hbe] at *; refine g (2, p + 8 + be bs (p + 4).toNat 4) ?_ (show (2 : Int) ≠ 0 by decide); unfold chunkE; rw [if_neg (by omega), if_neg (by rw [hc2]; decide), if_neg (by omega), if_pos ⟨by omega, by omega⟩, hbl, hc5]; done)
      | (rw [hbe] at *; refine g (52, p + 8 + be bs (p + 4).toNat 4) ?_ (show (52 : Int) ≠ 0 by decide); unfold chunkE; rw [if_neg (by omega), if_neg (by rw [hc2]; decide), if_neg (by omega), if_neg (by omega), if_pos ⟨by omega, hc6⟩]; done)
      | (have h0 : chunkE bs p = (0, 0) := by
           unfold chunkE; rw [if_neg (by omega), if_neg (by rw [hc2]; decide), if_neg (by omega), if_neg (by omega), if_neg ?_]
           rintro ⟨k1, k2⟩
           rw [← hbe] at k1 k2
           first | exact k2 hc6 | exact hc4 k1
         refine ⟨(strOfNums (List.take ((p + 4).toNat - p.toNat) (List.drop p.toNat bs)), y.1, _, y.2, _), ?_, F.pick [1] (by decide), fun _ => ?_⟩
         · rw [h0]; rfl
         · rw [ltr_str ((hB.drop _).take _), e4, show (p + 8 + (beR bs (p + 4) 4).1).toNat - (p + 8).toNat = (be bs (p + 4).toNat 4).toNat by omega]
           rfl)
  try simp only [irr_eq, beq_iff_eq, bne_iff_ne, beq_eq_false_iff_ne, bne_eq_false_iff_eq, ne_eq, decide_eq_true_eq, decide_eq_false_iff_not, Bool.not_eq_true', Bool.not_eq_false'] at hc2
  rw [ltr_str ((hB.drop _).take _), e4] at hc2
  refine k_skip ?_
  refine SeqK.nx (by assumption) ?_
  refine k_seq (fun Q K => ?_)
  refine k_lin (fun W K => ?_)
  refine l_op 0 rfl rfl rfl rfl rfl ?_
  refine l_op 0 rfl rfl rfl rfl rfl ?_
  refine l_a64 rfl rfl rfl (by omega) rfl ?_
  refine l_callp F rfl rfl (by kernel_rfl) rfl rfl (wbe_call (at_ := p + 4) (n := 4) (Old.pure (F.old hl)) hB (by omega)) (fun y s F _ => ?_)
  (try dsimp only [n_1, n_2, n_3, n_4, List.append_nil, pk, n_5, n_6] at F)
  refine l_op 0 rfl rfl rfl rfl rfl ?_
  refine l_op 2 rfl rfl rfl rfl rfl ?_
  refine l_op 2 rfl rfl rfl rfl rfl ?_
  refine l_op 0 rfl rfl rfl rfl rfl ?_
  refine l_op 0 rfl rfl rfl rfl rfl ?_
  refine l_nil (WK.nx (by assumption) ?_)
  refine SeqK.nx (by assumption) ?_
  refine k_seq (fun Q K => ?_)
  refine k_lin (fun W K => ?_)
  refine l_op 0 rfl rfl rfl rfl rfl ?_
  refine l_c64 (z := (beR bs (p + 4) 4).1) rfl rfl rfl (by omega) rfl ?_
  refine l_op 0 rfl rfl rfl rfl rfl ?_
  refine l_nil (WK.nx (by assumption) ?_)
  refine SeqK.nx (by assumption) ?_
  refine k_seq (fun Q K => ?_)
  refine k_seq (fun Q K => ?_)
  refine k_lin (fun W K => ?_)
  refine l_op 0 rfl rfl rfl rfl rfl ?_
  refine l_op 0 rfl rfl rfl rfl rfl ?_
  first | refine l_op 2 rfl rfl rfl rfl rfl ?_ | refine l_ln rfl rfl rfl rfl ?_
  refine l_op 0 rfl rfl rfl rfl rfl ?_
  refine l_a64 rfl rfl rfl (by omega) rfl ?_
  refine l_a64 rfl rfl rfl (by omega) rfl ?_
  refine l_cmp rfl rfl rfl rfl ?_
  refine l_nil (WK.nx (by assumption) ?_)
  refine SeqK.nx (by assumption) ?_
  refine l_cond rfl rfl (fun hc3 => ?_) (fun hc3 => ?_)
  · replace hc3 := of_decide_eq_true ((irr_eq _).symm.trans hc3)
    refine k_seq (fun Q K => ?_)
    refine k_lin (fun W K => ?_)
    refine l_bld rfl rfl rfl rfl ?_
    refine l_op 0 rfl rfl rfl rfl rfl ?_
    refine l_a64 rfl rfl rfl (by omega) rfl ?_
    refine l_stca F 0 rfl rfl rfl rfl rfl rfl rfl rfl rfl rfl hD rfl (fun s F => ?_)
    (try dsimp only [n_1, n_2, n_3, n_4, List.append_nil, pk, n_5, n_6] at F)
    refine l_op 0 rfl rfl rfl rfl rfl ?_
    refine l_op 0 rfl rfl rfl rfl rfl ?_
    refine l_nil (WK.nx (by assumption) ?_)
    refine SeqK.nx (by assumption) ?_
    refine k_ret ?_
    refine SeqK.rt (by assumption) ?_
    first | refine FunK.rtc (by assumption) (res_cell F 0 rfl rfl (by kernel_rfl) (resE_rsv rfl)) ?_ | refine FunK.rtc (by assumption) (res_cell F 1 rfl rfl (by kernel_rfl) (resE_rsv rfl)) ?_ | refine FunK.rtc (by assumption) (res_cell F 2 rfl rfl (by kernel_rfl) (resE_rsv rfl)) ?_ | refine FunK.rtc (by assumption) (res_cell F 3 rfl rfl (by kernel_rfl) (resE_rsv rfl)) ?_ | refine FunK.rtc (by assumption) (res_cell F 4 rfl rfl (by kernel_rfl) (resE_rsv rfl)) ?_ | refine FunK.rtc (by assumption) (res_cell F 5 rfl rfl (by kernel_rfl) (resE_rsv rfl)) ?_ | refine FunK.rtc (by assumption) (res_cell F 6 rfl rfl (by kernel_rfl) (resE_rsv rfl)) ?_ | refine FunK.rtc (by assumption) (res_cell F 7 rfl rfl (by kernel_rfl) (resE_rsv rfl)) ?_
    -- leaf 3
    have g : ∀ z, chunkE bs p = z → z.1 ≠ 0 → Ret E0 σ (fun (y : ByteArray × Option Addr × Nat × Nat × List Int) => .tuple #[.agg #[.string y.1, .slice y.2.1 y.2.2.1 y.2.2.2.1], .int .i64 (chunkE bs p).1, .int .i64 (chunkE bs p).2]) (fun y => [own y.2.1 y.2.2.1 y.2.2.2.1 1 (u8l y.2.2.2.2)]) (fun y => (chunkE bs p).1 = 0 → (ltr y.1, y.2.2.2.2) = chunkI bs p) (one [Value.agg #[Value.string { data := #[] }, Value.slice none 0 0], Value.int .i64 z.1, Value.int .i64 z.2]) s := fun z hz h0 =>
      ⟨(⟨#[]⟩, none, 0, 0, []), by rw [hz]; rfl, (F.pick [] (by decide)).nilrow 1, fun h => absurd (hz ▸ h) h0⟩
    first
      | (refine g (2, (l : Int)) ?_ (show (2 : Int) ≠ 0 by decide); unfold chunkE; rw [if_pos (by omega), hbl]; done)
      | (refine g (50, p) ?_ (show (50 : Int) ≠ 0 by decide); unfold chunkE; rw [if_neg (by omega), if_pos hc2]; done)
      | (rw [hbe] at *; refine g (51, p + 4) ?_ (show (51 : Int) ≠ 0 by decide); unfold chunkE; rw [if_neg (by omega), if_neg (by rw [hc2]; decide), if_pos (by omega)]; done)
      | (rw [hbe] at *; refine g (2, p + 8 + be bs (p + 4).toNat 4) ?_ (show (2 : Int) ≠ 0 by decide); unfold chunkE; rw [if_neg (by omega), if_neg (by rw [hc2]; decide), if_neg (by omega), if_pos ⟨by omega, by omega⟩, hbl, hc5]; done)
      | (rw [hbe] at *; refine g (52, p + 8 + be bs (p + 4).toNat 4) ?_ (show (52 : Int) ≠ 0 by decide); unfold chunkE; rw [if_neg (by omega), if_neg (by rw [hc2]; decide), if_neg (by omega), if_neg (by omega), if_pos ⟨by omega, hc6⟩]; done)
      | (have h0 : chunkE bs p = (0, 0) := by
           unfold chunkE; rw [if_neg (by omega), if_neg (by rw [hc2]; decide), if_neg (by omega), if_neg (by omega), if_neg ?_]
           rintro ⟨k1, k2⟩
           rw [← hbe] at k1 k2
           first | exact k2 hc6 | exact hc4 k1
         refine ⟨(strOfNums (List.take ((p + 4).toNat - p.toNat) (List.drop p.toNat bs)), y.1, _, y.2, _), ?_, F.pick [1] (by decide), fun _ => ?_⟩
         · rw [h0]; rfl
         · rw [ltr_str ((hB.drop _).take _), e4, show (p + 8 + (beR bs (p + 4) 4).1).toNat - (p + 8).toNat = (be bs (p + 4).toNat 4).toNat by omega]
           rfl)
  replace hc3 := of_decide_eq_false ((irr_eq _).symm.trans hc3)
  refine k_skip ?_
  refine SeqK.nx (by assumption) ?_
  refine k_seq (fun Q K => ?_)
  refine k_seq (fun Q K => ?_)
  refine k_lin (fun W K => ?_)
  refine l_op 0 rfl rfl rfl rfl rfl ?_
  refine l_a64 rfl rfl rfl (by omega) rfl ?_
  refine l_op 0 rfl rfl rfl rfl rfl ?_
  refine l_a64 rfl rfl rfl (by omega) rfl ?_
  refine l_op 0 rfl rfl rfl rfl rfl ?_
  refine l_nil (WK.nx (by assumption) ?_)
  refine SeqK.nx (by assumption) ?_
  refine k_seq (fun Q K => ?_)
  refine k_lin (fun W K => ?_)
  refine l_op 0 rfl rfl rfl rfl rfl ?_
  first | refine l_remn rfl rfl rfl rfl rfl (by omega) rfl ?_ | refine l_rem rfl rfl rfl rfl rfl (by omega) rfl ?_
  refine l_cmp rfl rfl rfl rfl ?_
  refine l_nil (WK.nx (by assumption) ?_)
  refine SeqK.nx (by assumption) ?_
  refine l_cond rfl rfl (fun hc4 => ?_) (fun hc4 => ?_)
  · first | replace hc4 := eq_of_beq ((irr_eq _).symm.trans hc4) | simp only [irr_eq, beq_iff_eq, beq_eq_false_iff_ne, ne_eq, decide_eq_true_eq, decide_eq_false_iff_not] at hc4
    refine k_seq (fun Q K => ?_)
    refine k_seq (fun Q K => ?_)
    refine k_lin (fun W K => ?_)
    refine l_op 0 rfl rfl rfl rfl rfl ?_
    refine l_op 0 rfl rfl rfl rfl rfl ?_
    first | refine l_op 2 rfl rfl rfl rfl rfl ?_ | refine l_ln rfl rfl rfl rfl ?_
    refine l_cmp rfl rfl rfl rfl ?_
    refine l_nil (WK.nx (by assumption) ?_)
    refine SeqK.nx (by assumption) ?_
    refine l_cond rfl rfl (fun hc5 => ?_) (fun hc5 => ?_)
    · first | replace hc5 := eq_of_beq ((irr_eq _).symm.trans hc5) | simp only [irr_eq, beq_iff_eq, beq_eq_false_iff_ne, ne_eq, decide_eq_true_eq, decide_eq_false_iff_not] at hc5
      refine k_seq (fun Q K => ?_)
      refine k_lin (fun W K => ?_)
      refine l_bld rfl rfl rfl rfl ?_
      refine l_op 0 rfl rfl rfl rfl rfl ?_
      refine l_stca F 0 rfl rfl rfl rfl rfl rfl rfl rfl rfl rfl hD rfl (fun s F => ?_)
      (try dsimp only [n_1, n_2, n_3, n_4, List.append_nil, pk, n_5, n_6] at F)
      refine l_op 0 rfl rfl rfl rfl rfl ?_
      refine l_op 0 rfl rfl rfl rfl rfl ?_
      refine l_nil (WK.nx (by assumption) ?_)
      refine SeqK.nx (by assumption) ?_
      refine k_ret ?_
      refine SeqK.rt (by assumption) ?_
      refine SeqK.rt (by assumption) ?_
      first | refine FunK.rtc (by assumption) (res_cell F 0 rfl rfl (by kernel_rfl) (resE_rsv rfl)) ?_ | refine FunK.rtc (by assumption) (res_cell F 1 rfl rfl (by kernel_rfl) (resE_rsv rfl)) ?_ | refine FunK.rtc (by assumption) (res_cell F 2 rfl rfl (by kernel_rfl) (resE_rsv rfl)) ?_ | refine FunK.rtc (by assumption) (res_cell F 3 rfl rfl (by kernel_rfl) (resE_rsv rfl)) ?_ | refine FunK.rtc (by assumption) (res_cell F 4 rfl rfl (by kernel_rfl) (resE_rsv rfl)) ?_ | refine FunK.rtc (by assumption) (res_cell F 5 rfl rfl (by kernel_rfl) (resE_rsv rfl)) ?_ | refine FunK.rtc (by assumption) (res_cell F 6 rfl rfl (by kernel_rfl) (resE_rsv rfl)) ?_ | refine FunK.rtc (by assumption) (res_cell F 7 rfl rfl (by kernel_rfl) (resE_rsv rfl)) ?_
      -- leaf 4
      have g : ∀ z, chunkE bs p = z → z.1 ≠ 0 → Ret E0 σ (fun (y : ByteArray × Option Addr × Nat × Nat × List Int) => .tuple #[.agg #[.string y.1, .slice y.2.1 y.2.2.1 y.2.2.2.1], .int .i64 (chunkE bs p).1, .int .i64 (chunkE bs p).2]) (fun y => [own y.2.1 y.2.2.1 y.2.2.2.1 1 (u8l y.2.2.2.2)]) (fun y => (chunkE bs p).1 = 0 → (ltr y.1, y.2.2.2.2) = chunkI bs p) (one [Value.agg #[Value.string { data := #[] }, Value.slice none 0 0], Value.int .i64 z.1, Value.int .i64 z.2]) s := fun z hz h0 =>
        ⟨(⟨#[]⟩, none, 0, 0, []), by rw [hz]; rfl, (F.pick [] (by decide)).nilrow 1, fun h => absurd (hz ▸ h) h0⟩
      first
        | (refine g (2, (l : Int)) ?_ (show (2 : Int) ≠ 0 by decide); unfold chunkE; rw [if_pos (by omega), hbl]; done)
        | (refine g (50, p) ?_ (show (50 : Int) ≠ 0 by decide); unfold chunkE; rw [if_neg (by omega), if_pos hc2]; done)
        | (rw [hbe] at *; refine g (51, p + 4) ?_ (show (51 : Int) ≠ 0 by decide); unfold chunkE; rw [if_neg (by omega), if_neg (by rw [hc2]; decide), if_pos (by omega)]; done)
        | (rw [hbe] at *; refine g (2, p + 8 + be bs (p + 4).toNat 4) ?_ (show (2 : Int) ≠ 0 by decide); unfold chunkE; rw [if_neg (by omega), if_neg (by rw [hc2]; decide), if_neg (by omega), if_pos ⟨by omega, by omega⟩, hbl, hc5]; done)
        | (rw [hbe] at *; refine g (52, p + 8 + be bs (p + 4).toNat 4) ?_ (show (52 : Int) ≠ 0 by decide); unfold chunkE; rw [if_neg (by omega), if_neg (by rw [hc2]; decide), if_neg (by omega), if_neg (by omega), if_pos ⟨by omega, hc6⟩]; done)
        | (have h0 : chunkE bs p = (0, 0) := by
             unfold chunkE; rw [if_neg (by omega), if_neg (by rw [hc2]; decide), if_neg (by omega), if_neg (by omega), if_neg ?_]
             rintro ⟨k1, k2⟩
             rw [← hbe] at k1 k2
             first | exact k2 hc6 | exact hc4 k1
           refine ⟨(strOfNums (List.take ((p + 4).toNat - p.toNat) (List.drop p.toNat bs)), y.1, _, y.2, _), ?_, F.pick [1] (by decide), fun _ => ?_⟩
           · rw [h0]; rfl
           · rw [ltr_str ((hB.drop _).take _), e4, show (p + 8 + (beR bs (p + 4) 4).1).toNat - (p + 8).toNat = (be bs (p + 4).toNat 4).toNat by omega]
             rfl)
    first | replace hc5 := ne_of_beq_false ((irr_eq _).symm.trans hc5) | simp only [irr_eq, beq_iff_eq, beq_eq_false_iff_ne, ne_eq, decide_eq_true_eq, decide_eq_false_iff_not] at hc5
    refine k_skip ?_
    refine SeqK.nx (by assumption) ?_
    refine k_seq (fun Q K => ?_)
    refine k_lin (fun W K => ?_)
    refine l_op 0 rfl rfl rfl rfl rfl ?_
    refine l_op 0 rfl rfl rfl rfl rfl ?_
    first | refine l_ixi rfl rfl rfl rfl rfl rfl (F.old (by assumption)) (by omega) (fun m65 b65 hA65 => ?_) | (refine l_ixoi F 0 rfl rfl rfl rfl rfl rfl rfl (by omega) (fun m e ha hA65 => ?_); cases ha) | (refine l_ixoi F 1 rfl rfl rfl rfl rfl rfl rfl (by omega) (fun m e ha hA65 => ?_); cases ha) | (refine l_ixoi F 2 rfl rfl rfl rfl rfl rfl rfl (by omega) (fun m e ha hA65 => ?_); cases ha) | (refine l_ixoi F 3 rfl rfl rfl rfl rfl rfl rfl (by omega) (fun m e ha hA65 => ?_); cases ha)
    refine l_ld0 rfl rfl rfl rfl rfl (by assumption) ?_
    refine l_cmp rfl rfl rfl rfl ?_
    refine l_nil (WK.nx (by assumption) ?_)
    refine SeqK.nx (by assumption) ?_
    refine l_cond rfl rfl (fun hc6 => ?_) (fun hc6 => ?_)
    · first | replace hc6 := bne_iff_ne.1 ((irr_eq _).symm.trans hc6) | simp only [irr_eq, bne_iff_ne, bne_eq_false_iff_eq, ne_eq, decide_eq_true_eq, decide_eq_false_iff_not, Bool.not_eq_true', Bool.not_eq_false'] at hc6
      refine k_seq (fun Q K => ?_)
      refine k_lin (fun W K => ?_)
      refine l_bld rfl rfl rfl rfl ?_
      refine l_op 0 rfl rfl rfl rfl rfl ?_
      refine l_stca F 0 rfl rfl rfl rfl rfl rfl rfl rfl rfl rfl hD rfl (fun s F => ?_)
      (try dsimp only [n_1, n_2, n_3, n_4, List.append_nil, pk, n_5, n_6] at F)
      refine l_op 0 rfl rfl rfl rfl rfl ?_
      refine l_op 0 rfl rfl rfl rfl rfl ?_
      refine l_nil (WK.nx (by assumption) ?_)
      refine SeqK.nx (by assumption) ?_
      refine k_ret ?_
      refine SeqK.rt (by assumption) ?_
      first | refine FunK.rtc (by assumption) (res_cell F 0 rfl rfl (by kernel_rfl) (resE_rsv rfl)) ?_ | refine FunK.rtc (by assumption) (res_cell F 1 rfl rfl (by kernel_rfl) (resE_rsv rfl)) ?_ | refine FunK.rtc (by assumption) (res_cell F 2 rfl rfl (by kernel_rfl) (resE_rsv rfl)) ?_ | refine FunK.rtc (by assumption) (res_cell F 3 rfl rfl (by kernel_rfl) (resE_rsv rfl)) ?_ | refine FunK.rtc (by assumption) (res_cell F 4 rfl rfl (by kernel_rfl) (resE_rsv rfl)) ?_ | refine FunK.rtc (by assumption) (res_cell F 5 rfl rfl (by kernel_rfl) (resE_rsv rfl)) ?_ | refine FunK.rtc (by assumption) (res_cell F 6 rfl rfl (by kernel_rfl) (resE_rsv rfl)) ?_ | refine FunK.rtc (by assumption) (res_cell F 7 rfl rfl (by kernel_rfl) (resE_rsv rfl)) ?_
      -- leaf 5
      have g : ∀ z, chunkE bs p = z → z.1 ≠ 0 → Ret E0 σ (fun (y : ByteArray × Option Addr × Nat × Nat × List Int) => .tuple #[.agg #[.string y.1, .slice y.2.1 y.2.2.1 y.2.2.2.1], .int .i64 (chunkE bs p).1, .int .i64 (chunkE bs p).2]) (fun y => [own y.2.1 y.2.2.1 y.2.2.2.1 1 (u8l y.2.2.2.2)]) (fun y => (chunkE bs p).1 = 0 → (ltr y.1, y.2.2.2.2) = chunkI bs p) (one [Value.agg #[Value.string { data := #[] }, Value.slice none 0 0], Value.int .i64 z.1, Value.int .i64 z.2]) s := fun z hz h0 =>
        ⟨(⟨#[]⟩, none, 0, 0, []), by rw [hz]; rfl, (F.pick [] (by decide)).nilrow 1, fun h => absurd (hz ▸ h) h0⟩
      first
        | (refine g (2, (l : Int)) ?_ (show (2 : Int) ≠ 0 by decide); unfold chunkE; rw [if_pos (by omega), hbl]; done)
        | (refine g (50, p) ?_ (show (50 : Int) ≠ 0 by decide); unfold chunkE; rw [if_neg (by omega), if_pos hc2]; done)
        | (rw [hbe] at *; refine g (51, p + 4) ?_ (show (51 : Int) ≠ 0 by decide); unfold chunkE; rw [if_neg (by omega), if_neg (by rw [hc2]; decide), if_pos (by omega)]; done)
        | (rw [hbe] at *; refine g (2, p + 8 + be bs (p + 4).toNat 4) ?_ (show (2 : Int) ≠ 0 by decide); unfold chunkE; rw [if_neg (by omega), if_neg (by rw [hc2]; decide), if_neg (by omega), if_pos ⟨by omega, by omega⟩, hbl, hc5]; done)
        | (rw [hbe] at *; refine g (52, p + 8 + be bs (p + 4).toNat 4) ?_ (show (52 : Int) ≠ 0 by decide); unfold chunkE; rw [if_neg (by omega), if_neg (by rw [hc2]; decide), if_neg (by omega), if_neg (by omega), if_pos ⟨by omega, hc6⟩]; done)
        | (have h0 : chunkE bs p = (0, 0) := by
             unfold chunkE; rw [if_neg (by omega), if_neg (by rw [hc2]; decide), if_neg (by omega), if_neg (by omega), if_neg ?_]
             rintro ⟨k1, k2⟩
             rw [← hbe] at k1 k2
             first | exact k2 hc6 | exact hc4 k1
           refine ⟨(strOfNums (List.take ((p + 4).toNat - p.toNat) (List.drop p.toNat bs)), y.1, _, y.2, _), ?_, F.pick [1] (by decide), fun _ => ?_⟩
           · rw [h0]; rfl
           · rw [ltr_str ((hB.drop _).take _), e4, show (p + 8 + (beR bs (p + 4) 4).1).toNat - (p + 8).toNat = (be bs (p + 4).toNat 4).toNat by omega]
             rfl)
    first | replace hc6 := bne_eq_false_iff_eq.1 ((irr_eq _).symm.trans hc6) | simp only [irr_eq, bne_iff_ne, bne_eq_false_iff_eq, ne_eq, decide_eq_true_eq, decide_eq_false_iff_not, Bool.not_eq_true', Bool.not_eq_false'] at hc6
    refine k_skip ?_
    refine SeqK.nx (by assumption) ?_
    refine k_seq (fun Q K => ?_)
    refine k_lin (fun W K => ?_)
    refine l_op 0 rfl rfl rfl rfl rfl ?_
    refine l_op 0 rfl rfl rfl rfl rfl ?_
    refine l_op 0 rfl rfl rfl rfl rfl ?_
    refine l_a64 rfl rfl rfl (by omega) rfl ?_
    refine l_op 0 rfl rfl rfl rfl rfl ?_
    refine l_a64 rfl rfl rfl (by omega) rfl ?_
    refine l_op 0 rfl rfl rfl rfl rfl ?_
    refine l_a64 rfl rfl rfl (by omega) rfl ?_
    first | refine l_sl rfl rfl rfl rfl rfl rfl rfl rfl ⟨rfl, _, _, rfl, by omega, rfl⟩ (F.old (by assumption)) (by omega) ?_ | refine l_sl rfl rfl rfl rfl rfl rfl rfl rfl ⟨rfl, _, _, rfl, by omega, rfl⟩ (F.has 0 rfl) (by omega) ?_ | refine l_sl rfl rfl rfl rfl rfl rfl rfl rfl ⟨rfl, _, _, rfl, by omega, rfl⟩ (F.has 1 rfl) (by omega) ?_ | refine l_sl rfl rfl rfl rfl rfl rfl rfl rfl ⟨rfl, _, _, rfl, by omega, rfl⟩ (F.has 2 rfl) (by omega) ?_ | refine l_sl rfl rfl rfl rfl rfl rfl rfl rfl ⟨rfl, _, _, rfl, by omega, rfl⟩ (F.has 3 rfl) (by omega) ?_
    refine l_callp F rfl rfl (by kernel_rfl) rfl rfl (clone_call (Old.pure (F.old (hl.part8 (lo := (p + 8).toNat) (hi := (p + 8 + (beR bs (p + 4) 4).1).toNat) (by omega) (by omega)))) (by omega)) (fun y s F _ => ?_)
    (try dsimp only [n_1, n_2, n_3, n_4, List.append_nil, pk, n_5, n_6] at F)
    refine l_bld rfl rfl rfl rfl ?_
    refine l_stca F 0 rfl rfl rfl rfl rfl rfl rfl rfl rfl rfl hD rfl (fun s F => ?_)
    (try dsimp only [n_1, n_2, n_3, n_4, List.append_nil, pk, n_5, n_6] at F)
    refine l_op 0 rfl rfl rfl rfl rfl ?_
    refine l_op 0 rfl rfl rfl rfl rfl ?_
    refine l_nil (WK.nx (by assumption) ?_)
    refine SeqK.nx (by assumption) ?_
    refine k_ret ?_
    first | refine FunK.rtc (by assumption) (res_cell F 0 rfl rfl (by kernel_rfl) (resE_rsv rfl)) ?_ | refine FunK.rtc (by assumption) (res_cell F 1 rfl rfl (by kernel_rfl) (resE_rsv rfl)) ?_ | refine FunK.rtc (by assumption) (res_cell F 2 rfl rfl (by kernel_rfl) (resE_rsv rfl)) ?_ | refine FunK.rtc (by assumption) (res_cell F 3 rfl rfl (by kernel_rfl) (resE_rsv rfl)) ?_ | refine FunK.rtc (by assumption) (res_cell F 4 rfl rfl (by kernel_rfl) (resE_rsv rfl)) ?_ | refine FunK.rtc (by assumption) (res_cell F 5 rfl rfl (by kernel_rfl) (resE_rsv rfl)) ?_ | refine FunK.rtc (by assumption) (res_cell F 6 rfl rfl (by kernel_rfl) (resE_rsv rfl)) ?_ | refine FunK.rtc (by assumption) (res_cell F 7 rfl rfl (by kernel_rfl) (resE_rsv rfl)) ?_
    -- leaf 6
    have g : ∀ z, chunkE bs p = z → z.1 ≠ 0 → Ret E0 σ (fun (y : ByteArray × Option Addr × Nat × Nat × List Int) => .tuple #[.agg #[.string y.1, .slice y.2.1 y.2.2.1 y.2.2.2.1], .int .i64 (chunkE bs p).1, .int .i64 (chunkE bs p).2]) (fun y => [own y.2.1 y.2.2.1 y.2.2.2.1 1 (u8l y.2.2.2.2)]) (fun y => (chunkE bs p).1 = 0 → (ltr y.1, y.2.2.2.2) = chunkI bs p) (one [Value.agg #[Value.string { data := #[] }, Value.slice none 0 0], Value.int .i64 z.1, Value.int .i64 z.2]) s := fun z hz h0 =>
      ⟨(⟨#[]⟩, none, 0, 0, []), by rw [hz]; rfl, (F.pick [] (by decide)).nilrow 1, fun h => absurd (hz ▸ h) h0⟩
    first
      | (refine g (2, (l : Int)) ?_ (show (2 : Int) ≠ 0 by decide); unfold chunkE; rw [if_pos (by omega), hbl]; done)
      | (refine g (50, p) ?_ (show (50 : Int) ≠ 0 by decide); unfold chunkE; rw [if_neg (by omega), if_pos hc2]; done)
      | (rw [hbe] at *; refine g (51, p + 4) ?_ (show (51 : Int) ≠ 0 by decide); unfold chunkE; rw [if_neg (by omega), if_neg (by rw [hc2]; decide), if_pos (by omega)]; done)
      | (rw [hbe] at *; refine g (2, p + 8 + be bs (p + 4).toNat 4) ?_ (show (2 : Int) ≠ 0 by decide); unfold chunkE; rw [if_neg (by omega), if_neg (by rw [hc2]; decide), if_neg (by omega), if_pos ⟨by omega, by omega⟩, hbl, hc5]; done)
      | (rw [hbe] at *; refine g (52, p + 8 + be bs (p + 4).toNat 4) ?_ (show (52 : Int) ≠ 0 by decide); unfold chunkE; rw [if_neg (by omega), if_neg (by rw [hc2]; decide), if_neg (by omega), if_neg (by omega), if_pos ⟨by omega, hc6⟩]; done)
      | (have h0 : chunkE bs p = (0, 0) := by
           unfold chunkE; rw [if_neg (by omega), if_neg (by rw [hc2]; decide), if_neg (by omega), if_neg (by omega), if_neg ?_]
           rintro ⟨k1, k2⟩
           rw [← hbe] at k1 k2
           first | exact k2 hc6 | exact hc4 k1
         refine ⟨(strOfNums (List.take ((p + 4).toNat - p.toNat) (List.drop p.toNat bs)), y.1, _, y.2, _), ?_, F.pick [1] (by decide), fun _ => ?_⟩
         · rw [h0]; rfl
         · rw [ltr_str ((hB.drop _).take _), e4, show (p + 8 + (beR bs (p + 4) 4).1).toNat - (p + 8).toNat = (be bs (p + 4).toNat 4).toNat by omega]
           rfl)
  first | replace hc4 := ne_of_beq_false ((irr_eq _).symm.trans hc4) | simp only [irr_eq, beq_iff_eq, beq_eq_false_iff_ne, ne_eq, decide_eq_true_eq, decide_eq_false_iff_not] at hc4
  refine k_skip ?_
  refine SeqK.nx (by assumption) ?_
  refine k_seq (fun Q K => ?_)
  refine k_lin (fun W K => ?_)
  refine l_op 0 rfl rfl rfl rfl rfl ?_
  refine l_op 0 rfl rfl rfl rfl rfl ?_
  refine l_op 0 rfl rfl rfl rfl rfl ?_
  refine l_a64 rfl rfl rfl (by omega) rfl ?_
  refine l_op 0 rfl rfl rfl rfl rfl ?_
  refine l_a64 rfl rfl rfl (by omega) rfl ?_
  refine l_op 0 rfl rfl rfl rfl rfl ?_
  refine l_a64 rfl rfl rfl (by omega) rfl ?_
  first | refine l_sl rfl rfl rfl rfl rfl rfl rfl rfl ⟨rfl, _, _, rfl, by omega, rfl⟩ (F.old (by assumption)) (by omega) ?_ | refine l_sl rfl rfl rfl rfl rfl rfl rfl rfl ⟨rfl, _, _, rfl, by omega, rfl⟩ (F.has 0 rfl) (by omega) ?_ | refine l_sl rfl rfl rfl rfl rfl rfl rfl rfl ⟨rfl, _, _, rfl, by omega, rfl⟩ (F.has 1 rfl) (by omega) ?_ | refine l_sl rfl rfl rfl rfl rfl rfl rfl rfl ⟨rfl, _, _, rfl, by omega, rfl⟩ (F.has 2 rfl) (by omega) ?_ | refine l_sl rfl rfl rfl rfl rfl rfl rfl rfl ⟨rfl, _, _, rfl, by omega, rfl⟩ (F.has 3 rfl) (by omega) ?_
  refine l_callp F rfl rfl (by kernel_rfl) rfl rfl (clone_call (Old.pure (F.old (hl.part8 (lo := (p + 8).toNat) (hi := (p + 8 + (beR bs (p + 4) 4).1).toNat) (by omega) (by omega)))) (by omega)) (fun y s F _ => ?_)
  (try dsimp only [n_1, n_2, n_3, n_4, List.append_nil, pk, n_5, n_6] at F)
  refine l_bld rfl rfl rfl rfl ?_
  refine l_stca F 0 rfl rfl rfl rfl rfl rfl rfl rfl rfl rfl hD rfl (fun s F => ?_)
  (try dsimp only [n_1, n_2, n_3, n_4, List.append_nil, pk, n_5, n_6] at F)
  refine l_op 0 rfl rfl rfl rfl rfl ?_
  refine l_op 0 rfl rfl rfl rfl rfl ?_
  refine l_nil (WK.nx (by assumption) ?_)
  refine SeqK.nx (by assumption) ?_
  refine k_ret ?_
  first | refine FunK.rtc (by assumption) (res_cell F 0 rfl rfl (by kernel_rfl) (resE_rsv rfl)) ?_ | refine FunK.rtc (by assumption) (res_cell F 1 rfl rfl (by kernel_rfl) (resE_rsv rfl)) ?_ | refine FunK.rtc (by assumption) (res_cell F 2 rfl rfl (by kernel_rfl) (resE_rsv rfl)) ?_ | refine FunK.rtc (by assumption) (res_cell F 3 rfl rfl (by kernel_rfl) (resE_rsv rfl)) ?_ | refine FunK.rtc (by assumption) (res_cell F 4 rfl rfl (by kernel_rfl) (resE_rsv rfl)) ?_ | refine FunK.rtc (by assumption) (res_cell F 5 rfl rfl (by kernel_rfl) (resE_rsv rfl)) ?_ | refine FunK.rtc (by assumption) (res_cell F 6 rfl rfl (by kernel_rfl) (resE_rsv rfl)) ?_ | refine FunK.rtc (by assumption) (res_cell F 7 rfl rfl (by kernel_rfl) (resE_rsv rfl)) ?_
  -- leaf 7
  have g : ∀ z, chunkE bs p = z → z.1 ≠ 0 → Ret E0 σ (fun (y : ByteArray × Option Addr × Nat × Nat × List Int) => .tuple #[.agg #[.string y.1, .slice y.2.1 y.2.2.1 y.2.2.2.1], .int .i64 (chunkE bs p).1, .int .i64 (chunkE bs p).2]) (fun y => [own y.2.1 y.2.2.1 y.2.2.2.1 1 (u8l y.2.2.2.2)]) (fun y => (chunkE bs p).1 = 0 → (ltr y.1, y.2.2.2.2) = chunkI bs p) (one [Value.agg #[Value.string { data := #[] }, Value.slice none 0 0], Value.int .i64 z.1, Value.int .i64 z.2]) s := fun z hz h0 =>
    ⟨(⟨#[]⟩, none, 0, 0, []), by rw [hz]; rfl, (F.pick [] (by decide)).nilrow 1, fun h => absurd (hz ▸ h) h0⟩
  first
    | (refine g (2, (l : Int)) ?_ (show (2 : Int) ≠ 0 by decide); unfold chunkE; rw [if_pos (by omega), hbl]; done)
    | (refine g (50, p) ?_ (show (50 : Int) ≠ 0 by decide); unfold chunkE; rw [if_neg (by omega), if_pos hc2]; done)
    | (rw [hbe] at *; refine g (51, p + 4) ?_ (show (51 : Int) ≠ 0 by decide); unfold chunkE; rw [if_neg (by omega), if_neg (by rw [hc2]; decide), if_pos (by omega)]; done)
    | (rw [hbe] at *; refine g (2, p + 8 + be bs (p + 4).toNat 4) ?_ (show (2 : Int) ≠ 0 by decide); unfold chunkE; rw [if_neg (by omega), if_neg (by rw [hc2]; decide), if_neg (by omega), if_pos ⟨by omega, by omega⟩, hbl, hc5]; done)
    | (rw [hbe] at *; refine g (52, p + 8 + be bs (p + 4).toNat 4) ?_ (show (52 : Int) ≠ 0 by decide); unfold chunkE; rw [if_neg (by omega), if_neg (by rw [hc2]; decide), if_neg (by omega), if_neg (by omega), if_pos ⟨by omega, hc6⟩]; done)
    | (have h0 : chunkE bs p = (0, 0) := by
         unfold chunkE; rw [if_neg (by omega), if_neg (by rw [hc2]; decide), if_neg (by omega), if_neg (by omega), if_neg ?_]
         rintro ⟨k1, k2⟩
         rw [← hbe] at k1 k2
         first | exact k2 hc6 | exact hc4 k1
       refine ⟨(strOfNums (List.take ((p + 4).toNat - p.toNat) (List.drop p.toNat bs)), y.1, _, y.2, _), ?_, F.pick [1] (by decide), fun _ => ?_⟩
       · rw [h0]; rfl
       · rw [ltr_str ((hB.drop _).take _), e4, show (p + 8 + (beR bs (p + 4) 4).1).toNat - (p + 8).toNat = (be bs (p + 4).toNat 4).toNat by omega]
         rfl)

end Go.Proofs.Ytkmkbpnlccomnaa
