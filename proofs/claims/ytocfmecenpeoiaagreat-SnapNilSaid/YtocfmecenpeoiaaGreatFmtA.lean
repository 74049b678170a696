/- Formats: where locals begin, how many bytes they have, by the program and by the document. No statement of the seat is proved in this text. -/
import Derived.Test.YtocfmecenpeoiaaGreatPairs
set_option linter.unusedVariables false
set_option linter.unusedSimpArgs false
set_option maxRecDepth 100000
set_option maxHeartbeats 4000000
namespace Go.Proofs.YtocfmecenpeoiaaGreat.Stk
open GAb Go

theorem andn3 (y : BitVec 64) : y &&& ~~~(3#64) = (y >>> 2) <<< 2 := by
  apply BitVec.eq_of_getLsbD_eq
  intro i hi
  have h3 : (3#64).getLsbD i = decide (i < 2) := by
    have : ∀ j : Fin 64, (3#64).getLsbD j.val = decide (j.val < 2) := by decide
    exact this ⟨i, hi⟩
  simp only [BitVec.getLsbD_and, BitVec.getLsbD_not, h3, BitVec.getLsbD_shiftLeft, BitVec.getLsbD_ushiftRight]
  by_cases h : i < 2
  · simp [h]
  · simp [h, hi]
    congr 1; omega
theorem andNot3 {z : Int} (h0 : 0 ≤ z) (h1 : z ≤ 4000000000) : IntKind.i64.wrap ↑(BitVec.ofInt IntKind.i64.bits z &&& ~~~BitVec.ofInt IntKind.i64.bits 3).toNat = z / 4 * 4 := by
  have e : (BitVec.ofInt 64 z &&& ~~~BitVec.ofInt 64 3).toNat = z.toNat / 4 * 4 := by
    have h3 : BitVec.ofInt 64 3 = 3#64 := by decide
    rw [h3, andn3, BitVec.toNat_shiftLeft, BitVec.toNat_ushiftRight, BitVec.toNat_ofInt, Nat.shiftLeft_eq, Nat.shiftRight_eq_div_pow]
    omega
  have e' : (BitVec.ofInt IntKind.i64.bits z &&& ~~~BitVec.ofInt IntKind.i64.bits 3).toNat = z.toNat / 4 * 4 := e
  rw [e', wrapi (by omega) (by omega)]
  omega

theorem four_call {σ : AState} {x : Int} (h0 : 0 ≤ x) (h1 : x ≤ 1000000000) :
    SCall Tryz.prog E0 159 [.int .i64 x] σ (Ret E0 σ (fun (_ : Unit) => .int .i64 ((x + 3) / 4 * 4)) (fun _ => []) fun _ => True) := by
  refine k_fun Tryz.func159 rfl (m := 6) rfl fun B hD Q K => ?_
  have F := Facts.nil E0 σ
  refine k_seq fun Q K => k_lin fun W K => ?_
  refine l_op 0 rfl rfl rfl rfl rfl ?_
  refine l_nil (WK.nx ‹_› (SeqK.nx ‹_› ?_))
  refine k_seq fun Q K => k_lin fun W K => ?_
  refine l_op 0 rfl rfl rfl rfl rfl ?_
  refine l_a64 rfl rfl rfl (by omega) rfl ?_
  refine l_op 2 rfl rfl rfl rfl rfl ?_
  refine l_op 0 rfl rfl rfl rfl rfl ?_
  refine l_nil (WK.nx ‹_› (SeqK.nx ‹_› (k_ret ?_)))
  refine FunK.rt (by assumption) rfl ?_
  -- leaf 1
  refine ⟨(), ?_, F, trivial⟩
  exact congrArg (Value.int .i64) (andNot3 (by omega) (by omega))

theorem format_call {σ : AState} {a : Option Addr} {l c : Nat} {bs : List Int} (h : Old E0 σ a l c 1 (u8l bs)) (hl : l ≤ 1000000) :
    SCall Tryz.prog E0 162 [.slice a l c] σ (Ret E0 σ (fun (_ : Unit) => .int .i64 (pr 0 bs)) (fun _ => []) fun _ => True) := by
  have hbl := h.len8
  refine k_fun Tryz.func162 rfl (m := 48) rfl fun B hD Q K => ?_
  have F := Facts.nil E0 σ
  refine k_seq fun Q K => k_lin fun W K => ?_
  refine l_op 0 rfl rfl rfl rfl rfl ?_
  refine l_nil (WK.nx ‹_› (SeqK.nx ‹_› ?_))
  refine k_seq fun Q K => k_seq fun Q K => k_lin fun W K => ?_
  refine l_op 0 rfl rfl rfl rfl rfl ?_
  refine l_nil (WK.nx ‹_› (SeqK.nx ‹_› ?_))
  refine k_block fun Q K => ?_
  refine k_loop (α := Int) (fun i s => Facts E0 σ s [] ∧ 0 ≤ i ∧ 2 * i ≤ l + 2 ∧ pr (2 * i).toNat (bs.drop (2 * i).toNat) = pr 0 bs) (fun i => [(0, .slice a l c), (3, .int .i64 i)]) (fun i => (l + 2 - i).toNat) 0 ⟨F, by omega, by omega, rfl⟩ (by repeat (first | exact trivial | refine And.intro rfl ?_)) ?_
  clear F
  rintro i env s Q K0 ⟨F, h0, hi, hq⟩
  have e1 : (2 * i + 1).toNat = (2 * i).toNat + 1 := by omega
  have e2 : (2 * (i + 1)).toNat = (2 * i).toNat + 2 := by omega
  refine k_seq fun Q K => k_seq fun Q K => k_lin fun W K => ?_
  refine l_op 0 rfl rfl rfl rfl rfl ?_
  iterate 2 refine l_a64 rfl rfl rfl (by omega) rfl ?_
  refine l_op 0 rfl rfl rfl rfl rfl ?_
  refine l_op 2 rfl rfl rfl rfl rfl ?_
  refine l_cmp rfl rfl rfl rfl ?_
  refine l_nil (WK.nx ‹_› (SeqK.nx ‹_› ?_))
  refine l_cond rfl rfl (fun hc1 => ?_) (fun hc1 => ?_)
  · replace hc1 := of_decide_eq_true ((irr_eq _).symm.trans hc1)
    refine k_skip (SeqK.nx ‹_› ?_)
    refine k_seq fun Q K => k_block fun Q K => k_seq fun Q K => ?_
    refine k_linm [0, 1, 2, 3, 5, 6, 7, 8, 9, 4, 11, 10, 12] mixed (by kernel_rfl) (fun W K => ?_)
    try have hpS := F.pns
    iterate 2 refine l_op 0 rfl rfl rfl rfl rfl ?_
    refine l_a64 rfl rfl rfl (by omega) rfl ?_
    first | (refine l_ixs F (by assumption) rfl rfl rfl rfl rfl rfl (by omega) (fun m17 b17 hA17 hS17 => ?_)) | refine l_ixi rfl rfl rfl rfl rfl rfl (F.old (by assumption)) (by omega) (fun m17 b17 hA17 => ?_) | (refine l_ixoi F 0 rfl rfl rfl rfl rfl rfl rfl (by omega) (fun m e ha hA17 => ?_); cases ha) | (refine l_ixoi F 1 rfl rfl rfl rfl rfl rfl rfl (by omega) (fun m e ha hA17 => ?_); cases ha) | (refine l_ixoi F 2 rfl rfl rfl rfl rfl rfl rfl (by omega) (fun m e ha hA17 => ?_); cases ha) | (refine l_ixoi F 3 rfl rfl rfl rfl rfl rfl rfl (by omega) (fun m e ha hA17 => ?_); cases ha)
    iterate 2 refine l_op 0 rfl rfl rfl rfl rfl ?_
    iterate 2 refine l_a64 rfl rfl rfl (by omega) rfl ?_
    first | (refine l_ixs F (by assumption) rfl rfl rfl rfl rfl rfl (by omega) (fun m23 b23 hA23 hS23 => ?_)) | refine l_ixi rfl rfl rfl rfl rfl rfl (F.old (by assumption)) (by omega) (fun m23 b23 hA23 => ?_) | (refine l_ixoi F 0 rfl rfl rfl rfl rfl rfl rfl (by omega) (fun m e ha hA23 => ?_); cases ha) | (refine l_ixoi F 1 rfl rfl rfl rfl rfl rfl rfl (by omega) (fun m e ha hA23 => ?_); cases ha) | (refine l_ixoi F 2 rfl rfl rfl rfl rfl rfl rfl (by omega) (fun m e ha hA23 => ?_); cases ha) | (refine l_ixoi F 3 rfl rfl rfl rfl rfl rfl rfl (by omega) (fun m e ha hA23 => ?_); cases ha)
    refine l_ld0 rfl rfl rfl rfl rfl (by assumption) ?_
    have hpS := PnS.add hpS hS17
    refine l_op 0 rfl rfl rfl rfl rfl ?_
    refine l_ld0 rfl rfl rfl rfl rfl (by assumption) ?_
    have hpS := PnS.add hpS hS23
    refine l_op 0 rfl rfl rfl rfl rfl ?_
    refine l_nil (WK.nx ‹_› (SeqK.nx ‹_› ?_))
    refine k_seq fun Q K => k_seq fun Q K => k_lin fun W K => ?_
    refine l_op 0 rfl rfl rfl rfl rfl ?_
    refine l_cmp rfl rfl rfl rfl ?_
    refine l_op 0 rfl rfl rfl rfl rfl ?_
    refine l_guard rfl rfl rfl (fun hc2 => ?_) (fun hc2 => ?_)
    · replace hc2 := eq_of_beq ((irr_eq _).symm.trans hc2)
      refine l_op 0 rfl rfl rfl rfl rfl ?_
      refine l_cmp rfl rfl rfl rfl ?_
      refine l_op 2 rfl rfl rfl rfl rfl ?_
      refine l_nil (WK.nx ‹_› (SeqK.nx ‹_› ?_))
      refine l_cond rfl rfl (fun hc3 => ?_) (fun hc3 => ?_)
      · replace hc3 := eq_of_beq ((irr_eq _).symm.trans hc3)
        refine k_seq fun Q K => k_lin fun W K => ?_
        refine l_op 0 rfl rfl rfl rfl rfl ?_
        iterate 2 refine l_a64 rfl rfl rfl (by omega) rfl ?_
        refine l_op 0 rfl rfl rfl rfl rfl ?_
        refine l_nil (WK.nx ‹_› (SeqK.nx ‹_› (k_ret (SeqK.rt ‹_› (BlkK.rt ‹_› (SeqK.rt ‹_› ?_))))))
        refine LoopK.rt (by assumption) ?_
        refine BlkK.rt ‹_› (SeqK.rt ‹_› ?_)
        refine FunK.rt (by assumption) rfl ?_
        -- leaf 1
        (rw [pr_at (by omega), ← e1, ← e2] at hq
         exact ⟨(), by first | (rw [if_pos (by omega)] at hq; rw [← hq]; simp only [one]; congr 1; omega) | (rw [if_neg (by omega), if_pos (by omega)] at hq; rw [← hq]; rfl), F, trivial⟩)
      replace hc3 := ne_of_beq_false ((irr_eq _).symm.trans hc3)
      refine k_skip (SeqK.nx ‹_› ?_)
      refine k_seq fun Q K => k_lin fun W K => ?_
      refine l_op 0 rfl rfl rfl rfl rfl ?_
      refine l_cmp rfl rfl rfl rfl ?_
      refine l_op 0 rfl rfl rfl rfl rfl ?_
      refine l_guard rfl rfl rfl (fun hc4 => ?_) (fun hc4 => ?_)
      · replace hc4 := bne_iff_ne.1 ((irr_eq _).symm.trans hc4)
        refine l_op 0 rfl rfl rfl rfl rfl ?_
        refine l_cmp rfl rfl rfl rfl ?_
        refine l_op 2 rfl rfl rfl rfl rfl ?_
        refine l_op 0 rfl rfl rfl rfl rfl ?_
        refine l_guard rfl rfl rfl (fun hc5 => ?_) (fun hc5 => ?_)
        · replace hc5 := bne_iff_ne.1 ((irr_eq _).symm.trans hc5)
          refine l_op 0 rfl rfl rfl rfl rfl ?_
          refine l_cmp rfl rfl rfl rfl ?_
          refine l_op 2 rfl rfl rfl rfl rfl ?_
          refine l_op 0 rfl rfl rfl rfl rfl ?_
          refine l_guard rfl rfl rfl (fun hc6 => ?_) (fun hc6 => ?_)
          · replace hc6 := bne_iff_ne.1 ((irr_eq _).symm.trans hc6)
            iterate 2 refine l_s rfl rfl ?_
            refine l_op 2 rfl rfl rfl rfl rfl ?_
            refine l_nil (WK.nx ‹_› (SeqK.nx ‹_› ?_))
            refine e_cond_t rfl rfl rfl ?_
            refine k_seq fun Q K => k_lin fun W K => ?_
            refine l_op 0 rfl rfl rfl rfl rfl ?_
            refine l_nil (WK.nx ‹_› (SeqK.nx ‹_› (k_ret (BlkK.rt ‹_› (SeqK.rt ‹_› ?_)))))
            refine LoopK.rt (by assumption) ?_
            refine BlkK.rt ‹_› (SeqK.rt ‹_› ?_)
            refine FunK.rt (by assumption) rfl ?_
            -- leaf 2
            (rw [pr_at (by omega), ← e1, ← e2] at hq
             exact ⟨(), by first | (rw [if_pos (by omega)] at hq; rw [← hq]; simp only [one]; congr 1; omega) | (rw [if_neg (by omega), if_pos (by omega)] at hq; rw [← hq]; rfl), F, trivial⟩)
          replace hc6 := bne_eq_false_iff_eq.1 ((irr_eq _).symm.trans hc6)
          refine l_op 0 rfl rfl rfl rfl rfl ?_
          refine l_cmp rfl rfl rfl rfl ?_
          refine l_op 2 rfl rfl rfl rfl rfl ?_
          refine l_nil (WK.nx ‹_› (SeqK.nx ‹_› ?_))
          refine l_cond rfl rfl (fun hc7 => ?_) (fun hc7 => ?_)
          · replace hc7 := eq_of_beq ((irr_eq _).symm.trans hc7)
            refine k_seq fun Q K => k_lin fun W K => ?_
            refine l_op 0 rfl rfl rfl rfl rfl ?_
            refine l_nil (WK.nx ‹_› (SeqK.nx ‹_› (k_ret (BlkK.rt ‹_› (SeqK.rt ‹_› ?_)))))
            refine LoopK.rt (by assumption) ?_
            refine BlkK.rt ‹_› (SeqK.rt ‹_› ?_)
            refine FunK.rt (by assumption) rfl ?_
            -- leaf 3
            (rw [pr_end (by omega)] at hq; exact ⟨(), by rw [← hq]; rfl, F, trivial⟩)
          replace hc7 := ne_of_beq_false ((irr_eq _).symm.trans hc7)
          refine k_skip (BlkK.nx ‹_› (SeqK.nx ‹_› ?_))
          refine k_lin fun W K => ?_
          refine l_op 0 rfl rfl rfl rfl rfl ?_
          refine l_a64 rfl rfl rfl (by omega) rfl ?_
          refine l_op 0 rfl rfl rfl rfl rfl ?_
          refine l_nil (WK.nx ‹_› ?_)
          rw [pr_at (by omega), ← e1, ← e2] at hq
          rw [if_neg (by omega), if_neg (by omega)] at hq
          exact K0.nx (i + 1) (by repeat (first | exact trivial | refine And.intro rfl ?_)) ⟨F, by omega, by omega, hq⟩ (by omega)
        replace hc5 := bne_eq_false_iff_eq.1 ((irr_eq _).symm.trans hc5)
        iterate 2 refine l_s rfl rfl ?_
        refine l_op 2 rfl rfl rfl rfl rfl ?_
        iterate 2 refine l_op 0 rfl rfl rfl rfl rfl ?_
        refine l_cmp rfl rfl rfl rfl ?_
        refine l_op 2 rfl rfl rfl rfl rfl ?_
        refine l_nil (WK.nx ‹_› (SeqK.nx ‹_› ?_))
        refine l_cond rfl rfl (fun hc8 => ?_) (fun hc8 => ?_)
        · replace hc8 := eq_of_beq ((irr_eq _).symm.trans hc8)
          refine k_seq fun Q K => k_lin fun W K => ?_
          refine l_op 0 rfl rfl rfl rfl rfl ?_
          refine l_nil (WK.nx ‹_› (SeqK.nx ‹_› (k_ret (BlkK.rt ‹_› (SeqK.rt ‹_› ?_)))))
          refine LoopK.rt (by assumption) ?_
          refine BlkK.rt ‹_› (SeqK.rt ‹_› ?_)
          refine FunK.rt (by assumption) rfl ?_
          -- leaf 4
          (rw [pr_end (by omega)] at hq; exact ⟨(), by rw [← hq]; rfl, F, trivial⟩)
        replace hc8 := ne_of_beq_false ((irr_eq _).symm.trans hc8)
        refine k_skip (BlkK.nx ‹_› (SeqK.nx ‹_› ?_))
        refine k_lin fun W K => ?_
        refine l_op 0 rfl rfl rfl rfl rfl ?_
        refine l_a64 rfl rfl rfl (by omega) rfl ?_
        refine l_op 0 rfl rfl rfl rfl rfl ?_
        refine l_nil (WK.nx ‹_› ?_)
        rw [pr_at (by omega), ← e1, ← e2] at hq
        rw [if_neg (by omega), if_neg (by omega)] at hq
        exact K0.nx (i + 1) (by repeat (first | exact trivial | refine And.intro rfl ?_)) ⟨F, by omega, by omega, hq⟩ (by omega)
      replace hc4 := bne_eq_false_iff_eq.1 ((irr_eq _).symm.trans hc4)
      iterate 2 refine l_s rfl rfl ?_
      refine l_op 2 rfl rfl rfl rfl rfl ?_
      refine l_op 0 rfl rfl rfl rfl rfl ?_
      iterate 2 refine l_s rfl rfl ?_
      refine l_op 2 rfl rfl rfl rfl rfl ?_
      iterate 2 refine l_op 0 rfl rfl rfl rfl rfl ?_
      refine l_cmp rfl rfl rfl rfl ?_
      refine l_op 2 rfl rfl rfl rfl rfl ?_
      refine l_nil (WK.nx ‹_› (SeqK.nx ‹_› ?_))
      refine l_cond rfl rfl (fun hc9 => ?_) (fun hc9 => ?_)
      · replace hc9 := eq_of_beq ((irr_eq _).symm.trans hc9)
        refine k_seq fun Q K => k_lin fun W K => ?_
        refine l_op 0 rfl rfl rfl rfl rfl ?_
        refine l_nil (WK.nx ‹_› (SeqK.nx ‹_› (k_ret (BlkK.rt ‹_› (SeqK.rt ‹_› ?_)))))
        refine LoopK.rt (by assumption) ?_
        refine BlkK.rt ‹_› (SeqK.rt ‹_› ?_)
        refine FunK.rt (by assumption) rfl ?_
        -- leaf 5
        (rw [pr_end (by omega)] at hq; exact ⟨(), by rw [← hq]; rfl, F, trivial⟩)
      replace hc9 := ne_of_beq_false ((irr_eq _).symm.trans hc9)
      refine k_skip (BlkK.nx ‹_› (SeqK.nx ‹_› ?_))
      refine k_lin fun W K => ?_
      refine l_op 0 rfl rfl rfl rfl rfl ?_
      refine l_a64 rfl rfl rfl (by omega) rfl ?_
      refine l_op 0 rfl rfl rfl rfl rfl ?_
      refine l_nil (WK.nx ‹_› ?_)
      rw [pr_at (by omega), ← e1, ← e2] at hq
      rw [if_neg (by omega), if_neg (by omega)] at hq
      exact K0.nx (i + 1) (by repeat (first | exact trivial | refine And.intro rfl ?_)) ⟨F, by omega, by omega, hq⟩ (by omega)
    replace hc2 := ne_of_beq_false ((irr_eq _).symm.trans hc2)
    iterate 2 refine l_s rfl rfl ?_
    refine l_op 2 rfl rfl rfl rfl rfl ?_
    refine l_nil (WK.nx ‹_› (SeqK.nx ‹_› ?_))
    refine e_cond_f rfl rfl rfl ?_
    refine k_skip (SeqK.nx ‹_› ?_)
    refine k_seq fun Q K => k_lin fun W K => ?_
    refine l_op 0 rfl rfl rfl rfl rfl ?_
    refine l_cmp rfl rfl rfl rfl ?_
    refine l_op 0 rfl rfl rfl rfl rfl ?_
    refine l_guard rfl rfl rfl (fun hc10 => ?_) (fun hc10 => ?_)
    · replace hc10 := bne_iff_ne.1 ((irr_eq _).symm.trans hc10)
      refine l_op 0 rfl rfl rfl rfl rfl ?_
      refine l_cmp rfl rfl rfl rfl ?_
      refine l_op 2 rfl rfl rfl rfl rfl ?_
      refine l_op 0 rfl rfl rfl rfl rfl ?_
      refine l_guard rfl rfl rfl (fun hc11 => ?_) (fun hc11 => ?_)
      · replace hc11 := bne_iff_ne.1 ((irr_eq _).symm.trans hc11)
        refine l_op 0 rfl rfl rfl rfl rfl ?_
        refine l_cmp rfl rfl rfl rfl ?_
        refine l_op 2 rfl rfl rfl rfl rfl ?_
        refine l_op 0 rfl rfl rfl rfl rfl ?_
        refine l_guard rfl rfl rfl (fun hc12 => ?_) (fun hc12 => ?_)
        · replace hc12 := bne_iff_ne.1 ((irr_eq _).symm.trans hc12)
          iterate 2 refine l_s rfl rfl ?_
          refine l_op 2 rfl rfl rfl rfl rfl ?_
          refine l_nil (WK.nx ‹_› (SeqK.nx ‹_› ?_))
          refine e_cond_t rfl rfl rfl ?_
          refine k_seq fun Q K => k_lin fun W K => ?_
          refine l_op 0 rfl rfl rfl rfl rfl ?_
          refine l_nil (WK.nx ‹_› (SeqK.nx ‹_› (k_ret (BlkK.rt ‹_› (SeqK.rt ‹_› ?_)))))
          refine LoopK.rt (by assumption) ?_
          refine BlkK.rt ‹_› (SeqK.rt ‹_› ?_)
          refine FunK.rt (by assumption) rfl ?_
          -- leaf 6
          (rw [pr_at (by omega), ← e1, ← e2] at hq
           exact ⟨(), by first | (rw [if_pos (by omega)] at hq; rw [← hq]; simp only [one]; congr 1; omega) | (rw [if_neg (by omega), if_pos (by omega)] at hq; rw [← hq]; rfl), F, trivial⟩)
        replace hc12 := bne_eq_false_iff_eq.1 ((irr_eq _).symm.trans hc12)
        refine l_op 0 rfl rfl rfl rfl rfl ?_
        refine l_cmp rfl rfl rfl rfl ?_
        refine l_op 2 rfl rfl rfl rfl rfl ?_
        refine l_nil (WK.nx ‹_› (SeqK.nx ‹_› ?_))
        refine l_cond rfl rfl (fun hc13 => ?_) (fun hc13 => ?_)
        · replace hc13 := eq_of_beq ((irr_eq _).symm.trans hc13)
          refine k_seq fun Q K => k_lin fun W K => ?_
          refine l_op 0 rfl rfl rfl rfl rfl ?_
          refine l_nil (WK.nx ‹_› (SeqK.nx ‹_› (k_ret (BlkK.rt ‹_› (SeqK.rt ‹_› ?_)))))
          refine LoopK.rt (by assumption) ?_
          refine BlkK.rt ‹_› (SeqK.rt ‹_› ?_)
          refine FunK.rt (by assumption) rfl ?_
          -- leaf 7
          (rw [pr_at (by omega), ← e1, ← e2] at hq
           exact ⟨(), by first | (rw [if_pos (by omega)] at hq; rw [← hq]; simp only [one]; congr 1; omega) | (rw [if_neg (by omega), if_pos (by omega)] at hq; rw [← hq]; rfl), F, trivial⟩)
        replace hc13 := ne_of_beq_false ((irr_eq _).symm.trans hc13)
        refine k_skip (BlkK.nx ‹_› (SeqK.nx ‹_› ?_))
        refine k_lin fun W K => ?_
        refine l_op 0 rfl rfl rfl rfl rfl ?_
        refine l_a64 rfl rfl rfl (by omega) rfl ?_
        refine l_op 0 rfl rfl rfl rfl rfl ?_
        refine l_nil (WK.nx ‹_› ?_)
        rw [pr_at (by omega), ← e1, ← e2] at hq
        rw [if_neg (by omega), if_neg (by omega)] at hq
        exact K0.nx (i + 1) (by repeat (first | exact trivial | refine And.intro rfl ?_)) ⟨F, by omega, by omega, hq⟩ (by omega)
      replace hc11 := bne_eq_false_iff_eq.1 ((irr_eq _).symm.trans hc11)
      iterate 2 refine l_s rfl rfl ?_
      refine l_op 2 rfl rfl rfl rfl rfl ?_
      iterate 2 refine l_op 0 rfl rfl rfl rfl rfl ?_
      refine l_cmp rfl rfl rfl rfl ?_
      refine l_op 2 rfl rfl rfl rfl rfl ?_
      refine l_nil (WK.nx ‹_› (SeqK.nx ‹_› ?_))
      refine l_cond rfl rfl (fun hc14 => ?_) (fun hc14 => ?_)
      · replace hc14 := eq_of_beq ((irr_eq _).symm.trans hc14)
        refine k_seq fun Q K => k_lin fun W K => ?_
        refine l_op 0 rfl rfl rfl rfl rfl ?_
        refine l_nil (WK.nx ‹_› (SeqK.nx ‹_› (k_ret (BlkK.rt ‹_› (SeqK.rt ‹_› ?_)))))
        refine LoopK.rt (by assumption) ?_
        refine BlkK.rt ‹_› (SeqK.rt ‹_› ?_)
        refine FunK.rt (by assumption) rfl ?_
        -- leaf 8
        (rw [pr_at (by omega), ← e1, ← e2] at hq
         exact ⟨(), by first | (rw [if_pos (by omega)] at hq; rw [← hq]; simp only [one]; congr 1; omega) | (rw [if_neg (by omega), if_pos (by omega)] at hq; rw [← hq]; rfl), F, trivial⟩)
      replace hc14 := ne_of_beq_false ((irr_eq _).symm.trans hc14)
      refine k_skip (BlkK.nx ‹_› (SeqK.nx ‹_› ?_))
      refine k_lin fun W K => ?_
      refine l_op 0 rfl rfl rfl rfl rfl ?_
      refine l_a64 rfl rfl rfl (by omega) rfl ?_
      refine l_op 0 rfl rfl rfl rfl rfl ?_
      refine l_nil (WK.nx ‹_› ?_)
      rw [pr_at (by omega), ← e1, ← e2] at hq
      rw [if_neg (by omega), if_neg (by omega)] at hq
      exact K0.nx (i + 1) (by repeat (first | exact trivial | refine And.intro rfl ?_)) ⟨F, by omega, by omega, hq⟩ (by omega)
    replace hc10 := bne_eq_false_iff_eq.1 ((irr_eq _).symm.trans hc10)
    iterate 2 refine l_s rfl rfl ?_
    refine l_op 2 rfl rfl rfl rfl rfl ?_
    refine l_op 0 rfl rfl rfl rfl rfl ?_
    iterate 2 refine l_s rfl rfl ?_
    refine l_op 2 rfl rfl rfl rfl rfl ?_
    iterate 2 refine l_op 0 rfl rfl rfl rfl rfl ?_
    refine l_cmp rfl rfl rfl rfl ?_
    refine l_op 2 rfl rfl rfl rfl rfl ?_
    refine l_nil (WK.nx ‹_› (SeqK.nx ‹_› ?_))
    refine l_cond rfl rfl (fun hc15 => ?_) (fun hc15 => ?_)
    · replace hc15 := eq_of_beq ((irr_eq _).symm.trans hc15)
      refine k_seq fun Q K => k_lin fun W K => ?_
      refine l_op 0 rfl rfl rfl rfl rfl ?_
      refine l_nil (WK.nx ‹_› (SeqK.nx ‹_› (k_ret (BlkK.rt ‹_› (SeqK.rt ‹_› ?_)))))
      refine LoopK.rt (by assumption) ?_
      refine BlkK.rt ‹_› (SeqK.rt ‹_› ?_)
      refine FunK.rt (by assumption) rfl ?_
      -- leaf 9
      (rw [pr_at (by omega), ← e1, ← e2] at hq
       exact ⟨(), by first | (rw [if_pos (by omega)] at hq; rw [← hq]; simp only [one]; congr 1; omega) | (rw [if_neg (by omega), if_pos (by omega)] at hq; rw [← hq]; rfl), F, trivial⟩)
    replace hc15 := ne_of_beq_false ((irr_eq _).symm.trans hc15)
    refine k_skip (BlkK.nx ‹_› (SeqK.nx ‹_› ?_))
    refine k_lin fun W K => ?_
    refine l_op 0 rfl rfl rfl rfl rfl ?_
    refine l_a64 rfl rfl rfl (by omega) rfl ?_
    refine l_op 0 rfl rfl rfl rfl rfl ?_
    refine l_nil (WK.nx ‹_› ?_)
    rw [pr_at (by omega), ← e1, ← e2] at hq
    rw [if_neg (by omega), if_neg (by omega)] at hq
    exact K0.nx (i + 1) (by repeat (first | exact trivial | refine And.intro rfl ?_)) ⟨F, by omega, by omega, hq⟩ (by omega)
  replace hc1 := of_decide_eq_false ((irr_eq _).symm.trans hc1)
  refine k_exit ?_
  refine SeqK.et (by assumption) ?_
  refine LoopK.et (by assumption) ?_
  refine BlkK.et (by assumption) ?_
  refine SeqK.nx ‹_› ?_
  refine k_seq fun Q K => k_lin fun W K => ?_
  refine l_op 0 rfl rfl rfl rfl rfl ?_
  refine l_nil (WK.nx ‹_› (SeqK.nx ‹_› (k_ret ?_)))
  refine FunK.rt (by assumption) rfl ?_
  -- leaf 10
  (rw [pr_end (by omega)] at hq; exact ⟨(), by rw [← hq]; rfl, F, trivial⟩)

/-- How many bytes so many pairs' locals have. -/
def tot (bs : List Int) : Nat → Int
  | 0 => 0
  | i + 1 => (tot bs i + bs.getD (2 * i) 0 - 1) / bs.getD (2 * i) 0 * bs.getD (2 * i) 0 + bs.getD (2 * i) 0 * bs.getD (2 * i + 1) 0
def Valid (bs : List Int) (l : Nat) : Prop := ∀ i : Int, 0 ≤ i → 2 * i + 3 < l → (bs.getD (2 * i).toNat 0 = 1 ∨ bs.getD (2 * i).toNat 0 = 2 ∨ bs.getD (2 * i).toNat 0 = 4) ∧ 1 ≤ bs.getD (2 * i + 1).toNat 0 ∧ bs.getD (2 * i + 1).toNat 0 ≤ 255
def T (bs : List Int) (i : Int) : Int := tot bs (i.toNat / 2)
theorem T_succ (bs : List Int) {i : Int} (h0 : 0 ≤ i) (h2 : i % 2 = 0) : T bs (i + 2) = (T bs i + bs.getD i.toNat 0 - 1) / bs.getD i.toNat 0 * bs.getD i.toNat 0 + bs.getD i.toNat 0 * bs.getD (i + 1).toNat 0 := by
  unfold T
  have e1 : (i + 2).toNat / 2 = i.toNat / 2 + 1 := by omega
  have e2 : 2 * (i.toNat / 2) = i.toNat := by omega
  have e3 : (i + 1).toNat = i.toNat + 1 := by omega
  rw [e1, tot, e2, e3]
theorem up_same {a n : Int} (hn : n = 1 ∨ n = 2 ∨ n = 4) (h : a % n = 0) : (a + n - 1) / n * n = a := by
  rcases hn with rfl | rfl | rfl <;> omega
theorem up_mod {a n : Int} (hn : n = 1 ∨ n = 2 ∨ n = 4) : ((a + n - 1) / n * n) % n = 0 := by
  rcases hn with rfl | rfl | rfl <;> omega
theorem up_le {a n : Int} (hn : n = 1 ∨ n = 2 ∨ n = 4) : a ≤ (a + n - 1) / n * n ∧ (a + n - 1) / n * n ≤ a + 3 := by
  rcases hn with rfl | rfl | rfl <;> omega

theorem pr_spec (bs : List Int) (n : Int) : ∀ (k i : Nat), bs.length - i ≤ k → pr i (bs.drop i) = n → n ≠ 0 → i % 2 = 0 → (i : Int) + 2 ≤ n ∧ n % 2 = 0 ∧ n ≤ bs.length ∧ ∀ j : Nat, i ≤ j → j % 2 = 0 → (j : Int) + 2 < n → (bs.getD j 0 = 1 ∨ bs.getD j 0 = 2 ∨ bs.getD j 0 = 4) ∧ bs.getD (j + 1) 0 ≠ 0 := by
  intro k
  induction k with
  | zero => intro i hk h hn; rw [pr_end (by omega)] at h; exact (hn h.symm).elim
  | succ k ih =>
    intro i hk h hn hi
    by_cases hl : i + 1 < bs.length
    · rw [pr_at hl] at h
      split at h
      · exact ⟨by omega, by omega, by omega, fun j h1 h2 h3 => by omega⟩
      · split at h
        · exact (hn h.symm).elim
        · rename_i h1 h2
          obtain ⟨a1, a2, a3, a4⟩ := ih (i + 2) (by omega) h hn (by omega)
          refine ⟨by omega, a2, a3, fun j j1 j2 j3 => ?_⟩
          by_cases hj : j = i
          · subst hj; exact ⟨by omega, by omega⟩
          · exact a4 j (by omega) j2 j3
    · rw [pr_end (by omega)] at h; exact (hn h.symm).elim

theorem no_call {σ : AState} {x y : Int} : SCall Tryz.prog E0 161 [.int .i64 x, .int .i64 y] σ (Ret E0 σ (fun (_ : Unit) => .bool false) (fun _ => []) fun _ => True) := by
  refine k_fun Tryz.func161 rfl (m := 5) rfl fun B hD Q K => ?_
  have F := Facts.nil E0 σ
  refine k_seq fun Q K => k_lin fun W K => ?_
  refine l_op 0 rfl rfl rfl rfl rfl ?_
  refine l_nil (WK.nx ‹_› (SeqK.nx ‹_› ?_))
  refine k_seq fun Q K => k_lin fun W K => ?_
  refine l_op 0 rfl rfl rfl rfl rfl ?_
  refine l_nil (WK.nx ‹_› (SeqK.nx ‹_› (k_ret ?_)))
  refine FunK.rt (by assumption) rfl ?_
  -- leaf 1
  exact ⟨(), rfl, F, trivial⟩

theorem each_call {σ : AState} {a : Option Addr} {l c : Nat} {bs : List Int} (h : Old E0 σ a l c 1 (u8l bs)) (hl : l ≤ 20000) (hev : l % 2 = 0) (hv : ∀ i : Int, 0 ≤ i → i % 2 = 0 → i + 3 < l → (bs.getD i.toNat 0 = 1 ∨ bs.getD i.toNat 0 = 2 ∨ bs.getD i.toNat 0 = 4) ∧ 1 ≤ bs.getD (i + 1).toNat 0 ∧ bs.getD (i + 1).toNat 0 ≤ 255) :
    SCall Tryz.prog E0 160 [.slice a l c, .func (.func 161) #[] #[]] σ (Ret E0 σ (fun (y : Unit) => .int .i64 ((T bs (l - 2) + 3) / 4 * 4)) (fun y => []) fun _ => True) := by
  have hbl := h.len8
  refine k_fun Tryz.func160 rfl (m := 49) rfl fun B hD Q K => ?_
  have F := Facts.nil E0 σ
  refine k_seq fun Q K => k_lin fun W K => ?_
  refine l_op 0 rfl rfl rfl rfl rfl ?_
  refine l_nil (WK.nx ‹_› (SeqK.nx ‹_› ?_))
  refine k_seq fun Q K => k_lin fun W K => ?_
  refine l_op 0 rfl rfl rfl rfl rfl ?_
  refine l_nil (WK.nx ‹_› (SeqK.nx ‹_› ?_))
  refine k_seq fun Q K => k_lin fun W K => ?_
  refine l_op 0 rfl rfl rfl rfl rfl ?_
  refine l_nil (WK.nx ‹_› (SeqK.nx ‹_› ?_))
  refine k_seq fun Q K => k_seq fun Q K => k_lin fun W K => ?_
  refine l_op 0 rfl rfl rfl rfl rfl ?_
  refine l_nil (WK.nx ‹_› (SeqK.nx ‹_› ?_))
  refine k_block fun Q K => ?_
  refine k_loop (α := Int × Int × Bool) (fun ⟨i, at_, mo⟩ s => Facts E0 σ s [] ∧ 0 ≤ i ∧ i % 2 = 0 ∧ (i = 0 ∨ i + 2 ≤ l) ∧ at_ = T bs i ∧ 0 ≤ at_ ∧ at_ ≤ 600 * i) (fun ⟨i, at_, mo⟩ => [(0, .slice a l c), (1, .func (.func 161) #[] #[]), (5, .int .i64 at_), (6, .bool mo), (7, .int .i64 i)]) (fun ⟨i, _⟩ => (l - i).toNat) (0, 0, true) ⟨F, by omega, by omega, by omega, rfl, by omega, by omega⟩ (by repeat (first | exact trivial | refine And.intro rfl ?_)) ?_
  clear F
  rintro ⟨i, at_, mo⟩ env s Q K0 ⟨F, h0, h2, hi, hat, h3, h4⟩
  refine k_seq fun Q K => k_seq fun Q K => k_lin fun W K => ?_
  refine l_op 0 rfl rfl rfl rfl rfl ?_
  refine l_a64 rfl rfl rfl (by omega) rfl ?_
  refine l_op 0 rfl rfl rfl rfl rfl ?_
  refine l_op 2 rfl rfl rfl rfl rfl ?_
  refine l_cmp rfl rfl rfl rfl ?_
  refine l_nil (WK.nx ‹_› (SeqK.nx ‹_› ?_))
  refine l_cond rfl rfl (fun hc1 => ?_) (fun hc1 => ?_)
  · replace hc1 := of_decide_eq_true ((irr_eq _).symm.trans hc1)
    obtain ⟨hn, hk1, hk2⟩ := hv i h0 h2 (by omega)
    have hT := T_succ bs h0 h2
    have hup2 := up_le (a := at_) hn
    refine k_skip (SeqK.nx ‹_› ?_)
    refine k_seq fun Q K => k_block fun Q K => k_seq fun Q K => k_lin fun W K => ?_
    iterate 2 refine l_op 0 rfl rfl rfl rfl rfl ?_
    first | refine l_ixi rfl rfl rfl rfl rfl rfl (F.old (by assumption)) (by omega) (fun m18 b18 hA18 => ?_) | (refine l_ixoi F 0 rfl rfl rfl rfl rfl rfl rfl (by omega) (fun m e ha hA18 => ?_); cases ha) | (refine l_ixoi F 1 rfl rfl rfl rfl rfl rfl rfl (by omega) (fun m e ha hA18 => ?_); cases ha) | (refine l_ixoi F 2 rfl rfl rfl rfl rfl rfl rfl (by omega) (fun m e ha hA18 => ?_); cases ha) | (refine l_ixoi F 3 rfl rfl rfl rfl rfl rfl rfl (by omega) (fun m e ha hA18 => ?_); cases ha)
    refine l_ld0 rfl rfl rfl rfl rfl (by assumption) ?_
    refine l_c64 rfl rfl rfl (by omega) rfl ?_
    refine l_op 0 rfl rfl rfl rfl rfl ?_
    refine l_nil (WK.nx ‹_› (SeqK.nx ‹_› ?_))
    refine k_seq fun Q K => k_lin fun W K => ?_
    iterate 2 refine l_op 0 rfl rfl rfl rfl rfl ?_
    iterate 2 refine l_a64 rfl rfl rfl (by omega) rfl ?_
    refine l_op 0 rfl rfl rfl rfl rfl ?_
    refine l_quon rfl rfl rfl rfl rfl (by omega) rfl ?_
    refine l_op 0 rfl rfl rfl rfl rfl ?_
    refine l_a64 rfl rfl rfl (by omega) rfl ?_
    refine l_op 0 rfl rfl rfl rfl rfl ?_
    refine l_nil (WK.nx ‹_› (SeqK.nx ‹_› ?_))
    refine k_seq fun Q K => k_lin fun W K => ?_
    iterate 2 refine l_op 0 rfl rfl rfl rfl rfl ?_
    refine l_a64 rfl rfl rfl (by omega) rfl ?_
    first | refine l_ixi rfl rfl rfl rfl rfl rfl (F.old (by assumption)) (by omega) (fun m32 b32 hA32 => ?_) | (refine l_ixoi F 0 rfl rfl rfl rfl rfl rfl rfl (by omega) (fun m e ha hA32 => ?_); cases ha) | (refine l_ixoi F 1 rfl rfl rfl rfl rfl rfl rfl (by omega) (fun m e ha hA32 => ?_); cases ha) | (refine l_ixoi F 2 rfl rfl rfl rfl rfl rfl rfl (by omega) (fun m e ha hA32 => ?_); cases ha) | (refine l_ixoi F 3 rfl rfl rfl rfl rfl rfl rfl (by omega) (fun m e ha hA32 => ?_); cases ha)
    refine l_ld0 rfl rfl rfl rfl rfl (by assumption) ?_
    refine l_op 0 rfl rfl rfl rfl rfl ?_
    refine l_nil (WK.nx ‹_› (SeqK.nx ‹_› ?_))
    refine k_block fun Q K => ?_
    refine k_loop (α := Int × Int × Bool) (fun ⟨j, a2, mo⟩ s => Facts E0 σ s [] ∧ 0 ≤ j ∧ j ≤ bs.getD (i + 1).toNat 0 ∧ a2 = (at_ + bs.getD i.toNat 0 - 1) / bs.getD i.toNat 0 * bs.getD i.toNat 0 + bs.getD i.toNat 0 * j ∧ 0 ≤ a2 ∧ a2 ≤ at_ + 3 + 4 * j) (fun ⟨j, a2, mo⟩ => [(0, .slice a l c), (1, .func (.func 161) #[] #[]), (5, .int .i64 a2), (6, .bool mo), (7, .int .i64 i), (8, .int .i64 (bs.getD i.toNat 0)), (33, .int .u8 (bs.getD (i + 1).toNat 0)), (34, .int .u8 j)]) (fun ⟨j, _⟩ => (bs.getD (i + 1).toNat 0 - j).toNat) (0, _, mo) ⟨F, by omega, by omega, by rw [Int.mul_zero, Int.add_zero], by omega, by omega⟩ (by repeat (first | exact trivial | refine And.intro rfl ?_)) ?_
    clear F
    rintro ⟨j, a2, mo⟩ env s Q K1 ⟨F, j0, jm, ja, ja0, ja1⟩
    refine k_seq fun Q K => k_lin fun W K => ?_
    refine l_cmp rfl rfl rfl rfl ?_
    refine l_nil (WK.nx ‹_› (SeqK.nx ‹_› ?_))
    refine k_seq fun Q K => ?_
    refine l_cond rfl rfl (fun hc2 => ?_) (fun hc2 => ?_)
    · replace hc2 := of_decide_eq_true ((irr_eq _).symm.trans hc2)
      refine k_skip (SeqK.nx ‹_› ?_)
      refine k_seq fun Q K => k_block fun Q K => k_seq fun Q K => k_lin fun W K => ?_
      iterate 2 refine l_op 0 rfl rfl rfl rfl rfl ?_
      refine l_guard rfl rfl rfl (fun hc3 => ?_) (fun hc3 => ?_)
      · try simp only [i_1, i_2, i_3, i_4, i_5, ne_eq, i_6, i_7, i_8, i_9] at hc3
        iterate 3 refine l_op 0 rfl rfl rfl rfl rfl ?_
        refine l_callp F rfl rfl (by kernel_rfl) rfl rfl no_call (fun _ s F _ => ?_)
        (try dsimp only [n_1, n_2, n_3, n_4, List.append_nil, pk, n_5, n_6] at F)
        refine l_op 2 rfl rfl rfl rfl rfl ?_
        refine l_op 0 rfl rfl rfl rfl rfl ?_
        refine l_nil (WK.nx ‹_› (SeqK.nx ‹_› ?_))
        refine k_lin fun W K => ?_
        iterate 2 refine l_op 0 rfl rfl rfl rfl rfl ?_
        refine l_a64 rfl rfl rfl (by omega) rfl ?_
        refine l_op 0 rfl rfl rfl rfl rfl ?_
        refine l_nil (WK.nx ‹_› (BlkK.nx ‹_› (SeqK.nx ‹_› ?_)))
        refine k_lin fun W K => ?_
        refine l_a8 rfl rfl rfl (by omega) rfl ?_
        refine l_op 0 rfl rfl rfl rfl rfl ?_
        refine l_nil (WK.nx ‹_› ?_)
        have hm1 : (bs.getD i.toNat 0) * (j + 1) = (bs.getD i.toNat 0) * j + bs.getD i.toNat 0 := by rw [Int.mul_add, Int.mul_one]
        exact K1.nx (j + 1, _, false) (by repeat (first | exact trivial | refine And.intro rfl ?_)) ⟨F, by omega, by omega, by omega, by omega, by omega⟩ (by first | omega | (simp only; omega))
      try simp only [i_1, i_2, i_3, i_4, i_5, ne_eq, i_6, i_7, i_8, i_9] at hc3
      iterate 4 refine l_s rfl rfl ?_
      refine l_op 2 rfl rfl rfl rfl rfl ?_
      refine l_op 0 rfl rfl rfl rfl rfl ?_
      refine l_nil (WK.nx ‹_› (SeqK.nx ‹_› ?_))
      refine k_lin fun W K => ?_
      iterate 2 refine l_op 0 rfl rfl rfl rfl rfl ?_
      refine l_a64 rfl rfl rfl (by omega) rfl ?_
      refine l_op 0 rfl rfl rfl rfl rfl ?_
      refine l_nil (WK.nx ‹_› (BlkK.nx ‹_› (SeqK.nx ‹_› ?_)))
      refine k_lin fun W K => ?_
      refine l_a8 rfl rfl rfl (by omega) rfl ?_
      refine l_op 0 rfl rfl rfl rfl rfl ?_
      refine l_nil (WK.nx ‹_› ?_)
      have hm1 : (bs.getD i.toNat 0) * (j + 1) = (bs.getD i.toNat 0) * j + bs.getD i.toNat 0 := by rw [Int.mul_add, Int.mul_one]
      exact K1.nx (j + 1, _, false) (by repeat (first | exact trivial | refine And.intro rfl ?_)) ⟨F, by omega, by omega, by omega, by omega, by omega⟩ (by first | omega | (simp only; omega))
    replace hc2 := of_decide_eq_false ((irr_eq _).symm.trans hc2)
    have hj : j = bs.getD (i + 1).toNat 0 := by omega
    refine k_exit ?_
    refine SeqK.et (by assumption) ?_
    refine LoopK.et (by assumption) ?_
    refine BlkK.et (by assumption) ?_
    refine BlkK.nx ‹_› (SeqK.nx ‹_› ?_)
    refine k_lin fun W K => ?_
    refine l_op 0 rfl rfl rfl rfl rfl ?_
    refine l_a64 rfl rfl rfl (by omega) rfl ?_
    refine l_op 0 rfl rfl rfl rfl rfl ?_
    refine l_nil (WK.nx ‹_› ?_)
    have : a2 = T bs (i + 2) := by rw [hT, ← hat, ja, hj]
    exact K0.nx (i + 2, a2, mo) (by repeat (first | exact trivial | refine And.intro rfl ?_)) ⟨F, by omega, by omega, by omega, this, by omega, by omega⟩ (by first | omega | (simp only; omega))
  replace hc1 := of_decide_eq_false ((irr_eq _).symm.trans hc1)
  refine k_exit ?_
  refine SeqK.et (by assumption) ?_
  refine LoopK.et (by assumption) ?_
  refine BlkK.et (by assumption) ?_
  refine SeqK.nx ‹_› ?_
  refine k_seq fun Q K => k_lin fun W K => ?_
  refine l_op 0 rfl rfl rfl rfl rfl ?_
  refine l_callp F rfl rfl (by kernel_rfl) rfl rfl (four_call (by omega) (by omega)) (fun _ s F _ => ?_)
  (try dsimp only [n_1, n_2, n_3, n_4, List.append_nil, pk, n_5, n_6] at F)
  refine l_op 0 rfl rfl rfl rfl rfl ?_
  refine l_nil (WK.nx ‹_› (SeqK.nx ‹_› (k_ret ?_)))
  refine FunK.rt (by assumption) rfl ?_
  -- leaf 1
  have hT2 : T bs (l - 2) = at_ := by
    rw [hat]
    rcases hi with rfl | hi
    · have : ((l : Int) - 2).toNat / 2 = 0 := by omega
      unfold T; rw [this]; rfl
    · congr 1; omega
  refine ⟨(), ?_, F, trivial⟩
  rw [hT2]; rfl

def locR (bs : List Int) : Int × Int × Int := if pr 0 bs = 0 ∨ pr 0 bs ≠ bs.length then (0, 0, 102) else (8 + ((bs.length : Int) + 3) / 4 * 4, (T bs (bs.length - 2) + 3) / 4 * 4, 0)
abbrev locV (bs : List Int) : Value := .tuple #[.int .i64 (locR bs).1, .int .i64 (locR bs).2.1, .int .i64 (locR bs).2.2]
theorem locV_bad {bs : List Int} (h : pr 0 bs = 0 ∨ pr 0 bs ≠ bs.length) : locV bs = .tuple #[.int .i64 0, .int .i64 0, .int .i64 102] := by
  have hr : locR bs = (0, 0, 102) := if_pos h
  unfold locV; rw [hr]
theorem locV_ok {bs : List Int} (h : ¬ (pr 0 bs = 0 ∨ pr 0 bs ≠ bs.length)) : locV bs = .tuple #[.int .i64 (8 + ((bs.length : Int) + 3) / 4 * 4), .int .i64 ((T bs (bs.length - 2) + 3) / 4 * 4), .int .i64 0] := by
  have hr : locR bs = (8 + ((bs.length : Int) + 3) / 4 * 4, (T bs (bs.length - 2) + 3) / 4 * 4, 0) := if_neg h
  unfold locV; rw [hr]
theorem fmt_valid {bs : List Int} (hB : Bytes bs) (h1 : pr 0 bs ≠ 0) (h2 : pr 0 bs = bs.length) : bs.length % 2 = 0 ∧ 2 ≤ bs.length ∧ ∀ i : Int, 0 ≤ i → i % 2 = 0 → i + 3 < bs.length → (bs.getD i.toNat 0 = 1 ∨ bs.getD i.toNat 0 = 2 ∨ bs.getD i.toNat 0 = 4) ∧ 1 ≤ bs.getD (i + 1).toNat 0 ∧ bs.getD (i + 1).toNat 0 ≤ 255 := by
  obtain ⟨a1, a2, a3, a4⟩ := pr_spec bs _ bs.length 0 (by omega) (by rw [List.drop_zero]) h1 (by omega)
  refine ⟨by omega, by omega, fun i i0 i2 i3 => ?_⟩
  obtain ⟨b1, b2⟩ := a4 i.toNat (by omega) (by omega) (by omega)
  have e : (i + 1).toNat = i.toNat + 1 := by omega
  have := hB.at (i.toNat + 1)
  rw [e]
  exact ⟨b1, by omega, by omega⟩

theorem locals_call {σ : AState} {a : Option Addr} {l c : Nat} {bs : List Int} (h : Old E0 σ a l c 1 (u8l bs)) (hB : Bytes bs) (hl : l ≤ 20000) :
    SCall Tryz.prog E0 108 [.slice a l c] σ (Ret E0 σ (fun (y : Unit) => locV bs) (fun y => []) fun _ => True) := by
  have hbl := h.len8
  refine k_fun Tryz.func108 rfl (m := 22) rfl fun B hD Q K => ?_
  have F := Facts.nil E0 σ
  refine k_seq fun Q K => k_lin fun W K => ?_
  iterate 3 refine l_op 0 rfl rfl rfl rfl rfl ?_
  refine l_nil (WK.nx ‹_› (SeqK.nx ‹_› ?_))
  refine k_seq fun Q K => k_seq fun Q K => k_lin fun W K => ?_
  refine l_op 0 rfl rfl rfl rfl rfl ?_
  refine l_callp F rfl rfl (by kernel_rfl) rfl rfl (pairs_call (Old.pure (F.old h)) (by omega)) (fun _ s F _ => ?_)
  (try dsimp only [n_1, n_2, n_3, n_4, List.append_nil, pk, n_5, n_6] at F)
  refine l_op 0 rfl rfl rfl rfl rfl ?_
  refine l_nil (WK.nx ‹_› (SeqK.nx ‹_› ?_))
  refine k_seq fun Q K => k_lin fun W K => ?_
  refine l_op 0 rfl rfl rfl rfl rfl ?_
  refine l_cmp rfl rfl rfl rfl ?_
  refine l_op 0 rfl rfl rfl rfl rfl ?_
  refine l_guard rfl rfl rfl (fun hc1 => ?_) (fun hc1 => ?_)
  · replace hc1 := eq_of_beq ((irr_eq _).symm.trans hc1)
    iterate 4 refine l_s rfl rfl ?_
    refine l_op 2 rfl rfl rfl rfl rfl ?_
    refine l_nil (WK.nx ‹_› (SeqK.nx ‹_› ?_))
    refine e_cond_t rfl rfl rfl ?_
    refine k_seq fun Q K => k_lin fun W K => ?_
    iterate 3 refine l_op 0 rfl rfl rfl rfl rfl ?_
    refine l_nil (WK.nx ‹_› (SeqK.nx ‹_› (k_ret (SeqK.rt ‹_› ?_))))
    refine FunK.rt (by assumption) rfl ?_
    -- leaf 1
    refine ⟨(), ?_, F, trivial⟩
    exact (locV_bad (by omega)).symm
  replace hc1 := ne_of_beq_false ((irr_eq _).symm.trans hc1)
  iterate 2 refine l_op 0 rfl rfl rfl rfl rfl ?_
  refine l_op 2 rfl rfl rfl rfl rfl ?_
  refine l_cmp rfl rfl rfl rfl ?_
  refine l_op 2 rfl rfl rfl rfl rfl ?_
  refine l_nil (WK.nx ‹_› (SeqK.nx ‹_› ?_))
  refine l_cond rfl rfl (fun hc2 => ?_) (fun hc2 => ?_)
  · replace hc2 := bne_iff_ne.1 ((irr_eq _).symm.trans hc2)
    refine k_seq fun Q K => k_lin fun W K => ?_
    iterate 3 refine l_op 0 rfl rfl rfl rfl rfl ?_
    refine l_nil (WK.nx ‹_› (SeqK.nx ‹_› (k_ret (SeqK.rt ‹_› ?_))))
    refine FunK.rt (by assumption) rfl ?_
    -- leaf 2
    refine ⟨(), ?_, F, trivial⟩
    exact (locV_bad (by omega)).symm
  replace hc2 := bne_eq_false_iff_eq.1 ((irr_eq _).symm.trans hc2)
  obtain ⟨hev, h2l, hv⟩ := fmt_valid hB (by omega) (by omega)
  have hv' : ∀ i : Int, 0 ≤ i → i % 2 = 0 → i + 3 < l → _ := fun i a b c => hv i a b (by omega)
  refine k_skip (SeqK.nx ‹_› ?_)
  refine k_seq fun Q K => k_lin fun W K => ?_
  refine l_op 0 rfl rfl rfl rfl rfl ?_
  refine l_op 2 rfl rfl rfl rfl rfl ?_
  refine l_callp F rfl rfl (by kernel_rfl) rfl rfl (four_call (by omega) (by omega)) (fun _ s F _ => ?_)
  (try dsimp only [n_1, n_2, n_3, n_4, List.append_nil, pk, n_5, n_6] at F)
  refine l_a64 rfl rfl rfl (by omega) rfl ?_
  refine l_op 0 rfl rfl rfl rfl rfl ?_
  refine l_callp F rfl rfl (by kernel_rfl) rfl rfl (each_call (Old.pure (F.old h)) (by omega) (by omega) hv') (fun _ s F _ => ?_)
  (try dsimp only [n_1, n_2, n_3, n_4, List.append_nil, pk, n_5, n_6] at F)
  iterate 3 refine l_op 0 rfl rfl rfl rfl rfl ?_
  refine l_nil (WK.nx ‹_› (SeqK.nx ‹_› (k_ret ?_)))
  refine FunK.rt (by assumption) rfl ?_
  -- leaf 3
  refine ⟨(), ?_, F, trivial⟩
  (refine Eq.trans ?_ (locV_ok (by omega)).symm; rw [hbl]; rfl)

end Go.Proofs.YtocfmecenpeoiaaGreat.Stk
