/- How a function begins by the document, and the law of it. No statement of the seat is proved in this text. -/
import Derived.Test.YtkemnodaadlonaaHeads
import Derived.Test.YtkemnodaadlonaaLive
set_option linter.unusedVariables false
set_option linter.unusedSimpArgs false
set_option maxRecDepth 100000
set_option maxHeartbeats 4000000
namespace Go.Proofs.Ytkemnodaadlonaa
open GAb Go

theorem there_call {σ : AState} {a : Option Addr} {l c : Nat} {at_ n : Int} (h0 : 0 ≤ at_) (hl : l ≤ 1000000000) :
    SCall Try.prog E0 40 [.slice a l c, .int .i64 at_, .int .i64 n] σ (Ret E0 σ (fun (y : Bool) => .bool (irr y)) (fun _ => []) fun y => y = true ↔ (at_ ≤ l ∧ at_ + n ≤ l)) := by
  refine k_fun Try.func40 rfl (m := 19) rfl fun B hD Q K => ?_
  have F := Facts.nil E0 σ
  refine k_seq (fun Q K => ?_)
  refine k_lin (fun W K => ?_)
  refine l_op 0 rfl rfl rfl rfl rfl ?_
  refine l_nil (WK.nx (by assumption) ?_)
  refine SeqK.nx (by assumption) ?_
  refine k_seq (fun Q K => ?_)
  refine k_lin (fun W K => ?_)
  refine l_op 0 rfl rfl rfl rfl rfl ?_
  refine l_op 0 rfl rfl rfl rfl rfl ?_
  first | refine l_op 2 rfl rfl rfl rfl rfl ?_ | refine l_ln rfl rfl rfl rfl ?_
  refine l_cmp rfl rfl rfl rfl ?_
  refine l_op 0 rfl rfl rfl rfl rfl ?_
  refine l_guard rfl rfl rfl (fun hc1 => ?_) (fun hc1 => ?_)
  · replace hc1 := of_decide_eq_true ((irr_eq _).symm.trans hc1)
    refine l_op 0 rfl rfl rfl rfl rfl ?_
    first | refine l_op 2 rfl rfl rfl rfl rfl ?_ | refine l_ln rfl rfl rfl rfl ?_
    refine l_op 0 rfl rfl rfl rfl rfl ?_
    first | refine l_a64 rfl rfl rfl (by omega) rfl ?_ | refine l_a32 rfl rfl rfl (by omega) rfl ?_ | refine l_a8 rfl rfl rfl (by omega) rfl ?_ | refine l_au64 rfl rfl rfl (by omega) rfl ?_ | refine l_op 1 rfl rfl rfl rfl rfl ?_
    refine l_op 0 rfl rfl rfl rfl rfl ?_
    refine l_cmp rfl rfl rfl rfl ?_
    refine l_op 2 rfl rfl rfl rfl rfl ?_
    refine l_op 0 rfl rfl rfl rfl rfl ?_
    refine l_nil (WK.nx (by assumption) ?_)
    refine SeqK.nx (by assumption) ?_
    refine k_ret ?_
    refine FunK.rt (by assumption) rfl ?_
    -- leaf 1
    first
      | exact ⟨false, irr_f, F, ⟨fun h => (by cases h), fun h => by omega⟩⟩
      | exact ⟨_, rfl, F, by show decide _ = true ↔ _; rw [decide_eq_true_eq]; omega⟩
  · replace hc1 := of_decide_eq_false ((irr_eq _).symm.trans hc1)
    refine l_s rfl rfl ?_
    refine l_s rfl rfl ?_
    refine l_s rfl rfl ?_
    refine l_s rfl rfl ?_
    refine l_s rfl rfl ?_
    refine l_s rfl rfl ?_
    refine l_op 2 rfl rfl rfl rfl rfl ?_
    refine l_op 0 rfl rfl rfl rfl rfl ?_
    refine l_nil (WK.nx (by assumption) ?_)
    refine SeqK.nx (by assumption) ?_
    refine k_ret ?_
    refine FunK.rt (by assumption) rfl ?_
    -- leaf 2
    first
      | exact ⟨false, irr_f, F, ⟨fun h => (by cases h), fun h => by omega⟩⟩
      | exact ⟨_, rfl, F, by show decide _ = true ↔ _; rw [decide_eq_true_eq]; omega⟩

theorem rhead_call {σ : AState} {a : Option Addr} {l c : Nat} {bs : List Int} {at_ : Int} (h : Old E0 σ a l c 1 (u8l bs)) (hB : Bytes bs) (hl : l ≤ 20000) :
    SCall Try.prog E0 20 [.slice a l c, .int .i64 at_] σ (Ret E0 σ (headV (headR bs at_)) (fun y => [own y.1 (headR bs at_).2.1.length y.2 1 (u8l (headR bs at_).2.1)]) fun _ => True) := by
  have hbl := h.len8
  refine k_fun Try.func20 rfl (m := 51) rfl fun B hD Q K => ?_
  have F := (Facts.nil E0 σ).nilrow 1
  refine k_seq (fun Q K => ?_)
  refine k_lin (fun W K => ?_)
  refine l_op 0 rfl rfl rfl rfl rfl ?_
  refine l_op 0 rfl rfl rfl rfl rfl ?_
  refine l_op 0 rfl rfl rfl rfl rfl ?_
  refine l_op 0 rfl rfl rfl rfl rfl ?_
  refine l_nil (WK.nx (by assumption) ?_)
  refine SeqK.nx (by assumption) ?_
  refine k_seq (fun Q K => ?_)
  refine k_seq (fun Q K => ?_)
  refine k_lin (fun W K => ?_)
  refine l_op 0 rfl rfl rfl rfl rfl ?_
  refine l_cmp rfl rfl rfl rfl ?_
  refine l_nil (WK.nx (by assumption) ?_)
  refine SeqK.nx (by assumption) ?_
  refine l_cond rfl rfl (fun hc1 => ?_) (fun hc1 => ?_)
  · replace hc1 := of_decide_eq_true ((irr_eq _).symm.trans hc1)
    refine k_seq (fun Q K => ?_)
    refine k_lin (fun W K => ?_)
    refine l_op 0 rfl rfl rfl rfl rfl ?_
    refine l_op 0 rfl rfl rfl rfl rfl ?_
    refine l_op 0 rfl rfl rfl rfl rfl ?_
    refine l_op 0 rfl rfl rfl rfl rfl ?_
    refine l_nil (WK.nx (by assumption) ?_)
    refine SeqK.nx (by assumption) ?_
    refine k_ret ?_
    refine SeqK.rt (by assumption) ?_
    refine FunK.rt (by assumption) rfl ?_
    -- leaf 1
    first
      | (have hr : headR bs at_ = (0, [], 0, 1) := if_pos (by omega)
         rw [hr]; exact ⟨(none, 0), rfl, F.pick [0] (by decide), trivial⟩)
      | (have hr : headR bs at_ = (0, [], 0, 90) := by
           have : ¬ (at_ ≤ l ∧ at_ + 1 ≤ l) := fun h => by have := hy.2 h; simp_all
           unfold headR; rw [if_neg (by omega), if_pos (by omega)]
         rw [hr]; exact ⟨(none, 0), rfl, F.pick [0] (by decide), trivial⟩)
      | (have hr : headR bs at_ = (0, [], 0, 112) := by
           unfold headR; rw [if_neg (by omega), if_neg (by omega), if_pos (by omega)]
         rw [hr]; exact ⟨(none, 0), rfl, F.pick [0] (by decide), trivial⟩)
      | (have hr : headR bs at_ = (0, [], 0, 112) := by
           unfold headR; rw [if_neg (by omega), if_neg (by omega), if_neg (by omega), if_pos (by assumption)]
         rw [hr]; exact ⟨(none, 0), rfl, F.pick [0] (by decide), trivial⟩)
      | (have e3 : (at_ + 1 + pr 0 (bs.drop (at_ + 1).toNat)).toNat - (at_ + 1).toNat = (pr 0 (bs.drop (at_ + 1).toNat)).toNat := by omega
         have hr : headR bs at_ = (bs.getD at_.toNat 0, (bs.drop (at_ + 1).toNat).take (pr 0 (bs.drop (at_ + 1).toNat)).toNat, 1 + pr 0 (bs.drop (at_ + 1).toNat), 0) := by
           unfold headR; rw [if_neg (by omega), if_neg (by omega), if_neg (by omega), if_neg (by assumption)]
         have hl' : ((bs.drop (at_ + 1).toNat).take (pr 0 (bs.drop (at_ + 1).toNat)).toNat).length = (pr 0 (bs.drop (at_ + 1).toNat)).toNat := by rw [List.length_take, List.length_drop]; omega
         have F' := F.pick [1] (by decide)
         rw [e3, Nat.zero_add] at F' ⊢
         rw [hr]
         refine ⟨(x2, c2), ?_, ?_, trivial⟩
         · show _ = Value.tuple #[.int .i64 _, .slice x2 (List.length _) c2, _, _]
           rw [hl']; rfl
         · show Facts _ _ _ [own x2 (List.length _) c2 1 _]
           rw [hl']
           exact F')
  · replace hc1 := of_decide_eq_false ((irr_eq _).symm.trans hc1)
    refine k_skip ?_
    refine SeqK.nx (by assumption) ?_
    refine k_seq (fun Q K => ?_)
    refine k_seq (fun Q K => ?_)
    refine k_lin (fun W K => ?_)
    refine l_op 0 rfl rfl rfl rfl rfl ?_
    refine l_op 0 rfl rfl rfl rfl rfl ?_
    refine l_callp F rfl rfl (by kernel_rfl) rfl rfl (there_call (by omega) (by omega)) (fun y s F hy => ?_)
    (try dsimp only [List.set_cons_zero, List.set_cons_succ, List.cons_append, List.nil_append, List.append_nil, pk, List.getElem?_cons_zero, List.getElem?_cons_succ] at F)
    refine l_op 2 rfl rfl rfl rfl rfl ?_
    refine l_nil (WK.nx (by assumption) ?_)
    refine SeqK.nx (by assumption) ?_
    refine l_cond rfl rfl (fun hc2 => ?_) (fun hc2 => ?_)
    · try simp only [irr_eq, beq_iff_eq, bne_iff_ne, beq_eq_false_iff_ne, bne_eq_false_iff_eq, ne_eq, decide_eq_true_eq, decide_eq_false_iff_not, Bool.not_eq_true', Bool.not_eq_false'] at hc2
      refine k_seq (fun Q K => ?_)
      refine k_lin (fun W K => ?_)
      refine l_op 0 rfl rfl rfl rfl rfl ?_
      refine l_op 0 rfl rfl rfl rfl rfl ?_
      refine l_op 0 rfl rfl rfl rfl rfl ?_
      refine l_op 0 rfl rfl rfl rfl rfl ?_
      refine l_nil (WK.nx (by assumption) ?_)
      refine SeqK.nx (by assumption) ?_
      refine k_ret ?_
      refine SeqK.rt (by assumption) ?_
      refine FunK.rt (by assumption) rfl ?_
      -- leaf 2
      first
        | (have hr : headR bs at_ = (0, [], 0, 1) := if_pos (by omega)
           rw [hr]; exact ⟨(none, 0), rfl, F.pick [0] (by decide), trivial⟩)
        | (have hr : headR bs at_ = (0, [], 0, 90) := by
             have : ¬ (at_ ≤ l ∧ at_ + 1 ≤ l) := fun h => by have := hy.2 h; simp_all
             unfold headR; rw [if_neg (by omega), if_pos (by omega)]
           rw [hr]; exact ⟨(none, 0), rfl, F.pick [0] (by decide), trivial⟩)
        | (have hr : headR bs at_ = (0, [], 0, 112) := by
             unfold headR; rw [if_neg (by omega), if_neg (by omega), if_pos (by omega)]
           rw [hr]; exact ⟨(none, 0), rfl, F.pick [0] (by decide), trivial⟩)
        | (have hr : headR bs at_ = (0, [], 0, 112) := by
             unfold headR; rw [if_neg (by omega), if_neg (by omega), if_neg (by omega), if_pos (by assumption)]
           rw [hr]; exact ⟨(none, 0), rfl, F.pick [0] (by decide), trivial⟩)
        | (have e3 : (at_ + 1 + pr 0 (bs.drop (at_ + 1).toNat)).toNat - (at_ + 1).toNat = (pr 0 (bs.drop (at_ + 1).toNat)).toNat := by omega
           have hr : headR bs at_ = (bs.getD at_.toNat 0, (bs.drop (at_ + 1).toNat).take (pr 0 (bs.drop (at_ + 1).toNat)).toNat, 1 + pr 0 (bs.drop (at_ + 1).toNat), 0) := by
             unfold headR; rw [if_neg (by omega), if_neg (by omega), if_neg (by omega), if_neg (by assumption)]
           have hl' : ((bs.drop (at_ + 1).toNat).take (pr 0 (bs.drop (at_ + 1).toNat)).toNat).length = (pr 0 (bs.drop (at_ + 1).toNat)).toNat := by rw [List.length_take, List.length_drop]; omega
           have F' := F.pick [1] (by decide)
           rw [e3, Nat.zero_add] at F' ⊢
           rw [hr]
           refine ⟨(x2, c2), ?_, ?_, trivial⟩
           · show _ = Value.tuple #[.int .i64 _, .slice x2 (List.length _) c2, _, _]
             rw [hl']; rfl
           · show Facts _ _ _ [own x2 (List.length _) c2 1 _]
             rw [hl']
             exact F')
    · try simp only [irr_eq, beq_iff_eq, bne_iff_ne, beq_eq_false_iff_ne, bne_eq_false_iff_eq, ne_eq, decide_eq_true_eq, decide_eq_false_iff_not, Bool.not_eq_true', Bool.not_eq_false'] at hc2
      have hthere := hy.1 (by assumption)
      have hat := hB.at at_.toNat
      refine k_skip ?_
      refine SeqK.nx (by assumption) ?_
      refine k_seq (fun Q K => ?_)
      refine k_seq (fun Q K => ?_)
      refine k_lin (fun W K => ?_)
      refine l_op 0 rfl rfl rfl rfl rfl ?_
      refine l_op 0 rfl rfl rfl rfl rfl ?_
      first | refine l_ixi rfl rfl rfl rfl rfl rfl (F.old (by assumption)) (by omega) (fun m17 b17 hA17 => ?_) | (refine l_ixoi F 0 rfl rfl rfl rfl rfl rfl rfl (by omega) (fun m e ha hA17 => ?_); cases ha) | (refine l_ixoi F 1 rfl rfl rfl rfl rfl rfl rfl (by omega) (fun m e ha hA17 => ?_); cases ha) | (refine l_ixoi F 2 rfl rfl rfl rfl rfl rfl rfl (by omega) (fun m e ha hA17 => ?_); cases ha) | (refine l_ixoi F 3 rfl rfl rfl rfl rfl rfl rfl (by omega) (fun m e ha hA17 => ?_); cases ha)
      first | refine l_ld0 rfl rfl rfl rfl rfl (by assumption) ?_ | refine l_ldj rfl rfl rfl rfl rfl rfl (by assumption) rfl ?_ | refine l_ldc F 0 rfl rfl rfl rfl rfl rfl rfl ?_ | refine l_ldc F 1 rfl rfl rfl rfl rfl rfl rfl ?_ | refine l_ldc F 2 rfl rfl rfl rfl rfl rfl rfl ?_ | refine l_ldc F 3 rfl rfl rfl rfl rfl rfl rfl ?_ | refine l_lda rfl rfl rfl rfl rfl (by assumption) ?_ | refine l_ldca F 0 rfl rfl rfl rfl rfl rfl rfl ?_ | refine l_ldca F 1 rfl rfl rfl rfl rfl rfl rfl ?_ | refine l_ldca F 2 rfl rfl rfl rfl rfl rfl rfl ?_ | refine l_ldca F 3 rfl rfl rfl rfl rfl rfl rfl ?_ | refine l_ldo F (by assumption) rfl rfl rfl rfl rfl rfl ?_ | refine l_ldoa F (by assumption) rfl rfl rfl rfl rfl rfl ?_
      refine l_cmp rfl rfl rfl rfl ?_
      refine l_op 0 rfl rfl rfl rfl rfl ?_
      refine l_guard rfl rfl rfl (fun hc3 => ?_) (fun hc3 => ?_)
      · first | replace hc3 := bne_iff_ne.1 ((irr_eq _).symm.trans hc3) | simp only [irr_eq, bne_iff_ne, bne_eq_false_iff_eq, ne_eq, decide_eq_true_eq, decide_eq_false_iff_not, Bool.not_eq_true', Bool.not_eq_false'] at hc3
        refine l_op 0 rfl rfl rfl rfl rfl ?_
        refine l_op 0 rfl rfl rfl rfl rfl ?_
        first | refine l_ixi rfl rfl rfl rfl rfl rfl (F.old (by assumption)) (by omega) (fun m23 b23 hA23 => ?_) | (refine l_ixoi F 0 rfl rfl rfl rfl rfl rfl rfl (by omega) (fun m e ha hA23 => ?_); cases ha) | (refine l_ixoi F 1 rfl rfl rfl rfl rfl rfl rfl (by omega) (fun m e ha hA23 => ?_); cases ha) | (refine l_ixoi F 2 rfl rfl rfl rfl rfl rfl rfl (by omega) (fun m e ha hA23 => ?_); cases ha) | (refine l_ixoi F 3 rfl rfl rfl rfl rfl rfl rfl (by omega) (fun m e ha hA23 => ?_); cases ha)
        first | refine l_ld0 rfl rfl rfl rfl rfl (by assumption) ?_ | refine l_ldj rfl rfl rfl rfl rfl rfl (by assumption) rfl ?_ | refine l_ldc F 0 rfl rfl rfl rfl rfl rfl rfl ?_ | refine l_ldc F 1 rfl rfl rfl rfl rfl rfl rfl ?_ | refine l_ldc F 2 rfl rfl rfl rfl rfl rfl rfl ?_ | refine l_ldc F 3 rfl rfl rfl rfl rfl rfl rfl ?_ | refine l_lda rfl rfl rfl rfl rfl (by assumption) ?_ | refine l_ldca F 0 rfl rfl rfl rfl rfl rfl rfl ?_ | refine l_ldca F 1 rfl rfl rfl rfl rfl rfl rfl ?_ | refine l_ldca F 2 rfl rfl rfl rfl rfl rfl rfl ?_ | refine l_ldca F 3 rfl rfl rfl rfl rfl rfl rfl ?_ | refine l_ldo F (by assumption) rfl rfl rfl rfl rfl rfl ?_ | refine l_ldoa F (by assumption) rfl rfl rfl rfl rfl rfl ?_
        refine l_cmp rfl rfl rfl rfl ?_
        refine l_op 2 rfl rfl rfl rfl rfl ?_
        refine l_nil (WK.nx (by assumption) ?_)
        refine SeqK.nx (by assumption) ?_
        refine l_cond rfl rfl (fun hc4 => ?_) (fun hc4 => ?_)
        · first | replace hc4 := bne_iff_ne.1 ((irr_eq _).symm.trans hc4) | simp only [irr_eq, bne_iff_ne, bne_eq_false_iff_eq, ne_eq, decide_eq_true_eq, decide_eq_false_iff_not, Bool.not_eq_true', Bool.not_eq_false'] at hc4
          refine k_seq (fun Q K => ?_)
          refine k_lin (fun W K => ?_)
          refine l_op 0 rfl rfl rfl rfl rfl ?_
          refine l_op 0 rfl rfl rfl rfl rfl ?_
          refine l_op 0 rfl rfl rfl rfl rfl ?_
          refine l_op 0 rfl rfl rfl rfl rfl ?_
          refine l_nil (WK.nx (by assumption) ?_)
          refine SeqK.nx (by assumption) ?_
          refine k_ret ?_
          refine SeqK.rt (by assumption) ?_
          refine FunK.rt (by assumption) rfl ?_
          -- leaf 3
          first
            | (have hr : headR bs at_ = (0, [], 0, 1) := if_pos (by omega)
               rw [hr]; exact ⟨(none, 0), rfl, F.pick [0] (by decide), trivial⟩)
            | (have hr : headR bs at_ = (0, [], 0, 90) := by
                 have : ¬ (at_ ≤ l ∧ at_ + 1 ≤ l) := fun h => by have := hy.2 h; simp_all
                 unfold headR; rw [if_neg (by omega), if_pos (by omega)]
               rw [hr]; exact ⟨(none, 0), rfl, F.pick [0] (by decide), trivial⟩)
            | (have hr : headR bs at_ = (0, [], 0, 112) := by
                 unfold headR; rw [if_neg (by omega), if_neg (by omega), if_pos (by omega)]
               rw [hr]; exact ⟨(none, 0), rfl, F.pick [0] (by decide), trivial⟩)
            | (have hr : headR bs at_ = (0, [], 0, 112) := by
                 unfold headR; rw [if_neg (by omega), if_neg (by omega), if_neg (by omega), if_pos (by assumption)]
               rw [hr]; exact ⟨(none, 0), rfl, F.pick [0] (by decide), trivial⟩)
            | (have e3 : (at_ + 1 + pr 0 (bs.drop (at_ + 1).toNat)).toNat - (at_ + 1).toNat = (pr 0 (bs.drop (at_ + 1).toNat)).toNat := by omega
               have hr : headR bs at_ = (bs.getD at_.toNat 0, (bs.drop (at_ + 1).toNat).take (pr 0 (bs.drop (at_ + 1).toNat)).toNat, 1 + pr 0 (bs.drop (at_ + 1).toNat), 0) := by
                 unfold headR; rw [if_neg (by omega), if_neg (by omega), if_neg (by omega), if_neg (by assumption)]
               have hl' : ((bs.drop (at_ + 1).toNat).take (pr 0 (bs.drop (at_ + 1).toNat)).toNat).length = (pr 0 (bs.drop (at_ + 1).toNat)).toNat := by rw [List.length_take, List.length_drop]; omega
               have F' := F.pick [1] (by decide)
               rw [e3, Nat.zero_add] at F' ⊢
               rw [hr]
               refine ⟨(x2, c2), ?_, ?_, trivial⟩
               · show _ = Value.tuple #[.int .i64 _, .slice x2 (List.length _) c2, _, _]
                 rw [hl']; rfl
               · show Facts _ _ _ [own x2 (List.length _) c2 1 _]
                 rw [hl']
                 exact F')
        · first | replace hc4 := bne_eq_false_iff_eq.1 ((irr_eq _).symm.trans hc4) | simp only [irr_eq, bne_iff_ne, bne_eq_false_iff_eq, ne_eq, decide_eq_true_eq, decide_eq_false_iff_not, Bool.not_eq_true', Bool.not_eq_false'] at hc4
          refine k_skip ?_
          refine SeqK.nx (by assumption) ?_
          refine k_seq (fun Q K => ?_)
          refine k_lin (fun W K => ?_)
          refine l_op 0 rfl rfl rfl rfl rfl ?_
          refine l_op 0 rfl rfl rfl rfl rfl ?_
          first | refine l_a64 rfl rfl rfl (by omega) rfl ?_ | refine l_a32 rfl rfl rfl (by omega) rfl ?_ | refine l_a8 rfl rfl rfl (by omega) rfl ?_ | refine l_au64 rfl rfl rfl (by omega) rfl ?_ | refine l_op 1 rfl rfl rfl rfl rfl ?_
          first | refine l_sl rfl rfl rfl rfl rfl rfl rfl rfl rfl (F.old (by assumption)) (by omega) ?_ | refine l_sl rfl rfl rfl rfl rfl rfl rfl rfl rfl (F.has 0 rfl) (by omega) ?_ | refine l_sl rfl rfl rfl rfl rfl rfl rfl rfl rfl (F.has 1 rfl) (by omega) ?_ | refine l_sl rfl rfl rfl rfl rfl rfl rfl rfl rfl (F.has 2 rfl) (by omega) ?_ | refine l_sl rfl rfl rfl rfl rfl rfl rfl rfl rfl (F.has 3 rfl) (by omega) ?_
          refine l_callp F rfl rfl (by kernel_rfl) rfl rfl (format_call (Old.pure ((F.old h).from8 (lo := (at_ + 1).toNat) (by omega))) (by omega)) (fun _ s F _ => ?_)
          (try dsimp only [List.set_cons_zero, List.set_cons_succ, List.cons_append, List.nil_append, List.append_nil, pk, List.getElem?_cons_zero, List.getElem?_cons_succ] at F)
          refine l_op 0 rfl rfl rfl rfl rfl ?_
          refine l_nil (WK.nx (by assumption) ?_)
          refine SeqK.nx (by assumption) ?_
          refine k_seq (fun Q K => ?_)
          refine k_seq (fun Q K => ?_)
          refine k_lin (fun W K => ?_)
          refine l_op 0 rfl rfl rfl rfl rfl ?_
          refine l_cmp rfl rfl rfl rfl ?_
          refine l_nil (WK.nx (by assumption) ?_)
          refine SeqK.nx (by assumption) ?_
          refine l_cond rfl rfl (fun hc5 => ?_) (fun hc5 => ?_)
          · first | replace hc5 := eq_of_beq ((irr_eq _).symm.trans hc5) | simp only [irr_eq, beq_iff_eq, beq_eq_false_iff_ne, ne_eq, decide_eq_true_eq, decide_eq_false_iff_not] at hc5
            refine k_seq (fun Q K => ?_)
            refine k_lin (fun W K => ?_)
            refine l_op 0 rfl rfl rfl rfl rfl ?_
            refine l_op 0 rfl rfl rfl rfl rfl ?_
            refine l_op 0 rfl rfl rfl rfl rfl ?_
            refine l_op 0 rfl rfl rfl rfl rfl ?_
            refine l_nil (WK.nx (by assumption) ?_)
            refine SeqK.nx (by assumption) ?_
            refine k_ret ?_
            refine SeqK.rt (by assumption) ?_
            refine FunK.rt (by assumption) rfl ?_
            -- leaf 4
            first
              | (have hr : headR bs at_ = (0, [], 0, 1) := if_pos (by omega)
                 rw [hr]; exact ⟨(none, 0), rfl, F.pick [0] (by decide), trivial⟩)
              | (have hr : headR bs at_ = (0, [], 0, 90) := by
                   have : ¬ (at_ ≤ l ∧ at_ + 1 ≤ l) := fun h => by have := hy.2 h; simp_all
                   unfold headR; rw [if_neg (by omega), if_pos (by omega)]
                 rw [hr]; exact ⟨(none, 0), rfl, F.pick [0] (by decide), trivial⟩)
              | (have hr : headR bs at_ = (0, [], 0, 112) := by
                   unfold headR; rw [if_neg (by omega), if_neg (by omega), if_pos (by omega)]
                 rw [hr]; exact ⟨(none, 0), rfl, F.pick [0] (by decide), trivial⟩)
              | (have hr : headR bs at_ = (0, [], 0, 112) := by
                   unfold headR; rw [if_neg (by omega), if_neg (by omega), if_neg (by omega), if_pos (by assumption)]
                 rw [hr]; exact ⟨(none, 0), rfl, F.pick [0] (by decide), trivial⟩)
              | (have e3 : (at_ + 1 + pr 0 (bs.drop (at_ + 1).toNat)).toNat - (at_ + 1).toNat = (pr 0 (bs.drop (at_ + 1).toNat)).toNat := by omega
                 have hr : headR bs at_ = (bs.getD at_.toNat 0, (bs.drop (at_ + 1).toNat).take (pr 0 (bs.drop (at_ + 1).toNat)).toNat, 1 + pr 0 (bs.drop (at_ + 1).toNat), 0) := by
                   unfold headR; rw [if_neg (by omega), if_neg (by omega), if_neg (by omega), if_neg (by assumption)]
                 have hl' : ((bs.drop (at_ + 1).toNat).take (pr 0 (bs.drop (at_ + 1).toNat)).toNat).length = (pr 0 (bs.drop (at_ + 1).toNat)).toNat := by rw [List.length_take, List.length_drop]; omega
                 have F' := F.pick [1] (by decide)
                 rw [e3, Nat.zero_add] at F' ⊢
                 rw [hr]
                 refine ⟨(x2, c2), ?_, ?_, trivial⟩
                 · show _ = Value.tuple #[.int .i64 _, .slice x2 (List.length _) c2, _, _]
                   rw [hl']; rfl
                 · show Facts _ _ _ [own x2 (List.length _) c2 1 _]
                   rw [hl']
                   exact F')
          · first | replace hc5 := ne_of_beq_false ((irr_eq _).symm.trans hc5) | simp only [irr_eq, beq_iff_eq, beq_eq_false_iff_ne, ne_eq, decide_eq_true_eq, decide_eq_false_iff_not] at hc5
            obtain ⟨p1, p2, p3, _⟩ := pr_spec (bs.drop (at_ + 1).toNat) _ _ 0 (Nat.le_refl _) (by rw [List.drop_zero]) (by assumption) rfl
            rw [List.length_drop] at p3
            refine k_skip ?_
            refine SeqK.nx (by assumption) ?_
            refine k_seq (fun Q K => ?_)
            refine k_linm [0, 1, 2, 6, 7, 8, 9, 10, 11, 12, 13, 15, 16, 3, 4, 5, 14, 17, 18, 19, 20] mixed (by kernel_rfl) (fun W K => ?_)
            try have hpS := F.pns
            refine l_op 0 rfl rfl rfl rfl rfl ?_
            refine l_op 0 rfl rfl rfl rfl rfl ?_
            first | (refine l_ixs F (by assumption) rfl rfl rfl rfl rfl rfl (by omega) (fun m36 b36 hA36 hS36 => ?_)) | refine l_ixi rfl rfl rfl rfl rfl rfl (F.old (by assumption)) (by omega) (fun m36 b36 hA36 => ?_) | (refine l_ixoi F 0 rfl rfl rfl rfl rfl rfl rfl (by omega) (fun m e ha hA36 => ?_); cases ha) | (refine l_ixoi F 1 rfl rfl rfl rfl rfl rfl rfl (by omega) (fun m e ha hA36 => ?_); cases ha) | (refine l_ixoi F 2 rfl rfl rfl rfl rfl rfl rfl (by omega) (fun m e ha hA36 => ?_); cases ha) | (refine l_ixoi F 3 rfl rfl rfl rfl rfl rfl rfl (by omega) (fun m e ha hA36 => ?_); cases ha)
            refine l_op 0 rfl rfl rfl rfl rfl ?_
            refine l_op 0 rfl rfl rfl rfl rfl ?_
            first | refine l_a64 rfl rfl rfl (by omega) rfl ?_ | refine l_a32 rfl rfl rfl (by omega) rfl ?_ | refine l_a8 rfl rfl rfl (by omega) rfl ?_ | refine l_au64 rfl rfl rfl (by omega) rfl ?_ | refine l_op 1 rfl rfl rfl rfl rfl ?_
            refine l_op 0 rfl rfl rfl rfl rfl ?_
            first | refine l_a64 rfl rfl rfl (by omega) rfl ?_ | refine l_a32 rfl rfl rfl (by omega) rfl ?_ | refine l_a8 rfl rfl rfl (by omega) rfl ?_ | refine l_au64 rfl rfl rfl (by omega) rfl ?_ | refine l_op 1 rfl rfl rfl rfl rfl ?_
            refine l_op 0 rfl rfl rfl rfl rfl ?_
            first | refine l_a64 rfl rfl rfl (by omega) rfl ?_ | refine l_a32 rfl rfl rfl (by omega) rfl ?_ | refine l_a8 rfl rfl rfl (by omega) rfl ?_ | refine l_au64 rfl rfl rfl (by omega) rfl ?_ | refine l_op 1 rfl rfl rfl rfl rfl ?_
            first | refine l_sl rfl rfl rfl rfl rfl rfl rfl rfl ⟨rfl, _, _, rfl, by omega, rfl⟩ (F.old (by assumption)) (by omega) ?_ | refine l_sl rfl rfl rfl rfl rfl rfl rfl rfl ⟨rfl, _, _, rfl, by omega, rfl⟩ (F.has 0 rfl) (by omega) ?_ | refine l_sl rfl rfl rfl rfl rfl rfl rfl rfl ⟨rfl, _, _, rfl, by omega, rfl⟩ (F.has 1 rfl) (by omega) ?_ | refine l_sl rfl rfl rfl rfl rfl rfl rfl rfl ⟨rfl, _, _, rfl, by omega, rfl⟩ (F.has 2 rfl) (by omega) ?_ | refine l_sl rfl rfl rfl rfl rfl rfl rfl rfl ⟨rfl, _, _, rfl, by omega, rfl⟩ (F.has 3 rfl) (by omega) ?_
            refine l_op 0 rfl rfl rfl rfl rfl ?_
            first | refine l_a64 rfl rfl rfl (by omega) rfl ?_ | refine l_a32 rfl rfl rfl (by omega) rfl ?_ | refine l_a8 rfl rfl rfl (by omega) rfl ?_ | refine l_au64 rfl rfl rfl (by omega) rfl ?_ | refine l_op 1 rfl rfl rfl rfl rfl ?_
            first | refine l_ld0 rfl rfl rfl rfl rfl (by assumption) ?_ | refine l_ldj rfl rfl rfl rfl rfl rfl (by assumption) rfl ?_ | refine l_ldc F 0 rfl rfl rfl rfl rfl rfl rfl ?_ | refine l_ldc F 1 rfl rfl rfl rfl rfl rfl rfl ?_ | refine l_ldc F 2 rfl rfl rfl rfl rfl rfl rfl ?_ | refine l_ldc F 3 rfl rfl rfl rfl rfl rfl rfl ?_ | refine l_lda rfl rfl rfl rfl rfl (by assumption) ?_ | refine l_ldca F 0 rfl rfl rfl rfl rfl rfl rfl ?_ | refine l_ldca F 1 rfl rfl rfl rfl rfl rfl rfl ?_ | refine l_ldca F 2 rfl rfl rfl rfl rfl rfl rfl ?_ | refine l_ldca F 3 rfl rfl rfl rfl rfl rfl rfl ?_ | refine l_ldo F (by assumption) rfl rfl rfl rfl rfl rfl ?_ | refine l_ldoa F (by assumption) rfl rfl rfl rfl rfl rfl ?_
            first | have hpS := PnS.add hpS hS36 | have hpS := PnS.add hpS (OldC.sf (by assumption)) | skip
            first | refine l_c64 rfl rfl rfl (by omega) rfl ?_ | refine l_c32 rfl rfl rfl (by omega) rfl ?_ | refine l_c8 rfl rfl rfl (by omega) rfl ?_ | refine l_cu64 rfl rfl rfl (by omega) rfl ?_ | refine l_str rfl rfl rfl rfl rfl (F.old (by assumption)) ?_ | refine l_str rfl rfl rfl rfl rfl (F.has 0 rfl) ?_ | refine l_str rfl rfl rfl rfl rfl (F.has 1 rfl) ?_ | refine l_str rfl rfl rfl rfl rfl (F.has 2 rfl) ?_ | refine l_op 16 rfl rfl rfl rfl rfl ?_
            refine l_lit F rfl rfl rfl rfl (fun q39 s F => ?_)
            (try dsimp only [List.set_cons_zero, List.set_cons_succ, List.cons_append, List.nil_append, List.append_nil, pk, List.getElem?_cons_zero, List.getElem?_cons_succ] at F)
            refine l_appi (xs := []) F 1 rfl rfl rfl rfl rfl rfl rfl ((F.old h).part8 (by omega) (by omega)) rfl (by omega) hD (fun x2 c2 s F => ?_)
            (try dsimp only [List.set_cons_zero, List.set_cons_succ, List.cons_append, List.nil_append, List.append_nil, pk, List.getElem?_cons_zero, List.getElem?_cons_succ] at F)
            refine l_op 0 rfl rfl rfl rfl rfl ?_
            refine l_op 0 rfl rfl rfl rfl rfl ?_
            refine l_op 0 rfl rfl rfl rfl rfl ?_
            refine l_op 0 rfl rfl rfl rfl rfl ?_
            refine l_nil (WK.nx (by assumption) ?_)
            refine SeqK.nx (by assumption) ?_
            refine k_ret ?_
            refine FunK.rt (by assumption) rfl ?_
            -- leaf 5
            first
              | (have hr : headR bs at_ = (0, [], 0, 1) := if_pos (by omega)
                 rw [hr]; exact ⟨(none, 0), rfl, F.pick [0] (by decide), trivial⟩)
              | (have hr : headR bs at_ = (0, [], 0, 90) := by
                   have : ¬ (at_ ≤ l ∧ at_ + 1 ≤ l) := fun h => by have := hy.2 h; simp_all
                   unfold headR; rw [if_neg (by omega), if_pos (by omega)]
                 rw [hr]; exact ⟨(none, 0), rfl, F.pick [0] (by decide), trivial⟩)
              | (have hr : headR bs at_ = (0, [], 0, 112) := by
                   unfold headR; rw [if_neg (by omega), if_neg (by omega), if_pos (by omega)]
                 rw [hr]; exact ⟨(none, 0), rfl, F.pick [0] (by decide), trivial⟩)
              | (have hr : headR bs at_ = (0, [], 0, 112) := by
                   unfold headR; rw [if_neg (by omega), if_neg (by omega), if_neg (by omega), if_pos (by assumption)]
                 rw [hr]; exact ⟨(none, 0), rfl, F.pick [0] (by decide), trivial⟩)
              | (have e3 : (at_ + 1 + pr 0 (bs.drop (at_ + 1).toNat)).toNat - (at_ + 1).toNat = (pr 0 (bs.drop (at_ + 1).toNat)).toNat := by omega
                 have hr : headR bs at_ = (bs.getD at_.toNat 0, (bs.drop (at_ + 1).toNat).take (pr 0 (bs.drop (at_ + 1).toNat)).toNat, 1 + pr 0 (bs.drop (at_ + 1).toNat), 0) := by
                   unfold headR; rw [if_neg (by omega), if_neg (by omega), if_neg (by omega), if_neg (by assumption)]
                 have hl' : ((bs.drop (at_ + 1).toNat).take (pr 0 (bs.drop (at_ + 1).toNat)).toNat).length = (pr 0 (bs.drop (at_ + 1).toNat)).toNat := by rw [List.length_take, List.length_drop]; omega
                 have F' := F.pick [1] (by decide)
                 rw [e3, Nat.zero_add] at F' ⊢
                 rw [hr]
                 refine ⟨(x2, c2), ?_, ?_, trivial⟩
                 · show _ = Value.tuple #[.int .i64 _, .slice x2 (List.length _) c2, _, _]
                   rw [hl']; rfl
                 · show Facts _ _ _ [own x2 (List.length _) c2 1 _]
                   rw [hl']
                   exact F')
      · first | replace hc3 := bne_eq_false_iff_eq.1 ((irr_eq _).symm.trans hc3) | simp only [irr_eq, bne_iff_ne, bne_eq_false_iff_eq, ne_eq, decide_eq_true_eq, decide_eq_false_iff_not, Bool.not_eq_true', Bool.not_eq_false'] at hc3
        refine l_s rfl rfl ?_
        refine l_s rfl rfl ?_
        refine l_s rfl rfl ?_
        refine l_s rfl rfl ?_
        refine l_s rfl rfl ?_
        refine l_op 2 rfl rfl rfl rfl rfl ?_
        refine l_nil (WK.nx (by assumption) ?_)
        refine SeqK.nx (by assumption) ?_
        refine e_cond_f rfl rfl rfl ?_
        refine k_skip ?_
        refine SeqK.nx (by assumption) ?_
        refine k_seq (fun Q K => ?_)
        refine k_lin (fun W K => ?_)
        refine l_op 0 rfl rfl rfl rfl rfl ?_
        refine l_op 0 rfl rfl rfl rfl rfl ?_
        first | refine l_a64 rfl rfl rfl (by omega) rfl ?_ | refine l_a32 rfl rfl rfl (by omega) rfl ?_ | refine l_a8 rfl rfl rfl (by omega) rfl ?_ | refine l_au64 rfl rfl rfl (by omega) rfl ?_ | refine l_op 1 rfl rfl rfl rfl rfl ?_
        first | refine l_sl rfl rfl rfl rfl rfl rfl rfl rfl rfl (F.old (by assumption)) (by omega) ?_ | refine l_sl rfl rfl rfl rfl rfl rfl rfl rfl rfl (F.has 0 rfl) (by omega) ?_ | refine l_sl rfl rfl rfl rfl rfl rfl rfl rfl rfl (F.has 1 rfl) (by omega) ?_ | refine l_sl rfl rfl rfl rfl rfl rfl rfl rfl rfl (F.has 2 rfl) (by omega) ?_ | refine l_sl rfl rfl rfl rfl rfl rfl rfl rfl rfl (F.has 3 rfl) (by omega) ?_
        refine l_callp F rfl rfl (by kernel_rfl) rfl rfl (format_call (Old.pure ((F.old h).from8 (lo := (at_ + 1).toNat) (by omega))) (by omega)) (fun _ s F _ => ?_)
        (try dsimp only [List.set_cons_zero, List.set_cons_succ, List.cons_append, List.nil_append, List.append_nil, pk, List.getElem?_cons_zero, List.getElem?_cons_succ] at F)
        refine l_op 0 rfl rfl rfl rfl rfl ?_
        refine l_nil (WK.nx (by assumption) ?_)
        refine SeqK.nx (by assumption) ?_
        refine k_seq (fun Q K => ?_)
        refine k_seq (fun Q K => ?_)
        refine k_lin (fun W K => ?_)
        refine l_op 0 rfl rfl rfl rfl rfl ?_
        refine l_cmp rfl rfl rfl rfl ?_
        refine l_nil (WK.nx (by assumption) ?_)
        refine SeqK.nx (by assumption) ?_
        refine l_cond rfl rfl (fun hc6 => ?_) (fun hc6 => ?_)
        · first | replace hc6 := eq_of_beq ((irr_eq _).symm.trans hc6) | simp only [irr_eq, beq_iff_eq, beq_eq_false_iff_ne, ne_eq, decide_eq_true_eq, decide_eq_false_iff_not] at hc6
          refine k_seq (fun Q K => ?_)
          refine k_lin (fun W K => ?_)
          refine l_op 0 rfl rfl rfl rfl rfl ?_
          refine l_op 0 rfl rfl rfl rfl rfl ?_
          refine l_op 0 rfl rfl rfl rfl rfl ?_
          refine l_op 0 rfl rfl rfl rfl rfl ?_
          refine l_nil (WK.nx (by assumption) ?_)
          refine SeqK.nx (by assumption) ?_
          refine k_ret ?_
          refine SeqK.rt (by assumption) ?_
          refine FunK.rt (by assumption) rfl ?_
          -- leaf 6
          first
            | (have hr : headR bs at_ = (0, [], 0, 1) := if_pos (by omega)
               rw [hr]; exact ⟨(none, 0), rfl, F.pick [0] (by decide), trivial⟩)
            | (have hr : headR bs at_ = (0, [], 0, 90) := by
                 have : ¬ (at_ ≤ l ∧ at_ + 1 ≤ l) := fun h => by have := hy.2 h; simp_all
                 unfold headR; rw [if_neg (by omega), if_pos (by omega)]
               rw [hr]; exact ⟨(none, 0), rfl, F.pick [0] (by decide), trivial⟩)
            | (have hr : headR bs at_ = (0, [], 0, 112) := by
                 unfold headR; rw [if_neg (by omega), if_neg (by omega), if_pos (by omega)]
               rw [hr]; exact ⟨(none, 0), rfl, F.pick [0] (by decide), trivial⟩)
            | (have hr : headR bs at_ = (0, [], 0, 112) := by
                 unfold headR; rw [if_neg (by omega), if_neg (by omega), if_neg (by omega), if_pos (by assumption)]
               rw [hr]; exact ⟨(none, 0), rfl, F.pick [0] (by decide), trivial⟩)
            | (have e3 : (at_ + 1 + pr 0 (bs.drop (at_ + 1).toNat)).toNat - (at_ + 1).toNat = (pr 0 (bs.drop (at_ + 1).toNat)).toNat := by omega
               have hr : headR bs at_ = (bs.getD at_.toNat 0, (bs.drop (at_ + 1).toNat).take (pr 0 (bs.drop (at_ + 1).toNat)).toNat, 1 + pr 0 (bs.drop (at_ + 1).toNat), 0) := by
                 unfold headR; rw [if_neg (by omega), if_neg (by omega), if_neg (by omega), if_neg (by assumption)]
               have hl' : ((bs.drop (at_ + 1).toNat).take (pr 0 (bs.drop (at_ + 1).toNat)).toNat).length = (pr 0 (bs.drop (at_ + 1).toNat)).toNat := by rw [List.length_take, List.length_drop]; omega
               have F' := F.pick [1] (by decide)
               rw [e3, Nat.zero_add] at F' ⊢
               rw [hr]
               refine ⟨(x2, c2), ?_, ?_, trivial⟩
               · show _ = Value.tuple #[.int .i64 _, .slice x2 (List.length _) c2, _, _]
                 rw [hl']; rfl
               · show Facts _ _ _ [own x2 (List.length _) c2 1 _]
                 rw [hl']
                 exact F')
        · first | replace hc6 := ne_of_beq_false ((irr_eq _).symm.trans hc6) | simp only [irr_eq, beq_iff_eq, beq_eq_false_iff_ne, ne_eq, decide_eq_true_eq, decide_eq_false_iff_not] at hc6
          obtain ⟨p1, p2, p3, _⟩ := pr_spec (bs.drop (at_ + 1).toNat) _ _ 0 (Nat.le_refl _) (by rw [List.drop_zero]) (by assumption) rfl
          rw [List.length_drop] at p3
          refine k_skip ?_
          refine SeqK.nx (by assumption) ?_
          refine k_seq (fun Q K => ?_)
          refine k_linm [0, 1, 2, 6, 7, 8, 9, 10, 11, 12, 13, 15, 16, 3, 4, 5, 14, 17, 18, 19, 20] mixed (by kernel_rfl) (fun W K => ?_)
          try have hpS := F.pns
          refine l_op 0 rfl rfl rfl rfl rfl ?_
          refine l_op 0 rfl rfl rfl rfl rfl ?_
          first | (refine l_ixs F (by assumption) rfl rfl rfl rfl rfl rfl (by omega) (fun m36 b36 hA36 hS36 => ?_)) | refine l_ixi rfl rfl rfl rfl rfl rfl (F.old (by assumption)) (by omega) (fun m36 b36 hA36 => ?_) | (refine l_ixoi F 0 rfl rfl rfl rfl rfl rfl rfl (by omega) (fun m e ha hA36 => ?_); cases ha) | (refine l_ixoi F 1 rfl rfl rfl rfl rfl rfl rfl (by omega) (fun m e ha hA36 => ?_); cases ha) | (refine l_ixoi F 2 rfl rfl rfl rfl rfl rfl rfl (by omega) (fun m e ha hA36 => ?_); cases ha) | (refine l_ixoi F 3 rfl rfl rfl rfl rfl rfl rfl (by omega) (fun m e ha hA36 => ?_); cases ha)
          refine l_op 0 rfl rfl rfl rfl rfl ?_
          refine l_op 0 rfl rfl rfl rfl rfl ?_
          first | refine l_a64 rfl rfl rfl (by omega) rfl ?_ | refine l_a32 rfl rfl rfl (by omega) rfl ?_ | refine l_a8 rfl rfl rfl (by omega) rfl ?_ | refine l_au64 rfl rfl rfl (by omega) rfl ?_ | refine l_op 1 rfl rfl rfl rfl rfl ?_
          refine l_op 0 rfl rfl rfl rfl rfl ?_
          first | refine l_a64 rfl rfl rfl (by omega) rfl ?_ | refine l_a32 rfl rfl rfl (by omega) rfl ?_ | refine l_a8 rfl rfl rfl (by omega) rfl ?_ | refine l_au64 rfl rfl rfl (by omega) rfl ?_ | refine l_op 1 rfl rfl rfl rfl rfl ?_
          refine l_op 0 rfl rfl rfl rfl rfl ?_
          first | refine l_a64 rfl rfl rfl (by omega) rfl ?_ | refine l_a32 rfl rfl rfl (by omega) rfl ?_ | refine l_a8 rfl rfl rfl (by omega) rfl ?_ | refine l_au64 rfl rfl rfl (by omega) rfl ?_ | refine l_op 1 rfl rfl rfl rfl rfl ?_
          first | refine l_sl rfl rfl rfl rfl rfl rfl rfl rfl ⟨rfl, _, _, rfl, by omega, rfl⟩ (F.old (by assumption)) (by omega) ?_ | refine l_sl rfl rfl rfl rfl rfl rfl rfl rfl ⟨rfl, _, _, rfl, by omega, rfl⟩ (F.has 0 rfl) (by omega) ?_ | refine l_sl rfl rfl rfl rfl rfl rfl rfl rfl ⟨rfl, _, _, rfl, by omega, rfl⟩ (F.has 1 rfl) (by omega) ?_ | refine l_sl rfl rfl rfl rfl rfl rfl rfl rfl ⟨rfl, _, _, rfl, by omega, rfl⟩ (F.has 2 rfl) (by omega) ?_ | refine l_sl rfl rfl rfl rfl rfl rfl rfl rfl ⟨rfl, _, _, rfl, by omega, rfl⟩ (F.has 3 rfl) (by omega) ?_
          refine l_op 0 rfl rfl rfl rfl rfl ?_
          first | refine l_a64 rfl rfl rfl (by omega) rfl ?_ | refine l_a32 rfl rfl rfl (by omega) rfl ?_ | refine l_a8 rfl rfl rfl (by omega) rfl ?_ | refine l_au64 rfl rfl rfl (by omega) rfl ?_ | refine l_op 1 rfl rfl rfl rfl rfl ?_
          first | refine l_ld0 rfl rfl rfl rfl rfl (by assumption) ?_ | refine l_ldj rfl rfl rfl rfl rfl rfl (by assumption) rfl ?_ | refine l_ldc F 0 rfl rfl rfl rfl rfl rfl rfl ?_ | refine l_ldc F 1 rfl rfl rfl rfl rfl rfl rfl ?_ | refine l_ldc F 2 rfl rfl rfl rfl rfl rfl rfl ?_ | refine l_ldc F 3 rfl rfl rfl rfl rfl rfl rfl ?_ | refine l_lda rfl rfl rfl rfl rfl (by assumption) ?_ | refine l_ldca F 0 rfl rfl rfl rfl rfl rfl rfl ?_ | refine l_ldca F 1 rfl rfl rfl rfl rfl rfl rfl ?_ | refine l_ldca F 2 rfl rfl rfl rfl rfl rfl rfl ?_ | refine l_ldca F 3 rfl rfl rfl rfl rfl rfl rfl ?_ | refine l_ldo F (by assumption) rfl rfl rfl rfl rfl rfl ?_ | refine l_ldoa F (by assumption) rfl rfl rfl rfl rfl rfl ?_
          first | have hpS := PnS.add hpS hS36 | have hpS := PnS.add hpS (OldC.sf (by assumption)) | skip
          first | refine l_c64 rfl rfl rfl (by omega) rfl ?_ | refine l_c32 rfl rfl rfl (by omega) rfl ?_ | refine l_c8 rfl rfl rfl (by omega) rfl ?_ | refine l_cu64 rfl rfl rfl (by omega) rfl ?_ | refine l_str rfl rfl rfl rfl rfl (F.old (by assumption)) ?_ | refine l_str rfl rfl rfl rfl rfl (F.has 0 rfl) ?_ | refine l_str rfl rfl rfl rfl rfl (F.has 1 rfl) ?_ | refine l_str rfl rfl rfl rfl rfl (F.has 2 rfl) ?_ | refine l_op 16 rfl rfl rfl rfl rfl ?_
          refine l_lit F rfl rfl rfl rfl (fun q39 s F => ?_)
          (try dsimp only [List.set_cons_zero, List.set_cons_succ, List.cons_append, List.nil_append, List.append_nil, pk, List.getElem?_cons_zero, List.getElem?_cons_succ] at F)
          refine l_appi (xs := []) F 1 rfl rfl rfl rfl rfl rfl rfl ((F.old h).part8 (by omega) (by omega)) rfl (by omega) hD (fun x2 c2 s F => ?_)
          (try dsimp only [List.set_cons_zero, List.set_cons_succ, List.cons_append, List.nil_append, List.append_nil, pk, List.getElem?_cons_zero, List.getElem?_cons_succ] at F)
          refine l_op 0 rfl rfl rfl rfl rfl ?_
          refine l_op 0 rfl rfl rfl rfl rfl ?_
          refine l_op 0 rfl rfl rfl rfl rfl ?_
          refine l_op 0 rfl rfl rfl rfl rfl ?_
          refine l_nil (WK.nx (by assumption) ?_)
          refine SeqK.nx (by assumption) ?_
          refine k_ret ?_
          refine FunK.rt (by assumption) rfl ?_
          -- leaf 7
          first
            | (have hr : headR bs at_ = (0, [], 0, 1) := if_pos (by omega)
               rw [hr]; exact ⟨(none, 0), rfl, F.pick [0] (by decide), trivial⟩)
            | (have hr : headR bs at_ = (0, [], 0, 90) := by
                 have : ¬ (at_ ≤ l ∧ at_ + 1 ≤ l) := fun h => by have := hy.2 h; simp_all
                 unfold headR; rw [if_neg (by omega), if_pos (by omega)]
               rw [hr]; exact ⟨(none, 0), rfl, F.pick [0] (by decide), trivial⟩)
            | (have hr : headR bs at_ = (0, [], 0, 112) := by
                 unfold headR; rw [if_neg (by omega), if_neg (by omega), if_pos (by omega)]
               rw [hr]; exact ⟨(none, 0), rfl, F.pick [0] (by decide), trivial⟩)
            | (have hr : headR bs at_ = (0, [], 0, 112) := by
                 unfold headR; rw [if_neg (by omega), if_neg (by omega), if_neg (by omega), if_pos (by assumption)]
               rw [hr]; exact ⟨(none, 0), rfl, F.pick [0] (by decide), trivial⟩)
            | (have e3 : (at_ + 1 + pr 0 (bs.drop (at_ + 1).toNat)).toNat - (at_ + 1).toNat = (pr 0 (bs.drop (at_ + 1).toNat)).toNat := by omega
               have hr : headR bs at_ = (bs.getD at_.toNat 0, (bs.drop (at_ + 1).toNat).take (pr 0 (bs.drop (at_ + 1).toNat)).toNat, 1 + pr 0 (bs.drop (at_ + 1).toNat), 0) := by
                 unfold headR; rw [if_neg (by omega), if_neg (by omega), if_neg (by omega), if_neg (by assumption)]
               have hl' : ((bs.drop (at_ + 1).toNat).take (pr 0 (bs.drop (at_ + 1).toNat)).toNat).length = (pr 0 (bs.drop (at_ + 1).toNat)).toNat := by rw [List.length_take, List.length_drop]; omega
               have F' := F.pick [1] (by decide)
               rw [e3, Nat.zero_add] at F' ⊢
               rw [hr]
               refine ⟨(x2, c2), ?_, ?_, trivial⟩
               · show _ = Value.tuple #[.int .i64 _, .slice x2 (List.length _) c2, _, _]
                 rw [hl']; rfl
               · show Facts _ _ _ [own x2 (List.length _) c2 1 _]
                 rw [hl']
                 exact F')

theorem num_call {σ : AState} {x : Int} : SCall Try.prog (fun _ => False) 17 [.int .i64 x] σ (fun v s => v = .int .i64 x ∧ s = σ) := by
  refine k_fun Try.func17 rfl (m := 4) rfl fun B hD Q K => ?_
  refine k_seq (fun Q K => ?_)
  refine k_lin (fun W K => ?_)
  refine l_op 0 rfl rfl rfl rfl rfl ?_
  refine l_nil (WK.nx (by assumption) ?_)
  refine SeqK.nx (by assumption) ?_
  refine k_seq (fun Q K => ?_)
  refine k_lin (fun W K => ?_)
  refine l_op 0 rfl rfl rfl rfl rfl ?_
  refine l_op 0 rfl rfl rfl rfl rfl ?_
  refine l_nil (WK.nx (by assumption) ?_)
  refine SeqK.nx (by assumption) ?_
  refine k_ret ?_
  refine FunK.rt (by assumption) rfl ?_
  -- leaf 1
  exact ⟨rfl, rfl⟩

theorem heads_law {σ : AState} {a : Option Addr} {l c : Nat} {bs : List Int} {at_ : Int} (h : Old E0 σ a l c 1 (u8l bs)) (hB : Bytes bs) :
    SCall Try.prog E0 4 [.slice a l c, .int .i64 at_] σ (fun v _ => v = .bool true) := by
  have hbl := h.len8
  have hcut : (bs ++ [77]).take l = bs := by rw [List.take_append_of_le_length (by omega), List.take_of_length_le (by omega)]
  refine k_fun Try.func4 rfl (m := 64) rfl fun B hD Q K => ?_
  have F := Facts.nil E0 σ
  refine k_seq (fun Q K => ?_)
  refine k_lin (fun W K => ?_)
  refine l_op 0 rfl rfl rfl rfl rfl ?_
  refine l_nil (WK.nx (by assumption) ?_)
  refine SeqK.nx (by assumption) ?_
  refine k_seq (fun Q K => ?_)
  refine k_seq (fun Q K => ?_)
  refine k_lin (fun W K => ?_)
  refine l_op 0 rfl rfl rfl rfl rfl ?_
  first | refine l_op 2 rfl rfl rfl rfl rfl ?_ | refine l_ln rfl rfl rfl rfl ?_
  refine l_cmp rfl rfl rfl rfl ?_
  refine l_nil (WK.nx (by assumption) ?_)
  refine SeqK.nx (by assumption) ?_
  refine l_cond rfl rfl (fun hc1 => ?_) (fun hc1 => ?_)
  · replace hc1 := of_decide_eq_true ((irr_eq _).symm.trans hc1)
    refine k_seq (fun Q K => ?_)
    refine k_lin (fun W K => ?_)
    refine l_callv rfl rfl (by kernel_rfl) rfl rfl (live_call _ _) ?_
    (try dsimp only [List.set_cons_zero, List.set_cons_succ, List.cons_append, List.nil_append, List.append_nil, pk, List.getElem?_cons_zero, List.getElem?_cons_succ] at F)
    refine l_op 0 rfl rfl rfl rfl rfl ?_
    refine l_nil (WK.nx (by assumption) ?_)
    refine SeqK.nx (by assumption) ?_
    refine k_ret ?_
    refine SeqK.rt (by assumption) ?_
    refine FunK.rt (by assumption) rfl ?_
    -- leaf 1
    rfl
  · replace hc1 := of_decide_eq_false ((irr_eq _).symm.trans hc1)
    refine k_skip ?_
    refine SeqK.nx (by assumption) ?_
    refine k_seq (fun Q K => ?_)
    refine k_lin (fun W K => ?_)
    refine l_op 0 rfl rfl rfl rfl rfl ?_
    refine l_callp F rfl rfl (by kernel_rfl) rfl rfl (lent_call (Old.pure (F.old h)) (by omega)) (fun y0 s F _ => ?_)
    (try dsimp only [List.set_cons_zero, List.set_cons_succ, List.cons_append, List.nil_append, List.append_nil, pk, List.getElem?_cons_zero, List.getElem?_cons_succ] at F)
    refine l_op 0 rfl rfl rfl rfl rfl ?_
    refine l_nil (WK.nx (by assumption) ?_)
    refine SeqK.nx (by assumption) ?_
    refine k_seq (fun Q K => ?_)
    refine k_lin (fun W K => ?_)
    refine l_op 0 rfl rfl rfl rfl rfl ?_
    refine l_op 0 rfl rfl rfl rfl rfl ?_
    have hc0 := (F.has 0 rfl).upto8 (hi := l) (by omega)
    rw [hcut] at hc0
    refine l_callp F rfl rfl (by kernel_rfl) rfl rfl (head_call (Old.pure hc0) hB (by omega)) (fun y1 s F _ => ?_)
    (try dsimp only [List.set_cons_zero, List.set_cons_succ, List.cons_append, List.nil_append, List.append_nil, pk, List.getElem?_cons_zero, List.getElem?_cons_succ] at F)
    refine l_op 0 rfl rfl rfl rfl rfl ?_
    refine l_op 2 rfl rfl rfl rfl rfl ?_
    refine l_op 2 rfl rfl rfl rfl rfl ?_
    refine l_op 2 rfl rfl rfl rfl rfl ?_
    refine l_op 2 rfl rfl rfl rfl rfl ?_
    refine l_op 0 rfl rfl rfl rfl rfl ?_
    refine l_op 0 rfl rfl rfl rfl rfl ?_
    refine l_op 0 rfl rfl rfl rfl rfl ?_
    refine l_op 0 rfl rfl rfl rfl rfl ?_
    refine l_nil (WK.nx (by assumption) ?_)
    refine SeqK.nx (by assumption) ?_
    refine k_seq (fun Q K => ?_)
    refine k_lin (fun W K => ?_)
    refine l_op 0 rfl rfl rfl rfl rfl ?_
    refine l_op 0 rfl rfl rfl rfl rfl ?_
    refine l_callp F rfl rfl (by kernel_rfl) rfl rfl (rhead_call (Old.pure (F.old h)) hB (by omega)) (fun y2 s F _ => ?_)
    (try dsimp only [List.set_cons_zero, List.set_cons_succ, List.cons_append, List.nil_append, List.append_nil, pk, List.getElem?_cons_zero, List.getElem?_cons_succ] at F)
    refine l_op 0 rfl rfl rfl rfl rfl ?_
    refine l_op 2 rfl rfl rfl rfl rfl ?_
    refine l_op 2 rfl rfl rfl rfl rfl ?_
    refine l_op 2 rfl rfl rfl rfl rfl ?_
    refine l_op 2 rfl rfl rfl rfl rfl ?_
    refine l_op 0 rfl rfl rfl rfl rfl ?_
    refine l_op 0 rfl rfl rfl rfl rfl ?_
    refine l_op 0 rfl rfl rfl rfl rfl ?_
    refine l_op 0 rfl rfl rfl rfl rfl ?_
    refine l_nil (WK.nx (by assumption) ?_)
    refine SeqK.nx (by assumption) ?_
    refine k_seq (fun Q K => ?_)
    refine k_seq (fun Q K => ?_)
    refine k_lin (fun W K => ?_)
    refine l_op 0 rfl rfl rfl rfl rfl ?_
    refine l_op 0 rfl rfl rfl rfl rfl ?_
    refine l_cmp rfl rfl rfl rfl ?_
    refine l_op 0 rfl rfl rfl rfl rfl ?_
    refine l_guard rfl rfl rfl (fun hc2 => ?_) (fun hc2 => ?_)
    · first | replace hc2 := bne_iff_ne.1 ((irr_eq _).symm.trans hc2) | simp only [irr_eq, bne_iff_ne, bne_eq_false_iff_eq, ne_eq, decide_eq_true_eq, decide_eq_false_iff_not, Bool.not_eq_true', Bool.not_eq_false'] at hc2
      omega
    · first | replace hc2 := bne_eq_false_iff_eq.1 ((irr_eq _).symm.trans hc2) | simp only [irr_eq, bne_iff_ne, bne_eq_false_iff_eq, ne_eq, decide_eq_true_eq, decide_eq_false_iff_not, Bool.not_eq_true', Bool.not_eq_false'] at hc2
      refine l_op 0 rfl rfl rfl rfl rfl ?_
      refine l_op 0 rfl rfl rfl rfl rfl ?_
      refine l_callp F rfl rfl (by kernel_rfl) rfl rfl (same_call (Old.pure (F.has 1 rfl)) (Old.pure (F.has 2 rfl))) (fun _ s F _ => ?_)
      (try dsimp only [List.set_cons_zero, List.set_cons_succ, List.cons_append, List.nil_append, List.append_nil, pk, List.getElem?_cons_zero, List.getElem?_cons_succ] at F)
      refine l_op 2 rfl rfl rfl rfl rfl ?_
      refine l_op 2 rfl rfl rfl rfl rfl ?_
      refine l_op 0 rfl rfl rfl rfl rfl ?_
      refine l_guard rfl rfl rfl (fun hc3 => ?_) (fun hc3 => ?_)
      · exact absurd hc3 (by rw [irr_eq, eqS_self]; decide)
      · try simp only [irr_eq, beq_iff_eq, bne_iff_ne, beq_eq_false_iff_ne, bne_eq_false_iff_eq, ne_eq, decide_eq_true_eq, decide_eq_false_iff_not, Bool.not_eq_true', Bool.not_eq_false'] at hc3
        refine l_op 0 rfl rfl rfl rfl rfl ?_
        refine l_op 0 rfl rfl rfl rfl rfl ?_
        refine l_cmp rfl rfl rfl rfl ?_
        refine l_op 2 rfl rfl rfl rfl rfl ?_
        refine l_op 0 rfl rfl rfl rfl rfl ?_
        refine l_guard rfl rfl rfl (fun hc4 => ?_) (fun hc4 => ?_)
        · first | replace hc4 := bne_iff_ne.1 ((irr_eq _).symm.trans hc4) | simp only [irr_eq, bne_iff_ne, bne_eq_false_iff_eq, ne_eq, decide_eq_true_eq, decide_eq_false_iff_not, Bool.not_eq_true', Bool.not_eq_false'] at hc4
          omega
        · first | replace hc4 := bne_eq_false_iff_eq.1 ((irr_eq _).symm.trans hc4) | simp only [irr_eq, bne_iff_ne, bne_eq_false_iff_eq, ne_eq, decide_eq_true_eq, decide_eq_false_iff_not, Bool.not_eq_true', Bool.not_eq_false'] at hc4
          refine l_op 0 rfl rfl rfl rfl rfl ?_
          refine l_callv rfl rfl (by kernel_rfl) rfl rfl num_call ?_
          (try dsimp only [List.set_cons_zero, List.set_cons_succ, List.cons_append, List.nil_append, List.append_nil, pk, List.getElem?_cons_zero, List.getElem?_cons_succ] at F)
          refine l_op 0 rfl rfl rfl rfl rfl ?_
          refine l_cmp rfl rfl rfl rfl ?_
          refine l_op 2 rfl rfl rfl rfl rfl ?_
          refine l_nil (WK.nx (by assumption) ?_)
          refine SeqK.nx (by assumption) ?_
          refine l_cond rfl rfl (fun hc5 => ?_) (fun hc5 => ?_)
          · first | replace hc5 := bne_iff_ne.1 ((irr_eq _).symm.trans hc5) | simp only [irr_eq, bne_iff_ne, bne_eq_false_iff_eq, ne_eq, decide_eq_true_eq, decide_eq_false_iff_not, Bool.not_eq_true', Bool.not_eq_false'] at hc5
            omega
          · first | replace hc5 := bne_eq_false_iff_eq.1 ((irr_eq _).symm.trans hc5) | simp only [irr_eq, bne_iff_ne, bne_eq_false_iff_eq, ne_eq, decide_eq_true_eq, decide_eq_false_iff_not, Bool.not_eq_true', Bool.not_eq_false'] at hc5
            have hfl : (headR bs at_).2.1.length ≤ 1000000 := by
              have := (F.has 1 rfl).size
              unfold headR
              split
              · simp
              · split
                · simp
                · split
                  · simp
                  · split
                    · simp
                    · rw [List.length_take, List.length_drop]; omega
            refine k_skip ?_
            refine SeqK.nx (by assumption) ?_
            refine k_seq (fun Q K => ?_)
            refine k_lin (fun W K => ?_)
            refine l_op 0 rfl rfl rfl rfl rfl ?_
            refine l_call F [1] [0, 2] (by decide) rfl rfl (by kernel_rfl) rfl rfl (spoil_call (F.sub [1] (by decide)) hfl) hD (fun y3 s F _ => ?_)
            (try dsimp only [List.set_cons_zero, List.set_cons_succ, List.cons_append, List.nil_append, List.append_nil, pk, List.getElem?_cons_zero, List.getElem?_cons_succ] at F)
            refine l_nil (WK.nx (by assumption) ?_)
            refine SeqK.nx (by assumption) ?_
            refine k_seq (fun Q K => ?_)
            refine k_lin (fun W K => ?_)
            refine l_op 0 rfl rfl rfl rfl rfl ?_
            refine l_op 0 rfl rfl rfl rfl rfl ?_
            refine l_callp F rfl rfl (by kernel_rfl) rfl rfl (kept_call (Old.pure (F.has 0 rfl)) (Old.pure (F.old h)) rfl (by omega)) (fun _ s F _ => ?_)
            (try dsimp only [List.set_cons_zero, List.set_cons_succ, List.cons_append, List.nil_append, List.append_nil, pk, List.getElem?_cons_zero, List.getElem?_cons_succ] at F)
            refine l_op 0 rfl rfl rfl rfl rfl ?_
            refine l_guard rfl rfl rfl (fun hc6 => ?_) (fun hc6 => ?_)
            · try simp only [irr_eq, beq_iff_eq, bne_iff_ne, beq_eq_false_iff_ne, bne_eq_false_iff_eq, ne_eq, decide_eq_true_eq, decide_eq_false_iff_not, Bool.not_eq_true', Bool.not_eq_false'] at hc6
              refine l_callv rfl rfl (by kernel_rfl) rfl rfl (live_call _ _) ?_
              (try dsimp only [List.set_cons_zero, List.set_cons_succ, List.cons_append, List.nil_append, List.append_nil, pk, List.getElem?_cons_zero, List.getElem?_cons_succ] at F)
              refine l_op 2 rfl rfl rfl rfl rfl ?_
              refine l_op 0 rfl rfl rfl rfl rfl ?_
              refine l_nil (WK.nx (by assumption) ?_)
              refine SeqK.nx (by assumption) ?_
              refine k_ret ?_
              refine FunK.rt (by assumption) rfl ?_
              -- leaf 2
              rfl
            · cases hc6

end Go.Proofs.Ytkemnodaadlonaa
