/- Are blocks the same. No statement of the seat is proved in this text. -/
import Derived.Test.YtkealnppdblgiaaHAct
import Derived.Test.YtkealnppdblgiaaAb32
set_option linter.unusedVariables false
set_option linter.unusedSimpArgs false
set_option maxRecDepth 100000
set_option maxHeartbeats 4000000
namespace Go.Proofs.Ytkealnppdblgiaa
open GAb Go

theorem same_call {σ : AState} {a b : Option Addr} {l1 l2 c1 c2 : Nat} {xs ys : List (Int × Int)} (h1 : Old E0 σ a l1 c1 2 (rows eB xs)) (h2 : Old E0 σ b l2 c2 2 (rows eB ys)) (hn : xs.length ≤ 1000000) :
    SCall Try.prog E0 17 [.slice a l1 c1, .slice b l2 c2] σ (Ret E0 σ (fun (_ : Unit) => .bool (irr (decide (xs = ys)))) (fun _ => []) fun _ => True) := by
  obtain rfl : xs.length = l1 := h1.1.len eB_len (by decide)
  obtain rfl : ys.length = l2 := h2.1.len eB_len (by decide)
  refine k_fun Try.func17 rfl (m := 26) rfl fun B hD Q K => ?_
  have F := Facts.nil E0 σ
  refine k_seq (fun Q K => ?_)
  refine k_lin (fun W K => ?_)
  refine l_op 0 rfl rfl rfl rfl rfl ?_
  refine l_nil (WK.nx (by assumption) ?_)
  refine SeqK.nx (by assumption) ?_
  refine k_seq (fun Q K => ?_)
  refine k_seq (fun Q K => ?_)
  refine k_lin (fun W K => ?_)
  refine l_op 0 rfl rfl rfl rfl rfl ?_
  first | refine l_op 2 rfl rfl rfl rfl rfl ?_ | refine l_ln rfl rfl rfl rfl ?_
  refine l_op 0 rfl rfl rfl rfl rfl ?_
  first | refine l_op 2 rfl rfl rfl rfl rfl ?_ | refine l_ln rfl rfl rfl rfl ?_
  refine l_cmp rfl rfl rfl rfl ?_
  refine l_nil (WK.nx (by assumption) ?_)
  refine SeqK.nx (by assumption) ?_
  refine l_cond rfl rfl (fun hc1 => ?_) (fun hc1 => ?_)
  · first | replace hc1 := bne_iff_ne.1 ((irr_eq _).symm.trans hc1) | simp only [irr_eq, bne_iff_ne, bne_eq_false_iff_eq, ne_eq, decide_eq_true_eq, decide_eq_false_iff_not, Bool.not_eq_true', Bool.not_eq_false'] at hc1
    refine k_seq (fun Q K => ?_)
    refine k_lin (fun W K => ?_)
    refine l_op 0 rfl rfl rfl rfl rfl ?_
    refine l_nil (WK.nx (by assumption) ?_)
    refine SeqK.nx (by assumption) ?_
    refine k_ret ?_
    refine SeqK.rt (by assumption) ?_
    refine FunK.rt (by assumption) rfl ?_
    -- leaf 1
    refine ⟨(), ?_, F.pick [] (by decide), trivial⟩
    show Value.bool _ = Value.bool _
    rw [irr_eq]
    first
      | (rw [decide_eq_false (fun e => hne (by rw [e]))]; done)
      | (rw [decide_eq_false (fun e => hc1 (by rw [e]))]; done)
      | (rw [decide_eq_true (by rw [List.take_of_length_le (by omega), List.take_of_length_le (by omega)] at hI; exact hI)])
  first | replace hc1 := bne_eq_false_iff_eq.1 ((irr_eq _).symm.trans hc1) | simp only [irr_eq, bne_iff_ne, bne_eq_false_iff_eq, ne_eq, decide_eq_true_eq, decide_eq_false_iff_not, Bool.not_eq_true', Bool.not_eq_false'] at hc1
  refine k_skip ?_
  refine SeqK.nx (by assumption) ?_
  refine k_seq (fun Q K => ?_)
  refine k_seq (fun Q K => ?_)
  refine k_lin (fun W K => ?_)
  refine l_op 0 rfl rfl rfl rfl rfl ?_
  refine l_nil (WK.nx (by assumption) ?_)
  refine SeqK.nx (by assumption) ?_
  refine k_block (fun Q K => ?_)
  refine k_loop (α := Int) (fun i s => Facts E0 σ s [] ∧ 0 ≤ i ∧ i ≤ xs.length ∧ xs.take i.toNat = ys.take i.toNat) (fun i => [(0, .slice a xs.length c1), (1, .slice b ys.length c2), (5, .int .i64 i)]) (fun i => (xs.length - i).toNat) 0 ⟨F, by omega, by omega, by simp⟩ (by repeat (first | exact trivial | refine And.intro rfl ?_)) ?_
  clear F
  rintro i env s Q K0 ⟨F, i0, i1, hI⟩
  refine k_seq (fun Q K => ?_)
  refine k_seq (fun Q K => ?_)
  refine k_lin (fun W K => ?_)
  refine l_op 0 rfl rfl rfl rfl rfl ?_
  refine l_op 0 rfl rfl rfl rfl rfl ?_
  first | refine l_op 2 rfl rfl rfl rfl rfl ?_ | refine l_ln rfl rfl rfl rfl ?_
  refine l_cmp rfl rfl rfl rfl ?_
  refine l_nil (WK.nx (by assumption) ?_)
  refine SeqK.nx (by assumption) ?_
  refine l_cond rfl rfl (fun hc2 => ?_) (fun hc2 => ?_)
  · replace hc2 := of_decide_eq_true ((irr_eq _).symm.trans hc2)
    refine k_skip ?_
    refine SeqK.nx (by assumption) ?_
    refine k_seq (fun Q K => ?_)
    refine k_block (fun Q K => ?_)
    refine k_seq (fun Q K => ?_)
    refine k_linm [0, 1, 2, 4, 5, 6, 3, 7, 8] mixed (by kernel_rfl) (fun W K => ?_)
    try have hpS := F.pns
    refine l_op 0 rfl rfl rfl rfl rfl ?_
    refine l_op 0 rfl rfl rfl rfl rfl ?_
    refine l_ixrs (e := eB) F h1 ⟨eB_len, by decide⟩ rfl rfl rfl rfl rfl rfl (by omega) (fun m19 b19 hA19 hS19 => ?_)
    refine l_op 0 rfl rfl rfl rfl rfl ?_
    refine l_op 0 rfl rfl rfl rfl rfl ?_
    refine l_ixrs (e := eB) F h2 ⟨eB_len, by decide⟩ rfl rfl rfl rfl rfl rfl (by omega) (fun m23 b23 hA23 hS23 => ?_)
    refine l_lda (ws := eB (xs.getD i.toNat default)) rfl rfl rfl rfl rfl hA19 ?_
    have hpS := PnS.add hpS hS19
    refine l_lda (ws := eB (ys.getD i.toNat default)) rfl rfl rfl rfl rfl hA23 ?_
    have hpS := PnS.add hpS hS23
    refine l_cm2 (ng := true) (a0 := (xs.getD i.toNat default).1) (a1 := (xs.getD i.toNat default).2) (b0 := (ys.getD i.toNat default).1) (b1 := (ys.getD i.toNat default).2) (by kernel_rfl) rfl rfl ?_
    refine l_nil (WK.nx (by assumption) ?_)
    refine SeqK.nx (by assumption) ?_
    refine l_cond rfl rfl (fun hc3 => ?_) (fun hc3 => ?_)
    · try simp only [irr_eq, beq_iff_eq, bne_iff_ne, beq_eq_false_iff_ne, bne_eq_false_iff_eq, ne_eq, decide_eq_true_eq, decide_eq_false_iff_not, Bool.not_eq_true', Bool.not_eq_false'] at hc3
      have hne : xs.getD i.toNat default ≠ ys.getD i.toNat default := fun e => by rw [e] at hc3; simp at hc3
      refine k_seq (fun Q K => ?_)
      refine k_lin (fun W K => ?_)
      refine l_op 0 rfl rfl rfl rfl rfl ?_
      refine l_nil (WK.nx (by assumption) ?_)
      refine SeqK.nx (by assumption) ?_
      refine k_ret ?_
      refine BlkK.rt (by assumption) ?_
      refine SeqK.rt (by assumption) ?_
      refine LoopK.rt (by assumption) ?_
      refine BlkK.rt (by assumption) ?_
      refine SeqK.rt (by assumption) ?_
      refine FunK.rt (by assumption) rfl ?_
      -- leaf 2
      refine ⟨(), ?_, F.pick [] (by decide), trivial⟩
      show Value.bool _ = Value.bool _
      rw [irr_eq]
      first
        | (rw [decide_eq_false (fun e => hne (by rw [e]))]; done)
        | (rw [decide_eq_false (fun e => hc1 (by rw [e]))]; done)
        | (rw [decide_eq_true (by rw [List.take_of_length_le (by omega), List.take_of_length_le (by omega)] at hI; exact hI)])
    try simp only [irr_eq, beq_iff_eq, bne_iff_ne, beq_eq_false_iff_ne, bne_eq_false_iff_eq, ne_eq, decide_eq_true_eq, decide_eq_false_iff_not, Bool.not_eq_true', Bool.not_eq_false'] at hc3
    have heq : xs.getD i.toNat default = ys.getD i.toNat default := by
      simp only [if_true, Bool.not_eq_false', Bool.and_eq_true, beq_iff_eq] at hc3
      exact Prod.ext hc3.1 hc3.2
    refine k_skip ?_
    refine BlkK.nx (by assumption) ?_
    refine SeqK.nx (by assumption) ?_
    refine k_lin (fun W K => ?_)
    refine l_op 0 rfl rfl rfl rfl rfl ?_
    refine l_a64 rfl rfl rfl (by omega) rfl ?_
    refine l_op 0 rfl rfl rfl rfl rfl ?_
    refine l_nil (WK.nx (by assumption) ?_)
    have e1 : (i + 1).toNat = i.toNat + 1 := by omega
    have e2 : xs.take (i.toNat + 1) = ys.take (i.toNat + 1) := by
      rw [List.take_add_one, List.take_add_one, hI]
      have h3 : i.toNat < xs.length := by omega
      have h4 : i.toNat < ys.length := by omega
      simp only [List.getD, List.getElem?_eq_getElem h3, List.getElem?_eq_getElem h4, Option.getD_some] at heq
      rw [List.getElem?_eq_getElem h3, List.getElem?_eq_getElem h4, heq]
    exact K0.nx (i + 1) (by repeat (first | exact trivial | refine And.intro rfl ?_)) ⟨F.pick [] (by decide), by omega, by omega, by rw [e1]; exact e2⟩ (by first | omega | (simp only; omega))
  replace hc2 := of_decide_eq_false ((irr_eq _).symm.trans hc2)
  refine k_exit ?_
  refine SeqK.et (by assumption) ?_
  refine LoopK.et (by assumption) ?_
  refine BlkK.et (by assumption) ?_
  refine SeqK.nx (by assumption) ?_
  refine k_seq (fun Q K => ?_)
  refine k_lin (fun W K => ?_)
  refine l_op 0 rfl rfl rfl rfl rfl ?_
  refine l_nil (WK.nx (by assumption) ?_)
  refine SeqK.nx (by assumption) ?_
  refine k_ret ?_
  refine FunK.rt (by assumption) rfl ?_
  -- leaf 3
  refine ⟨(), ?_, F.pick [] (by decide), trivial⟩
  show Value.bool _ = Value.bool _
  rw [irr_eq]
  first
    | (rw [decide_eq_false (fun e => hne (by rw [e]))]; done)
    | (rw [decide_eq_false (fun e => hc1 (by rw [e]))]; done)
    | (rw [decide_eq_true (by rw [List.take_of_length_le (by omega), List.take_of_length_le (by omega)] at hI; exact hI)])

end Go.Proofs.Ytkealnppdblgiaa
