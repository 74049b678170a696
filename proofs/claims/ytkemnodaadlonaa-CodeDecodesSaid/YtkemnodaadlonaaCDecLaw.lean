/- The law of reading. No statement of the seat is proved in this text. -/
import Derived.Test.YtkemnodaadlonaaCRDec
set_option linter.unusedVariables false
set_option linter.unusedSimpArgs false
set_option maxRecDepth 100000
set_option maxHeartbeats 4000000
namespace Go.Proofs.Ytkemnodaadlonaa
open GAb Go

theorem vals_len {bs : List Int} : ∀ (ms : List Int) (q : Int) {r : List (Int × Int) × Int}, valsR bs q ms = some r → r.1.length = ms.length
  | [], q, r, h => by cases h; rfl
  | m :: ms, q, r, h => by
    simp only [valsR] at h
    split at h
    · cases h1 : valsR bs q ms with
      | none => rw [h1] at h; cases h
      | some r1 =>
        rw [h1] at h
        cases h
        simp only [List.length_cons, vals_len ms q h1]
    · split at h
      · cases h
      · cases h1 : valsR bs (q + szm m) ms with
        | none => rw [h1] at h; cases h
        | some r1 =>
          rw [h1] at h
          cases h
          simp only [List.length_cons, vals_len ms _ h1]
theorem dec_len (bs : List Int) (at_ : Int) : (decR sgR bs at_).2.1.length ≤ 8 := by
  unfold decR
  split
  · exact Nat.zero_le _
  · split
    · exact Nat.zero_le _
    · split
      · exact Nat.zero_le _
      · rename_i s hs
        have h8 := sg_len hs
        split
        · exact Nat.zero_le _
        · split
          · exact Nat.zero_le _
          · split
            · exact Nat.zero_le _
            · rename_i ars q hv
              have := vals_len _ _ hv
              rw [modes_len] at this
              simp only at this ⊢
              omega
theorem decode_any {σ : AState} {a : Option Addr} {l c : Nat} {bs : List Int} {at_ : Int} (h : Old E0 σ a l c 1 (u8l bs)) (hB : Bytes bs) (hl : l ≤ 1000000) :
    SCall Try.prog E0 14 [.slice a l c, .int .i64 at_] σ (Ret E0 σ (decV (decR sgR bs at_)) (fun y => [own y.1 (decR sgR bs at_).2.1.length y.2 2 (rows eO (decR sgR bs at_).2.1)]) fun _ => True) := by
  by_cases hat : at_ ≤ 1000000000
  · exact decode_call h hB hl hat
  have hbl := h.len8
  have hnum0 : numR bs at_ = none := by unfold numR; rw [if_pos (by omega)]
  have hr : decR sgR bs at_ = (0, [], 0, 90) := by unfold decR; rw [if_neg (by omega), hnum0]
  refine k_fun Try.func14 rfl (m := 135) rfl fun B hD Q K => ?_
  have F := (Facts.nil E0 σ).nilrow 2
  refine k_seq (fun Q K => ?_)
  refine k_lin (fun W K => ?_)
  refine l_al F rfl rfl rfl rfl (fun q4 s F => ?_)
  (try dsimp only [n_1, n_2, n_3, n_4, List.append_nil, pk, n_5, n_6] at F)
  refine l_op 0 rfl rfl rfl rfl rfl ?_
  refine l_op 0 rfl rfl rfl rfl rfl ?_
  refine l_nil (WK.nx (by assumption) ?_)
  refine SeqK.nx (by assumption) ?_
  refine k_seq (fun Q K => ?_)
  refine k_seq (fun Q K => ?_)
  refine k_lin (fun W K => ?_)
  refine l_op 0 rfl rfl rfl rfl rfl ?_
  refine l_cmp rfl rfl rfl rfl ?_
  refine l_nil (WK.nx (by assumption) ?_)
  refine SeqK.nx (by assumption) ?_
  refine l_cond rfl rfl (fun hc1 => ?_) (fun hc1 => ?_)
  · replace hc1 := of_decide_eq_true ((irr_eq _).symm.trans hc1)
    omega
  replace hc1 := of_decide_eq_false ((irr_eq _).symm.trans hc1)
  refine k_skip ?_
  refine SeqK.nx (by assumption) ?_
  refine k_seq (fun Q K => ?_)
  refine k_lin (fun W K => ?_)
  refine l_op 0 rfl rfl rfl rfl rfl ?_
  refine l_op 0 rfl rfl rfl rfl rfl ?_
  refine l_callp F rfl rfl (by kernel_rfl) rfl rfl (numberF_call (Old.pure (F.old h)) hB (by omega) (by omega)) (fun _ s F _ => ?_)
  rw [hnum0]
  (try dsimp only [n_1, n_2, n_3, n_4, List.append_nil, pk, n_5, n_6] at F)
  refine l_op 0 rfl rfl rfl rfl rfl ?_
  refine l_op 2 rfl rfl rfl rfl rfl ?_
  refine l_op 2 rfl rfl rfl rfl rfl ?_
  refine l_op 2 rfl rfl rfl rfl rfl ?_
  refine l_op 0 rfl rfl rfl rfl rfl ?_
  refine l_op 0 rfl rfl rfl rfl rfl ?_
  refine l_op 0 rfl rfl rfl rfl rfl ?_
  refine l_nil (WK.nx (by assumption) ?_)
  refine SeqK.nx (by assumption) ?_
  refine k_seq (fun Q K => ?_)
  refine k_seq (fun Q K => ?_)
  refine k_lin (fun W K => ?_)
  refine l_op 0 rfl rfl rfl rfl rfl ?_
  refine l_cmp rfl rfl rfl rfl ?_
  refine l_nil (WK.nx (by assumption) ?_)
  refine SeqK.nx (by assumption) ?_
  refine l_cond rfl rfl (fun hc2 => ?_) (fun hc2 => ?_)
  · first | replace hc2 := bne_iff_ne.1 ((irr_eq _).symm.trans hc2) | simp only [irr_eq, bne_iff_ne, bne_eq_false_iff_eq, ne_eq, decide_eq_true_eq, decide_eq_false_iff_not, Bool.not_eq_true', Bool.not_eq_false'] at hc2
    refine k_seq (fun Q K => ?_)
    refine k_lin (fun W K => ?_)
    refine l_ldca F 1 rfl rfl rfl rfl rfl rfl rfl ?_
    refine l_op 0 rfl rfl rfl rfl rfl ?_
    refine l_stca F 1 rfl rfl rfl rfl rfl rfl rfl rfl rfl rfl hD rfl (fun s F => ?_)
    (try dsimp only [n_1, n_2, n_3, n_4, List.append_nil, pk, n_5, n_6] at F)
    refine l_op 0 rfl rfl rfl rfl rfl ?_
    refine l_op 0 rfl rfl rfl rfl rfl ?_
    refine l_nil (WK.nx (by assumption) ?_)
    refine SeqK.nx (by assumption) ?_
    refine k_ret ?_
    refine SeqK.rt (by assumption) ?_
    first | refine FunK.rtc (by assumption) (res_cell F 0 rfl rfl (by kernel_rfl) (resE_rsv rfl)) ?_ | refine FunK.rtc (by assumption) (res_cell F 1 rfl rfl (by kernel_rfl) (resE_rsv rfl)) ?_ | refine FunK.rtc (by assumption) (res_cell F 2 rfl rfl (by kernel_rfl) (resE_rsv rfl)) ?_ | refine FunK.rtc (by assumption) (res_cell F 3 rfl rfl (by kernel_rfl) (resE_rsv rfl)) ?_ | refine FunK.rtc (by assumption) (res_cell F 4 rfl rfl (by kernel_rfl) (resE_rsv rfl)) ?_ | refine FunK.rtc (by assumption) (res_cell F 5 rfl rfl (by kernel_rfl) (resE_rsv rfl)) ?_ | refine FunK.rtc (by assumption) (res_cell F 6 rfl rfl (by kernel_rfl) (resE_rsv rfl)) ?_ | refine FunK.rtc (by assumption) (res_cell F 7 rfl rfl (by kernel_rfl) (resE_rsv rfl)) ?_
    -- leaf 1
    rw [hr]
    exact ⟨(none, 0), rfl, F.pick [0] (by decide), trivial⟩
  first | replace hc2 := bne_eq_false_iff_eq.1 ((irr_eq _).symm.trans hc2) | simp only [irr_eq, bne_iff_ne, bne_eq_false_iff_eq, ne_eq, decide_eq_true_eq, decide_eq_false_iff_not, Bool.not_eq_true', Bool.not_eq_false'] at hc2
  exfalso; revert hc2; decide

theorem decodes_law {σ : AState} {a : Option Addr} {l c : Nat} {bs : List Int} {at_ : Int} (h : Old E0 σ a l c 1 (u8l bs)) (hB : Bytes bs) :
    SCall Try.prog E0 3 [.slice a l c, .int .i64 at_] σ (fun v _ => v = .bool true) := by
  have hbl := h.len8
  have hcut : (bs ++ [77]).take l = bs := by rw [List.take_append_of_le_length (by omega), List.take_of_length_le (by omega)]
  refine k_fun Try.func3 rfl (m := 54) rfl fun B hD Q K => ?_
  have F := Facts.nil E0 σ
  refine k_seq (fun Q K => ?_)
  refine k_lin (fun W K => ?_)
  refine l_op 0 rfl rfl rfl rfl rfl ?_
  refine l_nil (WK.nx (by assumption) ?_)
  refine SeqK.nx (by assumption) ?_
  refine k_seq (fun Q K => ?_)
  refine k_seq (fun Q K => ?_)
  refine k_lin (fun W K => ?_)
  refine l_op 0 rfl rfl rfl rfl rfl ?_
  first | refine l_op 2 rfl rfl rfl rfl rfl ?_ | refine l_ln rfl rfl rfl rfl ?_
  refine l_cmp rfl rfl rfl rfl ?_
  refine l_nil (WK.nx (by assumption) ?_)
  refine SeqK.nx (by assumption) ?_
  refine l_cond rfl rfl (fun hc1 => ?_) (fun hc1 => ?_)
  · replace hc1 := of_decide_eq_true ((irr_eq _).symm.trans hc1)
    refine k_seq (fun Q K => ?_)
    refine k_lin (fun W K => ?_)
    refine l_callv rfl rfl (by kernel_rfl) rfl rfl (live_call _ _) ?_
    (try dsimp only [n_1, n_2, n_3, n_4, List.append_nil, pk, n_5, n_6] at F)
    refine l_op 0 rfl rfl rfl rfl rfl ?_
    refine l_nil (WK.nx (by assumption) ?_)
    refine SeqK.nx (by assumption) ?_
    refine k_ret ?_
    refine SeqK.rt (by assumption) ?_
    refine FunK.rt (by assumption) rfl ?_
    -- leaf 1
    rfl
  replace hc1 := of_decide_eq_false ((irr_eq _).symm.trans hc1)
  refine k_skip ?_
  refine SeqK.nx (by assumption) ?_
  refine k_seq (fun Q K => ?_)
  refine k_lin (fun W K => ?_)
  refine l_op 0 rfl rfl rfl rfl rfl ?_
  refine l_callp F rfl rfl (by kernel_rfl) rfl rfl (lent_call (Old.pure (F.old h)) (by omega)) (fun y0 s F _ => ?_)
  (try dsimp only [n_1, n_2, n_3, n_4, List.append_nil, pk, n_5, n_6] at F)
  refine l_op 0 rfl rfl rfl rfl rfl ?_
  refine l_nil (WK.nx (by assumption) ?_)
  refine SeqK.nx (by assumption) ?_
  refine k_seq (fun Q K => ?_)
  refine k_lin (fun W K => ?_)
  refine l_op 0 rfl rfl rfl rfl rfl ?_
  refine l_op 0 rfl rfl rfl rfl rfl ?_
  have hc0 := (F.has 0 rfl).upto8 (hi := l) (by omega)
  rw [hcut] at hc0
  refine l_callp F rfl rfl (by kernel_rfl) rfl rfl (decode_any (Old.pure hc0) hB (by omega)) (fun y1 s F _ => ?_)
  (try dsimp only [n_1, n_2, n_3, n_4, List.append_nil, pk, n_5, n_6] at F)
  refine l_op 0 rfl rfl rfl rfl rfl ?_
  refine l_op 2 rfl rfl rfl rfl rfl ?_
  refine l_op 2 rfl rfl rfl rfl rfl ?_
  refine l_op 2 rfl rfl rfl rfl rfl ?_
  refine l_al F rfl rfl rfl rfl (fun q6 s F => ?_)
  (try dsimp only [n_1, n_2, n_3, n_4, List.append_nil, pk, n_5, n_6] at F)
  refine l_stca F 2 rfl rfl rfl rfl rfl rfl rfl rfl rfl rfl hD rfl (fun s F => ?_)
  (try dsimp only [n_1, n_2, n_3, n_4, List.append_nil, pk, n_5, n_6] at F)
  refine l_op 0 rfl rfl rfl rfl rfl ?_
  refine l_op 0 rfl rfl rfl rfl rfl ?_
  refine l_nil (WK.nx (by assumption) ?_)
  refine SeqK.nx (by assumption) ?_
  refine k_seq (fun Q K => ?_)
  refine k_lin (fun W K => ?_)
  refine l_op 0 rfl rfl rfl rfl rfl ?_
  refine l_op 0 rfl rfl rfl rfl rfl ?_
  refine l_callp F rfl rfl (by kernel_rfl) rfl rfl (rdecode_call (Old.pure (F.old h)) hB (by omega)) (fun y2 s F _ => ?_)
  (try dsimp only [n_1, n_2, n_3, n_4, List.append_nil, pk, n_5, n_6] at F)
  refine l_op 0 rfl rfl rfl rfl rfl ?_
  refine l_op 2 rfl rfl rfl rfl rfl ?_
  refine l_op 2 rfl rfl rfl rfl rfl ?_
  refine l_op 2 rfl rfl rfl rfl rfl ?_
  refine l_al F rfl rfl rfl rfl (fun q9 s F => ?_)
  (try dsimp only [n_1, n_2, n_3, n_4, List.append_nil, pk, n_5, n_6] at F)
  refine l_stca F 4 rfl rfl rfl rfl rfl rfl rfl rfl rfl rfl hD rfl (fun s F => ?_)
  (try dsimp only [n_1, n_2, n_3, n_4, List.append_nil, pk, n_5, n_6] at F)
  refine l_op 0 rfl rfl rfl rfl rfl ?_
  refine l_op 0 rfl rfl rfl rfl rfl ?_
  refine l_nil (WK.nx (by assumption) ?_)
  refine SeqK.nx (by assumption) ?_
  refine k_seq (fun Q K => ?_)
  refine k_lin (fun W K => ?_)
  refine l_ldca F 2 rfl rfl rfl rfl rfl rfl rfl ?_
  refine l_ldca F 4 rfl rfl rfl rfl rfl rfl rfl ?_
  refine l_callp F rfl rfl (by kernel_rfl) rfl rfl (sameI_call (Old.pure (F.has 1 rfl)) (Old.pure (F.has 3 rfl)) (by have := dec_len bs at_; omega)) (fun _ s F _ => ?_)
  (try dsimp only [n_1, n_2, n_3, n_4, List.append_nil, pk, n_5, n_6] at F)
  refine l_op 0 rfl rfl rfl rfl rfl ?_
  refine l_guard rfl rfl rfl (fun hc2 => ?_) (fun hc2 => ?_)
  · try simp only [irr_eq, beq_iff_eq, bne_iff_ne, beq_eq_false_iff_ne, bne_eq_false_iff_eq, ne_eq, decide_eq_true_eq, decide_eq_false_iff_not, Bool.not_eq_true', Bool.not_eq_false'] at hc2
    refine l_op 0 rfl rfl rfl rfl rfl ?_
    refine l_op 0 rfl rfl rfl rfl rfl ?_
    refine l_cmp rfl rfl rfl rfl ?_
    refine l_op 2 rfl rfl rfl rfl rfl ?_
    refine l_op 0 rfl rfl rfl rfl rfl ?_
    refine l_guard rfl rfl rfl (fun hc3 => ?_) (fun hc3 => ?_)
    · first | replace hc3 := eq_of_beq ((irr_eq _).symm.trans hc3) | simp only [irr_eq, beq_iff_eq, beq_eq_false_iff_ne, ne_eq, decide_eq_true_eq, decide_eq_false_iff_not] at hc3
      refine l_op 0 rfl rfl rfl rfl rfl ?_
      refine l_callv rfl rfl (by kernel_rfl) rfl rfl num11_call ?_
      (try dsimp only [n_1, n_2, n_3, n_4, List.append_nil, pk, n_5, n_6] at F)
      refine l_op 0 rfl rfl rfl rfl rfl ?_
      refine l_cmp rfl rfl rfl rfl ?_
      refine l_op 2 rfl rfl rfl rfl rfl ?_
      refine l_op 0 rfl rfl rfl rfl rfl ?_
      refine l_guard rfl rfl rfl (fun hc4 => ?_) (fun hc4 => ?_)
      · first | replace hc4 := eq_of_beq ((irr_eq _).symm.trans hc4) | simp only [irr_eq, beq_iff_eq, beq_eq_false_iff_ne, ne_eq, decide_eq_true_eq, decide_eq_false_iff_not] at hc4
        refine l_op 0 rfl rfl rfl rfl rfl ?_
        refine l_op 0 rfl rfl rfl rfl rfl ?_
        refine l_callp F rfl rfl (by kernel_rfl) rfl rfl (kept_call (Old.pure (F.has 0 rfl)) (Old.pure (F.old h)) rfl (by omega)) (fun _ s F _ => ?_)
        (try dsimp only [n_1, n_2, n_3, n_4, List.append_nil, pk, n_5, n_6] at F)
        refine l_op 2 rfl rfl rfl rfl rfl ?_
        refine l_op 0 rfl rfl rfl rfl rfl ?_
        refine l_guard rfl rfl rfl (fun hc5 => ?_) (fun hc5 => ?_)
        · try simp only [irr_eq, beq_iff_eq, bne_iff_ne, beq_eq_false_iff_ne, bne_eq_false_iff_eq, ne_eq, decide_eq_true_eq, decide_eq_false_iff_not, Bool.not_eq_true', Bool.not_eq_false'] at hc5
          refine l_callv rfl rfl (by kernel_rfl) rfl rfl (live_call _ _) ?_
          (try dsimp only [n_1, n_2, n_3, n_4, List.append_nil, pk, n_5, n_6] at F)
          refine l_op 2 rfl rfl rfl rfl rfl ?_
          refine l_op 0 rfl rfl rfl rfl rfl ?_
          refine l_nil (WK.nx (by assumption) ?_)
          refine SeqK.nx (by assumption) ?_
          refine k_ret ?_
          refine FunK.rt (by assumption) rfl ?_
          -- leaf 2
          rfl
        cases hc5
      first | replace hc4 := ne_of_beq_false ((irr_eq _).symm.trans hc4) | simp only [irr_eq, beq_iff_eq, beq_eq_false_iff_ne, ne_eq, decide_eq_true_eq, decide_eq_false_iff_not] at hc4
      exact absurd rfl hc4
    first | replace hc3 := ne_of_beq_false ((irr_eq _).symm.trans hc3) | simp only [irr_eq, beq_iff_eq, beq_eq_false_iff_ne, ne_eq, decide_eq_true_eq, decide_eq_false_iff_not] at hc3
    exact absurd rfl hc3
  exact absurd ((irr_eq _).symm.trans hc2) (by simp)

end Go.Proofs.Ytkemnodaadlonaa
