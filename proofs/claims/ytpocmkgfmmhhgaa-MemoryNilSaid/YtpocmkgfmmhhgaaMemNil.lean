/- The law of a nil memory. No statement of the seat is proved in this text. -/
import Derived.Test.YtpocmkgfmmhhgaaMemE
import Derived.Test.YtpocmkgfmmhhgaaNil
set_option linter.unusedVariables false
set_option linter.unusedSimpArgs false
set_option maxRecDepth 100000
set_option maxHeartbeats 4000000
namespace Go.Proofs.Ytpocmkgfmmhhgaa
open GAb Go

theorem nil9_law {σ : AState} {a n : Int} {x : Option Addr} {l c : Nat} : SCall Try.prog E0 7 [.int .u32 a, .int .i64 n, .slice x l c] σ (fun v _ => v = .bool true) := by
  refine k_fun Try.func7 rfl (m := 138) rfl fun B hD Q K => ?_
  have F := Facts.nil E0 σ
  refine k_seq (fun Q K => ?_)
  refine k_lin (fun W K => ?_)
  refine l_op 0 rfl rfl rfl rfl rfl ?_
  refine l_nil (WK.nx (by assumption) ?_)
  refine SeqK.nx (by assumption) ?_
  refine k_seq (fun Q K => ?_)
  refine k_seq (fun Q K => ?_)
  refine k_lin (fun W K => ?_)
  refine l_op 0 rfl rfl rfl rfl rfl ?_
  first | refine l_op 2 rfl rfl rfl rfl rfl ?_ | refine l_ln rfl rfl rfl rfl ?_
  refine l_cmp rfl rfl rfl rfl ?_
  refine l_nil (WK.nx (by assumption) ?_)
  refine SeqK.nx (by assumption) ?_
  refine l_cond rfl rfl (fun hc1 => ?_) (fun hc1 => ?_)
  · replace hc1 := of_decide_eq_true ((irr_eq _).symm.trans hc1)
    refine k_seq (fun Q K => ?_)
    refine k_lin (fun W K => ?_)
    refine l_callp F rfl rfl (by kernel_rfl) rfl rfl (live9_call E0) (fun _ s F _ => ?_)
    (try dsimp only [n_1, n_2, n_3, n_4, List.append_nil, pk, n_5, n_6] at F)
    refine l_op 0 rfl rfl rfl rfl rfl ?_
    refine l_nil (WK.nx (by assumption) ?_)
    refine SeqK.nx (by assumption) ?_
    refine k_ret ?_
    refine SeqK.rt (by assumption) ?_
    refine FunK.rt (by assumption) rfl ?_
    -- leaf 1
    first
    | rfl
    | exact absurd (by assumption : false = true) (by decide)
    | exact absurd (by assumption : true = false) (by decide)
    | exact absurd rfl (by assumption)
    | (exfalso; omega)
  replace hc1 := of_decide_eq_false ((irr_eq _).symm.trans hc1)
  refine k_skip ?_
  refine SeqK.nx (by assumption) ?_
  refine k_seq (fun Q K => ?_)
  refine k_lin (fun W K => ?_)
  refine l_op 0 rfl rfl rfl rfl rfl ?_
  refine l_nil (WK.nx (by assumption) ?_)
  refine SeqK.nx (by assumption) ?_
  refine k_seq (fun Q K => ?_)
  refine k_lin (fun W K => ?_)
  refine l_op 0 rfl rfl rfl rfl rfl ?_
  refine l_op 0 rfl rfl rfl rfl rfl ?_
  refine l_op 0 rfl rfl rfl rfl rfl ?_
  refine l_callv rfl rfl (by kernel_rfl) rfl rfl (nil18 _ a _) ?_
  (try dsimp only [n_1, n_2, n_3, n_4, List.append_nil, pk, n_5, n_6] at F)
  refine l_nil (WK.nx (by assumption) ?_)
  refine SeqK.nx (by assumption) ?_
  refine k_seq (fun Q K => ?_)
  refine k_lin (fun W K => ?_)
  refine l_op 0 rfl rfl rfl rfl rfl ?_
  refine l_callv rfl rfl (by kernel_rfl) rfl rfl (nil19 _ _) ?_
  (try dsimp only [n_1, n_2, n_3, n_4, List.append_nil, pk, n_5, n_6] at F)
  refine l_nil (WK.nx (by assumption) ?_)
  refine SeqK.nx (by assumption) ?_
  refine k_seq (fun Q K => ?_)
  refine k_lin (fun W K => ?_)
  refine l_op 0 rfl rfl rfl rfl rfl ?_
  refine l_op 0 rfl rfl rfl rfl rfl ?_
  refine l_op 0 rfl rfl rfl rfl rfl ?_
  refine l_callv rfl rfl (by kernel_rfl) rfl rfl (nil15 _ a n _) ?_
  (try dsimp only [n_1, n_2, n_3, n_4, List.append_nil, pk, n_5, n_6] at F)
  refine l_op 0 rfl rfl rfl rfl rfl ?_
  refine l_op 2 rfl rfl rfl rfl rfl ?_
  refine l_op 2 rfl rfl rfl rfl rfl ?_
  refine l_op 0 rfl rfl rfl rfl rfl ?_
  refine l_op 0 rfl rfl rfl rfl rfl ?_
  refine l_nil (WK.nx (by assumption) ?_)
  refine SeqK.nx (by assumption) ?_
  refine k_seq (fun Q K => ?_)
  refine k_lin (fun W K => ?_)
  refine l_op 0 rfl rfl rfl rfl rfl ?_
  refine l_callv rfl rfl (by kernel_rfl) rfl rfl (nil21 _ _) ?_
  (try dsimp only [n_1, n_2, n_3, n_4, List.append_nil, pk, n_5, n_6] at F)
  refine l_op 0 rfl rfl rfl rfl rfl ?_
  refine l_op 2 rfl rfl rfl rfl rfl ?_
  refine l_op 2 rfl rfl rfl rfl rfl ?_
  refine l_op 0 rfl rfl rfl rfl rfl ?_
  refine l_op 0 rfl rfl rfl rfl rfl ?_
  refine l_nil (WK.nx (by assumption) ?_)
  refine SeqK.nx (by assumption) ?_
  refine k_seq (fun Q K => ?_)
  refine k_lin (fun W K => ?_)
  refine l_op 0 rfl rfl rfl rfl rfl ?_
  refine l_nil (WK.nx (by assumption) ?_)
  refine SeqK.nx (by assumption) ?_
  refine k_seq (fun Q K => ?_)
  refine k_lin (fun W K => ?_)
  refine l_op 0 rfl rfl rfl rfl rfl ?_
  refine l_cmp rfl rfl rfl rfl ?_
  refine l_op 0 rfl rfl rfl rfl rfl ?_
  refine l_guard rfl rfl rfl (fun hc2 => ?_) (fun hc2 => ?_)
  · first | replace hc2 := eq_of_beq ((irr_eq _).symm.trans hc2) | simp only [irr_eq, beq_iff_eq, beq_eq_false_iff_ne, ne_eq, decide_eq_true_eq, decide_eq_false_iff_not] at hc2
    refine l_op 0 rfl rfl rfl rfl rfl ?_
    refine l_callv rfl rfl (by kernel_rfl) rfl rfl num9_call ?_
    (try dsimp only [n_1, n_2, n_3, n_4, List.append_nil, pk, n_5, n_6] at F)
    refine l_op 0 rfl rfl rfl rfl rfl ?_
    refine l_cmp rfl rfl rfl rfl ?_
    refine l_op 2 rfl rfl rfl rfl rfl ?_
    refine l_op 0 rfl rfl rfl rfl rfl ?_
    refine l_guard rfl rfl rfl (fun hc3 => ?_) (fun hc3 => ?_)
    · first | replace hc3 := eq_of_beq ((irr_eq _).symm.trans hc3) | simp only [irr_eq, beq_iff_eq, beq_eq_false_iff_ne, ne_eq, decide_eq_true_eq, decide_eq_false_iff_not] at hc3
      refine l_op 0 rfl rfl rfl rfl rfl ?_
      refine l_op 0 rfl rfl rfl rfl rfl ?_
      refine l_op 0 rfl rfl rfl rfl rfl ?_
      refine l_callv rfl rfl (by kernel_rfl) rfl rfl (nil12 _ a n _) ?_
      (try dsimp only [n_1, n_2, n_3, n_4, List.append_nil, pk, n_5, n_6] at F)
      refine l_callv rfl rfl (by kernel_rfl) rfl rfl num9_call ?_
      (try dsimp only [n_1, n_2, n_3, n_4, List.append_nil, pk, n_5, n_6] at F)
      refine l_op 0 rfl rfl rfl rfl rfl ?_
      refine l_cmp rfl rfl rfl rfl ?_
      refine l_op 2 rfl rfl rfl rfl rfl ?_
      refine l_op 0 rfl rfl rfl rfl rfl ?_
      refine l_guard rfl rfl rfl (fun hc4 => ?_) (fun hc4 => ?_)
      · first | replace hc4 := eq_of_beq ((irr_eq _).symm.trans hc4) | simp only [irr_eq, beq_iff_eq, beq_eq_false_iff_ne, ne_eq, decide_eq_true_eq, decide_eq_false_iff_not] at hc4
        refine l_op 0 rfl rfl rfl rfl rfl ?_
        refine l_op 0 rfl rfl rfl rfl rfl ?_
        refine l_op 0 rfl rfl rfl rfl rfl ?_
        refine l_callv rfl rfl (by kernel_rfl) rfl rfl (nil17 _ a _) ?_
        (try dsimp only [n_1, n_2, n_3, n_4, List.append_nil, pk, n_5, n_6] at F)
        refine l_callv rfl rfl (by kernel_rfl) rfl rfl num9_call ?_
        (try dsimp only [n_1, n_2, n_3, n_4, List.append_nil, pk, n_5, n_6] at F)
        refine l_op 0 rfl rfl rfl rfl rfl ?_
        refine l_cmp rfl rfl rfl rfl ?_
        refine l_op 2 rfl rfl rfl rfl rfl ?_
        refine l_op 0 rfl rfl rfl rfl rfl ?_
        refine l_guard rfl rfl rfl (fun hc5 => ?_) (fun hc5 => ?_)
        · first | replace hc5 := eq_of_beq ((irr_eq _).symm.trans hc5) | simp only [irr_eq, beq_iff_eq, beq_eq_false_iff_ne, ne_eq, decide_eq_true_eq, decide_eq_false_iff_not] at hc5
          refine l_op 0 rfl rfl rfl rfl rfl ?_
          refine l_op 0 rfl rfl rfl rfl rfl ?_
          refine l_op 0 rfl rfl rfl rfl rfl ?_
          refine l_op 0 rfl rfl rfl rfl rfl ?_
          refine l_callv rfl rfl (by kernel_rfl) rfl rfl (nil16 _ a _) ?_
          (try dsimp only [n_1, n_2, n_3, n_4, List.append_nil, pk, n_5, n_6] at F)
          refine l_callv rfl rfl (by kernel_rfl) rfl rfl num9_call ?_
          (try dsimp only [n_1, n_2, n_3, n_4, List.append_nil, pk, n_5, n_6] at F)
          refine l_op 0 rfl rfl rfl rfl rfl ?_
          refine l_cmp rfl rfl rfl rfl ?_
          refine l_op 2 rfl rfl rfl rfl rfl ?_
          refine l_op 0 rfl rfl rfl rfl rfl ?_
          refine l_guard rfl rfl rfl (fun hc6 => ?_) (fun hc6 => ?_)
          · first | replace hc6 := eq_of_beq ((irr_eq _).symm.trans hc6) | simp only [irr_eq, beq_iff_eq, beq_eq_false_iff_ne, ne_eq, decide_eq_true_eq, decide_eq_false_iff_not] at hc6
            refine l_op 0 rfl rfl rfl rfl rfl ?_
            refine l_op 0 rfl rfl rfl rfl rfl ?_
            refine l_callv rfl rfl (by kernel_rfl) rfl rfl (nil22 _ a _) ?_
            (try dsimp only [n_1, n_2, n_3, n_4, List.append_nil, pk, n_5, n_6] at F)
            refine l_op 2 rfl rfl rfl rfl rfl ?_
            refine l_op 2 rfl rfl rfl rfl rfl ?_
            refine l_op 0 rfl rfl rfl rfl rfl ?_
            refine l_guard rfl rfl rfl (fun hc7 => ?_) (fun hc7 => ?_)
            · try simp only [irr_eq, beq_iff_eq, bne_iff_ne, beq_eq_false_iff_ne, bne_eq_false_iff_eq, ne_eq, decide_eq_true_eq, decide_eq_false_iff_not, Bool.not_eq_true', Bool.not_eq_false'] at hc7
              refine l_op 0 rfl rfl rfl rfl rfl ?_
              refine l_op 0 rfl rfl rfl rfl rfl ?_
              refine l_callv rfl rfl (by kernel_rfl) rfl rfl (nil23 _ a _) ?_
              (try dsimp only [n_1, n_2, n_3, n_4, List.append_nil, pk, n_5, n_6] at F)
              refine l_cmp rfl rfl rfl rfl ?_
              refine l_op 2 rfl rfl rfl rfl rfl ?_
              refine l_op 0 rfl rfl rfl rfl rfl ?_
              refine l_guard rfl rfl rfl (fun hc8 => ?_) (fun hc8 => ?_)
              · first | replace hc8 := eq_of_beq ((irr_eq _).symm.trans hc8) | simp only [irr_eq, beq_iff_eq, beq_eq_false_iff_ne, ne_eq, decide_eq_true_eq, decide_eq_false_iff_not] at hc8
                refine l_op 0 rfl rfl rfl rfl rfl ?_
                refine l_op 0 rfl rfl rfl rfl rfl ?_
                refine l_callv rfl rfl (by kernel_rfl) rfl rfl (nil24 _ a _) ?_
                (try dsimp only [n_1, n_2, n_3, n_4, List.append_nil, pk, n_5, n_6] at F)
                refine l_callv rfl rfl (by kernel_rfl) rfl rfl num9_call ?_
                (try dsimp only [n_1, n_2, n_3, n_4, List.append_nil, pk, n_5, n_6] at F)
                refine l_op 0 rfl rfl rfl rfl rfl ?_
                refine l_cmp rfl rfl rfl rfl ?_
                refine l_op 2 rfl rfl rfl rfl rfl ?_
                refine l_op 0 rfl rfl rfl rfl rfl ?_
                refine l_guard rfl rfl rfl (fun hc9 => ?_) (fun hc9 => ?_)
                · first | replace hc9 := eq_of_beq ((irr_eq _).symm.trans hc9) | simp only [irr_eq, beq_iff_eq, beq_eq_false_iff_ne, ne_eq, decide_eq_true_eq, decide_eq_false_iff_not] at hc9
                  refine l_op 0 rfl rfl rfl rfl rfl ?_
                  refine l_op 0 rfl rfl rfl rfl rfl ?_
                  refine l_op 0 rfl rfl rfl rfl rfl ?_
                  refine l_callv rfl rfl (by kernel_rfl) rfl rfl (nil25 _ a x l c _) ?_
                  (try dsimp only [n_1, n_2, n_3, n_4, List.append_nil, pk, n_5, n_6] at F)
                  refine l_callv rfl rfl (by kernel_rfl) rfl rfl num9_call ?_
                  (try dsimp only [n_1, n_2, n_3, n_4, List.append_nil, pk, n_5, n_6] at F)
                  refine l_op 0 rfl rfl rfl rfl rfl ?_
                  refine l_cmp rfl rfl rfl rfl ?_
                  refine l_op 2 rfl rfl rfl rfl rfl ?_
                  refine l_op 0 rfl rfl rfl rfl rfl ?_
                  refine l_guard rfl rfl rfl (fun hc10 => ?_) (fun hc10 => ?_)
                  · first | replace hc10 := eq_of_beq ((irr_eq _).symm.trans hc10) | simp only [irr_eq, beq_iff_eq, beq_eq_false_iff_ne, ne_eq, decide_eq_true_eq, decide_eq_false_iff_not] at hc10
                    refine l_op 0 rfl rfl rfl rfl rfl ?_
                    refine l_cmp rfl rfl rfl rfl ?_
                    refine l_op 2 rfl rfl rfl rfl rfl ?_
                    refine l_op 0 rfl rfl rfl rfl rfl ?_
                    refine l_guard rfl rfl rfl (fun hc11 => ?_) (fun hc11 => ?_)
                    · first | replace hc11 := eq_of_beq ((irr_eq _).symm.trans hc11) | simp only [irr_eq, beq_iff_eq, beq_eq_false_iff_ne, ne_eq, decide_eq_true_eq, decide_eq_false_iff_not] at hc11
                      refine l_op 0 rfl rfl rfl rfl rfl ?_
                      first | refine l_op 2 rfl rfl rfl rfl rfl ?_ | refine l_ln rfl rfl rfl rfl ?_
                      refine l_cmp rfl rfl rfl rfl ?_
                      refine l_op 2 rfl rfl rfl rfl rfl ?_
                      refine l_op 0 rfl rfl rfl rfl rfl ?_
                      refine l_guard rfl rfl rfl (fun hc12 => ?_) (fun hc12 => ?_)
                      · first | replace hc12 := eq_of_beq ((irr_eq _).symm.trans hc12) | simp only [irr_eq, beq_iff_eq, beq_eq_false_iff_ne, ne_eq, decide_eq_true_eq, decide_eq_false_iff_not] at hc12
                        refine l_op 0 rfl rfl rfl rfl rfl ?_
                        refine l_callv rfl rfl (by kernel_rfl) rfl rfl (nil26 _ _) ?_
                        (try dsimp only [n_1, n_2, n_3, n_4, List.append_nil, pk, n_5, n_6] at F)
                        refine l_cmp rfl rfl rfl rfl ?_
                        refine l_op 2 rfl rfl rfl rfl rfl ?_
                        refine l_op 0 rfl rfl rfl rfl rfl ?_
                        refine l_guard rfl rfl rfl (fun hc13 => ?_) (fun hc13 => ?_)
                        · first | replace hc13 := eq_of_beq ((irr_eq _).symm.trans hc13) | simp only [irr_eq, beq_iff_eq, beq_eq_false_iff_ne, ne_eq, decide_eq_true_eq, decide_eq_false_iff_not] at hc13
                          refine l_op 0 rfl rfl rfl rfl rfl ?_
                          refine l_callv rfl rfl (by kernel_rfl) rfl rfl (nil27 _ _) ?_
                          (try dsimp only [n_1, n_2, n_3, n_4, List.append_nil, pk, n_5, n_6] at F)
                          refine l_bld rfl rfl rfl rfl ?_
                          refine l_cmp (b := true) rfl rfl (by kernel_rfl) rfl ?_
                          refine l_op 2 rfl rfl rfl rfl rfl ?_
                          refine l_op 0 rfl rfl rfl rfl rfl ?_
                          refine l_guard rfl rfl rfl (fun hc14 => ?_) (fun hc14 => ?_)
                          · try simp only [irr_eq, beq_iff_eq, bne_iff_ne, beq_eq_false_iff_ne, bne_eq_false_iff_eq, ne_eq, decide_eq_true_eq, decide_eq_false_iff_not, Bool.not_eq_true', Bool.not_eq_false'] at hc14
                            refine l_op 0 rfl rfl rfl rfl rfl ?_
                            refine l_callv rfl rfl (by kernel_rfl) rfl rfl (nil11 _ _) ?_
                            (try dsimp only [n_1, n_2, n_3, n_4, List.append_nil, pk, n_5, n_6] at F)
                            first | refine l_op 2 rfl rfl rfl rfl rfl ?_ | refine l_ln rfl rfl rfl rfl ?_
                            refine l_op 0 rfl rfl rfl rfl rfl ?_
                            refine l_callv rfl rfl (by kernel_rfl) rfl rfl (nil28 _ _) ?_
                            (try dsimp only [n_1, n_2, n_3, n_4, List.append_nil, pk, n_5, n_6] at F)
                            first | refine l_op 2 rfl rfl rfl rfl rfl ?_ | refine l_ln rfl rfl rfl rfl ?_
                            refine l_a64 rfl rfl rfl (by omega) rfl ?_
                            refine l_cmp rfl rfl rfl rfl ?_
                            refine l_op 2 rfl rfl rfl rfl rfl ?_
                            refine l_op 0 rfl rfl rfl rfl rfl ?_
                            refine l_guard rfl rfl rfl (fun hc15 => ?_) (fun hc15 => ?_)
                            · first | replace hc15 := eq_of_beq ((irr_eq _).symm.trans hc15) | simp only [irr_eq, beq_iff_eq, beq_eq_false_iff_ne, ne_eq, decide_eq_true_eq, decide_eq_false_iff_not] at hc15
                              refine l_op 0 rfl rfl rfl rfl rfl ?_
                              refine l_callv rfl rfl (by kernel_rfl) rfl rfl (nil29 _ _) ?_
                              (try dsimp only [n_1, n_2, n_3, n_4, List.append_nil, pk, n_5, n_6] at F)
                              refine l_cmp rfl rfl rfl rfl ?_
                              refine l_op 2 rfl rfl rfl rfl rfl ?_
                              refine l_op 0 rfl rfl rfl rfl rfl ?_
                              refine l_guard rfl rfl rfl (fun hc16 => ?_) (fun hc16 => ?_)
                              · first | replace hc16 := eq_of_beq ((irr_eq _).symm.trans hc16) | simp only [irr_eq, beq_iff_eq, beq_eq_false_iff_ne, ne_eq, decide_eq_true_eq, decide_eq_false_iff_not] at hc16
                                refine l_callp F rfl rfl (by kernel_rfl) rfl rfl (live9_call E0) (fun _ s F _ => ?_)
                                (try dsimp only [n_1, n_2, n_3, n_4, List.append_nil, pk, n_5, n_6] at F)
                                refine l_op 2 rfl rfl rfl rfl rfl ?_
                                refine l_op 0 rfl rfl rfl rfl rfl ?_
                                refine l_nil (WK.nx (by assumption) ?_)
                                refine SeqK.nx (by assumption) ?_
                                refine k_ret ?_
                                refine FunK.rt (by assumption) rfl ?_
                                -- leaf 2
                                first
                                | rfl
                                | exact absurd (by assumption : false = true) (by decide)
                                | exact absurd (by assumption : true = false) (by decide)
                                | exact absurd rfl (by assumption)
                                | (exfalso; omega)
                              first | replace hc16 := ne_of_beq_false ((irr_eq _).symm.trans hc16) | simp only [irr_eq, beq_iff_eq, beq_eq_false_iff_ne, ne_eq, decide_eq_true_eq, decide_eq_false_iff_not] at hc16
                              refine l_s rfl rfl ?_
                              refine l_op 2 rfl rfl rfl rfl rfl ?_
                              refine l_op 0 rfl rfl rfl rfl rfl ?_
                              refine l_nil (WK.nx (by assumption) ?_)
                              refine SeqK.nx (by assumption) ?_
                              refine k_ret ?_
                              refine FunK.rt (by assumption) rfl ?_
                              -- leaf 3
                              first
                              | rfl
                              | exact absurd (by assumption : false = true) (by decide)
                              | exact absurd (by assumption : true = false) (by decide)
                              | exact absurd rfl (by assumption)
                              | (exfalso; omega)
                            first | replace hc15 := ne_of_beq_false ((irr_eq _).symm.trans hc15) | simp only [irr_eq, beq_iff_eq, beq_eq_false_iff_ne, ne_eq, decide_eq_true_eq, decide_eq_false_iff_not] at hc15
                            refine l_s rfl rfl ?_
                            refine l_s rfl rfl ?_
                            refine l_s rfl rfl ?_
                            refine l_op 2 rfl rfl rfl rfl rfl ?_
                            refine l_op 0 rfl rfl rfl rfl rfl ?_
                            refine l_s rfl rfl ?_
                            refine l_op 2 rfl rfl rfl rfl rfl ?_
                            refine l_op 0 rfl rfl rfl rfl rfl ?_
                            refine l_nil (WK.nx (by assumption) ?_)
                            refine SeqK.nx (by assumption) ?_
                            refine k_ret ?_
                            refine FunK.rt (by assumption) rfl ?_
                            -- leaf 4
                            first
                            | rfl
                            | exact absurd (by assumption : false = true) (by decide)
                            | exact absurd (by assumption : true = false) (by decide)
                            | exact absurd rfl (by assumption)
                            | (exfalso; omega)
                          try simp only [irr_eq, beq_iff_eq, bne_iff_ne, beq_eq_false_iff_ne, bne_eq_false_iff_eq, ne_eq, decide_eq_true_eq, decide_eq_false_iff_not, Bool.not_eq_true', Bool.not_eq_false'] at hc14
                          refine l_s rfl rfl ?_
                          refine l_s rfl rfl ?_
                          refine l_s rfl rfl ?_
                          refine l_s rfl rfl ?_
                          refine l_s rfl rfl ?_
                          refine l_s rfl rfl ?_
                          refine l_s rfl rfl ?_
                          refine l_s rfl rfl ?_
                          refine l_op 2 rfl rfl rfl rfl rfl ?_
                          refine l_op 0 rfl rfl rfl rfl rfl ?_
                          refine l_s rfl rfl ?_
                          refine l_s rfl rfl ?_
                          refine l_s rfl rfl ?_
                          refine l_op 2 rfl rfl rfl rfl rfl ?_
                          refine l_op 0 rfl rfl rfl rfl rfl ?_
                          refine l_s rfl rfl ?_
                          refine l_op 2 rfl rfl rfl rfl rfl ?_
                          refine l_op 0 rfl rfl rfl rfl rfl ?_
                          refine l_nil (WK.nx (by assumption) ?_)
                          refine SeqK.nx (by assumption) ?_
                          refine k_ret ?_
                          refine FunK.rt (by assumption) rfl ?_
                          -- leaf 5
                          first
                          | rfl
                          | exact absurd (by assumption : false = true) (by decide)
                          | exact absurd (by assumption : true = false) (by decide)
                          | exact absurd rfl (by assumption)
                          | (exfalso; omega)
                        first | replace hc13 := ne_of_beq_false ((irr_eq _).symm.trans hc13) | simp only [irr_eq, beq_iff_eq, beq_eq_false_iff_ne, ne_eq, decide_eq_true_eq, decide_eq_false_iff_not] at hc13
                        refine l_s rfl rfl ?_
                        refine l_s rfl rfl ?_
                        refine l_s rfl rfl ?_
                        refine l_s rfl rfl ?_
                        refine l_op 2 rfl rfl rfl rfl rfl ?_
                        refine l_op 0 rfl rfl rfl rfl rfl ?_
                        refine l_s rfl rfl ?_
                        refine l_s rfl rfl ?_
                        refine l_s rfl rfl ?_
                        refine l_s rfl rfl ?_
                        refine l_s rfl rfl ?_
                        refine l_s rfl rfl ?_
                        refine l_s rfl rfl ?_
                        refine l_s rfl rfl ?_
                        refine l_op 2 rfl rfl rfl rfl rfl ?_
                        refine l_op 0 rfl rfl rfl rfl rfl ?_
                        refine l_s rfl rfl ?_
                        refine l_s rfl rfl ?_
                        refine l_s rfl rfl ?_
                        refine l_op 2 rfl rfl rfl rfl rfl ?_
                        refine l_op 0 rfl rfl rfl rfl rfl ?_
                        refine l_s rfl rfl ?_
                        refine l_op 2 rfl rfl rfl rfl rfl ?_
                        refine l_op 0 rfl rfl rfl rfl rfl ?_
                        refine l_nil (WK.nx (by assumption) ?_)
                        refine SeqK.nx (by assumption) ?_
                        refine k_ret ?_
                        refine FunK.rt (by assumption) rfl ?_
                        -- leaf 6
                        first
                        | rfl
                        | exact absurd (by assumption : false = true) (by decide)
                        | exact absurd (by assumption : true = false) (by decide)
                        | exact absurd rfl (by assumption)
                        | (exfalso; omega)
                      first | replace hc12 := ne_of_beq_false ((irr_eq _).symm.trans hc12) | simp only [irr_eq, beq_iff_eq, beq_eq_false_iff_ne, ne_eq, decide_eq_true_eq, decide_eq_false_iff_not] at hc12
                      refine l_s rfl rfl ?_
                      refine l_s rfl rfl ?_
                      refine l_s rfl rfl ?_
                      refine l_op 2 rfl rfl rfl rfl rfl ?_
                      refine l_op 0 rfl rfl rfl rfl rfl ?_
                      refine l_s rfl rfl ?_
                      refine l_s rfl rfl ?_
                      refine l_s rfl rfl ?_
                      refine l_s rfl rfl ?_
                      refine l_op 2 rfl rfl rfl rfl rfl ?_
                      refine l_op 0 rfl rfl rfl rfl rfl ?_
                      refine l_s rfl rfl ?_
                      refine l_s rfl rfl ?_
                      refine l_s rfl rfl ?_
                      refine l_s rfl rfl ?_
                      refine l_s rfl rfl ?_
                      refine l_s rfl rfl ?_
                      refine l_s rfl rfl ?_
                      refine l_s rfl rfl ?_
                      refine l_op 2 rfl rfl rfl rfl rfl ?_
                      refine l_op 0 rfl rfl rfl rfl rfl ?_
                      refine l_s rfl rfl ?_
                      refine l_s rfl rfl ?_
                      refine l_s rfl rfl ?_
                      refine l_op 2 rfl rfl rfl rfl rfl ?_
                      refine l_op 0 rfl rfl rfl rfl rfl ?_
                      refine l_s rfl rfl ?_
                      refine l_op 2 rfl rfl rfl rfl rfl ?_
                      refine l_op 0 rfl rfl rfl rfl rfl ?_
                      refine l_nil (WK.nx (by assumption) ?_)
                      refine SeqK.nx (by assumption) ?_
                      refine k_ret ?_
                      refine FunK.rt (by assumption) rfl ?_
                      -- leaf 7
                      first
                      | rfl
                      | exact absurd (by assumption : false = true) (by decide)
                      | exact absurd (by assumption : true = false) (by decide)
                      | exact absurd rfl (by assumption)
                      | (exfalso; omega)
                    first | replace hc11 := ne_of_beq_false ((irr_eq _).symm.trans hc11) | simp only [irr_eq, beq_iff_eq, beq_eq_false_iff_ne, ne_eq, decide_eq_true_eq, decide_eq_false_iff_not] at hc11
                    refine l_s rfl rfl ?_
                    refine l_s rfl rfl ?_
                    refine l_s rfl rfl ?_
                    refine l_op 2 rfl rfl rfl rfl rfl ?_
                    refine l_op 0 rfl rfl rfl rfl rfl ?_
                    refine l_s rfl rfl ?_
                    refine l_s rfl rfl ?_
                    refine l_s rfl rfl ?_
                    refine l_op 2 rfl rfl rfl rfl rfl ?_
                    refine l_op 0 rfl rfl rfl rfl rfl ?_
                    refine l_s rfl rfl ?_
                    refine l_s rfl rfl ?_
                    refine l_s rfl rfl ?_
                    refine l_s rfl rfl ?_
                    refine l_op 2 rfl rfl rfl rfl rfl ?_
                    refine l_op 0 rfl rfl rfl rfl rfl ?_
                    refine l_s rfl rfl ?_
                    refine l_s rfl rfl ?_
                    refine l_s rfl rfl ?_
                    refine l_s rfl rfl ?_
                    refine l_s rfl rfl ?_
                    refine l_s rfl rfl ?_
                    refine l_s rfl rfl ?_
                    refine l_s rfl rfl ?_
                    refine l_op 2 rfl rfl rfl rfl rfl ?_
                    refine l_op 0 rfl rfl rfl rfl rfl ?_
                    refine l_s rfl rfl ?_
                    refine l_s rfl rfl ?_
                    refine l_s rfl rfl ?_
                    refine l_op 2 rfl rfl rfl rfl rfl ?_
                    refine l_op 0 rfl rfl rfl rfl rfl ?_
                    refine l_s rfl rfl ?_
                    refine l_op 2 rfl rfl rfl rfl rfl ?_
                    refine l_op 0 rfl rfl rfl rfl rfl ?_
                    refine l_nil (WK.nx (by assumption) ?_)
                    refine SeqK.nx (by assumption) ?_
                    refine k_ret ?_
                    refine FunK.rt (by assumption) rfl ?_
                    -- leaf 8
                    first
                    | rfl
                    | exact absurd (by assumption : false = true) (by decide)
                    | exact absurd (by assumption : true = false) (by decide)
                    | exact absurd rfl (by assumption)
                    | (exfalso; omega)
                  first | replace hc10 := ne_of_beq_false ((irr_eq _).symm.trans hc10) | simp only [irr_eq, beq_iff_eq, beq_eq_false_iff_ne, ne_eq, decide_eq_true_eq, decide_eq_false_iff_not] at hc10
                  refine l_s rfl rfl ?_
                  refine l_s rfl rfl ?_
                  refine l_op 2 rfl rfl rfl rfl rfl ?_
                  refine l_op 0 rfl rfl rfl rfl rfl ?_
                  refine l_s rfl rfl ?_
                  refine l_s rfl rfl ?_
                  refine l_s rfl rfl ?_
                  refine l_op 2 rfl rfl rfl rfl rfl ?_
                  refine l_op 0 rfl rfl rfl rfl rfl ?_
                  refine l_s rfl rfl ?_
                  refine l_s rfl rfl ?_
                  refine l_s rfl rfl ?_
                  refine l_op 2 rfl rfl rfl rfl rfl ?_
                  refine l_op 0 rfl rfl rfl rfl rfl ?_
                  refine l_s rfl rfl ?_
                  refine l_s rfl rfl ?_
                  refine l_s rfl rfl ?_
                  refine l_s rfl rfl ?_
                  refine l_op 2 rfl rfl rfl rfl rfl ?_
                  refine l_op 0 rfl rfl rfl rfl rfl ?_
                  refine l_s rfl rfl ?_
                  refine l_s rfl rfl ?_
                  refine l_s rfl rfl ?_
                  refine l_s rfl rfl ?_
                  refine l_s rfl rfl ?_
                  refine l_s rfl rfl ?_
                  refine l_s rfl rfl ?_
                  refine l_s rfl rfl ?_
                  refine l_op 2 rfl rfl rfl rfl rfl ?_
                  refine l_op 0 rfl rfl rfl rfl rfl ?_
                  refine l_s rfl rfl ?_
                  refine l_s rfl rfl ?_
                  refine l_s rfl rfl ?_
                  refine l_op 2 rfl rfl rfl rfl rfl ?_
                  refine l_op 0 rfl rfl rfl rfl rfl ?_
                  refine l_s rfl rfl ?_
                  refine l_op 2 rfl rfl rfl rfl rfl ?_
                  refine l_op 0 rfl rfl rfl rfl rfl ?_
                  refine l_nil (WK.nx (by assumption) ?_)
                  refine SeqK.nx (by assumption) ?_
                  refine k_ret ?_
                  refine FunK.rt (by assumption) rfl ?_
                  -- leaf 9
                  first
                  | rfl
                  | exact absurd (by assumption : false = true) (by decide)
                  | exact absurd (by assumption : true = false) (by decide)
                  | exact absurd rfl (by assumption)
                  | (exfalso; omega)
                first | replace hc9 := ne_of_beq_false ((irr_eq _).symm.trans hc9) | simp only [irr_eq, beq_iff_eq, beq_eq_false_iff_ne, ne_eq, decide_eq_true_eq, decide_eq_false_iff_not] at hc9
                refine l_s rfl rfl ?_
                refine l_s rfl rfl ?_
                refine l_s rfl rfl ?_
                refine l_s rfl rfl ?_
                refine l_s rfl rfl ?_
                refine l_s rfl rfl ?_
                refine l_s rfl rfl ?_
                refine l_op 2 rfl rfl rfl rfl rfl ?_
                refine l_op 0 rfl rfl rfl rfl rfl ?_
                refine l_s rfl rfl ?_
                refine l_s rfl rfl ?_
                refine l_op 2 rfl rfl rfl rfl rfl ?_
                refine l_op 0 rfl rfl rfl rfl rfl ?_
                refine l_s rfl rfl ?_
                refine l_s rfl rfl ?_
                refine l_s rfl rfl ?_
                refine l_op 2 rfl rfl rfl rfl rfl ?_
                refine l_op 0 rfl rfl rfl rfl rfl ?_
                refine l_s rfl rfl ?_
                refine l_s rfl rfl ?_
                refine l_s rfl rfl ?_
                refine l_op 2 rfl rfl rfl rfl rfl ?_
                refine l_op 0 rfl rfl rfl rfl rfl ?_
                refine l_s rfl rfl ?_
                refine l_s rfl rfl ?_
                refine l_s rfl rfl ?_
                refine l_s rfl rfl ?_
                refine l_op 2 rfl rfl rfl rfl rfl ?_
                refine l_op 0 rfl rfl rfl rfl rfl ?_
                refine l_s rfl rfl ?_
                refine l_s rfl rfl ?_
                refine l_s rfl rfl ?_
                refine l_s rfl rfl ?_
                refine l_s rfl rfl ?_
                refine l_s rfl rfl ?_
                refine l_s rfl rfl ?_
                refine l_s rfl rfl ?_
                refine l_op 2 rfl rfl rfl rfl rfl ?_
                refine l_op 0 rfl rfl rfl rfl rfl ?_
                refine l_s rfl rfl ?_
                refine l_s rfl rfl ?_
                refine l_s rfl rfl ?_
                refine l_op 2 rfl rfl rfl rfl rfl ?_
                refine l_op 0 rfl rfl rfl rfl rfl ?_
                refine l_s rfl rfl ?_
                refine l_op 2 rfl rfl rfl rfl rfl ?_
                refine l_op 0 rfl rfl rfl rfl rfl ?_
                refine l_nil (WK.nx (by assumption) ?_)
                refine SeqK.nx (by assumption) ?_
                refine k_ret ?_
                refine FunK.rt (by assumption) rfl ?_
                -- leaf 10
                first
                | rfl
                | exact absurd (by assumption : false = true) (by decide)
                | exact absurd (by assumption : true = false) (by decide)
                | exact absurd rfl (by assumption)
                | (exfalso; omega)
              first | replace hc8 := ne_of_beq_false ((irr_eq _).symm.trans hc8) | simp only [irr_eq, beq_iff_eq, beq_eq_false_iff_ne, ne_eq, decide_eq_true_eq, decide_eq_false_iff_not] at hc8
              refine l_s rfl rfl ?_
              refine l_s rfl rfl ?_
              refine l_s rfl rfl ?_
              refine l_s rfl rfl ?_
              refine l_s rfl rfl ?_
              refine l_s rfl rfl ?_
              refine l_op 2 rfl rfl rfl rfl rfl ?_
              refine l_op 0 rfl rfl rfl rfl rfl ?_
              refine l_s rfl rfl ?_
              refine l_s rfl rfl ?_
              refine l_s rfl rfl ?_
              refine l_s rfl rfl ?_
              refine l_s rfl rfl ?_
              refine l_s rfl rfl ?_
              refine l_s rfl rfl ?_
              refine l_op 2 rfl rfl rfl rfl rfl ?_
              refine l_op 0 rfl rfl rfl rfl rfl ?_
              refine l_s rfl rfl ?_
              refine l_s rfl rfl ?_
              refine l_op 2 rfl rfl rfl rfl rfl ?_
              refine l_op 0 rfl rfl rfl rfl rfl ?_
              refine l_s rfl rfl ?_
              refine l_s rfl rfl ?_
              refine l_s rfl rfl ?_
              refine l_op 2 rfl rfl rfl rfl rfl ?_
              refine l_op 0 rfl rfl rfl rfl rfl ?_
              refine l_s rfl rfl ?_
              refine l_s rfl rfl ?_
              refine l_s rfl rfl ?_
              refine l_op 2 rfl rfl rfl rfl rfl ?_
              refine l_op 0 rfl rfl rfl rfl rfl ?_
              refine l_s rfl rfl ?_
              refine l_s rfl rfl ?_
              refine l_s rfl rfl ?_
              refine l_s rfl rfl ?_
              refine l_op 2 rfl rfl rfl rfl rfl ?_
              refine l_op 0 rfl rfl rfl rfl rfl ?_
              refine l_s rfl rfl ?_
              refine l_s rfl rfl ?_
              refine l_s rfl rfl ?_
              refine l_s rfl rfl ?_
              refine l_s rfl rfl ?_
              refine l_s rfl rfl ?_
              refine l_s rfl rfl ?_
              refine l_s rfl rfl ?_
              refine l_op 2 rfl rfl rfl rfl rfl ?_
              refine l_op 0 rfl rfl rfl rfl rfl ?_
              refine l_s rfl rfl ?_
              refine l_s rfl rfl ?_
              refine l_s rfl rfl ?_
              refine l_op 2 rfl rfl rfl rfl rfl ?_
              refine l_op 0 rfl rfl rfl rfl rfl ?_
              refine l_s rfl rfl ?_
              refine l_op 2 rfl rfl rfl rfl rfl ?_
              refine l_op 0 rfl rfl rfl rfl rfl ?_
              refine l_nil (WK.nx (by assumption) ?_)
              refine SeqK.nx (by assumption) ?_
              refine k_ret ?_
              refine FunK.rt (by assumption) rfl ?_
              -- leaf 11
              first
              | rfl
              | exact absurd (by assumption : false = true) (by decide)
              | exact absurd (by assumption : true = false) (by decide)
              | exact absurd rfl (by assumption)
              | (exfalso; omega)
            try simp only [irr_eq, beq_iff_eq, bne_iff_ne, beq_eq_false_iff_ne, bne_eq_false_iff_eq, ne_eq, decide_eq_true_eq, decide_eq_false_iff_not, Bool.not_eq_true', Bool.not_eq_false'] at hc7
            refine l_s rfl rfl ?_
            refine l_s rfl rfl ?_
            refine l_s rfl rfl ?_
            refine l_s rfl rfl ?_
            refine l_op 2 rfl rfl rfl rfl rfl ?_
            refine l_op 0 rfl rfl rfl rfl rfl ?_
            refine l_s rfl rfl ?_
            refine l_s rfl rfl ?_
            refine l_s rfl rfl ?_
            refine l_s rfl rfl ?_
            refine l_s rfl rfl ?_
            refine l_s rfl rfl ?_
            refine l_op 2 rfl rfl rfl rfl rfl ?_
            refine l_op 0 rfl rfl rfl rfl rfl ?_
            refine l_s rfl rfl ?_
            refine l_s rfl rfl ?_
            refine l_s rfl rfl ?_
            refine l_s rfl rfl ?_
            refine l_s rfl rfl ?_
            refine l_s rfl rfl ?_
            refine l_s rfl rfl ?_
            refine l_op 2 rfl rfl rfl rfl rfl ?_
            refine l_op 0 rfl rfl rfl rfl rfl ?_
            refine l_s rfl rfl ?_
            refine l_s rfl rfl ?_
            refine l_op 2 rfl rfl rfl rfl rfl ?_
            refine l_op 0 rfl rfl rfl rfl rfl ?_
            refine l_s rfl rfl ?_
            refine l_s rfl rfl ?_
            refine l_s rfl rfl ?_
            refine l_op 2 rfl rfl rfl rfl rfl ?_
            refine l_op 0 rfl rfl rfl rfl rfl ?_
            refine l_s rfl rfl ?_
            refine l_s rfl rfl ?_
            refine l_s rfl rfl ?_
            refine l_op 2 rfl rfl rfl rfl rfl ?_
            refine l_op 0 rfl rfl rfl rfl rfl ?_
            refine l_s rfl rfl ?_
            refine l_s rfl rfl ?_
            refine l_s rfl rfl ?_
            refine l_s rfl rfl ?_
            refine l_op 2 rfl rfl rfl rfl rfl ?_
            refine l_op 0 rfl rfl rfl rfl rfl ?_
            refine l_s rfl rfl ?_
            refine l_s rfl rfl ?_
            refine l_s rfl rfl ?_
            refine l_s rfl rfl ?_
            refine l_s rfl rfl ?_
            refine l_s rfl rfl ?_
            refine l_s rfl rfl ?_
            refine l_s rfl rfl ?_
            refine l_op 2 rfl rfl rfl rfl rfl ?_
            refine l_op 0 rfl rfl rfl rfl rfl ?_
            refine l_s rfl rfl ?_
            refine l_s rfl rfl ?_
            refine l_s rfl rfl ?_
            refine l_op 2 rfl rfl rfl rfl rfl ?_
            refine l_op 0 rfl rfl rfl rfl rfl ?_
            refine l_s rfl rfl ?_
            refine l_op 2 rfl rfl rfl rfl rfl ?_
            refine l_op 0 rfl rfl rfl rfl rfl ?_
            refine l_nil (WK.nx (by assumption) ?_)
            refine SeqK.nx (by assumption) ?_
            refine k_ret ?_
            refine FunK.rt (by assumption) rfl ?_
            -- leaf 12
            first
            | rfl
            | exact absurd (by assumption : false = true) (by decide)
            | exact absurd (by assumption : true = false) (by decide)
            | exact absurd rfl (by assumption)
            | (exfalso; omega)
          first | replace hc6 := ne_of_beq_false ((irr_eq _).symm.trans hc6) | simp only [irr_eq, beq_iff_eq, beq_eq_false_iff_ne, ne_eq, decide_eq_true_eq, decide_eq_false_iff_not] at hc6
          refine l_s rfl rfl ?_
          refine l_s rfl rfl ?_
          refine l_s rfl rfl ?_
          refine l_s rfl rfl ?_
          refine l_op 2 rfl rfl rfl rfl rfl ?_
          refine l_op 0 rfl rfl rfl rfl rfl ?_
          refine l_s rfl rfl ?_
          refine l_s rfl rfl ?_
          refine l_s rfl rfl ?_
          refine l_s rfl rfl ?_
          refine l_op 2 rfl rfl rfl rfl rfl ?_
          refine l_op 0 rfl rfl rfl rfl rfl ?_
          refine l_s rfl rfl ?_
          refine l_s rfl rfl ?_
          refine l_s rfl rfl ?_
          refine l_s rfl rfl ?_
          refine l_s rfl rfl ?_
          refine l_s rfl rfl ?_
          refine l_op 2 rfl rfl rfl rfl rfl ?_
          refine l_op 0 rfl rfl rfl rfl rfl ?_
          refine l_s rfl rfl ?_
          refine l_s rfl rfl ?_
          refine l_s rfl rfl ?_
          refine l_s rfl rfl ?_
          refine l_s rfl rfl ?_
          refine l_s rfl rfl ?_
          refine l_s rfl rfl ?_
          refine l_op 2 rfl rfl rfl rfl rfl ?_
          refine l_op 0 rfl rfl rfl rfl rfl ?_
          refine l_s rfl rfl ?_
          refine l_s rfl rfl ?_
          refine l_op 2 rfl rfl rfl rfl rfl ?_
          refine l_op 0 rfl rfl rfl rfl rfl ?_
          refine l_s rfl rfl ?_
          refine l_s rfl rfl ?_
          refine l_s rfl rfl ?_
          refine l_op 2 rfl rfl rfl rfl rfl ?_
          refine l_op 0 rfl rfl rfl rfl rfl ?_
          refine l_s rfl rfl ?_
          refine l_s rfl rfl ?_
          refine l_s rfl rfl ?_
          refine l_op 2 rfl rfl rfl rfl rfl ?_
          refine l_op 0 rfl rfl rfl rfl rfl ?_
          refine l_s rfl rfl ?_
          refine l_s rfl rfl ?_
          refine l_s rfl rfl ?_
          refine l_s rfl rfl ?_
          refine l_op 2 rfl rfl rfl rfl rfl ?_
          refine l_op 0 rfl rfl rfl rfl rfl ?_
          refine l_s rfl rfl ?_
          refine l_s rfl rfl ?_
          refine l_s rfl rfl ?_
          refine l_s rfl rfl ?_
          refine l_s rfl rfl ?_
          refine l_s rfl rfl ?_
          refine l_s rfl rfl ?_
          refine l_s rfl rfl ?_
          refine l_op 2 rfl rfl rfl rfl rfl ?_
          refine l_op 0 rfl rfl rfl rfl rfl ?_
          refine l_s rfl rfl ?_
          refine l_s rfl rfl ?_
          refine l_s rfl rfl ?_
          refine l_op 2 rfl rfl rfl rfl rfl ?_
          refine l_op 0 rfl rfl rfl rfl rfl ?_
          refine l_s rfl rfl ?_
          refine l_op 2 rfl rfl rfl rfl rfl ?_
          refine l_op 0 rfl rfl rfl rfl rfl ?_
          refine l_nil (WK.nx (by assumption) ?_)
          refine SeqK.nx (by assumption) ?_
          refine k_ret ?_
          refine FunK.rt (by assumption) rfl ?_
          -- leaf 13
          first
          | rfl
          | exact absurd (by assumption : false = true) (by decide)
          | exact absurd (by assumption : true = false) (by decide)
          | exact absurd rfl (by assumption)
          | (exfalso; omega)
        first | replace hc5 := ne_of_beq_false ((irr_eq _).symm.trans hc5) | simp only [irr_eq, beq_iff_eq, beq_eq_false_iff_ne, ne_eq, decide_eq_true_eq, decide_eq_false_iff_not] at hc5
        refine l_s rfl rfl ?_
        refine l_s rfl rfl ?_
        refine l_s rfl rfl ?_
        refine l_s rfl rfl ?_
        refine l_s rfl rfl ?_
        refine l_s rfl rfl ?_
        refine l_s rfl rfl ?_
        refine l_s rfl rfl ?_
        refine l_op 2 rfl rfl rfl rfl rfl ?_
        refine l_op 0 rfl rfl rfl rfl rfl ?_
        refine l_s rfl rfl ?_
        refine l_s rfl rfl ?_
        refine l_s rfl rfl ?_
        refine l_s rfl rfl ?_
        refine l_op 2 rfl rfl rfl rfl rfl ?_
        refine l_op 0 rfl rfl rfl rfl rfl ?_
        refine l_s rfl rfl ?_
        refine l_s rfl rfl ?_
        refine l_s rfl rfl ?_
        refine l_s rfl rfl ?_
        refine l_op 2 rfl rfl rfl rfl rfl ?_
        refine l_op 0 rfl rfl rfl rfl rfl ?_
        refine l_s rfl rfl ?_
        refine l_s rfl rfl ?_
        refine l_s rfl rfl ?_
        refine l_s rfl rfl ?_
        refine l_s rfl rfl ?_
        refine l_s rfl rfl ?_
        refine l_op 2 rfl rfl rfl rfl rfl ?_
        refine l_op 0 rfl rfl rfl rfl rfl ?_
        refine l_s rfl rfl ?_
        refine l_s rfl rfl ?_
        refine l_s rfl rfl ?_
        refine l_s rfl rfl ?_
        refine l_s rfl rfl ?_
        refine l_s rfl rfl ?_
        refine l_s rfl rfl ?_
        refine l_op 2 rfl rfl rfl rfl rfl ?_
        refine l_op 0 rfl rfl rfl rfl rfl ?_
        refine l_s rfl rfl ?_
        refine l_s rfl rfl ?_
        refine l_op 2 rfl rfl rfl rfl rfl ?_
        refine l_op 0 rfl rfl rfl rfl rfl ?_
        refine l_s rfl rfl ?_
        refine l_s rfl rfl ?_
        refine l_s rfl rfl ?_
        refine l_op 2 rfl rfl rfl rfl rfl ?_
        refine l_op 0 rfl rfl rfl rfl rfl ?_
        refine l_s rfl rfl ?_
        refine l_s rfl rfl ?_
        refine l_s rfl rfl ?_
        refine l_op 2 rfl rfl rfl rfl rfl ?_
        refine l_op 0 rfl rfl rfl rfl rfl ?_
        refine l_s rfl rfl ?_
        refine l_s rfl rfl ?_
        refine l_s rfl rfl ?_
        refine l_s rfl rfl ?_
        refine l_op 2 rfl rfl rfl rfl rfl ?_
        refine l_op 0 rfl rfl rfl rfl rfl ?_
        refine l_s rfl rfl ?_
        refine l_s rfl rfl ?_
        refine l_s rfl rfl ?_
        refine l_s rfl rfl ?_
        refine l_s rfl rfl ?_
        refine l_s rfl rfl ?_
        refine l_s rfl rfl ?_
        refine l_s rfl rfl ?_
        refine l_op 2 rfl rfl rfl rfl rfl ?_
        refine l_op 0 rfl rfl rfl rfl rfl ?_
        refine l_s rfl rfl ?_
        refine l_s rfl rfl ?_
        refine l_s rfl rfl ?_
        refine l_op 2 rfl rfl rfl rfl rfl ?_
        refine l_op 0 rfl rfl rfl rfl rfl ?_
        refine l_s rfl rfl ?_
        refine l_op 2 rfl rfl rfl rfl rfl ?_
        refine l_op 0 rfl rfl rfl rfl rfl ?_
        refine l_nil (WK.nx (by assumption) ?_)
        refine SeqK.nx (by assumption) ?_
        refine k_ret ?_
        refine FunK.rt (by assumption) rfl ?_
        -- leaf 14
        first
        | rfl
        | exact absurd (by assumption : false = true) (by decide)
        | exact absurd (by assumption : true = false) (by decide)
        | exact absurd rfl (by assumption)
        | (exfalso; omega)
      first | replace hc4 := ne_of_beq_false ((irr_eq _).symm.trans hc4) | simp only [irr_eq, beq_iff_eq, beq_eq_false_iff_ne, ne_eq, decide_eq_true_eq, decide_eq_false_iff_not] at hc4
      refine l_s rfl rfl ?_
      refine l_s rfl rfl ?_
      refine l_s rfl rfl ?_
      refine l_s rfl rfl ?_
      refine l_s rfl rfl ?_
      refine l_s rfl rfl ?_
      refine l_s rfl rfl ?_
      refine l_op 2 rfl rfl rfl rfl rfl ?_
      refine l_op 0 rfl rfl rfl rfl rfl ?_
      refine l_s rfl rfl ?_
      refine l_s rfl rfl ?_
      refine l_s rfl rfl ?_
      refine l_s rfl rfl ?_
      refine l_s rfl rfl ?_
      refine l_s rfl rfl ?_
      refine l_s rfl rfl ?_
      refine l_s rfl rfl ?_
      refine l_op 2 rfl rfl rfl rfl rfl ?_
      refine l_op 0 rfl rfl rfl rfl rfl ?_
      refine l_s rfl rfl ?_
      refine l_s rfl rfl ?_
      refine l_s rfl rfl ?_
      refine l_s rfl rfl ?_
      refine l_op 2 rfl rfl rfl rfl rfl ?_
      refine l_op 0 rfl rfl rfl rfl rfl ?_
      refine l_s rfl rfl ?_
      refine l_s rfl rfl ?_
      refine l_s rfl rfl ?_
      refine l_s rfl rfl ?_
      refine l_op 2 rfl rfl rfl rfl rfl ?_
      refine l_op 0 rfl rfl rfl rfl rfl ?_
      refine l_s rfl rfl ?_
      refine l_s rfl rfl ?_
      refine l_s rfl rfl ?_
      refine l_s rfl rfl ?_
      refine l_s rfl rfl ?_
      refine l_s rfl rfl ?_
      refine l_op 2 rfl rfl rfl rfl rfl ?_
      refine l_op 0 rfl rfl rfl rfl rfl ?_
      refine l_s rfl rfl ?_
      refine l_s rfl rfl ?_
      refine l_s rfl rfl ?_
      refine l_s rfl rfl ?_
      refine l_s rfl rfl ?_
      refine l_s rfl rfl ?_
      refine l_s rfl rfl ?_
      refine l_op 2 rfl rfl rfl rfl rfl ?_
      refine l_op 0 rfl rfl rfl rfl rfl ?_
      refine l_s rfl rfl ?_
      refine l_s rfl rfl ?_
      refine l_op 2 rfl rfl rfl rfl rfl ?_
      refine l_op 0 rfl rfl rfl rfl rfl ?_
      refine l_s rfl rfl ?_
      refine l_s rfl rfl ?_
      refine l_s rfl rfl ?_
      refine l_op 2 rfl rfl rfl rfl rfl ?_
      refine l_op 0 rfl rfl rfl rfl rfl ?_
      refine l_s rfl rfl ?_
      refine l_s rfl rfl ?_
      refine l_s rfl rfl ?_
      refine l_op 2 rfl rfl rfl rfl rfl ?_
      refine l_op 0 rfl rfl rfl rfl rfl ?_
      refine l_s rfl rfl ?_
      refine l_s rfl rfl ?_
      refine l_s rfl rfl ?_
      refine l_s rfl rfl ?_
      refine l_op 2 rfl rfl rfl rfl rfl ?_
      refine l_op 0 rfl rfl rfl rfl rfl ?_
      refine l_s rfl rfl ?_
      refine l_s rfl rfl ?_
      refine l_s rfl rfl ?_
      refine l_s rfl rfl ?_
      refine l_s rfl rfl ?_
      refine l_s rfl rfl ?_
      refine l_s rfl rfl ?_
      refine l_s rfl rfl ?_
      refine l_op 2 rfl rfl rfl rfl rfl ?_
      refine l_op 0 rfl rfl rfl rfl rfl ?_
      refine l_s rfl rfl ?_
      refine l_s rfl rfl ?_
      refine l_s rfl rfl ?_
      refine l_op 2 rfl rfl rfl rfl rfl ?_
      refine l_op 0 rfl rfl rfl rfl rfl ?_
      refine l_s rfl rfl ?_
      refine l_op 2 rfl rfl rfl rfl rfl ?_
      refine l_op 0 rfl rfl rfl rfl rfl ?_
      refine l_nil (WK.nx (by assumption) ?_)
      refine SeqK.nx (by assumption) ?_
      refine k_ret ?_
      refine FunK.rt (by assumption) rfl ?_
      -- leaf 15
      first
      | rfl
      | exact absurd (by assumption : false = true) (by decide)
      | exact absurd (by assumption : true = false) (by decide)
      | exact absurd rfl (by assumption)
      | (exfalso; omega)
    first | replace hc3 := ne_of_beq_false ((irr_eq _).symm.trans hc3) | simp only [irr_eq, beq_iff_eq, beq_eq_false_iff_ne, ne_eq, decide_eq_true_eq, decide_eq_false_iff_not] at hc3
    refine l_s rfl rfl ?_
    refine l_s rfl rfl ?_
    refine l_s rfl rfl ?_
    refine l_s rfl rfl ?_
    refine l_s rfl rfl ?_
    refine l_s rfl rfl ?_
    refine l_s rfl rfl ?_
    refine l_op 2 rfl rfl rfl rfl rfl ?_
    refine l_op 0 rfl rfl rfl rfl rfl ?_
    refine l_s rfl rfl ?_
    refine l_s rfl rfl ?_
    refine l_s rfl rfl ?_
    refine l_s rfl rfl ?_
    refine l_s rfl rfl ?_
    refine l_s rfl rfl ?_
    refine l_s rfl rfl ?_
    refine l_op 2 rfl rfl rfl rfl rfl ?_
    refine l_op 0 rfl rfl rfl rfl rfl ?_
    refine l_s rfl rfl ?_
    refine l_s rfl rfl ?_
    refine l_s rfl rfl ?_
    refine l_s rfl rfl ?_
    refine l_s rfl rfl ?_
    refine l_s rfl rfl ?_
    refine l_s rfl rfl ?_
    refine l_s rfl rfl ?_
    refine l_op 2 rfl rfl rfl rfl rfl ?_
    refine l_op 0 rfl rfl rfl rfl rfl ?_
    refine l_s rfl rfl ?_
    refine l_s rfl rfl ?_
    refine l_s rfl rfl ?_
    refine l_s rfl rfl ?_
    refine l_op 2 rfl rfl rfl rfl rfl ?_
    refine l_op 0 rfl rfl rfl rfl rfl ?_
    refine l_s rfl rfl ?_
    refine l_s rfl rfl ?_
    refine l_s rfl rfl ?_
    refine l_s rfl rfl ?_
    refine l_op 2 rfl rfl rfl rfl rfl ?_
    refine l_op 0 rfl rfl rfl rfl rfl ?_
    refine l_s rfl rfl ?_
    refine l_s rfl rfl ?_
    refine l_s rfl rfl ?_
    refine l_s rfl rfl ?_
    refine l_s rfl rfl ?_
    refine l_s rfl rfl ?_
    refine l_op 2 rfl rfl rfl rfl rfl ?_
    refine l_op 0 rfl rfl rfl rfl rfl ?_
    refine l_s rfl rfl ?_
    refine l_s rfl rfl ?_
    refine l_s rfl rfl ?_
    refine l_s rfl rfl ?_
    refine l_s rfl rfl ?_
    refine l_s rfl rfl ?_
    refine l_s rfl rfl ?_
    refine l_op 2 rfl rfl rfl rfl rfl ?_
    refine l_op 0 rfl rfl rfl rfl rfl ?_
    refine l_s rfl rfl ?_
    refine l_s rfl rfl ?_
    refine l_op 2 rfl rfl rfl rfl rfl ?_
    refine l_op 0 rfl rfl rfl rfl rfl ?_
    refine l_s rfl rfl ?_
    refine l_s rfl rfl ?_
    refine l_s rfl rfl ?_
    refine l_op 2 rfl rfl rfl rfl rfl ?_
    refine l_op 0 rfl rfl rfl rfl rfl ?_
    refine l_s rfl rfl ?_
    refine l_s rfl rfl ?_
    refine l_s rfl rfl ?_
    refine l_op 2 rfl rfl rfl rfl rfl ?_
    refine l_op 0 rfl rfl rfl rfl rfl ?_
    refine l_s rfl rfl ?_
    refine l_s rfl rfl ?_
    refine l_s rfl rfl ?_
    refine l_s rfl rfl ?_
    refine l_op 2 rfl rfl rfl rfl rfl ?_
    refine l_op 0 rfl rfl rfl rfl rfl ?_
    refine l_s rfl rfl ?_
    refine l_s rfl rfl ?_
    refine l_s rfl rfl ?_
    refine l_s rfl rfl ?_
    refine l_s rfl rfl ?_
    refine l_s rfl rfl ?_
    refine l_s rfl rfl ?_
    refine l_s rfl rfl ?_
    refine l_op 2 rfl rfl rfl rfl rfl ?_
    refine l_op 0 rfl rfl rfl rfl rfl ?_
    refine l_s rfl rfl ?_
    refine l_s rfl rfl ?_
    refine l_s rfl rfl ?_
    refine l_op 2 rfl rfl rfl rfl rfl ?_
    refine l_op 0 rfl rfl rfl rfl rfl ?_
    refine l_s rfl rfl ?_
    refine l_op 2 rfl rfl rfl rfl rfl ?_
    refine l_op 0 rfl rfl rfl rfl rfl ?_
    refine l_nil (WK.nx (by assumption) ?_)
    refine SeqK.nx (by assumption) ?_
    refine k_ret ?_
    refine FunK.rt (by assumption) rfl ?_
    -- leaf 16
    first
    | rfl
    | exact absurd (by assumption : false = true) (by decide)
    | exact absurd (by assumption : true = false) (by decide)
    | exact absurd rfl (by assumption)
    | (exfalso; omega)
  first | replace hc2 := ne_of_beq_false ((irr_eq _).symm.trans hc2) | simp only [irr_eq, beq_iff_eq, beq_eq_false_iff_ne, ne_eq, decide_eq_true_eq, decide_eq_false_iff_not] at hc2
  refine l_s rfl rfl ?_
  refine l_s rfl rfl ?_
  refine l_s rfl rfl ?_
  refine l_s rfl rfl ?_
  refine l_op 2 rfl rfl rfl rfl rfl ?_
  refine l_op 0 rfl rfl rfl rfl rfl ?_
  refine l_s rfl rfl ?_
  refine l_s rfl rfl ?_
  refine l_s rfl rfl ?_
  refine l_s rfl rfl ?_
  refine l_s rfl rfl ?_
  refine l_s rfl rfl ?_
  refine l_s rfl rfl ?_
  refine l_op 2 rfl rfl rfl rfl rfl ?_
  refine l_op 0 rfl rfl rfl rfl rfl ?_
  refine l_s rfl rfl ?_
  refine l_s rfl rfl ?_
  refine l_s rfl rfl ?_
  refine l_s rfl rfl ?_
  refine l_s rfl rfl ?_
  refine l_s rfl rfl ?_
  refine l_s rfl rfl ?_
  refine l_op 2 rfl rfl rfl rfl rfl ?_
  refine l_op 0 rfl rfl rfl rfl rfl ?_
  refine l_s rfl rfl ?_
  refine l_s rfl rfl ?_
  refine l_s rfl rfl ?_
  refine l_s rfl rfl ?_
  refine l_s rfl rfl ?_
  refine l_s rfl rfl ?_
  refine l_s rfl rfl ?_
  refine l_s rfl rfl ?_
  refine l_op 2 rfl rfl rfl rfl rfl ?_
  refine l_op 0 rfl rfl rfl rfl rfl ?_
  refine l_s rfl rfl ?_
  refine l_s rfl rfl ?_
  refine l_s rfl rfl ?_
  refine l_s rfl rfl ?_
  refine l_op 2 rfl rfl rfl rfl rfl ?_
  refine l_op 0 rfl rfl rfl rfl rfl ?_
  refine l_s rfl rfl ?_
  refine l_s rfl rfl ?_
  refine l_s rfl rfl ?_
  refine l_s rfl rfl ?_
  refine l_op 2 rfl rfl rfl rfl rfl ?_
  refine l_op 0 rfl rfl rfl rfl rfl ?_
  refine l_s rfl rfl ?_
  refine l_s rfl rfl ?_
  refine l_s rfl rfl ?_
  refine l_s rfl rfl ?_
  refine l_s rfl rfl ?_
  refine l_s rfl rfl ?_
  refine l_op 2 rfl rfl rfl rfl rfl ?_
  refine l_op 0 rfl rfl rfl rfl rfl ?_
  refine l_s rfl rfl ?_
  refine l_s rfl rfl ?_
  refine l_s rfl rfl ?_
  refine l_s rfl rfl ?_
  refine l_s rfl rfl ?_
  refine l_s rfl rfl ?_
  refine l_s rfl rfl ?_
  refine l_op 2 rfl rfl rfl rfl rfl ?_
  refine l_op 0 rfl rfl rfl rfl rfl ?_
  refine l_s rfl rfl ?_
  refine l_s rfl rfl ?_
  refine l_op 2 rfl rfl rfl rfl rfl ?_
  refine l_op 0 rfl rfl rfl rfl rfl ?_
  refine l_s rfl rfl ?_
  refine l_s rfl rfl ?_
  refine l_s rfl rfl ?_
  refine l_op 2 rfl rfl rfl rfl rfl ?_
  refine l_op 0 rfl rfl rfl rfl rfl ?_
  refine l_s rfl rfl ?_
  refine l_s rfl rfl ?_
  refine l_s rfl rfl ?_
  refine l_op 2 rfl rfl rfl rfl rfl ?_
  refine l_op 0 rfl rfl rfl rfl rfl ?_
  refine l_s rfl rfl ?_
  refine l_s rfl rfl ?_
  refine l_s rfl rfl ?_
  refine l_s rfl rfl ?_
  refine l_op 2 rfl rfl rfl rfl rfl ?_
  refine l_op 0 rfl rfl rfl rfl rfl ?_
  refine l_s rfl rfl ?_
  refine l_s rfl rfl ?_
  refine l_s rfl rfl ?_
  refine l_s rfl rfl ?_
  refine l_s rfl rfl ?_
  refine l_s rfl rfl ?_
  refine l_s rfl rfl ?_
  refine l_s rfl rfl ?_
  refine l_op 2 rfl rfl rfl rfl rfl ?_
  refine l_op 0 rfl rfl rfl rfl rfl ?_
  refine l_s rfl rfl ?_
  refine l_s rfl rfl ?_
  refine l_s rfl rfl ?_
  refine l_op 2 rfl rfl rfl rfl rfl ?_
  refine l_op 0 rfl rfl rfl rfl rfl ?_
  refine l_s rfl rfl ?_
  refine l_op 2 rfl rfl rfl rfl rfl ?_
  refine l_op 0 rfl rfl rfl rfl rfl ?_
  refine l_nil (WK.nx (by assumption) ?_)
  refine SeqK.nx (by assumption) ?_
  refine k_ret ?_
  refine FunK.rt (by assumption) rfl ?_
  -- leaf 17
  first
  | rfl
  | exact absurd (by assumption : false = true) (by decide)
  | exact absurd (by assumption : true = false) (by decide)
  | exact absurd rfl (by assumption)
  | (exfalso; omega)

end Go.Proofs.Ytpocmkgfmmhhgaa
