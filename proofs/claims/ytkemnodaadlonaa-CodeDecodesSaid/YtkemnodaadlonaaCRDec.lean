/- The instruction at a place, by the document. No statement of the seat is proved in this text. -/
import Derived.Test.YtkemnodaadlonaaCRef
import Derived.Test.YtkemnodaadlonaaCIns
set_option linter.unusedVariables false
set_option linter.unusedSimpArgs false
set_option maxRecDepth 100000
set_option maxHeartbeats 4000000
namespace Go.Proofs.Ytkemnodaadlonaa
open GAb Go

theorem there11_call {σ : AState} {a : Option Addr} {l c : Nat} {at_ n : Int} (h0 : 0 ≤ at_) (hl : l ≤ 1000000000) :
    SCall Try.prog E0 40 [.slice a l c, .int .i64 at_, .int .i64 n] σ (Ret E0 σ (fun (y : Bool) => .bool (irr y)) (fun _ => []) fun y => y = true ↔ (at_ ≤ l ∧ at_ + n ≤ l)) := by
  refine k_fun Try.func40 rfl (m := 19) rfl fun B hD Q K => ?_
  have F := Facts.nil E0 σ
  refine k_seq (fun Q K => ?_)
  refine k_lin (fun W K => ?_)
  refine l_op 0 rfl rfl rfl rfl rfl ?_
  refine l_nil (WK.nx (by assumption) ?_)
  refine SeqK.nx (by assumption) ?_
  refine k_seq (fun Q K => ?_)
  refine k_lin (fun W K => ?_)
  refine l_op 0 rfl rfl rfl rfl rfl ?_
  refine l_op 0 rfl rfl rfl rfl rfl ?_
  first | refine l_op 2 rfl rfl rfl rfl rfl ?_ | refine l_ln rfl rfl rfl rfl ?_
  refine l_cmp rfl rfl rfl rfl ?_
  refine l_op 0 rfl rfl rfl rfl rfl ?_
  refine l_guard rfl rfl rfl (fun hc1 => ?_) (fun hc1 => ?_)
  · replace hc1 := of_decide_eq_true ((irr_eq _).symm.trans hc1)
    refine l_op 0 rfl rfl rfl rfl rfl ?_
    first | refine l_op 2 rfl rfl rfl rfl rfl ?_ | refine l_ln rfl rfl rfl rfl ?_
    refine l_op 0 rfl rfl rfl rfl rfl ?_
    refine l_a64 rfl rfl rfl (by omega) rfl ?_
    refine l_op 0 rfl rfl rfl rfl rfl ?_
    refine l_cmp rfl rfl rfl rfl ?_
    refine l_op 2 rfl rfl rfl rfl rfl ?_
    refine l_op 0 rfl rfl rfl rfl rfl ?_
    refine l_nil (WK.nx (by assumption) ?_)
    refine SeqK.nx (by assumption) ?_
    refine k_ret ?_
    refine FunK.rt (by assumption) rfl ?_
    -- leaf 1
    first
      | exact ⟨false, irr_f, F, ⟨fun h => (by cases h), fun h => by omega⟩⟩
      | exact ⟨_, rfl, F, by show decide _ = true ↔ _; rw [decide_eq_true_eq]; omega⟩
  replace hc1 := of_decide_eq_false ((irr_eq _).symm.trans hc1)
  refine l_s rfl rfl ?_
  refine l_s rfl rfl ?_
  refine l_s rfl rfl ?_
  refine l_s rfl rfl ?_
  refine l_s rfl rfl ?_
  refine l_s rfl rfl ?_
  refine l_op 2 rfl rfl rfl rfl rfl ?_
  refine l_op 0 rfl rfl rfl rfl rfl ?_
  refine l_nil (WK.nx (by assumption) ?_)
  refine SeqK.nx (by assumption) ?_
  refine k_ret ?_
  refine FunK.rt (by assumption) rfl ?_
  -- leaf 2
  first
    | exact ⟨false, irr_f, F, ⟨fun h => (by cases h), fun h => by omega⟩⟩
    | exact ⟨_, rfl, F, by show decide _ = true ↔ _; rw [decide_eq_true_eq]; omega⟩
theorem nib_even {bs : List Int} {p i : Int} (hi : 0 ≤ i) (h : i % 2 ≠ 1) : bs.getD (p + i / 2).toNat 0 % 16 = nibR bs p i.toNat := by
  have e : p + ((i.toNat / 2 : Nat) : Int) = p + i / 2 := by omega
  unfold nibR
  rw [e, if_pos (by omega), Int.ediv_one]
theorem nib_odd {bs : List Int} {p i : Int} (hi : 0 ≤ i) (h : i % 2 = 1) : bs.getD (p + i / 2).toNat 0 / 16 % 16 = nibR bs p i.toNat := by
  have e : p + ((i.toNat / 2 : Nat) : Int) = p + i / 2 := by omega
  unfold nibR
  rw [e, if_neg (by omega)]
theorem nibs_take {ms : List Int} {i : Nat} (h : i < ms.length) : rows eO ((ms.take i).map fun m => (m, 0)) ++ rows eO [(ms.getD i 0, 0)] = rows eO ((ms.take (i + 1)).map fun m => (m, (0 : Int))) := by
  rw [← rows_append, List.take_succ_eq_append_getElem h, List.map_append]
  simp [List.getD, h]
theorem cst_lt2 {m : Int} (hm : 0 ≤ szm m) (h0 : szm m ≠ 0) : cst m = true ↔ m < 4 := by
  obtain ⟨z0, z1, z2, z3⟩ := szm_cases hm
  unfold cst
  rw [decide_eq_true_eq]
  constructor
  · intro h; omega
  · intro h
    refine ⟨?_, by omega⟩
    by_cases e : m = 0
    · subst e; exact absurd rfl h0
    · omega
theorem rdecode_call {σ : AState} {a : Option Addr} {l c : Nat} {bs : List Int} {at_ : Int} (h : Old E0 σ a l c 1 (u8l bs)) (hB : Bytes bs) (hl : l ≤ 1000000) :
    SCall Try.prog E0 15 [.slice a l c, .int .i64 at_] σ (Ret E0 σ (decV (decR sgR bs at_)) (fun y => [own y.1 (decR sgR bs at_).2.1.length y.2 2 (rows eO (decR sgR bs at_).2.1)]) fun _ => True) := by
  have hbl := h.len8
  refine k_fun Try.func15 rfl (m := 173) rfl fun B hD Q K => ?_
  have F := (Facts.nil E0 σ).nilrow 2
  refine k_seq (fun Q K => ?_)
  refine k_lin (fun W K => ?_)
  refine l_al F rfl rfl rfl rfl (fun q4 s F => ?_)
  (try dsimp only [n_1, n_2, n_3, n_4, List.append_nil, pk, n_5, n_6] at F)
  refine l_op 0 rfl rfl rfl rfl rfl ?_
  refine l_op 0 rfl rfl rfl rfl rfl ?_
  refine l_nil (WK.nx (by assumption) ?_)
  refine SeqK.nx (by assumption) ?_
  refine k_seq (fun Q K => ?_)
  refine k_lin (fun W K => ?_)
  refine l_bld rfl rfl rfl rfl ?_
  refine l_al F rfl rfl rfl rfl (fun q7 s F => ?_)
  (try dsimp only [n_1, n_2, n_3, n_4, List.append_nil, pk, n_5, n_6] at F)
  refine l_stca F 2 rfl rfl rfl rfl rfl rfl rfl rfl rfl rfl hD rfl (fun s F => ?_)
  (try dsimp only [n_1, n_2, n_3, n_4, List.append_nil, pk, n_5, n_6] at F)
  refine l_nil (WK.nx (by assumption) ?_)
  refine SeqK.nx (by assumption) ?_
  refine k_seq (fun Q K => ?_)
  refine k_seq (fun Q K => ?_)
  refine k_lin (fun W K => ?_)
  refine l_op 0 rfl rfl rfl rfl rfl ?_
  refine l_cmp rfl rfl rfl rfl ?_
  refine l_nil (WK.nx (by assumption) ?_)
  refine SeqK.nx (by assumption) ?_
  refine l_cond rfl rfl (fun hc1 => ?_) (fun hc1 => ?_)
  · replace hc1 := of_decide_eq_true ((irr_eq _).symm.trans hc1)
    have hr : decR sgR bs at_ = (0, [], 0, 1) := if_pos (by assumption)
    refine k_seq (fun Q K => ?_)
    refine k_lin (fun W K => ?_)
    refine l_ldca F 2 rfl rfl rfl rfl rfl rfl rfl ?_
    refine l_stca F 1 rfl rfl rfl rfl rfl rfl rfl rfl rfl rfl hD rfl (fun s F => ?_)
    (try dsimp only [n_1, n_2, n_3, n_4, List.append_nil, pk, n_5, n_6] at F)
    refine l_op 0 rfl rfl rfl rfl rfl ?_
    refine l_op 0 rfl rfl rfl rfl rfl ?_
    refine l_nil (WK.nx (by assumption) ?_)
    refine SeqK.nx (by assumption) ?_
    refine k_ret ?_
    refine SeqK.rt (by assumption) ?_
    first | refine FunK.rtc (by assumption) (res_cell F 0 rfl rfl (by kernel_rfl) (resE_rsv rfl)) ?_ | refine FunK.rtc (by assumption) (res_cell F 1 rfl rfl (by kernel_rfl) (resE_rsv rfl)) ?_ | refine FunK.rtc (by assumption) (res_cell F 2 rfl rfl (by kernel_rfl) (resE_rsv rfl)) ?_ | refine FunK.rtc (by assumption) (res_cell F 3 rfl rfl (by kernel_rfl) (resE_rsv rfl)) ?_ | refine FunK.rtc (by assumption) (res_cell F 4 rfl rfl (by kernel_rfl) (resE_rsv rfl)) ?_ | refine FunK.rtc (by assumption) (res_cell F 5 rfl rfl (by kernel_rfl) (resE_rsv rfl)) ?_ | refine FunK.rtc (by assumption) (res_cell F 6 rfl rfl (by kernel_rfl) (resE_rsv rfl)) ?_ | refine FunK.rtc (by assumption) (res_cell F 7 rfl rfl (by kernel_rfl) (resE_rsv rfl)) ?_
    -- leaf 1
    first
      | (rw [hr]; exact ⟨(none, 0), rfl, F.pick [0] (by decide), trivial⟩)
      | (rw [hr]
         refine ⟨(x, k), ?_, ?_, trivial⟩
         · show _ = Value.tuple #[.agg #[.int .u32 opx, .slice _ pre.length _], _, _]
           rw [hpl]; rfl
         · show Facts _ _ _ [own _ pre.length _ 2 (rows eO pre)]
           rw [hpl]; exact F.pick [4] (by decide))
  replace hc1 := of_decide_eq_false ((irr_eq _).symm.trans hc1)
  refine k_skip ?_
  refine SeqK.nx (by assumption) ?_
  refine k_seq (fun Q K => ?_)
  refine k_seq (fun Q K => ?_)
  refine k_lin (fun W K => ?_)
  refine l_op 0 rfl rfl rfl rfl rfl ?_
  refine l_op 0 rfl rfl rfl rfl rfl ?_
  refine l_callp F rfl rfl (by kernel_rfl) rfl rfl (there11_call (by omega) (by omega)) (fun y28 s F hy28 => ?_)
  (try dsimp only [n_1, n_2, n_3, n_4, List.append_nil, pk, n_5, n_6] at F)
  refine l_op 2 rfl rfl rfl rfl rfl ?_
  refine l_nil (WK.nx (by assumption) ?_)
  refine SeqK.nx (by assumption) ?_
  refine l_cond rfl rfl (fun hc2 => ?_) (fun hc2 => ?_)
  · try simp only [irr_eq, beq_iff_eq, bne_iff_ne, beq_eq_false_iff_ne, bne_eq_false_iff_eq, ne_eq, decide_eq_true_eq, decide_eq_false_iff_not, Bool.not_eq_true', Bool.not_eq_false'] at hc2
    have hnt : ¬ (at_ ≤ l ∧ at_ + 1 ≤ l) := fun hh => by rw [hy28.2 hh] at hc2; cases hc2
    have hr : decR sgR bs at_ = (0, [], 0, 90) := by
      have hnum : numR bs at_ = none := by unfold numR; rw [if_pos (by omega)]
      unfold decR; rw [if_neg (by assumption), hnum]
    refine k_seq (fun Q K => ?_)
    refine k_lin (fun W K => ?_)
    refine l_ldca F 2 rfl rfl rfl rfl rfl rfl rfl ?_
    refine l_stca F 1 rfl rfl rfl rfl rfl rfl rfl rfl rfl rfl hD rfl (fun s F => ?_)
    (try dsimp only [n_1, n_2, n_3, n_4, List.append_nil, pk, n_5, n_6] at F)
    refine l_op 0 rfl rfl rfl rfl rfl ?_
    refine l_op 0 rfl rfl rfl rfl rfl ?_
    refine l_nil (WK.nx (by assumption) ?_)
    refine SeqK.nx (by assumption) ?_
    refine k_ret ?_
    refine SeqK.rt (by assumption) ?_
    first | refine FunK.rtc (by assumption) (res_cell F 0 rfl rfl (by kernel_rfl) (resE_rsv rfl)) ?_ | refine FunK.rtc (by assumption) (res_cell F 1 rfl rfl (by kernel_rfl) (resE_rsv rfl)) ?_ | refine FunK.rtc (by assumption) (res_cell F 2 rfl rfl (by kernel_rfl) (resE_rsv rfl)) ?_ | refine FunK.rtc (by assumption) (res_cell F 3 rfl rfl (by kernel_rfl) (resE_rsv rfl)) ?_ | refine FunK.rtc (by assumption) (res_cell F 4 rfl rfl (by kernel_rfl) (resE_rsv rfl)) ?_ | refine FunK.rtc (by assumption) (res_cell F 5 rfl rfl (by kernel_rfl) (resE_rsv rfl)) ?_ | refine FunK.rtc (by assumption) (res_cell F 6 rfl rfl (by kernel_rfl) (resE_rsv rfl)) ?_ | refine FunK.rtc (by assumption) (res_cell F 7 rfl rfl (by kernel_rfl) (resE_rsv rfl)) ?_
    -- leaf 2
    first
      | (rw [hr]; exact ⟨(none, 0), rfl, F.pick [0] (by decide), trivial⟩)
      | (rw [hr]
         refine ⟨(x, k), ?_, ?_, trivial⟩
         · show _ = Value.tuple #[.agg #[.int .u32 opx, .slice _ pre.length _], _, _]
           rw [hpl]; rfl
         · show Facts _ _ _ [own _ pre.length _ 2 (rows eO pre)]
           rw [hpl]; exact F.pick [4] (by decide))
  try simp only [irr_eq, beq_iff_eq, bne_iff_ne, beq_eq_false_iff_ne, bne_eq_false_iff_eq, ne_eq, decide_eq_true_eq, decide_eq_false_iff_not, Bool.not_eq_true', Bool.not_eq_false'] at hc2
  have hth := hy28.1 (by assumption)
  have hb0 := hB.at at_.toNat
  have g2 := be2_lo hB at_.toNat
  have g4 := be4_lo hB at_.toNat
  have e1 : be bs at_.toNat 1 = bs.getD at_.toNat 0 := by simp [be]
  refine k_skip ?_
  refine SeqK.nx (by assumption) ?_
  refine k_seq (fun Q K => ?_)
  refine k_lin (fun W K => ?_)
  refine l_op 0 rfl rfl rfl rfl rfl ?_
  refine l_nil (WK.nx (by assumption) ?_)
  refine SeqK.nx (by assumption) ?_
  refine k_seq (fun Q K => ?_)
  refine k_seq (fun Q K => ?_)
  refine k_lin (fun W K => ?_)
  refine l_op 0 rfl rfl rfl rfl rfl ?_
  refine l_op 0 rfl rfl rfl rfl rfl ?_
  first | refine l_ixi rfl rfl rfl rfl rfl rfl (F.old (by assumption)) (by omega) (fun m33 b33 hA33 => ?_) | (refine l_ixoi F 0 rfl rfl rfl rfl rfl rfl rfl (by omega) (fun m e ha hA33 => ?_); cases ha) | (refine l_ixoi F 1 rfl rfl rfl rfl rfl rfl rfl (by omega) (fun m e ha hA33 => ?_); cases ha) | (refine l_ixoi F 2 rfl rfl rfl rfl rfl rfl rfl (by omega) (fun m e ha hA33 => ?_); cases ha) | (refine l_ixoi F 3 rfl rfl rfl rfl rfl rfl rfl (by omega) (fun m e ha hA33 => ?_); cases ha)
  refine l_ld0 rfl rfl rfl rfl rfl (by assumption) ?_
  refine l_cmp rfl rfl rfl rfl ?_
  refine l_nil (WK.nx (by assumption) ?_)
  refine SeqK.nx (by assumption) ?_
  refine l_cond rfl rfl (fun hc3 => ?_) (fun hc3 => ?_)
  · replace hc3 := of_decide_eq_true ((irr_eq _).symm.trans hc3)
    refine k_lin (fun W K => ?_)
    refine l_op 0 rfl rfl rfl rfl rfl ?_
    refine l_nil (WK.nx (by assumption) ?_)
    refine SeqK.nx (by assumption) ?_
    refine k_seq (fun Q K => ?_)
    refine k_seq (fun Q K => ?_)
    refine k_lin (fun W K => ?_)
    refine l_op 0 rfl rfl rfl rfl rfl ?_
    refine l_op 0 rfl rfl rfl rfl rfl ?_
    first | refine l_ixi rfl rfl rfl rfl rfl rfl (F.old (by assumption)) (by omega) (fun m38 b38 hA38 => ?_) | (refine l_ixoi F 0 rfl rfl rfl rfl rfl rfl rfl (by omega) (fun m e ha hA38 => ?_); cases ha) | (refine l_ixoi F 1 rfl rfl rfl rfl rfl rfl rfl (by omega) (fun m e ha hA38 => ?_); cases ha) | (refine l_ixoi F 2 rfl rfl rfl rfl rfl rfl rfl (by omega) (fun m e ha hA38 => ?_); cases ha) | (refine l_ixoi F 3 rfl rfl rfl rfl rfl rfl rfl (by omega) (fun m e ha hA38 => ?_); cases ha)
    refine l_ld0 rfl rfl rfl rfl rfl (by assumption) ?_
    refine l_cmp rfl rfl rfl rfl ?_
    refine l_nil (WK.nx (by assumption) ?_)
    refine SeqK.nx (by assumption) ?_
    refine l_cond rfl rfl (fun hc4 => ?_) (fun hc4 => ?_)
    · replace hc4 := of_decide_eq_true ((irr_eq _).symm.trans hc4)
      refine k_lin (fun W K => ?_)
      refine l_op 0 rfl rfl rfl rfl rfl ?_
      refine l_nil (WK.nx (by assumption) ?_)
      refine SeqK.nx (by assumption) ?_
      refine k_seq (fun Q K => ?_)
      refine k_seq (fun Q K => ?_)
      refine k_lin (fun W K => ?_)
      refine l_op 0 rfl rfl rfl rfl rfl ?_
      refine l_op 0 rfl rfl rfl rfl rfl ?_
      refine l_op 0 rfl rfl rfl rfl rfl ?_
      refine l_callp F rfl rfl (by kernel_rfl) rfl rfl (there11_call (by omega) (by omega)) (fun y44 s F hy44 => ?_)
      (try dsimp only [n_1, n_2, n_3, n_4, List.append_nil, pk, n_5, n_6] at F)
      refine l_op 2 rfl rfl rfl rfl rfl ?_
      refine l_nil (WK.nx (by assumption) ?_)
      refine SeqK.nx (by assumption) ?_
      refine l_cond rfl rfl (fun hc5 => ?_) (fun hc5 => ?_)
      · try simp only [irr_eq, beq_iff_eq, bne_iff_ne, beq_eq_false_iff_ne, bne_eq_false_iff_eq, ne_eq, decide_eq_true_eq, decide_eq_false_iff_not, Bool.not_eq_true', Bool.not_eq_false'] at hc5
        have hr : decR sgR bs at_ = (0, [], 0, 90) := by
          have hnum : numR bs at_ = none := by
            have hnt : ¬ (at_ ≤ l ∧ _) := fun hh => by rw [hy44.2 hh] at hc5; cases hc5
            unfold numR
            (repeat' split) <;> first | rfl | (exfalso; omega)
          unfold decR; rw [if_neg (by assumption), hnum]
        refine k_seq (fun Q K => ?_)
        refine k_lin (fun W K => ?_)
        refine l_ldca F 2 rfl rfl rfl rfl rfl rfl rfl ?_
        refine l_stca F 1 rfl rfl rfl rfl rfl rfl rfl rfl rfl rfl hD rfl (fun s F => ?_)
        (try dsimp only [n_1, n_2, n_3, n_4, List.append_nil, pk, n_5, n_6] at F)
        refine l_op 0 rfl rfl rfl rfl rfl ?_
        refine l_op 0 rfl rfl rfl rfl rfl ?_
        refine l_nil (WK.nx (by assumption) ?_)
        refine SeqK.nx (by assumption) ?_
        refine k_ret ?_
        refine SeqK.rt (by assumption) ?_
        first | refine FunK.rtc (by assumption) (res_cell F 0 rfl rfl (by kernel_rfl) (resE_rsv rfl)) ?_ | refine FunK.rtc (by assumption) (res_cell F 1 rfl rfl (by kernel_rfl) (resE_rsv rfl)) ?_ | refine FunK.rtc (by assumption) (res_cell F 2 rfl rfl (by kernel_rfl) (resE_rsv rfl)) ?_ | refine FunK.rtc (by assumption) (res_cell F 3 rfl rfl (by kernel_rfl) (resE_rsv rfl)) ?_ | refine FunK.rtc (by assumption) (res_cell F 4 rfl rfl (by kernel_rfl) (resE_rsv rfl)) ?_ | refine FunK.rtc (by assumption) (res_cell F 5 rfl rfl (by kernel_rfl) (resE_rsv rfl)) ?_ | refine FunK.rtc (by assumption) (res_cell F 6 rfl rfl (by kernel_rfl) (resE_rsv rfl)) ?_ | refine FunK.rtc (by assumption) (res_cell F 7 rfl rfl (by kernel_rfl) (resE_rsv rfl)) ?_
        -- leaf 3
        first
          | (rw [hr]; exact ⟨(none, 0), rfl, F.pick [0] (by decide), trivial⟩)
          | (rw [hr]
             refine ⟨(x, k), ?_, ?_, trivial⟩
             · show _ = Value.tuple #[.agg #[.int .u32 opx, .slice _ pre.length _], _, _]
               rw [hpl]; rfl
             · show Facts _ _ _ [own _ pre.length _ 2 (rows eO pre)]
               rw [hpl]; exact F.pick [4] (by decide))
      try simp only [irr_eq, beq_iff_eq, bne_iff_ne, beq_eq_false_iff_ne, bne_eq_false_iff_eq, ne_eq, decide_eq_true_eq, decide_eq_false_iff_not, Bool.not_eq_true', Bool.not_eq_false'] at hc5
      have hth2 := hy44.1 (by assumption)
      refine k_skip ?_
      refine SeqK.nx (by assumption) ?_
      refine k_seq (fun Q K => ?_)
      refine k_lin (fun W K => ?_)
      refine l_op 0 rfl rfl rfl rfl rfl ?_
      refine l_op 0 rfl rfl rfl rfl rfl ?_
      refine l_op 0 rfl rfl rfl rfl rfl ?_
      first
        | (have hbc := rbe_call (σ := s) (at_ := at_) (n := 1) (Old.pure (F.old h)) hB (by omega)
           rw [beV_ok (by omega) (by omega), show (1 : Int).toNat = 1 from rfl] at hbc
           refine l_callp F rfl rfl (by kernel_rfl) rfl rfl hbc (fun _ s F _ => ?_))
        | (have hbc := rbe_call (σ := s) (at_ := at_) (n := 2) (Old.pure (F.old h)) hB (by omega)
           rw [beV_ok (by omega) (by omega), show (2 : Int).toNat = 2 from rfl] at hbc
           refine l_callp F rfl rfl (by kernel_rfl) rfl rfl hbc (fun _ s F _ => ?_))
        | (have hbc := rbe_call (σ := s) (at_ := at_) (n := 4) (Old.pure (F.old h)) hB (by omega)
           rw [beV_ok (by omega) (by omega), show (4 : Int).toNat = 4 from rfl] at hbc
           refine l_callp F rfl rfl (by kernel_rfl) rfl rfl hbc (fun _ s F _ => ?_))
      (try dsimp only [n_1, n_2, n_3, n_4, List.append_nil, pk, n_5, n_6] at F)
      refine l_op 0 rfl rfl rfl rfl rfl ?_
      refine l_op 2 rfl rfl rfl rfl rfl ?_
      refine l_op 2 rfl rfl rfl rfl rfl ?_
      refine l_op 0 rfl rfl rfl rfl rfl ?_
      refine l_op 0 rfl rfl rfl rfl rfl ?_
      refine l_nil (WK.nx (by assumption) ?_)
      refine SeqK.nx (by assumption) ?_
      refine k_seq (fun Q K => ?_)
      refine k_seq (fun Q K => ?_)
      refine k_lin (fun W K => ?_)
      refine l_op 0 rfl rfl rfl rfl rfl ?_
      refine l_cmp rfl rfl rfl rfl ?_
      refine l_nil (WK.nx (by assumption) ?_)
      refine SeqK.nx (by assumption) ?_
      refine l_cond rfl rfl (fun hc6 => ?_) (fun hc6 => ?_)
      · first | replace hc6 := eq_of_beq ((irr_eq _).symm.trans hc6) | simp only [irr_eq, beq_iff_eq, beq_eq_false_iff_ne, ne_eq, decide_eq_true_eq, decide_eq_false_iff_not] at hc6
        omega
      first | replace hc6 := ne_of_beq_false ((irr_eq _).symm.trans hc6) | simp only [irr_eq, beq_iff_eq, beq_eq_false_iff_ne, ne_eq, decide_eq_true_eq, decide_eq_false_iff_not] at hc6
      refine k_skip ?_
      refine SeqK.nx (by assumption) ?_
      refine k_seq (fun Q K => ?_)
      refine k_seq (fun Q K => ?_)
      refine k_lin (fun W K => ?_)
      refine l_op 0 rfl rfl rfl rfl rfl ?_
      refine l_cmp rfl rfl rfl rfl ?_
      refine l_nil (WK.nx (by assumption) ?_)
      refine SeqK.nx (by assumption) ?_
      refine l_cond rfl rfl (fun hc7 => ?_) (fun hc7 => ?_)
      · first | replace hc7 := eq_of_beq ((irr_eq _).symm.trans hc7) | simp only [irr_eq, beq_iff_eq, beq_eq_false_iff_ne, ne_eq, decide_eq_true_eq, decide_eq_false_iff_not] at hc7
        refine k_lin (fun W K => ?_)
        refine l_op 0 rfl rfl rfl rfl rfl ?_
        refine l_a32 rfl rfl rfl (by omega) rfl ?_
        refine l_op 0 rfl rfl rfl rfl rfl ?_
        refine l_nil (WK.nx (by assumption) ?_)
        refine SeqK.nx (by assumption) ?_
        refine k_seq (fun Q K => ?_)
        refine k_lin (fun W K => ?_)
        refine l_op 0 rfl rfl rfl rfl rfl ?_
        first
          | (have hnum : numR bs at_ = some (be bs at_.toNat 1, 1) := by unfold numR; rw [if_neg (by omega), if_neg (by omega), if_neg (by omega)]
             have hop : U32 (be bs at_.toNat 1) := ⟨by omega, by omega⟩
             refine l_callp F rfl rfl (by kernel_rfl) rfl rfl (rsig_call hop) (fun _ s F _ => ?_)
             obtain ⟨opx, hopx⟩ : ∃ o, o = be bs at_.toNat 1 := ⟨_, rfl⟩
             rw [← hopx] at hnum hop ⊢)
          | (have hnum : numR bs at_ = some (be bs at_.toNat 2 - 32768, 2) := by unfold numR; rw [if_neg (by omega), if_neg (by omega), if_pos (by omega), if_neg (by omega)]
             have hop : U32 (be bs at_.toNat 2 - 32768) := ⟨by omega, by omega⟩
             refine l_callp F rfl rfl (by kernel_rfl) rfl rfl (rsig_call hop) (fun _ s F _ => ?_)
             obtain ⟨opx, hopx⟩ : ∃ o, o = be bs at_.toNat 2 - 32768 := ⟨_, rfl⟩
             rw [← hopx] at hnum hop ⊢)
          | (have hnum : numR bs at_ = some (be bs at_.toNat 4 - 3221225472, 4) := by unfold numR; rw [if_neg (by omega), if_pos (by omega), if_neg (by omega)]
             have hop : U32 (be bs at_.toNat 4 - 3221225472) := ⟨by omega, by omega⟩
             refine l_callp F rfl rfl (by kernel_rfl) rfl rfl (rsig_call hop) (fun _ s F _ => ?_)
             obtain ⟨opx, hopx⟩ : ∃ o, o = be bs at_.toNat 4 - 3221225472 := ⟨_, rfl⟩
             rw [← hopx] at hnum hop ⊢)
        (try dsimp only [n_1, n_2, n_3, n_4, List.append_nil, pk, n_5, n_6] at F)
        have hs8 := sig_size opx
        generalize hS : sigP opx = sp at hs8 ⊢
        refine l_op 0 rfl rfl rfl rfl rfl ?_
        refine l_op 2 rfl rfl rfl rfl rfl ?_
        refine l_op 2 rfl rfl rfl rfl rfl ?_
        refine l_op 0 rfl rfl rfl rfl rfl ?_
        refine l_op 0 rfl rfl rfl rfl rfl ?_
        refine l_nil (WK.nx (by assumption) ?_)
        refine SeqK.nx (by assumption) ?_
        refine k_seq (fun Q K => ?_)
        refine k_seq (fun Q K => ?_)
        refine k_lin (fun W K => ?_)
        refine l_op 0 rfl rfl rfl rfl rfl ?_
        refine l_op 2 rfl rfl rfl rfl rfl ?_
        refine l_nil (WK.nx (by assumption) ?_)
        refine SeqK.nx (by assumption) ?_
        refine l_cond rfl rfl (fun hc8 => ?_) (fun hc8 => ?_)
        · try simp only [irr_eq, beq_iff_eq, bne_iff_ne, beq_eq_false_iff_ne, bne_eq_false_iff_eq, ne_eq, decide_eq_true_eq, decide_eq_false_iff_not, Bool.not_eq_true', Bool.not_eq_false'] at hc8
          have hr : decR sgR bs at_ = (0, [], 0, 110) := by
            have hsg : sgR opx = none := by unfold sgR; rw [hS, if_neg (by simp_all)]
            unfold decR; rw [if_neg (by assumption), hnum]
            simp only [hsg]
          refine k_seq (fun Q K => ?_)
          refine k_lin (fun W K => ?_)
          refine l_ldca F 2 rfl rfl rfl rfl rfl rfl rfl ?_
          refine l_stca F 1 rfl rfl rfl rfl rfl rfl rfl rfl rfl rfl hD rfl (fun s F => ?_)
          (try dsimp only [n_1, n_2, n_3, n_4, List.append_nil, pk, n_5, n_6] at F)
          refine l_op 0 rfl rfl rfl rfl rfl ?_
          refine l_op 0 rfl rfl rfl rfl rfl ?_
          refine l_nil (WK.nx (by assumption) ?_)
          refine SeqK.nx (by assumption) ?_
          refine k_ret ?_
          refine SeqK.rt (by assumption) ?_
          first | refine FunK.rtc (by assumption) (res_cell F 0 rfl rfl (by kernel_rfl) (resE_rsv rfl)) ?_ | refine FunK.rtc (by assumption) (res_cell F 1 rfl rfl (by kernel_rfl) (resE_rsv rfl)) ?_ | refine FunK.rtc (by assumption) (res_cell F 2 rfl rfl (by kernel_rfl) (resE_rsv rfl)) ?_ | refine FunK.rtc (by assumption) (res_cell F 3 rfl rfl (by kernel_rfl) (resE_rsv rfl)) ?_ | refine FunK.rtc (by assumption) (res_cell F 4 rfl rfl (by kernel_rfl) (resE_rsv rfl)) ?_ | refine FunK.rtc (by assumption) (res_cell F 5 rfl rfl (by kernel_rfl) (resE_rsv rfl)) ?_ | refine FunK.rtc (by assumption) (res_cell F 6 rfl rfl (by kernel_rfl) (resE_rsv rfl)) ?_ | refine FunK.rtc (by assumption) (res_cell F 7 rfl rfl (by kernel_rfl) (resE_rsv rfl)) ?_
          -- leaf 4
          first
            | (rw [hr]; exact ⟨(none, 0), rfl, F.pick [0] (by decide), trivial⟩)
            | (rw [hr]
               refine ⟨(x, k), ?_, ?_, trivial⟩
               · show _ = Value.tuple #[.agg #[.int .u32 opx, .slice _ pre.length _], _, _]
                 rw [hpl]; rfl
               · show Facts _ _ _ [own _ pre.length _ 2 (rows eO pre)]
                 rw [hpl]; exact F.pick [4] (by decide))
        try simp only [irr_eq, beq_iff_eq, bne_iff_ne, beq_eq_false_iff_ne, bne_eq_false_iff_eq, ne_eq, decide_eq_true_eq, decide_eq_false_iff_not, Bool.not_eq_true', Bool.not_eq_false'] at hc8
        have hsg : sgR opx = some (ltr sp.1) := by unfold sgR; rw [hS, if_pos (by simp_all)]
        obtain ⟨kk, hkk⟩ : ∃ kk, sp.1.size = kk := ⟨_, rfl⟩
        have hsl : (ltr sp.1).length = kk := by rw [ltr_length, hkk]
        have hd0 := dec_at (sg := sgR) (bs := bs) (at_ := at_) (by assumption) hnum hsg
        rw [hsl] at hd0
        refine k_skip ?_
        refine SeqK.nx (by assumption) ?_
        refine k_seq (fun Q K => ?_)
        refine k_lin (fun W K => ?_)
        refine l_op 0 rfl rfl rfl rfl rfl ?_
        refine l_ln rfl rfl rfl rfl ?_
        rw [hkk]
        refine l_a64 rfl rfl rfl (by omega) rfl ?_
        first | refine l_quon rfl rfl rfl rfl rfl (by omega) rfl ?_ | refine l_quou64 rfl rfl rfl rfl rfl (by omega) rfl ?_ | refine l_quou32 rfl rfl rfl rfl rfl (by omega) rfl ?_ | refine l_quo rfl rfl rfl rfl rfl (by omega) rfl ?_
        refine l_op 0 rfl rfl rfl rfl rfl ?_
        refine l_nil (WK.nx (by assumption) ?_)
        refine SeqK.nx (by assumption) ?_
        refine k_seq (fun Q K => ?_)
        refine k_seq (fun Q K => ?_)
        refine k_lin (fun W K => ?_)
        refine l_op 0 rfl rfl rfl rfl rfl ?_
        refine l_op 0 rfl rfl rfl rfl rfl ?_
        refine l_op 0 rfl rfl rfl rfl rfl ?_
        refine l_op 0 rfl rfl rfl rfl rfl ?_
        refine l_a64 rfl rfl rfl (by omega) rfl ?_
        refine l_callp F rfl rfl (by kernel_rfl) rfl rfl (there11_call (by omega) (by omega)) (fun y79 s F hy79 => ?_)
        (try dsimp only [n_1, n_2, n_3, n_4, List.append_nil, pk, n_5, n_6] at F)
        refine l_op 2 rfl rfl rfl rfl rfl ?_
        refine l_nil (WK.nx (by assumption) ?_)
        refine SeqK.nx (by assumption) ?_
        refine l_cond rfl rfl (fun hc9 => ?_) (fun hc9 => ?_)
        · try simp only [irr_eq, beq_iff_eq, bne_iff_ne, beq_eq_false_iff_ne, bne_eq_false_iff_eq, ne_eq, decide_eq_true_eq, decide_eq_false_iff_not, Bool.not_eq_true', Bool.not_eq_false'] at hc9
          have hr : decR sgR bs at_ = (0, [], 0, 90) := by
            have hnt : ¬ (at_ ≤ l ∧ at_ + _ ≤ l) := fun hh => by rw [hy79.2 hh] at hc9; cases hc9
            rw [hd0, if_pos (by omega)]
          refine k_seq (fun Q K => ?_)
          refine k_lin (fun W K => ?_)
          refine l_ldca F 2 rfl rfl rfl rfl rfl rfl rfl ?_
          refine l_stca F 1 rfl rfl rfl rfl rfl rfl rfl rfl rfl rfl hD rfl (fun s F => ?_)
          (try dsimp only [n_1, n_2, n_3, n_4, List.append_nil, pk, n_5, n_6] at F)
          refine l_op 0 rfl rfl rfl rfl rfl ?_
          refine l_op 0 rfl rfl rfl rfl rfl ?_
          refine l_nil (WK.nx (by assumption) ?_)
          refine SeqK.nx (by assumption) ?_
          refine k_ret ?_
          refine SeqK.rt (by assumption) ?_
          first | refine FunK.rtc (by assumption) (res_cell F 0 rfl rfl (by kernel_rfl) (resE_rsv rfl)) ?_ | refine FunK.rtc (by assumption) (res_cell F 1 rfl rfl (by kernel_rfl) (resE_rsv rfl)) ?_ | refine FunK.rtc (by assumption) (res_cell F 2 rfl rfl (by kernel_rfl) (resE_rsv rfl)) ?_ | refine FunK.rtc (by assumption) (res_cell F 3 rfl rfl (by kernel_rfl) (resE_rsv rfl)) ?_ | refine FunK.rtc (by assumption) (res_cell F 4 rfl rfl (by kernel_rfl) (resE_rsv rfl)) ?_ | refine FunK.rtc (by assumption) (res_cell F 5 rfl rfl (by kernel_rfl) (resE_rsv rfl)) ?_ | refine FunK.rtc (by assumption) (res_cell F 6 rfl rfl (by kernel_rfl) (resE_rsv rfl)) ?_ | refine FunK.rtc (by assumption) (res_cell F 7 rfl rfl (by kernel_rfl) (resE_rsv rfl)) ?_
          -- leaf 5
          first
            | (rw [hr]; exact ⟨(none, 0), rfl, F.pick [0] (by decide), trivial⟩)
            | (rw [hr]
               refine ⟨(x, k), ?_, ?_, trivial⟩
               · show _ = Value.tuple #[.agg #[.int .u32 opx, .slice _ pre.length _], _, _]
                 rw [hpl]; rfl
               · show Facts _ _ _ [own _ pre.length _ 2 (rows eO pre)]
                 rw [hpl]; exact F.pick [4] (by decide))
        try simp only [irr_eq, beq_iff_eq, bne_iff_ne, beq_eq_false_iff_ne, bne_eq_false_iff_eq, ne_eq, decide_eq_true_eq, decide_eq_false_iff_not, Bool.not_eq_true', Bool.not_eq_false'] at hc9
        have hth3 := hy79.1 (by assumption)
        refine k_skip ?_
        refine SeqK.nx (by assumption) ?_
        refine k_seq (fun Q K => ?_)
        refine k_lin (fun W K => ?_)
        refine l_op 0 rfl rfl rfl rfl rfl ?_
        refine l_bld rfl rfl rfl rfl ?_
        refine l_al F rfl rfl rfl rfl (fun q14 s F => ?_)
        (try dsimp only [n_1, n_2, n_3, n_4, List.append_nil, pk, n_5, n_6] at F)
        refine l_stca F 3 rfl rfl rfl rfl rfl rfl rfl rfl rfl rfl hD rfl (fun s F => ?_)
        (try dsimp only [n_1, n_2, n_3, n_4, List.append_nil, pk, n_5, n_6] at F)
        refine l_nil (WK.nx (by assumption) ?_)
        refine SeqK.nx (by assumption) ?_
        refine k_seq (fun Q K => ?_)
        refine k_seq (fun Q K => ?_)
        refine k_lin (fun W K => ?_)
        refine l_op 0 rfl rfl rfl rfl rfl ?_
        refine l_nil (WK.nx (by assumption) ?_)
        refine SeqK.nx (by assumption) ?_
        refine k_block (fun Q K => ?_)
        have F := F.nilrow 2
        clear hd0
        first
          | refine k_loop (α := Int × Option Addr × Nat × Int) (fun ⟨i, x, k, n⟩ s => Facts E0 σ s [own none 0 0 2 [], cel q4 [.int .u32 0, .slice none 0 0], cel q7 [.int .u32 0, .slice none 0 0], cel q14 [.int .u32 opx, .slice x i.toNat k], own x i.toNat k 2 (rows eO (((modesR bs (at_ + n) kk).take i.toNat).map fun m => (m, 0)))] ∧ 0 ≤ i ∧ i ≤ kk ∧ numR bs at_ = some (opx, n) ∧ at_ + (n + (((kk : Nat) : Int) + 1) / 2) ≤ l ∧ ∀ j : Nat, j < i → mayR ((ltr sp.1).getD j 0) ((modesR bs (at_ + n) kk).getD j 0) = true) (fun ⟨i, x, k, n⟩ => [(0, .slice a l c), (1, .int .i64 at_), (4, .pointer (some ⟨q4, 0, none⟩)), (7, .pointer (some ⟨q7, 0, none⟩)), (8, .int .i64 n), (11, .string sp.1), (13, .int .i64 ((((kk : Nat) : Int) + 1) / 2)), (14, .pointer (some ⟨q14, 0, none⟩)), (15, .int .i64 i)]) (fun ⟨i, _⟩ => (kk - i).toNat) (0, none, 0, 1) ⟨F, by omega, by omega, hnum, by omega, fun j hj => by omega⟩ (by repeat (first | exact trivial | refine And.intro rfl ?_)) ?_
          | refine k_loop (α := Int × Option Addr × Nat × Int) (fun ⟨i, x, k, n⟩ s => Facts E0 σ s [own none 0 0 2 [], cel q4 [.int .u32 0, .slice none 0 0], cel q7 [.int .u32 0, .slice none 0 0], cel q14 [.int .u32 opx, .slice x i.toNat k], own x i.toNat k 2 (rows eO (((modesR bs (at_ + n) kk).take i.toNat).map fun m => (m, 0)))] ∧ 0 ≤ i ∧ i ≤ kk ∧ numR bs at_ = some (opx, n) ∧ at_ + (n + (((kk : Nat) : Int) + 1) / 2) ≤ l ∧ ∀ j : Nat, j < i → mayR ((ltr sp.1).getD j 0) ((modesR bs (at_ + n) kk).getD j 0) = true) (fun ⟨i, x, k, n⟩ => [(0, .slice a l c), (1, .int .i64 at_), (4, .pointer (some ⟨q4, 0, none⟩)), (7, .pointer (some ⟨q7, 0, none⟩)), (8, .int .i64 n), (11, .string sp.1), (13, .int .i64 ((((kk : Nat) : Int) + 1) / 2)), (14, .pointer (some ⟨q14, 0, none⟩)), (15, .int .i64 i)]) (fun ⟨i, _⟩ => (kk - i).toNat) (0, none, 0, 2) ⟨F, by omega, by omega, hnum, by omega, fun j hj => by omega⟩ (by repeat (first | exact trivial | refine And.intro rfl ?_)) ?_
          | refine k_loop (α := Int × Option Addr × Nat × Int) (fun ⟨i, x, k, n⟩ s => Facts E0 σ s [own none 0 0 2 [], cel q4 [.int .u32 0, .slice none 0 0], cel q7 [.int .u32 0, .slice none 0 0], cel q14 [.int .u32 opx, .slice x i.toNat k], own x i.toNat k 2 (rows eO (((modesR bs (at_ + n) kk).take i.toNat).map fun m => (m, 0)))] ∧ 0 ≤ i ∧ i ≤ kk ∧ numR bs at_ = some (opx, n) ∧ at_ + (n + (((kk : Nat) : Int) + 1) / 2) ≤ l ∧ ∀ j : Nat, j < i → mayR ((ltr sp.1).getD j 0) ((modesR bs (at_ + n) kk).getD j 0) = true) (fun ⟨i, x, k, n⟩ => [(0, .slice a l c), (1, .int .i64 at_), (4, .pointer (some ⟨q4, 0, none⟩)), (7, .pointer (some ⟨q7, 0, none⟩)), (8, .int .i64 n), (11, .string sp.1), (13, .int .i64 ((((kk : Nat) : Int) + 1) / 2)), (14, .pointer (some ⟨q14, 0, none⟩)), (15, .int .i64 i)]) (fun ⟨i, _⟩ => (kk - i).toNat) (0, none, 0, 4) ⟨F, by omega, by omega, hnum, by omega, fun j hj => by omega⟩ (by repeat (first | exact trivial | refine And.intro rfl ?_)) ?_
        clear F hnum
        rintro ⟨i, x, k, n⟩ env s Q K0 ⟨F, i0, i1, hnum, hfit, hmay⟩
        obtain ⟨hop2, hn1, hn4, hnl⟩ := num_bd hB hnum
        have hdec := dec_at (sg := sgR) (bs := bs) (at_ := at_) (by assumption) hnum hsg
        rw [hsl, if_neg (by omega)] at hdec
        obtain ⟨ms, hms⟩ : ∃ ms, modesR bs (at_ + n) kk = ms := ⟨_, rfl⟩
        rw [hms] at hdec hmay F
        have hml : ms.length = kk := by rw [← hms, modes_len]
        refine k_seq (fun Q K => ?_)
        refine k_seq (fun Q K => ?_)
        refine k_lin (fun W K => ?_)
        refine l_op 0 rfl rfl rfl rfl rfl ?_
        refine l_op 0 rfl rfl rfl rfl rfl ?_
        refine l_ln rfl rfl rfl rfl ?_
        rw [hkk]
        refine l_cmp rfl rfl rfl rfl ?_
        refine l_nil (WK.nx (by assumption) ?_)
        refine SeqK.nx (by assumption) ?_
        refine l_cond rfl rfl (fun hc10 => ?_) (fun hc10 => ?_)
        · replace hc10 := of_decide_eq_true ((irr_eq _).symm.trans hc10)
          have hbb := hB.at (at_ + n + i / 2).toNat
          refine k_skip ?_
          refine SeqK.nx (by assumption) ?_
          refine k_seq (fun Q K => ?_)
          refine k_block (fun Q K => ?_)
          refine k_seq (fun Q K => ?_)
          refine k_lin (fun W K => ?_)
          refine l_op 0 rfl rfl rfl rfl rfl ?_
          refine l_op 0 rfl rfl rfl rfl rfl ?_
          refine l_op 0 rfl rfl rfl rfl rfl ?_
          refine l_a64 rfl rfl rfl (by omega) rfl ?_
          refine l_op 0 rfl rfl rfl rfl rfl ?_
          first | refine l_quon rfl rfl rfl rfl rfl (by omega) rfl ?_ | refine l_quou64 rfl rfl rfl rfl rfl (by omega) rfl ?_ | refine l_quou32 rfl rfl rfl rfl rfl (by omega) rfl ?_ | refine l_quo rfl rfl rfl rfl rfl (by omega) rfl ?_
          refine l_a64 rfl rfl rfl (by omega) rfl ?_
          first | refine l_ixi rfl rfl rfl rfl rfl rfl (F.old (by assumption)) (by omega) (fun m97 b97 hA97 => ?_) | (refine l_ixoi F 0 rfl rfl rfl rfl rfl rfl rfl (by omega) (fun m e ha hA97 => ?_); cases ha) | (refine l_ixoi F 1 rfl rfl rfl rfl rfl rfl rfl (by omega) (fun m e ha hA97 => ?_); cases ha) | (refine l_ixoi F 2 rfl rfl rfl rfl rfl rfl rfl (by omega) (fun m e ha hA97 => ?_); cases ha) | (refine l_ixoi F 3 rfl rfl rfl rfl rfl rfl rfl (by omega) (fun m e ha hA97 => ?_); cases ha)
          refine l_ld0 rfl rfl rfl rfl rfl (by assumption) ?_
          refine l_c64 rfl rfl rfl (by omega) rfl ?_
          refine l_op 0 rfl rfl rfl rfl rfl ?_
          refine l_nil (WK.nx (by assumption) ?_)
          refine SeqK.nx (by assumption) ?_
          refine k_seq (fun Q K => ?_)
          refine k_seq (fun Q K => ?_)
          refine k_lin (fun W K => ?_)
          refine l_op 0 rfl rfl rfl rfl rfl ?_
          first | refine l_remn rfl rfl rfl rfl rfl (by omega) rfl ?_ | refine l_rem rfl rfl rfl rfl rfl (by omega) rfl ?_
          refine l_cmp rfl rfl rfl rfl ?_
          refine l_nil (WK.nx (by assumption) ?_)
          refine SeqK.nx (by assumption) ?_
          refine l_cond rfl rfl (fun hc11 => ?_) (fun hc11 => ?_)
          · first | replace hc11 := eq_of_beq ((irr_eq _).symm.trans hc11) | simp only [irr_eq, beq_iff_eq, beq_eq_false_iff_ne, ne_eq, decide_eq_true_eq, decide_eq_false_iff_not] at hc11
            have hnb := nib_odd (bs := bs) (p := at_ + n) i0 hc11
            rw [← modes_at (bs := bs) (p := at_ + n) (k := kk) (i := i.toNat) (by omega), hms] at hnb
            refine k_lin (fun W K => ?_)
            refine l_op 0 rfl rfl rfl rfl rfl ?_
            first | refine l_quon rfl rfl rfl rfl rfl (by omega) rfl ?_ | refine l_quou64 rfl rfl rfl rfl rfl (by omega) rfl ?_ | refine l_quou32 rfl rfl rfl rfl rfl (by omega) rfl ?_ | refine l_quo rfl rfl rfl rfl rfl (by omega) rfl ?_
            refine l_op 0 rfl rfl rfl rfl rfl ?_
            refine l_nil (WK.nx (by assumption) ?_)
            refine SeqK.nx (by assumption) ?_
            refine k_seq (fun Q K => ?_)
            refine k_lin (fun W K => ?_)
            refine l_op 0 rfl rfl rfl rfl rfl ?_
            refine l_remn rfl rfl rfl rfl rfl (by omega) rfl ?_
            rw [hnb]
            refine l_op 0 rfl rfl rfl rfl rfl ?_
            refine l_nil (WK.nx (by assumption) ?_)
            refine SeqK.nx (by assumption) ?_
            refine k_seq (fun Q K => ?_)
            refine k_seq (fun Q K => ?_)
            refine k_lin (fun W K => ?_)
            refine l_op 0 rfl rfl rfl rfl rfl ?_
            refine l_op 0 rfl rfl rfl rfl rfl ?_
            refine l_sx rfl rfl rfl rfl rfl (by omega) ?_
            refine l_op 0 rfl rfl rfl rfl rfl ?_
            refine l_callp F rfl rfl (by kernel_rfl) rfl rfl rmay_call (fun _ s F _ => ?_)
            (try dsimp only [n_1, n_2, n_3, n_4, List.append_nil, pk, n_5, n_6] at F)
            refine l_op 2 rfl rfl rfl rfl rfl ?_
            refine l_nil (WK.nx (by assumption) ?_)
            refine SeqK.nx (by assumption) ?_
            refine l_cond rfl rfl (fun hc12 => ?_) (fun hc12 => ?_)
            · try simp only [irr_eq, beq_iff_eq, bne_iff_ne, beq_eq_false_iff_ne, bne_eq_false_iff_eq, ne_eq, decide_eq_true_eq, decide_eq_false_iff_not, Bool.not_eq_true', Bool.not_eq_false'] at hc12
              have hr : decR sgR bs at_ = (0, [], 0, 111) := by
                rw [hdec, allMay_not _ ms i.toNat (by omega) (by omega) hc12, if_pos rfl]
              refine k_seq (fun Q K => ?_)
              refine k_lin (fun W K => ?_)
              refine l_ldca F 2 rfl rfl rfl rfl rfl rfl rfl ?_
              refine l_stca F 1 rfl rfl rfl rfl rfl rfl rfl rfl rfl rfl hD rfl (fun s F => ?_)
              (try dsimp only [n_1, n_2, n_3, n_4, List.append_nil, pk, n_5, n_6] at F)
              refine l_op 0 rfl rfl rfl rfl rfl ?_
              refine l_op 0 rfl rfl rfl rfl rfl ?_
              refine l_nil (WK.nx (by assumption) ?_)
              refine SeqK.nx (by assumption) ?_
              refine k_ret ?_
              refine SeqK.rt (by assumption) ?_
              refine BlkK.rt (by assumption) ?_
              refine SeqK.rt (by assumption) ?_
              refine LoopK.rt (by assumption) ?_
              refine BlkK.rt (by assumption) ?_
              refine SeqK.rt (by assumption) ?_
              first | refine FunK.rtc (by assumption) (res_cell F 0 rfl rfl (by kernel_rfl) (resE_rsv rfl)) ?_ | refine FunK.rtc (by assumption) (res_cell F 1 rfl rfl (by kernel_rfl) (resE_rsv rfl)) ?_ | refine FunK.rtc (by assumption) (res_cell F 2 rfl rfl (by kernel_rfl) (resE_rsv rfl)) ?_ | refine FunK.rtc (by assumption) (res_cell F 3 rfl rfl (by kernel_rfl) (resE_rsv rfl)) ?_ | refine FunK.rtc (by assumption) (res_cell F 4 rfl rfl (by kernel_rfl) (resE_rsv rfl)) ?_ | refine FunK.rtc (by assumption) (res_cell F 5 rfl rfl (by kernel_rfl) (resE_rsv rfl)) ?_ | refine FunK.rtc (by assumption) (res_cell F 6 rfl rfl (by kernel_rfl) (resE_rsv rfl)) ?_ | refine FunK.rtc (by assumption) (res_cell F 7 rfl rfl (by kernel_rfl) (resE_rsv rfl)) ?_
              -- leaf 6
              first
                | (rw [hr]; exact ⟨(none, 0), rfl, F.pick [0] (by decide), trivial⟩)
                | (rw [hr]
                   refine ⟨(x, k), ?_, ?_, trivial⟩
                   · show _ = Value.tuple #[.agg #[.int .u32 opx, .slice _ pre.length _], _, _]
                     rw [hpl]; rfl
                   · show Facts _ _ _ [own _ pre.length _ 2 (rows eO pre)]
                     rw [hpl]; exact F.pick [4] (by decide))
            try simp only [irr_eq, beq_iff_eq, bne_iff_ne, beq_eq_false_iff_ne, bne_eq_false_iff_eq, ne_eq, decide_eq_true_eq, decide_eq_false_iff_not, Bool.not_eq_true', Bool.not_eq_false'] at hc12
            refine k_skip ?_
            refine SeqK.nx (by assumption) ?_
            refine k_lin (fun W K => ?_)
            refine l_op 2 rfl rfl rfl rfl rfl ?_
            refine l_ldc F 3 rfl rfl rfl rfl rfl rfl rfl ?_
            refine l_op 0 rfl rfl rfl rfl rfl ?_
            refine l_bld rfl rfl rfl rfl ?_
            refine l_lit (k := 2) F rfl rfl rfl rfl (fun q118 s F => ?_)
            (try dsimp only [n_1, n_2, n_3, n_4, List.append_nil, pk, n_5, n_6] at F)
            refine l_app (es := 2) (ns := rows eO [(ms.getD i.toNat 0, 0)]) F 4 rfl rfl rfl rfl rfl rfl rfl (F.has 5 rfl) (eO_one [(ms.getD i.toNat 0, 0)]) rfl (by omega) hD (fun x119 c119 s F => ?_)
            (try dsimp only [n_1, n_2, n_3, n_4, List.append_nil, pk, n_5, n_6] at F)
            rw [nibs_take (by omega)] at F
            refine l_op 2 rfl rfl rfl rfl rfl ?_
            refine l_stc F 3 rfl rfl rfl rfl rfl rfl rfl rfl rfl hD (fun s F => ?_)
            (try dsimp only [n_1, n_2, n_3, n_4, List.append_nil, pk, n_5, n_6] at F)
            refine l_nil (WK.nx (by assumption) ?_)
            refine BlkK.nx (by assumption) ?_
            refine SeqK.nx (by assumption) ?_
            refine k_lin (fun W K => ?_)
            refine l_op 0 rfl rfl rfl rfl rfl ?_
            refine l_a64 rfl rfl rfl (by omega) rfl ?_
            refine l_op 0 rfl rfl rfl rfl rfl ?_
            refine l_nil (WK.nx (by assumption) ?_)
            have e1' : (i + 1).toNat = i.toNat + 1 := by omega
            exact K0.nx (i + 1, x119, c119, n) (by repeat (first | exact trivial | refine And.intro rfl ?_)) ⟨by rw [hms, e1']; exact F.pick [0, 1, 2, 3, 4] (by decide), by omega, by omega, hnum, hfit, fun j hj => by
              rw [hms]
              by_cases hji : (j : Int) < i
              · exact hmay j hji
              · have : j = i.toNat := by omega
                rw [this]; assumption⟩ (by first | omega | (simp only; omega))
          first | replace hc11 := ne_of_beq_false ((irr_eq _).symm.trans hc11) | simp only [irr_eq, beq_iff_eq, beq_eq_false_iff_ne, ne_eq, decide_eq_true_eq, decide_eq_false_iff_not] at hc11
          have hnb := nib_even (bs := bs) (p := at_ + n) i0 hc11
          rw [← modes_at (bs := bs) (p := at_ + n) (k := kk) (i := i.toNat) (by omega), hms] at hnb
          refine k_skip ?_
          refine SeqK.nx (by assumption) ?_
          refine k_seq (fun Q K => ?_)
          refine k_lin (fun W K => ?_)
          refine l_op 0 rfl rfl rfl rfl rfl ?_
          refine l_remn rfl rfl rfl rfl rfl (by omega) rfl ?_
          rw [hnb]
          refine l_op 0 rfl rfl rfl rfl rfl ?_
          refine l_nil (WK.nx (by assumption) ?_)
          refine SeqK.nx (by assumption) ?_
          refine k_seq (fun Q K => ?_)
          refine k_seq (fun Q K => ?_)
          refine k_lin (fun W K => ?_)
          refine l_op 0 rfl rfl rfl rfl rfl ?_
          refine l_op 0 rfl rfl rfl rfl rfl ?_
          refine l_sx rfl rfl rfl rfl rfl (by omega) ?_
          refine l_op 0 rfl rfl rfl rfl rfl ?_
          refine l_callp F rfl rfl (by kernel_rfl) rfl rfl rmay_call (fun _ s F _ => ?_)
          (try dsimp only [n_1, n_2, n_3, n_4, List.append_nil, pk, n_5, n_6] at F)
          refine l_op 2 rfl rfl rfl rfl rfl ?_
          refine l_nil (WK.nx (by assumption) ?_)
          refine SeqK.nx (by assumption) ?_
          refine l_cond rfl rfl (fun hc13 => ?_) (fun hc13 => ?_)
          · try simp only [irr_eq, beq_iff_eq, bne_iff_ne, beq_eq_false_iff_ne, bne_eq_false_iff_eq, ne_eq, decide_eq_true_eq, decide_eq_false_iff_not, Bool.not_eq_true', Bool.not_eq_false'] at hc13
            have hr : decR sgR bs at_ = (0, [], 0, 111) := by
              rw [hdec, allMay_not _ ms i.toNat (by omega) (by omega) hc13, if_pos rfl]
            refine k_seq (fun Q K => ?_)
            refine k_lin (fun W K => ?_)
            refine l_ldca F 2 rfl rfl rfl rfl rfl rfl rfl ?_
            refine l_stca F 1 rfl rfl rfl rfl rfl rfl rfl rfl rfl rfl hD rfl (fun s F => ?_)
            (try dsimp only [n_1, n_2, n_3, n_4, List.append_nil, pk, n_5, n_6] at F)
            refine l_op 0 rfl rfl rfl rfl rfl ?_
            refine l_op 0 rfl rfl rfl rfl rfl ?_
            refine l_nil (WK.nx (by assumption) ?_)
            refine SeqK.nx (by assumption) ?_
            refine k_ret ?_
            refine SeqK.rt (by assumption) ?_
            refine BlkK.rt (by assumption) ?_
            refine SeqK.rt (by assumption) ?_
            refine LoopK.rt (by assumption) ?_
            refine BlkK.rt (by assumption) ?_
            refine SeqK.rt (by assumption) ?_
            first | refine FunK.rtc (by assumption) (res_cell F 0 rfl rfl (by kernel_rfl) (resE_rsv rfl)) ?_ | refine FunK.rtc (by assumption) (res_cell F 1 rfl rfl (by kernel_rfl) (resE_rsv rfl)) ?_ | refine FunK.rtc (by assumption) (res_cell F 2 rfl rfl (by kernel_rfl) (resE_rsv rfl)) ?_ | refine FunK.rtc (by assumption) (res_cell F 3 rfl rfl (by kernel_rfl) (resE_rsv rfl)) ?_ | refine FunK.rtc (by assumption) (res_cell F 4 rfl rfl (by kernel_rfl) (resE_rsv rfl)) ?_ | refine FunK.rtc (by assumption) (res_cell F 5 rfl rfl (by kernel_rfl) (resE_rsv rfl)) ?_ | refine FunK.rtc (by assumption) (res_cell F 6 rfl rfl (by kernel_rfl) (resE_rsv rfl)) ?_ | refine FunK.rtc (by assumption) (res_cell F 7 rfl rfl (by kernel_rfl) (resE_rsv rfl)) ?_
            -- leaf 7
            first
              | (rw [hr]; exact ⟨(none, 0), rfl, F.pick [0] (by decide), trivial⟩)
              | (rw [hr]
                 refine ⟨(x, k), ?_, ?_, trivial⟩
                 · show _ = Value.tuple #[.agg #[.int .u32 opx, .slice _ pre.length _], _, _]
                   rw [hpl]; rfl
                 · show Facts _ _ _ [own _ pre.length _ 2 (rows eO pre)]
                   rw [hpl]; exact F.pick [4] (by decide))
          try simp only [irr_eq, beq_iff_eq, bne_iff_ne, beq_eq_false_iff_ne, bne_eq_false_iff_eq, ne_eq, decide_eq_true_eq, decide_eq_false_iff_not, Bool.not_eq_true', Bool.not_eq_false'] at hc13
          refine k_skip ?_
          refine SeqK.nx (by assumption) ?_
          refine k_lin (fun W K => ?_)
          refine l_op 2 rfl rfl rfl rfl rfl ?_
          refine l_ldc F 3 rfl rfl rfl rfl rfl rfl rfl ?_
          refine l_op 0 rfl rfl rfl rfl rfl ?_
          refine l_bld rfl rfl rfl rfl ?_
          refine l_lit (k := 2) F rfl rfl rfl rfl (fun q118 s F => ?_)
          (try dsimp only [n_1, n_2, n_3, n_4, List.append_nil, pk, n_5, n_6] at F)
          refine l_app (es := 2) (ns := rows eO [(ms.getD i.toNat 0, 0)]) F 4 rfl rfl rfl rfl rfl rfl rfl (F.has 5 rfl) (eO_one [(ms.getD i.toNat 0, 0)]) rfl (by omega) hD (fun x119 c119 s F => ?_)
          (try dsimp only [n_1, n_2, n_3, n_4, List.append_nil, pk, n_5, n_6] at F)
          rw [nibs_take (by omega)] at F
          refine l_op 2 rfl rfl rfl rfl rfl ?_
          refine l_stc F 3 rfl rfl rfl rfl rfl rfl rfl rfl rfl hD (fun s F => ?_)
          (try dsimp only [n_1, n_2, n_3, n_4, List.append_nil, pk, n_5, n_6] at F)
          refine l_nil (WK.nx (by assumption) ?_)
          refine BlkK.nx (by assumption) ?_
          refine SeqK.nx (by assumption) ?_
          refine k_lin (fun W K => ?_)
          refine l_op 0 rfl rfl rfl rfl rfl ?_
          refine l_a64 rfl rfl rfl (by omega) rfl ?_
          refine l_op 0 rfl rfl rfl rfl rfl ?_
          refine l_nil (WK.nx (by assumption) ?_)
          have e1' : (i + 1).toNat = i.toNat + 1 := by omega
          exact K0.nx (i + 1, x119, c119, n) (by repeat (first | exact trivial | refine And.intro rfl ?_)) ⟨by rw [hms, e1']; exact F.pick [0, 1, 2, 3, 4] (by decide), by omega, by omega, hnum, hfit, fun j hj => by
            rw [hms]
            by_cases hji : (j : Int) < i
            · exact hmay j hji
            · have : j = i.toNat := by omega
              rw [this]; assumption⟩ (by first | omega | (simp only; omega))
        replace hc10 := of_decide_eq_false ((irr_eq _).symm.trans hc10)
        have hall : allMay (ltr sp.1) ms = true := allMay_of _ _ (by omega) (fun j hj => hmay j (by omega))
        rw [hall, if_neg (by decide)] at hdec
        have hsz : ∀ j : Nat, j < kk → 0 ≤ szm (ms.getD j 0) := fun j hj => may_sz (hmay j (by omega))
        have hik : i.toNat = kk := by omega
        have hmt : ((ms.take i.toNat).map fun m => (m, (0 : Int))) = valsTo ms [] 0 := by
          rw [List.take_of_length_le (by omega)]; rfl
        rw [hmt, hik] at F
        obtain ⟨q0, hq0⟩ : ∃ q0, at_ + n + (((kk + 1) / 2 : Nat) : Int) = q0 := ⟨_, rfl⟩
        rw [hq0] at hdec
        have hq0' : at_ + (n + (((kk : Nat) : Int) + 1) / 2) = q0 := by omega
        refine k_exit ?_
        refine SeqK.et (by assumption) ?_
        refine LoopK.et (by assumption) ?_
        refine BlkK.et (by assumption) ?_
        refine SeqK.nx (by assumption) ?_
        refine k_seq (fun Q K => ?_)
        refine k_lin (fun W K => ?_)
        refine l_op 0 rfl rfl rfl rfl rfl ?_
        refine l_op 0 rfl rfl rfl rfl rfl ?_
        refine l_a64 rfl rfl rfl (by omega) rfl ?_
        refine l_op 0 rfl rfl rfl rfl rfl ?_
        refine l_nil (WK.nx (by assumption) ?_)
        refine SeqK.nx (by assumption) ?_
        refine k_seq (fun Q K => ?_)
        refine k_seq (fun Q K => ?_)
        refine k_lin (fun W K => ?_)
        refine l_op 0 rfl rfl rfl rfl rfl ?_
        refine l_nil (WK.nx (by assumption) ?_)
        refine SeqK.nx (by assumption) ?_
        refine k_block (fun Q K => ?_)
        refine k_loop (α := Int × Int × List (Int × Int)) (fun ⟨j2, nn, pre⟩ s => Facts E0 σ s [own none 0 0 2 [], cel q4 [.int .u32 0, .slice none 0 0], cel q7 [.int .u32 0, .slice none 0 0], cel q14 [.int .u32 opx, .slice x kk k], own x kk k 2 (rows eO (valsTo ms pre j2.toNat))] ∧ 0 ≤ j2 ∧ j2 ≤ kk ∧ pre.length = j2.toNat ∧ 0 ≤ nn ∧ at_ + nn ≤ l ∧ valsR bs q0 ms = (valsR bs (at_ + nn) (ms.drop j2.toNat)).map fun r => (pre ++ r.1, r.2)) (fun ⟨j2, nn, pre⟩ => [(0, .slice a l c), (1, .int .i64 at_), (4, .pointer (some ⟨q4, 0, none⟩)), (7, .pointer (some ⟨q7, 0, none⟩)), (8, .int .i64 nn), (11, .string sp.1), (14, .pointer (some ⟨q14, 0, none⟩)), (17, .int .i64 j2)]) (fun ⟨j2, _⟩ => (kk - j2).toNat) (0, n + (((kk : Nat) : Int) + 1) / 2, []) ⟨F, by omega, by omega, rfl, by omega, by omega, by rw [hq0']; exact (vals_id _).symm⟩ (by repeat (first | exact trivial | refine And.intro rfl ?_)) ?_
        clear F
        rintro ⟨j2, nn, pre⟩ env s Q K1 ⟨F, j0, j1, hpre, qq0, qq1, hvals⟩
        refine k_seq (fun Q K => ?_)
        refine k_seq (fun Q K => ?_)
        refine k_lin (fun W K => ?_)
        refine l_op 0 rfl rfl rfl rfl rfl ?_
        refine l_op 0 rfl rfl rfl rfl rfl ?_
        refine l_ln rfl rfl rfl rfl ?_
        rw [hkk]
        refine l_cmp rfl rfl rfl rfl ?_
        refine l_nil (WK.nx (by assumption) ?_)
        refine SeqK.nx (by assumption) ?_
        refine l_cond rfl rfl (fun hc14 => ?_) (fun hc14 => ?_)
        · replace hc14 := of_decide_eq_true ((irr_eq _).symm.trans hc14)
          have him : j2.toNat < ms.length := by omega
          have hszi := hsz j2.toNat (by omega)
          obtain ⟨z0, z1, z2, z3⟩ := szm_cases hszi
          refine k_skip ?_
          refine SeqK.nx (by assumption) ?_
          refine k_seq (fun Q K => ?_)
          refine k_block (fun Q K => ?_)
          refine k_seq (fun Q K => ?_)
          refine k_lin (fun W K => ?_)
          refine l_op 2 rfl rfl rfl rfl rfl ?_
          refine l_ldc F 3 rfl rfl rfl rfl rfl rfl rfl ?_
          refine l_op 0 rfl rfl rfl rfl rfl ?_
          refine l_ixo F 4 rfl rfl rfl rfl rfl rfl rfl (by omega) (fun m133 e133 ha133 hA133 => ?_)
          subst ha133
          rw [rows_at eO_len (by rw [valsTo_len hpre (by omega)]; omega), valsTo_at hpre him] at hA133
          refine l_op 2 rfl rfl rfl rfl rfl ?_
          refine l_ld0 rfl rfl rfl rfl rfl (by assumption) ?_
          refine l_op 0 rfl rfl rfl rfl rfl ?_
          refine l_nil (WK.nx (by assumption) ?_)
          refine SeqK.nx (by assumption) ?_
          refine k_seq (fun Q K => ?_)
          refine k_lin (fun W K => ?_)
          refine l_op 0 rfl rfl rfl rfl rfl ?_
          refine l_callp F rfl rfl (by kernel_rfl) rfl rfl (rsize_call (m := ms.getD j2.toNat 0)) (fun _ s F _ => ?_)
          (try dsimp only [n_1, n_2, n_3, n_4, List.append_nil, pk, n_5, n_6] at F)
          refine l_op 0 rfl rfl rfl rfl rfl ?_
          refine l_nil (WK.nx (by assumption) ?_)
          refine SeqK.nx (by assumption) ?_
          refine k_seq (fun Q K => ?_)
          refine k_seq (fun Q K => ?_)
          refine k_lin (fun W K => ?_)
          refine l_op 0 rfl rfl rfl rfl rfl ?_
          refine l_cmp rfl rfl rfl rfl ?_
          refine l_nil (WK.nx (by assumption) ?_)
          refine SeqK.nx (by assumption) ?_
          refine l_cond rfl rfl (fun hc15 => ?_) (fun hc15 => ?_)
          · first | replace hc15 := eq_of_beq ((irr_eq _).symm.trans hc15) | simp only [irr_eq, beq_iff_eq, beq_eq_false_iff_ne, ne_eq, decide_eq_true_eq, decide_eq_false_iff_not] at hc15
            refine k_exit ?_
            refine SeqK.et (by assumption) ?_
            refine BlkK.et (by assumption) ?_
            refine SeqK.nx (by assumption) ?_
            refine k_lin (fun W K => ?_)
            refine l_op 0 rfl rfl rfl rfl rfl ?_
            refine l_a64 rfl rfl rfl (by omega) rfl ?_
            refine l_op 0 rfl rfl rfl rfl rfl ?_
            refine l_nil (WK.nx (by assumption) ?_)
            have e1' : (j2 + 1).toNat = j2.toNat + 1 := by omega
            first
              | (have hz : szm (ms.getD j2.toNat 0) = 0 := by omega
                 rw [drop_at him, valsR, if_pos hz, vals_app] at hvals
                 rw [valsTo_skip him] at F
                 exact K1.nx (j2 + 1, nn, pre ++ [((ms.getD j2.toNat 0), 0)]) (by repeat (first | exact trivial | refine And.intro rfl ?_)) ⟨by rw [e1']; exact F, by omega, by omega, by rw [List.length_append, hpre, e1']; rfl, by omega, by omega, by rw [e1']; exact hvals⟩ (by first | omega | (simp only; omega)))
              | (rw [drop_at him, valsR, if_neg (by omega), if_neg (by omega), vals_app, Int.add_assoc] at hvals
                 exact K1.nx (j2 + 1, nn + szm (ms.getD j2.toNat 0), pre ++ [((ms.getD j2.toNat 0), telR (ms.getD j2.toNat 0) (be bs (at_ + nn).toNat (szm (ms.getD j2.toNat 0)).toNat))]) (by repeat (first | exact trivial | refine And.intro rfl ?_)) ⟨by rw [e1']; exact F, by omega, by omega, by rw [List.length_append, hpre, e1']; rfl, by omega, by omega, by rw [e1']; exact hvals⟩ (by first | omega | (simp only; omega)))
          first | replace hc15 := ne_of_beq_false ((irr_eq _).symm.trans hc15) | simp only [irr_eq, beq_iff_eq, beq_eq_false_iff_ne, ne_eq, decide_eq_true_eq, decide_eq_false_iff_not] at hc15
          refine k_skip ?_
          refine SeqK.nx (by assumption) ?_
          refine k_seq (fun Q K => ?_)
          refine k_seq (fun Q K => ?_)
          refine k_lin (fun W K => ?_)
          refine l_op 0 rfl rfl rfl rfl rfl ?_
          refine l_op 0 rfl rfl rfl rfl rfl ?_
          refine l_op 0 rfl rfl rfl rfl rfl ?_
          refine l_op 0 rfl rfl rfl rfl rfl ?_
          refine l_a64 rfl rfl rfl (by omega) rfl ?_
          refine l_callp F rfl rfl (by kernel_rfl) rfl rfl (there11_call (by omega) (by omega)) (fun y145 s F hy145 => ?_)
          (try dsimp only [n_1, n_2, n_3, n_4, List.append_nil, pk, n_5, n_6] at F)
          refine l_op 2 rfl rfl rfl rfl rfl ?_
          refine l_nil (WK.nx (by assumption) ?_)
          refine SeqK.nx (by assumption) ?_
          refine l_cond rfl rfl (fun hc16 => ?_) (fun hc16 => ?_)
          · try simp only [irr_eq, beq_iff_eq, bne_iff_ne, beq_eq_false_iff_ne, bne_eq_false_iff_eq, ne_eq, decide_eq_true_eq, decide_eq_false_iff_not, Bool.not_eq_true', Bool.not_eq_false'] at hc16
            have hr : decR sgR bs at_ = (0, [], 0, 90) := by
              have hnt : ¬ (at_ ≤ l ∧ at_ + (nn + szm (ms.getD j2.toNat 0)) ≤ l) := fun hh => by rw [hy145.2 hh] at hc16; cases hc16
              rw [hdec, hvals, drop_at him, valsR, if_neg (by omega), if_pos (by omega)]
              rfl
            refine k_seq (fun Q K => ?_)
            refine k_lin (fun W K => ?_)
            refine l_ldca F 2 rfl rfl rfl rfl rfl rfl rfl ?_
            refine l_stca F 1 rfl rfl rfl rfl rfl rfl rfl rfl rfl rfl hD rfl (fun s F => ?_)
            (try dsimp only [n_1, n_2, n_3, n_4, List.append_nil, pk, n_5, n_6] at F)
            refine l_op 0 rfl rfl rfl rfl rfl ?_
            refine l_op 0 rfl rfl rfl rfl rfl ?_
            refine l_nil (WK.nx (by assumption) ?_)
            refine SeqK.nx (by assumption) ?_
            refine k_ret ?_
            refine SeqK.rt (by assumption) ?_
            refine BlkK.rt (by assumption) ?_
            refine SeqK.rt (by assumption) ?_
            refine LoopK.rt (by assumption) ?_
            refine BlkK.rt (by assumption) ?_
            refine SeqK.rt (by assumption) ?_
            first | refine FunK.rtc (by assumption) (res_cell F 0 rfl rfl (by kernel_rfl) (resE_rsv rfl)) ?_ | refine FunK.rtc (by assumption) (res_cell F 1 rfl rfl (by kernel_rfl) (resE_rsv rfl)) ?_ | refine FunK.rtc (by assumption) (res_cell F 2 rfl rfl (by kernel_rfl) (resE_rsv rfl)) ?_ | refine FunK.rtc (by assumption) (res_cell F 3 rfl rfl (by kernel_rfl) (resE_rsv rfl)) ?_ | refine FunK.rtc (by assumption) (res_cell F 4 rfl rfl (by kernel_rfl) (resE_rsv rfl)) ?_ | refine FunK.rtc (by assumption) (res_cell F 5 rfl rfl (by kernel_rfl) (resE_rsv rfl)) ?_ | refine FunK.rtc (by assumption) (res_cell F 6 rfl rfl (by kernel_rfl) (resE_rsv rfl)) ?_ | refine FunK.rtc (by assumption) (res_cell F 7 rfl rfl (by kernel_rfl) (resE_rsv rfl)) ?_
            -- leaf 8
            first
              | (rw [hr]; exact ⟨(none, 0), rfl, F.pick [0] (by decide), trivial⟩)
              | (rw [hr]
                 refine ⟨(x, k), ?_, ?_, trivial⟩
                 · show _ = Value.tuple #[.agg #[.int .u32 opx, .slice _ pre.length _], _, _]
                   rw [hpl]; rfl
                 · show Facts _ _ _ [own _ pre.length _ 2 (rows eO pre)]
                   rw [hpl]; exact F.pick [4] (by decide))
          try simp only [irr_eq, beq_iff_eq, bne_iff_ne, beq_eq_false_iff_ne, bne_eq_false_iff_eq, ne_eq, decide_eq_true_eq, decide_eq_false_iff_not, Bool.not_eq_true', Bool.not_eq_false'] at hc16
          have hth4 := hy145.1 (by assumption)
          refine k_skip ?_
          refine SeqK.nx (by assumption) ?_
          refine k_seq (fun Q K => ?_)
          refine k_lin (fun W K => ?_)
          refine l_op 0 rfl rfl rfl rfl rfl ?_
          refine l_op 0 rfl rfl rfl rfl rfl ?_
          refine l_op 0 rfl rfl rfl rfl rfl ?_
          refine l_a64 rfl rfl rfl (by omega) rfl ?_
          refine l_op 0 rfl rfl rfl rfl rfl ?_
          have hbc := rbe_call (σ := s) (at_ := at_ + nn) (n := szm (ms.getD j2.toNat 0)) (Old.pure (F.old h)) hB (by omega)
          rw [beV_ok (by omega) (by omega)] at hbc
          have hx4 := be_lt4 hB (at_ + nn).toNat (k := (szm (ms.getD j2.toNat 0)).toNat) (by omega)
          have hxu : U32 (be bs (at_ + nn).toNat (szm (ms.getD j2.toNat 0)).toNat) := hx4
          refine l_callp F rfl rfl (by kernel_rfl) rfl rfl hbc (fun _ s F _ => ?_)
          (try dsimp only [n_1, n_2, n_3, n_4, List.append_nil, pk, n_5, n_6] at F)
          refine l_op 0 rfl rfl rfl rfl rfl ?_
          refine l_op 2 rfl rfl rfl rfl rfl ?_
          refine l_op 2 rfl rfl rfl rfl rfl ?_
          refine l_op 0 rfl rfl rfl rfl rfl ?_
          refine l_op 0 rfl rfl rfl rfl rfl ?_
          refine l_nil (WK.nx (by assumption) ?_)
          refine SeqK.nx (by assumption) ?_
          refine k_seq (fun Q K => ?_)
          refine k_seq (fun Q K => ?_)
          refine k_lin (fun W K => ?_)
          refine l_op 0 rfl rfl rfl rfl rfl ?_
          refine l_cmp rfl rfl rfl rfl ?_
          refine l_nil (WK.nx (by assumption) ?_)
          refine SeqK.nx (by assumption) ?_
          refine l_cond rfl rfl (fun hc17 => ?_) (fun hc17 => ?_)
          · replace hc17 := of_decide_eq_true ((irr_eq _).symm.trans hc17)
            refine k_lin (fun W K => ?_)
            refine l_op 0 rfl rfl rfl rfl rfl ?_
            refine l_op 0 rfl rfl rfl rfl rfl ?_
            refine l_callp F rfl rfl (by kernel_rfl) rfl rfl (rextend_call hxu) (fun _ s F _ => ?_)
            (try dsimp only [n_1, n_2, n_3, n_4, List.append_nil, pk, n_5, n_6] at F)
            refine l_op 0 rfl rfl rfl rfl rfl ?_
            refine l_nil (WK.nx (by assumption) ?_)
            refine SeqK.nx (by assumption) ?_
            refine k_seq (fun Q K => ?_)
            refine k_lin (fun W K => ?_)
            refine l_op 2 rfl rfl rfl rfl rfl ?_
            refine l_ldc F 3 rfl rfl rfl rfl rfl rfl rfl ?_
            refine l_op 0 rfl rfl rfl rfl rfl ?_
            refine l_op 0 rfl rfl rfl rfl rfl ?_
            refine l_ixo F 4 rfl rfl rfl rfl rfl rfl rfl (by omega) (fun m166 e166 ha166 hA166 => ?_)
            cases ha166
            refine l_op 2 rfl rfl rfl rfl rfl ?_
            first
              | (have hx : extR (be bs (at_ + nn).toNat (szm (ms.getD j2.toNat 0)).toNat) (szm (ms.getD j2.toNat 0)) = telR (ms.getD j2.toNat 0) (be bs (at_ + nn).toNat (szm (ms.getD j2.toNat 0)).toNat) := by
                   unfold telR; rw [if_pos ((cst_lt2 hszi (by omega)).2 (by omega))]
                 refine l_sto (j := j2.toNat * 2 + 1) (v := .int .u32 (extR (be bs (at_ + nn).toNat (szm (ms.getD j2.toNat 0)).toNat) (szm (ms.getD j2.toNat 0)))) F 4 rfl rfl rfl rfl rfl rfl rfl rfl (by omega) hD (fun s F => ?_)
                 rw [hx] at F)
              | (have hx : be bs (at_ + nn).toNat (szm (ms.getD j2.toNat 0)).toNat = telR (ms.getD j2.toNat 0) (be bs (at_ + nn).toNat (szm (ms.getD j2.toNat 0)).toNat) := by
                   unfold telR; rw [if_neg (fun hcc => absurd ((cst_lt2 hszi (by omega)).1 hcc) (by omega))]
                 refine l_sto (j := j2.toNat * 2 + 1) (v := .int .u32 (be bs (at_ + nn).toNat (szm (ms.getD j2.toNat 0)).toNat)) F 4 rfl rfl rfl rfl rfl rfl rfl rfl (by omega) hD (fun s F => ?_)
                 rw [hx] at F)
            (try dsimp only [n_1, n_2, n_3, n_4, List.append_nil, pk, n_5, n_6] at F)
            rw [valsTo_set hpre him] at F
            refine l_nil (WK.nx (by assumption) ?_)
            refine SeqK.nx (by assumption) ?_
            refine k_lin (fun W K => ?_)
            refine l_op 0 rfl rfl rfl rfl rfl ?_
            refine l_op 0 rfl rfl rfl rfl rfl ?_
            refine l_a64 rfl rfl rfl (by omega) rfl ?_
            refine l_op 0 rfl rfl rfl rfl rfl ?_
            refine l_nil (WK.nx (by assumption) ?_)
            refine BlkK.nx (by assumption) ?_
            refine SeqK.nx (by assumption) ?_
            refine k_lin (fun W K => ?_)
            refine l_op 0 rfl rfl rfl rfl rfl ?_
            refine l_a64 rfl rfl rfl (by omega) rfl ?_
            refine l_op 0 rfl rfl rfl rfl rfl ?_
            refine l_nil (WK.nx (by assumption) ?_)
            have e1' : (j2 + 1).toNat = j2.toNat + 1 := by omega
            first
              | (have hz : szm (ms.getD j2.toNat 0) = 0 := by omega
                 rw [drop_at him, valsR, if_pos hz, vals_app] at hvals
                 rw [valsTo_skip him] at F
                 exact K1.nx (j2 + 1, nn, pre ++ [((ms.getD j2.toNat 0), 0)]) (by repeat (first | exact trivial | refine And.intro rfl ?_)) ⟨by rw [e1']; exact F, by omega, by omega, by rw [List.length_append, hpre, e1']; rfl, by omega, by omega, by rw [e1']; exact hvals⟩ (by first | omega | (simp only; omega)))
              | (rw [drop_at him, valsR, if_neg (by omega), if_neg (by omega), vals_app, Int.add_assoc] at hvals
                 exact K1.nx (j2 + 1, nn + szm (ms.getD j2.toNat 0), pre ++ [((ms.getD j2.toNat 0), telR (ms.getD j2.toNat 0) (be bs (at_ + nn).toNat (szm (ms.getD j2.toNat 0)).toNat))]) (by repeat (first | exact trivial | refine And.intro rfl ?_)) ⟨by rw [e1']; exact F, by omega, by omega, by rw [List.length_append, hpre, e1']; rfl, by omega, by omega, by rw [e1']; exact hvals⟩ (by first | omega | (simp only; omega)))
          replace hc17 := of_decide_eq_false ((irr_eq _).symm.trans hc17)
          refine k_skip ?_
          refine SeqK.nx (by assumption) ?_
          refine k_seq (fun Q K => ?_)
          refine k_lin (fun W K => ?_)
          refine l_op 2 rfl rfl rfl rfl rfl ?_
          refine l_ldc F 3 rfl rfl rfl rfl rfl rfl rfl ?_
          refine l_op 0 rfl rfl rfl rfl rfl ?_
          refine l_op 0 rfl rfl rfl rfl rfl ?_
          refine l_ixo F 4 rfl rfl rfl rfl rfl rfl rfl (by omega) (fun m166 e166 ha166 hA166 => ?_)
          cases ha166
          refine l_op 2 rfl rfl rfl rfl rfl ?_
          first
            | (have hx : extR (be bs (at_ + nn).toNat (szm (ms.getD j2.toNat 0)).toNat) (szm (ms.getD j2.toNat 0)) = telR (ms.getD j2.toNat 0) (be bs (at_ + nn).toNat (szm (ms.getD j2.toNat 0)).toNat) := by
                 unfold telR; rw [if_pos ((cst_lt2 hszi (by omega)).2 (by omega))]
               refine l_sto (j := j2.toNat * 2 + 1) (v := .int .u32 (extR (be bs (at_ + nn).toNat (szm (ms.getD j2.toNat 0)).toNat) (szm (ms.getD j2.toNat 0)))) F 4 rfl rfl rfl rfl rfl rfl rfl rfl (by omega) hD (fun s F => ?_)
               rw [hx] at F)
            | (have hx : be bs (at_ + nn).toNat (szm (ms.getD j2.toNat 0)).toNat = telR (ms.getD j2.toNat 0) (be bs (at_ + nn).toNat (szm (ms.getD j2.toNat 0)).toNat) := by
                 unfold telR; rw [if_neg (fun hcc => absurd ((cst_lt2 hszi (by omega)).1 hcc) (by omega))]
               refine l_sto (j := j2.toNat * 2 + 1) (v := .int .u32 (be bs (at_ + nn).toNat (szm (ms.getD j2.toNat 0)).toNat)) F 4 rfl rfl rfl rfl rfl rfl rfl rfl (by omega) hD (fun s F => ?_)
               rw [hx] at F)
          (try dsimp only [n_1, n_2, n_3, n_4, List.append_nil, pk, n_5, n_6] at F)
          rw [valsTo_set hpre him] at F
          refine l_nil (WK.nx (by assumption) ?_)
          refine SeqK.nx (by assumption) ?_
          refine k_lin (fun W K => ?_)
          refine l_op 0 rfl rfl rfl rfl rfl ?_
          refine l_op 0 rfl rfl rfl rfl rfl ?_
          refine l_a64 rfl rfl rfl (by omega) rfl ?_
          refine l_op 0 rfl rfl rfl rfl rfl ?_
          refine l_nil (WK.nx (by assumption) ?_)
          refine BlkK.nx (by assumption) ?_
          refine SeqK.nx (by assumption) ?_
          refine k_lin (fun W K => ?_)
          refine l_op 0 rfl rfl rfl rfl rfl ?_
          refine l_a64 rfl rfl rfl (by omega) rfl ?_
          refine l_op 0 rfl rfl rfl rfl rfl ?_
          refine l_nil (WK.nx (by assumption) ?_)
          have e1' : (j2 + 1).toNat = j2.toNat + 1 := by omega
          first
            | (have hz : szm (ms.getD j2.toNat 0) = 0 := by omega
               rw [drop_at him, valsR, if_pos hz, vals_app] at hvals
               rw [valsTo_skip him] at F
               exact K1.nx (j2 + 1, nn, pre ++ [((ms.getD j2.toNat 0), 0)]) (by repeat (first | exact trivial | refine And.intro rfl ?_)) ⟨by rw [e1']; exact F, by omega, by omega, by rw [List.length_append, hpre, e1']; rfl, by omega, by omega, by rw [e1']; exact hvals⟩ (by first | omega | (simp only; omega)))
            | (rw [drop_at him, valsR, if_neg (by omega), if_neg (by omega), vals_app, Int.add_assoc] at hvals
               exact K1.nx (j2 + 1, nn + szm (ms.getD j2.toNat 0), pre ++ [((ms.getD j2.toNat 0), telR (ms.getD j2.toNat 0) (be bs (at_ + nn).toNat (szm (ms.getD j2.toNat 0)).toNat))]) (by repeat (first | exact trivial | refine And.intro rfl ?_)) ⟨by rw [e1']; exact F, by omega, by omega, by rw [List.length_append, hpre, e1']; rfl, by omega, by omega, by rw [e1']; exact hvals⟩ (by first | omega | (simp only; omega)))
        replace hc14 := of_decide_eq_false ((irr_eq _).symm.trans hc14)
        have hr : decR sgR bs at_ = (opx, pre, nn, 0) := by
          rw [hdec, hvals, List.drop_of_length_le (by omega), valsR]
          simp only [Option.map_some, List.append_nil]
          rw [show at_ + nn - at_ = nn by omega]
        have hpl : pre.length = kk := by omega
        have hvt : valsTo ms pre j2.toNat = pre := by unfold valsTo; rw [List.drop_of_length_le (by omega)]; simp
        rw [hvt] at F
        refine k_exit ?_
        refine SeqK.et (by assumption) ?_
        refine LoopK.et (by assumption) ?_
        refine BlkK.et (by assumption) ?_
        refine SeqK.nx (by assumption) ?_
        refine k_seq (fun Q K => ?_)
        refine k_lin (fun W K => ?_)
        refine l_ldca F 3 rfl rfl rfl rfl rfl rfl rfl ?_
        refine l_op 0 rfl rfl rfl rfl rfl ?_
        refine l_stca F 1 rfl rfl rfl rfl rfl rfl rfl rfl rfl rfl hD rfl (fun s F => ?_)
        (try dsimp only [n_1, n_2, n_3, n_4, List.append_nil, pk, n_5, n_6] at F)
        refine l_op 0 rfl rfl rfl rfl rfl ?_
        refine l_op 0 rfl rfl rfl rfl rfl ?_
        refine l_nil (WK.nx (by assumption) ?_)
        refine SeqK.nx (by assumption) ?_
        refine k_ret ?_
        first | refine FunK.rtc (by assumption) (res_cell F 0 rfl rfl (by kernel_rfl) (resE_rsv rfl)) ?_ | refine FunK.rtc (by assumption) (res_cell F 1 rfl rfl (by kernel_rfl) (resE_rsv rfl)) ?_ | refine FunK.rtc (by assumption) (res_cell F 2 rfl rfl (by kernel_rfl) (resE_rsv rfl)) ?_ | refine FunK.rtc (by assumption) (res_cell F 3 rfl rfl (by kernel_rfl) (resE_rsv rfl)) ?_ | refine FunK.rtc (by assumption) (res_cell F 4 rfl rfl (by kernel_rfl) (resE_rsv rfl)) ?_ | refine FunK.rtc (by assumption) (res_cell F 5 rfl rfl (by kernel_rfl) (resE_rsv rfl)) ?_ | refine FunK.rtc (by assumption) (res_cell F 6 rfl rfl (by kernel_rfl) (resE_rsv rfl)) ?_ | refine FunK.rtc (by assumption) (res_cell F 7 rfl rfl (by kernel_rfl) (resE_rsv rfl)) ?_
        -- leaf 9
        first
          | (rw [hr]; exact ⟨(none, 0), rfl, F.pick [0] (by decide), trivial⟩)
          | (rw [hr]
             refine ⟨(x, k), ?_, ?_, trivial⟩
             · show _ = Value.tuple #[.agg #[.int .u32 opx, .slice _ pre.length _], _, _]
               rw [hpl]; rfl
             · show Facts _ _ _ [own _ pre.length _ 2 (rows eO pre)]
               rw [hpl]; exact F.pick [4] (by decide))
      first | replace hc7 := ne_of_beq_false ((irr_eq _).symm.trans hc7) | simp only [irr_eq, beq_iff_eq, beq_eq_false_iff_ne, ne_eq, decide_eq_true_eq, decide_eq_false_iff_not] at hc7
      omega
    replace hc4 := of_decide_eq_false ((irr_eq _).symm.trans hc4)
    refine k_skip ?_
    refine SeqK.nx (by assumption) ?_
    refine k_seq (fun Q K => ?_)
    refine k_seq (fun Q K => ?_)
    refine k_lin (fun W K => ?_)
    refine l_op 0 rfl rfl rfl rfl rfl ?_
    refine l_op 0 rfl rfl rfl rfl rfl ?_
    refine l_op 0 rfl rfl rfl rfl rfl ?_
    refine l_callp F rfl rfl (by kernel_rfl) rfl rfl (there11_call (by omega) (by omega)) (fun y44 s F hy44 => ?_)
    (try dsimp only [n_1, n_2, n_3, n_4, List.append_nil, pk, n_5, n_6] at F)
    refine l_op 2 rfl rfl rfl rfl rfl ?_
    refine l_nil (WK.nx (by assumption) ?_)
    refine SeqK.nx (by assumption) ?_
    refine l_cond rfl rfl (fun hc18 => ?_) (fun hc18 => ?_)
    · try simp only [irr_eq, beq_iff_eq, bne_iff_ne, beq_eq_false_iff_ne, bne_eq_false_iff_eq, ne_eq, decide_eq_true_eq, decide_eq_false_iff_not, Bool.not_eq_true', Bool.not_eq_false'] at hc18
      have hr : decR sgR bs at_ = (0, [], 0, 90) := by
        have hnum : numR bs at_ = none := by
          have hnt : ¬ (at_ ≤ l ∧ _) := fun hh => by rw [hy44.2 hh] at hc18; cases hc18
          unfold numR
          (repeat' split) <;> first | rfl | (exfalso; omega)
        unfold decR; rw [if_neg (by assumption), hnum]
      refine k_seq (fun Q K => ?_)
      refine k_lin (fun W K => ?_)
      refine l_ldca F 2 rfl rfl rfl rfl rfl rfl rfl ?_
      refine l_stca F 1 rfl rfl rfl rfl rfl rfl rfl rfl rfl rfl hD rfl (fun s F => ?_)
      (try dsimp only [n_1, n_2, n_3, n_4, List.append_nil, pk, n_5, n_6] at F)
      refine l_op 0 rfl rfl rfl rfl rfl ?_
      refine l_op 0 rfl rfl rfl rfl rfl ?_
      refine l_nil (WK.nx (by assumption) ?_)
      refine SeqK.nx (by assumption) ?_
      refine k_ret ?_
      refine SeqK.rt (by assumption) ?_
      first | refine FunK.rtc (by assumption) (res_cell F 0 rfl rfl (by kernel_rfl) (resE_rsv rfl)) ?_ | refine FunK.rtc (by assumption) (res_cell F 1 rfl rfl (by kernel_rfl) (resE_rsv rfl)) ?_ | refine FunK.rtc (by assumption) (res_cell F 2 rfl rfl (by kernel_rfl) (resE_rsv rfl)) ?_ | refine FunK.rtc (by assumption) (res_cell F 3 rfl rfl (by kernel_rfl) (resE_rsv rfl)) ?_ | refine FunK.rtc (by assumption) (res_cell F 4 rfl rfl (by kernel_rfl) (resE_rsv rfl)) ?_ | refine FunK.rtc (by assumption) (res_cell F 5 rfl rfl (by kernel_rfl) (resE_rsv rfl)) ?_ | refine FunK.rtc (by assumption) (res_cell F 6 rfl rfl (by kernel_rfl) (resE_rsv rfl)) ?_ | refine FunK.rtc (by assumption) (res_cell F 7 rfl rfl (by kernel_rfl) (resE_rsv rfl)) ?_
      -- leaf 10
      first
        | (rw [hr]; exact ⟨(none, 0), rfl, F.pick [0] (by decide), trivial⟩)
        | (rw [hr]
           refine ⟨(x, k), ?_, ?_, trivial⟩
           · show _ = Value.tuple #[.agg #[.int .u32 opx, .slice _ pre.length _], _, _]
             rw [hpl]; rfl
           · show Facts _ _ _ [own _ pre.length _ 2 (rows eO pre)]
             rw [hpl]; exact F.pick [4] (by decide))
    try simp only [irr_eq, beq_iff_eq, bne_iff_ne, beq_eq_false_iff_ne, bne_eq_false_iff_eq, ne_eq, decide_eq_true_eq, decide_eq_false_iff_not, Bool.not_eq_true', Bool.not_eq_false'] at hc18
    have hth2 := hy44.1 (by assumption)
    refine k_skip ?_
    refine SeqK.nx (by assumption) ?_
    refine k_seq (fun Q K => ?_)
    refine k_lin (fun W K => ?_)
    refine l_op 0 rfl rfl rfl rfl rfl ?_
    refine l_op 0 rfl rfl rfl rfl rfl ?_
    refine l_op 0 rfl rfl rfl rfl rfl ?_
    first
      | (have hbc := rbe_call (σ := s) (at_ := at_) (n := 1) (Old.pure (F.old h)) hB (by omega)
         rw [beV_ok (by omega) (by omega), show (1 : Int).toNat = 1 from rfl] at hbc
         refine l_callp F rfl rfl (by kernel_rfl) rfl rfl hbc (fun _ s F _ => ?_))
      | (have hbc := rbe_call (σ := s) (at_ := at_) (n := 2) (Old.pure (F.old h)) hB (by omega)
         rw [beV_ok (by omega) (by omega), show (2 : Int).toNat = 2 from rfl] at hbc
         refine l_callp F rfl rfl (by kernel_rfl) rfl rfl hbc (fun _ s F _ => ?_))
      | (have hbc := rbe_call (σ := s) (at_ := at_) (n := 4) (Old.pure (F.old h)) hB (by omega)
         rw [beV_ok (by omega) (by omega), show (4 : Int).toNat = 4 from rfl] at hbc
         refine l_callp F rfl rfl (by kernel_rfl) rfl rfl hbc (fun _ s F _ => ?_))
    (try dsimp only [n_1, n_2, n_3, n_4, List.append_nil, pk, n_5, n_6] at F)
    refine l_op 0 rfl rfl rfl rfl rfl ?_
    refine l_op 2 rfl rfl rfl rfl rfl ?_
    refine l_op 2 rfl rfl rfl rfl rfl ?_
    refine l_op 0 rfl rfl rfl rfl rfl ?_
    refine l_op 0 rfl rfl rfl rfl rfl ?_
    refine l_nil (WK.nx (by assumption) ?_)
    refine SeqK.nx (by assumption) ?_
    refine k_seq (fun Q K => ?_)
    refine k_seq (fun Q K => ?_)
    refine k_lin (fun W K => ?_)
    refine l_op 0 rfl rfl rfl rfl rfl ?_
    refine l_cmp rfl rfl rfl rfl ?_
    refine l_nil (WK.nx (by assumption) ?_)
    refine SeqK.nx (by assumption) ?_
    refine l_cond rfl rfl (fun hc19 => ?_) (fun hc19 => ?_)
    · first | replace hc19 := eq_of_beq ((irr_eq _).symm.trans hc19) | simp only [irr_eq, beq_iff_eq, beq_eq_false_iff_ne, ne_eq, decide_eq_true_eq, decide_eq_false_iff_not] at hc19
      refine k_lin (fun W K => ?_)
      refine l_op 0 rfl rfl rfl rfl rfl ?_
      refine l_a32 rfl rfl rfl (by omega) rfl ?_
      refine l_op 0 rfl rfl rfl rfl rfl ?_
      refine l_nil (WK.nx (by assumption) ?_)
      refine SeqK.nx (by assumption) ?_
      refine k_seq (fun Q K => ?_)
      refine k_seq (fun Q K => ?_)
      refine k_lin (fun W K => ?_)
      refine l_op 0 rfl rfl rfl rfl rfl ?_
      refine l_cmp rfl rfl rfl rfl ?_
      refine l_nil (WK.nx (by assumption) ?_)
      refine SeqK.nx (by assumption) ?_
      refine l_cond rfl rfl (fun hc20 => ?_) (fun hc20 => ?_)
      · first | replace hc20 := eq_of_beq ((irr_eq _).symm.trans hc20) | simp only [irr_eq, beq_iff_eq, beq_eq_false_iff_ne, ne_eq, decide_eq_true_eq, decide_eq_false_iff_not] at hc20
        omega
      first | replace hc20 := ne_of_beq_false ((irr_eq _).symm.trans hc20) | simp only [irr_eq, beq_iff_eq, beq_eq_false_iff_ne, ne_eq, decide_eq_true_eq, decide_eq_false_iff_not] at hc20
      refine k_skip ?_
      refine SeqK.nx (by assumption) ?_
      refine k_seq (fun Q K => ?_)
      refine k_lin (fun W K => ?_)
      refine l_op 0 rfl rfl rfl rfl rfl ?_
      first
        | (have hnum : numR bs at_ = some (be bs at_.toNat 1, 1) := by unfold numR; rw [if_neg (by omega), if_neg (by omega), if_neg (by omega)]
           have hop : U32 (be bs at_.toNat 1) := ⟨by omega, by omega⟩
           refine l_callp F rfl rfl (by kernel_rfl) rfl rfl (rsig_call hop) (fun _ s F _ => ?_)
           obtain ⟨opx, hopx⟩ : ∃ o, o = be bs at_.toNat 1 := ⟨_, rfl⟩
           rw [← hopx] at hnum hop ⊢)
        | (have hnum : numR bs at_ = some (be bs at_.toNat 2 - 32768, 2) := by unfold numR; rw [if_neg (by omega), if_neg (by omega), if_pos (by omega), if_neg (by omega)]
           have hop : U32 (be bs at_.toNat 2 - 32768) := ⟨by omega, by omega⟩
           refine l_callp F rfl rfl (by kernel_rfl) rfl rfl (rsig_call hop) (fun _ s F _ => ?_)
           obtain ⟨opx, hopx⟩ : ∃ o, o = be bs at_.toNat 2 - 32768 := ⟨_, rfl⟩
           rw [← hopx] at hnum hop ⊢)
        | (have hnum : numR bs at_ = some (be bs at_.toNat 4 - 3221225472, 4) := by unfold numR; rw [if_neg (by omega), if_pos (by omega), if_neg (by omega)]
           have hop : U32 (be bs at_.toNat 4 - 3221225472) := ⟨by omega, by omega⟩
           refine l_callp F rfl rfl (by kernel_rfl) rfl rfl (rsig_call hop) (fun _ s F _ => ?_)
           obtain ⟨opx, hopx⟩ : ∃ o, o = be bs at_.toNat 4 - 3221225472 := ⟨_, rfl⟩
           rw [← hopx] at hnum hop ⊢)
      (try dsimp only [n_1, n_2, n_3, n_4, List.append_nil, pk, n_5, n_6] at F)
      have hs8 := sig_size opx
      generalize hS : sigP opx = sp at hs8 ⊢
      refine l_op 0 rfl rfl rfl rfl rfl ?_
      refine l_op 2 rfl rfl rfl rfl rfl ?_
      refine l_op 2 rfl rfl rfl rfl rfl ?_
      refine l_op 0 rfl rfl rfl rfl rfl ?_
      refine l_op 0 rfl rfl rfl rfl rfl ?_
      refine l_nil (WK.nx (by assumption) ?_)
      refine SeqK.nx (by assumption) ?_
      refine k_seq (fun Q K => ?_)
      refine k_seq (fun Q K => ?_)
      refine k_lin (fun W K => ?_)
      refine l_op 0 rfl rfl rfl rfl rfl ?_
      refine l_op 2 rfl rfl rfl rfl rfl ?_
      refine l_nil (WK.nx (by assumption) ?_)
      refine SeqK.nx (by assumption) ?_
      refine l_cond rfl rfl (fun hc21 => ?_) (fun hc21 => ?_)
      · try simp only [irr_eq, beq_iff_eq, bne_iff_ne, beq_eq_false_iff_ne, bne_eq_false_iff_eq, ne_eq, decide_eq_true_eq, decide_eq_false_iff_not, Bool.not_eq_true', Bool.not_eq_false'] at hc21
        have hr : decR sgR bs at_ = (0, [], 0, 110) := by
          have hsg : sgR opx = none := by unfold sgR; rw [hS, if_neg (by simp_all)]
          unfold decR; rw [if_neg (by assumption), hnum]
          simp only [hsg]
        refine k_seq (fun Q K => ?_)
        refine k_lin (fun W K => ?_)
        refine l_ldca F 2 rfl rfl rfl rfl rfl rfl rfl ?_
        refine l_stca F 1 rfl rfl rfl rfl rfl rfl rfl rfl rfl rfl hD rfl (fun s F => ?_)
        (try dsimp only [n_1, n_2, n_3, n_4, List.append_nil, pk, n_5, n_6] at F)
        refine l_op 0 rfl rfl rfl rfl rfl ?_
        refine l_op 0 rfl rfl rfl rfl rfl ?_
        refine l_nil (WK.nx (by assumption) ?_)
        refine SeqK.nx (by assumption) ?_
        refine k_ret ?_
        refine SeqK.rt (by assumption) ?_
        first | refine FunK.rtc (by assumption) (res_cell F 0 rfl rfl (by kernel_rfl) (resE_rsv rfl)) ?_ | refine FunK.rtc (by assumption) (res_cell F 1 rfl rfl (by kernel_rfl) (resE_rsv rfl)) ?_ | refine FunK.rtc (by assumption) (res_cell F 2 rfl rfl (by kernel_rfl) (resE_rsv rfl)) ?_ | refine FunK.rtc (by assumption) (res_cell F 3 rfl rfl (by kernel_rfl) (resE_rsv rfl)) ?_ | refine FunK.rtc (by assumption) (res_cell F 4 rfl rfl (by kernel_rfl) (resE_rsv rfl)) ?_ | refine FunK.rtc (by assumption) (res_cell F 5 rfl rfl (by kernel_rfl) (resE_rsv rfl)) ?_ | refine FunK.rtc (by assumption) (res_cell F 6 rfl rfl (by kernel_rfl) (resE_rsv rfl)) ?_ | refine FunK.rtc (by assumption) (res_cell F 7 rfl rfl (by kernel_rfl) (resE_rsv rfl)) ?_
        -- leaf 11
        first
          | (rw [hr]; exact ⟨(none, 0), rfl, F.pick [0] (by decide), trivial⟩)
          | (rw [hr]
             refine ⟨(x, k), ?_, ?_, trivial⟩
             · show _ = Value.tuple #[.agg #[.int .u32 opx, .slice _ pre.length _], _, _]
               rw [hpl]; rfl
             · show Facts _ _ _ [own _ pre.length _ 2 (rows eO pre)]
               rw [hpl]; exact F.pick [4] (by decide))
      try simp only [irr_eq, beq_iff_eq, bne_iff_ne, beq_eq_false_iff_ne, bne_eq_false_iff_eq, ne_eq, decide_eq_true_eq, decide_eq_false_iff_not, Bool.not_eq_true', Bool.not_eq_false'] at hc21
      have hsg : sgR opx = some (ltr sp.1) := by unfold sgR; rw [hS, if_pos (by simp_all)]
      obtain ⟨kk, hkk⟩ : ∃ kk, sp.1.size = kk := ⟨_, rfl⟩
      have hsl : (ltr sp.1).length = kk := by rw [ltr_length, hkk]
      have hd0 := dec_at (sg := sgR) (bs := bs) (at_ := at_) (by assumption) hnum hsg
      rw [hsl] at hd0
      refine k_skip ?_
      refine SeqK.nx (by assumption) ?_
      refine k_seq (fun Q K => ?_)
      refine k_lin (fun W K => ?_)
      refine l_op 0 rfl rfl rfl rfl rfl ?_
      refine l_ln rfl rfl rfl rfl ?_
      rw [hkk]
      refine l_a64 rfl rfl rfl (by omega) rfl ?_
      first | refine l_quon rfl rfl rfl rfl rfl (by omega) rfl ?_ | refine l_quou64 rfl rfl rfl rfl rfl (by omega) rfl ?_ | refine l_quou32 rfl rfl rfl rfl rfl (by omega) rfl ?_ | refine l_quo rfl rfl rfl rfl rfl (by omega) rfl ?_
      refine l_op 0 rfl rfl rfl rfl rfl ?_
      refine l_nil (WK.nx (by assumption) ?_)
      refine SeqK.nx (by assumption) ?_
      refine k_seq (fun Q K => ?_)
      refine k_seq (fun Q K => ?_)
      refine k_lin (fun W K => ?_)
      refine l_op 0 rfl rfl rfl rfl rfl ?_
      refine l_op 0 rfl rfl rfl rfl rfl ?_
      refine l_op 0 rfl rfl rfl rfl rfl ?_
      refine l_op 0 rfl rfl rfl rfl rfl ?_
      refine l_a64 rfl rfl rfl (by omega) rfl ?_
      refine l_callp F rfl rfl (by kernel_rfl) rfl rfl (there11_call (by omega) (by omega)) (fun y79 s F hy79 => ?_)
      (try dsimp only [n_1, n_2, n_3, n_4, List.append_nil, pk, n_5, n_6] at F)
      refine l_op 2 rfl rfl rfl rfl rfl ?_
      refine l_nil (WK.nx (by assumption) ?_)
      refine SeqK.nx (by assumption) ?_
      refine l_cond rfl rfl (fun hc22 => ?_) (fun hc22 => ?_)
      · try simp only [irr_eq, beq_iff_eq, bne_iff_ne, beq_eq_false_iff_ne, bne_eq_false_iff_eq, ne_eq, decide_eq_true_eq, decide_eq_false_iff_not, Bool.not_eq_true', Bool.not_eq_false'] at hc22
        have hr : decR sgR bs at_ = (0, [], 0, 90) := by
          have hnt : ¬ (at_ ≤ l ∧ at_ + _ ≤ l) := fun hh => by rw [hy79.2 hh] at hc22; cases hc22
          rw [hd0, if_pos (by omega)]
        refine k_seq (fun Q K => ?_)
        refine k_lin (fun W K => ?_)
        refine l_ldca F 2 rfl rfl rfl rfl rfl rfl rfl ?_
        refine l_stca F 1 rfl rfl rfl rfl rfl rfl rfl rfl rfl rfl hD rfl (fun s F => ?_)
        (try dsimp only [n_1, n_2, n_3, n_4, List.append_nil, pk, n_5, n_6] at F)
        refine l_op 0 rfl rfl rfl rfl rfl ?_
        refine l_op 0 rfl rfl rfl rfl rfl ?_
        refine l_nil (WK.nx (by assumption) ?_)
        refine SeqK.nx (by assumption) ?_
        refine k_ret ?_
        refine SeqK.rt (by assumption) ?_
        first | refine FunK.rtc (by assumption) (res_cell F 0 rfl rfl (by kernel_rfl) (resE_rsv rfl)) ?_ | refine FunK.rtc (by assumption) (res_cell F 1 rfl rfl (by kernel_rfl) (resE_rsv rfl)) ?_ | refine FunK.rtc (by assumption) (res_cell F 2 rfl rfl (by kernel_rfl) (resE_rsv rfl)) ?_ | refine FunK.rtc (by assumption) (res_cell F 3 rfl rfl (by kernel_rfl) (resE_rsv rfl)) ?_ | refine FunK.rtc (by assumption) (res_cell F 4 rfl rfl (by kernel_rfl) (resE_rsv rfl)) ?_ | refine FunK.rtc (by assumption) (res_cell F 5 rfl rfl (by kernel_rfl) (resE_rsv rfl)) ?_ | refine FunK.rtc (by assumption) (res_cell F 6 rfl rfl (by kernel_rfl) (resE_rsv rfl)) ?_ | refine FunK.rtc (by assumption) (res_cell F 7 rfl rfl (by kernel_rfl) (resE_rsv rfl)) ?_
        -- leaf 12
        first
          | (rw [hr]; exact ⟨(none, 0), rfl, F.pick [0] (by decide), trivial⟩)
          | (rw [hr]
             refine ⟨(x, k), ?_, ?_, trivial⟩
             · show _ = Value.tuple #[.agg #[.int .u32 opx, .slice _ pre.length _], _, _]
               rw [hpl]; rfl
             · show Facts _ _ _ [own _ pre.length _ 2 (rows eO pre)]
               rw [hpl]; exact F.pick [4] (by decide))
      try simp only [irr_eq, beq_iff_eq, bne_iff_ne, beq_eq_false_iff_ne, bne_eq_false_iff_eq, ne_eq, decide_eq_true_eq, decide_eq_false_iff_not, Bool.not_eq_true', Bool.not_eq_false'] at hc22
      have hth3 := hy79.1 (by assumption)
      refine k_skip ?_
      refine SeqK.nx (by assumption) ?_
      refine k_seq (fun Q K => ?_)
      refine k_lin (fun W K => ?_)
      refine l_op 0 rfl rfl rfl rfl rfl ?_
      refine l_bld rfl rfl rfl rfl ?_
      refine l_al F rfl rfl rfl rfl (fun q14 s F => ?_)
      (try dsimp only [n_1, n_2, n_3, n_4, List.append_nil, pk, n_5, n_6] at F)
      refine l_stca F 3 rfl rfl rfl rfl rfl rfl rfl rfl rfl rfl hD rfl (fun s F => ?_)
      (try dsimp only [n_1, n_2, n_3, n_4, List.append_nil, pk, n_5, n_6] at F)
      refine l_nil (WK.nx (by assumption) ?_)
      refine SeqK.nx (by assumption) ?_
      refine k_seq (fun Q K => ?_)
      refine k_seq (fun Q K => ?_)
      refine k_lin (fun W K => ?_)
      refine l_op 0 rfl rfl rfl rfl rfl ?_
      refine l_nil (WK.nx (by assumption) ?_)
      refine SeqK.nx (by assumption) ?_
      refine k_block (fun Q K => ?_)
      have F := F.nilrow 2
      clear hd0
      first
        | refine k_loop (α := Int × Option Addr × Nat × Int) (fun ⟨i, x, k, n⟩ s => Facts E0 σ s [own none 0 0 2 [], cel q4 [.int .u32 0, .slice none 0 0], cel q7 [.int .u32 0, .slice none 0 0], cel q14 [.int .u32 opx, .slice x i.toNat k], own x i.toNat k 2 (rows eO (((modesR bs (at_ + n) kk).take i.toNat).map fun m => (m, 0)))] ∧ 0 ≤ i ∧ i ≤ kk ∧ numR bs at_ = some (opx, n) ∧ at_ + (n + (((kk : Nat) : Int) + 1) / 2) ≤ l ∧ ∀ j : Nat, j < i → mayR ((ltr sp.1).getD j 0) ((modesR bs (at_ + n) kk).getD j 0) = true) (fun ⟨i, x, k, n⟩ => [(0, .slice a l c), (1, .int .i64 at_), (4, .pointer (some ⟨q4, 0, none⟩)), (7, .pointer (some ⟨q7, 0, none⟩)), (8, .int .i64 n), (11, .string sp.1), (13, .int .i64 ((((kk : Nat) : Int) + 1) / 2)), (14, .pointer (some ⟨q14, 0, none⟩)), (15, .int .i64 i)]) (fun ⟨i, _⟩ => (kk - i).toNat) (0, none, 0, 1) ⟨F, by omega, by omega, hnum, by omega, fun j hj => by omega⟩ (by repeat (first | exact trivial | refine And.intro rfl ?_)) ?_
        | refine k_loop (α := Int × Option Addr × Nat × Int) (fun ⟨i, x, k, n⟩ s => Facts E0 σ s [own none 0 0 2 [], cel q4 [.int .u32 0, .slice none 0 0], cel q7 [.int .u32 0, .slice none 0 0], cel q14 [.int .u32 opx, .slice x i.toNat k], own x i.toNat k 2 (rows eO (((modesR bs (at_ + n) kk).take i.toNat).map fun m => (m, 0)))] ∧ 0 ≤ i ∧ i ≤ kk ∧ numR bs at_ = some (opx, n) ∧ at_ + (n + (((kk : Nat) : Int) + 1) / 2) ≤ l ∧ ∀ j : Nat, j < i → mayR ((ltr sp.1).getD j 0) ((modesR bs (at_ + n) kk).getD j 0) = true) (fun ⟨i, x, k, n⟩ => [(0, .slice a l c), (1, .int .i64 at_), (4, .pointer (some ⟨q4, 0, none⟩)), (7, .pointer (some ⟨q7, 0, none⟩)), (8, .int .i64 n), (11, .string sp.1), (13, .int .i64 ((((kk : Nat) : Int) + 1) / 2)), (14, .pointer (some ⟨q14, 0, none⟩)), (15, .int .i64 i)]) (fun ⟨i, _⟩ => (kk - i).toNat) (0, none, 0, 2) ⟨F, by omega, by omega, hnum, by omega, fun j hj => by omega⟩ (by repeat (first | exact trivial | refine And.intro rfl ?_)) ?_
        | refine k_loop (α := Int × Option Addr × Nat × Int) (fun ⟨i, x, k, n⟩ s => Facts E0 σ s [own none 0 0 2 [], cel q4 [.int .u32 0, .slice none 0 0], cel q7 [.int .u32 0, .slice none 0 0], cel q14 [.int .u32 opx, .slice x i.toNat k], own x i.toNat k 2 (rows eO (((modesR bs (at_ + n) kk).take i.toNat).map fun m => (m, 0)))] ∧ 0 ≤ i ∧ i ≤ kk ∧ numR bs at_ = some (opx, n) ∧ at_ + (n + (((kk : Nat) : Int) + 1) / 2) ≤ l ∧ ∀ j : Nat, j < i → mayR ((ltr sp.1).getD j 0) ((modesR bs (at_ + n) kk).getD j 0) = true) (fun ⟨i, x, k, n⟩ => [(0, .slice a l c), (1, .int .i64 at_), (4, .pointer (some ⟨q4, 0, none⟩)), (7, .pointer (some ⟨q7, 0, none⟩)), (8, .int .i64 n), (11, .string sp.1), (13, .int .i64 ((((kk : Nat) : Int) + 1) / 2)), (14, .pointer (some ⟨q14, 0, none⟩)), (15, .int .i64 i)]) (fun ⟨i, _⟩ => (kk - i).toNat) (0, none, 0, 4) ⟨F, by omega, by omega, hnum, by omega, fun j hj => by omega⟩ (by repeat (first | exact trivial | refine And.intro rfl ?_)) ?_
      clear F hnum
      rintro ⟨i, x, k, n⟩ env s Q K0 ⟨F, i0, i1, hnum, hfit, hmay⟩
      obtain ⟨hop2, hn1, hn4, hnl⟩ := num_bd hB hnum
      have hdec := dec_at (sg := sgR) (bs := bs) (at_ := at_) (by assumption) hnum hsg
      rw [hsl, if_neg (by omega)] at hdec
      obtain ⟨ms, hms⟩ : ∃ ms, modesR bs (at_ + n) kk = ms := ⟨_, rfl⟩
      rw [hms] at hdec hmay F
      have hml : ms.length = kk := by rw [← hms, modes_len]
      refine k_seq (fun Q K => ?_)
      refine k_seq (fun Q K => ?_)
      refine k_lin (fun W K => ?_)
      refine l_op 0 rfl rfl rfl rfl rfl ?_
      refine l_op 0 rfl rfl rfl rfl rfl ?_
      refine l_ln rfl rfl rfl rfl ?_
      rw [hkk]
      refine l_cmp rfl rfl rfl rfl ?_
      refine l_nil (WK.nx (by assumption) ?_)
      refine SeqK.nx (by assumption) ?_
      refine l_cond rfl rfl (fun hc23 => ?_) (fun hc23 => ?_)
      · replace hc23 := of_decide_eq_true ((irr_eq _).symm.trans hc23)
        have hbb := hB.at (at_ + n + i / 2).toNat
        refine k_skip ?_
        refine SeqK.nx (by assumption) ?_
        refine k_seq (fun Q K => ?_)
        refine k_block (fun Q K => ?_)
        refine k_seq (fun Q K => ?_)
        refine k_lin (fun W K => ?_)
        refine l_op 0 rfl rfl rfl rfl rfl ?_
        refine l_op 0 rfl rfl rfl rfl rfl ?_
        refine l_op 0 rfl rfl rfl rfl rfl ?_
        refine l_a64 rfl rfl rfl (by omega) rfl ?_
        refine l_op 0 rfl rfl rfl rfl rfl ?_
        first | refine l_quon rfl rfl rfl rfl rfl (by omega) rfl ?_ | refine l_quou64 rfl rfl rfl rfl rfl (by omega) rfl ?_ | refine l_quou32 rfl rfl rfl rfl rfl (by omega) rfl ?_ | refine l_quo rfl rfl rfl rfl rfl (by omega) rfl ?_
        refine l_a64 rfl rfl rfl (by omega) rfl ?_
        first | refine l_ixi rfl rfl rfl rfl rfl rfl (F.old (by assumption)) (by omega) (fun m97 b97 hA97 => ?_) | (refine l_ixoi F 0 rfl rfl rfl rfl rfl rfl rfl (by omega) (fun m e ha hA97 => ?_); cases ha) | (refine l_ixoi F 1 rfl rfl rfl rfl rfl rfl rfl (by omega) (fun m e ha hA97 => ?_); cases ha) | (refine l_ixoi F 2 rfl rfl rfl rfl rfl rfl rfl (by omega) (fun m e ha hA97 => ?_); cases ha) | (refine l_ixoi F 3 rfl rfl rfl rfl rfl rfl rfl (by omega) (fun m e ha hA97 => ?_); cases ha)
        refine l_ld0 rfl rfl rfl rfl rfl (by assumption) ?_
        refine l_c64 rfl rfl rfl (by omega) rfl ?_
        refine l_op 0 rfl rfl rfl rfl rfl ?_
        refine l_nil (WK.nx (by assumption) ?_)
        refine SeqK.nx (by assumption) ?_
        refine k_seq (fun Q K => ?_)
        refine k_seq (fun Q K => ?_)
        refine k_lin (fun W K => ?_)
        refine l_op 0 rfl rfl rfl rfl rfl ?_
        first | refine l_remn rfl rfl rfl rfl rfl (by omega) rfl ?_ | refine l_rem rfl rfl rfl rfl rfl (by omega) rfl ?_
        refine l_cmp rfl rfl rfl rfl ?_
        refine l_nil (WK.nx (by assumption) ?_)
        refine SeqK.nx (by assumption) ?_
        refine l_cond rfl rfl (fun hc24 => ?_) (fun hc24 => ?_)
        · first | replace hc24 := eq_of_beq ((irr_eq _).symm.trans hc24) | simp only [irr_eq, beq_iff_eq, beq_eq_false_iff_ne, ne_eq, decide_eq_true_eq, decide_eq_false_iff_not] at hc24
          have hnb := nib_odd (bs := bs) (p := at_ + n) i0 hc24
          rw [← modes_at (bs := bs) (p := at_ + n) (k := kk) (i := i.toNat) (by omega), hms] at hnb
          refine k_lin (fun W K => ?_)
          refine l_op 0 rfl rfl rfl rfl rfl ?_
          first | refine l_quon rfl rfl rfl rfl rfl (by omega) rfl ?_ | refine l_quou64 rfl rfl rfl rfl rfl (by omega) rfl ?_ | refine l_quou32 rfl rfl rfl rfl rfl (by omega) rfl ?_ | refine l_quo rfl rfl rfl rfl rfl (by omega) rfl ?_
          refine l_op 0 rfl rfl rfl rfl rfl ?_
          refine l_nil (WK.nx (by assumption) ?_)
          refine SeqK.nx (by assumption) ?_
          refine k_seq (fun Q K => ?_)
          refine k_lin (fun W K => ?_)
          refine l_op 0 rfl rfl rfl rfl rfl ?_
          refine l_remn rfl rfl rfl rfl rfl (by omega) rfl ?_
          rw [hnb]
          refine l_op 0 rfl rfl rfl rfl rfl ?_
          refine l_nil (WK.nx (by assumption) ?_)
          refine SeqK.nx (by assumption) ?_
          refine k_seq (fun Q K => ?_)
          refine k_seq (fun Q K => ?_)
          refine k_lin (fun W K => ?_)
          refine l_op 0 rfl rfl rfl rfl rfl ?_
          refine l_op 0 rfl rfl rfl rfl rfl ?_
          refine l_sx rfl rfl rfl rfl rfl (by omega) ?_
          refine l_op 0 rfl rfl rfl rfl rfl ?_
          refine l_callp F rfl rfl (by kernel_rfl) rfl rfl rmay_call (fun _ s F _ => ?_)
          (try dsimp only [n_1, n_2, n_3, n_4, List.append_nil, pk, n_5, n_6] at F)
          refine l_op 2 rfl rfl rfl rfl rfl ?_
          refine l_nil (WK.nx (by assumption) ?_)
          refine SeqK.nx (by assumption) ?_
          refine l_cond rfl rfl (fun hc25 => ?_) (fun hc25 => ?_)
          · try simp only [irr_eq, beq_iff_eq, bne_iff_ne, beq_eq_false_iff_ne, bne_eq_false_iff_eq, ne_eq, decide_eq_true_eq, decide_eq_false_iff_not, Bool.not_eq_true', Bool.not_eq_false'] at hc25
            have hr : decR sgR bs at_ = (0, [], 0, 111) := by
              rw [hdec, allMay_not _ ms i.toNat (by omega) (by omega) hc25, if_pos rfl]
            refine k_seq (fun Q K => ?_)
            refine k_lin (fun W K => ?_)
            refine l_ldca F 2 rfl rfl rfl rfl rfl rfl rfl ?_
            refine l_stca F 1 rfl rfl rfl rfl rfl rfl rfl rfl rfl rfl hD rfl (fun s F => ?_)
            (try dsimp only [n_1, n_2, n_3, n_4, List.append_nil, pk, n_5, n_6] at F)
            refine l_op 0 rfl rfl rfl rfl rfl ?_
            refine l_op 0 rfl rfl rfl rfl rfl ?_
            refine l_nil (WK.nx (by assumption) ?_)
            refine SeqK.nx (by assumption) ?_
            refine k_ret ?_
            refine SeqK.rt (by assumption) ?_
            refine BlkK.rt (by assumption) ?_
            refine SeqK.rt (by assumption) ?_
            refine LoopK.rt (by assumption) ?_
            refine BlkK.rt (by assumption) ?_
            refine SeqK.rt (by assumption) ?_
            first | refine FunK.rtc (by assumption) (res_cell F 0 rfl rfl (by kernel_rfl) (resE_rsv rfl)) ?_ | refine FunK.rtc (by assumption) (res_cell F 1 rfl rfl (by kernel_rfl) (resE_rsv rfl)) ?_ | refine FunK.rtc (by assumption) (res_cell F 2 rfl rfl (by kernel_rfl) (resE_rsv rfl)) ?_ | refine FunK.rtc (by assumption) (res_cell F 3 rfl rfl (by kernel_rfl) (resE_rsv rfl)) ?_ | refine FunK.rtc (by assumption) (res_cell F 4 rfl rfl (by kernel_rfl) (resE_rsv rfl)) ?_ | refine FunK.rtc (by assumption) (res_cell F 5 rfl rfl (by kernel_rfl) (resE_rsv rfl)) ?_ | refine FunK.rtc (by assumption) (res_cell F 6 rfl rfl (by kernel_rfl) (resE_rsv rfl)) ?_ | refine FunK.rtc (by assumption) (res_cell F 7 rfl rfl (by kernel_rfl) (resE_rsv rfl)) ?_
            -- leaf 13
            first
              | (rw [hr]; exact ⟨(none, 0), rfl, F.pick [0] (by decide), trivial⟩)
              | (rw [hr]
                 refine ⟨(x, k), ?_, ?_, trivial⟩
                 · show _ = Value.tuple #[.agg #[.int .u32 opx, .slice _ pre.length _], _, _]
                   rw [hpl]; rfl
                 · show Facts _ _ _ [own _ pre.length _ 2 (rows eO pre)]
                   rw [hpl]; exact F.pick [4] (by decide))
          try simp only [irr_eq, beq_iff_eq, bne_iff_ne, beq_eq_false_iff_ne, bne_eq_false_iff_eq, ne_eq, decide_eq_true_eq, decide_eq_false_iff_not, Bool.not_eq_true', Bool.not_eq_false'] at hc25
          refine k_skip ?_
          refine SeqK.nx (by assumption) ?_
          refine k_lin (fun W K => ?_)
          refine l_op 2 rfl rfl rfl rfl rfl ?_
          refine l_ldc F 3 rfl rfl rfl rfl rfl rfl rfl ?_
          refine l_op 0 rfl rfl rfl rfl rfl ?_
          refine l_bld rfl rfl rfl rfl ?_
          refine l_lit (k := 2) F rfl rfl rfl rfl (fun q118 s F => ?_)
          (try dsimp only [n_1, n_2, n_3, n_4, List.append_nil, pk, n_5, n_6] at F)
          refine l_app (es := 2) (ns := rows eO [(ms.getD i.toNat 0, 0)]) F 4 rfl rfl rfl rfl rfl rfl rfl (F.has 5 rfl) (eO_one [(ms.getD i.toNat 0, 0)]) rfl (by omega) hD (fun x119 c119 s F => ?_)
          (try dsimp only [n_1, n_2, n_3, n_4, List.append_nil, pk, n_5, n_6] at F)
          rw [nibs_take (by omega)] at F
          refine l_op 2 rfl rfl rfl rfl rfl ?_
          refine l_stc F 3 rfl rfl rfl rfl rfl rfl rfl rfl rfl hD (fun s F => ?_)
          (try dsimp only [n_1, n_2, n_3, n_4, List.append_nil, pk, n_5, n_6] at F)
          refine l_nil (WK.nx (by assumption) ?_)
          refine BlkK.nx (by assumption) ?_
          refine SeqK.nx (by assumption) ?_
          refine k_lin (fun W K => ?_)
          refine l_op 0 rfl rfl rfl rfl rfl ?_
          refine l_a64 rfl rfl rfl (by omega) rfl ?_
          refine l_op 0 rfl rfl rfl rfl rfl ?_
          refine l_nil (WK.nx (by assumption) ?_)
          have e1' : (i + 1).toNat = i.toNat + 1 := by omega
          exact K0.nx (i + 1, x119, c119, n) (by repeat (first | exact trivial | refine And.intro rfl ?_)) ⟨by rw [hms, e1']; exact F.pick [0, 1, 2, 3, 4] (by decide), by omega, by omega, hnum, hfit, fun j hj => by
            rw [hms]
            by_cases hji : (j : Int) < i
            · exact hmay j hji
            · have : j = i.toNat := by omega
              rw [this]; assumption⟩ (by first | omega | (simp only; omega))
        first | replace hc24 := ne_of_beq_false ((irr_eq _).symm.trans hc24) | simp only [irr_eq, beq_iff_eq, beq_eq_false_iff_ne, ne_eq, decide_eq_true_eq, decide_eq_false_iff_not] at hc24
        have hnb := nib_even (bs := bs) (p := at_ + n) i0 hc24
        rw [← modes_at (bs := bs) (p := at_ + n) (k := kk) (i := i.toNat) (by omega), hms] at hnb
        refine k_skip ?_
        refine SeqK.nx (by assumption) ?_
        refine k_seq (fun Q K => ?_)
        refine k_lin (fun W K => ?_)
        refine l_op 0 rfl rfl rfl rfl rfl ?_
        refine l_remn rfl rfl rfl rfl rfl (by omega) rfl ?_
        rw [hnb]
        refine l_op 0 rfl rfl rfl rfl rfl ?_
        refine l_nil (WK.nx (by assumption) ?_)
        refine SeqK.nx (by assumption) ?_
        refine k_seq (fun Q K => ?_)
        refine k_seq (fun Q K => ?_)
        refine k_lin (fun W K => ?_)
        refine l_op 0 rfl rfl rfl rfl rfl ?_
        refine l_op 0 rfl rfl rfl rfl rfl ?_
        refine l_sx rfl rfl rfl rfl rfl (by omega) ?_
        refine l_op 0 rfl rfl rfl rfl rfl ?_
        refine l_callp F rfl rfl (by kernel_rfl) rfl rfl rmay_call (fun _ s F _ => ?_)
        (try dsimp only [n_1, n_2, n_3, n_4, List.append_nil, pk, n_5, n_6] at F)
        refine l_op 2 rfl rfl rfl rfl rfl ?_
        refine l_nil (WK.nx (by assumption) ?_)
        refine SeqK.nx (by assumption) ?_
        refine l_cond rfl rfl (fun hc26 => ?_) (fun hc26 => ?_)
        · try simp only [irr_eq, beq_iff_eq, bne_iff_ne, beq_eq_false_iff_ne, bne_eq_false_iff_eq, ne_eq, decide_eq_true_eq, decide_eq_false_iff_not, Bool.not_eq_true', Bool.not_eq_false'] at hc26
          have hr : decR sgR bs at_ = (0, [], 0, 111) := by
            rw [hdec, allMay_not _ ms i.toNat (by omega) (by omega) hc26, if_pos rfl]
          refine k_seq (fun Q K => ?_)
          refine k_lin (fun W K => ?_)
          refine l_ldca F 2 rfl rfl rfl rfl rfl rfl rfl ?_
          refine l_stca F 1 rfl rfl rfl rfl rfl rfl rfl rfl rfl rfl hD rfl (fun s F => ?_)
          (try dsimp only [n_1, n_2, n_3, n_4, List.append_nil, pk, n_5, n_6] at F)
          refine l_op 0 rfl rfl rfl rfl rfl ?_
          refine l_op 0 rfl rfl rfl rfl rfl ?_
          refine l_nil (WK.nx (by assumption) ?_)
          refine SeqK.nx (by assumption) ?_
          refine k_ret ?_
          refine SeqK.rt (by assumption) ?_
          refine BlkK.rt (by assumption) ?_
          refine SeqK.rt (by assumption) ?_
          refine LoopK.rt (by assumption) ?_
          refine BlkK.rt (by assumption) ?_
          refine SeqK.rt (by assumption) ?_
          first | refine FunK.rtc (by assumption) (res_cell F 0 rfl rfl (by kernel_rfl) (resE_rsv rfl)) ?_ | refine FunK.rtc (by assumption) (res_cell F 1 rfl rfl (by kernel_rfl) (resE_rsv rfl)) ?_ | refine FunK.rtc (by assumption) (res_cell F 2 rfl rfl (by kernel_rfl) (resE_rsv rfl)) ?_ | refine FunK.rtc (by assumption) (res_cell F 3 rfl rfl (by kernel_rfl) (resE_rsv rfl)) ?_ | refine FunK.rtc (by assumption) (res_cell F 4 rfl rfl (by kernel_rfl) (resE_rsv rfl)) ?_ | refine FunK.rtc (by assumption) (res_cell F 5 rfl rfl (by kernel_rfl) (resE_rsv rfl)) ?_ | refine FunK.rtc (by assumption) (res_cell F 6 rfl rfl (by kernel_rfl) (resE_rsv rfl)) ?_ | refine FunK.rtc (by assumption) (res_cell F 7 rfl rfl (by kernel_rfl) (resE_rsv rfl)) ?_
          -- leaf 14
          first
            | (rw [hr]; exact ⟨(none, 0), rfl, F.pick [0] (by decide), trivial⟩)
            | (rw [hr]
               refine ⟨(x, k), ?_, ?_, trivial⟩
               · show _ = Value.tuple #[.agg #[.int .u32 opx, .slice _ pre.length _], _, _]
                 rw [hpl]; rfl
               · show Facts _ _ _ [own _ pre.length _ 2 (rows eO pre)]
                 rw [hpl]; exact F.pick [4] (by decide))
        try simp only [irr_eq, beq_iff_eq, bne_iff_ne, beq_eq_false_iff_ne, bne_eq_false_iff_eq, ne_eq, decide_eq_true_eq, decide_eq_false_iff_not, Bool.not_eq_true', Bool.not_eq_false'] at hc26
        refine k_skip ?_
        refine SeqK.nx (by assumption) ?_
        refine k_lin (fun W K => ?_)
        refine l_op 2 rfl rfl rfl rfl rfl ?_
        refine l_ldc F 3 rfl rfl rfl rfl rfl rfl rfl ?_
        refine l_op 0 rfl rfl rfl rfl rfl ?_
        refine l_bld rfl rfl rfl rfl ?_
        refine l_lit (k := 2) F rfl rfl rfl rfl (fun q118 s F => ?_)
        (try dsimp only [n_1, n_2, n_3, n_4, List.append_nil, pk, n_5, n_6] at F)
        refine l_app (es := 2) (ns := rows eO [(ms.getD i.toNat 0, 0)]) F 4 rfl rfl rfl rfl rfl rfl rfl (F.has 5 rfl) (eO_one [(ms.getD i.toNat 0, 0)]) rfl (by omega) hD (fun x119 c119 s F => ?_)
        (try dsimp only [n_1, n_2, n_3, n_4, List.append_nil, pk, n_5, n_6] at F)
        rw [nibs_take (by omega)] at F
        refine l_op 2 rfl rfl rfl rfl rfl ?_
        refine l_stc F 3 rfl rfl rfl rfl rfl rfl rfl rfl rfl hD (fun s F => ?_)
        (try dsimp only [n_1, n_2, n_3, n_4, List.append_nil, pk, n_5, n_6] at F)
        refine l_nil (WK.nx (by assumption) ?_)
        refine BlkK.nx (by assumption) ?_
        refine SeqK.nx (by assumption) ?_
        refine k_lin (fun W K => ?_)
        refine l_op 0 rfl rfl rfl rfl rfl ?_
        refine l_a64 rfl rfl rfl (by omega) rfl ?_
        refine l_op 0 rfl rfl rfl rfl rfl ?_
        refine l_nil (WK.nx (by assumption) ?_)
        have e1' : (i + 1).toNat = i.toNat + 1 := by omega
        exact K0.nx (i + 1, x119, c119, n) (by repeat (first | exact trivial | refine And.intro rfl ?_)) ⟨by rw [hms, e1']; exact F.pick [0, 1, 2, 3, 4] (by decide), by omega, by omega, hnum, hfit, fun j hj => by
          rw [hms]
          by_cases hji : (j : Int) < i
          · exact hmay j hji
          · have : j = i.toNat := by omega
            rw [this]; assumption⟩ (by first | omega | (simp only; omega))
      replace hc23 := of_decide_eq_false ((irr_eq _).symm.trans hc23)
      have hall : allMay (ltr sp.1) ms = true := allMay_of _ _ (by omega) (fun j hj => hmay j (by omega))
      rw [hall, if_neg (by decide)] at hdec
      have hsz : ∀ j : Nat, j < kk → 0 ≤ szm (ms.getD j 0) := fun j hj => may_sz (hmay j (by omega))
      have hik : i.toNat = kk := by omega
      have hmt : ((ms.take i.toNat).map fun m => (m, (0 : Int))) = valsTo ms [] 0 := by
        rw [List.take_of_length_le (by omega)]; rfl
      rw [hmt, hik] at F
      obtain ⟨q0, hq0⟩ : ∃ q0, at_ + n + (((kk + 1) / 2 : Nat) : Int) = q0 := ⟨_, rfl⟩
      rw [hq0] at hdec
      have hq0' : at_ + (n + (((kk : Nat) : Int) + 1) / 2) = q0 := by omega
      refine k_exit ?_
      refine SeqK.et (by assumption) ?_
      refine LoopK.et (by assumption) ?_
      refine BlkK.et (by assumption) ?_
      refine SeqK.nx (by assumption) ?_
      refine k_seq (fun Q K => ?_)
      refine k_lin (fun W K => ?_)
      refine l_op 0 rfl rfl rfl rfl rfl ?_
      refine l_op 0 rfl rfl rfl rfl rfl ?_
      refine l_a64 rfl rfl rfl (by omega) rfl ?_
      refine l_op 0 rfl rfl rfl rfl rfl ?_
      refine l_nil (WK.nx (by assumption) ?_)
      refine SeqK.nx (by assumption) ?_
      refine k_seq (fun Q K => ?_)
      refine k_seq (fun Q K => ?_)
      refine k_lin (fun W K => ?_)
      refine l_op 0 rfl rfl rfl rfl rfl ?_
      refine l_nil (WK.nx (by assumption) ?_)
      refine SeqK.nx (by assumption) ?_
      refine k_block (fun Q K => ?_)
      refine k_loop (α := Int × Int × List (Int × Int)) (fun ⟨j2, nn, pre⟩ s => Facts E0 σ s [own none 0 0 2 [], cel q4 [.int .u32 0, .slice none 0 0], cel q7 [.int .u32 0, .slice none 0 0], cel q14 [.int .u32 opx, .slice x kk k], own x kk k 2 (rows eO (valsTo ms pre j2.toNat))] ∧ 0 ≤ j2 ∧ j2 ≤ kk ∧ pre.length = j2.toNat ∧ 0 ≤ nn ∧ at_ + nn ≤ l ∧ valsR bs q0 ms = (valsR bs (at_ + nn) (ms.drop j2.toNat)).map fun r => (pre ++ r.1, r.2)) (fun ⟨j2, nn, pre⟩ => [(0, .slice a l c), (1, .int .i64 at_), (4, .pointer (some ⟨q4, 0, none⟩)), (7, .pointer (some ⟨q7, 0, none⟩)), (8, .int .i64 nn), (11, .string sp.1), (14, .pointer (some ⟨q14, 0, none⟩)), (17, .int .i64 j2)]) (fun ⟨j2, _⟩ => (kk - j2).toNat) (0, n + (((kk : Nat) : Int) + 1) / 2, []) ⟨F, by omega, by omega, rfl, by omega, by omega, by rw [hq0']; exact (vals_id _).symm⟩ (by repeat (first | exact trivial | refine And.intro rfl ?_)) ?_
      clear F
      rintro ⟨j2, nn, pre⟩ env s Q K1 ⟨F, j0, j1, hpre, qq0, qq1, hvals⟩
      refine k_seq (fun Q K => ?_)
      refine k_seq (fun Q K => ?_)
      refine k_lin (fun W K => ?_)
      refine l_op 0 rfl rfl rfl rfl rfl ?_
      refine l_op 0 rfl rfl rfl rfl rfl ?_
      refine l_ln rfl rfl rfl rfl ?_
      rw [hkk]
      refine l_cmp rfl rfl rfl rfl ?_
      refine l_nil (WK.nx (by assumption) ?_)
      refine SeqK.nx (by assumption) ?_
      refine l_cond rfl rfl (fun hc27 => ?_) (fun hc27 => ?_)
      · replace hc27 := of_decide_eq_true ((irr_eq _).symm.trans hc27)
        have him : j2.toNat < ms.length := by omega
        have hszi := hsz j2.toNat (by omega)
        obtain ⟨z0, z1, z2, z3⟩ := szm_cases hszi
        refine k_skip ?_
        refine SeqK.nx (by assumption) ?_
        refine k_seq (fun Q K => ?_)
        refine k_block (fun Q K => ?_)
        refine k_seq (fun Q K => ?_)
        refine k_lin (fun W K => ?_)
        refine l_op 2 rfl rfl rfl rfl rfl ?_
        refine l_ldc F 3 rfl rfl rfl rfl rfl rfl rfl ?_
        refine l_op 0 rfl rfl rfl rfl rfl ?_
        refine l_ixo F 4 rfl rfl rfl rfl rfl rfl rfl (by omega) (fun m133 e133 ha133 hA133 => ?_)
        subst ha133
        rw [rows_at eO_len (by rw [valsTo_len hpre (by omega)]; omega), valsTo_at hpre him] at hA133
        refine l_op 2 rfl rfl rfl rfl rfl ?_
        refine l_ld0 rfl rfl rfl rfl rfl (by assumption) ?_
        refine l_op 0 rfl rfl rfl rfl rfl ?_
        refine l_nil (WK.nx (by assumption) ?_)
        refine SeqK.nx (by assumption) ?_
        refine k_seq (fun Q K => ?_)
        refine k_lin (fun W K => ?_)
        refine l_op 0 rfl rfl rfl rfl rfl ?_
        refine l_callp F rfl rfl (by kernel_rfl) rfl rfl (rsize_call (m := ms.getD j2.toNat 0)) (fun _ s F _ => ?_)
        (try dsimp only [n_1, n_2, n_3, n_4, List.append_nil, pk, n_5, n_6] at F)
        refine l_op 0 rfl rfl rfl rfl rfl ?_
        refine l_nil (WK.nx (by assumption) ?_)
        refine SeqK.nx (by assumption) ?_
        refine k_seq (fun Q K => ?_)
        refine k_seq (fun Q K => ?_)
        refine k_lin (fun W K => ?_)
        refine l_op 0 rfl rfl rfl rfl rfl ?_
        refine l_cmp rfl rfl rfl rfl ?_
        refine l_nil (WK.nx (by assumption) ?_)
        refine SeqK.nx (by assumption) ?_
        refine l_cond rfl rfl (fun hc28 => ?_) (fun hc28 => ?_)
        · first | replace hc28 := eq_of_beq ((irr_eq _).symm.trans hc28) | simp only [irr_eq, beq_iff_eq, beq_eq_false_iff_ne, ne_eq, decide_eq_true_eq, decide_eq_false_iff_not] at hc28
          refine k_exit ?_
          refine SeqK.et (by assumption) ?_
          refine BlkK.et (by assumption) ?_
          refine SeqK.nx (by assumption) ?_
          refine k_lin (fun W K => ?_)
          refine l_op 0 rfl rfl rfl rfl rfl ?_
          refine l_a64 rfl rfl rfl (by omega) rfl ?_
          refine l_op 0 rfl rfl rfl rfl rfl ?_
          refine l_nil (WK.nx (by assumption) ?_)
          have e1' : (j2 + 1).toNat = j2.toNat + 1 := by omega
          first
            | (have hz : szm (ms.getD j2.toNat 0) = 0 := by omega
               rw [drop_at him, valsR, if_pos hz, vals_app] at hvals
               rw [valsTo_skip him] at F
               exact K1.nx (j2 + 1, nn, pre ++ [((ms.getD j2.toNat 0), 0)]) (by repeat (first | exact trivial | refine And.intro rfl ?_)) ⟨by rw [e1']; exact F, by omega, by omega, by rw [List.length_append, hpre, e1']; rfl, by omega, by omega, by rw [e1']; exact hvals⟩ (by first | omega | (simp only; omega)))
            | (rw [drop_at him, valsR, if_neg (by omega), if_neg (by omega), vals_app, Int.add_assoc] at hvals
               exact K1.nx (j2 + 1, nn + szm (ms.getD j2.toNat 0), pre ++ [((ms.getD j2.toNat 0), telR (ms.getD j2.toNat 0) (be bs (at_ + nn).toNat (szm (ms.getD j2.toNat 0)).toNat))]) (by repeat (first | exact trivial | refine And.intro rfl ?_)) ⟨by rw [e1']; exact F, by omega, by omega, by rw [List.length_append, hpre, e1']; rfl, by omega, by omega, by rw [e1']; exact hvals⟩ (by first | omega | (simp only; omega)))
        first | replace hc28 := ne_of_beq_false ((irr_eq _).symm.trans hc28) | simp only [irr_eq, beq_iff_eq, beq_eq_false_iff_ne, ne_eq, decide_eq_true_eq, decide_eq_false_iff_not] at hc28
        refine k_skip ?_
        refine SeqK.nx (by assumption) ?_
        refine k_seq (fun Q K => ?_)
        refine k_seq (fun Q K => ?_)
        refine k_lin (fun W K => ?_)
        refine l_op 0 rfl rfl rfl rfl rfl ?_
        refine l_op 0 rfl rfl rfl rfl rfl ?_
        refine l_op 0 rfl rfl rfl rfl rfl ?_
        refine l_op 0 rfl rfl rfl rfl rfl ?_
        refine l_a64 rfl rfl rfl (by omega) rfl ?_
        refine l_callp F rfl rfl (by kernel_rfl) rfl rfl (there11_call (by omega) (by omega)) (fun y145 s F hy145 => ?_)
        (try dsimp only [n_1, n_2, n_3, n_4, List.append_nil, pk, n_5, n_6] at F)
        refine l_op 2 rfl rfl rfl rfl rfl ?_
        refine l_nil (WK.nx (by assumption) ?_)
        refine SeqK.nx (by assumption) ?_
        refine l_cond rfl rfl (fun hc29 => ?_) (fun hc29 => ?_)
        · try simp only [irr_eq, beq_iff_eq, bne_iff_ne, beq_eq_false_iff_ne, bne_eq_false_iff_eq, ne_eq, decide_eq_true_eq, decide_eq_false_iff_not, Bool.not_eq_true', Bool.not_eq_false'] at hc29
          have hr : decR sgR bs at_ = (0, [], 0, 90) := by
            have hnt : ¬ (at_ ≤ l ∧ at_ + (nn + szm (ms.getD j2.toNat 0)) ≤ l) := fun hh => by rw [hy145.2 hh] at hc29; cases hc29
            rw [hdec, hvals, drop_at him, valsR, if_neg (by omega), if_pos (by omega)]
            rfl
          refine k_seq (fun Q K => ?_)
          refine k_lin (fun W K => ?_)
          refine l_ldca F 2 rfl rfl rfl rfl rfl rfl rfl ?_
          refine l_stca F 1 rfl rfl rfl rfl rfl rfl rfl rfl rfl rfl hD rfl (fun s F => ?_)
          (try dsimp only [n_1, n_2, n_3, n_4, List.append_nil, pk, n_5, n_6] at F)
          refine l_op 0 rfl rfl rfl rfl rfl ?_
          refine l_op 0 rfl rfl rfl rfl rfl ?_
          refine l_nil (WK.nx (by assumption) ?_)
          refine SeqK.nx (by assumption) ?_
          refine k_ret ?_
          refine SeqK.rt (by assumption) ?_
          refine BlkK.rt (by assumption) ?_
          refine SeqK.rt (by assumption) ?_
          refine LoopK.rt (by assumption) ?_
          refine BlkK.rt (by assumption) ?_
          refine SeqK.rt (by assumption) ?_
          first | refine FunK.rtc (by assumption) (res_cell F 0 rfl rfl (by kernel_rfl) (resE_rsv rfl)) ?_ | refine FunK.rtc (by assumption) (res_cell F 1 rfl rfl (by kernel_rfl) (resE_rsv rfl)) ?_ | refine FunK.rtc (by assumption) (res_cell F 2 rfl rfl (by kernel_rfl) (resE_rsv rfl)) ?_ | refine FunK.rtc (by assumption) (res_cell F 3 rfl rfl (by kernel_rfl) (resE_rsv rfl)) ?_ | refine FunK.rtc (by assumption) (res_cell F 4 rfl rfl (by kernel_rfl) (resE_rsv rfl)) ?_ | refine FunK.rtc (by assumption) (res_cell F 5 rfl rfl (by kernel_rfl) (resE_rsv rfl)) ?_ | refine FunK.rtc (by assumption) (res_cell F 6 rfl rfl (by kernel_rfl) (resE_rsv rfl)) ?_ | refine FunK.rtc (by assumption) (res_cell F 7 rfl rfl (by kernel_rfl) (resE_rsv rfl)) ?_
          -- leaf 15
          first
            | (rw [hr]; exact ⟨(none, 0), rfl, F.pick [0] (by decide), trivial⟩)
            | (rw [hr]
               refine ⟨(x, k), ?_, ?_, trivial⟩
               · show _ = Value.tuple #[.agg #[.int .u32 opx, .slice _ pre.length _], _, _]
                 rw [hpl]; rfl
               · show Facts _ _ _ [own _ pre.length _ 2 (rows eO pre)]
                 rw [hpl]; exact F.pick [4] (by decide))
        try simp only [irr_eq, beq_iff_eq, bne_iff_ne, beq_eq_false_iff_ne, bne_eq_false_iff_eq, ne_eq, decide_eq_true_eq, decide_eq_false_iff_not, Bool.not_eq_true', Bool.not_eq_false'] at hc29
        have hth4 := hy145.1 (by assumption)
        refine k_skip ?_
        refine SeqK.nx (by assumption) ?_
        refine k_seq (fun Q K => ?_)
        refine k_lin (fun W K => ?_)
        refine l_op 0 rfl rfl rfl rfl rfl ?_
        refine l_op 0 rfl rfl rfl rfl rfl ?_
        refine l_op 0 rfl rfl rfl rfl rfl ?_
        refine l_a64 rfl rfl rfl (by omega) rfl ?_
        refine l_op 0 rfl rfl rfl rfl rfl ?_
        have hbc := rbe_call (σ := s) (at_ := at_ + nn) (n := szm (ms.getD j2.toNat 0)) (Old.pure (F.old h)) hB (by omega)
        rw [beV_ok (by omega) (by omega)] at hbc
        have hx4 := be_lt4 hB (at_ + nn).toNat (k := (szm (ms.getD j2.toNat 0)).toNat) (by omega)
        have hxu : U32 (be bs (at_ + nn).toNat (szm (ms.getD j2.toNat 0)).toNat) := hx4
        refine l_callp F rfl rfl (by kernel_rfl) rfl rfl hbc (fun _ s F _ => ?_)
        (try dsimp only [n_1, n_2, n_3, n_4, List.append_nil, pk, n_5, n_6] at F)
        refine l_op 0 rfl rfl rfl rfl rfl ?_
        refine l_op 2 rfl rfl rfl rfl rfl ?_
        refine l_op 2 rfl rfl rfl rfl rfl ?_
        refine l_op 0 rfl rfl rfl rfl rfl ?_
        refine l_op 0 rfl rfl rfl rfl rfl ?_
        refine l_nil (WK.nx (by assumption) ?_)
        refine SeqK.nx (by assumption) ?_
        refine k_seq (fun Q K => ?_)
        refine k_seq (fun Q K => ?_)
        refine k_lin (fun W K => ?_)
        refine l_op 0 rfl rfl rfl rfl rfl ?_
        refine l_cmp rfl rfl rfl rfl ?_
        refine l_nil (WK.nx (by assumption) ?_)
        refine SeqK.nx (by assumption) ?_
        refine l_cond rfl rfl (fun hc30 => ?_) (fun hc30 => ?_)
        · replace hc30 := of_decide_eq_true ((irr_eq _).symm.trans hc30)
          refine k_lin (fun W K => ?_)
          refine l_op 0 rfl rfl rfl rfl rfl ?_
          refine l_op 0 rfl rfl rfl rfl rfl ?_
          refine l_callp F rfl rfl (by kernel_rfl) rfl rfl (rextend_call hxu) (fun _ s F _ => ?_)
          (try dsimp only [n_1, n_2, n_3, n_4, List.append_nil, pk, n_5, n_6] at F)
          refine l_op 0 rfl rfl rfl rfl rfl ?_
          refine l_nil (WK.nx (by assumption) ?_)
          refine SeqK.nx (by assumption) ?_
          refine k_seq (fun Q K => ?_)
          refine k_lin (fun W K => ?_)
          refine l_op 2 rfl rfl rfl rfl rfl ?_
          refine l_ldc F 3 rfl rfl rfl rfl rfl rfl rfl ?_
          refine l_op 0 rfl rfl rfl rfl rfl ?_
          refine l_op 0 rfl rfl rfl rfl rfl ?_
          refine l_ixo F 4 rfl rfl rfl rfl rfl rfl rfl (by omega) (fun m166 e166 ha166 hA166 => ?_)
          cases ha166
          refine l_op 2 rfl rfl rfl rfl rfl ?_
          first
            | (have hx : extR (be bs (at_ + nn).toNat (szm (ms.getD j2.toNat 0)).toNat) (szm (ms.getD j2.toNat 0)) = telR (ms.getD j2.toNat 0) (be bs (at_ + nn).toNat (szm (ms.getD j2.toNat 0)).toNat) := by
                 unfold telR; rw [if_pos ((cst_lt2 hszi (by omega)).2 (by omega))]
               refine l_sto (j := j2.toNat * 2 + 1) (v := .int .u32 (extR (be bs (at_ + nn).toNat (szm (ms.getD j2.toNat 0)).toNat) (szm (ms.getD j2.toNat 0)))) F 4 rfl rfl rfl rfl rfl rfl rfl rfl (by omega) hD (fun s F => ?_)
               rw [hx] at F)
            | (have hx : be bs (at_ + nn).toNat (szm (ms.getD j2.toNat 0)).toNat = telR (ms.getD j2.toNat 0) (be bs (at_ + nn).toNat (szm (ms.getD j2.toNat 0)).toNat) := by
                 unfold telR; rw [if_neg (fun hcc => absurd ((cst_lt2 hszi (by omega)).1 hcc) (by omega))]
               refine l_sto (j := j2.toNat * 2 + 1) (v := .int .u32 (be bs (at_ + nn).toNat (szm (ms.getD j2.toNat 0)).toNat)) F 4 rfl rfl rfl rfl rfl rfl rfl rfl (by omega) hD (fun s F => ?_)
               rw [hx] at F)
          (try dsimp only [n_1, n_2, n_3, n_4, List.append_nil, pk, n_5, n_6] at F)
          rw [valsTo_set hpre him] at F
          refine l_nil (WK.nx (by assumption) ?_)
          refine SeqK.nx (by assumption) ?_
          refine k_lin (fun W K => ?_)
          refine l_op 0 rfl rfl rfl rfl rfl ?_
          refine l_op 0 rfl rfl rfl rfl rfl ?_
          refine l_a64 rfl rfl rfl (by omega) rfl ?_
          refine l_op 0 rfl rfl rfl rfl rfl ?_
          refine l_nil (WK.nx (by assumption) ?_)
          refine BlkK.nx (by assumption) ?_
          refine SeqK.nx (by assumption) ?_
          refine k_lin (fun W K => ?_)
          refine l_op 0 rfl rfl rfl rfl rfl ?_
          refine l_a64 rfl rfl rfl (by omega) rfl ?_
          refine l_op 0 rfl rfl rfl rfl rfl ?_
          refine l_nil (WK.nx (by assumption) ?_)
          have e1' : (j2 + 1).toNat = j2.toNat + 1 := by omega
          first
            | (have hz : szm (ms.getD j2.toNat 0) = 0 := by omega
               rw [drop_at him, valsR, if_pos hz, vals_app] at hvals
               rw [valsTo_skip him] at F
               exact K1.nx (j2 + 1, nn, pre ++ [((ms.getD j2.toNat 0), 0)]) (by repeat (first | exact trivial | refine And.intro rfl ?_)) ⟨by rw [e1']; exact F, by omega, by omega, by rw [List.length_append, hpre, e1']; rfl, by omega, by omega, by rw [e1']; exact hvals⟩ (by first | omega | (simp only; omega)))
            | (rw [drop_at him, valsR, if_neg (by omega), if_neg (by omega), vals_app, Int.add_assoc] at hvals
               exact K1.nx (j2 + 1, nn + szm (ms.getD j2.toNat 0), pre ++ [((ms.getD j2.toNat 0), telR (ms.getD j2.toNat 0) (be bs (at_ + nn).toNat (szm (ms.getD j2.toNat 0)).toNat))]) (by repeat (first | exact trivial | refine And.intro rfl ?_)) ⟨by rw [e1']; exact F, by omega, by omega, by rw [List.length_append, hpre, e1']; rfl, by omega, by omega, by rw [e1']; exact hvals⟩ (by first | omega | (simp only; omega)))
        replace hc30 := of_decide_eq_false ((irr_eq _).symm.trans hc30)
        refine k_skip ?_
        refine SeqK.nx (by assumption) ?_
        refine k_seq (fun Q K => ?_)
        refine k_lin (fun W K => ?_)
        refine l_op 2 rfl rfl rfl rfl rfl ?_
        refine l_ldc F 3 rfl rfl rfl rfl rfl rfl rfl ?_
        refine l_op 0 rfl rfl rfl rfl rfl ?_
        refine l_op 0 rfl rfl rfl rfl rfl ?_
        refine l_ixo F 4 rfl rfl rfl rfl rfl rfl rfl (by omega) (fun m166 e166 ha166 hA166 => ?_)
        cases ha166
        refine l_op 2 rfl rfl rfl rfl rfl ?_
        first
          | (have hx : extR (be bs (at_ + nn).toNat (szm (ms.getD j2.toNat 0)).toNat) (szm (ms.getD j2.toNat 0)) = telR (ms.getD j2.toNat 0) (be bs (at_ + nn).toNat (szm (ms.getD j2.toNat 0)).toNat) := by
               unfold telR; rw [if_pos ((cst_lt2 hszi (by omega)).2 (by omega))]
             refine l_sto (j := j2.toNat * 2 + 1) (v := .int .u32 (extR (be bs (at_ + nn).toNat (szm (ms.getD j2.toNat 0)).toNat) (szm (ms.getD j2.toNat 0)))) F 4 rfl rfl rfl rfl rfl rfl rfl rfl (by omega) hD (fun s F => ?_)
             rw [hx] at F)
          | (have hx : be bs (at_ + nn).toNat (szm (ms.getD j2.toNat 0)).toNat = telR (ms.getD j2.toNat 0) (be bs (at_ + nn).toNat (szm (ms.getD j2.toNat 0)).toNat) := by
               unfold telR; rw [if_neg (fun hcc => absurd ((cst_lt2 hszi (by omega)).1 hcc) (by omega))]
             refine l_sto (j := j2.toNat * 2 + 1) (v := .int .u32 (be bs (at_ + nn).toNat (szm (ms.getD j2.toNat 0)).toNat)) F 4 rfl rfl rfl rfl rfl rfl rfl rfl (by omega) hD (fun s F => ?_)
             rw [hx] at F)
        (try dsimp only [n_1, n_2, n_3, n_4, List.append_nil, pk, n_5, n_6] at F)
        rw [valsTo_set hpre him] at F
        refine l_nil (WK.nx (by assumption) ?_)
        refine SeqK.nx (by assumption) ?_
        refine k_lin (fun W K => ?_)
        refine l_op 0 rfl rfl rfl rfl rfl ?_
        refine l_op 0 rfl rfl rfl rfl rfl ?_
        refine l_a64 rfl rfl rfl (by omega) rfl ?_
        refine l_op 0 rfl rfl rfl rfl rfl ?_
        refine l_nil (WK.nx (by assumption) ?_)
        refine BlkK.nx (by assumption) ?_
        refine SeqK.nx (by assumption) ?_
        refine k_lin (fun W K => ?_)
        refine l_op 0 rfl rfl rfl rfl rfl ?_
        refine l_a64 rfl rfl rfl (by omega) rfl ?_
        refine l_op 0 rfl rfl rfl rfl rfl ?_
        refine l_nil (WK.nx (by assumption) ?_)
        have e1' : (j2 + 1).toNat = j2.toNat + 1 := by omega
        first
          | (have hz : szm (ms.getD j2.toNat 0) = 0 := by omega
             rw [drop_at him, valsR, if_pos hz, vals_app] at hvals
             rw [valsTo_skip him] at F
             exact K1.nx (j2 + 1, nn, pre ++ [((ms.getD j2.toNat 0), 0)]) (by repeat (first | exact trivial | refine And.intro rfl ?_)) ⟨by rw [e1']; exact F, by omega, by omega, by rw [List.length_append, hpre, e1']; rfl, by omega, by omega, by rw [e1']; exact hvals⟩ (by first | omega | (simp only; omega)))
          | (rw [drop_at him, valsR, if_neg (by omega), if_neg (by omega), vals_app, Int.add_assoc] at hvals
             exact K1.nx (j2 + 1, nn + szm (ms.getD j2.toNat 0), pre ++ [((ms.getD j2.toNat 0), telR (ms.getD j2.toNat 0) (be bs (at_ + nn).toNat (szm (ms.getD j2.toNat 0)).toNat))]) (by repeat (first | exact trivial | refine And.intro rfl ?_)) ⟨by rw [e1']; exact F, by omega, by omega, by rw [List.length_append, hpre, e1']; rfl, by omega, by omega, by rw [e1']; exact hvals⟩ (by first | omega | (simp only; omega)))
      replace hc27 := of_decide_eq_false ((irr_eq _).symm.trans hc27)
      have hr : decR sgR bs at_ = (opx, pre, nn, 0) := by
        rw [hdec, hvals, List.drop_of_length_le (by omega), valsR]
        simp only [Option.map_some, List.append_nil]
        rw [show at_ + nn - at_ = nn by omega]
      have hpl : pre.length = kk := by omega
      have hvt : valsTo ms pre j2.toNat = pre := by unfold valsTo; rw [List.drop_of_length_le (by omega)]; simp
      rw [hvt] at F
      refine k_exit ?_
      refine SeqK.et (by assumption) ?_
      refine LoopK.et (by assumption) ?_
      refine BlkK.et (by assumption) ?_
      refine SeqK.nx (by assumption) ?_
      refine k_seq (fun Q K => ?_)
      refine k_lin (fun W K => ?_)
      refine l_ldca F 3 rfl rfl rfl rfl rfl rfl rfl ?_
      refine l_op 0 rfl rfl rfl rfl rfl ?_
      refine l_stca F 1 rfl rfl rfl rfl rfl rfl rfl rfl rfl rfl hD rfl (fun s F => ?_)
      (try dsimp only [n_1, n_2, n_3, n_4, List.append_nil, pk, n_5, n_6] at F)
      refine l_op 0 rfl rfl rfl rfl rfl ?_
      refine l_op 0 rfl rfl rfl rfl rfl ?_
      refine l_nil (WK.nx (by assumption) ?_)
      refine SeqK.nx (by assumption) ?_
      refine k_ret ?_
      first | refine FunK.rtc (by assumption) (res_cell F 0 rfl rfl (by kernel_rfl) (resE_rsv rfl)) ?_ | refine FunK.rtc (by assumption) (res_cell F 1 rfl rfl (by kernel_rfl) (resE_rsv rfl)) ?_ | refine FunK.rtc (by assumption) (res_cell F 2 rfl rfl (by kernel_rfl) (resE_rsv rfl)) ?_ | refine FunK.rtc (by assumption) (res_cell F 3 rfl rfl (by kernel_rfl) (resE_rsv rfl)) ?_ | refine FunK.rtc (by assumption) (res_cell F 4 rfl rfl (by kernel_rfl) (resE_rsv rfl)) ?_ | refine FunK.rtc (by assumption) (res_cell F 5 rfl rfl (by kernel_rfl) (resE_rsv rfl)) ?_ | refine FunK.rtc (by assumption) (res_cell F 6 rfl rfl (by kernel_rfl) (resE_rsv rfl)) ?_ | refine FunK.rtc (by assumption) (res_cell F 7 rfl rfl (by kernel_rfl) (resE_rsv rfl)) ?_
      -- leaf 16
      first
        | (rw [hr]; exact ⟨(none, 0), rfl, F.pick [0] (by decide), trivial⟩)
        | (rw [hr]
           refine ⟨(x, k), ?_, ?_, trivial⟩
           · show _ = Value.tuple #[.agg #[.int .u32 opx, .slice _ pre.length _], _, _]
             rw [hpl]; rfl
           · show Facts _ _ _ [own _ pre.length _ 2 (rows eO pre)]
             rw [hpl]; exact F.pick [4] (by decide))
    first | replace hc19 := ne_of_beq_false ((irr_eq _).symm.trans hc19) | simp only [irr_eq, beq_iff_eq, beq_eq_false_iff_ne, ne_eq, decide_eq_true_eq, decide_eq_false_iff_not] at hc19
    omega
  replace hc3 := of_decide_eq_false ((irr_eq _).symm.trans hc3)
  refine k_skip ?_
  refine SeqK.nx (by assumption) ?_
  refine k_seq (fun Q K => ?_)
  refine k_seq (fun Q K => ?_)
  refine k_lin (fun W K => ?_)
  refine l_op 0 rfl rfl rfl rfl rfl ?_
  refine l_op 0 rfl rfl rfl rfl rfl ?_
  first | refine l_ixi rfl rfl rfl rfl rfl rfl (F.old (by assumption)) (by omega) (fun m38 b38 hA38 => ?_) | (refine l_ixoi F 0 rfl rfl rfl rfl rfl rfl rfl (by omega) (fun m e ha hA38 => ?_); cases ha) | (refine l_ixoi F 1 rfl rfl rfl rfl rfl rfl rfl (by omega) (fun m e ha hA38 => ?_); cases ha) | (refine l_ixoi F 2 rfl rfl rfl rfl rfl rfl rfl (by omega) (fun m e ha hA38 => ?_); cases ha) | (refine l_ixoi F 3 rfl rfl rfl rfl rfl rfl rfl (by omega) (fun m e ha hA38 => ?_); cases ha)
  refine l_ld0 rfl rfl rfl rfl rfl (by assumption) ?_
  refine l_cmp rfl rfl rfl rfl ?_
  refine l_nil (WK.nx (by assumption) ?_)
  refine SeqK.nx (by assumption) ?_
  refine l_cond rfl rfl (fun hc31 => ?_) (fun hc31 => ?_)
  · replace hc31 := of_decide_eq_true ((irr_eq _).symm.trans hc31)
    omega
  replace hc31 := of_decide_eq_false ((irr_eq _).symm.trans hc31)
  refine k_skip ?_
  refine SeqK.nx (by assumption) ?_
  refine k_seq (fun Q K => ?_)
  refine k_seq (fun Q K => ?_)
  refine k_lin (fun W K => ?_)
  refine l_op 0 rfl rfl rfl rfl rfl ?_
  refine l_op 0 rfl rfl rfl rfl rfl ?_
  refine l_op 0 rfl rfl rfl rfl rfl ?_
  refine l_callp F rfl rfl (by kernel_rfl) rfl rfl (there11_call (by omega) (by omega)) (fun y44 s F hy44 => ?_)
  (try dsimp only [n_1, n_2, n_3, n_4, List.append_nil, pk, n_5, n_6] at F)
  refine l_op 2 rfl rfl rfl rfl rfl ?_
  refine l_nil (WK.nx (by assumption) ?_)
  refine SeqK.nx (by assumption) ?_
  refine l_cond rfl rfl (fun hc32 => ?_) (fun hc32 => ?_)
  · try simp only [irr_eq, beq_iff_eq, bne_iff_ne, beq_eq_false_iff_ne, bne_eq_false_iff_eq, ne_eq, decide_eq_true_eq, decide_eq_false_iff_not, Bool.not_eq_true', Bool.not_eq_false'] at hc32
    have hr : decR sgR bs at_ = (0, [], 0, 90) := by
      have hnum : numR bs at_ = none := by
        have hnt : ¬ (at_ ≤ l ∧ _) := fun hh => by rw [hy44.2 hh] at hc32; cases hc32
        unfold numR
        (repeat' split) <;> first | rfl | (exfalso; omega)
      unfold decR; rw [if_neg (by assumption), hnum]
    refine k_seq (fun Q K => ?_)
    refine k_lin (fun W K => ?_)
    refine l_ldca F 2 rfl rfl rfl rfl rfl rfl rfl ?_
    refine l_stca F 1 rfl rfl rfl rfl rfl rfl rfl rfl rfl rfl hD rfl (fun s F => ?_)
    (try dsimp only [n_1, n_2, n_3, n_4, List.append_nil, pk, n_5, n_6] at F)
    refine l_op 0 rfl rfl rfl rfl rfl ?_
    refine l_op 0 rfl rfl rfl rfl rfl ?_
    refine l_nil (WK.nx (by assumption) ?_)
    refine SeqK.nx (by assumption) ?_
    refine k_ret ?_
    refine SeqK.rt (by assumption) ?_
    first | refine FunK.rtc (by assumption) (res_cell F 0 rfl rfl (by kernel_rfl) (resE_rsv rfl)) ?_ | refine FunK.rtc (by assumption) (res_cell F 1 rfl rfl (by kernel_rfl) (resE_rsv rfl)) ?_ | refine FunK.rtc (by assumption) (res_cell F 2 rfl rfl (by kernel_rfl) (resE_rsv rfl)) ?_ | refine FunK.rtc (by assumption) (res_cell F 3 rfl rfl (by kernel_rfl) (resE_rsv rfl)) ?_ | refine FunK.rtc (by assumption) (res_cell F 4 rfl rfl (by kernel_rfl) (resE_rsv rfl)) ?_ | refine FunK.rtc (by assumption) (res_cell F 5 rfl rfl (by kernel_rfl) (resE_rsv rfl)) ?_ | refine FunK.rtc (by assumption) (res_cell F 6 rfl rfl (by kernel_rfl) (resE_rsv rfl)) ?_ | refine FunK.rtc (by assumption) (res_cell F 7 rfl rfl (by kernel_rfl) (resE_rsv rfl)) ?_
    -- leaf 17
    first
      | (rw [hr]; exact ⟨(none, 0), rfl, F.pick [0] (by decide), trivial⟩)
      | (rw [hr]
         refine ⟨(x, k), ?_, ?_, trivial⟩
         · show _ = Value.tuple #[.agg #[.int .u32 opx, .slice _ pre.length _], _, _]
           rw [hpl]; rfl
         · show Facts _ _ _ [own _ pre.length _ 2 (rows eO pre)]
           rw [hpl]; exact F.pick [4] (by decide))
  try simp only [irr_eq, beq_iff_eq, bne_iff_ne, beq_eq_false_iff_ne, bne_eq_false_iff_eq, ne_eq, decide_eq_true_eq, decide_eq_false_iff_not, Bool.not_eq_true', Bool.not_eq_false'] at hc32
  have hth2 := hy44.1 (by assumption)
  refine k_skip ?_
  refine SeqK.nx (by assumption) ?_
  refine k_seq (fun Q K => ?_)
  refine k_lin (fun W K => ?_)
  refine l_op 0 rfl rfl rfl rfl rfl ?_
  refine l_op 0 rfl rfl rfl rfl rfl ?_
  refine l_op 0 rfl rfl rfl rfl rfl ?_
  first
    | (have hbc := rbe_call (σ := s) (at_ := at_) (n := 1) (Old.pure (F.old h)) hB (by omega)
       rw [beV_ok (by omega) (by omega), show (1 : Int).toNat = 1 from rfl] at hbc
       refine l_callp F rfl rfl (by kernel_rfl) rfl rfl hbc (fun _ s F _ => ?_))
    | (have hbc := rbe_call (σ := s) (at_ := at_) (n := 2) (Old.pure (F.old h)) hB (by omega)
       rw [beV_ok (by omega) (by omega), show (2 : Int).toNat = 2 from rfl] at hbc
       refine l_callp F rfl rfl (by kernel_rfl) rfl rfl hbc (fun _ s F _ => ?_))
    | (have hbc := rbe_call (σ := s) (at_ := at_) (n := 4) (Old.pure (F.old h)) hB (by omega)
       rw [beV_ok (by omega) (by omega), show (4 : Int).toNat = 4 from rfl] at hbc
       refine l_callp F rfl rfl (by kernel_rfl) rfl rfl hbc (fun _ s F _ => ?_))
  (try dsimp only [n_1, n_2, n_3, n_4, List.append_nil, pk, n_5, n_6] at F)
  refine l_op 0 rfl rfl rfl rfl rfl ?_
  refine l_op 2 rfl rfl rfl rfl rfl ?_
  refine l_op 2 rfl rfl rfl rfl rfl ?_
  refine l_op 0 rfl rfl rfl rfl rfl ?_
  refine l_op 0 rfl rfl rfl rfl rfl ?_
  refine l_nil (WK.nx (by assumption) ?_)
  refine SeqK.nx (by assumption) ?_
  refine k_seq (fun Q K => ?_)
  refine k_seq (fun Q K => ?_)
  refine k_lin (fun W K => ?_)
  refine l_op 0 rfl rfl rfl rfl rfl ?_
  refine l_cmp rfl rfl rfl rfl ?_
  refine l_nil (WK.nx (by assumption) ?_)
  refine SeqK.nx (by assumption) ?_
  refine l_cond rfl rfl (fun hc33 => ?_) (fun hc33 => ?_)
  · first | replace hc33 := eq_of_beq ((irr_eq _).symm.trans hc33) | simp only [irr_eq, beq_iff_eq, beq_eq_false_iff_ne, ne_eq, decide_eq_true_eq, decide_eq_false_iff_not] at hc33
    omega
  first | replace hc33 := ne_of_beq_false ((irr_eq _).symm.trans hc33) | simp only [irr_eq, beq_iff_eq, beq_eq_false_iff_ne, ne_eq, decide_eq_true_eq, decide_eq_false_iff_not] at hc33
  refine k_skip ?_
  refine SeqK.nx (by assumption) ?_
  refine k_seq (fun Q K => ?_)
  refine k_seq (fun Q K => ?_)
  refine k_lin (fun W K => ?_)
  refine l_op 0 rfl rfl rfl rfl rfl ?_
  refine l_cmp rfl rfl rfl rfl ?_
  refine l_nil (WK.nx (by assumption) ?_)
  refine SeqK.nx (by assumption) ?_
  refine l_cond rfl rfl (fun hc34 => ?_) (fun hc34 => ?_)
  · first | replace hc34 := eq_of_beq ((irr_eq _).symm.trans hc34) | simp only [irr_eq, beq_iff_eq, beq_eq_false_iff_ne, ne_eq, decide_eq_true_eq, decide_eq_false_iff_not] at hc34
    omega
  first | replace hc34 := ne_of_beq_false ((irr_eq _).symm.trans hc34) | simp only [irr_eq, beq_iff_eq, beq_eq_false_iff_ne, ne_eq, decide_eq_true_eq, decide_eq_false_iff_not] at hc34
  refine k_skip ?_
  refine SeqK.nx (by assumption) ?_
  refine k_seq (fun Q K => ?_)
  refine k_lin (fun W K => ?_)
  refine l_op 0 rfl rfl rfl rfl rfl ?_
  first
    | (have hnum : numR bs at_ = some (be bs at_.toNat 1, 1) := by unfold numR; rw [if_neg (by omega), if_neg (by omega), if_neg (by omega)]
       have hop : U32 (be bs at_.toNat 1) := ⟨by omega, by omega⟩
       refine l_callp F rfl rfl (by kernel_rfl) rfl rfl (rsig_call hop) (fun _ s F _ => ?_)
       obtain ⟨opx, hopx⟩ : ∃ o, o = be bs at_.toNat 1 := ⟨_, rfl⟩
       rw [← hopx] at hnum hop ⊢)
    | (have hnum : numR bs at_ = some (be bs at_.toNat 2 - 32768, 2) := by unfold numR; rw [if_neg (by omega), if_neg (by omega), if_pos (by omega), if_neg (by omega)]
       have hop : U32 (be bs at_.toNat 2 - 32768) := ⟨by omega, by omega⟩
       refine l_callp F rfl rfl (by kernel_rfl) rfl rfl (rsig_call hop) (fun _ s F _ => ?_)
       obtain ⟨opx, hopx⟩ : ∃ o, o = be bs at_.toNat 2 - 32768 := ⟨_, rfl⟩
       rw [← hopx] at hnum hop ⊢)
    | (have hnum : numR bs at_ = some (be bs at_.toNat 4 - 3221225472, 4) := by unfold numR; rw [if_neg (by omega), if_pos (by omega), if_neg (by omega)]
       have hop : U32 (be bs at_.toNat 4 - 3221225472) := ⟨by omega, by omega⟩
       refine l_callp F rfl rfl (by kernel_rfl) rfl rfl (rsig_call hop) (fun _ s F _ => ?_)
       obtain ⟨opx, hopx⟩ : ∃ o, o = be bs at_.toNat 4 - 3221225472 := ⟨_, rfl⟩
       rw [← hopx] at hnum hop ⊢)
  (try dsimp only [n_1, n_2, n_3, n_4, List.append_nil, pk, n_5, n_6] at F)
  have hs8 := sig_size opx
  generalize hS : sigP opx = sp at hs8 ⊢
  refine l_op 0 rfl rfl rfl rfl rfl ?_
  refine l_op 2 rfl rfl rfl rfl rfl ?_
  refine l_op 2 rfl rfl rfl rfl rfl ?_
  refine l_op 0 rfl rfl rfl rfl rfl ?_
  refine l_op 0 rfl rfl rfl rfl rfl ?_
  refine l_nil (WK.nx (by assumption) ?_)
  refine SeqK.nx (by assumption) ?_
  refine k_seq (fun Q K => ?_)
  refine k_seq (fun Q K => ?_)
  refine k_lin (fun W K => ?_)
  refine l_op 0 rfl rfl rfl rfl rfl ?_
  refine l_op 2 rfl rfl rfl rfl rfl ?_
  refine l_nil (WK.nx (by assumption) ?_)
  refine SeqK.nx (by assumption) ?_
  refine l_cond rfl rfl (fun hc35 => ?_) (fun hc35 => ?_)
  · try simp only [irr_eq, beq_iff_eq, bne_iff_ne, beq_eq_false_iff_ne, bne_eq_false_iff_eq, ne_eq, decide_eq_true_eq, decide_eq_false_iff_not, Bool.not_eq_true', Bool.not_eq_false'] at hc35
    have hr : decR sgR bs at_ = (0, [], 0, 110) := by
      have hsg : sgR opx = none := by unfold sgR; rw [hS, if_neg (by simp_all)]
      unfold decR; rw [if_neg (by assumption), hnum]
      simp only [hsg]
    refine k_seq (fun Q K => ?_)
    refine k_lin (fun W K => ?_)
    refine l_ldca F 2 rfl rfl rfl rfl rfl rfl rfl ?_
    refine l_stca F 1 rfl rfl rfl rfl rfl rfl rfl rfl rfl rfl hD rfl (fun s F => ?_)
    (try dsimp only [n_1, n_2, n_3, n_4, List.append_nil, pk, n_5, n_6] at F)
    refine l_op 0 rfl rfl rfl rfl rfl ?_
    refine l_op 0 rfl rfl rfl rfl rfl ?_
    refine l_nil (WK.nx (by assumption) ?_)
    refine SeqK.nx (by assumption) ?_
    refine k_ret ?_
    refine SeqK.rt (by assumption) ?_
    first | refine FunK.rtc (by assumption) (res_cell F 0 rfl rfl (by kernel_rfl) (resE_rsv rfl)) ?_ | refine FunK.rtc (by assumption) (res_cell F 1 rfl rfl (by kernel_rfl) (resE_rsv rfl)) ?_ | refine FunK.rtc (by assumption) (res_cell F 2 rfl rfl (by kernel_rfl) (resE_rsv rfl)) ?_ | refine FunK.rtc (by assumption) (res_cell F 3 rfl rfl (by kernel_rfl) (resE_rsv rfl)) ?_ | refine FunK.rtc (by assumption) (res_cell F 4 rfl rfl (by kernel_rfl) (resE_rsv rfl)) ?_ | refine FunK.rtc (by assumption) (res_cell F 5 rfl rfl (by kernel_rfl) (resE_rsv rfl)) ?_ | refine FunK.rtc (by assumption) (res_cell F 6 rfl rfl (by kernel_rfl) (resE_rsv rfl)) ?_ | refine FunK.rtc (by assumption) (res_cell F 7 rfl rfl (by kernel_rfl) (resE_rsv rfl)) ?_
    -- leaf 18
    first
      | (rw [hr]; exact ⟨(none, 0), rfl, F.pick [0] (by decide), trivial⟩)
      | (rw [hr]
         refine ⟨(x, k), ?_, ?_, trivial⟩
         · show _ = Value.tuple #[.agg #[.int .u32 opx, .slice _ pre.length _], _, _]
           rw [hpl]; rfl
         · show Facts _ _ _ [own _ pre.length _ 2 (rows eO pre)]
           rw [hpl]; exact F.pick [4] (by decide))
  try simp only [irr_eq, beq_iff_eq, bne_iff_ne, beq_eq_false_iff_ne, bne_eq_false_iff_eq, ne_eq, decide_eq_true_eq, decide_eq_false_iff_not, Bool.not_eq_true', Bool.not_eq_false'] at hc35
  have hsg : sgR opx = some (ltr sp.1) := by unfold sgR; rw [hS, if_pos (by simp_all)]
  obtain ⟨kk, hkk⟩ : ∃ kk, sp.1.size = kk := ⟨_, rfl⟩
  have hsl : (ltr sp.1).length = kk := by rw [ltr_length, hkk]
  have hd0 := dec_at (sg := sgR) (bs := bs) (at_ := at_) (by assumption) hnum hsg
  rw [hsl] at hd0
  refine k_skip ?_
  refine SeqK.nx (by assumption) ?_
  refine k_seq (fun Q K => ?_)
  refine k_lin (fun W K => ?_)
  refine l_op 0 rfl rfl rfl rfl rfl ?_
  refine l_ln rfl rfl rfl rfl ?_
  rw [hkk]
  refine l_a64 rfl rfl rfl (by omega) rfl ?_
  first | refine l_quon rfl rfl rfl rfl rfl (by omega) rfl ?_ | refine l_quou64 rfl rfl rfl rfl rfl (by omega) rfl ?_ | refine l_quou32 rfl rfl rfl rfl rfl (by omega) rfl ?_ | refine l_quo rfl rfl rfl rfl rfl (by omega) rfl ?_
  refine l_op 0 rfl rfl rfl rfl rfl ?_
  refine l_nil (WK.nx (by assumption) ?_)
  refine SeqK.nx (by assumption) ?_
  refine k_seq (fun Q K => ?_)
  refine k_seq (fun Q K => ?_)
  refine k_lin (fun W K => ?_)
  refine l_op 0 rfl rfl rfl rfl rfl ?_
  refine l_op 0 rfl rfl rfl rfl rfl ?_
  refine l_op 0 rfl rfl rfl rfl rfl ?_
  refine l_op 0 rfl rfl rfl rfl rfl ?_
  refine l_a64 rfl rfl rfl (by omega) rfl ?_
  refine l_callp F rfl rfl (by kernel_rfl) rfl rfl (there11_call (by omega) (by omega)) (fun y79 s F hy79 => ?_)
  (try dsimp only [n_1, n_2, n_3, n_4, List.append_nil, pk, n_5, n_6] at F)
  refine l_op 2 rfl rfl rfl rfl rfl ?_
  refine l_nil (WK.nx (by assumption) ?_)
  refine SeqK.nx (by assumption) ?_
  refine l_cond rfl rfl (fun hc36 => ?_) (fun hc36 => ?_)
  · try simp only [irr_eq, beq_iff_eq, bne_iff_ne, beq_eq_false_iff_ne, bne_eq_false_iff_eq, ne_eq, decide_eq_true_eq, decide_eq_false_iff_not, Bool.not_eq_true', Bool.not_eq_false'] at hc36
    have hr : decR sgR bs at_ = (0, [], 0, 90) := by
      have hnt : ¬ (at_ ≤ l ∧ at_ + _ ≤ l) := fun hh => by rw [hy79.2 hh] at hc36; cases hc36
      rw [hd0, if_pos (by omega)]
    refine k_seq (fun Q K => ?_)
    refine k_lin (fun W K => ?_)
    refine l_ldca F 2 rfl rfl rfl rfl rfl rfl rfl ?_
    refine l_stca F 1 rfl rfl rfl rfl rfl rfl rfl rfl rfl rfl hD rfl (fun s F => ?_)
    (try dsimp only [n_1, n_2, n_3, n_4, List.append_nil, pk, n_5, n_6] at F)
    refine l_op 0 rfl rfl rfl rfl rfl ?_
    refine l_op 0 rfl rfl rfl rfl rfl ?_
    refine l_nil (WK.nx (by assumption) ?_)
    refine SeqK.nx (by assumption) ?_
    refine k_ret ?_
    refine SeqK.rt (by assumption) ?_
    first | refine FunK.rtc (by assumption) (res_cell F 0 rfl rfl (by kernel_rfl) (resE_rsv rfl)) ?_ | refine FunK.rtc (by assumption) (res_cell F 1 rfl rfl (by kernel_rfl) (resE_rsv rfl)) ?_ | refine FunK.rtc (by assumption) (res_cell F 2 rfl rfl (by kernel_rfl) (resE_rsv rfl)) ?_ | refine FunK.rtc (by assumption) (res_cell F 3 rfl rfl (by kernel_rfl) (resE_rsv rfl)) ?_ | refine FunK.rtc (by assumption) (res_cell F 4 rfl rfl (by kernel_rfl) (resE_rsv rfl)) ?_ | refine FunK.rtc (by assumption) (res_cell F 5 rfl rfl (by kernel_rfl) (resE_rsv rfl)) ?_ | refine FunK.rtc (by assumption) (res_cell F 6 rfl rfl (by kernel_rfl) (resE_rsv rfl)) ?_ | refine FunK.rtc (by assumption) (res_cell F 7 rfl rfl (by kernel_rfl) (resE_rsv rfl)) ?_
    -- leaf 19
    first
      | (rw [hr]; exact ⟨(none, 0), rfl, F.pick [0] (by decide), trivial⟩)
      | (rw [hr]
         refine ⟨(x, k), ?_, ?_, trivial⟩
         · show _ = Value.tuple #[.agg #[.int .u32 opx, .slice _ pre.length _], _, _]
           rw [hpl]; rfl
         · show Facts _ _ _ [own _ pre.length _ 2 (rows eO pre)]
           rw [hpl]; exact F.pick [4] (by decide))
  try simp only [irr_eq, beq_iff_eq, bne_iff_ne, beq_eq_false_iff_ne, bne_eq_false_iff_eq, ne_eq, decide_eq_true_eq, decide_eq_false_iff_not, Bool.not_eq_true', Bool.not_eq_false'] at hc36
  have hth3 := hy79.1 (by assumption)
  refine k_skip ?_
  refine SeqK.nx (by assumption) ?_
  refine k_seq (fun Q K => ?_)
  refine k_lin (fun W K => ?_)
  refine l_op 0 rfl rfl rfl rfl rfl ?_
  refine l_bld rfl rfl rfl rfl ?_
  refine l_al F rfl rfl rfl rfl (fun q14 s F => ?_)
  (try dsimp only [n_1, n_2, n_3, n_4, List.append_nil, pk, n_5, n_6] at F)
  refine l_stca F 3 rfl rfl rfl rfl rfl rfl rfl rfl rfl rfl hD rfl (fun s F => ?_)
  (try dsimp only [n_1, n_2, n_3, n_4, List.append_nil, pk, n_5, n_6] at F)
  refine l_nil (WK.nx (by assumption) ?_)
  refine SeqK.nx (by assumption) ?_
  refine k_seq (fun Q K => ?_)
  refine k_seq (fun Q K => ?_)
  refine k_lin (fun W K => ?_)
  refine l_op 0 rfl rfl rfl rfl rfl ?_
  refine l_nil (WK.nx (by assumption) ?_)
  refine SeqK.nx (by assumption) ?_
  refine k_block (fun Q K => ?_)
  have F := F.nilrow 2
  clear hd0
  first
    | refine k_loop (α := Int × Option Addr × Nat × Int) (fun ⟨i, x, k, n⟩ s => Facts E0 σ s [own none 0 0 2 [], cel q4 [.int .u32 0, .slice none 0 0], cel q7 [.int .u32 0, .slice none 0 0], cel q14 [.int .u32 opx, .slice x i.toNat k], own x i.toNat k 2 (rows eO (((modesR bs (at_ + n) kk).take i.toNat).map fun m => (m, 0)))] ∧ 0 ≤ i ∧ i ≤ kk ∧ numR bs at_ = some (opx, n) ∧ at_ + (n + (((kk : Nat) : Int) + 1) / 2) ≤ l ∧ ∀ j : Nat, j < i → mayR ((ltr sp.1).getD j 0) ((modesR bs (at_ + n) kk).getD j 0) = true) (fun ⟨i, x, k, n⟩ => [(0, .slice a l c), (1, .int .i64 at_), (4, .pointer (some ⟨q4, 0, none⟩)), (7, .pointer (some ⟨q7, 0, none⟩)), (8, .int .i64 n), (11, .string sp.1), (13, .int .i64 ((((kk : Nat) : Int) + 1) / 2)), (14, .pointer (some ⟨q14, 0, none⟩)), (15, .int .i64 i)]) (fun ⟨i, _⟩ => (kk - i).toNat) (0, none, 0, 1) ⟨F, by omega, by omega, hnum, by omega, fun j hj => by omega⟩ (by repeat (first | exact trivial | refine And.intro rfl ?_)) ?_
    | refine k_loop (α := Int × Option Addr × Nat × Int) (fun ⟨i, x, k, n⟩ s => Facts E0 σ s [own none 0 0 2 [], cel q4 [.int .u32 0, .slice none 0 0], cel q7 [.int .u32 0, .slice none 0 0], cel q14 [.int .u32 opx, .slice x i.toNat k], own x i.toNat k 2 (rows eO (((modesR bs (at_ + n) kk).take i.toNat).map fun m => (m, 0)))] ∧ 0 ≤ i ∧ i ≤ kk ∧ numR bs at_ = some (opx, n) ∧ at_ + (n + (((kk : Nat) : Int) + 1) / 2) ≤ l ∧ ∀ j : Nat, j < i → mayR ((ltr sp.1).getD j 0) ((modesR bs (at_ + n) kk).getD j 0) = true) (fun ⟨i, x, k, n⟩ => [(0, .slice a l c), (1, .int .i64 at_), (4, .pointer (some ⟨q4, 0, none⟩)), (7, .pointer (some ⟨q7, 0, none⟩)), (8, .int .i64 n), (11, .string sp.1), (13, .int .i64 ((((kk : Nat) : Int) + 1) / 2)), (14, .pointer (some ⟨q14, 0, none⟩)), (15, .int .i64 i)]) (fun ⟨i, _⟩ => (kk - i).toNat) (0, none, 0, 2) ⟨F, by omega, by omega, hnum, by omega, fun j hj => by omega⟩ (by repeat (first | exact trivial | refine And.intro rfl ?_)) ?_
    | refine k_loop (α := Int × Option Addr × Nat × Int) (fun ⟨i, x, k, n⟩ s => Facts E0 σ s [own none 0 0 2 [], cel q4 [.int .u32 0, .slice none 0 0], cel q7 [.int .u32 0, .slice none 0 0], cel q14 [.int .u32 opx, .slice x i.toNat k], own x i.toNat k 2 (rows eO (((modesR bs (at_ + n) kk).take i.toNat).map fun m => (m, 0)))] ∧ 0 ≤ i ∧ i ≤ kk ∧ numR bs at_ = some (opx, n) ∧ at_ + (n + (((kk : Nat) : Int) + 1) / 2) ≤ l ∧ ∀ j : Nat, j < i → mayR ((ltr sp.1).getD j 0) ((modesR bs (at_ + n) kk).getD j 0) = true) (fun ⟨i, x, k, n⟩ => [(0, .slice a l c), (1, .int .i64 at_), (4, .pointer (some ⟨q4, 0, none⟩)), (7, .pointer (some ⟨q7, 0, none⟩)), (8, .int .i64 n), (11, .string sp.1), (13, .int .i64 ((((kk : Nat) : Int) + 1) / 2)), (14, .pointer (some ⟨q14, 0, none⟩)), (15, .int .i64 i)]) (fun ⟨i, _⟩ => (kk - i).toNat) (0, none, 0, 4) ⟨F, by omega, by omega, hnum, by omega, fun j hj => by omega⟩ (by repeat (first | exact trivial | refine And.intro rfl ?_)) ?_
  clear F hnum
  rintro ⟨i, x, k, n⟩ env s Q K0 ⟨F, i0, i1, hnum, hfit, hmay⟩
  obtain ⟨hop2, hn1, hn4, hnl⟩ := num_bd hB hnum
  have hdec := dec_at (sg := sgR) (bs := bs) (at_ := at_) (by assumption) hnum hsg
  rw [hsl, if_neg (by omega)] at hdec
  obtain ⟨ms, hms⟩ : ∃ ms, modesR bs (at_ + n) kk = ms := ⟨_, rfl⟩
  rw [hms] at hdec hmay F
  have hml : ms.length = kk := by rw [← hms, modes_len]
  refine k_seq (fun Q K => ?_)
  refine k_seq (fun Q K => ?_)
  refine k_lin (fun W K => ?_)
  refine l_op 0 rfl rfl rfl rfl rfl ?_
  refine l_op 0 rfl rfl rfl rfl rfl ?_
  refine l_ln rfl rfl rfl rfl ?_
  rw [hkk]
  refine l_cmp rfl rfl rfl rfl ?_
  refine l_nil (WK.nx (by assumption) ?_)
  refine SeqK.nx (by assumption) ?_
  refine l_cond rfl rfl (fun hc37 => ?_) (fun hc37 => ?_)
  · replace hc37 := of_decide_eq_true ((irr_eq _).symm.trans hc37)
    have hbb := hB.at (at_ + n + i / 2).toNat
    refine k_skip ?_
    refine SeqK.nx (by assumption) ?_
    refine k_seq (fun Q K => ?_)
    refine k_block (fun Q K => ?_)
    refine k_seq (fun Q K => ?_)
    refine k_lin (fun W K => ?_)
    refine l_op 0 rfl rfl rfl rfl rfl ?_
    refine l_op 0 rfl rfl rfl rfl rfl ?_
    refine l_op 0 rfl rfl rfl rfl rfl ?_
    refine l_a64 rfl rfl rfl (by omega) rfl ?_
    refine l_op 0 rfl rfl rfl rfl rfl ?_
    first | refine l_quon rfl rfl rfl rfl rfl (by omega) rfl ?_ | refine l_quou64 rfl rfl rfl rfl rfl (by omega) rfl ?_ | refine l_quou32 rfl rfl rfl rfl rfl (by omega) rfl ?_ | refine l_quo rfl rfl rfl rfl rfl (by omega) rfl ?_
    refine l_a64 rfl rfl rfl (by omega) rfl ?_
    first | refine l_ixi rfl rfl rfl rfl rfl rfl (F.old (by assumption)) (by omega) (fun m97 b97 hA97 => ?_) | (refine l_ixoi F 0 rfl rfl rfl rfl rfl rfl rfl (by omega) (fun m e ha hA97 => ?_); cases ha) | (refine l_ixoi F 1 rfl rfl rfl rfl rfl rfl rfl (by omega) (fun m e ha hA97 => ?_); cases ha) | (refine l_ixoi F 2 rfl rfl rfl rfl rfl rfl rfl (by omega) (fun m e ha hA97 => ?_); cases ha) | (refine l_ixoi F 3 rfl rfl rfl rfl rfl rfl rfl (by omega) (fun m e ha hA97 => ?_); cases ha)
    refine l_ld0 rfl rfl rfl rfl rfl (by assumption) ?_
    refine l_c64 rfl rfl rfl (by omega) rfl ?_
    refine l_op 0 rfl rfl rfl rfl rfl ?_
    refine l_nil (WK.nx (by assumption) ?_)
    refine SeqK.nx (by assumption) ?_
    refine k_seq (fun Q K => ?_)
    refine k_seq (fun Q K => ?_)
    refine k_lin (fun W K => ?_)
    refine l_op 0 rfl rfl rfl rfl rfl ?_
    first | refine l_remn rfl rfl rfl rfl rfl (by omega) rfl ?_ | refine l_rem rfl rfl rfl rfl rfl (by omega) rfl ?_
    refine l_cmp rfl rfl rfl rfl ?_
    refine l_nil (WK.nx (by assumption) ?_)
    refine SeqK.nx (by assumption) ?_
    refine l_cond rfl rfl (fun hc38 => ?_) (fun hc38 => ?_)
    · first | replace hc38 := eq_of_beq ((irr_eq _).symm.trans hc38) | simp only [irr_eq, beq_iff_eq, beq_eq_false_iff_ne, ne_eq, decide_eq_true_eq, decide_eq_false_iff_not] at hc38
      have hnb := nib_odd (bs := bs) (p := at_ + n) i0 hc38
      rw [← modes_at (bs := bs) (p := at_ + n) (k := kk) (i := i.toNat) (by omega), hms] at hnb
      refine k_lin (fun W K => ?_)
      refine l_op 0 rfl rfl rfl rfl rfl ?_
      first | refine l_quon rfl rfl rfl rfl rfl (by omega) rfl ?_ | refine l_quou64 rfl rfl rfl rfl rfl (by omega) rfl ?_ | refine l_quou32 rfl rfl rfl rfl rfl (by omega) rfl ?_ | refine l_quo rfl rfl rfl rfl rfl (by omega) rfl ?_
      refine l_op 0 rfl rfl rfl rfl rfl ?_
      refine l_nil (WK.nx (by assumption) ?_)
      refine SeqK.nx (by assumption) ?_
      refine k_seq (fun Q K => ?_)
      refine k_lin (fun W K => ?_)
      refine l_op 0 rfl rfl rfl rfl rfl ?_
      refine l_remn rfl rfl rfl rfl rfl (by omega) rfl ?_
      rw [hnb]
      refine l_op 0 rfl rfl rfl rfl rfl ?_
      refine l_nil (WK.nx (by assumption) ?_)
      refine SeqK.nx (by assumption) ?_
      refine k_seq (fun Q K => ?_)
      refine k_seq (fun Q K => ?_)
      refine k_lin (fun W K => ?_)
      refine l_op 0 rfl rfl rfl rfl rfl ?_
      refine l_op 0 rfl rfl rfl rfl rfl ?_
      refine l_sx rfl rfl rfl rfl rfl (by omega) ?_
      refine l_op 0 rfl rfl rfl rfl rfl ?_
      refine l_callp F rfl rfl (by kernel_rfl) rfl rfl rmay_call (fun _ s F _ => ?_)
      (try dsimp only [n_1, n_2, n_3, n_4, List.append_nil, pk, n_5, n_6] at F)
      refine l_op 2 rfl rfl rfl rfl rfl ?_
      refine l_nil (WK.nx (by assumption) ?_)
      refine SeqK.nx (by assumption) ?_
      refine l_cond rfl rfl (fun hc39 => ?_) (fun hc39 => ?_)
      · try simp only [irr_eq, beq_iff_eq, bne_iff_ne, beq_eq_false_iff_ne, bne_eq_false_iff_eq, ne_eq, decide_eq_true_eq, decide_eq_false_iff_not, Bool.not_eq_true', Bool.not_eq_false'] at hc39
        have hr : decR sgR bs at_ = (0, [], 0, 111) := by
          rw [hdec, allMay_not _ ms i.toNat (by omega) (by omega) hc39, if_pos rfl]
        refine k_seq (fun Q K => ?_)
        refine k_lin (fun W K => ?_)
        refine l_ldca F 2 rfl rfl rfl rfl rfl rfl rfl ?_
        refine l_stca F 1 rfl rfl rfl rfl rfl rfl rfl rfl rfl rfl hD rfl (fun s F => ?_)
        (try dsimp only [n_1, n_2, n_3, n_4, List.append_nil, pk, n_5, n_6] at F)
        refine l_op 0 rfl rfl rfl rfl rfl ?_
        refine l_op 0 rfl rfl rfl rfl rfl ?_
        refine l_nil (WK.nx (by assumption) ?_)
        refine SeqK.nx (by assumption) ?_
        refine k_ret ?_
        refine SeqK.rt (by assumption) ?_
        refine BlkK.rt (by assumption) ?_
        refine SeqK.rt (by assumption) ?_
        refine LoopK.rt (by assumption) ?_
        refine BlkK.rt (by assumption) ?_
        refine SeqK.rt (by assumption) ?_
        first | refine FunK.rtc (by assumption) (res_cell F 0 rfl rfl (by kernel_rfl) (resE_rsv rfl)) ?_ | refine FunK.rtc (by assumption) (res_cell F 1 rfl rfl (by kernel_rfl) (resE_rsv rfl)) ?_ | refine FunK.rtc (by assumption) (res_cell F 2 rfl rfl (by kernel_rfl) (resE_rsv rfl)) ?_ | refine FunK.rtc (by assumption) (res_cell F 3 rfl rfl (by kernel_rfl) (resE_rsv rfl)) ?_ | refine FunK.rtc (by assumption) (res_cell F 4 rfl rfl (by kernel_rfl) (resE_rsv rfl)) ?_ | refine FunK.rtc (by assumption) (res_cell F 5 rfl rfl (by kernel_rfl) (resE_rsv rfl)) ?_ | refine FunK.rtc (by assumption) (res_cell F 6 rfl rfl (by kernel_rfl) (resE_rsv rfl)) ?_ | refine FunK.rtc (by assumption) (res_cell F 7 rfl rfl (by kernel_rfl) (resE_rsv rfl)) ?_
        -- leaf 20
        first
          | (rw [hr]; exact ⟨(none, 0), rfl, F.pick [0] (by decide), trivial⟩)
          | (rw [hr]
             refine ⟨(x, k), ?_, ?_, trivial⟩
             · show _ = Value.tuple #[.agg #[.int .u32 opx, .slice _ pre.length _], _, _]
               rw [hpl]; rfl
             · show Facts _ _ _ [own _ pre.length _ 2 (rows eO pre)]
               rw [hpl]; exact F.pick [4] (by decide))
      try simp only [irr_eq, beq_iff_eq, bne_iff_ne, beq_eq_false_iff_ne, bne_eq_false_iff_eq, ne_eq, decide_eq_true_eq, decide_eq_false_iff_not, Bool.not_eq_true', Bool.not_eq_false'] at hc39
      refine k_skip ?_
      refine SeqK.nx (by assumption) ?_
      refine k_lin (fun W K => ?_)
      refine l_op 2 rfl rfl rfl rfl rfl ?_
      refine l_ldc F 3 rfl rfl rfl rfl rfl rfl rfl ?_
      refine l_op 0 rfl rfl rfl rfl rfl ?_
      refine l_bld rfl rfl rfl rfl ?_
      refine l_lit (k := 2) F rfl rfl rfl rfl (fun q118 s F => ?_)
      (try dsimp only [n_1, n_2, n_3, n_4, List.append_nil, pk, n_5, n_6] at F)
      refine l_app (es := 2) (ns := rows eO [(ms.getD i.toNat 0, 0)]) F 4 rfl rfl rfl rfl rfl rfl rfl (F.has 5 rfl) (eO_one [(ms.getD i.toNat 0, 0)]) rfl (by omega) hD (fun x119 c119 s F => ?_)
      (try dsimp only [n_1, n_2, n_3, n_4, List.append_nil, pk, n_5, n_6] at F)
      rw [nibs_take (by omega)] at F
      refine l_op 2 rfl rfl rfl rfl rfl ?_
      refine l_stc F 3 rfl rfl rfl rfl rfl rfl rfl rfl rfl hD (fun s F => ?_)
      (try dsimp only [n_1, n_2, n_3, n_4, List.append_nil, pk, n_5, n_6] at F)
      refine l_nil (WK.nx (by assumption) ?_)
      refine BlkK.nx (by assumption) ?_
      refine SeqK.nx (by assumption) ?_
      refine k_lin (fun W K => ?_)
      refine l_op 0 rfl rfl rfl rfl rfl ?_
      refine l_a64 rfl rfl rfl (by omega) rfl ?_
      refine l_op 0 rfl rfl rfl rfl rfl ?_
      refine l_nil (WK.nx (by assumption) ?_)
      have e1' : (i + 1).toNat = i.toNat + 1 := by omega
      exact K0.nx (i + 1, x119, c119, n) (by repeat (first | exact trivial | refine And.intro rfl ?_)) ⟨by rw [hms, e1']; exact F.pick [0, 1, 2, 3, 4] (by decide), by omega, by omega, hnum, hfit, fun j hj => by
        rw [hms]
        by_cases hji : (j : Int) < i
        · exact hmay j hji
        · have : j = i.toNat := by omega
          rw [this]; assumption⟩ (by first | omega | (simp only; omega))
    first | replace hc38 := ne_of_beq_false ((irr_eq _).symm.trans hc38) | simp only [irr_eq, beq_iff_eq, beq_eq_false_iff_ne, ne_eq, decide_eq_true_eq, decide_eq_false_iff_not] at hc38
    have hnb := nib_even (bs := bs) (p := at_ + n) i0 hc38
    rw [← modes_at (bs := bs) (p := at_ + n) (k := kk) (i := i.toNat) (by omega), hms] at hnb
    refine k_skip ?_
    refine SeqK.nx (by assumption) ?_
    refine k_seq (fun Q K => ?_)
    refine k_lin (fun W K => ?_)
    refine l_op 0 rfl rfl rfl rfl rfl ?_
    refine l_remn rfl rfl rfl rfl rfl (by omega) rfl ?_
    rw [hnb]
    refine l_op 0 rfl rfl rfl rfl rfl ?_
    refine l_nil (WK.nx (by assumption) ?_)
    refine SeqK.nx (by assumption) ?_
    refine k_seq (fun Q K => ?_)
    refine k_seq (fun Q K => ?_)
    refine k_lin (fun W K => ?_)
    refine l_op 0 rfl rfl rfl rfl rfl ?_
    refine l_op 0 rfl rfl rfl rfl rfl ?_
    refine l_sx rfl rfl rfl rfl rfl (by omega) ?_
    refine l_op 0 rfl rfl rfl rfl rfl ?_
    refine l_callp F rfl rfl (by kernel_rfl) rfl rfl rmay_call (fun _ s F _ => ?_)
    (try dsimp only [n_1, n_2, n_3, n_4, List.append_nil, pk, n_5, n_6] at F)
    refine l_op 2 rfl rfl rfl rfl rfl ?_
    refine l_nil (WK.nx (by assumption) ?_)
    refine SeqK.nx (by assumption) ?_
    refine l_cond rfl rfl (fun hc40 => ?_) (fun hc40 => ?_)
    · try simp only [irr_eq, beq_iff_eq, bne_iff_ne, beq_eq_false_iff_ne, bne_eq_false_iff_eq, ne_eq, decide_eq_true_eq, decide_eq_false_iff_not, Bool.not_eq_true', Bool.not_eq_false'] at hc40
      have hr : decR sgR bs at_ = (0, [], 0, 111) := by
        rw [hdec, allMay_not _ ms i.toNat (by omega) (by omega) hc40, if_pos rfl]
      refine k_seq (fun Q K => ?_)
      refine k_lin (fun W K => ?_)
      refine l_ldca F 2 rfl rfl rfl rfl rfl rfl rfl ?_
      refine l_stca F 1 rfl rfl rfl rfl rfl rfl rfl rfl rfl rfl hD rfl (fun s F => ?_)
      (try dsimp only [n_1, n_2, n_3, n_4, List.append_nil, pk, n_5, n_6] at F)
      refine l_op 0 rfl rfl rfl rfl rfl ?_
      refine l_op 0 rfl rfl rfl rfl rfl ?_
      refine l_nil (WK.nx (by assumption) ?_)
      refine SeqK.nx (by assumption) ?_
      refine k_ret ?_
      refine SeqK.rt (by assumption) ?_
      refine BlkK.rt (by assumption) ?_
      refine SeqK.rt (by assumption) ?_
      refine LoopK.rt (by assumption) ?_
      refine BlkK.rt (by assumption) ?_
      refine SeqK.rt (by assumption) ?_
      first | refine FunK.rtc (by assumption) (res_cell F 0 rfl rfl (by kernel_rfl) (resE_rsv rfl)) ?_ | refine FunK.rtc (by assumption) (res_cell F 1 rfl rfl (by kernel_rfl) (resE_rsv rfl)) ?_ | refine FunK.rtc (by assumption) (res_cell F 2 rfl rfl (by kernel_rfl) (resE_rsv rfl)) ?_ | refine FunK.rtc (by assumption) (res_cell F 3 rfl rfl (by kernel_rfl) (resE_rsv rfl)) ?_ | refine FunK.rtc (by assumption) (res_cell F 4 rfl rfl (by kernel_rfl) (resE_rsv rfl)) ?_ | refine FunK.rtc (by assumption) (res_cell F 5 rfl rfl (by kernel_rfl) (resE_rsv rfl)) ?_ | refine FunK.rtc (by assumption) (res_cell F 6 rfl rfl (by kernel_rfl) (resE_rsv rfl)) ?_ | refine FunK.rtc (by assumption) (res_cell F 7 rfl rfl (by kernel_rfl) (resE_rsv rfl)) ?_
      -- leaf 21
      first
        | (rw [hr]; exact ⟨(none, 0), rfl, F.pick [0] (by decide), trivial⟩)
        | (rw [hr]
           refine ⟨(x, k), ?_, ?_, trivial⟩
           · show _ = Value.tuple #[.agg #[.int .u32 opx, .slice _ pre.length _], _, _]
             rw [hpl]; rfl
           · show Facts _ _ _ [own _ pre.length _ 2 (rows eO pre)]
             rw [hpl]; exact F.pick [4] (by decide))
    try simp only [irr_eq, beq_iff_eq, bne_iff_ne, beq_eq_false_iff_ne, bne_eq_false_iff_eq, ne_eq, decide_eq_true_eq, decide_eq_false_iff_not, Bool.not_eq_true', Bool.not_eq_false'] at hc40
    refine k_skip ?_
    refine SeqK.nx (by assumption) ?_
    refine k_lin (fun W K => ?_)
    refine l_op 2 rfl rfl rfl rfl rfl ?_
    refine l_ldc F 3 rfl rfl rfl rfl rfl rfl rfl ?_
    refine l_op 0 rfl rfl rfl rfl rfl ?_
    refine l_bld rfl rfl rfl rfl ?_
    refine l_lit (k := 2) F rfl rfl rfl rfl (fun q118 s F => ?_)
    (try dsimp only [n_1, n_2, n_3, n_4, List.append_nil, pk, n_5, n_6] at F)
    refine l_app (es := 2) (ns := rows eO [(ms.getD i.toNat 0, 0)]) F 4 rfl rfl rfl rfl rfl rfl rfl (F.has 5 rfl) (eO_one [(ms.getD i.toNat 0, 0)]) rfl (by omega) hD (fun x119 c119 s F => ?_)
    (try dsimp only [n_1, n_2, n_3, n_4, List.append_nil, pk, n_5, n_6] at F)
    rw [nibs_take (by omega)] at F
    refine l_op 2 rfl rfl rfl rfl rfl ?_
    refine l_stc F 3 rfl rfl rfl rfl rfl rfl rfl rfl rfl hD (fun s F => ?_)
    (try dsimp only [n_1, n_2, n_3, n_4, List.append_nil, pk, n_5, n_6] at F)
    refine l_nil (WK.nx (by assumption) ?_)
    refine BlkK.nx (by assumption) ?_
    refine SeqK.nx (by assumption) ?_
    refine k_lin (fun W K => ?_)
    refine l_op 0 rfl rfl rfl rfl rfl ?_
    refine l_a64 rfl rfl rfl (by omega) rfl ?_
    refine l_op 0 rfl rfl rfl rfl rfl ?_
    refine l_nil (WK.nx (by assumption) ?_)
    have e1' : (i + 1).toNat = i.toNat + 1 := by omega
    exact K0.nx (i + 1, x119, c119, n) (by repeat (first | exact trivial | refine And.intro rfl ?_)) ⟨by rw [hms, e1']; exact F.pick [0, 1, 2, 3, 4] (by decide), by omega, by omega, hnum, hfit, fun j hj => by
      rw [hms]
      by_cases hji : (j : Int) < i
      · exact hmay j hji
      · have : j = i.toNat := by omega
        rw [this]; assumption⟩ (by first | omega | (simp only; omega))
  replace hc37 := of_decide_eq_false ((irr_eq _).symm.trans hc37)
  have hall : allMay (ltr sp.1) ms = true := allMay_of _ _ (by omega) (fun j hj => hmay j (by omega))
  rw [hall, if_neg (by decide)] at hdec
  have hsz : ∀ j : Nat, j < kk → 0 ≤ szm (ms.getD j 0) := fun j hj => may_sz (hmay j (by omega))
  have hik : i.toNat = kk := by omega
  have hmt : ((ms.take i.toNat).map fun m => (m, (0 : Int))) = valsTo ms [] 0 := by
    rw [List.take_of_length_le (by omega)]; rfl
  rw [hmt, hik] at F
  obtain ⟨q0, hq0⟩ : ∃ q0, at_ + n + (((kk + 1) / 2 : Nat) : Int) = q0 := ⟨_, rfl⟩
  rw [hq0] at hdec
  have hq0' : at_ + (n + (((kk : Nat) : Int) + 1) / 2) = q0 := by omega
  refine k_exit ?_
  refine SeqK.et (by assumption) ?_
  refine LoopK.et (by assumption) ?_
  refine BlkK.et (by assumption) ?_
  refine SeqK.nx (by assumption) ?_
  refine k_seq (fun Q K => ?_)
  refine k_lin (fun W K => ?_)
  refine l_op 0 rfl rfl rfl rfl rfl ?_
  refine l_op 0 rfl rfl rfl rfl rfl ?_
  refine l_a64 rfl rfl rfl (by omega) rfl ?_
  refine l_op 0 rfl rfl rfl rfl rfl ?_
  refine l_nil (WK.nx (by assumption) ?_)
  refine SeqK.nx (by assumption) ?_
  refine k_seq (fun Q K => ?_)
  refine k_seq (fun Q K => ?_)
  refine k_lin (fun W K => ?_)
  refine l_op 0 rfl rfl rfl rfl rfl ?_
  refine l_nil (WK.nx (by assumption) ?_)
  refine SeqK.nx (by assumption) ?_
  refine k_block (fun Q K => ?_)
  refine k_loop (α := Int × Int × List (Int × Int)) (fun ⟨j2, nn, pre⟩ s => Facts E0 σ s [own none 0 0 2 [], cel q4 [.int .u32 0, .slice none 0 0], cel q7 [.int .u32 0, .slice none 0 0], cel q14 [.int .u32 opx, .slice x kk k], own x kk k 2 (rows eO (valsTo ms pre j2.toNat))] ∧ 0 ≤ j2 ∧ j2 ≤ kk ∧ pre.length = j2.toNat ∧ 0 ≤ nn ∧ at_ + nn ≤ l ∧ valsR bs q0 ms = (valsR bs (at_ + nn) (ms.drop j2.toNat)).map fun r => (pre ++ r.1, r.2)) (fun ⟨j2, nn, pre⟩ => [(0, .slice a l c), (1, .int .i64 at_), (4, .pointer (some ⟨q4, 0, none⟩)), (7, .pointer (some ⟨q7, 0, none⟩)), (8, .int .i64 nn), (11, .string sp.1), (14, .pointer (some ⟨q14, 0, none⟩)), (17, .int .i64 j2)]) (fun ⟨j2, _⟩ => (kk - j2).toNat) (0, n + (((kk : Nat) : Int) + 1) / 2, []) ⟨F, by omega, by omega, rfl, by omega, by omega, by rw [hq0']; exact (vals_id _).symm⟩ (by repeat (first | exact trivial | refine And.intro rfl ?_)) ?_
  clear F
  rintro ⟨j2, nn, pre⟩ env s Q K1 ⟨F, j0, j1, hpre, qq0, qq1, hvals⟩
  refine k_seq (fun Q K => ?_)
  refine k_seq (fun Q K => ?_)
  refine k_lin (fun W K => ?_)
  refine l_op 0 rfl rfl rfl rfl rfl ?_
  refine l_op 0 rfl rfl rfl rfl rfl ?_
  refine l_ln rfl rfl rfl rfl ?_
  rw [hkk]
  refine l_cmp rfl rfl rfl rfl ?_
  refine l_nil (WK.nx (by assumption) ?_)
  refine SeqK.nx (by assumption) ?_
  refine l_cond rfl rfl (fun hc41 => ?_) (fun hc41 => ?_)
  · replace hc41 := of_decide_eq_true ((irr_eq _).symm.trans hc41)
    have him : j2.toNat < ms.length := by omega
    have hszi := hsz j2.toNat (by omega)
    obtain ⟨z0, z1, z2, z3⟩ := szm_cases hszi
    refine k_skip ?_
    refine SeqK.nx (by assumption) ?_
    refine k_seq (fun Q K => ?_)
    refine k_block (fun Q K => ?_)
    refine k_seq (fun Q K => ?_)
    refine k_lin (fun W K => ?_)
    refine l_op 2 rfl rfl rfl rfl rfl ?_
    refine l_ldc F 3 rfl rfl rfl rfl rfl rfl rfl ?_
    refine l_op 0 rfl rfl rfl rfl rfl ?_
    refine l_ixo F 4 rfl rfl rfl rfl rfl rfl rfl (by omega) (fun m133 e133 ha133 hA133 => ?_)
    subst ha133
    rw [rows_at eO_len (by rw [valsTo_len hpre (by omega)]; omega), valsTo_at hpre him] at hA133
    refine l_op 2 rfl rfl rfl rfl rfl ?_
    refine l_ld0 rfl rfl rfl rfl rfl (by assumption) ?_
    refine l_op 0 rfl rfl rfl rfl rfl ?_
    refine l_nil (WK.nx (by assumption) ?_)
    refine SeqK.nx (by assumption) ?_
    refine k_seq (fun Q K => ?_)
    refine k_lin (fun W K => ?_)
    refine l_op 0 rfl rfl rfl rfl rfl ?_
    refine l_callp F rfl rfl (by kernel_rfl) rfl rfl (rsize_call (m := ms.getD j2.toNat 0)) (fun _ s F _ => ?_)
    (try dsimp only [n_1, n_2, n_3, n_4, List.append_nil, pk, n_5, n_6] at F)
    refine l_op 0 rfl rfl rfl rfl rfl ?_
    refine l_nil (WK.nx (by assumption) ?_)
    refine SeqK.nx (by assumption) ?_
    refine k_seq (fun Q K => ?_)
    refine k_seq (fun Q K => ?_)
    refine k_lin (fun W K => ?_)
    refine l_op 0 rfl rfl rfl rfl rfl ?_
    refine l_cmp rfl rfl rfl rfl ?_
    refine l_nil (WK.nx (by assumption) ?_)
    refine SeqK.nx (by assumption) ?_
    refine l_cond rfl rfl (fun hc42 => ?_) (fun hc42 => ?_)
    · first | replace hc42 := eq_of_beq ((irr_eq _).symm.trans hc42) | simp only [irr_eq, beq_iff_eq, beq_eq_false_iff_ne, ne_eq, decide_eq_true_eq, decide_eq_false_iff_not] at hc42
      refine k_exit ?_
      refine SeqK.et (by assumption) ?_
      refine BlkK.et (by assumption) ?_
      refine SeqK.nx (by assumption) ?_
      refine k_lin (fun W K => ?_)
      refine l_op 0 rfl rfl rfl rfl rfl ?_
      refine l_a64 rfl rfl rfl (by omega) rfl ?_
      refine l_op 0 rfl rfl rfl rfl rfl ?_
      refine l_nil (WK.nx (by assumption) ?_)
      have e1' : (j2 + 1).toNat = j2.toNat + 1 := by omega
      first
        | (have hz : szm (ms.getD j2.toNat 0) = 0 := by omega
           rw [drop_at him, valsR, if_pos hz, vals_app] at hvals
           rw [valsTo_skip him] at F
           exact K1.nx (j2 + 1, nn, pre ++ [((ms.getD j2.toNat 0), 0)]) (by repeat (first | exact trivial | refine And.intro rfl ?_)) ⟨by rw [e1']; exact F, by omega, by omega, by rw [List.length_append, hpre, e1']; rfl, by omega, by omega, by rw [e1']; exact hvals⟩ (by first | omega | (simp only; omega)))
        | (rw [drop_at him, valsR, if_neg (by omega), if_neg (by omega), vals_app, Int.add_assoc] at hvals
           exact K1.nx (j2 + 1, nn + szm (ms.getD j2.toNat 0), pre ++ [((ms.getD j2.toNat 0), telR (ms.getD j2.toNat 0) (be bs (at_ + nn).toNat (szm (ms.getD j2.toNat 0)).toNat))]) (by repeat (first | exact trivial | refine And.intro rfl ?_)) ⟨by rw [e1']; exact F, by omega, by omega, by rw [List.length_append, hpre, e1']; rfl, by omega, by omega, by rw [e1']; exact hvals⟩ (by first | omega | (simp only; omega)))
    first | replace hc42 := ne_of_beq_false ((irr_eq _).symm.trans hc42) | simp only [irr_eq, beq_iff_eq, beq_eq_false_iff_ne, ne_eq, decide_eq_true_eq, decide_eq_false_iff_not] at hc42
    refine k_skip ?_
    refine SeqK.nx (by assumption) ?_
    refine k_seq (fun Q K => ?_)
    refine k_seq (fun Q K => ?_)
    refine k_lin (fun W K => ?_)
    refine l_op 0 rfl rfl rfl rfl rfl ?_
    refine l_op 0 rfl rfl rfl rfl rfl ?_
    refine l_op 0 rfl rfl rfl rfl rfl ?_
    refine l_op 0 rfl rfl rfl rfl rfl ?_
    refine l_a64 rfl rfl rfl (by omega) rfl ?_
    refine l_callp F rfl rfl (by kernel_rfl) rfl rfl (there11_call (by omega) (by omega)) (fun y145 s F hy145 => ?_)
    (try dsimp only [n_1, n_2, n_3, n_4, List.append_nil, pk, n_5, n_6] at F)
    refine l_op 2 rfl rfl rfl rfl rfl ?_
    refine l_nil (WK.nx (by assumption) ?_)
    refine SeqK.nx (by assumption) ?_
    refine l_cond rfl rfl (fun hc43 => ?_) (fun hc43 => ?_)
    · try simp only [irr_eq, beq_iff_eq, bne_iff_ne, beq_eq_false_iff_ne, bne_eq_false_iff_eq, ne_eq, decide_eq_true_eq, decide_eq_false_iff_not, Bool.not_eq_true', Bool.not_eq_false'] at hc43
      have hr : decR sgR bs at_ = (0, [], 0, 90) := by
        have hnt : ¬ (at_ ≤ l ∧ at_ + (nn + szm (ms.getD j2.toNat 0)) ≤ l) := fun hh => by rw [hy145.2 hh] at hc43; cases hc43
        rw [hdec, hvals, drop_at him, valsR, if_neg (by omega), if_pos (by omega)]
        rfl
      refine k_seq (fun Q K => ?_)
      refine k_lin (fun W K => ?_)
      refine l_ldca F 2 rfl rfl rfl rfl rfl rfl rfl ?_
      refine l_stca F 1 rfl rfl rfl rfl rfl rfl rfl rfl rfl rfl hD rfl (fun s F => ?_)
      (try dsimp only [n_1, n_2, n_3, n_4, List.append_nil, pk, n_5, n_6] at F)
      refine l_op 0 rfl rfl rfl rfl rfl ?_
      refine l_op 0 rfl rfl rfl rfl rfl ?_
      refine l_nil (WK.nx (by assumption) ?_)
      refine SeqK.nx (by assumption) ?_
      refine k_ret ?_
      refine SeqK.rt (by assumption) ?_
      refine BlkK.rt (by assumption) ?_
      refine SeqK.rt (by assumption) ?_
      refine LoopK.rt (by assumption) ?_
      refine BlkK.rt (by assumption) ?_
      refine SeqK.rt (by assumption) ?_
      first | refine FunK.rtc (by assumption) (res_cell F 0 rfl rfl (by kernel_rfl) (resE_rsv rfl)) ?_ | refine FunK.rtc (by assumption) (res_cell F 1 rfl rfl (by kernel_rfl) (resE_rsv rfl)) ?_ | refine FunK.rtc (by assumption) (res_cell F 2 rfl rfl (by kernel_rfl) (resE_rsv rfl)) ?_ | refine FunK.rtc (by assumption) (res_cell F 3 rfl rfl (by kernel_rfl) (resE_rsv rfl)) ?_ | refine FunK.rtc (by assumption) (res_cell F 4 rfl rfl (by kernel_rfl) (resE_rsv rfl)) ?_ | refine FunK.rtc (by assumption) (res_cell F 5 rfl rfl (by kernel_rfl) (resE_rsv rfl)) ?_ | refine FunK.rtc (by assumption) (res_cell F 6 rfl rfl (by kernel_rfl) (resE_rsv rfl)) ?_ | refine FunK.rtc (by assumption) (res_cell F 7 rfl rfl (by kernel_rfl) (resE_rsv rfl)) ?_
      -- leaf 22
      first
        | (rw [hr]; exact ⟨(none, 0), rfl, F.pick [0] (by decide), trivial⟩)
        | (rw [hr]
           refine ⟨(x, k), ?_, ?_, trivial⟩
           · show _ = Value.tuple #[.agg #[.int .u32 opx, .slice _ pre.length _], _, _]
             rw [hpl]; rfl
           · show Facts _ _ _ [own _ pre.length _ 2 (rows eO pre)]
             rw [hpl]; exact F.pick [4] (by decide))
    try simp only [irr_eq, beq_iff_eq, bne_iff_ne, beq_eq_false_iff_ne, bne_eq_false_iff_eq, ne_eq, decide_eq_true_eq, decide_eq_false_iff_not, Bool.not_eq_true', Bool.not_eq_false'] at hc43
    have hth4 := hy145.1 (by assumption)
    refine k_skip ?_
    refine SeqK.nx (by assumption) ?_
    refine k_seq (fun Q K => ?_)
    refine k_lin (fun W K => ?_)
    refine l_op 0 rfl rfl rfl rfl rfl ?_
    refine l_op 0 rfl rfl rfl rfl rfl ?_
    refine l_op 0 rfl rfl rfl rfl rfl ?_
    refine l_a64 rfl rfl rfl (by omega) rfl ?_
    refine l_op 0 rfl rfl rfl rfl rfl ?_
    have hbc := rbe_call (σ := s) (at_ := at_ + nn) (n := szm (ms.getD j2.toNat 0)) (Old.pure (F.old h)) hB (by omega)
    rw [beV_ok (by omega) (by omega)] at hbc
    have hx4 := be_lt4 hB (at_ + nn).toNat (k := (szm (ms.getD j2.toNat 0)).toNat) (by omega)
    have hxu : U32 (be bs (at_ + nn).toNat (szm (ms.getD j2.toNat 0)).toNat) := hx4
    refine l_callp F rfl rfl (by kernel_rfl) rfl rfl hbc (fun _ s F _ => ?_)
    (try dsimp only [n_1, n_2, n_3, n_4, List.append_nil, pk, n_5, n_6] at F)
    refine l_op 0 rfl rfl rfl rfl rfl ?_
    refine l_op 2 rfl rfl rfl rfl rfl ?_
    refine l_op 2 rfl rfl rfl rfl rfl ?_
    refine l_op 0 rfl rfl rfl rfl rfl ?_
    refine l_op 0 rfl rfl rfl rfl rfl ?_
    refine l_nil (WK.nx (by assumption) ?_)
    refine SeqK.nx (by assumption) ?_
    refine k_seq (fun Q K => ?_)
    refine k_seq (fun Q K => ?_)
    refine k_lin (fun W K => ?_)
    refine l_op 0 rfl rfl rfl rfl rfl ?_
    refine l_cmp rfl rfl rfl rfl ?_
    refine l_nil (WK.nx (by assumption) ?_)
    refine SeqK.nx (by assumption) ?_
    refine l_cond rfl rfl (fun hc44 => ?_) (fun hc44 => ?_)
    · replace hc44 := of_decide_eq_true ((irr_eq _).symm.trans hc44)
      refine k_lin (fun W K => ?_)
      refine l_op 0 rfl rfl rfl rfl rfl ?_
      refine l_op 0 rfl rfl rfl rfl rfl ?_
      refine l_callp F rfl rfl (by kernel_rfl) rfl rfl (rextend_call hxu) (fun _ s F _ => ?_)
      (try dsimp only [n_1, n_2, n_3, n_4, List.append_nil, pk, n_5, n_6] at F)
      refine l_op 0 rfl rfl rfl rfl rfl ?_
      refine l_nil (WK.nx (by assumption) ?_)
      refine SeqK.nx (by assumption) ?_
      refine k_seq (fun Q K => ?_)
      refine k_lin (fun W K => ?_)
      refine l_op 2 rfl rfl rfl rfl rfl ?_
      refine l_ldc F 3 rfl rfl rfl rfl rfl rfl rfl ?_
      refine l_op 0 rfl rfl rfl rfl rfl ?_
      refine l_op 0 rfl rfl rfl rfl rfl ?_
      refine l_ixo F 4 rfl rfl rfl rfl rfl rfl rfl (by omega) (fun m166 e166 ha166 hA166 => ?_)
      cases ha166
      refine l_op 2 rfl rfl rfl rfl rfl ?_
      first
        | (have hx : extR (be bs (at_ + nn).toNat (szm (ms.getD j2.toNat 0)).toNat) (szm (ms.getD j2.toNat 0)) = telR (ms.getD j2.toNat 0) (be bs (at_ + nn).toNat (szm (ms.getD j2.toNat 0)).toNat) := by
             unfold telR; rw [if_pos ((cst_lt2 hszi (by omega)).2 (by omega))]
           refine l_sto (j := j2.toNat * 2 + 1) (v := .int .u32 (extR (be bs (at_ + nn).toNat (szm (ms.getD j2.toNat 0)).toNat) (szm (ms.getD j2.toNat 0)))) F 4 rfl rfl rfl rfl rfl rfl rfl rfl (by omega) hD (fun s F => ?_)
           rw [hx] at F)
        | (have hx : be bs (at_ + nn).toNat (szm (ms.getD j2.toNat 0)).toNat = telR (ms.getD j2.toNat 0) (be bs (at_ + nn).toNat (szm (ms.getD j2.toNat 0)).toNat) := by
             unfold telR; rw [if_neg (fun hcc => absurd ((cst_lt2 hszi (by omega)).1 hcc) (by omega))]
           refine l_sto (j := j2.toNat * 2 + 1) (v := .int .u32 (be bs (at_ + nn).toNat (szm (ms.getD j2.toNat 0)).toNat)) F 4 rfl rfl rfl rfl rfl rfl rfl rfl (by omega) hD (fun s F => ?_)
           rw [hx] at F)
      (try dsimp only [n_1, n_2, n_3, n_4, List.append_nil, pk, n_5, n_6] at F)
      rw [valsTo_set hpre him] at F
      refine l_nil (WK.nx (by assumption) ?_)
      refine SeqK.nx (by assumption) ?_
      refine k_lin (fun W K => ?_)
      refine l_op 0 rfl rfl rfl rfl rfl ?_
      refine l_op 0 rfl rfl rfl rfl rfl ?_
      refine l_a64 rfl rfl rfl (by omega) rfl ?_
      refine l_op 0 rfl rfl rfl rfl rfl ?_
      refine l_nil (WK.nx (by assumption) ?_)
      refine BlkK.nx (by assumption) ?_
      refine SeqK.nx (by assumption) ?_
      refine k_lin (fun W K => ?_)
      refine l_op 0 rfl rfl rfl rfl rfl ?_
      refine l_a64 rfl rfl rfl (by omega) rfl ?_
      refine l_op 0 rfl rfl rfl rfl rfl ?_
      refine l_nil (WK.nx (by assumption) ?_)
      have e1' : (j2 + 1).toNat = j2.toNat + 1 := by omega
      first
        | (have hz : szm (ms.getD j2.toNat 0) = 0 := by omega
           rw [drop_at him, valsR, if_pos hz, vals_app] at hvals
           rw [valsTo_skip him] at F
           exact K1.nx (j2 + 1, nn, pre ++ [((ms.getD j2.toNat 0), 0)]) (by repeat (first | exact trivial | refine And.intro rfl ?_)) ⟨by rw [e1']; exact F, by omega, by omega, by rw [List.length_append, hpre, e1']; rfl, by omega, by omega, by rw [e1']; exact hvals⟩ (by first | omega | (simp only; omega)))
        | (rw [drop_at him, valsR, if_neg (by omega), if_neg (by omega), vals_app, Int.add_assoc] at hvals
           exact K1.nx (j2 + 1, nn + szm (ms.getD j2.toNat 0), pre ++ [((ms.getD j2.toNat 0), telR (ms.getD j2.toNat 0) (be bs (at_ + nn).toNat (szm (ms.getD j2.toNat 0)).toNat))]) (by repeat (first | exact trivial | refine And.intro rfl ?_)) ⟨by rw [e1']; exact F, by omega, by omega, by rw [List.length_append, hpre, e1']; rfl, by omega, by omega, by rw [e1']; exact hvals⟩ (by first | omega | (simp only; omega)))
    replace hc44 := of_decide_eq_false ((irr_eq _).symm.trans hc44)
    refine k_skip ?_
    refine SeqK.nx (by assumption) ?_
    refine k_seq (fun Q K => ?_)
    refine k_lin (fun W K => ?_)
    refine l_op 2 rfl rfl rfl rfl rfl ?_
    refine l_ldc F 3 rfl rfl rfl rfl rfl rfl rfl ?_
    refine l_op 0 rfl rfl rfl rfl rfl ?_
    refine l_op 0 rfl rfl rfl rfl rfl ?_
    refine l_ixo F 4 rfl rfl rfl rfl rfl rfl rfl (by omega) (fun m166 e166 ha166 hA166 => ?_)
    cases ha166
    refine l_op 2 rfl rfl rfl rfl rfl ?_
    first
      | (have hx : extR (be bs (at_ + nn).toNat (szm (ms.getD j2.toNat 0)).toNat) (szm (ms.getD j2.toNat 0)) = telR (ms.getD j2.toNat 0) (be bs (at_ + nn).toNat (szm (ms.getD j2.toNat 0)).toNat) := by
           unfold telR; rw [if_pos ((cst_lt2 hszi (by omega)).2 (by omega))]
         refine l_sto (j := j2.toNat * 2 + 1) (v := .int .u32 (extR (be bs (at_ + nn).toNat (szm (ms.getD j2.toNat 0)).toNat) (szm (ms.getD j2.toNat 0)))) F 4 rfl rfl rfl rfl rfl rfl rfl rfl (by omega) hD (fun s F => ?_)
         rw [hx] at F)
      | (have hx : be bs (at_ + nn).toNat (szm (ms.getD j2.toNat 0)).toNat = telR (ms.getD j2.toNat 0) (be bs (at_ + nn).toNat (szm (ms.getD j2.toNat 0)).toNat) := by
           unfold telR; rw [if_neg (fun hcc => absurd ((cst_lt2 hszi (by omega)).1 hcc) (by omega))]
         refine l_sto (j := j2.toNat * 2 + 1) (v := .int .u32 (be bs (at_ + nn).toNat (szm (ms.getD j2.toNat 0)).toNat)) F 4 rfl rfl rfl rfl rfl rfl rfl rfl (by omega) hD (fun s F => ?_)
         rw [hx] at F)
    (try dsimp only [n_1, n_2, n_3, n_4, List.append_nil, pk, n_5, n_6] at F)
    rw [valsTo_set hpre him] at F
    refine l_nil (WK.nx (by assumption) ?_)
    refine SeqK.nx (by assumption) ?_
    refine k_lin (fun W K => ?_)
    refine l_op 0 rfl rfl rfl rfl rfl ?_
    refine l_op 0 rfl rfl rfl rfl rfl ?_
    refine l_a64 rfl rfl rfl (by omega) rfl ?_
    refine l_op 0 rfl rfl rfl rfl rfl ?_
    refine l_nil (WK.nx (by assumption) ?_)
    refine BlkK.nx (by assumption) ?_
    refine SeqK.nx (by assumption) ?_
    refine k_lin (fun W K => ?_)
    refine l_op 0 rfl rfl rfl rfl rfl ?_
    refine l_a64 rfl rfl rfl (by omega) rfl ?_
    refine l_op 0 rfl rfl rfl rfl rfl ?_
    refine l_nil (WK.nx (by assumption) ?_)
    have e1' : (j2 + 1).toNat = j2.toNat + 1 := by omega
    first
      | (have hz : szm (ms.getD j2.toNat 0) = 0 := by omega
         rw [drop_at him, valsR, if_pos hz, vals_app] at hvals
         rw [valsTo_skip him] at F
         exact K1.nx (j2 + 1, nn, pre ++ [((ms.getD j2.toNat 0), 0)]) (by repeat (first | exact trivial | refine And.intro rfl ?_)) ⟨by rw [e1']; exact F, by omega, by omega, by rw [List.length_append, hpre, e1']; rfl, by omega, by omega, by rw [e1']; exact hvals⟩ (by first | omega | (simp only; omega)))
      | (rw [drop_at him, valsR, if_neg (by omega), if_neg (by omega), vals_app, Int.add_assoc] at hvals
         exact K1.nx (j2 + 1, nn + szm (ms.getD j2.toNat 0), pre ++ [((ms.getD j2.toNat 0), telR (ms.getD j2.toNat 0) (be bs (at_ + nn).toNat (szm (ms.getD j2.toNat 0)).toNat))]) (by repeat (first | exact trivial | refine And.intro rfl ?_)) ⟨by rw [e1']; exact F, by omega, by omega, by rw [List.length_append, hpre, e1']; rfl, by omega, by omega, by rw [e1']; exact hvals⟩ (by first | omega | (simp only; omega)))
  replace hc41 := of_decide_eq_false ((irr_eq _).symm.trans hc41)
  have hr : decR sgR bs at_ = (opx, pre, nn, 0) := by
    rw [hdec, hvals, List.drop_of_length_le (by omega), valsR]
    simp only [Option.map_some, List.append_nil]
    rw [show at_ + nn - at_ = nn by omega]
  have hpl : pre.length = kk := by omega
  have hvt : valsTo ms pre j2.toNat = pre := by unfold valsTo; rw [List.drop_of_length_le (by omega)]; simp
  rw [hvt] at F
  refine k_exit ?_
  refine SeqK.et (by assumption) ?_
  refine LoopK.et (by assumption) ?_
  refine BlkK.et (by assumption) ?_
  refine SeqK.nx (by assumption) ?_
  refine k_seq (fun Q K => ?_)
  refine k_lin (fun W K => ?_)
  refine l_ldca F 3 rfl rfl rfl rfl rfl rfl rfl ?_
  refine l_op 0 rfl rfl rfl rfl rfl ?_
  refine l_stca F 1 rfl rfl rfl rfl rfl rfl rfl rfl rfl rfl hD rfl (fun s F => ?_)
  (try dsimp only [n_1, n_2, n_3, n_4, List.append_nil, pk, n_5, n_6] at F)
  refine l_op 0 rfl rfl rfl rfl rfl ?_
  refine l_op 0 rfl rfl rfl rfl rfl ?_
  refine l_nil (WK.nx (by assumption) ?_)
  refine SeqK.nx (by assumption) ?_
  refine k_ret ?_
  first | refine FunK.rtc (by assumption) (res_cell F 0 rfl rfl (by kernel_rfl) (resE_rsv rfl)) ?_ | refine FunK.rtc (by assumption) (res_cell F 1 rfl rfl (by kernel_rfl) (resE_rsv rfl)) ?_ | refine FunK.rtc (by assumption) (res_cell F 2 rfl rfl (by kernel_rfl) (resE_rsv rfl)) ?_ | refine FunK.rtc (by assumption) (res_cell F 3 rfl rfl (by kernel_rfl) (resE_rsv rfl)) ?_ | refine FunK.rtc (by assumption) (res_cell F 4 rfl rfl (by kernel_rfl) (resE_rsv rfl)) ?_ | refine FunK.rtc (by assumption) (res_cell F 5 rfl rfl (by kernel_rfl) (resE_rsv rfl)) ?_ | refine FunK.rtc (by assumption) (res_cell F 6 rfl rfl (by kernel_rfl) (resE_rsv rfl)) ?_ | refine FunK.rtc (by assumption) (res_cell F 7 rfl rfl (by kernel_rfl) (resE_rsv rfl)) ?_
  -- leaf 23
  first
    | (rw [hr]; exact ⟨(none, 0), rfl, F.pick [0] (by decide), trivial⟩)
    | (rw [hr]
       refine ⟨(x, k), ?_, ?_, trivial⟩
       · show _ = Value.tuple #[.agg #[.int .u32 opx, .slice _ pre.length _], _, _]
         rw [hpl]; rfl
       · show Facts _ _ _ [own _ pre.length _ 2 (rows eO pre)]
         rw [hpl]; exact F.pick [4] (by decide))

end Go.Proofs.Ytkemnodaadlonaa
