/- The law of rolls. No statement of the seat is proved in this text. -/
import Derived.Test.YthbooolgpfhcmaaStJ
import Derived.Test.YthbooolgpfhcmaaLive
set_option linter.unusedVariables false
set_option linter.unusedSimpArgs false
set_option maxRecDepth 100000
set_option maxHeartbeats 8000000
namespace Go.Proofs.Ythbooolgpfhcmaa
open GAb Go

theorem rolls_law {σ : AState} {a : Option Addr} {l c : Nat} {vs : List Int} {n k : Int} (hx : Old E0 σ a l c 1 (u32l vs)) (hU : Words vs) (hn : U32 n) (hk : U32 k) :
    SCall Try.prog E0 5 [.slice a l c, .int .u32 n, .int .u32 k] σ (fun v _ => v = .bool true) := by
  have hvl : vs.length = l := by simpa using hx.1.size
  obtain ⟨n0, n1⟩ := hn
  obtain ⟨k0, k1⟩ := hk
  refine k_fun Try.func5 rfl (m := 136) rfl fun B hD Q K => ?_
  have F := Facts.nil E0 σ
  refine k_seq (fun Q K => ?_)
  refine k_lin (fun W K => ?_)
  refine l_op 0 rfl rfl rfl rfl rfl ?_
  refine l_nil (WK.nx (by assumption) ?_)
  refine SeqK.nx (by assumption) ?_
  refine k_seq (fun Q K => ?_)
  refine k_seq (fun Q K => ?_)
  refine k_lin (fun W K => ?_)
  refine l_op 0 rfl rfl rfl rfl rfl ?_
  first | refine l_op 2 rfl rfl rfl rfl rfl ?_ | refine l_ln rfl rfl rfl rfl ?_
  refine l_cmp rfl rfl rfl rfl ?_
  refine l_nil (WK.nx (by assumption) ?_)
  refine SeqK.nx (by assumption) ?_
  refine l_cond rfl rfl (fun hc1 => ?_) (fun hc1 => ?_)
  · replace hc1 := of_decide_eq_true ((irr_eq _).symm.trans hc1)
    refine k_seq (fun Q K => ?_)
    refine k_lin (fun W K => ?_)
    refine l_callv rfl rfl (by kernel_rfl) rfl rfl (live_call _ _) ?_
    (try dsimp only [n_1, n_2, n_3, n_4, List.append_nil, pk, n_5, n_6] at F)
    refine l_op 0 rfl rfl rfl rfl rfl ?_
    refine l_nil (WK.nx (by assumption) ?_)
    refine SeqK.nx (by assumption) ?_
    refine k_ret ?_
    refine SeqK.rt (by assumption) ?_
    refine FunK.rt (by assumption) rfl ?_
    -- leaf 1
    first
    | rfl
    | exact absurd (hh3 (by omega)) (by assumption)
    | exact absurd ((eqS_self (stB vs)).symm.trans (by assumption)) (by decide)
    | exact absurd ((hks (by omega)).symm.trans (by assumption)) (by decide)
    | (exfalso; simp_all; done)
  replace hc1 := of_decide_eq_false ((irr_eq _).symm.trans hc1)
  refine k_skip ?_
  refine SeqK.nx (by assumption) ?_
  refine k_seq (fun Q K => ?_)
  refine k_lin (fun W K => ?_)
  refine l_callp F rfl rfl (by kernel_rfl) rfl rfl begin0_call (fun y s F _ => ?_)
  (try dsimp only [n_1, n_2, n_3, n_4, List.append_nil, pk, n_5, n_6] at F)
  obtain ⟨m, b, d⟩ := y
  dsimp only at F ⊢
  rw [← stB_nil] at F
  (try dsimp only [n_1, n_2, n_3, n_4, List.append_nil, pk, n_5, n_6] at F)
  refine l_op 0 rfl rfl rfl rfl rfl ?_
  refine l_nil (WK.nx (by assumption) ?_)
  refine SeqK.nx (by assumption) ?_
  refine k_seq (fun Q K => ?_)
  refine k_seq (fun Q K => ?_)
  refine k_lin (fun W K => ?_)
  refine l_op 0 rfl rfl rfl rfl rfl ?_
  refine l_cmp rfl rfl rfl rfl ?_
  refine l_nil (WK.nx (by assumption) ?_)
  refine SeqK.nx (by assumption) ?_
  refine l_cond rfl rfl (fun hc2 => ?_) (fun hc2 => ?_)
  · first | replace hc2 := eq_of_beq ((irr_eq _).symm.trans hc2) | simp only [irr_eq, beq_iff_eq, beq_eq_false_iff_ne, ne_eq, decide_eq_true_eq, decide_eq_false_iff_not] at hc2
    refine k_seq (fun Q K => ?_)
    refine k_lin (fun W K => ?_)
    refine l_op 0 rfl rfl rfl rfl rfl ?_
    refine l_nil (WK.nx (by assumption) ?_)
    refine SeqK.nx (by assumption) ?_
    refine k_ret ?_
    refine SeqK.rt (by assumption) ?_
    refine FunK.rt (by assumption) rfl ?_
    -- leaf 2
    first
    | rfl
    | exact absurd (hh3 (by omega)) (by assumption)
    | exact absurd ((eqS_self (stB vs)).symm.trans (by assumption)) (by decide)
    | exact absurd ((hks (by omega)).symm.trans (by assumption)) (by decide)
    | (exfalso; simp_all; done)
  first | replace hc2 := ne_of_beq_false ((irr_eq _).symm.trans hc2) | simp only [irr_eq, beq_iff_eq, beq_eq_false_iff_ne, ne_eq, decide_eq_true_eq, decide_eq_false_iff_not] at hc2
  refine k_skip ?_
  refine SeqK.nx (by assumption) ?_
  refine k_seq (fun Q K => ?_)
  refine k_seq (fun Q K => ?_)
  refine k_lin (fun W K => ?_)
  refine l_op 0 rfl rfl rfl rfl rfl ?_
  refine l_nil (WK.nx (by assumption) ?_)
  refine SeqK.nx (by assumption) ?_
  refine k_block (fun Q K => ?_)
  refine k_loop (α := Int × Option Addr × Nat × Nat) (fun ⟨i, b, N, d⟩ s => Facts E0 σ s [cel m (sC b N d 2048 0 true), own b N d 1 (u8l (stB (vs.take i.toNat)))] ∧ 0 ≤ i ∧ i ≤ l ∧ (N : Int) = 24 + 4 * i) (fun ⟨i, b, N, d⟩ => [(0, .slice a l c), (1, .int .u32 n), (2, .int .u32 k), (7, .pointer (some ⟨m, 0, none⟩)), (8, .int .i64 i)]) (fun ⟨i, _⟩ => (l - i).toNat) (0, b, 24, d) ⟨F, by omega, by omega, by omega⟩ (by repeat (first | exact trivial | refine And.intro rfl ?_)) ?_
  clear F
  rintro ⟨i, b, N, d⟩ env s Q K0 ⟨F, i0, i1, hN⟩
  refine k_seq (fun Q K => ?_)
  refine k_seq (fun Q K => ?_)
  refine k_lin (fun W K => ?_)
  refine l_op 0 rfl rfl rfl rfl rfl ?_
  refine l_op 0 rfl rfl rfl rfl rfl ?_
  first | refine l_op 2 rfl rfl rfl rfl rfl ?_ | refine l_ln rfl rfl rfl rfl ?_
  refine l_cmp rfl rfl rfl rfl ?_
  refine l_nil (WK.nx (by assumption) ?_)
  refine SeqK.nx (by assumption) ?_
  refine l_cond rfl rfl (fun hc3 => ?_) (fun hc3 => ?_)
  · replace hc3 := of_decide_eq_true ((irr_eq _).symm.trans hc3)
    have hUi := hU.at i.toNat
    refine k_skip ?_
    refine SeqK.nx (by assumption) ?_
    refine k_seq (fun Q K => ?_)
    refine k_block (fun Q K => ?_)
    refine k_seq (fun Q K => ?_)
    refine k_lin (fun W K => ?_)
    refine l_op 0 rfl rfl rfl rfl rfl ?_
    refine l_op 0 rfl rfl rfl rfl rfl ?_
    refine l_op 0 rfl rfl rfl rfl rfl ?_
    first | refine l_ixi rfl rfl rfl rfl rfl rfl (F.old (by assumption)) (by omega) (fun m30 b30 hA30 => ?_) | (refine l_ixoi F 0 rfl rfl rfl rfl rfl rfl rfl (by omega) (fun m e ha hA30 => ?_); cases ha) | (refine l_ixoi F 1 rfl rfl rfl rfl rfl rfl rfl (by omega) (fun m e ha hA30 => ?_); cases ha) | (refine l_ixoi F 2 rfl rfl rfl rfl rfl rfl rfl (by omega) (fun m e ha hA30 => ?_); cases ha) | (refine l_ixoi F 3 rfl rfl rfl rfl rfl rfl rfl (by omega) (fun m e ha hA30 => ?_); cases ha)
    (first | refine l_ld0 rfl rfl rfl rfl rfl (by assumption) ?_ | refine l_ldj rfl rfl rfl rfl rfl rfl (by assumption) rfl ?_ | refine l_ldc F 0 rfl rfl rfl rfl rfl rfl rfl ?_ | refine l_ldc F 1 rfl rfl rfl rfl rfl rfl rfl ?_ | refine l_ldc F 2 rfl rfl rfl rfl rfl rfl rfl ?_ | refine l_ldc F 3 rfl rfl rfl rfl rfl rfl rfl ?_ | refine l_ldc F 4 rfl rfl rfl rfl rfl rfl rfl ?_ | refine l_ldc F 5 rfl rfl rfl rfl rfl rfl rfl ?_ | refine l_ldc F 6 rfl rfl rfl rfl rfl rfl rfl ?_ | refine l_ldc F 7 rfl rfl rfl rfl rfl rfl rfl ?_ | refine l_ldc F 8 rfl rfl rfl rfl rfl rfl rfl ?_ | refine l_ldc F 9 rfl rfl rfl rfl rfl rfl rfl ?_ | refine l_lda rfl rfl rfl rfl rfl (by assumption) ?_ | refine l_ldca F 0 rfl rfl rfl rfl rfl rfl rfl ?_ | refine l_ldca F 1 rfl rfl rfl rfl rfl rfl rfl ?_ | refine l_ldca F 2 rfl rfl rfl rfl rfl rfl rfl ?_ | refine l_ldca F 3 rfl rfl rfl rfl rfl rfl rfl ?_ | refine l_ldca F 4 rfl rfl rfl rfl rfl rfl rfl ?_ | refine l_ldca F 5 rfl rfl rfl rfl rfl rfl rfl ?_ | refine l_ldca F 6 rfl rfl rfl rfl rfl rfl rfl ?_ | refine l_ldca F 7 rfl rfl rfl rfl rfl rfl rfl ?_ | refine l_ldca F 8 rfl rfl rfl rfl rfl rfl rfl ?_ | refine l_ldca F 9 rfl rfl rfl rfl rfl rfl rfl ?_ | refine l_ldo F (by assumption) rfl rfl rfl rfl rfl rfl ?_ | refine l_ldoa F (by assumption) rfl rfl rfl rfl rfl rfl ?_)
    refine l_call F [0, 1] [] (by decide) rfl rfl (by kernel_rfl) rfl rfl (push_call (F.sub [0, 1] (by decide)) hUi (by omega)) hD (fun y s F hy => ?_)
    (try dsimp only [n_1, n_2, n_3, n_4, List.append_nil, pk, n_5, n_6] at F)
    have hr : readyR true N 4 2048 = 0 := by unfold readyR; rw [if_neg (by decide), if_neg (by omega)]
    rw [hr] at hy F ⊢
    rw [if_pos rfl] at hy F
    obtain ⟨b', N', d'⟩ := y
    dsimp only at hy F ⊢
    subst hy
    (try dsimp only [n_1, n_2, n_3, n_4, List.append_nil, pk, n_5, n_6] at F)
    refine l_callv rfl rfl (by kernel_rfl) rfl rfl num_call ?_
    (try dsimp only [n_1, n_2, n_3, n_4, List.append_nil, pk, n_5, n_6] at F)
    refine l_cmp rfl rfl rfl rfl ?_
    refine l_nil (WK.nx (by assumption) ?_)
    refine SeqK.nx (by assumption) ?_
    refine l_cond rfl rfl (fun hc4 => ?_) (fun hc4 => ?_)
    · first | replace hc4 := bne_iff_ne.1 ((irr_eq _).symm.trans hc4) | simp only [irr_eq, bne_iff_ne, bne_eq_false_iff_eq, ne_eq, decide_eq_true_eq, decide_eq_false_iff_not, Bool.not_eq_true', Bool.not_eq_false'] at hc4
      exfalso; omega
    first | replace hc4 := bne_eq_false_iff_eq.1 ((irr_eq _).symm.trans hc4) | simp only [irr_eq, bne_iff_ne, bne_eq_false_iff_eq, ne_eq, decide_eq_true_eq, decide_eq_false_iff_not, Bool.not_eq_true', Bool.not_eq_false'] at hc4
    refine k_skip ?_
    refine BlkK.nx (by assumption) ?_
    refine SeqK.nx (by assumption) ?_
    refine k_lin (fun W K => ?_)
    refine l_op 0 rfl rfl rfl rfl rfl ?_
    (first | refine l_a64 rfl rfl rfl (by omega) rfl ?_ | refine l_a32 rfl rfl rfl (by omega) rfl ?_ | refine l_a8 rfl rfl rfl (by omega) rfl ?_ | refine l_au64 rfl rfl rfl (by omega) rfl ?_ | refine l_op 1 rfl rfl rfl rfl rfl ?_)
    refine l_op 0 rfl rfl rfl rfl rfl ?_
    refine l_nil (WK.nx (by assumption) ?_)
    have e1 : (i + 1).toNat = i.toNat + 1 := by omega
    rw [stB_take (by omega), ← e1] at F
    exact K0.nx (i + 1, b', N + 4, d') (by repeat (first | exact trivial | refine And.intro rfl ?_)) ⟨F, by omega, by omega, by omega⟩ (by first | omega | (simp only; omega))
  replace hc3 := of_decide_eq_false ((irr_eq _).symm.trans hc3)
  obtain rfl : N = 24 + 4 * l := by omega
  rw [List.take_of_length_le (by omega)] at F
  have h0 : ∀ ws : List Int, (true = true → (0 : Int) + at4 (stB ws) 0 ≤ ((24 + 4 * l : Nat) : Int)) := fun ws _ => by rw [stB_at0]; omega
  refine k_exit ?_
  refine SeqK.et (by assumption) ?_
  refine LoopK.et (by assumption) ?_
  refine BlkK.et (by assumption) ?_
  refine SeqK.nx (by assumption) ?_
  refine k_seq (fun Q K => ?_)
  refine k_lin (fun W K => ?_)
  refine l_op 0 rfl rfl rfl rfl rfl ?_
  refine l_callp F rfl rfl (by kernel_rfl) rfl rfl (bytes_call (F.cel0 0 rfl) (Old.pure (F.has 1 rfl)) (by omega)) (fun y36 s F _ => ?_)
  (try dsimp only [n_1, n_2, n_3, n_4, List.append_nil, pk, n_5, n_6] at F)
  refine l_op 0 rfl rfl rfl rfl rfl ?_
  refine l_nil (WK.nx (by assumption) ?_)
  refine SeqK.nx (by assumption) ?_
  refine k_seq (fun Q K => ?_)
  refine k_lin (fun W K => ?_)
  refine l_op 0 rfl rfl rfl rfl rfl ?_
  refine l_op 0 rfl rfl rfl rfl rfl ?_
  refine l_op 0 rfl rfl rfl rfl rfl ?_
  refine l_call F [0, 1] [2] (by decide) rfl rfl (by kernel_rfl) rfl rfl (roll_call (F.sub [0, 1] (by decide)) (stB_bytes vs) (by omega) (by omega) (by omega) (h0 vs) ⟨n0, n1⟩ ⟨k0, k1⟩) hD (fun _ s F _ => ?_)
  (try dsimp only [n_1, n_2, n_3, n_4, List.append_nil, pk, n_5, n_6] at F)
  have hr1 := stB_roll (vs := vs) (k := k) n0
  have hh1 := stB_holds vs n
  rw [hvl] at hr1 hh1
  rw [hr1] at F
  rw [hh1]
  refine l_op 0 rfl rfl rfl rfl rfl ?_
  refine l_nil (WK.nx (by assumption) ?_)
  refine SeqK.nx (by assumption) ?_
  refine k_seq (fun Q K => ?_)
  refine k_seq (fun Q K => ?_)
  refine k_lin (fun W K => ?_)
  refine l_op 0 rfl rfl rfl rfl rfl ?_
  (first | refine l_c64 rfl rfl rfl (by omega) rfl ?_ | refine l_c32 rfl rfl rfl (by omega) rfl ?_ | refine l_c8 rfl rfl rfl (by omega) rfl ?_ | refine l_cu64 rfl rfl rfl (by omega) rfl ?_ | refine l_str rfl rfl rfl rfl rfl (F.old (by assumption)) ?_ | refine l_str rfl rfl rfl rfl rfl (F.has 0 rfl) ?_ | refine l_str rfl rfl rfl rfl rfl (F.has 1 rfl) ?_ | refine l_str rfl rfl rfl rfl rfl (F.has 2 rfl) ?_ | refine l_op 16 rfl rfl rfl rfl rfl ?_)
  refine l_op 0 rfl rfl rfl rfl rfl ?_
  first | refine l_op 2 rfl rfl rfl rfl rfl ?_ | refine l_ln rfl rfl rfl rfl ?_
  (first | refine l_c64 rfl rfl rfl (by omega) rfl ?_ | refine l_c32 rfl rfl rfl (by omega) rfl ?_ | refine l_c8 rfl rfl rfl (by omega) rfl ?_ | refine l_cu64 rfl rfl rfl (by omega) rfl ?_ | refine l_str rfl rfl rfl rfl rfl (F.old (by assumption)) ?_ | refine l_str rfl rfl rfl rfl rfl (F.has 0 rfl) ?_ | refine l_str rfl rfl rfl rfl rfl (F.has 1 rfl) ?_ | refine l_str rfl rfl rfl rfl rfl (F.has 2 rfl) ?_ | refine l_op 16 rfl rfl rfl rfl rfl ?_)
  refine l_cmp rfl rfl rfl rfl ?_
  refine l_nil (WK.nx (by assumption) ?_)
  refine SeqK.nx (by assumption) ?_
  refine l_cond rfl rfl (fun hc5 => ?_) (fun hc5 => ?_)
  · replace hc5 := of_decide_eq_true ((irr_eq _).symm.trans hc5)
    have hng : ¬ (n ≤ (vs.length : Int) ∧ n ≠ 0) := by omega
    have hv0 : rollV vs n k = vs := if_neg hng
    rw [hv0] at F
    rw [if_pos (show (l : Int) < n by omega)]
    refine k_seq (fun Q K => ?_)
    refine k_lin (fun W K => ?_)
    refine l_op 0 rfl rfl rfl rfl rfl ?_
    refine l_callv rfl rfl (by kernel_rfl) rfl rfl num_call ?_
    (try dsimp only [n_1, n_2, n_3, n_4, List.append_nil, pk, n_5, n_6] at F)
    refine l_cmp rfl rfl rfl rfl ?_
    refine l_op 0 rfl rfl rfl rfl rfl ?_
    refine l_guard rfl rfl rfl (fun hc6 => ?_) (fun hc6 => ?_)
    · first | replace hc6 := eq_of_beq ((irr_eq _).symm.trans hc6) | simp only [irr_eq, beq_iff_eq, beq_eq_false_iff_ne, ne_eq, decide_eq_true_eq, decide_eq_false_iff_not] at hc6
      refine l_op 0 rfl rfl rfl rfl rfl ?_
      refine l_callp F rfl rfl (by kernel_rfl) rfl rfl (bytes_call (F.cel0 1 rfl) (Old.pure (F.has 2 rfl)) (by omega)) (fun y52 s F _ => ?_)
      (try dsimp only [n_1, n_2, n_3, n_4, List.append_nil, pk, n_5, n_6] at F)
      refine l_op 0 rfl rfl rfl rfl rfl ?_
      refine l_callp F rfl rfl (by kernel_rfl) rfl rfl (same_call (Old.pure (F.has 3 rfl)) (Old.pure (F.has 0 rfl))) (fun _ s F _ => ?_)
      (try dsimp only [n_1, n_2, n_3, n_4, List.append_nil, pk, n_5, n_6] at F)
      refine l_op 2 rfl rfl rfl rfl rfl ?_
      refine l_op 0 rfl rfl rfl rfl rfl ?_
      refine l_guard rfl rfl rfl (fun hc7 => ?_) (fun hc7 => ?_)
      · try simp only [irr_eq, beq_iff_eq, bne_iff_ne, beq_eq_false_iff_ne, bne_eq_false_iff_eq, ne_eq, decide_eq_true_eq, decide_eq_false_iff_not, Bool.not_eq_true', Bool.not_eq_false'] at hc7
        refine l_callv rfl rfl (by kernel_rfl) rfl rfl (live_call _ _) ?_
        (try dsimp only [n_1, n_2, n_3, n_4, List.append_nil, pk, n_5, n_6] at F)
        refine l_op 2 rfl rfl rfl rfl rfl ?_
        refine l_op 0 rfl rfl rfl rfl rfl ?_
        refine l_nil (WK.nx (by assumption) ?_)
        refine SeqK.nx (by assumption) ?_
        refine k_ret ?_
        refine SeqK.rt (by assumption) ?_
        refine FunK.rt (by assumption) rfl ?_
        -- leaf 3
        first
        | rfl
        | exact absurd (hh3 (by omega)) (by assumption)
        | exact absurd ((eqS_self (stB vs)).symm.trans (by assumption)) (by decide)
        | exact absurd ((hks (by omega)).symm.trans (by assumption)) (by decide)
        | (exfalso; simp_all; done)
      try simp only [irr_eq, beq_iff_eq, bne_iff_ne, beq_eq_false_iff_ne, bne_eq_false_iff_eq, ne_eq, decide_eq_true_eq, decide_eq_false_iff_not, Bool.not_eq_true', Bool.not_eq_false'] at hc7
      refine l_s rfl rfl ?_
      refine l_op 2 rfl rfl rfl rfl rfl ?_
      refine l_op 0 rfl rfl rfl rfl rfl ?_
      refine l_nil (WK.nx (by assumption) ?_)
      refine SeqK.nx (by assumption) ?_
      refine k_ret ?_
      refine SeqK.rt (by assumption) ?_
      refine FunK.rt (by assumption) rfl ?_
      -- leaf 4
      first
      | rfl
      | exact absurd (hh3 (by omega)) (by assumption)
      | exact absurd ((eqS_self (stB vs)).symm.trans (by assumption)) (by decide)
      | exact absurd ((hks (by omega)).symm.trans (by assumption)) (by decide)
      | (exfalso; simp_all; done)
    first | replace hc6 := ne_of_beq_false ((irr_eq _).symm.trans hc6) | simp only [irr_eq, beq_iff_eq, beq_eq_false_iff_ne, ne_eq, decide_eq_true_eq, decide_eq_false_iff_not] at hc6
    refine l_s rfl rfl ?_
    refine l_s rfl rfl ?_
    refine l_s rfl rfl ?_
    refine l_s rfl rfl ?_
    refine l_op 2 rfl rfl rfl rfl rfl ?_
    refine l_op 0 rfl rfl rfl rfl rfl ?_
    refine l_s rfl rfl ?_
    refine l_op 2 rfl rfl rfl rfl rfl ?_
    refine l_op 0 rfl rfl rfl rfl rfl ?_
    refine l_nil (WK.nx (by assumption) ?_)
    refine SeqK.nx (by assumption) ?_
    refine k_ret ?_
    refine SeqK.rt (by assumption) ?_
    refine FunK.rt (by assumption) rfl ?_
    -- leaf 5
    first
    | rfl
    | exact absurd (hh3 (by omega)) (by assumption)
    | exact absurd ((eqS_self (stB vs)).symm.trans (by assumption)) (by decide)
    | exact absurd ((hks (by omega)).symm.trans (by assumption)) (by decide)
    | (exfalso; simp_all; done)
  replace hc5 := of_decide_eq_false ((irr_eq _).symm.trans hc5)
  rw [if_neg (show ¬ (l : Int) < n by omega)]
  refine k_skip ?_
  refine SeqK.nx (by assumption) ?_
  refine k_seq (fun Q K => ?_)
  refine k_lin (fun W K => ?_)
  refine l_op 0 rfl rfl rfl rfl rfl ?_
  obtain ⟨ws, hws⟩ : ∃ ws, rollV vs n k = ws := ⟨_, rfl⟩
  have hwl : ws.length = l := by rw [← hws, rollV_len n0, hvl]
  have hwU : Words ws := by rw [← hws]; exact rollV_words hU
  rw [hws] at F
  have hh2 := stB_holds ws (0 + 1)
  rw [hwl] at hh2
  have hp : n > 0 → peekR true (stB ws) (24 + 4 * l) 0 0 = vs.getD (l - 1 - rollN n k).toNat 0 := fun hn => by
    have hb := rollN_bd (cnt := n) (k := k) hn
    unfold peekR
    rw [hh2, if_neg (show ¬ (l : Int) < 0 + 1 by omega), if_pos rfl, show (((24 + 4 * l : Nat) : Int) - 4 - 4 * 0) = ((24 + 4 * (l - 1) : Nat) : Int) by omega, stB_top hwU (by omega), ← hws]
    have e : rollV vs n k = rollW vs n.toNat (rollN n k).toNat := if_pos ⟨by omega, by omega⟩
    have e2 := rollW_last (vs := vs) (n := n.toNat) (b := (rollN n k).toNat) ⟨by omega, by omega⟩
    rw [hvl] at e2
    rw [e, e2, show l - 1 - (rollN n k).toNat = ((l : Int) - 1 - rollN n k).toNat by omega]
  have hh3 : n > 0 → (if (l : Int) < 0 + 1 then (101 : Int) else 0) = 0 := fun hn => if_neg (by omega)
  refine l_callp F rfl rfl (by kernel_rfl) rfl rfl (peek_call (i := 0) (F.cel0 1 rfl) (Old.pure (F.has 2 rfl)) (stB_bytes _) (by omega) (by omega) (by omega) (h0 ws) ⟨by omega, by omega⟩) (fun _ s F _ => ?_)
  (try dsimp only [n_1, n_2, n_3, n_4, List.append_nil, pk, n_5, n_6] at F)
  rw [hh2]
  refine l_op 0 rfl rfl rfl rfl rfl ?_
  refine l_op 2 rfl rfl rfl rfl rfl ?_
  refine l_op 2 rfl rfl rfl rfl rfl ?_
  refine l_op 0 rfl rfl rfl rfl rfl ?_
  refine l_op 0 rfl rfl rfl rfl rfl ?_
  refine l_nil (WK.nx (by assumption) ?_)
  refine SeqK.nx (by assumption) ?_
  refine k_seq (fun Q K => ?_)
  refine k_seq (fun Q K => ?_)
  refine k_lin (fun W K => ?_)
  refine l_op 0 rfl rfl rfl rfl rfl ?_
  refine l_callv rfl rfl (by kernel_rfl) rfl rfl num_call ?_
  (try dsimp only [n_1, n_2, n_3, n_4, List.append_nil, pk, n_5, n_6] at F)
  refine l_cmp rfl rfl rfl rfl ?_
  refine l_op 0 rfl rfl rfl rfl rfl ?_
  refine l_guard rfl rfl rfl (fun hc8 => ?_) (fun hc8 => ?_)
  · first | replace hc8 := bne_iff_ne.1 ((irr_eq _).symm.trans hc8) | simp only [irr_eq, bne_iff_ne, bne_eq_false_iff_eq, ne_eq, decide_eq_true_eq, decide_eq_false_iff_not, Bool.not_eq_true', Bool.not_eq_false'] at hc8
    refine l_s rfl rfl ?_
    refine l_s rfl rfl ?_
    refine l_s rfl rfl ?_
    refine l_s rfl rfl ?_
    refine l_s rfl rfl ?_
    refine l_s rfl rfl ?_
    refine l_s rfl rfl ?_
    refine l_op 2 rfl rfl rfl rfl rfl ?_
    refine l_nil (WK.nx (by assumption) ?_)
    refine SeqK.nx (by assumption) ?_
    first | refine e_cond_t rfl rfl rfl ?_ | refine e_cond_t rfl rfl (by rw [irr_eq]; first | exact beq_iff_eq.2 (by assumption) | exact decide_eq_true (by assumption) | exact bne_iff_ne.2 (by assumption)) ?_
    refine k_seq (fun Q K => ?_)
    refine k_lin (fun W K => ?_)
    refine l_op 0 rfl rfl rfl rfl rfl ?_
    refine l_nil (WK.nx (by assumption) ?_)
    refine SeqK.nx (by assumption) ?_
    refine k_ret ?_
    refine SeqK.rt (by assumption) ?_
    refine FunK.rt (by assumption) rfl ?_
    -- leaf 6
    first
    | rfl
    | exact absurd (hh3 (by omega)) (by assumption)
    | exact absurd ((eqS_self (stB vs)).symm.trans (by assumption)) (by decide)
    | exact absurd ((hks (by omega)).symm.trans (by assumption)) (by decide)
    | (exfalso; simp_all; done)
  first | replace hc8 := bne_eq_false_iff_eq.1 ((irr_eq _).symm.trans hc8) | simp only [irr_eq, bne_iff_ne, bne_eq_false_iff_eq, ne_eq, decide_eq_true_eq, decide_eq_false_iff_not, Bool.not_eq_true', Bool.not_eq_false'] at hc8
  refine l_op 0 rfl rfl rfl rfl rfl ?_
  refine l_cmp rfl rfl rfl rfl ?_
  refine l_op 0 rfl rfl rfl rfl rfl ?_
  refine l_guard rfl rfl rfl (fun hc9 => ?_) (fun hc9 => ?_)
  · replace hc9 := of_decide_eq_true ((irr_eq _).symm.trans hc9)
    refine l_op 0 rfl rfl rfl rfl rfl ?_
    refine l_callv rfl rfl (by kernel_rfl) rfl rfl num_call ?_
    (try dsimp only [n_1, n_2, n_3, n_4, List.append_nil, pk, n_5, n_6] at F)
    refine l_cmp rfl rfl rfl rfl ?_
    refine l_op 2 rfl rfl rfl rfl rfl ?_
    refine l_op 2 rfl rfl rfl rfl rfl ?_
    refine l_nil (WK.nx (by assumption) ?_)
    refine SeqK.nx (by assumption) ?_
    refine l_cond rfl rfl (fun hc10 => ?_) (fun hc10 => ?_)
    · first | replace hc10 := bne_iff_ne.1 ((irr_eq _).symm.trans hc10) | simp only [irr_eq, bne_iff_ne, bne_eq_false_iff_eq, ne_eq, decide_eq_true_eq, decide_eq_false_iff_not, Bool.not_eq_true', Bool.not_eq_false'] at hc10
      refine k_seq (fun Q K => ?_)
      refine k_lin (fun W K => ?_)
      refine l_op 0 rfl rfl rfl rfl rfl ?_
      refine l_nil (WK.nx (by assumption) ?_)
      refine SeqK.nx (by assumption) ?_
      refine k_ret ?_
      refine SeqK.rt (by assumption) ?_
      refine FunK.rt (by assumption) rfl ?_
      -- leaf 7
      first
      | rfl
      | exact absurd (hh3 (by omega)) (by assumption)
      | exact absurd ((eqS_self (stB vs)).symm.trans (by assumption)) (by decide)
      | exact absurd ((hks (by omega)).symm.trans (by assumption)) (by decide)
      | (exfalso; simp_all; done)
    first | replace hc10 := bne_eq_false_iff_eq.1 ((irr_eq _).symm.trans hc10) | simp only [irr_eq, bne_iff_ne, bne_eq_false_iff_eq, ne_eq, decide_eq_true_eq, decide_eq_false_iff_not, Bool.not_eq_true', Bool.not_eq_false'] at hc10
    refine k_skip ?_
    refine SeqK.nx (by assumption) ?_
    refine k_seq (fun Q K => ?_)
    refine k_seq (fun Q K => ?_)
    refine k_lin (fun W K => ?_)
    refine l_op 0 rfl rfl rfl rfl rfl ?_
    refine l_cmp rfl rfl rfl rfl ?_
    refine l_nil (WK.nx (by assumption) ?_)
    refine SeqK.nx (by assumption) ?_
    refine l_cond rfl rfl (fun hc11 => ?_) (fun hc11 => ?_)
    · replace hc11 := of_decide_eq_true ((irr_eq _).symm.trans hc11)
      have hmod : ((si k).tmod n + n) % n = rollN n k := by
        have h2 := Int.lt_tmod_of_pos (si k) (show 0 < n by omega)
        exact (Int.tmod_eq_emod_of_nonneg (by omega)).symm.trans (rollN_law (by omega))
      have hm1 := Int.tmod_lt_of_pos (si k) (show 0 < n by omega)
      have hm2 := Int.lt_tmod_of_pos (si k) (show 0 < n by omega)
      have hb := rollN_bd (cnt := n) (k := k) (by omega)
      refine k_seq (fun Q K => ?_)
      refine k_lin (fun W K => ?_)
      refine l_op 0 rfl rfl rfl rfl rfl ?_
      refine l_callp F rfl rfl (by kernel_rfl) rfl rfl (rint_call ⟨k0, k1⟩) (fun _ s F _ => ?_)
      (try dsimp only [n_1, n_2, n_3, n_4, List.append_nil, pk, n_5, n_6] at F)
      refine l_op 0 rfl rfl rfl rfl rfl ?_
      (first | refine l_c64 rfl rfl rfl (by omega) rfl ?_ | refine l_c32 rfl rfl rfl (by omega) rfl ?_ | refine l_c8 rfl rfl rfl (by omega) rfl ?_ | refine l_cu64 rfl rfl rfl (by omega) rfl ?_ | refine l_str rfl rfl rfl rfl rfl (F.old (by assumption)) ?_ | refine l_str rfl rfl rfl rfl rfl (F.has 0 rfl) ?_ | refine l_str rfl rfl rfl rfl rfl (F.has 1 rfl) ?_ | refine l_str rfl rfl rfl rfl rfl (F.has 2 rfl) ?_ | refine l_op 16 rfl rfl rfl rfl rfl ?_)
      refine l_rem rfl rfl rfl rfl rfl (by omega) rfl ?_
      refine l_op 0 rfl rfl rfl rfl rfl ?_
      refine l_nil (WK.nx (by assumption) ?_)
      refine SeqK.nx (by assumption) ?_
      refine k_seq (fun Q K => ?_)
      refine k_lin (fun W K => ?_)
      refine l_op 0 rfl rfl rfl rfl rfl ?_
      refine l_op 0 rfl rfl rfl rfl rfl ?_
      refine l_op 0 rfl rfl rfl rfl rfl ?_
      first | refine l_op 2 rfl rfl rfl rfl rfl ?_ | refine l_ln rfl rfl rfl rfl ?_
      (first | refine l_a64 rfl rfl rfl (by omega) rfl ?_ | refine l_a32 rfl rfl rfl (by omega) rfl ?_ | refine l_a8 rfl rfl rfl (by omega) rfl ?_ | refine l_au64 rfl rfl rfl (by omega) rfl ?_ | refine l_op 1 rfl rfl rfl rfl rfl ?_)
      refine l_op 0 rfl rfl rfl rfl rfl ?_
      refine l_op 0 rfl rfl rfl rfl rfl ?_
      (first | refine l_c64 rfl rfl rfl (by omega) rfl ?_ | refine l_c32 rfl rfl rfl (by omega) rfl ?_ | refine l_c8 rfl rfl rfl (by omega) rfl ?_ | refine l_cu64 rfl rfl rfl (by omega) rfl ?_ | refine l_str rfl rfl rfl rfl rfl (F.old (by assumption)) ?_ | refine l_str rfl rfl rfl rfl rfl (F.has 0 rfl) ?_ | refine l_str rfl rfl rfl rfl rfl (F.has 1 rfl) ?_ | refine l_str rfl rfl rfl rfl rfl (F.has 2 rfl) ?_ | refine l_op 16 rfl rfl rfl rfl rfl ?_)
      (first | refine l_a64 rfl rfl rfl (by omega) rfl ?_ | refine l_a32 rfl rfl rfl (by omega) rfl ?_ | refine l_a8 rfl rfl rfl (by omega) rfl ?_ | refine l_au64 rfl rfl rfl (by omega) rfl ?_ | refine l_op 1 rfl rfl rfl rfl rfl ?_)
      refine l_op 0 rfl rfl rfl rfl rfl ?_
      (first | refine l_c64 rfl rfl rfl (by omega) rfl ?_ | refine l_c32 rfl rfl rfl (by omega) rfl ?_ | refine l_c8 rfl rfl rfl (by omega) rfl ?_ | refine l_cu64 rfl rfl rfl (by omega) rfl ?_ | refine l_str rfl rfl rfl rfl rfl (F.old (by assumption)) ?_ | refine l_str rfl rfl rfl rfl rfl (F.has 0 rfl) ?_ | refine l_str rfl rfl rfl rfl rfl (F.has 1 rfl) ?_ | refine l_str rfl rfl rfl rfl rfl (F.has 2 rfl) ?_ | refine l_op 16 rfl rfl rfl rfl rfl ?_)
      refine l_remn rfl rfl rfl rfl rfl (by omega) rfl ?_
      rw [hmod]
      (first | refine l_a64 rfl rfl rfl (by omega) rfl ?_ | refine l_a32 rfl rfl rfl (by omega) rfl ?_ | refine l_a8 rfl rfl rfl (by omega) rfl ?_ | refine l_au64 rfl rfl rfl (by omega) rfl ?_ | refine l_op 1 rfl rfl rfl rfl rfl ?_)
      first | refine l_ixi rfl rfl rfl rfl rfl rfl (F.old (by assumption)) (by omega) (fun m96 b96 hA96 => ?_) | (refine l_ixoi F 0 rfl rfl rfl rfl rfl rfl rfl (by omega) (fun m e ha hA96 => ?_); cases ha) | (refine l_ixoi F 1 rfl rfl rfl rfl rfl rfl rfl (by omega) (fun m e ha hA96 => ?_); cases ha) | (refine l_ixoi F 2 rfl rfl rfl rfl rfl rfl rfl (by omega) (fun m e ha hA96 => ?_); cases ha) | (refine l_ixoi F 3 rfl rfl rfl rfl rfl rfl rfl (by omega) (fun m e ha hA96 => ?_); cases ha)
      (first | refine l_ld0 rfl rfl rfl rfl rfl (by assumption) ?_ | refine l_ldj rfl rfl rfl rfl rfl rfl (by assumption) rfl ?_ | refine l_ldc F 0 rfl rfl rfl rfl rfl rfl rfl ?_ | refine l_ldc F 1 rfl rfl rfl rfl rfl rfl rfl ?_ | refine l_ldc F 2 rfl rfl rfl rfl rfl rfl rfl ?_ | refine l_ldc F 3 rfl rfl rfl rfl rfl rfl rfl ?_ | refine l_ldc F 4 rfl rfl rfl rfl rfl rfl rfl ?_ | refine l_ldc F 5 rfl rfl rfl rfl rfl rfl rfl ?_ | refine l_ldc F 6 rfl rfl rfl rfl rfl rfl rfl ?_ | refine l_ldc F 7 rfl rfl rfl rfl rfl rfl rfl ?_ | refine l_ldc F 8 rfl rfl rfl rfl rfl rfl rfl ?_ | refine l_ldc F 9 rfl rfl rfl rfl rfl rfl rfl ?_ | refine l_lda rfl rfl rfl rfl rfl (by assumption) ?_ | refine l_ldca F 0 rfl rfl rfl rfl rfl rfl rfl ?_ | refine l_ldca F 1 rfl rfl rfl rfl rfl rfl rfl ?_ | refine l_ldca F 2 rfl rfl rfl rfl rfl rfl rfl ?_ | refine l_ldca F 3 rfl rfl rfl rfl rfl rfl rfl ?_ | refine l_ldca F 4 rfl rfl rfl rfl rfl rfl rfl ?_ | refine l_ldca F 5 rfl rfl rfl rfl rfl rfl rfl ?_ | refine l_ldca F 6 rfl rfl rfl rfl rfl rfl rfl ?_ | refine l_ldca F 7 rfl rfl rfl rfl rfl rfl rfl ?_ | refine l_ldca F 8 rfl rfl rfl rfl rfl rfl rfl ?_ | refine l_ldca F 9 rfl rfl rfl rfl rfl rfl rfl ?_ | refine l_ldo F (by assumption) rfl rfl rfl rfl rfl rfl ?_ | refine l_ldoa F (by assumption) rfl rfl rfl rfl rfl rfl ?_)
      refine l_cmp rfl rfl rfl rfl ?_
      refine l_nil (WK.nx (by assumption) ?_)
      refine SeqK.nx (by assumption) ?_
      refine l_cond rfl rfl (fun hc12 => ?_) (fun hc12 => ?_)
      · first | replace hc12 := bne_iff_ne.1 ((irr_eq _).symm.trans hc12) | simp only [irr_eq, bne_iff_ne, bne_eq_false_iff_eq, ne_eq, decide_eq_true_eq, decide_eq_false_iff_not, Bool.not_eq_true', Bool.not_eq_false'] at hc12
        exact absurd (hp (by omega)) (by assumption)
      first | replace hc12 := bne_eq_false_iff_eq.1 ((irr_eq _).symm.trans hc12) | simp only [irr_eq, bne_iff_ne, bne_eq_false_iff_eq, ne_eq, decide_eq_true_eq, decide_eq_false_iff_not, Bool.not_eq_true', Bool.not_eq_false'] at hc12
      refine k_skip ?_
      refine SeqK.nx (by assumption) ?_
      refine k_seq (fun Q K => ?_)
      refine k_seq (fun Q K => ?_)
      refine k_lin (fun W K => ?_)
      refine l_op 0 rfl rfl rfl rfl rfl ?_
      refine l_op 0 rfl rfl rfl rfl rfl ?_
      refine l_op 0 rfl rfl rfl rfl rfl ?_
      refine l_op 2 rfl rfl rfl rfl rfl ?_
      have hk2 : k ≠ 2147483648 → rollV ws n (ngW k) = vs := fun hk => by rw [← hws]; exact rollV_back n0 ⟨k0, k1⟩ hk
      have hr2 := stB_roll (vs := ws) (k := ngW k) n0
      have hh4 := stB_holds ws n
      have hl3 := rollV_len (vs := ws) (k := ngW k) n0
      rw [hwl] at hr2 hh4 hl3
      have hngk : U32 (ngW k) := ⟨by unfold ngW; omega, by unfold ngW; omega⟩
      have hng0 : IntKind.u32.wrap (0 - k) = ngW k := by rw [Int.zero_sub]; rfl
      rw [hng0]
      refine l_call F [1, 2] [0] (by decide) rfl rfl (by kernel_rfl) rfl rfl (roll_call (k := ngW k) (F.sub [1, 2] (by decide)) (stB_bytes ws) (by omega) (by omega) (by omega) (h0 ws) ⟨n0, n1⟩ hngk) hD (fun _ s F _ => ?_)
      (try dsimp only [n_1, n_2, n_3, n_4, List.append_nil, pk, n_5, n_6] at F)
      obtain ⟨us, hus⟩ : ∃ us, rollV ws n (ngW k) = us := ⟨_, rfl⟩
      rw [hus] at hk2 hl3
      have hks : k ≠ 2147483648 → eqS (stB us) (stB vs) = true := fun hk => by rw [hk2 hk]; exact eqS_self _
      rw [hr2, hus] at F
      rw [hh4, if_neg (show ¬ (l : Int) < n by omega)]
      refine l_callv rfl rfl (by kernel_rfl) rfl rfl num_call ?_
      (try dsimp only [n_1, n_2, n_3, n_4, List.append_nil, pk, n_5, n_6] at F)
      refine l_cmp rfl rfl rfl rfl ?_
      refine l_op 0 rfl rfl rfl rfl rfl ?_
      refine l_guard rfl rfl rfl (fun hc13 => ?_) (fun hc13 => ?_)
      · first | replace hc13 := bne_iff_ne.1 ((irr_eq _).symm.trans hc13) | simp only [irr_eq, bne_iff_ne, bne_eq_false_iff_eq, ne_eq, decide_eq_true_eq, decide_eq_false_iff_not, Bool.not_eq_true', Bool.not_eq_false'] at hc13
        refine l_s rfl rfl ?_
        refine l_s rfl rfl ?_
        refine l_s rfl rfl ?_
        refine l_s rfl rfl ?_
        refine l_s rfl rfl ?_
        refine l_s rfl rfl ?_
        refine l_s rfl rfl ?_
        refine l_s rfl rfl ?_
        refine l_s rfl rfl ?_
        refine l_op 2 rfl rfl rfl rfl rfl ?_
        refine l_nil (WK.nx (by assumption) ?_)
        refine SeqK.nx (by assumption) ?_
        first | refine e_cond_t rfl rfl rfl ?_ | refine e_cond_t rfl rfl (by rw [irr_eq]; first | exact beq_iff_eq.2 (by assumption) | exact decide_eq_true (by assumption) | exact bne_iff_ne.2 (by assumption)) ?_
        refine k_seq (fun Q K => ?_)
        refine k_lin (fun W K => ?_)
        refine l_op 0 rfl rfl rfl rfl rfl ?_
        refine l_nil (WK.nx (by assumption) ?_)
        refine SeqK.nx (by assumption) ?_
        refine k_ret ?_
        refine SeqK.rt (by assumption) ?_
        refine FunK.rt (by assumption) rfl ?_
        -- leaf 8
        first
        | rfl
        | exact absurd (hh3 (by omega)) (by assumption)
        | exact absurd ((eqS_self (stB vs)).symm.trans (by assumption)) (by decide)
        | exact absurd ((hks (by omega)).symm.trans (by assumption)) (by decide)
        | (exfalso; simp_all; done)
      first | replace hc13 := bne_eq_false_iff_eq.1 ((irr_eq _).symm.trans hc13) | simp only [irr_eq, bne_iff_ne, bne_eq_false_iff_eq, ne_eq, decide_eq_true_eq, decide_eq_false_iff_not, Bool.not_eq_true', Bool.not_eq_false'] at hc13
      refine l_op 0 rfl rfl rfl rfl rfl ?_
      refine l_callp F rfl rfl (by kernel_rfl) rfl rfl (bytes_call (F.cel0 1 rfl) (Old.pure (F.has 2 rfl)) (by omega)) (fun y108 s F _ => ?_)
      (try dsimp only [n_1, n_2, n_3, n_4, List.append_nil, pk, n_5, n_6] at F)
      refine l_op 0 rfl rfl rfl rfl rfl ?_
      refine l_callp F rfl rfl (by kernel_rfl) rfl rfl (same_call (Old.pure (F.has 3 rfl)) (Old.pure (F.has 0 rfl))) (fun _ s F _ => ?_)
      (try dsimp only [n_1, n_2, n_3, n_4, List.append_nil, pk, n_5, n_6] at F)
      refine l_op 2 rfl rfl rfl rfl rfl ?_
      refine l_op 0 rfl rfl rfl rfl rfl ?_
      refine l_guard rfl rfl rfl (fun hc14 => ?_) (fun hc14 => ?_)
      · try simp only [irr_eq, beq_iff_eq, bne_iff_ne, beq_eq_false_iff_ne, bne_eq_false_iff_eq, ne_eq, decide_eq_true_eq, decide_eq_false_iff_not, Bool.not_eq_true', Bool.not_eq_false'] at hc14
        refine l_op 0 rfl rfl rfl rfl rfl ?_
        refine l_cmp rfl rfl rfl rfl ?_
        refine l_op 2 rfl rfl rfl rfl rfl ?_
        refine l_op 2 rfl rfl rfl rfl rfl ?_
        refine l_nil (WK.nx (by assumption) ?_)
        refine SeqK.nx (by assumption) ?_
        refine l_cond rfl rfl (fun hc15 => ?_) (fun hc15 => ?_)
        · first | replace hc15 := bne_iff_ne.1 ((irr_eq _).symm.trans hc15) | simp only [irr_eq, bne_iff_ne, bne_eq_false_iff_eq, ne_eq, decide_eq_true_eq, decide_eq_false_iff_not, Bool.not_eq_true', Bool.not_eq_false'] at hc15
          refine k_seq (fun Q K => ?_)
          refine k_lin (fun W K => ?_)
          refine l_op 0 rfl rfl rfl rfl rfl ?_
          refine l_nil (WK.nx (by assumption) ?_)
          refine SeqK.nx (by assumption) ?_
          refine k_ret ?_
          refine SeqK.rt (by assumption) ?_
          refine FunK.rt (by assumption) rfl ?_
          -- leaf 9
          first
          | rfl
          | exact absurd (hh3 (by omega)) (by assumption)
          | exact absurd ((eqS_self (stB vs)).symm.trans (by assumption)) (by decide)
          | exact absurd ((hks (by omega)).symm.trans (by assumption)) (by decide)
          | (exfalso; simp_all; done)
        first | replace hc15 := bne_eq_false_iff_eq.1 ((irr_eq _).symm.trans hc15) | simp only [irr_eq, bne_iff_ne, bne_eq_false_iff_eq, ne_eq, decide_eq_true_eq, decide_eq_false_iff_not, Bool.not_eq_true', Bool.not_eq_false'] at hc15
        refine k_skip ?_
        refine SeqK.nx (by assumption) ?_
        refine k_seq (fun Q K => ?_)
        refine k_lin (fun W K => ?_)
        refine l_op 0 rfl rfl rfl rfl rfl ?_
        refine l_op 0 rfl rfl rfl rfl rfl ?_
        refine l_op 0 rfl rfl rfl rfl rfl ?_
        have hr3 := stB_roll (vs := us) (k := n) n0
        have hh5 := stB_holds us n
        have hsf := rollV_self (vs := us) (n := n) ⟨n0, by omega⟩
        rw [hl3] at hr3 hh5
        refine l_call F [1, 2] [0] (by decide) rfl rfl (by kernel_rfl) rfl rfl (roll_call (k := n) (F.sub [1, 2] (by decide)) (stB_bytes us) (by omega) (by omega) (by omega) (h0 us) ⟨n0, n1⟩ ⟨n0, n1⟩) hD (fun _ s F _ => ?_)
        (try dsimp only [n_1, n_2, n_3, n_4, List.append_nil, pk, n_5, n_6] at F)
        rw [hr3, hsf] at F
        rw [hh5, if_neg (show ¬ (l : Int) < n by omega)]
        refine l_callv rfl rfl (by kernel_rfl) rfl rfl num_call ?_
        (try dsimp only [n_1, n_2, n_3, n_4, List.append_nil, pk, n_5, n_6] at F)
        refine l_cmp rfl rfl rfl rfl ?_
        refine l_op 0 rfl rfl rfl rfl rfl ?_
        refine l_guard rfl rfl rfl (fun hc16 => ?_) (fun hc16 => ?_)
        · first | replace hc16 := eq_of_beq ((irr_eq _).symm.trans hc16) | simp only [irr_eq, beq_iff_eq, beq_eq_false_iff_ne, ne_eq, decide_eq_true_eq, decide_eq_false_iff_not] at hc16
          refine l_op 0 rfl rfl rfl rfl rfl ?_
          refine l_cmp rfl rfl rfl rfl ?_
          refine l_op 0 rfl rfl rfl rfl rfl ?_
          refine l_guard rfl rfl rfl (fun hc17 => ?_) (fun hc17 => ?_)
          · first | replace hc17 := eq_of_beq ((irr_eq _).symm.trans hc17) | simp only [irr_eq, beq_iff_eq, beq_eq_false_iff_ne, ne_eq, decide_eq_true_eq, decide_eq_false_iff_not] at hc17
            refine l_s rfl rfl ?_
            refine l_s rfl rfl ?_
            refine l_s rfl rfl ?_
            refine l_s rfl rfl ?_
            refine l_op 2 rfl rfl rfl rfl rfl ?_
            refine l_op 2 rfl rfl rfl rfl rfl ?_
            refine l_op 0 rfl rfl rfl rfl rfl ?_
            refine l_callv rfl rfl (by kernel_rfl) rfl rfl (live_call _ _) ?_
            (try dsimp only [n_1, n_2, n_3, n_4, List.append_nil, pk, n_5, n_6] at F)
            refine l_op 2 rfl rfl rfl rfl rfl ?_
            refine l_op 0 rfl rfl rfl rfl rfl ?_
            refine l_nil (WK.nx (by assumption) ?_)
            refine SeqK.nx (by assumption) ?_
            refine k_ret ?_
            refine FunK.rt (by assumption) rfl ?_
            -- leaf 10
            first
            | rfl
            | exact absurd (hh3 (by omega)) (by assumption)
            | exact absurd ((eqS_self (stB vs)).symm.trans (by assumption)) (by decide)
            | exact absurd ((hks (by omega)).symm.trans (by assumption)) (by decide)
            | (exfalso; simp_all; done)
          first | replace hc17 := ne_of_beq_false ((irr_eq _).symm.trans hc17) | simp only [irr_eq, beq_iff_eq, beq_eq_false_iff_ne, ne_eq, decide_eq_true_eq, decide_eq_false_iff_not] at hc17
          refine l_op 0 rfl rfl rfl rfl rfl ?_
          refine l_callp F rfl rfl (by kernel_rfl) rfl rfl (bytes_call (F.cel0 1 rfl) (Old.pure (F.has 2 rfl)) (by omega)) (fun y128 s F _ => ?_)
          (try dsimp only [n_1, n_2, n_3, n_4, List.append_nil, pk, n_5, n_6] at F)
          refine l_op 0 rfl rfl rfl rfl rfl ?_
          refine l_callp F rfl rfl (by kernel_rfl) rfl rfl (same_call (Old.pure (F.has 3 rfl)) (Old.pure (F.has 0 rfl))) (fun _ s F _ => ?_)
          (try dsimp only [n_1, n_2, n_3, n_4, List.append_nil, pk, n_5, n_6] at F)
          refine l_op 2 rfl rfl rfl rfl rfl ?_
          refine l_op 2 rfl rfl rfl rfl rfl ?_
          refine l_op 0 rfl rfl rfl rfl rfl ?_
          refine l_guard rfl rfl rfl (fun hc18 => ?_) (fun hc18 => ?_)
          · try simp only [irr_eq, beq_iff_eq, bne_iff_ne, beq_eq_false_iff_ne, bne_eq_false_iff_eq, ne_eq, decide_eq_true_eq, decide_eq_false_iff_not, Bool.not_eq_true', Bool.not_eq_false'] at hc18
            refine l_callv rfl rfl (by kernel_rfl) rfl rfl (live_call _ _) ?_
            (try dsimp only [n_1, n_2, n_3, n_4, List.append_nil, pk, n_5, n_6] at F)
            refine l_op 2 rfl rfl rfl rfl rfl ?_
            refine l_op 0 rfl rfl rfl rfl rfl ?_
            refine l_nil (WK.nx (by assumption) ?_)
            refine SeqK.nx (by assumption) ?_
            refine k_ret ?_
            refine FunK.rt (by assumption) rfl ?_
            -- leaf 11
            first
            | rfl
            | exact absurd (hh3 (by omega)) (by assumption)
            | exact absurd ((eqS_self (stB vs)).symm.trans (by assumption)) (by decide)
            | exact absurd ((hks (by omega)).symm.trans (by assumption)) (by decide)
            | (exfalso; simp_all; done)
          try simp only [irr_eq, beq_iff_eq, bne_iff_ne, beq_eq_false_iff_ne, bne_eq_false_iff_eq, ne_eq, decide_eq_true_eq, decide_eq_false_iff_not, Bool.not_eq_true', Bool.not_eq_false'] at hc18
          refine l_s rfl rfl ?_
          refine l_op 2 rfl rfl rfl rfl rfl ?_
          refine l_op 0 rfl rfl rfl rfl rfl ?_
          refine l_nil (WK.nx (by assumption) ?_)
          refine SeqK.nx (by assumption) ?_
          refine k_ret ?_
          refine FunK.rt (by assumption) rfl ?_
          -- leaf 12
          first
          | rfl
          | exact absurd (hh3 (by omega)) (by assumption)
          | exact absurd ((eqS_self (stB vs)).symm.trans (by assumption)) (by decide)
          | exact absurd ((hks (by omega)).symm.trans (by assumption)) (by decide)
          | (exfalso; simp_all; done)
        first | replace hc16 := ne_of_beq_false ((irr_eq _).symm.trans hc16) | simp only [irr_eq, beq_iff_eq, beq_eq_false_iff_ne, ne_eq, decide_eq_true_eq, decide_eq_false_iff_not] at hc16
        refine l_s rfl rfl ?_
        refine l_s rfl rfl ?_
        refine l_s rfl rfl ?_
        refine l_s rfl rfl ?_
        refine l_s rfl rfl ?_
        refine l_s rfl rfl ?_
        refine l_s rfl rfl ?_
        refine l_s rfl rfl ?_
        refine l_op 2 rfl rfl rfl rfl rfl ?_
        refine l_op 0 rfl rfl rfl rfl rfl ?_
        refine l_s rfl rfl ?_
        refine l_op 2 rfl rfl rfl rfl rfl ?_
        refine l_op 0 rfl rfl rfl rfl rfl ?_
        refine l_nil (WK.nx (by assumption) ?_)
        refine SeqK.nx (by assumption) ?_
        refine k_ret ?_
        refine FunK.rt (by assumption) rfl ?_
        -- leaf 13
        first
        | rfl
        | exact absurd (hh3 (by omega)) (by assumption)
        | exact absurd ((eqS_self (stB vs)).symm.trans (by assumption)) (by decide)
        | exact absurd ((hks (by omega)).symm.trans (by assumption)) (by decide)
        | (exfalso; simp_all; done)
      try simp only [irr_eq, beq_iff_eq, bne_iff_ne, beq_eq_false_iff_ne, bne_eq_false_iff_eq, ne_eq, decide_eq_true_eq, decide_eq_false_iff_not, Bool.not_eq_true', Bool.not_eq_false'] at hc14
      refine l_s rfl rfl ?_
      refine l_s rfl rfl ?_
      refine l_op 2 rfl rfl rfl rfl rfl ?_
      refine l_op 2 rfl rfl rfl rfl rfl ?_
      refine l_nil (WK.nx (by assumption) ?_)
      refine SeqK.nx (by assumption) ?_
      first | refine e_cond_f rfl rfl rfl ?_ | refine e_cond_f rfl rfl (by rw [irr_eq]; first | exact beq_eq_false_iff_ne.2 (by assumption) | exact decide_eq_false (by assumption) | exact bne_eq_false_iff_eq.2 (by assumption)) ?_
      refine k_skip ?_
      refine SeqK.nx (by assumption) ?_
      refine k_seq (fun Q K => ?_)
      refine k_lin (fun W K => ?_)
      refine l_op 0 rfl rfl rfl rfl rfl ?_
      refine l_op 0 rfl rfl rfl rfl rfl ?_
      refine l_op 0 rfl rfl rfl rfl rfl ?_
      have hr3 := stB_roll (vs := us) (k := n) n0
      have hh5 := stB_holds us n
      have hsf := rollV_self (vs := us) (n := n) ⟨n0, by omega⟩
      rw [hl3] at hr3 hh5
      refine l_call F [1, 2] [0] (by decide) rfl rfl (by kernel_rfl) rfl rfl (roll_call (k := n) (F.sub [1, 2] (by decide)) (stB_bytes us) (by omega) (by omega) (by omega) (h0 us) ⟨n0, n1⟩ ⟨n0, n1⟩) hD (fun _ s F _ => ?_)
      (try dsimp only [n_1, n_2, n_3, n_4, List.append_nil, pk, n_5, n_6] at F)
      rw [hr3, hsf] at F
      rw [hh5, if_neg (show ¬ (l : Int) < n by omega)]
      refine l_callv rfl rfl (by kernel_rfl) rfl rfl num_call ?_
      (try dsimp only [n_1, n_2, n_3, n_4, List.append_nil, pk, n_5, n_6] at F)
      refine l_cmp rfl rfl rfl rfl ?_
      refine l_op 0 rfl rfl rfl rfl rfl ?_
      refine l_guard rfl rfl rfl (fun hc19 => ?_) (fun hc19 => ?_)
      · first | replace hc19 := eq_of_beq ((irr_eq _).symm.trans hc19) | simp only [irr_eq, beq_iff_eq, beq_eq_false_iff_ne, ne_eq, decide_eq_true_eq, decide_eq_false_iff_not] at hc19
        refine l_op 0 rfl rfl rfl rfl rfl ?_
        refine l_cmp rfl rfl rfl rfl ?_
        refine l_op 0 rfl rfl rfl rfl rfl ?_
        refine l_guard rfl rfl rfl (fun hc20 => ?_) (fun hc20 => ?_)
        · first | replace hc20 := eq_of_beq ((irr_eq _).symm.trans hc20) | simp only [irr_eq, beq_iff_eq, beq_eq_false_iff_ne, ne_eq, decide_eq_true_eq, decide_eq_false_iff_not] at hc20
          refine l_s rfl rfl ?_
          refine l_s rfl rfl ?_
          refine l_s rfl rfl ?_
          refine l_s rfl rfl ?_
          refine l_op 2 rfl rfl rfl rfl rfl ?_
          refine l_op 2 rfl rfl rfl rfl rfl ?_
          refine l_op 0 rfl rfl rfl rfl rfl ?_
          refine l_callv rfl rfl (by kernel_rfl) rfl rfl (live_call _ _) ?_
          (try dsimp only [n_1, n_2, n_3, n_4, List.append_nil, pk, n_5, n_6] at F)
          refine l_op 2 rfl rfl rfl rfl rfl ?_
          refine l_op 0 rfl rfl rfl rfl rfl ?_
          refine l_nil (WK.nx (by assumption) ?_)
          refine SeqK.nx (by assumption) ?_
          refine k_ret ?_
          refine FunK.rt (by assumption) rfl ?_
          -- leaf 14
          first
          | rfl
          | exact absurd (hh3 (by omega)) (by assumption)
          | exact absurd ((eqS_self (stB vs)).symm.trans (by assumption)) (by decide)
          | exact absurd ((hks (by omega)).symm.trans (by assumption)) (by decide)
          | (exfalso; simp_all; done)
        first | replace hc20 := ne_of_beq_false ((irr_eq _).symm.trans hc20) | simp only [irr_eq, beq_iff_eq, beq_eq_false_iff_ne, ne_eq, decide_eq_true_eq, decide_eq_false_iff_not] at hc20
        refine l_op 0 rfl rfl rfl rfl rfl ?_
        refine l_callp F rfl rfl (by kernel_rfl) rfl rfl (bytes_call (F.cel0 1 rfl) (Old.pure (F.has 2 rfl)) (by omega)) (fun y128 s F _ => ?_)
        (try dsimp only [n_1, n_2, n_3, n_4, List.append_nil, pk, n_5, n_6] at F)
        refine l_op 0 rfl rfl rfl rfl rfl ?_
        refine l_callp F rfl rfl (by kernel_rfl) rfl rfl (same_call (Old.pure (F.has 3 rfl)) (Old.pure (F.has 0 rfl))) (fun _ s F _ => ?_)
        (try dsimp only [n_1, n_2, n_3, n_4, List.append_nil, pk, n_5, n_6] at F)
        refine l_op 2 rfl rfl rfl rfl rfl ?_
        refine l_op 2 rfl rfl rfl rfl rfl ?_
        refine l_op 0 rfl rfl rfl rfl rfl ?_
        refine l_guard rfl rfl rfl (fun hc21 => ?_) (fun hc21 => ?_)
        · try simp only [irr_eq, beq_iff_eq, bne_iff_ne, beq_eq_false_iff_ne, bne_eq_false_iff_eq, ne_eq, decide_eq_true_eq, decide_eq_false_iff_not, Bool.not_eq_true', Bool.not_eq_false'] at hc21
          refine l_callv rfl rfl (by kernel_rfl) rfl rfl (live_call _ _) ?_
          (try dsimp only [n_1, n_2, n_3, n_4, List.append_nil, pk, n_5, n_6] at F)
          refine l_op 2 rfl rfl rfl rfl rfl ?_
          refine l_op 0 rfl rfl rfl rfl rfl ?_
          refine l_nil (WK.nx (by assumption) ?_)
          refine SeqK.nx (by assumption) ?_
          refine k_ret ?_
          refine FunK.rt (by assumption) rfl ?_
          -- leaf 15
          first
          | rfl
          | exact absurd (hh3 (by omega)) (by assumption)
          | exact absurd ((eqS_self (stB vs)).symm.trans (by assumption)) (by decide)
          | exact absurd ((hks (by omega)).symm.trans (by assumption)) (by decide)
          | (exfalso; simp_all; done)
        try simp only [irr_eq, beq_iff_eq, bne_iff_ne, beq_eq_false_iff_ne, bne_eq_false_iff_eq, ne_eq, decide_eq_true_eq, decide_eq_false_iff_not, Bool.not_eq_true', Bool.not_eq_false'] at hc21
        refine l_s rfl rfl ?_
        refine l_op 2 rfl rfl rfl rfl rfl ?_
        refine l_op 0 rfl rfl rfl rfl rfl ?_
        refine l_nil (WK.nx (by assumption) ?_)
        refine SeqK.nx (by assumption) ?_
        refine k_ret ?_
        refine FunK.rt (by assumption) rfl ?_
        -- leaf 16
        first
        | rfl
        | exact absurd (hh3 (by omega)) (by assumption)
        | exact absurd ((eqS_self (stB vs)).symm.trans (by assumption)) (by decide)
        | exact absurd ((hks (by omega)).symm.trans (by assumption)) (by decide)
        | (exfalso; simp_all; done)
      first | replace hc19 := ne_of_beq_false ((irr_eq _).symm.trans hc19) | simp only [irr_eq, beq_iff_eq, beq_eq_false_iff_ne, ne_eq, decide_eq_true_eq, decide_eq_false_iff_not] at hc19
      refine l_s rfl rfl ?_
      refine l_s rfl rfl ?_
      refine l_s rfl rfl ?_
      refine l_s rfl rfl ?_
      refine l_s rfl rfl ?_
      refine l_s rfl rfl ?_
      refine l_s rfl rfl ?_
      refine l_s rfl rfl ?_
      refine l_op 2 rfl rfl rfl rfl rfl ?_
      refine l_op 0 rfl rfl rfl rfl rfl ?_
      refine l_s rfl rfl ?_
      refine l_op 2 rfl rfl rfl rfl rfl ?_
      refine l_op 0 rfl rfl rfl rfl rfl ?_
      refine l_nil (WK.nx (by assumption) ?_)
      refine SeqK.nx (by assumption) ?_
      refine k_ret ?_
      refine FunK.rt (by assumption) rfl ?_
      -- leaf 17
      first
      | rfl
      | exact absurd (hh3 (by omega)) (by assumption)
      | exact absurd ((eqS_self (stB vs)).symm.trans (by assumption)) (by decide)
      | exact absurd ((hks (by omega)).symm.trans (by assumption)) (by decide)
      | (exfalso; simp_all; done)
    replace hc11 := of_decide_eq_false ((irr_eq _).symm.trans hc11)
    refine k_skip ?_
    refine SeqK.nx (by assumption) ?_
    refine k_seq (fun Q K => ?_)
    refine k_seq (fun Q K => ?_)
    refine k_lin (fun W K => ?_)
    refine l_op 0 rfl rfl rfl rfl rfl ?_
    refine l_op 0 rfl rfl rfl rfl rfl ?_
    refine l_op 0 rfl rfl rfl rfl rfl ?_
    refine l_op 2 rfl rfl rfl rfl rfl ?_
    have hk2 : k ≠ 2147483648 → rollV ws n (ngW k) = vs := fun hk => by rw [← hws]; exact rollV_back n0 ⟨k0, k1⟩ hk
    have hr2 := stB_roll (vs := ws) (k := ngW k) n0
    have hh4 := stB_holds ws n
    have hl3 := rollV_len (vs := ws) (k := ngW k) n0
    rw [hwl] at hr2 hh4 hl3
    have hngk : U32 (ngW k) := ⟨by unfold ngW; omega, by unfold ngW; omega⟩
    have hng0 : IntKind.u32.wrap (0 - k) = ngW k := by rw [Int.zero_sub]; rfl
    rw [hng0]
    refine l_call F [1, 2] [0] (by decide) rfl rfl (by kernel_rfl) rfl rfl (roll_call (k := ngW k) (F.sub [1, 2] (by decide)) (stB_bytes ws) (by omega) (by omega) (by omega) (h0 ws) ⟨n0, n1⟩ hngk) hD (fun _ s F _ => ?_)
    (try dsimp only [n_1, n_2, n_3, n_4, List.append_nil, pk, n_5, n_6] at F)
    obtain ⟨us, hus⟩ : ∃ us, rollV ws n (ngW k) = us := ⟨_, rfl⟩
    rw [hus] at hk2 hl3
    have hks : k ≠ 2147483648 → eqS (stB us) (stB vs) = true := fun hk => by rw [hk2 hk]; exact eqS_self _
    rw [hr2, hus] at F
    rw [hh4, if_neg (show ¬ (l : Int) < n by omega)]
    refine l_callv rfl rfl (by kernel_rfl) rfl rfl num_call ?_
    (try dsimp only [n_1, n_2, n_3, n_4, List.append_nil, pk, n_5, n_6] at F)
    refine l_cmp rfl rfl rfl rfl ?_
    refine l_op 0 rfl rfl rfl rfl rfl ?_
    refine l_guard rfl rfl rfl (fun hc22 => ?_) (fun hc22 => ?_)
    · first | replace hc22 := bne_iff_ne.1 ((irr_eq _).symm.trans hc22) | simp only [irr_eq, bne_iff_ne, bne_eq_false_iff_eq, ne_eq, decide_eq_true_eq, decide_eq_false_iff_not, Bool.not_eq_true', Bool.not_eq_false'] at hc22
      refine l_s rfl rfl ?_
      refine l_s rfl rfl ?_
      refine l_s rfl rfl ?_
      refine l_s rfl rfl ?_
      refine l_s rfl rfl ?_
      refine l_s rfl rfl ?_
      refine l_s rfl rfl ?_
      refine l_s rfl rfl ?_
      refine l_s rfl rfl ?_
      refine l_op 2 rfl rfl rfl rfl rfl ?_
      refine l_nil (WK.nx (by assumption) ?_)
      refine SeqK.nx (by assumption) ?_
      first | refine e_cond_t rfl rfl rfl ?_ | refine e_cond_t rfl rfl (by rw [irr_eq]; first | exact beq_iff_eq.2 (by assumption) | exact decide_eq_true (by assumption) | exact bne_iff_ne.2 (by assumption)) ?_
      refine k_seq (fun Q K => ?_)
      refine k_lin (fun W K => ?_)
      refine l_op 0 rfl rfl rfl rfl rfl ?_
      refine l_nil (WK.nx (by assumption) ?_)
      refine SeqK.nx (by assumption) ?_
      refine k_ret ?_
      refine SeqK.rt (by assumption) ?_
      refine FunK.rt (by assumption) rfl ?_
      -- leaf 18
      first
      | rfl
      | exact absurd (hh3 (by omega)) (by assumption)
      | exact absurd ((eqS_self (stB vs)).symm.trans (by assumption)) (by decide)
      | exact absurd ((hks (by omega)).symm.trans (by assumption)) (by decide)
      | (exfalso; simp_all; done)
    first | replace hc22 := bne_eq_false_iff_eq.1 ((irr_eq _).symm.trans hc22) | simp only [irr_eq, bne_iff_ne, bne_eq_false_iff_eq, ne_eq, decide_eq_true_eq, decide_eq_false_iff_not, Bool.not_eq_true', Bool.not_eq_false'] at hc22
    refine l_op 0 rfl rfl rfl rfl rfl ?_
    refine l_callp F rfl rfl (by kernel_rfl) rfl rfl (bytes_call (F.cel0 1 rfl) (Old.pure (F.has 2 rfl)) (by omega)) (fun y108 s F _ => ?_)
    (try dsimp only [n_1, n_2, n_3, n_4, List.append_nil, pk, n_5, n_6] at F)
    refine l_op 0 rfl rfl rfl rfl rfl ?_
    refine l_callp F rfl rfl (by kernel_rfl) rfl rfl (same_call (Old.pure (F.has 3 rfl)) (Old.pure (F.has 0 rfl))) (fun _ s F _ => ?_)
    (try dsimp only [n_1, n_2, n_3, n_4, List.append_nil, pk, n_5, n_6] at F)
    refine l_op 2 rfl rfl rfl rfl rfl ?_
    refine l_op 0 rfl rfl rfl rfl rfl ?_
    refine l_guard rfl rfl rfl (fun hc23 => ?_) (fun hc23 => ?_)
    · try simp only [irr_eq, beq_iff_eq, bne_iff_ne, beq_eq_false_iff_ne, bne_eq_false_iff_eq, ne_eq, decide_eq_true_eq, decide_eq_false_iff_not, Bool.not_eq_true', Bool.not_eq_false'] at hc23
      refine l_op 0 rfl rfl rfl rfl rfl ?_
      refine l_cmp rfl rfl rfl rfl ?_
      refine l_op 2 rfl rfl rfl rfl rfl ?_
      refine l_op 2 rfl rfl rfl rfl rfl ?_
      refine l_nil (WK.nx (by assumption) ?_)
      refine SeqK.nx (by assumption) ?_
      refine l_cond rfl rfl (fun hc24 => ?_) (fun hc24 => ?_)
      · first | replace hc24 := bne_iff_ne.1 ((irr_eq _).symm.trans hc24) | simp only [irr_eq, bne_iff_ne, bne_eq_false_iff_eq, ne_eq, decide_eq_true_eq, decide_eq_false_iff_not, Bool.not_eq_true', Bool.not_eq_false'] at hc24
        refine k_seq (fun Q K => ?_)
        refine k_lin (fun W K => ?_)
        refine l_op 0 rfl rfl rfl rfl rfl ?_
        refine l_nil (WK.nx (by assumption) ?_)
        refine SeqK.nx (by assumption) ?_
        refine k_ret ?_
        refine SeqK.rt (by assumption) ?_
        refine FunK.rt (by assumption) rfl ?_
        -- leaf 19
        first
        | rfl
        | exact absurd (hh3 (by omega)) (by assumption)
        | exact absurd ((eqS_self (stB vs)).symm.trans (by assumption)) (by decide)
        | exact absurd ((hks (by omega)).symm.trans (by assumption)) (by decide)
        | (exfalso; simp_all; done)
      first | replace hc24 := bne_eq_false_iff_eq.1 ((irr_eq _).symm.trans hc24) | simp only [irr_eq, bne_iff_ne, bne_eq_false_iff_eq, ne_eq, decide_eq_true_eq, decide_eq_false_iff_not, Bool.not_eq_true', Bool.not_eq_false'] at hc24
      refine k_skip ?_
      refine SeqK.nx (by assumption) ?_
      refine k_seq (fun Q K => ?_)
      refine k_lin (fun W K => ?_)
      refine l_op 0 rfl rfl rfl rfl rfl ?_
      refine l_op 0 rfl rfl rfl rfl rfl ?_
      refine l_op 0 rfl rfl rfl rfl rfl ?_
      have hr3 := stB_roll (vs := us) (k := n) n0
      have hh5 := stB_holds us n
      have hsf := rollV_self (vs := us) (n := n) ⟨n0, by omega⟩
      rw [hl3] at hr3 hh5
      refine l_call F [1, 2] [0] (by decide) rfl rfl (by kernel_rfl) rfl rfl (roll_call (k := n) (F.sub [1, 2] (by decide)) (stB_bytes us) (by omega) (by omega) (by omega) (h0 us) ⟨n0, n1⟩ ⟨n0, n1⟩) hD (fun _ s F _ => ?_)
      (try dsimp only [n_1, n_2, n_3, n_4, List.append_nil, pk, n_5, n_6] at F)
      rw [hr3, hsf] at F
      rw [hh5, if_neg (show ¬ (l : Int) < n by omega)]
      refine l_callv rfl rfl (by kernel_rfl) rfl rfl num_call ?_
      (try dsimp only [n_1, n_2, n_3, n_4, List.append_nil, pk, n_5, n_6] at F)
      refine l_cmp rfl rfl rfl rfl ?_
      refine l_op 0 rfl rfl rfl rfl rfl ?_
      refine l_guard rfl rfl rfl (fun hc25 => ?_) (fun hc25 => ?_)
      · first | replace hc25 := eq_of_beq ((irr_eq _).symm.trans hc25) | simp only [irr_eq, beq_iff_eq, beq_eq_false_iff_ne, ne_eq, decide_eq_true_eq, decide_eq_false_iff_not] at hc25
        refine l_op 0 rfl rfl rfl rfl rfl ?_
        refine l_cmp rfl rfl rfl rfl ?_
        refine l_op 0 rfl rfl rfl rfl rfl ?_
        refine l_guard rfl rfl rfl (fun hc26 => ?_) (fun hc26 => ?_)
        · first | replace hc26 := eq_of_beq ((irr_eq _).symm.trans hc26) | simp only [irr_eq, beq_iff_eq, beq_eq_false_iff_ne, ne_eq, decide_eq_true_eq, decide_eq_false_iff_not] at hc26
          refine l_s rfl rfl ?_
          refine l_s rfl rfl ?_
          refine l_s rfl rfl ?_
          refine l_s rfl rfl ?_
          refine l_op 2 rfl rfl rfl rfl rfl ?_
          refine l_op 2 rfl rfl rfl rfl rfl ?_
          refine l_op 0 rfl rfl rfl rfl rfl ?_
          refine l_callv rfl rfl (by kernel_rfl) rfl rfl (live_call _ _) ?_
          (try dsimp only [n_1, n_2, n_3, n_4, List.append_nil, pk, n_5, n_6] at F)
          refine l_op 2 rfl rfl rfl rfl rfl ?_
          refine l_op 0 rfl rfl rfl rfl rfl ?_
          refine l_nil (WK.nx (by assumption) ?_)
          refine SeqK.nx (by assumption) ?_
          refine k_ret ?_
          refine FunK.rt (by assumption) rfl ?_
          -- leaf 20
          first
          | rfl
          | exact absurd (hh3 (by omega)) (by assumption)
          | exact absurd ((eqS_self (stB vs)).symm.trans (by assumption)) (by decide)
          | exact absurd ((hks (by omega)).symm.trans (by assumption)) (by decide)
          | (exfalso; simp_all; done)
        first | replace hc26 := ne_of_beq_false ((irr_eq _).symm.trans hc26) | simp only [irr_eq, beq_iff_eq, beq_eq_false_iff_ne, ne_eq, decide_eq_true_eq, decide_eq_false_iff_not] at hc26
        refine l_op 0 rfl rfl rfl rfl rfl ?_
        refine l_callp F rfl rfl (by kernel_rfl) rfl rfl (bytes_call (F.cel0 1 rfl) (Old.pure (F.has 2 rfl)) (by omega)) (fun y128 s F _ => ?_)
        (try dsimp only [n_1, n_2, n_3, n_4, List.append_nil, pk, n_5, n_6] at F)
        refine l_op 0 rfl rfl rfl rfl rfl ?_
        refine l_callp F rfl rfl (by kernel_rfl) rfl rfl (same_call (Old.pure (F.has 3 rfl)) (Old.pure (F.has 0 rfl))) (fun _ s F _ => ?_)
        (try dsimp only [n_1, n_2, n_3, n_4, List.append_nil, pk, n_5, n_6] at F)
        refine l_op 2 rfl rfl rfl rfl rfl ?_
        refine l_op 2 rfl rfl rfl rfl rfl ?_
        refine l_op 0 rfl rfl rfl rfl rfl ?_
        refine l_guard rfl rfl rfl (fun hc27 => ?_) (fun hc27 => ?_)
        · try simp only [irr_eq, beq_iff_eq, bne_iff_ne, beq_eq_false_iff_ne, bne_eq_false_iff_eq, ne_eq, decide_eq_true_eq, decide_eq_false_iff_not, Bool.not_eq_true', Bool.not_eq_false'] at hc27
          refine l_callv rfl rfl (by kernel_rfl) rfl rfl (live_call _ _) ?_
          (try dsimp only [n_1, n_2, n_3, n_4, List.append_nil, pk, n_5, n_6] at F)
          refine l_op 2 rfl rfl rfl rfl rfl ?_
          refine l_op 0 rfl rfl rfl rfl rfl ?_
          refine l_nil (WK.nx (by assumption) ?_)
          refine SeqK.nx (by assumption) ?_
          refine k_ret ?_
          refine FunK.rt (by assumption) rfl ?_
          -- leaf 21
          first
          | rfl
          | exact absurd (hh3 (by omega)) (by assumption)
          | exact absurd ((eqS_self (stB vs)).symm.trans (by assumption)) (by decide)
          | exact absurd ((hks (by omega)).symm.trans (by assumption)) (by decide)
          | (exfalso; simp_all; done)
        try simp only [irr_eq, beq_iff_eq, bne_iff_ne, beq_eq_false_iff_ne, bne_eq_false_iff_eq, ne_eq, decide_eq_true_eq, decide_eq_false_iff_not, Bool.not_eq_true', Bool.not_eq_false'] at hc27
        refine l_s rfl rfl ?_
        refine l_op 2 rfl rfl rfl rfl rfl ?_
        refine l_op 0 rfl rfl rfl rfl rfl ?_
        refine l_nil (WK.nx (by assumption) ?_)
        refine SeqK.nx (by assumption) ?_
        refine k_ret ?_
        refine FunK.rt (by assumption) rfl ?_
        -- leaf 22
        first
        | rfl
        | exact absurd (hh3 (by omega)) (by assumption)
        | exact absurd ((eqS_self (stB vs)).symm.trans (by assumption)) (by decide)
        | exact absurd ((hks (by omega)).symm.trans (by assumption)) (by decide)
        | (exfalso; simp_all; done)
      first | replace hc25 := ne_of_beq_false ((irr_eq _).symm.trans hc25) | simp only [irr_eq, beq_iff_eq, beq_eq_false_iff_ne, ne_eq, decide_eq_true_eq, decide_eq_false_iff_not] at hc25
      refine l_s rfl rfl ?_
      refine l_s rfl rfl ?_
      refine l_s rfl rfl ?_
      refine l_s rfl rfl ?_
      refine l_s rfl rfl ?_
      refine l_s rfl rfl ?_
      refine l_s rfl rfl ?_
      refine l_s rfl rfl ?_
      refine l_op 2 rfl rfl rfl rfl rfl ?_
      refine l_op 0 rfl rfl rfl rfl rfl ?_
      refine l_s rfl rfl ?_
      refine l_op 2 rfl rfl rfl rfl rfl ?_
      refine l_op 0 rfl rfl rfl rfl rfl ?_
      refine l_nil (WK.nx (by assumption) ?_)
      refine SeqK.nx (by assumption) ?_
      refine k_ret ?_
      refine FunK.rt (by assumption) rfl ?_
      -- leaf 23
      first
      | rfl
      | exact absurd (hh3 (by omega)) (by assumption)
      | exact absurd ((eqS_self (stB vs)).symm.trans (by assumption)) (by decide)
      | exact absurd ((hks (by omega)).symm.trans (by assumption)) (by decide)
      | (exfalso; simp_all; done)
    try simp only [irr_eq, beq_iff_eq, bne_iff_ne, beq_eq_false_iff_ne, bne_eq_false_iff_eq, ne_eq, decide_eq_true_eq, decide_eq_false_iff_not, Bool.not_eq_true', Bool.not_eq_false'] at hc23
    refine l_s rfl rfl ?_
    refine l_s rfl rfl ?_
    refine l_op 2 rfl rfl rfl rfl rfl ?_
    refine l_op 2 rfl rfl rfl rfl rfl ?_
    refine l_nil (WK.nx (by assumption) ?_)
    refine SeqK.nx (by assumption) ?_
    first | refine e_cond_f rfl rfl rfl ?_ | refine e_cond_f rfl rfl (by rw [irr_eq]; first | exact beq_eq_false_iff_ne.2 (by assumption) | exact decide_eq_false (by assumption) | exact bne_eq_false_iff_eq.2 (by assumption)) ?_
    refine k_skip ?_
    refine SeqK.nx (by assumption) ?_
    refine k_seq (fun Q K => ?_)
    refine k_lin (fun W K => ?_)
    refine l_op 0 rfl rfl rfl rfl rfl ?_
    refine l_op 0 rfl rfl rfl rfl rfl ?_
    refine l_op 0 rfl rfl rfl rfl rfl ?_
    have hr3 := stB_roll (vs := us) (k := n) n0
    have hh5 := stB_holds us n
    have hsf := rollV_self (vs := us) (n := n) ⟨n0, by omega⟩
    rw [hl3] at hr3 hh5
    refine l_call F [1, 2] [0] (by decide) rfl rfl (by kernel_rfl) rfl rfl (roll_call (k := n) (F.sub [1, 2] (by decide)) (stB_bytes us) (by omega) (by omega) (by omega) (h0 us) ⟨n0, n1⟩ ⟨n0, n1⟩) hD (fun _ s F _ => ?_)
    (try dsimp only [n_1, n_2, n_3, n_4, List.append_nil, pk, n_5, n_6] at F)
    rw [hr3, hsf] at F
    rw [hh5, if_neg (show ¬ (l : Int) < n by omega)]
    refine l_callv rfl rfl (by kernel_rfl) rfl rfl num_call ?_
    (try dsimp only [n_1, n_2, n_3, n_4, List.append_nil, pk, n_5, n_6] at F)
    refine l_cmp rfl rfl rfl rfl ?_
    refine l_op 0 rfl rfl rfl rfl rfl ?_
    refine l_guard rfl rfl rfl (fun hc28 => ?_) (fun hc28 => ?_)
    · first | replace hc28 := eq_of_beq ((irr_eq _).symm.trans hc28) | simp only [irr_eq, beq_iff_eq, beq_eq_false_iff_ne, ne_eq, decide_eq_true_eq, decide_eq_false_iff_not] at hc28
      refine l_op 0 rfl rfl rfl rfl rfl ?_
      refine l_cmp rfl rfl rfl rfl ?_
      refine l_op 0 rfl rfl rfl rfl rfl ?_
      refine l_guard rfl rfl rfl (fun hc29 => ?_) (fun hc29 => ?_)
      · first | replace hc29 := eq_of_beq ((irr_eq _).symm.trans hc29) | simp only [irr_eq, beq_iff_eq, beq_eq_false_iff_ne, ne_eq, decide_eq_true_eq, decide_eq_false_iff_not] at hc29
        refine l_s rfl rfl ?_
        refine l_s rfl rfl ?_
        refine l_s rfl rfl ?_
        refine l_s rfl rfl ?_
        refine l_op 2 rfl rfl rfl rfl rfl ?_
        refine l_op 2 rfl rfl rfl rfl rfl ?_
        refine l_op 0 rfl rfl rfl rfl rfl ?_
        refine l_callv rfl rfl (by kernel_rfl) rfl rfl (live_call _ _) ?_
        (try dsimp only [n_1, n_2, n_3, n_4, List.append_nil, pk, n_5, n_6] at F)
        refine l_op 2 rfl rfl rfl rfl rfl ?_
        refine l_op 0 rfl rfl rfl rfl rfl ?_
        refine l_nil (WK.nx (by assumption) ?_)
        refine SeqK.nx (by assumption) ?_
        refine k_ret ?_
        refine FunK.rt (by assumption) rfl ?_
        -- leaf 24
        first
        | rfl
        | exact absurd (hh3 (by omega)) (by assumption)
        | exact absurd ((eqS_self (stB vs)).symm.trans (by assumption)) (by decide)
        | exact absurd ((hks (by omega)).symm.trans (by assumption)) (by decide)
        | (exfalso; simp_all; done)
      first | replace hc29 := ne_of_beq_false ((irr_eq _).symm.trans hc29) | simp only [irr_eq, beq_iff_eq, beq_eq_false_iff_ne, ne_eq, decide_eq_true_eq, decide_eq_false_iff_not] at hc29
      refine l_op 0 rfl rfl rfl rfl rfl ?_
      refine l_callp F rfl rfl (by kernel_rfl) rfl rfl (bytes_call (F.cel0 1 rfl) (Old.pure (F.has 2 rfl)) (by omega)) (fun y128 s F _ => ?_)
      (try dsimp only [n_1, n_2, n_3, n_4, List.append_nil, pk, n_5, n_6] at F)
      refine l_op 0 rfl rfl rfl rfl rfl ?_
      refine l_callp F rfl rfl (by kernel_rfl) rfl rfl (same_call (Old.pure (F.has 3 rfl)) (Old.pure (F.has 0 rfl))) (fun _ s F _ => ?_)
      (try dsimp only [n_1, n_2, n_3, n_4, List.append_nil, pk, n_5, n_6] at F)
      refine l_op 2 rfl rfl rfl rfl rfl ?_
      refine l_op 2 rfl rfl rfl rfl rfl ?_
      refine l_op 0 rfl rfl rfl rfl rfl ?_
      refine l_guard rfl rfl rfl (fun hc30 => ?_) (fun hc30 => ?_)
      · try simp only [irr_eq, beq_iff_eq, bne_iff_ne, beq_eq_false_iff_ne, bne_eq_false_iff_eq, ne_eq, decide_eq_true_eq, decide_eq_false_iff_not, Bool.not_eq_true', Bool.not_eq_false'] at hc30
        refine l_callv rfl rfl (by kernel_rfl) rfl rfl (live_call _ _) ?_
        (try dsimp only [n_1, n_2, n_3, n_4, List.append_nil, pk, n_5, n_6] at F)
        refine l_op 2 rfl rfl rfl rfl rfl ?_
        refine l_op 0 rfl rfl rfl rfl rfl ?_
        refine l_nil (WK.nx (by assumption) ?_)
        refine SeqK.nx (by assumption) ?_
        refine k_ret ?_
        refine FunK.rt (by assumption) rfl ?_
        -- leaf 25
        first
        | rfl
        | exact absurd (hh3 (by omega)) (by assumption)
        | exact absurd ((eqS_self (stB vs)).symm.trans (by assumption)) (by decide)
        | exact absurd ((hks (by omega)).symm.trans (by assumption)) (by decide)
        | (exfalso; simp_all; done)
      try simp only [irr_eq, beq_iff_eq, bne_iff_ne, beq_eq_false_iff_ne, bne_eq_false_iff_eq, ne_eq, decide_eq_true_eq, decide_eq_false_iff_not, Bool.not_eq_true', Bool.not_eq_false'] at hc30
      refine l_s rfl rfl ?_
      refine l_op 2 rfl rfl rfl rfl rfl ?_
      refine l_op 0 rfl rfl rfl rfl rfl ?_
      refine l_nil (WK.nx (by assumption) ?_)
      refine SeqK.nx (by assumption) ?_
      refine k_ret ?_
      refine FunK.rt (by assumption) rfl ?_
      -- leaf 26
      first
      | rfl
      | exact absurd (hh3 (by omega)) (by assumption)
      | exact absurd ((eqS_self (stB vs)).symm.trans (by assumption)) (by decide)
      | exact absurd ((hks (by omega)).symm.trans (by assumption)) (by decide)
      | (exfalso; simp_all; done)
    first | replace hc28 := ne_of_beq_false ((irr_eq _).symm.trans hc28) | simp only [irr_eq, beq_iff_eq, beq_eq_false_iff_ne, ne_eq, decide_eq_true_eq, decide_eq_false_iff_not] at hc28
    refine l_s rfl rfl ?_
    refine l_s rfl rfl ?_
    refine l_s rfl rfl ?_
    refine l_s rfl rfl ?_
    refine l_s rfl rfl ?_
    refine l_s rfl rfl ?_
    refine l_s rfl rfl ?_
    refine l_s rfl rfl ?_
    refine l_op 2 rfl rfl rfl rfl rfl ?_
    refine l_op 0 rfl rfl rfl rfl rfl ?_
    refine l_s rfl rfl ?_
    refine l_op 2 rfl rfl rfl rfl rfl ?_
    refine l_op 0 rfl rfl rfl rfl rfl ?_
    refine l_nil (WK.nx (by assumption) ?_)
    refine SeqK.nx (by assumption) ?_
    refine k_ret ?_
    refine FunK.rt (by assumption) rfl ?_
    -- leaf 27
    first
    | rfl
    | exact absurd (hh3 (by omega)) (by assumption)
    | exact absurd ((eqS_self (stB vs)).symm.trans (by assumption)) (by decide)
    | exact absurd ((hks (by omega)).symm.trans (by assumption)) (by decide)
    | (exfalso; simp_all; done)
  replace hc9 := of_decide_eq_false ((irr_eq _).symm.trans hc9)
  refine l_s rfl rfl ?_
  refine l_s rfl rfl ?_
  refine l_s rfl rfl ?_
  refine l_op 2 rfl rfl rfl rfl rfl ?_
  refine l_op 2 rfl rfl rfl rfl rfl ?_
  refine l_nil (WK.nx (by assumption) ?_)
  refine SeqK.nx (by assumption) ?_
  first | refine e_cond_f rfl rfl rfl ?_ | refine e_cond_f rfl rfl (by rw [irr_eq]; first | exact beq_eq_false_iff_ne.2 (by assumption) | exact decide_eq_false (by assumption) | exact bne_eq_false_iff_eq.2 (by assumption)) ?_
  refine k_skip ?_
  refine SeqK.nx (by assumption) ?_
  refine k_seq (fun Q K => ?_)
  refine k_seq (fun Q K => ?_)
  refine k_lin (fun W K => ?_)
  refine l_op 0 rfl rfl rfl rfl rfl ?_
  refine l_cmp rfl rfl rfl rfl ?_
  refine l_nil (WK.nx (by assumption) ?_)
  refine SeqK.nx (by assumption) ?_
  refine l_cond rfl rfl (fun hc31 => ?_) (fun hc31 => ?_)
  · replace hc31 := of_decide_eq_true ((irr_eq _).symm.trans hc31)
    have hmod : ((si k).tmod n + n) % n = rollN n k := by
      have h2 := Int.lt_tmod_of_pos (si k) (show 0 < n by omega)
      exact (Int.tmod_eq_emod_of_nonneg (by omega)).symm.trans (rollN_law (by omega))
    have hm1 := Int.tmod_lt_of_pos (si k) (show 0 < n by omega)
    have hm2 := Int.lt_tmod_of_pos (si k) (show 0 < n by omega)
    have hb := rollN_bd (cnt := n) (k := k) (by omega)
    refine k_seq (fun Q K => ?_)
    refine k_lin (fun W K => ?_)
    refine l_op 0 rfl rfl rfl rfl rfl ?_
    refine l_callp F rfl rfl (by kernel_rfl) rfl rfl (rint_call ⟨k0, k1⟩) (fun _ s F _ => ?_)
    (try dsimp only [n_1, n_2, n_3, n_4, List.append_nil, pk, n_5, n_6] at F)
    refine l_op 0 rfl rfl rfl rfl rfl ?_
    (first | refine l_c64 rfl rfl rfl (by omega) rfl ?_ | refine l_c32 rfl rfl rfl (by omega) rfl ?_ | refine l_c8 rfl rfl rfl (by omega) rfl ?_ | refine l_cu64 rfl rfl rfl (by omega) rfl ?_ | refine l_str rfl rfl rfl rfl rfl (F.old (by assumption)) ?_ | refine l_str rfl rfl rfl rfl rfl (F.has 0 rfl) ?_ | refine l_str rfl rfl rfl rfl rfl (F.has 1 rfl) ?_ | refine l_str rfl rfl rfl rfl rfl (F.has 2 rfl) ?_ | refine l_op 16 rfl rfl rfl rfl rfl ?_)
    refine l_rem rfl rfl rfl rfl rfl (by omega) rfl ?_
    refine l_op 0 rfl rfl rfl rfl rfl ?_
    refine l_nil (WK.nx (by assumption) ?_)
    refine SeqK.nx (by assumption) ?_
    refine k_seq (fun Q K => ?_)
    refine k_lin (fun W K => ?_)
    refine l_op 0 rfl rfl rfl rfl rfl ?_
    refine l_op 0 rfl rfl rfl rfl rfl ?_
    refine l_op 0 rfl rfl rfl rfl rfl ?_
    first | refine l_op 2 rfl rfl rfl rfl rfl ?_ | refine l_ln rfl rfl rfl rfl ?_
    (first | refine l_a64 rfl rfl rfl (by omega) rfl ?_ | refine l_a32 rfl rfl rfl (by omega) rfl ?_ | refine l_a8 rfl rfl rfl (by omega) rfl ?_ | refine l_au64 rfl rfl rfl (by omega) rfl ?_ | refine l_op 1 rfl rfl rfl rfl rfl ?_)
    refine l_op 0 rfl rfl rfl rfl rfl ?_
    refine l_op 0 rfl rfl rfl rfl rfl ?_
    (first | refine l_c64 rfl rfl rfl (by omega) rfl ?_ | refine l_c32 rfl rfl rfl (by omega) rfl ?_ | refine l_c8 rfl rfl rfl (by omega) rfl ?_ | refine l_cu64 rfl rfl rfl (by omega) rfl ?_ | refine l_str rfl rfl rfl rfl rfl (F.old (by assumption)) ?_ | refine l_str rfl rfl rfl rfl rfl (F.has 0 rfl) ?_ | refine l_str rfl rfl rfl rfl rfl (F.has 1 rfl) ?_ | refine l_str rfl rfl rfl rfl rfl (F.has 2 rfl) ?_ | refine l_op 16 rfl rfl rfl rfl rfl ?_)
    (first | refine l_a64 rfl rfl rfl (by omega) rfl ?_ | refine l_a32 rfl rfl rfl (by omega) rfl ?_ | refine l_a8 rfl rfl rfl (by omega) rfl ?_ | refine l_au64 rfl rfl rfl (by omega) rfl ?_ | refine l_op 1 rfl rfl rfl rfl rfl ?_)
    refine l_op 0 rfl rfl rfl rfl rfl ?_
    (first | refine l_c64 rfl rfl rfl (by omega) rfl ?_ | refine l_c32 rfl rfl rfl (by omega) rfl ?_ | refine l_c8 rfl rfl rfl (by omega) rfl ?_ | refine l_cu64 rfl rfl rfl (by omega) rfl ?_ | refine l_str rfl rfl rfl rfl rfl (F.old (by assumption)) ?_ | refine l_str rfl rfl rfl rfl rfl (F.has 0 rfl) ?_ | refine l_str rfl rfl rfl rfl rfl (F.has 1 rfl) ?_ | refine l_str rfl rfl rfl rfl rfl (F.has 2 rfl) ?_ | refine l_op 16 rfl rfl rfl rfl rfl ?_)
    refine l_remn rfl rfl rfl rfl rfl (by omega) rfl ?_
    rw [hmod]
    (first | refine l_a64 rfl rfl rfl (by omega) rfl ?_ | refine l_a32 rfl rfl rfl (by omega) rfl ?_ | refine l_a8 rfl rfl rfl (by omega) rfl ?_ | refine l_au64 rfl rfl rfl (by omega) rfl ?_ | refine l_op 1 rfl rfl rfl rfl rfl ?_)
    first | refine l_ixi rfl rfl rfl rfl rfl rfl (F.old (by assumption)) (by omega) (fun m96 b96 hA96 => ?_) | (refine l_ixoi F 0 rfl rfl rfl rfl rfl rfl rfl (by omega) (fun m e ha hA96 => ?_); cases ha) | (refine l_ixoi F 1 rfl rfl rfl rfl rfl rfl rfl (by omega) (fun m e ha hA96 => ?_); cases ha) | (refine l_ixoi F 2 rfl rfl rfl rfl rfl rfl rfl (by omega) (fun m e ha hA96 => ?_); cases ha) | (refine l_ixoi F 3 rfl rfl rfl rfl rfl rfl rfl (by omega) (fun m e ha hA96 => ?_); cases ha)
    (first | refine l_ld0 rfl rfl rfl rfl rfl (by assumption) ?_ | refine l_ldj rfl rfl rfl rfl rfl rfl (by assumption) rfl ?_ | refine l_ldc F 0 rfl rfl rfl rfl rfl rfl rfl ?_ | refine l_ldc F 1 rfl rfl rfl rfl rfl rfl rfl ?_ | refine l_ldc F 2 rfl rfl rfl rfl rfl rfl rfl ?_ | refine l_ldc F 3 rfl rfl rfl rfl rfl rfl rfl ?_ | refine l_ldc F 4 rfl rfl rfl rfl rfl rfl rfl ?_ | refine l_ldc F 5 rfl rfl rfl rfl rfl rfl rfl ?_ | refine l_ldc F 6 rfl rfl rfl rfl rfl rfl rfl ?_ | refine l_ldc F 7 rfl rfl rfl rfl rfl rfl rfl ?_ | refine l_ldc F 8 rfl rfl rfl rfl rfl rfl rfl ?_ | refine l_ldc F 9 rfl rfl rfl rfl rfl rfl rfl ?_ | refine l_lda rfl rfl rfl rfl rfl (by assumption) ?_ | refine l_ldca F 0 rfl rfl rfl rfl rfl rfl rfl ?_ | refine l_ldca F 1 rfl rfl rfl rfl rfl rfl rfl ?_ | refine l_ldca F 2 rfl rfl rfl rfl rfl rfl rfl ?_ | refine l_ldca F 3 rfl rfl rfl rfl rfl rfl rfl ?_ | refine l_ldca F 4 rfl rfl rfl rfl rfl rfl rfl ?_ | refine l_ldca F 5 rfl rfl rfl rfl rfl rfl rfl ?_ | refine l_ldca F 6 rfl rfl rfl rfl rfl rfl rfl ?_ | refine l_ldca F 7 rfl rfl rfl rfl rfl rfl rfl ?_ | refine l_ldca F 8 rfl rfl rfl rfl rfl rfl rfl ?_ | refine l_ldca F 9 rfl rfl rfl rfl rfl rfl rfl ?_ | refine l_ldo F (by assumption) rfl rfl rfl rfl rfl rfl ?_ | refine l_ldoa F (by assumption) rfl rfl rfl rfl rfl rfl ?_)
    refine l_cmp rfl rfl rfl rfl ?_
    refine l_nil (WK.nx (by assumption) ?_)
    refine SeqK.nx (by assumption) ?_
    refine l_cond rfl rfl (fun hc32 => ?_) (fun hc32 => ?_)
    · first | replace hc32 := bne_iff_ne.1 ((irr_eq _).symm.trans hc32) | simp only [irr_eq, bne_iff_ne, bne_eq_false_iff_eq, ne_eq, decide_eq_true_eq, decide_eq_false_iff_not, Bool.not_eq_true', Bool.not_eq_false'] at hc32
      exact absurd (hp (by omega)) (by assumption)
    first | replace hc32 := bne_eq_false_iff_eq.1 ((irr_eq _).symm.trans hc32) | simp only [irr_eq, bne_iff_ne, bne_eq_false_iff_eq, ne_eq, decide_eq_true_eq, decide_eq_false_iff_not, Bool.not_eq_true', Bool.not_eq_false'] at hc32
    refine k_skip ?_
    refine SeqK.nx (by assumption) ?_
    refine k_seq (fun Q K => ?_)
    refine k_seq (fun Q K => ?_)
    refine k_lin (fun W K => ?_)
    refine l_op 0 rfl rfl rfl rfl rfl ?_
    refine l_op 0 rfl rfl rfl rfl rfl ?_
    refine l_op 0 rfl rfl rfl rfl rfl ?_
    refine l_op 2 rfl rfl rfl rfl rfl ?_
    have hk2 : k ≠ 2147483648 → rollV ws n (ngW k) = vs := fun hk => by rw [← hws]; exact rollV_back n0 ⟨k0, k1⟩ hk
    have hr2 := stB_roll (vs := ws) (k := ngW k) n0
    have hh4 := stB_holds ws n
    have hl3 := rollV_len (vs := ws) (k := ngW k) n0
    rw [hwl] at hr2 hh4 hl3
    have hngk : U32 (ngW k) := ⟨by unfold ngW; omega, by unfold ngW; omega⟩
    have hng0 : IntKind.u32.wrap (0 - k) = ngW k := by rw [Int.zero_sub]; rfl
    rw [hng0]
    refine l_call F [1, 2] [0] (by decide) rfl rfl (by kernel_rfl) rfl rfl (roll_call (k := ngW k) (F.sub [1, 2] (by decide)) (stB_bytes ws) (by omega) (by omega) (by omega) (h0 ws) ⟨n0, n1⟩ hngk) hD (fun _ s F _ => ?_)
    (try dsimp only [n_1, n_2, n_3, n_4, List.append_nil, pk, n_5, n_6] at F)
    obtain ⟨us, hus⟩ : ∃ us, rollV ws n (ngW k) = us := ⟨_, rfl⟩
    rw [hus] at hk2 hl3
    have hks : k ≠ 2147483648 → eqS (stB us) (stB vs) = true := fun hk => by rw [hk2 hk]; exact eqS_self _
    rw [hr2, hus] at F
    rw [hh4, if_neg (show ¬ (l : Int) < n by omega)]
    refine l_callv rfl rfl (by kernel_rfl) rfl rfl num_call ?_
    (try dsimp only [n_1, n_2, n_3, n_4, List.append_nil, pk, n_5, n_6] at F)
    refine l_cmp rfl rfl rfl rfl ?_
    refine l_op 0 rfl rfl rfl rfl rfl ?_
    refine l_guard rfl rfl rfl (fun hc33 => ?_) (fun hc33 => ?_)
    · first | replace hc33 := bne_iff_ne.1 ((irr_eq _).symm.trans hc33) | simp only [irr_eq, bne_iff_ne, bne_eq_false_iff_eq, ne_eq, decide_eq_true_eq, decide_eq_false_iff_not, Bool.not_eq_true', Bool.not_eq_false'] at hc33
      refine l_s rfl rfl ?_
      refine l_s rfl rfl ?_
      refine l_s rfl rfl ?_
      refine l_s rfl rfl ?_
      refine l_s rfl rfl ?_
      refine l_s rfl rfl ?_
      refine l_s rfl rfl ?_
      refine l_s rfl rfl ?_
      refine l_s rfl rfl ?_
      refine l_op 2 rfl rfl rfl rfl rfl ?_
      refine l_nil (WK.nx (by assumption) ?_)
      refine SeqK.nx (by assumption) ?_
      first | refine e_cond_t rfl rfl rfl ?_ | refine e_cond_t rfl rfl (by rw [irr_eq]; first | exact beq_iff_eq.2 (by assumption) | exact decide_eq_true (by assumption) | exact bne_iff_ne.2 (by assumption)) ?_
      refine k_seq (fun Q K => ?_)
      refine k_lin (fun W K => ?_)
      refine l_op 0 rfl rfl rfl rfl rfl ?_
      refine l_nil (WK.nx (by assumption) ?_)
      refine SeqK.nx (by assumption) ?_
      refine k_ret ?_
      refine SeqK.rt (by assumption) ?_
      refine FunK.rt (by assumption) rfl ?_
      -- leaf 28
      first
      | rfl
      | exact absurd (hh3 (by omega)) (by assumption)
      | exact absurd ((eqS_self (stB vs)).symm.trans (by assumption)) (by decide)
      | exact absurd ((hks (by omega)).symm.trans (by assumption)) (by decide)
      | (exfalso; simp_all; done)
    first | replace hc33 := bne_eq_false_iff_eq.1 ((irr_eq _).symm.trans hc33) | simp only [irr_eq, bne_iff_ne, bne_eq_false_iff_eq, ne_eq, decide_eq_true_eq, decide_eq_false_iff_not, Bool.not_eq_true', Bool.not_eq_false'] at hc33
    refine l_op 0 rfl rfl rfl rfl rfl ?_
    refine l_callp F rfl rfl (by kernel_rfl) rfl rfl (bytes_call (F.cel0 1 rfl) (Old.pure (F.has 2 rfl)) (by omega)) (fun y108 s F _ => ?_)
    (try dsimp only [n_1, n_2, n_3, n_4, List.append_nil, pk, n_5, n_6] at F)
    refine l_op 0 rfl rfl rfl rfl rfl ?_
    refine l_callp F rfl rfl (by kernel_rfl) rfl rfl (same_call (Old.pure (F.has 3 rfl)) (Old.pure (F.has 0 rfl))) (fun _ s F _ => ?_)
    (try dsimp only [n_1, n_2, n_3, n_4, List.append_nil, pk, n_5, n_6] at F)
    refine l_op 2 rfl rfl rfl rfl rfl ?_
    refine l_op 0 rfl rfl rfl rfl rfl ?_
    refine l_guard rfl rfl rfl (fun hc34 => ?_) (fun hc34 => ?_)
    · try simp only [irr_eq, beq_iff_eq, bne_iff_ne, beq_eq_false_iff_ne, bne_eq_false_iff_eq, ne_eq, decide_eq_true_eq, decide_eq_false_iff_not, Bool.not_eq_true', Bool.not_eq_false'] at hc34
      refine l_op 0 rfl rfl rfl rfl rfl ?_
      refine l_cmp rfl rfl rfl rfl ?_
      refine l_op 2 rfl rfl rfl rfl rfl ?_
      refine l_op 2 rfl rfl rfl rfl rfl ?_
      refine l_nil (WK.nx (by assumption) ?_)
      refine SeqK.nx (by assumption) ?_
      refine l_cond rfl rfl (fun hc35 => ?_) (fun hc35 => ?_)
      · first | replace hc35 := bne_iff_ne.1 ((irr_eq _).symm.trans hc35) | simp only [irr_eq, bne_iff_ne, bne_eq_false_iff_eq, ne_eq, decide_eq_true_eq, decide_eq_false_iff_not, Bool.not_eq_true', Bool.not_eq_false'] at hc35
        refine k_seq (fun Q K => ?_)
        refine k_lin (fun W K => ?_)
        refine l_op 0 rfl rfl rfl rfl rfl ?_
        refine l_nil (WK.nx (by assumption) ?_)
        refine SeqK.nx (by assumption) ?_
        refine k_ret ?_
        refine SeqK.rt (by assumption) ?_
        refine FunK.rt (by assumption) rfl ?_
        -- leaf 29
        first
        | rfl
        | exact absurd (hh3 (by omega)) (by assumption)
        | exact absurd ((eqS_self (stB vs)).symm.trans (by assumption)) (by decide)
        | exact absurd ((hks (by omega)).symm.trans (by assumption)) (by decide)
        | (exfalso; simp_all; done)
      first | replace hc35 := bne_eq_false_iff_eq.1 ((irr_eq _).symm.trans hc35) | simp only [irr_eq, bne_iff_ne, bne_eq_false_iff_eq, ne_eq, decide_eq_true_eq, decide_eq_false_iff_not, Bool.not_eq_true', Bool.not_eq_false'] at hc35
      refine k_skip ?_
      refine SeqK.nx (by assumption) ?_
      refine k_seq (fun Q K => ?_)
      refine k_lin (fun W K => ?_)
      refine l_op 0 rfl rfl rfl rfl rfl ?_
      refine l_op 0 rfl rfl rfl rfl rfl ?_
      refine l_op 0 rfl rfl rfl rfl rfl ?_
      have hr3 := stB_roll (vs := us) (k := n) n0
      have hh5 := stB_holds us n
      have hsf := rollV_self (vs := us) (n := n) ⟨n0, by omega⟩
      rw [hl3] at hr3 hh5
      refine l_call F [1, 2] [0] (by decide) rfl rfl (by kernel_rfl) rfl rfl (roll_call (k := n) (F.sub [1, 2] (by decide)) (stB_bytes us) (by omega) (by omega) (by omega) (h0 us) ⟨n0, n1⟩ ⟨n0, n1⟩) hD (fun _ s F _ => ?_)
      (try dsimp only [n_1, n_2, n_3, n_4, List.append_nil, pk, n_5, n_6] at F)
      rw [hr3, hsf] at F
      rw [hh5, if_neg (show ¬ (l : Int) < n by omega)]
      refine l_callv rfl rfl (by kernel_rfl) rfl rfl num_call ?_
      (try dsimp only [n_1, n_2, n_3, n_4, List.append_nil, pk, n_5, n_6] at F)
      refine l_cmp rfl rfl rfl rfl ?_
      refine l_op 0 rfl rfl rfl rfl rfl ?_
      refine l_guard rfl rfl rfl (fun hc36 => ?_) (fun hc36 => ?_)
      · first | replace hc36 := eq_of_beq ((irr_eq _).symm.trans hc36) | simp only [irr_eq, beq_iff_eq, beq_eq_false_iff_ne, ne_eq, decide_eq_true_eq, decide_eq_false_iff_not] at hc36
        refine l_op 0 rfl rfl rfl rfl rfl ?_
        refine l_cmp rfl rfl rfl rfl ?_
        refine l_op 0 rfl rfl rfl rfl rfl ?_
        refine l_guard rfl rfl rfl (fun hc37 => ?_) (fun hc37 => ?_)
        · first | replace hc37 := eq_of_beq ((irr_eq _).symm.trans hc37) | simp only [irr_eq, beq_iff_eq, beq_eq_false_iff_ne, ne_eq, decide_eq_true_eq, decide_eq_false_iff_not] at hc37
          refine l_s rfl rfl ?_
          refine l_s rfl rfl ?_
          refine l_s rfl rfl ?_
          refine l_s rfl rfl ?_
          refine l_op 2 rfl rfl rfl rfl rfl ?_
          refine l_op 2 rfl rfl rfl rfl rfl ?_
          refine l_op 0 rfl rfl rfl rfl rfl ?_
          refine l_callv rfl rfl (by kernel_rfl) rfl rfl (live_call _ _) ?_
          (try dsimp only [n_1, n_2, n_3, n_4, List.append_nil, pk, n_5, n_6] at F)
          refine l_op 2 rfl rfl rfl rfl rfl ?_
          refine l_op 0 rfl rfl rfl rfl rfl ?_
          refine l_nil (WK.nx (by assumption) ?_)
          refine SeqK.nx (by assumption) ?_
          refine k_ret ?_
          refine FunK.rt (by assumption) rfl ?_
          -- leaf 30
          first
          | rfl
          | exact absurd (hh3 (by omega)) (by assumption)
          | exact absurd ((eqS_self (stB vs)).symm.trans (by assumption)) (by decide)
          | exact absurd ((hks (by omega)).symm.trans (by assumption)) (by decide)
          | (exfalso; simp_all; done)
        first | replace hc37 := ne_of_beq_false ((irr_eq _).symm.trans hc37) | simp only [irr_eq, beq_iff_eq, beq_eq_false_iff_ne, ne_eq, decide_eq_true_eq, decide_eq_false_iff_not] at hc37
        refine l_op 0 rfl rfl rfl rfl rfl ?_
        refine l_callp F rfl rfl (by kernel_rfl) rfl rfl (bytes_call (F.cel0 1 rfl) (Old.pure (F.has 2 rfl)) (by omega)) (fun y128 s F _ => ?_)
        (try dsimp only [n_1, n_2, n_3, n_4, List.append_nil, pk, n_5, n_6] at F)
        refine l_op 0 rfl rfl rfl rfl rfl ?_
        refine l_callp F rfl rfl (by kernel_rfl) rfl rfl (same_call (Old.pure (F.has 3 rfl)) (Old.pure (F.has 0 rfl))) (fun _ s F _ => ?_)
        (try dsimp only [n_1, n_2, n_3, n_4, List.append_nil, pk, n_5, n_6] at F)
        refine l_op 2 rfl rfl rfl rfl rfl ?_
        refine l_op 2 rfl rfl rfl rfl rfl ?_
        refine l_op 0 rfl rfl rfl rfl rfl ?_
        refine l_guard rfl rfl rfl (fun hc38 => ?_) (fun hc38 => ?_)
        · try simp only [irr_eq, beq_iff_eq, bne_iff_ne, beq_eq_false_iff_ne, bne_eq_false_iff_eq, ne_eq, decide_eq_true_eq, decide_eq_false_iff_not, Bool.not_eq_true', Bool.not_eq_false'] at hc38
          refine l_callv rfl rfl (by kernel_rfl) rfl rfl (live_call _ _) ?_
          (try dsimp only [n_1, n_2, n_3, n_4, List.append_nil, pk, n_5, n_6] at F)
          refine l_op 2 rfl rfl rfl rfl rfl ?_
          refine l_op 0 rfl rfl rfl rfl rfl ?_
          refine l_nil (WK.nx (by assumption) ?_)
          refine SeqK.nx (by assumption) ?_
          refine k_ret ?_
          refine FunK.rt (by assumption) rfl ?_
          -- leaf 31
          first
          | rfl
          | exact absurd (hh3 (by omega)) (by assumption)
          | exact absurd ((eqS_self (stB vs)).symm.trans (by assumption)) (by decide)
          | exact absurd ((hks (by omega)).symm.trans (by assumption)) (by decide)
          | (exfalso; simp_all; done)
        try simp only [irr_eq, beq_iff_eq, bne_iff_ne, beq_eq_false_iff_ne, bne_eq_false_iff_eq, ne_eq, decide_eq_true_eq, decide_eq_false_iff_not, Bool.not_eq_true', Bool.not_eq_false'] at hc38
        refine l_s rfl rfl ?_
        refine l_op 2 rfl rfl rfl rfl rfl ?_
        refine l_op 0 rfl rfl rfl rfl rfl ?_
        refine l_nil (WK.nx (by assumption) ?_)
        refine SeqK.nx (by assumption) ?_
        refine k_ret ?_
        refine FunK.rt (by assumption) rfl ?_
        -- leaf 32
        first
        | rfl
        | exact absurd (hh3 (by omega)) (by assumption)
        | exact absurd ((eqS_self (stB vs)).symm.trans (by assumption)) (by decide)
        | exact absurd ((hks (by omega)).symm.trans (by assumption)) (by decide)
        | (exfalso; simp_all; done)
      first | replace hc36 := ne_of_beq_false ((irr_eq _).symm.trans hc36) | simp only [irr_eq, beq_iff_eq, beq_eq_false_iff_ne, ne_eq, decide_eq_true_eq, decide_eq_false_iff_not] at hc36
      refine l_s rfl rfl ?_
      refine l_s rfl rfl ?_
      refine l_s rfl rfl ?_
      refine l_s rfl rfl ?_
      refine l_s rfl rfl ?_
      refine l_s rfl rfl ?_
      refine l_s rfl rfl ?_
      refine l_s rfl rfl ?_
      refine l_op 2 rfl rfl rfl rfl rfl ?_
      refine l_op 0 rfl rfl rfl rfl rfl ?_
      refine l_s rfl rfl ?_
      refine l_op 2 rfl rfl rfl rfl rfl ?_
      refine l_op 0 rfl rfl rfl rfl rfl ?_
      refine l_nil (WK.nx (by assumption) ?_)
      refine SeqK.nx (by assumption) ?_
      refine k_ret ?_
      refine FunK.rt (by assumption) rfl ?_
      -- leaf 33
      first
      | rfl
      | exact absurd (hh3 (by omega)) (by assumption)
      | exact absurd ((eqS_self (stB vs)).symm.trans (by assumption)) (by decide)
      | exact absurd ((hks (by omega)).symm.trans (by assumption)) (by decide)
      | (exfalso; simp_all; done)
    try simp only [irr_eq, beq_iff_eq, bne_iff_ne, beq_eq_false_iff_ne, bne_eq_false_iff_eq, ne_eq, decide_eq_true_eq, decide_eq_false_iff_not, Bool.not_eq_true', Bool.not_eq_false'] at hc34
    refine l_s rfl rfl ?_
    refine l_s rfl rfl ?_
    refine l_op 2 rfl rfl rfl rfl rfl ?_
    refine l_op 2 rfl rfl rfl rfl rfl ?_
    refine l_nil (WK.nx (by assumption) ?_)
    refine SeqK.nx (by assumption) ?_
    first | refine e_cond_f rfl rfl rfl ?_ | refine e_cond_f rfl rfl (by rw [irr_eq]; first | exact beq_eq_false_iff_ne.2 (by assumption) | exact decide_eq_false (by assumption) | exact bne_eq_false_iff_eq.2 (by assumption)) ?_
    refine k_skip ?_
    refine SeqK.nx (by assumption) ?_
    refine k_seq (fun Q K => ?_)
    refine k_lin (fun W K => ?_)
    refine l_op 0 rfl rfl rfl rfl rfl ?_
    refine l_op 0 rfl rfl rfl rfl rfl ?_
    refine l_op 0 rfl rfl rfl rfl rfl ?_
    have hr3 := stB_roll (vs := us) (k := n) n0
    have hh5 := stB_holds us n
    have hsf := rollV_self (vs := us) (n := n) ⟨n0, by omega⟩
    rw [hl3] at hr3 hh5
    refine l_call F [1, 2] [0] (by decide) rfl rfl (by kernel_rfl) rfl rfl (roll_call (k := n) (F.sub [1, 2] (by decide)) (stB_bytes us) (by omega) (by omega) (by omega) (h0 us) ⟨n0, n1⟩ ⟨n0, n1⟩) hD (fun _ s F _ => ?_)
    (try dsimp only [n_1, n_2, n_3, n_4, List.append_nil, pk, n_5, n_6] at F)
    rw [hr3, hsf] at F
    rw [hh5, if_neg (show ¬ (l : Int) < n by omega)]
    refine l_callv rfl rfl (by kernel_rfl) rfl rfl num_call ?_
    (try dsimp only [n_1, n_2, n_3, n_4, List.append_nil, pk, n_5, n_6] at F)
    refine l_cmp rfl rfl rfl rfl ?_
    refine l_op 0 rfl rfl rfl rfl rfl ?_
    refine l_guard rfl rfl rfl (fun hc39 => ?_) (fun hc39 => ?_)
    · first | replace hc39 := eq_of_beq ((irr_eq _).symm.trans hc39) | simp only [irr_eq, beq_iff_eq, beq_eq_false_iff_ne, ne_eq, decide_eq_true_eq, decide_eq_false_iff_not] at hc39
      refine l_op 0 rfl rfl rfl rfl rfl ?_
      refine l_cmp rfl rfl rfl rfl ?_
      refine l_op 0 rfl rfl rfl rfl rfl ?_
      refine l_guard rfl rfl rfl (fun hc40 => ?_) (fun hc40 => ?_)
      · first | replace hc40 := eq_of_beq ((irr_eq _).symm.trans hc40) | simp only [irr_eq, beq_iff_eq, beq_eq_false_iff_ne, ne_eq, decide_eq_true_eq, decide_eq_false_iff_not] at hc40
        refine l_s rfl rfl ?_
        refine l_s rfl rfl ?_
        refine l_s rfl rfl ?_
        refine l_s rfl rfl ?_
        refine l_op 2 rfl rfl rfl rfl rfl ?_
        refine l_op 2 rfl rfl rfl rfl rfl ?_
        refine l_op 0 rfl rfl rfl rfl rfl ?_
        refine l_callv rfl rfl (by kernel_rfl) rfl rfl (live_call _ _) ?_
        (try dsimp only [n_1, n_2, n_3, n_4, List.append_nil, pk, n_5, n_6] at F)
        refine l_op 2 rfl rfl rfl rfl rfl ?_
        refine l_op 0 rfl rfl rfl rfl rfl ?_
        refine l_nil (WK.nx (by assumption) ?_)
        refine SeqK.nx (by assumption) ?_
        refine k_ret ?_
        refine FunK.rt (by assumption) rfl ?_
        -- leaf 34
        first
        | rfl
        | exact absurd (hh3 (by omega)) (by assumption)
        | exact absurd ((eqS_self (stB vs)).symm.trans (by assumption)) (by decide)
        | exact absurd ((hks (by omega)).symm.trans (by assumption)) (by decide)
        | (exfalso; simp_all; done)
      first | replace hc40 := ne_of_beq_false ((irr_eq _).symm.trans hc40) | simp only [irr_eq, beq_iff_eq, beq_eq_false_iff_ne, ne_eq, decide_eq_true_eq, decide_eq_false_iff_not] at hc40
      refine l_op 0 rfl rfl rfl rfl rfl ?_
      refine l_callp F rfl rfl (by kernel_rfl) rfl rfl (bytes_call (F.cel0 1 rfl) (Old.pure (F.has 2 rfl)) (by omega)) (fun y128 s F _ => ?_)
      (try dsimp only [n_1, n_2, n_3, n_4, List.append_nil, pk, n_5, n_6] at F)
      refine l_op 0 rfl rfl rfl rfl rfl ?_
      refine l_callp F rfl rfl (by kernel_rfl) rfl rfl (same_call (Old.pure (F.has 3 rfl)) (Old.pure (F.has 0 rfl))) (fun _ s F _ => ?_)
      (try dsimp only [n_1, n_2, n_3, n_4, List.append_nil, pk, n_5, n_6] at F)
      refine l_op 2 rfl rfl rfl rfl rfl ?_
      refine l_op 2 rfl rfl rfl rfl rfl ?_
      refine l_op 0 rfl rfl rfl rfl rfl ?_
      refine l_guard rfl rfl rfl (fun hc41 => ?_) (fun hc41 => ?_)
      · try simp only [irr_eq, beq_iff_eq, bne_iff_ne, beq_eq_false_iff_ne, bne_eq_false_iff_eq, ne_eq, decide_eq_true_eq, decide_eq_false_iff_not, Bool.not_eq_true', Bool.not_eq_false'] at hc41
        refine l_callv rfl rfl (by kernel_rfl) rfl rfl (live_call _ _) ?_
        (try dsimp only [n_1, n_2, n_3, n_4, List.append_nil, pk, n_5, n_6] at F)
        refine l_op 2 rfl rfl rfl rfl rfl ?_
        refine l_op 0 rfl rfl rfl rfl rfl ?_
        refine l_nil (WK.nx (by assumption) ?_)
        refine SeqK.nx (by assumption) ?_
        refine k_ret ?_
        refine FunK.rt (by assumption) rfl ?_
        -- leaf 35
        first
        | rfl
        | exact absurd (hh3 (by omega)) (by assumption)
        | exact absurd ((eqS_self (stB vs)).symm.trans (by assumption)) (by decide)
        | exact absurd ((hks (by omega)).symm.trans (by assumption)) (by decide)
        | (exfalso; simp_all; done)
      try simp only [irr_eq, beq_iff_eq, bne_iff_ne, beq_eq_false_iff_ne, bne_eq_false_iff_eq, ne_eq, decide_eq_true_eq, decide_eq_false_iff_not, Bool.not_eq_true', Bool.not_eq_false'] at hc41
      refine l_s rfl rfl ?_
      refine l_op 2 rfl rfl rfl rfl rfl ?_
      refine l_op 0 rfl rfl rfl rfl rfl ?_
      refine l_nil (WK.nx (by assumption) ?_)
      refine SeqK.nx (by assumption) ?_
      refine k_ret ?_
      refine FunK.rt (by assumption) rfl ?_
      -- leaf 36
      first
      | rfl
      | exact absurd (hh3 (by omega)) (by assumption)
      | exact absurd ((eqS_self (stB vs)).symm.trans (by assumption)) (by decide)
      | exact absurd ((hks (by omega)).symm.trans (by assumption)) (by decide)
      | (exfalso; simp_all; done)
    first | replace hc39 := ne_of_beq_false ((irr_eq _).symm.trans hc39) | simp only [irr_eq, beq_iff_eq, beq_eq_false_iff_ne, ne_eq, decide_eq_true_eq, decide_eq_false_iff_not] at hc39
    refine l_s rfl rfl ?_
    refine l_s rfl rfl ?_
    refine l_s rfl rfl ?_
    refine l_s rfl rfl ?_
    refine l_s rfl rfl ?_
    refine l_s rfl rfl ?_
    refine l_s rfl rfl ?_
    refine l_s rfl rfl ?_
    refine l_op 2 rfl rfl rfl rfl rfl ?_
    refine l_op 0 rfl rfl rfl rfl rfl ?_
    refine l_s rfl rfl ?_
    refine l_op 2 rfl rfl rfl rfl rfl ?_
    refine l_op 0 rfl rfl rfl rfl rfl ?_
    refine l_nil (WK.nx (by assumption) ?_)
    refine SeqK.nx (by assumption) ?_
    refine k_ret ?_
    refine FunK.rt (by assumption) rfl ?_
    -- leaf 37
    first
    | rfl
    | exact absurd (hh3 (by omega)) (by assumption)
    | exact absurd ((eqS_self (stB vs)).symm.trans (by assumption)) (by decide)
    | exact absurd ((hks (by omega)).symm.trans (by assumption)) (by decide)
    | (exfalso; simp_all; done)
  replace hc31 := of_decide_eq_false ((irr_eq _).symm.trans hc31)
  refine k_skip ?_
  refine SeqK.nx (by assumption) ?_
  refine k_seq (fun Q K => ?_)
  refine k_seq (fun Q K => ?_)
  refine k_lin (fun W K => ?_)
  refine l_op 0 rfl rfl rfl rfl rfl ?_
  refine l_op 0 rfl rfl rfl rfl rfl ?_
  refine l_op 0 rfl rfl rfl rfl rfl ?_
  refine l_op 2 rfl rfl rfl rfl rfl ?_
  have hk2 : k ≠ 2147483648 → rollV ws n (ngW k) = vs := fun hk => by rw [← hws]; exact rollV_back n0 ⟨k0, k1⟩ hk
  have hr2 := stB_roll (vs := ws) (k := ngW k) n0
  have hh4 := stB_holds ws n
  have hl3 := rollV_len (vs := ws) (k := ngW k) n0
  rw [hwl] at hr2 hh4 hl3
  have hngk : U32 (ngW k) := ⟨by unfold ngW; omega, by unfold ngW; omega⟩
  have hng0 : IntKind.u32.wrap (0 - k) = ngW k := by rw [Int.zero_sub]; rfl
  rw [hng0]
  refine l_call F [1, 2] [0] (by decide) rfl rfl (by kernel_rfl) rfl rfl (roll_call (k := ngW k) (F.sub [1, 2] (by decide)) (stB_bytes ws) (by omega) (by omega) (by omega) (h0 ws) ⟨n0, n1⟩ hngk) hD (fun _ s F _ => ?_)
  (try dsimp only [n_1, n_2, n_3, n_4, List.append_nil, pk, n_5, n_6] at F)
  obtain ⟨us, hus⟩ : ∃ us, rollV ws n (ngW k) = us := ⟨_, rfl⟩
  rw [hus] at hk2 hl3
  have hks : k ≠ 2147483648 → eqS (stB us) (stB vs) = true := fun hk => by rw [hk2 hk]; exact eqS_self _
  rw [hr2, hus] at F
  rw [hh4, if_neg (show ¬ (l : Int) < n by omega)]
  refine l_callv rfl rfl (by kernel_rfl) rfl rfl num_call ?_
  (try dsimp only [n_1, n_2, n_3, n_4, List.append_nil, pk, n_5, n_6] at F)
  refine l_cmp rfl rfl rfl rfl ?_
  refine l_op 0 rfl rfl rfl rfl rfl ?_
  refine l_guard rfl rfl rfl (fun hc42 => ?_) (fun hc42 => ?_)
  · first | replace hc42 := bne_iff_ne.1 ((irr_eq _).symm.trans hc42) | simp only [irr_eq, bne_iff_ne, bne_eq_false_iff_eq, ne_eq, decide_eq_true_eq, decide_eq_false_iff_not, Bool.not_eq_true', Bool.not_eq_false'] at hc42
    refine l_s rfl rfl ?_
    refine l_s rfl rfl ?_
    refine l_s rfl rfl ?_
    refine l_s rfl rfl ?_
    refine l_s rfl rfl ?_
    refine l_s rfl rfl ?_
    refine l_s rfl rfl ?_
    refine l_s rfl rfl ?_
    refine l_s rfl rfl ?_
    refine l_op 2 rfl rfl rfl rfl rfl ?_
    refine l_nil (WK.nx (by assumption) ?_)
    refine SeqK.nx (by assumption) ?_
    first | refine e_cond_t rfl rfl rfl ?_ | refine e_cond_t rfl rfl (by rw [irr_eq]; first | exact beq_iff_eq.2 (by assumption) | exact decide_eq_true (by assumption) | exact bne_iff_ne.2 (by assumption)) ?_
    refine k_seq (fun Q K => ?_)
    refine k_lin (fun W K => ?_)
    refine l_op 0 rfl rfl rfl rfl rfl ?_
    refine l_nil (WK.nx (by assumption) ?_)
    refine SeqK.nx (by assumption) ?_
    refine k_ret ?_
    refine SeqK.rt (by assumption) ?_
    refine FunK.rt (by assumption) rfl ?_
    -- leaf 38
    first
    | rfl
    | exact absurd (hh3 (by omega)) (by assumption)
    | exact absurd ((eqS_self (stB vs)).symm.trans (by assumption)) (by decide)
    | exact absurd ((hks (by omega)).symm.trans (by assumption)) (by decide)
    | (exfalso; simp_all; done)
  first | replace hc42 := bne_eq_false_iff_eq.1 ((irr_eq _).symm.trans hc42) | simp only [irr_eq, bne_iff_ne, bne_eq_false_iff_eq, ne_eq, decide_eq_true_eq, decide_eq_false_iff_not, Bool.not_eq_true', Bool.not_eq_false'] at hc42
  refine l_op 0 rfl rfl rfl rfl rfl ?_
  refine l_callp F rfl rfl (by kernel_rfl) rfl rfl (bytes_call (F.cel0 1 rfl) (Old.pure (F.has 2 rfl)) (by omega)) (fun y108 s F _ => ?_)
  (try dsimp only [n_1, n_2, n_3, n_4, List.append_nil, pk, n_5, n_6] at F)
  refine l_op 0 rfl rfl rfl rfl rfl ?_
  refine l_callp F rfl rfl (by kernel_rfl) rfl rfl (same_call (Old.pure (F.has 3 rfl)) (Old.pure (F.has 0 rfl))) (fun _ s F _ => ?_)
  (try dsimp only [n_1, n_2, n_3, n_4, List.append_nil, pk, n_5, n_6] at F)
  refine l_op 2 rfl rfl rfl rfl rfl ?_
  refine l_op 0 rfl rfl rfl rfl rfl ?_
  refine l_guard rfl rfl rfl (fun hc43 => ?_) (fun hc43 => ?_)
  · try simp only [irr_eq, beq_iff_eq, bne_iff_ne, beq_eq_false_iff_ne, bne_eq_false_iff_eq, ne_eq, decide_eq_true_eq, decide_eq_false_iff_not, Bool.not_eq_true', Bool.not_eq_false'] at hc43
    refine l_op 0 rfl rfl rfl rfl rfl ?_
    refine l_cmp rfl rfl rfl rfl ?_
    refine l_op 2 rfl rfl rfl rfl rfl ?_
    refine l_op 2 rfl rfl rfl rfl rfl ?_
    refine l_nil (WK.nx (by assumption) ?_)
    refine SeqK.nx (by assumption) ?_
    refine l_cond rfl rfl (fun hc44 => ?_) (fun hc44 => ?_)
    · first | replace hc44 := bne_iff_ne.1 ((irr_eq _).symm.trans hc44) | simp only [irr_eq, bne_iff_ne, bne_eq_false_iff_eq, ne_eq, decide_eq_true_eq, decide_eq_false_iff_not, Bool.not_eq_true', Bool.not_eq_false'] at hc44
      refine k_seq (fun Q K => ?_)
      refine k_lin (fun W K => ?_)
      refine l_op 0 rfl rfl rfl rfl rfl ?_
      refine l_nil (WK.nx (by assumption) ?_)
      refine SeqK.nx (by assumption) ?_
      refine k_ret ?_
      refine SeqK.rt (by assumption) ?_
      refine FunK.rt (by assumption) rfl ?_
      -- leaf 39
      first
      | rfl
      | exact absurd (hh3 (by omega)) (by assumption)
      | exact absurd ((eqS_self (stB vs)).symm.trans (by assumption)) (by decide)
      | exact absurd ((hks (by omega)).symm.trans (by assumption)) (by decide)
      | (exfalso; simp_all; done)
    first | replace hc44 := bne_eq_false_iff_eq.1 ((irr_eq _).symm.trans hc44) | simp only [irr_eq, bne_iff_ne, bne_eq_false_iff_eq, ne_eq, decide_eq_true_eq, decide_eq_false_iff_not, Bool.not_eq_true', Bool.not_eq_false'] at hc44
    refine k_skip ?_
    refine SeqK.nx (by assumption) ?_
    refine k_seq (fun Q K => ?_)
    refine k_lin (fun W K => ?_)
    refine l_op 0 rfl rfl rfl rfl rfl ?_
    refine l_op 0 rfl rfl rfl rfl rfl ?_
    refine l_op 0 rfl rfl rfl rfl rfl ?_
    have hr3 := stB_roll (vs := us) (k := n) n0
    have hh5 := stB_holds us n
    have hsf := rollV_self (vs := us) (n := n) ⟨n0, by omega⟩
    rw [hl3] at hr3 hh5
    refine l_call F [1, 2] [0] (by decide) rfl rfl (by kernel_rfl) rfl rfl (roll_call (k := n) (F.sub [1, 2] (by decide)) (stB_bytes us) (by omega) (by omega) (by omega) (h0 us) ⟨n0, n1⟩ ⟨n0, n1⟩) hD (fun _ s F _ => ?_)
    (try dsimp only [n_1, n_2, n_3, n_4, List.append_nil, pk, n_5, n_6] at F)
    rw [hr3, hsf] at F
    rw [hh5, if_neg (show ¬ (l : Int) < n by omega)]
    refine l_callv rfl rfl (by kernel_rfl) rfl rfl num_call ?_
    (try dsimp only [n_1, n_2, n_3, n_4, List.append_nil, pk, n_5, n_6] at F)
    refine l_cmp rfl rfl rfl rfl ?_
    refine l_op 0 rfl rfl rfl rfl rfl ?_
    refine l_guard rfl rfl rfl (fun hc45 => ?_) (fun hc45 => ?_)
    · first | replace hc45 := eq_of_beq ((irr_eq _).symm.trans hc45) | simp only [irr_eq, beq_iff_eq, beq_eq_false_iff_ne, ne_eq, decide_eq_true_eq, decide_eq_false_iff_not] at hc45
      refine l_op 0 rfl rfl rfl rfl rfl ?_
      refine l_cmp rfl rfl rfl rfl ?_
      refine l_op 0 rfl rfl rfl rfl rfl ?_
      refine l_guard rfl rfl rfl (fun hc46 => ?_) (fun hc46 => ?_)
      · first | replace hc46 := eq_of_beq ((irr_eq _).symm.trans hc46) | simp only [irr_eq, beq_iff_eq, beq_eq_false_iff_ne, ne_eq, decide_eq_true_eq, decide_eq_false_iff_not] at hc46
        refine l_s rfl rfl ?_
        refine l_s rfl rfl ?_
        refine l_s rfl rfl ?_
        refine l_s rfl rfl ?_
        refine l_op 2 rfl rfl rfl rfl rfl ?_
        refine l_op 2 rfl rfl rfl rfl rfl ?_
        refine l_op 0 rfl rfl rfl rfl rfl ?_
        refine l_callv rfl rfl (by kernel_rfl) rfl rfl (live_call _ _) ?_
        (try dsimp only [n_1, n_2, n_3, n_4, List.append_nil, pk, n_5, n_6] at F)
        refine l_op 2 rfl rfl rfl rfl rfl ?_
        refine l_op 0 rfl rfl rfl rfl rfl ?_
        refine l_nil (WK.nx (by assumption) ?_)
        refine SeqK.nx (by assumption) ?_
        refine k_ret ?_
        refine FunK.rt (by assumption) rfl ?_
        -- leaf 40
        first
        | rfl
        | exact absurd (hh3 (by omega)) (by assumption)
        | exact absurd ((eqS_self (stB vs)).symm.trans (by assumption)) (by decide)
        | exact absurd ((hks (by omega)).symm.trans (by assumption)) (by decide)
        | (exfalso; simp_all; done)
      first | replace hc46 := ne_of_beq_false ((irr_eq _).symm.trans hc46) | simp only [irr_eq, beq_iff_eq, beq_eq_false_iff_ne, ne_eq, decide_eq_true_eq, decide_eq_false_iff_not] at hc46
      refine l_op 0 rfl rfl rfl rfl rfl ?_
      refine l_callp F rfl rfl (by kernel_rfl) rfl rfl (bytes_call (F.cel0 1 rfl) (Old.pure (F.has 2 rfl)) (by omega)) (fun y128 s F _ => ?_)
      (try dsimp only [n_1, n_2, n_3, n_4, List.append_nil, pk, n_5, n_6] at F)
      refine l_op 0 rfl rfl rfl rfl rfl ?_
      refine l_callp F rfl rfl (by kernel_rfl) rfl rfl (same_call (Old.pure (F.has 3 rfl)) (Old.pure (F.has 0 rfl))) (fun _ s F _ => ?_)
      (try dsimp only [n_1, n_2, n_3, n_4, List.append_nil, pk, n_5, n_6] at F)
      refine l_op 2 rfl rfl rfl rfl rfl ?_
      refine l_op 2 rfl rfl rfl rfl rfl ?_
      refine l_op 0 rfl rfl rfl rfl rfl ?_
      refine l_guard rfl rfl rfl (fun hc47 => ?_) (fun hc47 => ?_)
      · try simp only [irr_eq, beq_iff_eq, bne_iff_ne, beq_eq_false_iff_ne, bne_eq_false_iff_eq, ne_eq, decide_eq_true_eq, decide_eq_false_iff_not, Bool.not_eq_true', Bool.not_eq_false'] at hc47
        refine l_callv rfl rfl (by kernel_rfl) rfl rfl (live_call _ _) ?_
        (try dsimp only [n_1, n_2, n_3, n_4, List.append_nil, pk, n_5, n_6] at F)
        refine l_op 2 rfl rfl rfl rfl rfl ?_
        refine l_op 0 rfl rfl rfl rfl rfl ?_
        refine l_nil (WK.nx (by assumption) ?_)
        refine SeqK.nx (by assumption) ?_
        refine k_ret ?_
        refine FunK.rt (by assumption) rfl ?_
        -- leaf 41
        first
        | rfl
        | exact absurd (hh3 (by omega)) (by assumption)
        | exact absurd ((eqS_self (stB vs)).symm.trans (by assumption)) (by decide)
        | exact absurd ((hks (by omega)).symm.trans (by assumption)) (by decide)
        | (exfalso; simp_all; done)
      try simp only [irr_eq, beq_iff_eq, bne_iff_ne, beq_eq_false_iff_ne, bne_eq_false_iff_eq, ne_eq, decide_eq_true_eq, decide_eq_false_iff_not, Bool.not_eq_true', Bool.not_eq_false'] at hc47
      refine l_s rfl rfl ?_
      refine l_op 2 rfl rfl rfl rfl rfl ?_
      refine l_op 0 rfl rfl rfl rfl rfl ?_
      refine l_nil (WK.nx (by assumption) ?_)
      refine SeqK.nx (by assumption) ?_
      refine k_ret ?_
      refine FunK.rt (by assumption) rfl ?_
      -- leaf 42
      first
      | rfl
      | exact absurd (hh3 (by omega)) (by assumption)
      | exact absurd ((eqS_self (stB vs)).symm.trans (by assumption)) (by decide)
      | exact absurd ((hks (by omega)).symm.trans (by assumption)) (by decide)
      | (exfalso; simp_all; done)
    first | replace hc45 := ne_of_beq_false ((irr_eq _).symm.trans hc45) | simp only [irr_eq, beq_iff_eq, beq_eq_false_iff_ne, ne_eq, decide_eq_true_eq, decide_eq_false_iff_not] at hc45
    refine l_s rfl rfl ?_
    refine l_s rfl rfl ?_
    refine l_s rfl rfl ?_
    refine l_s rfl rfl ?_
    refine l_s rfl rfl ?_
    refine l_s rfl rfl ?_
    refine l_s rfl rfl ?_
    refine l_s rfl rfl ?_
    refine l_op 2 rfl rfl rfl rfl rfl ?_
    refine l_op 0 rfl rfl rfl rfl rfl ?_
    refine l_s rfl rfl ?_
    refine l_op 2 rfl rfl rfl rfl rfl ?_
    refine l_op 0 rfl rfl rfl rfl rfl ?_
    refine l_nil (WK.nx (by assumption) ?_)
    refine SeqK.nx (by assumption) ?_
    refine k_ret ?_
    refine FunK.rt (by assumption) rfl ?_
    -- leaf 43
    first
    | rfl
    | exact absurd (hh3 (by omega)) (by assumption)
    | exact absurd ((eqS_self (stB vs)).symm.trans (by assumption)) (by decide)
    | exact absurd ((hks (by omega)).symm.trans (by assumption)) (by decide)
    | (exfalso; simp_all; done)
  try simp only [irr_eq, beq_iff_eq, bne_iff_ne, beq_eq_false_iff_ne, bne_eq_false_iff_eq, ne_eq, decide_eq_true_eq, decide_eq_false_iff_not, Bool.not_eq_true', Bool.not_eq_false'] at hc43
  refine l_s rfl rfl ?_
  refine l_s rfl rfl ?_
  refine l_op 2 rfl rfl rfl rfl rfl ?_
  refine l_op 2 rfl rfl rfl rfl rfl ?_
  refine l_nil (WK.nx (by assumption) ?_)
  refine SeqK.nx (by assumption) ?_
  first | refine e_cond_f rfl rfl rfl ?_ | refine e_cond_f rfl rfl (by rw [irr_eq]; first | exact beq_eq_false_iff_ne.2 (by assumption) | exact decide_eq_false (by assumption) | exact bne_eq_false_iff_eq.2 (by assumption)) ?_
  refine k_skip ?_
  refine SeqK.nx (by assumption) ?_
  refine k_seq (fun Q K => ?_)
  refine k_lin (fun W K => ?_)
  refine l_op 0 rfl rfl rfl rfl rfl ?_
  refine l_op 0 rfl rfl rfl rfl rfl ?_
  refine l_op 0 rfl rfl rfl rfl rfl ?_
  have hr3 := stB_roll (vs := us) (k := n) n0
  have hh5 := stB_holds us n
  have hsf := rollV_self (vs := us) (n := n) ⟨n0, by omega⟩
  rw [hl3] at hr3 hh5
  refine l_call F [1, 2] [0] (by decide) rfl rfl (by kernel_rfl) rfl rfl (roll_call (k := n) (F.sub [1, 2] (by decide)) (stB_bytes us) (by omega) (by omega) (by omega) (h0 us) ⟨n0, n1⟩ ⟨n0, n1⟩) hD (fun _ s F _ => ?_)
  (try dsimp only [n_1, n_2, n_3, n_4, List.append_nil, pk, n_5, n_6] at F)
  rw [hr3, hsf] at F
  rw [hh5, if_neg (show ¬ (l : Int) < n by omega)]
  refine l_callv rfl rfl (by kernel_rfl) rfl rfl num_call ?_
  (try dsimp only [n_1, n_2, n_3, n_4, List.append_nil, pk, n_5, n_6] at F)
  refine l_cmp rfl rfl rfl rfl ?_
  refine l_op 0 rfl rfl rfl rfl rfl ?_
  refine l_guard rfl rfl rfl (fun hc48 => ?_) (fun hc48 => ?_)
  · first | replace hc48 := eq_of_beq ((irr_eq _).symm.trans hc48) | simp only [irr_eq, beq_iff_eq, beq_eq_false_iff_ne, ne_eq, decide_eq_true_eq, decide_eq_false_iff_not] at hc48
    refine l_op 0 rfl rfl rfl rfl rfl ?_
    refine l_cmp rfl rfl rfl rfl ?_
    refine l_op 0 rfl rfl rfl rfl rfl ?_
    refine l_guard rfl rfl rfl (fun hc49 => ?_) (fun hc49 => ?_)
    · first | replace hc49 := eq_of_beq ((irr_eq _).symm.trans hc49) | simp only [irr_eq, beq_iff_eq, beq_eq_false_iff_ne, ne_eq, decide_eq_true_eq, decide_eq_false_iff_not] at hc49
      refine l_s rfl rfl ?_
      refine l_s rfl rfl ?_
      refine l_s rfl rfl ?_
      refine l_s rfl rfl ?_
      refine l_op 2 rfl rfl rfl rfl rfl ?_
      refine l_op 2 rfl rfl rfl rfl rfl ?_
      refine l_op 0 rfl rfl rfl rfl rfl ?_
      refine l_callv rfl rfl (by kernel_rfl) rfl rfl (live_call _ _) ?_
      (try dsimp only [n_1, n_2, n_3, n_4, List.append_nil, pk, n_5, n_6] at F)
      refine l_op 2 rfl rfl rfl rfl rfl ?_
      refine l_op 0 rfl rfl rfl rfl rfl ?_
      refine l_nil (WK.nx (by assumption) ?_)
      refine SeqK.nx (by assumption) ?_
      refine k_ret ?_
      refine FunK.rt (by assumption) rfl ?_
      -- leaf 44
      first
      | rfl
      | exact absurd (hh3 (by omega)) (by assumption)
      | exact absurd ((eqS_self (stB vs)).symm.trans (by assumption)) (by decide)
      | exact absurd ((hks (by omega)).symm.trans (by assumption)) (by decide)
      | (exfalso; simp_all; done)
    first | replace hc49 := ne_of_beq_false ((irr_eq _).symm.trans hc49) | simp only [irr_eq, beq_iff_eq, beq_eq_false_iff_ne, ne_eq, decide_eq_true_eq, decide_eq_false_iff_not] at hc49
    refine l_op 0 rfl rfl rfl rfl rfl ?_
    refine l_callp F rfl rfl (by kernel_rfl) rfl rfl (bytes_call (F.cel0 1 rfl) (Old.pure (F.has 2 rfl)) (by omega)) (fun y128 s F _ => ?_)
    (try dsimp only [n_1, n_2, n_3, n_4, List.append_nil, pk, n_5, n_6] at F)
    refine l_op 0 rfl rfl rfl rfl rfl ?_
    refine l_callp F rfl rfl (by kernel_rfl) rfl rfl (same_call (Old.pure (F.has 3 rfl)) (Old.pure (F.has 0 rfl))) (fun _ s F _ => ?_)
    (try dsimp only [n_1, n_2, n_3, n_4, List.append_nil, pk, n_5, n_6] at F)
    refine l_op 2 rfl rfl rfl rfl rfl ?_
    refine l_op 2 rfl rfl rfl rfl rfl ?_
    refine l_op 0 rfl rfl rfl rfl rfl ?_
    refine l_guard rfl rfl rfl (fun hc50 => ?_) (fun hc50 => ?_)
    · try simp only [irr_eq, beq_iff_eq, bne_iff_ne, beq_eq_false_iff_ne, bne_eq_false_iff_eq, ne_eq, decide_eq_true_eq, decide_eq_false_iff_not, Bool.not_eq_true', Bool.not_eq_false'] at hc50
      refine l_callv rfl rfl (by kernel_rfl) rfl rfl (live_call _ _) ?_
      (try dsimp only [n_1, n_2, n_3, n_4, List.append_nil, pk, n_5, n_6] at F)
      refine l_op 2 rfl rfl rfl rfl rfl ?_
      refine l_op 0 rfl rfl rfl rfl rfl ?_
      refine l_nil (WK.nx (by assumption) ?_)
      refine SeqK.nx (by assumption) ?_
      refine k_ret ?_
      refine FunK.rt (by assumption) rfl ?_
      -- leaf 45
      first
      | rfl
      | exact absurd (hh3 (by omega)) (by assumption)
      | exact absurd ((eqS_self (stB vs)).symm.trans (by assumption)) (by decide)
      | exact absurd ((hks (by omega)).symm.trans (by assumption)) (by decide)
      | (exfalso; simp_all; done)
    try simp only [irr_eq, beq_iff_eq, bne_iff_ne, beq_eq_false_iff_ne, bne_eq_false_iff_eq, ne_eq, decide_eq_true_eq, decide_eq_false_iff_not, Bool.not_eq_true', Bool.not_eq_false'] at hc50
    refine l_s rfl rfl ?_
    refine l_op 2 rfl rfl rfl rfl rfl ?_
    refine l_op 0 rfl rfl rfl rfl rfl ?_
    refine l_nil (WK.nx (by assumption) ?_)
    refine SeqK.nx (by assumption) ?_
    refine k_ret ?_
    refine FunK.rt (by assumption) rfl ?_
    -- leaf 46
    first
    | rfl
    | exact absurd (hh3 (by omega)) (by assumption)
    | exact absurd ((eqS_self (stB vs)).symm.trans (by assumption)) (by decide)
    | exact absurd ((hks (by omega)).symm.trans (by assumption)) (by decide)
    | (exfalso; simp_all; done)
  first | replace hc48 := ne_of_beq_false ((irr_eq _).symm.trans hc48) | simp only [irr_eq, beq_iff_eq, beq_eq_false_iff_ne, ne_eq, decide_eq_true_eq, decide_eq_false_iff_not] at hc48
  refine l_s rfl rfl ?_
  refine l_s rfl rfl ?_
  refine l_s rfl rfl ?_
  refine l_s rfl rfl ?_
  refine l_s rfl rfl ?_
  refine l_s rfl rfl ?_
  refine l_s rfl rfl ?_
  refine l_s rfl rfl ?_
  refine l_op 2 rfl rfl rfl rfl rfl ?_
  refine l_op 0 rfl rfl rfl rfl rfl ?_
  refine l_s rfl rfl ?_
  refine l_op 2 rfl rfl rfl rfl rfl ?_
  refine l_op 0 rfl rfl rfl rfl rfl ?_
  refine l_nil (WK.nx (by assumption) ?_)
  refine SeqK.nx (by assumption) ?_
  refine k_ret ?_
  refine FunK.rt (by assumption) rfl ?_
  -- leaf 47
  first
  | rfl
  | exact absurd (hh3 (by omega)) (by assumption)
  | exact absurd ((eqS_self (stB vs)).symm.trans (by assumption)) (by decide)
  | exact absurd ((hks (by omega)).symm.trans (by assumption)) (by decide)
  | (exfalso; simp_all; done)

theorem words_row {w : World} {a : Option Addr} {l c : Nat} {zs : List Int} (h : IsRow .u32 w a l c zs) : Words (zs.take l) := by
  have h2 : ∀ x ∈ zs, U32 x := by
    rcases h with ⟨_, _, _, rfl⟩ | ⟨_, _, _, _, _, _, hwf⟩
    · intro x hx; cases hx
    · intro x hx; exact bounds_u32 (hwf x hx)
  exact words_at.2 fun x hx => h2 x (List.mem_of_mem_take hx)

end Go.Proofs.Ythbooolgpfhcmaa
