/- The law of the plays. No statement of the seat is proved in this text. -/
import Derived.Test.YtkealnppdblgiaaHPl7
set_option linter.unusedVariables false
set_option linter.unusedSimpArgs false
set_option maxRecDepth 100000
set_option maxHeartbeats 4000000
-- macs
namespace Go.Proofs.Ytkealnppdblgiaa
open GAb Go

theorem plays_law {σ : AState} {most : Int} {a : Option Addr} {l c : Nat} {ts : List Act} (h : OldA σ a l c ts) (hm : U32 most) :
    SCall Try.prog E0 8 [.int .u32 most, .slice a l c] σ (fun v _ => v = .bool true) := by
  obtain rfl := h.len
  have ho := h.old
  have hm' := hm
  obtain ⟨m0, m1⟩ := hm
  refine k_fun Try.func8 rfl (m := 92) rfl fun B hD Q K => ?_
  have F := Facts.nil E0 σ
  refine k_seq (fun Q K => ?_)
  refine k_lin (fun W K => ?_)
  refine l_op 0 rfl rfl rfl rfl rfl ?_
  refine l_nil (WK.nx (by assumption) ?_)
  refine SeqK.nx (by assumption) ?_
  refine k_seq (fun Q K => ?_)
  refine k_seq (fun Q K => ?_)
  refine k_lin (fun W K => ?_)
  refine l_op 0 rfl rfl rfl rfl rfl ?_
  refine l_callp F rfl rfl (by kernel_rfl) rfl rfl (hugeS_call (h.to F)) (fun bh s F hbh => ?_)
  (try dsimp only [n_1, n_2, n_3, n_4, List.append_nil, pk, n_5, n_6] at F)
  refine l_nil (WK.nx (by assumption) ?_)
  refine SeqK.nx (by assumption) ?_
  refine l_cond rfl rfl (fun hc1 => ?_) (fun hc1 => ?_)
  · try simp only [irr_eq, beq_iff_eq, bne_iff_ne, beq_eq_false_iff_ne, bne_eq_false_iff_eq, ne_eq, decide_eq_true_eq, decide_eq_false_iff_not, Bool.not_eq_true', Bool.not_eq_false'] at hc1
    refine k_seq (fun Q K => ?_)
    refine k_lin (fun W K => ?_)
    refine l_callp F rfl rfl (by kernel_rfl) rfl rfl live_call (fun _ s F _ => ?_)
    (try dsimp only [n_1, n_2, n_3, n_4, List.append_nil, pk, n_5, n_6] at F)
    refine l_op 0 rfl rfl rfl rfl rfl ?_
    refine l_nil (WK.nx (by assumption) ?_)
    refine SeqK.nx (by assumption) ?_
    refine k_ret ?_
    refine SeqK.rt (by assumption) ?_
    refine FunK.rt (by assumption) rfl ?_
    -- leaf 1
    rfl
  try simp only [irr_eq, beq_iff_eq, bne_iff_ne, beq_eq_false_iff_ne, bne_eq_false_iff_eq, ne_eq, decide_eq_true_eq, decide_eq_false_iff_not, Bool.not_eq_true', Bool.not_eq_false'] at hc1
  obtain ⟨hts, htl⟩ := hbh hc1
  refine k_skip ?_
  refine SeqK.nx (by assumption) ?_
  refine k_seq (fun Q K => ?_)
  refine k_lin (fun W K => ?_)
  refine l_op 0 rfl rfl rfl rfl rfl ?_
  refine l_callp F rfl rfl (by kernel_rfl) rfl rfl (new_call (most := most)) (fun m s F _ => ?_)
  (try dsimp only [n_1, n_2, n_3, n_4, List.append_nil, pk, n_5, n_6] at F)
  refine l_op 0 rfl rfl rfl rfl rfl ?_
  refine l_nil (WK.nx (by assumption) ?_)
  refine SeqK.nx (by assumption) ?_
  refine k_seq (fun Q K => ?_)
  refine k_lin (fun W K => ?_)
  refine l_op 0 rfl rfl rfl rfl rfl ?_
  refine l_c64 rfl rfl rfl (by omega) rfl ?_
  refine l_bld rfl rfl rfl rfl ?_
  refine l_bx F rfl rfl rfl rfl rfl (fun q19 s F => ?_)
  (try dsimp only [n_1, n_2, n_3, n_4, List.append_nil, pk, n_5, n_6] at F)
  refine l_op 0 rfl rfl rfl rfl rfl ?_
  refine l_nil (WK.nx (by assumption) ?_)
  refine SeqK.nx (by assumption) ?_
  refine k_seq (fun Q K => ?_)
  refine k_seq (fun Q K => ?_)
  refine k_lin (fun W K => ?_)
  refine l_op 0 rfl rfl rfl rfl rfl ?_
  refine l_cmp rfl rfl rfl rfl ?_
  refine l_nil (WK.nx (by assumption) ?_)
  refine SeqK.nx (by assumption) ?_
  refine l_cond rfl rfl (fun hc2 => ?_) (fun hc2 => ?_)
  · exact absurd ((irr_eq _).symm.trans hc2) (by decide)
  first | replace hc2 := ne_of_beq_false ((irr_eq _).symm.trans hc2) | simp only [irr_eq, beq_iff_eq, beq_eq_false_iff_ne, ne_eq, decide_eq_true_eq, decide_eq_false_iff_not] at hc2
  refine k_skip ?_
  refine SeqK.nx (by assumption) ?_
  refine k_seq (fun Q K => ?_)
  refine k_seq (fun Q K => ?_)
  refine k_lin (fun W K => ?_)
  refine l_op 0 rfl rfl rfl rfl rfl ?_
  refine l_nil (WK.nx (by assumption) ?_)
  refine SeqK.nx (by assumption) ?_
  refine k_block (fun Q K => ?_)
  have F := F.nilrow 2
  refine k_loop (α := Int × HY) (fun ⟨i, y⟩ s => Facts E0 σ s (hF y.m y.a y.c most y.st y.en y.bl ++ rF q19 y.aw y.cw most y.st y.en y.L) ∧ 0 ≤ i ∧ i ≤ ts.length ∧ Ex y.a ∧ HOK most y.st y.en y.bl ∧ y.L.Perm y.bl) (fun ⟨i, y⟩ => [(1, .slice a ts.length c), (5, .pointer (some ⟨y.m, 0, none⟩)), (6, .pointer (some ⟨q19, 0, none⟩)), (7, .int .i64 i)]) (fun ⟨i, _⟩ => (ts.length - i).toNat) (0, ⟨m, none, 0, none, 0, 0, 0, [], []⟩) ⟨F, by omega, by omega, .inl rfl, hok_new most, .refl _⟩ (by repeat (first | exact trivial | refine And.intro rfl ?_)) ?_
  clear F
  rintro ⟨i, y⟩ env s Q K0 ⟨F, i0, i1, hEx, hok, hP⟩
  refine k_seq (fun Q K => ?_)
  refine k_seq (fun Q K => ?_)
  refine k_lin (fun W K => ?_)
  refine l_op 0 rfl rfl rfl rfl rfl ?_
  refine l_op 0 rfl rfl rfl rfl rfl ?_
  first | refine l_op 2 rfl rfl rfl rfl rfl ?_ | refine l_ln rfl rfl rfl rfl ?_
  refine l_cmp rfl rfl rfl rfl ?_
  refine l_nil (WK.nx (by assumption) ?_)
  refine SeqK.nx (by assumption) ?_
  refine l_cond rfl rfl (fun hc3 => ?_) (fun hc3 => ?_)
  · replace hc3 := of_decide_eq_true ((irr_eq _).symm.trans hc3)
    refine k_skip ?_
    refine SeqK.nx (by assumption) ?_
    refine k_seq (fun Q K => ?_)
    refine k_block (fun Q K => ?_)
    refine k_seq (fun Q K => ?_)
    refine k_lin (fun W K => ?_)
    refine l_op 0 rfl rfl rfl rfl rfl ?_
    refine l_nil (WK.nx (by assumption) ?_)
    refine SeqK.nx (by assumption) ?_
    refine k_seq (fun Q K => ?_)
    refine k_lin (fun W K => ?_)
    refine l_op 0 rfl rfl rfl rfl rfl ?_
    refine l_op 0 rfl rfl rfl rfl rfl ?_
    refine l_op 0 rfl rfl rfl rfl rfl ?_
    refine l_op 0 rfl rfl rfl rfl rfl ?_
    refine l_ixr (e := eA) rfl rfl rfl rfl rfl rfl (F.old ho) ⟨eA_len, by decide⟩ (by omega) (fun m33 b33 hA33 => ?_)
    refine l_lda (ws := eA (ts.getD i.toNat default)) rfl rfl rfl rfl rfl hA33 ?_
    have hmem : ts.getD i.toNat default ∈ ts := by
      have hi : i.toNat < ts.length := by omega
      simp only [List.getD, List.getElem?_eq_getElem hi, Option.getD_some]
      exact List.getElem_mem hi
    obtain ⟨u1, u2, u3, u4, u5, u6⟩ := h.ok _ hmem
    refine l_call F [0, 1, 2, 3] [] (by decide) rfl rfl (by kernel_rfl) rfl rfl (does_call (F.sub [0, 1, 2, 3] (by decide)) hEx hok hP hm' u1 u2 u3 (F.oldO u4 [0, 1, 2, 3]) u5 (htl _ hmem)) hD (fun y2 s F hy2 => ?_)
    obtain ⟨hEx2, hok2, hP2⟩ := hy2
    have hA2 := asc_hok hok2
    obtain ⟨us0, us1⟩ := hok2.ust
    obtain ⟨ue0, ue1⟩ := hok2.uen
    have hl4 := hok2.len
    have hlL := hP2.length_eq
    (try dsimp only [n_1, n_2, n_3, n_4, List.append_nil, pk, n_5, n_6] at F)
    refine l_op 0 rfl rfl rfl rfl rfl ?_
    refine l_op 2 rfl rfl rfl rfl rfl ?_
    refine l_op 2 rfl rfl rfl rfl rfl ?_
    refine l_op 0 rfl rfl rfl rfl rfl ?_
    refine l_op 0 rfl rfl rfl rfl rfl ?_
    refine l_nil (WK.nx (by assumption) ?_)
    refine SeqK.nx (by assumption) ?_
    refine k_seq (fun Q K => ?_)
    refine k_seq (fun Q K => ?_)
    refine k_linm [0, 1, 2, 3, 5, 4, 6, 7, 8, 9, 10, 11, 14, 15, 16, 17, 12, 13, 18, 19, 20, 21, 24, 25, 26, 27, 22, 23, 28, 29, 30, 31, 33, 34, 35, 36, 37, 38, 32, 39, 40] mixed (by kernel_rfl) (fun W K => ?_)
    try have hpS := F.pns
    refine l_op 0 rfl rfl rfl rfl rfl ?_
    refine l_op 2 rfl rfl rfl rfl rfl ?_
    refine l_op 0 rfl rfl rfl rfl rfl ?_
    refine l_guard rfl rfl rfl (fun hc4 => ?_) (fun hc4 => ?_)
    · cases hc4
    try simp only [irr_eq, beq_iff_eq, bne_iff_ne, beq_eq_false_iff_ne, bne_eq_false_iff_eq, ne_eq, decide_eq_true_eq, decide_eq_false_iff_not, Bool.not_eq_true', Bool.not_eq_false'] at hc4
    refine l_op 0 rfl rfl rfl rfl rfl ?_
    refine l_op 0 rfl rfl rfl rfl rfl ?_
    refine l_callp F rfl rfl (by kernel_rfl) rfl rfl (blocks_call (F.cel0 0 rfl) (Old.pure (F.has 1 rfl)) (by omega)) (fun yb s F _ => ?_)
    (try dsimp only [n_1, n_2, n_3, n_4, List.append_nil, pk, n_5, n_6] at F)
    refine l_callp F rfl rfl (by kernel_rfl) rfl rfl (rblocks_call (F.cel0 2 rfl) (Old.pure (F.has 3 rfl)) hP2 hA2 hok2.blk (by omega)) (fun yc s F _ => ?_)
    (try dsimp only [n_1, n_2, n_3, n_4, List.append_nil, pk, n_5, n_6] at F)
    refine l_callp F rfl rfl (by kernel_rfl) rfl rfl (same_call (Old.pure (F.has 4 rfl)) (Old.pure (F.has 5 rfl)) (by omega)) (fun _ s F _ => ?_)
    (try dsimp only [n_1, n_2, n_3, n_4, List.append_nil, pk, n_5, n_6] at F)
    refine l_op 2 rfl rfl rfl rfl rfl ?_
    refine l_op 2 rfl rfl rfl rfl rfl ?_
    refine l_op 0 rfl rfl rfl rfl rfl ?_
    refine l_guard rfl rfl rfl (fun hc5 => ?_) (fun hc5 => ?_)
    · exact absurd hc5 (by rw [irr_eq]; simp)
    try simp only [irr_eq, beq_iff_eq, bne_iff_ne, beq_eq_false_iff_ne, bne_eq_false_iff_eq, ne_eq, decide_eq_true_eq, decide_eq_false_iff_not, Bool.not_eq_true', Bool.not_eq_false'] at hc5
    refine l_op 0 rfl rfl rfl rfl rfl ?_
    refine l_op 0 rfl rfl rfl rfl rfl ?_
    refine l_op 2 rfl rfl rfl rfl rfl ?_
    refine l_op 2 rfl rfl rfl rfl rfl ?_
    refine l_ldc F 2 rfl rfl rfl rfl rfl rfl rfl ?_
    first | have hpS := PnS.add hpS hS53 | have hpS := PnS.add hpS (OldC.sf (by assumption)) | skip
    refine l_callp F rfl rfl (by kernel_rfl) rfl rfl (start_call (F.cel0 0 rfl)) (fun _ s F _ => ?_) (.inl (by first | exact pna_nil | exact PnA.cel F 2 rfl pna_nil | exact PnA.cel F 2 rfl (PnA.cel F 2 rfl pna_nil) | exact PnA.cel F 2 rfl (PnA.cel F 2 rfl (PnA.cel F 2 rfl pna_nil)) | exact PnA.cel F 2 rfl (PnA.cel F 2 rfl (PnA.cel F 2 rfl (PnA.cel F 2 rfl pna_nil)))))
    (try dsimp only [n_1, n_2, n_3, n_4, List.append_nil, pk, n_5, n_6] at F)
    refine l_c64 rfl rfl rfl (by omega) rfl ?_
    refine l_cmp rfl rfl rfl rfl ?_
    refine l_op 2 rfl rfl rfl rfl rfl ?_
    refine l_op 0 rfl rfl rfl rfl rfl ?_
    refine l_guard rfl rfl rfl (fun hc6 => ?_) (fun hc6 => ?_)
    · first | replace hc6 := bne_iff_ne.1 ((irr_eq _).symm.trans hc6) | simp only [irr_eq, bne_iff_ne, bne_eq_false_iff_eq, ne_eq, decide_eq_true_eq, decide_eq_false_iff_not, Bool.not_eq_true', Bool.not_eq_false'] at hc6
      exact absurd rfl hc6
    first | replace hc6 := bne_eq_false_iff_eq.1 ((irr_eq _).symm.trans hc6) | simp only [irr_eq, bne_iff_ne, bne_eq_false_iff_eq, ne_eq, decide_eq_true_eq, decide_eq_false_iff_not, Bool.not_eq_true', Bool.not_eq_false'] at hc6
    refine l_op 0 rfl rfl rfl rfl rfl ?_
    refine l_op 0 rfl rfl rfl rfl rfl ?_
    refine l_op 2 rfl rfl rfl rfl rfl ?_
    refine l_op 2 rfl rfl rfl rfl rfl ?_
    refine l_ldc F 2 rfl rfl rfl rfl rfl rfl rfl ?_
    first | have hpS := PnS.add hpS hS63 | have hpS := PnS.add hpS (OldC.sf (by assumption)) | skip
    refine l_callp F rfl rfl (by kernel_rfl) rfl rfl (end_call (F.cel0 0 rfl)) (fun _ s F _ => ?_) (.inl (by first | exact pna_nil | exact PnA.cel F 2 rfl pna_nil | exact PnA.cel F 2 rfl (PnA.cel F 2 rfl pna_nil) | exact PnA.cel F 2 rfl (PnA.cel F 2 rfl (PnA.cel F 2 rfl pna_nil)) | exact PnA.cel F 2 rfl (PnA.cel F 2 rfl (PnA.cel F 2 rfl (PnA.cel F 2 rfl pna_nil)))))
    (try dsimp only [n_1, n_2, n_3, n_4, List.append_nil, pk, n_5, n_6] at F)
    refine l_c64 rfl rfl rfl (by omega) rfl ?_
    refine l_cmp rfl rfl rfl rfl ?_
    refine l_op 2 rfl rfl rfl rfl rfl ?_
    refine l_op 0 rfl rfl rfl rfl rfl ?_
    refine l_guard rfl rfl rfl (fun hc7 => ?_) (fun hc7 => ?_)
    · first | replace hc7 := bne_iff_ne.1 ((irr_eq _).symm.trans hc7) | simp only [irr_eq, bne_iff_ne, bne_eq_false_iff_eq, ne_eq, decide_eq_true_eq, decide_eq_false_iff_not, Bool.not_eq_true', Bool.not_eq_false'] at hc7
      exact absurd rfl hc7
    first | replace hc7 := bne_eq_false_iff_eq.1 ((irr_eq _).symm.trans hc7) | simp only [irr_eq, bne_iff_ne, bne_eq_false_iff_eq, ne_eq, decide_eq_true_eq, decide_eq_false_iff_not, Bool.not_eq_true', Bool.not_eq_false'] at hc7
    refine l_op 0 rfl rfl rfl rfl rfl ?_
    refine l_op 0 rfl rfl rfl rfl rfl ?_
    refine l_op 2 rfl rfl rfl rfl rfl ?_
    refine l_op 2 rfl rfl rfl rfl rfl ?_
    refine l_ldc F 2 rfl rfl rfl rfl rfl rfl rfl ?_
    first | have hpS := PnS.add hpS hS72 | have hpS := PnS.add hpS (OldC.sf (by assumption)) | skip
    first | refine l_op 2 rfl rfl rfl rfl rfl ?_ | refine l_ln rfl rfl rfl rfl ?_
    refine l_cmp rfl rfl rfl rfl ?_
    refine l_callp F rfl rfl (by kernel_rfl) rfl rfl (active_call (F.cel0 0 rfl)) (fun _ s F _ => ?_) (.inl (by first | exact pna_nil | exact PnA.cel F 2 rfl pna_nil | exact PnA.cel F 2 rfl (PnA.cel F 2 rfl pna_nil) | exact PnA.cel F 2 rfl (PnA.cel F 2 rfl (PnA.cel F 2 rfl pna_nil)) | exact PnA.cel F 2 rfl (PnA.cel F 2 rfl (PnA.cel F 2 rfl (PnA.cel F 2 rfl pna_nil)))))
    (try dsimp only [n_1, n_2, n_3, n_4, List.append_nil, pk, n_5, n_6] at F)
    refine l_cmp rfl rfl rfl rfl ?_
    refine l_op 2 rfl rfl rfl rfl rfl ?_
    refine l_nil (WK.nx (by assumption) ?_)
    refine SeqK.nx (by assumption) ?_
    refine l_cond rfl rfl (fun hc8 => ?_) (fun hc8 => ?_)
    · exact absurd hc8 (by simp only [irr_eq]; rw [hlL]; simp)
    first | replace hc8 := bne_eq_false_iff_eq.1 ((irr_eq _).symm.trans hc8) | simp only [irr_eq, bne_iff_ne, bne_eq_false_iff_eq, ne_eq, decide_eq_true_eq, decide_eq_false_iff_not, Bool.not_eq_true', Bool.not_eq_false'] at hc8
    refine k_skip ?_
    refine SeqK.nx (by assumption) ?_
    refine k_seq (fun Q K => ?_)
    refine k_lin (fun W K => ?_)
    refine l_op 0 rfl rfl rfl rfl rfl ?_
    refine l_callp F rfl rfl (by kernel_rfl) rfl rfl (blocks_call (F.cel0 0 rfl) (Old.pure (F.has 1 rfl)) (by omega)) (fun yd s F _ => ?_)
    (try dsimp only [n_1, n_2, n_3, n_4, List.append_nil, pk, n_5, n_6] at F)
    refine l_op 0 rfl rfl rfl rfl rfl ?_
    refine l_nil (WK.nx (by assumption) ?_)
    refine SeqK.nx (by assumption) ?_
    refine k_seq (fun Q K => ?_)
    refine k_lin (fun W K => ?_)
    refine l_op 0 rfl rfl rfl rfl rfl ?_
    refine l_nil (WK.nx (by assumption) ?_)
    refine SeqK.nx (by assumption) ?_
    refine k_block (fun Q K => ?_)
    refine k_loop (α := Int × List Value) (fun ⟨k, vs⟩ s => Facts E0 σ s (hF y2.m y2.a y2.c most y2.st y2.en y2.bl ++ rF q19 y2.aw y2.cw most y2.st y2.en y2.L ++ [own yd.1 y2.bl.length yd.2 2 vs]) ∧ 0 ≤ k) (fun ⟨k, vs⟩ => [(1, .slice a ts.length c), (5, .pointer (some ⟨y2.m, 0, none⟩)), (6, .pointer (some ⟨q19, 0, none⟩)), (7, .int .i64 i), (9, .slice yd.1 y2.bl.length yd.2), (10, .int .i64 k)]) (fun ⟨k, _⟩ => (y2.bl.length - k).toNat) (0, rows eB y2.bl) ⟨F.pick [0, 1, 2, 3, 6] (by decide), by omega⟩ (by repeat (first | exact trivial | refine And.intro rfl ?_)) ?_
    clear F
    rintro ⟨k, vs⟩ env s Q K1 ⟨F, k0⟩
    obtain ⟨yda, ydc⟩ := yd
    refine k_seq (fun Q K => ?_)
    refine k_seq (fun Q K => ?_)
    refine k_lin (fun W K => ?_)
    refine l_op 0 rfl rfl rfl rfl rfl ?_
    refine l_op 0 rfl rfl rfl rfl rfl ?_
    first | refine l_op 2 rfl rfl rfl rfl rfl ?_ | refine l_ln rfl rfl rfl rfl ?_
    refine l_cmp rfl rfl rfl rfl ?_
    refine l_nil (WK.nx (by assumption) ?_)
    refine SeqK.nx (by assumption) ?_
    refine l_cond rfl rfl (fun hc9 => ?_) (fun hc9 => ?_)
    · replace hc9 := of_decide_eq_true ((irr_eq _).symm.trans hc9)
      refine k_skip ?_
      refine SeqK.nx (by assumption) ?_
      refine k_seq (fun Q K => ?_)
      refine k_block (fun Q K => ?_)
      refine k_lin (fun W K => ?_)
      refine l_op 0 rfl rfl rfl rfl rfl ?_
      refine l_op 0 rfl rfl rfl rfl rfl ?_
      refine l_bld rfl rfl rfl rfl ?_
      refine l_ixo F 4 rfl rfl rfl rfl rfl rfl rfl (by omega) (fun m90 e90 ha90 hA90 => ?_)
      subst ha90
      refine l_stoa (sz := 2) (j := k.toNat * 2) (cs := #[.int .u32 0, .int .u32 0]) F 4 rfl rfl rfl rfl rfl rfl rfl rfl rfl (by omega) hD (fun s F => ?_)
      (try dsimp only [n_1, n_2, n_3, n_4, List.append_nil, pk, n_5, n_6] at F)
      refine l_nil (WK.nx (by assumption) ?_)
      refine BlkK.nx (by assumption) ?_
      refine SeqK.nx (by assumption) ?_
      refine k_lin (fun W K => ?_)
      refine l_op 0 rfl rfl rfl rfl rfl ?_
      refine l_a64 rfl rfl rfl (by omega) rfl ?_
      refine l_op 0 rfl rfl rfl rfl rfl ?_
      refine l_nil (WK.nx (by assumption) ?_)
      exact K1.nx (k + 1, _) (by repeat (first | exact trivial | refine And.intro rfl ?_)) ⟨F, by omega⟩ (by first | omega | (simp only; omega))
    replace hc9 := of_decide_eq_false ((irr_eq _).symm.trans hc9)
    refine k_exit ?_
    refine SeqK.et (by assumption) ?_
    refine LoopK.et (by assumption) ?_
    refine BlkK.et (by assumption) ?_
    refine BlkK.nx (by assumption) ?_
    refine SeqK.nx (by assumption) ?_
    refine k_lin (fun W K => ?_)
    refine l_op 0 rfl rfl rfl rfl rfl ?_
    refine l_a64 rfl rfl rfl (by omega) rfl ?_
    refine l_op 0 rfl rfl rfl rfl rfl ?_
    refine l_nil (WK.nx (by assumption) ?_)
    exact K0.nx (i + 1, y2) (by repeat (first | exact trivial | refine And.intro rfl ?_)) ⟨F.pick [0, 1, 2, 3] (by decide), by omega, by omega, hEx2, hok2, hP2⟩ (by first | omega | (simp only; omega))
  replace hc3 := of_decide_eq_false ((irr_eq _).symm.trans hc3)
  refine k_exit ?_
  refine SeqK.et (by assumption) ?_
  refine LoopK.et (by assumption) ?_
  refine BlkK.et (by assumption) ?_
  refine SeqK.nx (by assumption) ?_
  refine k_seq (fun Q K => ?_)
  refine k_lin (fun W K => ?_)
  refine l_callp F rfl rfl (by kernel_rfl) rfl rfl live_call (fun _ s F _ => ?_)
  (try dsimp only [n_1, n_2, n_3, n_4, List.append_nil, pk, n_5, n_6] at F)
  refine l_op 0 rfl rfl rfl rfl rfl ?_
  refine l_nil (WK.nx (by assumption) ?_)
  refine SeqK.nx (by assumption) ?_
  refine k_ret ?_
  refine FunK.rt (by assumption) rfl ?_
  -- leaf 2
  rfl

end Go.Proofs.Ytkealnppdblgiaa
