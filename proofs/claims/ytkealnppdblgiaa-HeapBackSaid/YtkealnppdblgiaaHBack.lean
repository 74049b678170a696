/- What is freed at once leaves all as it was. No statement of the seat is proved in this text. -/
import Derived.Test.YtkealnppdblgiaaHBackLaw
set_option linter.unusedVariables false
set_option linter.unusedSimpArgs false
set_option maxRecDepth 100000
set_option maxHeartbeats 4000000
namespace Go.Proofs.Ytkealnppdblgiaa
open GAb Go

theorem back_law {σ : AState} {a : Option Addr} {l c : Nat} {ts : List Act} {most n : Int} (h : OldA σ a l c ts) (hm : U32 most) (hn : U32 n) :
    SCall Try.prog E0 3 [.int .u32 most, .slice a l c, .int .u32 n] σ (fun v _ => v = .bool true) := by
  obtain rfl := h.len
  have ho := h.old
  refine k_fun Try.func3 rfl (m := 131) rfl fun B hD Q K => ?_
  have F := Facts.nil E0 σ
  refine k_seq (fun Q K => ?_)
  refine k_lin (fun W K => ?_)
  refine l_op 0 rfl rfl rfl rfl rfl ?_
  refine l_nil (WK.nx (by assumption) ?_)
  refine SeqK.nx (by assumption) ?_
  refine k_seq (fun Q K => ?_)
  refine k_seq (fun Q K => ?_)
  refine k_lin (fun W K => ?_)
  refine l_op 0 rfl rfl rfl rfl rfl ?_
  refine l_callp F rfl rfl (by kernel_rfl) rfl rfl (huge_call (h.to F)) (fun hg s F hhg => ?_)
  (try dsimp only [n_1, n_2, n_3, n_4, List.append_nil, pk, n_5, n_6] at F)
  refine l_nil (WK.nx (by assumption) ?_)
  refine SeqK.nx (by assumption) ?_
  refine l_cond rfl rfl (fun hc1 => ?_) (fun hc1 => ?_)
  · try simp only [irr_eq, beq_iff_eq, bne_iff_ne, beq_eq_false_iff_ne, bne_eq_false_iff_eq, ne_eq, decide_eq_true_eq, decide_eq_false_iff_not, Bool.not_eq_true', Bool.not_eq_false'] at hc1
    refine k_seq (fun Q K => ?_)
    refine k_lin (fun W K => ?_)
    refine l_callp F rfl rfl (by kernel_rfl) rfl rfl live_call (fun _ s F _ => ?_)
    (try dsimp only [n_1, n_2, n_3, n_4, List.append_nil, pk, n_5, n_6] at F)
    refine l_op 0 rfl rfl rfl rfl rfl ?_
    refine l_nil (WK.nx (by assumption) ?_)
    refine SeqK.nx (by assumption) ?_
    refine k_ret ?_
    refine SeqK.rt (by assumption) ?_
    refine FunK.rt (by assumption) rfl ?_
    -- leaf 1
    exact rfl
  try simp only [irr_eq, beq_iff_eq, bne_iff_ne, beq_eq_false_iff_ne, bne_eq_false_iff_eq, ne_eq, decide_eq_true_eq, decide_eq_false_iff_not, Bool.not_eq_true', Bool.not_eq_false'] at hc1
  refine k_skip ?_
  refine SeqK.nx (by assumption) ?_
  refine k_seq (fun Q K => ?_)
  refine k_lin (fun W K => ?_)
  refine l_op 0 rfl rfl rfl rfl rfl ?_
  refine l_callp F rfl rfl (by kernel_rfl) rfl rfl (new_call (most := most)) (fun m s F _ => ?_)
  (try dsimp only [n_1, n_2, n_3, n_4, List.append_nil, pk, n_5, n_6] at F)
  refine l_op 0 rfl rfl rfl rfl rfl ?_
  refine l_nil (WK.nx (by assumption) ?_)
  refine SeqK.nx (by assumption) ?_
  refine k_seq (fun Q K => ?_)
  refine k_seq (fun Q K => ?_)
  refine k_lin (fun W K => ?_)
  refine l_op 0 rfl rfl rfl rfl rfl ?_
  refine l_cmp rfl rfl rfl rfl ?_
  refine l_nil (WK.nx (by assumption) ?_)
  refine SeqK.nx (by assumption) ?_
  refine l_cond rfl rfl (fun hc2 => ?_) (fun hc2 => ?_)
  · exact absurd ((irr_eq _).symm.trans hc2) (by decide)
  first | replace hc2 := ne_of_beq_false ((irr_eq _).symm.trans hc2) | simp only [irr_eq, beq_iff_eq, beq_eq_false_iff_ne, ne_eq, decide_eq_true_eq, decide_eq_false_iff_not] at hc2
  refine k_skip ?_
  refine SeqK.nx (by assumption) ?_
  refine k_seq (fun Q K => ?_)
  refine k_seq (fun Q K => ?_)
  refine k_lin (fun W K => ?_)
  refine l_op 0 rfl rfl rfl rfl rfl ?_
  refine l_nil (WK.nx (by assumption) ?_)
  refine SeqK.nx (by assumption) ?_
  refine k_block (fun Q K => ?_)
  have hl2 : ts.length ≤ 200 := hhg hc1
  refine k_loop (α := Int × HS) (fun ⟨i, g⟩ s => Facts E0 σ s (g.f m most) ∧ g.ok most ∧ 0 ≤ i ∧ i ≤ ts.length) (fun ⟨i, g⟩ => [(1, .slice a ts.length c), (2, .int .u32 n), (7, .pointer (some ⟨m, 0, none⟩)), (8, .int .i64 i)]) (fun ⟨i, _⟩ => (ts.length - i).toNat) (0, ⟨none, 0, 0, 0, []⟩) ⟨F.pick [0, 1] (by decide), ⟨.inl rfl, hok_new most⟩, by omega, by omega⟩ (by repeat (first | exact trivial | refine And.intro rfl ?_)) ?_
  clear F
  rintro ⟨i, ⟨a0, c0, st0, en0, bl0⟩⟩ env s Q K0 ⟨F, ⟨hEx, hok⟩, i0, i1⟩
  dsimp only at F hEx hok
  refine k_seq (fun Q K => ?_)
  refine k_seq (fun Q K => ?_)
  refine k_lin (fun W K => ?_)
  refine l_op 0 rfl rfl rfl rfl rfl ?_
  refine l_op 0 rfl rfl rfl rfl rfl ?_
  first | refine l_op 2 rfl rfl rfl rfl rfl ?_ | refine l_ln rfl rfl rfl rfl ?_
  refine l_cmp rfl rfl rfl rfl ?_
  refine l_nil (WK.nx (by assumption) ?_)
  refine SeqK.nx (by assumption) ?_
  refine l_cond rfl rfl (fun hc3 => ?_) (fun hc3 => ?_)
  · replace hc3 := of_decide_eq_true ((irr_eq _).symm.trans hc3)
    obtain ⟨u1, u2, u3⟩ := h.at (i := i.toNat) (by omega)
    refine k_skip ?_
    refine SeqK.nx (by assumption) ?_
    refine k_seq (fun Q K => ?_)
    refine k_block (fun Q K => ?_)
    refine k_seq (fun Q K => ?_)
    refine k_seq (fun Q K => ?_)
    refine k_lin (fun W K => ?_)
    refine l_op 0 rfl rfl rfl rfl rfl ?_
    refine l_op 0 rfl rfl rfl rfl rfl ?_
    first | refine l_ixrs (e := eA) F ho ⟨eA_len, by decide⟩ rfl rfl rfl rfl rfl rfl (by omega) (fun m28 b28 hA28 hS28 => ?_) | refine l_ixr (e := eA) rfl rfl rfl rfl rfl rfl (F.old ho) ⟨eA_len, by decide⟩ (by omega) (fun m28 b28 hA28 => ?_)
    refine l_op 2 rfl rfl rfl rfl rfl ?_
    refine l_ld0 rfl rfl rfl rfl rfl (by assumption) ?_
    refine l_cmp rfl rfl rfl rfl ?_
    refine l_nil (WK.nx (by assumption) ?_)
    refine SeqK.nx (by assumption) ?_
    refine l_cond rfl rfl (fun hc4 => ?_) (fun hc4 => ?_)
    · first | replace hc4 := eq_of_beq ((irr_eq _).symm.trans hc4) | simp only [irr_eq, beq_iff_eq, beq_eq_false_iff_ne, ne_eq, decide_eq_true_eq, decide_eq_false_iff_not] at hc4
      refine k_linm [0, 1, 2, 3, 4, 6, 7, 8, 9, 5, 10, 11] mixed (by kernel_rfl) (fun W K => ?_)
      try have hpS := F.pns
      refine l_op 0 rfl rfl rfl rfl rfl ?_
      refine l_op 0 rfl rfl rfl rfl rfl ?_
      refine l_op 0 rfl rfl rfl rfl rfl ?_
      first | refine l_ixrs (e := eA) F ho ⟨eA_len, by decide⟩ rfl rfl rfl rfl rfl rfl (by omega) (fun m35 b35 hA35 hS35 => ?_) | refine l_ixr (e := eA) rfl rfl rfl rfl rfl rfl (F.old ho) ⟨eA_len, by decide⟩ (by omega) (fun m35 b35 hA35 => ?_)
      refine l_op 2 rfl rfl rfl rfl rfl ?_
      refine l_op 0 rfl rfl rfl rfl rfl ?_
      refine l_op 0 rfl rfl rfl rfl rfl ?_
      first | refine l_ixrs (e := eA) F ho ⟨eA_len, by decide⟩ rfl rfl rfl rfl rfl rfl (by omega) (fun m40 b40 hA40 hS40 => ?_) | refine l_ixr (e := eA) rfl rfl rfl rfl rfl rfl (F.old ho) ⟨eA_len, by decide⟩ (by omega) (fun m40 b40 hA40 => ?_)
      refine l_op 2 rfl rfl rfl rfl rfl ?_
      refine l_ldj rfl rfl rfl rfl rfl rfl (by assumption) rfl ?_
      first | have hpS := PnS.add hpS hS35 | have hpS := PnS.add hpS (OldC.sf (by assumption)) | skip
      refine l_ldj rfl rfl rfl rfl rfl rfl (by assumption) rfl ?_
      first | have hpS := PnS.add hpS hS40 | have hpS := PnS.add hpS (OldC.sf (by assumption)) | skip
      refine l_call F [0, 1] [] (by decide) rfl rfl (by kernel_rfl) rfl rfl (malloc_call (F.sub [0, 1] (by decide)) hEx hok.blk hok.len hm hok.ust hok.uen u1 u3) hD (fun y s F hy => ?_)
      (try dsimp only [n_1, n_2, n_3, n_4, List.append_nil, pk, n_5, n_6] at F)
      have hok2 := hok_malloc hok hm u1 u3
      refine l_nil (WK.nx (by assumption) ?_)
      refine SeqK.nx (by assumption) ?_
      refine k_seq (fun Q K => ?_)
      refine k_lin (fun W K => ?_)
      refine l_op 0 rfl rfl rfl rfl rfl ?_
      refine l_op 0 rfl rfl rfl rfl rfl ?_
      first | refine l_ixrs (e := eA) F ho ⟨eA_len, by decide⟩ rfl rfl rfl rfl rfl rfl (by omega) (fun m46 b46 hA46 hS46 => ?_) | refine l_ixr (e := eA) rfl rfl rfl rfl rfl rfl (F.old ho) ⟨eA_len, by decide⟩ (by omega) (fun m46 b46 hA46 => ?_)
      refine l_op 2 rfl rfl rfl rfl rfl ?_
      refine l_ld0 rfl rfl rfl rfl rfl (by assumption) ?_
      refine l_cmp rfl rfl rfl rfl ?_
      refine l_nil (WK.nx (by assumption) ?_)
      refine SeqK.nx (by assumption) ?_
      refine l_cond rfl rfl (fun hc5 => ?_) (fun hc5 => ?_)
      · first | replace hc5 := eq_of_beq ((irr_eq _).symm.trans hc5) | simp only [irr_eq, beq_iff_eq, beq_eq_false_iff_ne, ne_eq, decide_eq_true_eq, decide_eq_false_iff_not] at hc5
        omega
      first | replace hc5 := ne_of_beq_false ((irr_eq _).symm.trans hc5) | simp only [irr_eq, beq_iff_eq, beq_eq_false_iff_ne, ne_eq, decide_eq_true_eq, decide_eq_false_iff_not] at hc5
      refine k_skip ?_
      refine BlkK.nx (by assumption) ?_
      refine SeqK.nx (by assumption) ?_
      refine k_lin (fun W K => ?_)
      refine l_op 0 rfl rfl rfl rfl rfl ?_
      refine l_a64 rfl rfl rfl (by omega) rfl ?_
      refine l_op 0 rfl rfl rfl rfl rfl ?_
      refine l_nil (WK.nx (by assumption) ?_)
      first
      | exact K0.nx (i + 1, ⟨y.1, y.2, _, _, _⟩) (by repeat (first | exact trivial | refine And.intro rfl ?_)) ⟨F, ⟨hy, hok_malloc hok hm u1 u3⟩, by omega, by omega⟩ (by first | omega | (simp only; omega))
      | exact K0.nx (i + 1, ⟨y.1, y.2, _, _, _⟩) (by repeat (first | exact trivial | refine And.intro rfl ?_)) ⟨F, ⟨hy, hok_free hok⟩, by omega, by omega⟩ (by first | omega | (simp only; omega))
      | exact K0.nx (i + 1, ⟨a0, c0, st0, en0, bl0⟩) (by repeat (first | exact trivial | refine And.intro rfl ?_)) ⟨F, ⟨hEx, hok⟩, by omega, by omega⟩ (by first | omega | (simp only; omega))
    first | replace hc4 := ne_of_beq_false ((irr_eq _).symm.trans hc4) | simp only [irr_eq, beq_iff_eq, beq_eq_false_iff_ne, ne_eq, decide_eq_true_eq, decide_eq_false_iff_not] at hc4
    refine k_skip ?_
    refine SeqK.nx (by assumption) ?_
    refine k_seq (fun Q K => ?_)
    refine k_lin (fun W K => ?_)
    refine l_op 0 rfl rfl rfl rfl rfl ?_
    refine l_op 0 rfl rfl rfl rfl rfl ?_
    first | refine l_ixrs (e := eA) F ho ⟨eA_len, by decide⟩ rfl rfl rfl rfl rfl rfl (by omega) (fun m46 b46 hA46 hS46 => ?_) | refine l_ixr (e := eA) rfl rfl rfl rfl rfl rfl (F.old ho) ⟨eA_len, by decide⟩ (by omega) (fun m46 b46 hA46 => ?_)
    refine l_op 2 rfl rfl rfl rfl rfl ?_
    refine l_ld0 rfl rfl rfl rfl rfl (by assumption) ?_
    refine l_cmp rfl rfl rfl rfl ?_
    refine l_nil (WK.nx (by assumption) ?_)
    refine SeqK.nx (by assumption) ?_
    refine l_cond rfl rfl (fun hc6 => ?_) (fun hc6 => ?_)
    · first | replace hc6 := eq_of_beq ((irr_eq _).symm.trans hc6) | simp only [irr_eq, beq_iff_eq, beq_eq_false_iff_ne, ne_eq, decide_eq_true_eq, decide_eq_false_iff_not] at hc6
      refine k_lin (fun W K => ?_)
      refine l_op 0 rfl rfl rfl rfl rfl ?_
      refine l_op 0 rfl rfl rfl rfl rfl ?_
      refine l_op 0 rfl rfl rfl rfl rfl ?_
      first | refine l_ixrs (e := eA) F ho ⟨eA_len, by decide⟩ rfl rfl rfl rfl rfl rfl (by omega) (fun m53 b53 hA53 hS53 => ?_) | refine l_ixr (e := eA) rfl rfl rfl rfl rfl rfl (F.old ho) ⟨eA_len, by decide⟩ (by omega) (fun m53 b53 hA53 => ?_)
      refine l_op 2 rfl rfl rfl rfl rfl ?_
      refine l_ldj rfl rfl rfl rfl rfl rfl (by assumption) rfl ?_
      refine l_call F [0, 1] [] (by decide) rfl rfl (by kernel_rfl) rfl rfl (free_call (F.sub [0, 1] (by decide)) hEx hok.len) hD (fun y s F hy => ?_)
      (try dsimp only [n_1, n_2, n_3, n_4, List.append_nil, pk, n_5, n_6] at F)
      refine l_nil (WK.nx (by assumption) ?_)
      refine BlkK.nx (by assumption) ?_
      refine SeqK.nx (by assumption) ?_
      refine k_lin (fun W K => ?_)
      refine l_op 0 rfl rfl rfl rfl rfl ?_
      refine l_a64 rfl rfl rfl (by omega) rfl ?_
      refine l_op 0 rfl rfl rfl rfl rfl ?_
      refine l_nil (WK.nx (by assumption) ?_)
      first
      | exact K0.nx (i + 1, ⟨y.1, y.2, _, _, _⟩) (by repeat (first | exact trivial | refine And.intro rfl ?_)) ⟨F, ⟨hy, hok_malloc hok hm u1 u3⟩, by omega, by omega⟩ (by first | omega | (simp only; omega))
      | exact K0.nx (i + 1, ⟨y.1, y.2, _, _, _⟩) (by repeat (first | exact trivial | refine And.intro rfl ?_)) ⟨F, ⟨hy, hok_free hok⟩, by omega, by omega⟩ (by first | omega | (simp only; omega))
      | exact K0.nx (i + 1, ⟨a0, c0, st0, en0, bl0⟩) (by repeat (first | exact trivial | refine And.intro rfl ?_)) ⟨F, ⟨hEx, hok⟩, by omega, by omega⟩ (by first | omega | (simp only; omega))
    first | replace hc6 := ne_of_beq_false ((irr_eq _).symm.trans hc6) | simp only [irr_eq, beq_iff_eq, beq_eq_false_iff_ne, ne_eq, decide_eq_true_eq, decide_eq_false_iff_not] at hc6
    refine k_skip ?_
    refine BlkK.nx (by assumption) ?_
    refine SeqK.nx (by assumption) ?_
    refine k_lin (fun W K => ?_)
    refine l_op 0 rfl rfl rfl rfl rfl ?_
    refine l_a64 rfl rfl rfl (by omega) rfl ?_
    refine l_op 0 rfl rfl rfl rfl rfl ?_
    refine l_nil (WK.nx (by assumption) ?_)
    first
    | exact K0.nx (i + 1, ⟨y.1, y.2, _, _, _⟩) (by repeat (first | exact trivial | refine And.intro rfl ?_)) ⟨F, ⟨hy, hok_malloc hok hm u1 u3⟩, by omega, by omega⟩ (by first | omega | (simp only; omega))
    | exact K0.nx (i + 1, ⟨y.1, y.2, _, _, _⟩) (by repeat (first | exact trivial | refine And.intro rfl ?_)) ⟨F, ⟨hy, hok_free hok⟩, by omega, by omega⟩ (by first | omega | (simp only; omega))
    | exact K0.nx (i + 1, ⟨a0, c0, st0, en0, bl0⟩) (by repeat (first | exact trivial | refine And.intro rfl ?_)) ⟨F, ⟨hEx, hok⟩, by omega, by omega⟩ (by first | omega | (simp only; omega))
  replace hc3 := of_decide_eq_false ((irr_eq _).symm.trans hc3)
  refine k_exit ?_
  refine SeqK.et (by assumption) ?_
  refine LoopK.et (by assumption) ?_
  refine BlkK.et (by assumption) ?_
  refine SeqK.nx (by assumption) ?_
  refine k_seq (fun Q K => ?_)
  refine k_lin (fun W K => ?_)
  refine l_op 0 rfl rfl rfl rfl rfl ?_
  refine l_callp F rfl rfl (by kernel_rfl) rfl rfl (blocks_call (bl := bl0) (F.cel0 0 rfl) (Old.pure (F.has 1 rfl)) (Nat.le_trans hok.len (by decide))) (fun y1 s F hy1 => ?_)
  (try dsimp only [n_1, n_2, n_3, n_4, List.append_nil, pk, n_5, n_6] at F)
  refine l_op 0 rfl rfl rfl rfl rfl ?_
  refine l_nil (WK.nx (by assumption) ?_)
  refine SeqK.nx (by assumption) ?_
  refine k_seq (fun Q K => ?_)
  refine k_lin (fun W K => ?_)
  refine l_op 0 rfl rfl rfl rfl rfl ?_
  refine l_op 0 rfl rfl rfl rfl rfl ?_
  obtain ⟨r, hr, hrc⟩ : ∃ r, mallocR most st0 en0 bl0 n 1024 = r ∧ ((r.ok = false ∧ r = ⟨0, false, st0, en0, bl0⟩) ∨ (r.ok = true ∧ (freeR r.st r.en r.bl r.ret).ret = 0 ∧ (freeR r.st r.en r.bl r.ret).bl = bl0)) := by
    rcases back_R hok hm hn (by decide : U32 1024) with e | ⟨r, e, q1, q2, q3⟩
    · exact ⟨_, e, .inl ⟨rfl, rfl⟩⟩
    · exact ⟨r, e, .inr ⟨q1, q2, q3⟩⟩
  have hokr : HOK most r.st r.en r.bl := by rw [← hr]; exact hok_malloc hok hm hn (by decide)
  refine l_call F [0, 1] [2] (by decide) rfl rfl (by kernel_rfl) rfl rfl (malloc_callR hr (F.sub [0, 1] (by decide)) hEx hok.blk hok.len hm hok.ust hok.uen hn (by decide)) hD (fun y2 s F hy2 => ?_)
  (try dsimp only [n_1, n_2, n_3, n_4, List.append_nil, pk, n_5, n_6] at F)
  obtain ⟨rr, rk, rs, re, rb⟩ := r
  dsimp only at F hrc hokr
  refine l_op 0 rfl rfl rfl rfl rfl ?_
  refine l_op 2 rfl rfl rfl rfl rfl ?_
  refine l_op 2 rfl rfl rfl rfl rfl ?_
  refine l_op 0 rfl rfl rfl rfl rfl ?_
  refine l_op 0 rfl rfl rfl rfl rfl ?_
  refine l_nil (WK.nx (by assumption) ?_)
  refine SeqK.nx (by assumption) ?_
  refine k_seq (fun Q K => ?_)
  refine k_seq (fun Q K => ?_)
  refine k_lin (fun W K => ?_)
  refine l_op 0 rfl rfl rfl rfl rfl ?_
  refine l_op 0 rfl rfl rfl rfl rfl ?_
  refine l_guard rfl rfl rfl (fun hc7 => ?_) (fun hc7 => ?_)
  · try simp only [irr_eq, beq_iff_eq, bne_iff_ne, beq_eq_false_iff_ne, bne_eq_false_iff_eq, ne_eq, decide_eq_true_eq, decide_eq_false_iff_not, Bool.not_eq_true', Bool.not_eq_false'] at hc7
    subst hc7
    rcases hrc with ⟨e, _⟩ | ⟨_, q2, q3⟩
    · cases e
    refine l_op 0 rfl rfl rfl rfl rfl ?_
    refine l_op 0 rfl rfl rfl rfl rfl ?_
    refine l_call F [1, 2] [0] (by decide) rfl rfl (by kernel_rfl) rfl rfl (free_call (F.sub [1, 2] (by decide)) hy2 hokr.len) hD (fun y3 s F hy3 => ?_)
    (try dsimp only [n_1, n_2, n_3, n_4, List.append_nil, pk, n_5, n_6] at F)
    have hok3 := hok_free (ad := rr) hokr
    rw [q3] at F hok3
    obtain ⟨y3, st2, en2, F, hy3, hok2⟩ : ∃ (y3 : Option Addr × Nat) (st2 en2 : Int), Facts E0 σ s [own y1.1 bl0.length y1.2 2 (rows eB bl0), cel m (hC m y3.1 y3.2 most st2 en2 bl0), own y3.1 bl0.length y3.2 2 (rows eB bl0)] ∧ Ex y3.1 ∧ HOK most st2 en2 bl0 := ⟨y3, _, _, F, hy3, hok3⟩
    refine l_callp F rfl rfl (by kernel_rfl) rfl rfl num_call (fun _ s F _ => ?_)
    (try dsimp only [n_1, n_2, n_3, n_4, List.append_nil, pk, n_5, n_6] at F)
    refine l_cmp rfl rfl rfl rfl ?_
    refine l_op 2 rfl rfl rfl rfl rfl ?_
    refine l_op 0 rfl rfl rfl rfl rfl ?_
    refine l_guard rfl rfl rfl (fun hc8 => ?_) (fun hc8 => ?_)
    · first | replace hc8 := bne_iff_ne.1 ((irr_eq _).symm.trans hc8) | simp only [irr_eq, bne_iff_ne, bne_eq_false_iff_eq, ne_eq, decide_eq_true_eq, decide_eq_false_iff_not, Bool.not_eq_true', Bool.not_eq_false'] at hc8
      exact absurd q2 hc8
    first | replace hc8 := bne_eq_false_iff_eq.1 ((irr_eq _).symm.trans hc8) | simp only [irr_eq, bne_iff_ne, bne_eq_false_iff_eq, ne_eq, decide_eq_true_eq, decide_eq_false_iff_not, Bool.not_eq_true', Bool.not_eq_false'] at hc8
    refine l_op 0 rfl rfl rfl rfl rfl ?_
    refine l_op 2 rfl rfl rfl rfl rfl ?_
    refine l_op 0 rfl rfl rfl rfl rfl ?_
    refine l_s rfl rfl ?_
    refine l_s rfl rfl ?_
    refine l_op 2 rfl rfl rfl rfl rfl ?_
    refine l_op 2 rfl rfl rfl rfl rfl ?_
    refine l_op 0 rfl rfl rfl rfl rfl ?_
    refine l_op 0 rfl rfl rfl rfl rfl ?_
    have hlb := hok2.len
    refine l_callp F rfl rfl (by kernel_rfl) rfl rfl (blocks_call (F.cel0 1 rfl) (Old.pure (F.has 2 rfl)) (Nat.le_trans hok2.len (by decide))) (fun y4 s F hy4 => ?_)
    (try dsimp only [n_1, n_2, n_3, n_4, List.append_nil, pk, n_5, n_6] at F)
    refine l_op 0 rfl rfl rfl rfl rfl ?_
    refine l_callp F rfl rfl (by kernel_rfl) rfl rfl (same_call (Old.pure (F.has 3 rfl)) (Old.pure (F.has 0 rfl)) (Nat.le_trans hok2.len (by decide))) (fun _ s F _ => ?_)
    (try dsimp only [n_1, n_2, n_3, n_4, List.append_nil, pk, n_5, n_6] at F)
    refine l_op 2 rfl rfl rfl rfl rfl ?_
    refine l_op 2 rfl rfl rfl rfl rfl ?_
    refine l_nil (WK.nx (by assumption) ?_)
    refine SeqK.nx (by assumption) ?_
    refine l_cond rfl rfl (fun hc9 => ?_) (fun hc9 => ?_)
    · simp [irr_eq] at hc9
    try simp only [irr_eq, beq_iff_eq, bne_iff_ne, beq_eq_false_iff_ne, bne_eq_false_iff_eq, ne_eq, decide_eq_true_eq, decide_eq_false_iff_not, Bool.not_eq_true', Bool.not_eq_false'] at hc9
    refine k_skip ?_
    refine SeqK.nx (by assumption) ?_
    refine k_seq (fun Q K => ?_)
    refine k_seq (fun Q K => ?_)
    refine k_lin (fun W K => ?_)
    refine l_op 0 rfl rfl rfl rfl rfl ?_
    first | refine l_op 2 rfl rfl rfl rfl rfl ?_ | refine l_ln rfl rfl rfl rfl ?_
    refine l_a64 rfl rfl rfl (by omega) rfl ?_
    refine l_op 0 rfl rfl rfl rfl rfl ?_
    refine l_nil (WK.nx (by assumption) ?_)
    refine SeqK.nx (by assumption) ?_
    refine k_block (fun Q K => ?_)
    refine k_loop (α := Int × HS) (fun ⟨j, g⟩ s => Facts E0 σ s (own y1.1 bl0.length y1.2 2 (rows eB bl0) :: g.f m most) ∧ g.ok most ∧ g.bl = bl0.take (j + 1).toNat ∧ -1 ≤ j ∧ j < bl0.length) (fun ⟨j, g⟩ => [(7, .pointer (some ⟨m, 0, none⟩)), (9, .slice y1.1 bl0.length y1.2), (12, .int .i64 j)]) (fun ⟨j, _⟩ => (j + 1).toNat) ((bl0.length : Int) - 1, ⟨y3.1, y3.2, st2, en2, bl0⟩) ⟨F.pick [0, 1, 2] (by decide), ⟨hy3, hok2⟩, (List.take_of_length_le (by dsimp only; omega)).symm, by omega, by omega⟩ (by repeat (first | exact trivial | refine And.intro rfl ?_)) ?_
    clear F
    rintro ⟨j, ⟨a5, c5, st5, en5, bl5⟩⟩ env s Q K1 ⟨F, ⟨hEx5, hok5⟩, hbl, j0, j1⟩
    dsimp only at F hEx5 hok5 hbl
    subst hbl
    refine k_seq (fun Q K => ?_)
    refine k_seq (fun Q K => ?_)
    refine k_lin (fun W K => ?_)
    refine l_op 0 rfl rfl rfl rfl rfl ?_
    refine l_cmp rfl rfl rfl rfl ?_
    refine l_nil (WK.nx (by assumption) ?_)
    refine SeqK.nx (by assumption) ?_
    refine l_cond rfl rfl (fun hc10 => ?_) (fun hc10 => ?_)
    · replace hc10 := of_decide_eq_true ((irr_eq _).symm.trans hc10)
      have hne : bl0 ≠ [] := fun e => by subst e; simp at j1; omega
      obtain ⟨w1, w2⟩ := free_last (st := st5) (en := en5) hok2.blk (hok2.on hne).2.2.2.2 (j := j.toNat) (by omega)
      have ej : (j + 1).toNat = j.toNat + 1 := by omega
      rw [ej] at F hok5
      refine k_skip ?_
      refine SeqK.nx (by assumption) ?_
      refine k_seq (fun Q K => ?_)
      refine k_block (fun Q K => ?_)
      refine k_seq (fun Q K => ?_)
      refine k_lin (fun W K => ?_)
      refine l_op 0 rfl rfl rfl rfl rfl ?_
      refine l_callp F rfl rfl (by kernel_rfl) rfl rfl (active_call (F.cel0 1 rfl)) (fun _ s F _ => ?_)
      (try dsimp only [n_1, n_2, n_3, n_4, List.append_nil, pk, n_5, n_6] at F)
      refine l_op 2 rfl rfl rfl rfl rfl ?_
      refine l_op 0 rfl rfl rfl rfl rfl ?_
      refine l_guard rfl rfl rfl (fun hc11 => ?_) (fun hc11 => ?_)
      · try simp only [irr_eq, beq_iff_eq, bne_iff_ne, beq_eq_false_iff_ne, bne_eq_false_iff_eq, ne_eq, decide_eq_true_eq, decide_eq_false_iff_not, Bool.not_eq_true', Bool.not_eq_false'] at hc11
        rw [List.length_take] at hc11; omega
      try simp only [irr_eq, beq_iff_eq, bne_iff_ne, beq_eq_false_iff_ne, bne_eq_false_iff_eq, ne_eq, decide_eq_true_eq, decide_eq_false_iff_not, Bool.not_eq_true', Bool.not_eq_false'] at hc11
      refine l_op 0 rfl rfl rfl rfl rfl ?_
      refine l_op 0 rfl rfl rfl rfl rfl ?_
      refine l_op 0 rfl rfl rfl rfl rfl ?_
      refine l_ixr (e := eB) rfl rfl rfl rfl rfl rfl (F.has 0 rfl) ⟨eB_len, by decide⟩ (by omega) (fun m102 b102 hA102 => ?_)
      refine l_op 2 rfl rfl rfl rfl rfl ?_
      refine l_ld0 rfl rfl rfl rfl rfl (by assumption) ?_
      refine l_call F [1, 2] [0] (by decide) rfl rfl (by kernel_rfl) rfl rfl (free_call (F.sub [1, 2] (by decide)) hEx5 hok5.len) hD (fun y6 s F hy6 => ?_)
      (try dsimp only [n_1, n_2, n_3, n_4, List.append_nil, pk, n_5, n_6] at F)
      have hok6 := hok_free (ad := (bl0.getD j.toNat default).1) hok5
      rw [w2] at F hok6
      refine l_callp F rfl rfl (by kernel_rfl) rfl rfl num_call (fun _ s F _ => ?_)
      (try dsimp only [n_1, n_2, n_3, n_4, List.append_nil, pk, n_5, n_6] at F)
      refine l_cmp rfl rfl rfl rfl ?_
      refine l_op 2 rfl rfl rfl rfl rfl ?_
      refine l_nil (WK.nx (by assumption) ?_)
      refine SeqK.nx (by assumption) ?_
      refine l_cond rfl rfl (fun hc12 => ?_) (fun hc12 => ?_)
      · first | replace hc12 := bne_iff_ne.1 ((irr_eq _).symm.trans hc12) | simp only [irr_eq, bne_iff_ne, bne_eq_false_iff_eq, ne_eq, decide_eq_true_eq, decide_eq_false_iff_not, Bool.not_eq_true', Bool.not_eq_false'] at hc12
        exact absurd w1 hc12
      first | replace hc12 := bne_eq_false_iff_eq.1 ((irr_eq _).symm.trans hc12) | simp only [irr_eq, bne_iff_ne, bne_eq_false_iff_eq, ne_eq, decide_eq_true_eq, decide_eq_false_iff_not, Bool.not_eq_true', Bool.not_eq_false'] at hc12
      refine k_skip ?_
      refine BlkK.nx (by assumption) ?_
      refine SeqK.nx (by assumption) ?_
      refine k_lin (fun W K => ?_)
      refine l_op 0 rfl rfl rfl rfl rfl ?_
      refine l_a64 rfl rfl rfl (by omega) rfl ?_
      refine l_op 0 rfl rfl rfl rfl rfl ?_
      refine l_nil (WK.nx (by assumption) ?_)
      have ej2 : (j - 1 + 1).toNat = j.toNat := by omega
      exact K1.nx (j - 1, ⟨y6.1, y6.2, _, _, _⟩) (by repeat (first | exact trivial | refine And.intro rfl ?_)) ⟨F, ⟨hy6, hok6⟩, by rw [ej2], by omega, by omega⟩ (by first | omega | (simp only; omega))
    replace hc10 := of_decide_eq_false ((irr_eq _).symm.trans hc10)
    have ej : (j + 1).toNat = 0 := by omega
    rw [ej, List.take_zero] at F hok5
    obtain ⟨z1, z2⟩ := hok5.emp rfl
    refine k_exit ?_
    refine SeqK.et (by assumption) ?_
    refine LoopK.et (by assumption) ?_
    refine BlkK.et (by assumption) ?_
    refine SeqK.nx (by assumption) ?_
    refine k_seq (fun Q K => ?_)
    refine k_lin (fun W K => ?_)
    refine l_op 0 rfl rfl rfl rfl rfl ?_
    refine l_callp F rfl rfl (by kernel_rfl) rfl rfl (active_call (F.cel0 1 rfl)) (fun _ s F _ => ?_)
    (try dsimp only [n_1, n_2, n_3, n_4, List.append_nil, pk, n_5, n_6] at F)
    refine l_op 2 rfl rfl rfl rfl rfl ?_
    refine l_op 0 rfl rfl rfl rfl rfl ?_
    refine l_guard rfl rfl rfl (fun hc13 => ?_) (fun hc13 => ?_)
    · try simp only [irr_eq, beq_iff_eq, bne_iff_ne, beq_eq_false_iff_ne, bne_eq_false_iff_eq, ne_eq, decide_eq_true_eq, decide_eq_false_iff_not, Bool.not_eq_true', Bool.not_eq_false'] at hc13
      refine l_op 0 rfl rfl rfl rfl rfl ?_
      refine l_callp F rfl rfl (by kernel_rfl) rfl rfl (start_call (F.cel0 1 rfl)) (fun _ s F _ => ?_)
      (try dsimp only [n_1, n_2, n_3, n_4, List.append_nil, pk, n_5, n_6] at F)
      refine l_cmp rfl rfl rfl rfl ?_
      refine l_op 2 rfl rfl rfl rfl rfl ?_
      refine l_op 0 rfl rfl rfl rfl rfl ?_
      refine l_guard rfl rfl rfl (fun hc14 => ?_) (fun hc14 => ?_)
      · first | replace hc14 := eq_of_beq ((irr_eq _).symm.trans hc14) | simp only [irr_eq, beq_iff_eq, beq_eq_false_iff_ne, ne_eq, decide_eq_true_eq, decide_eq_false_iff_not] at hc14
        refine l_op 0 rfl rfl rfl rfl rfl ?_
        refine l_callp F rfl rfl (by kernel_rfl) rfl rfl (end_call (F.cel0 1 rfl)) (fun _ s F _ => ?_)
        (try dsimp only [n_1, n_2, n_3, n_4, List.append_nil, pk, n_5, n_6] at F)
        refine l_cmp rfl rfl rfl rfl ?_
        refine l_op 2 rfl rfl rfl rfl rfl ?_
        refine l_op 0 rfl rfl rfl rfl rfl ?_
        refine l_guard rfl rfl rfl (fun hc15 => ?_) (fun hc15 => ?_)
        · first | replace hc15 := eq_of_beq ((irr_eq _).symm.trans hc15) | simp only [irr_eq, beq_iff_eq, beq_eq_false_iff_ne, ne_eq, decide_eq_true_eq, decide_eq_false_iff_not] at hc15
          refine l_op 0 rfl rfl rfl rfl rfl ?_
          refine l_callp F rfl rfl (by kernel_rfl) rfl rfl (blocks_call (F.cel0 1 rfl) (Old.pure (F.has 2 rfl)) (by decide)) (fun y9 s F hy9 => ?_)
          (try dsimp only [n_1, n_2, n_3, n_4, List.append_nil, pk, n_5, n_6] at F)
          first | refine l_op 2 rfl rfl rfl rfl rfl ?_ | refine l_ln rfl rfl rfl rfl ?_
          refine l_cmp rfl rfl rfl rfl ?_
          refine l_op 2 rfl rfl rfl rfl rfl ?_
          refine l_op 0 rfl rfl rfl rfl rfl ?_
          refine l_guard rfl rfl rfl (fun hc16 => ?_) (fun hc16 => ?_)
          · first | replace hc16 := eq_of_beq ((irr_eq _).symm.trans hc16) | simp only [irr_eq, beq_iff_eq, beq_eq_false_iff_ne, ne_eq, decide_eq_true_eq, decide_eq_false_iff_not] at hc16
            refine l_callp F rfl rfl (by kernel_rfl) rfl rfl live_call (fun _ s F _ => ?_)
            (try dsimp only [n_1, n_2, n_3, n_4, List.append_nil, pk, n_5, n_6] at F)
            refine l_op 2 rfl rfl rfl rfl rfl ?_
            refine l_op 0 rfl rfl rfl rfl rfl ?_
            refine l_nil (WK.nx (by assumption) ?_)
            refine SeqK.nx (by assumption) ?_
            refine k_ret ?_
            refine FunK.rt (by assumption) rfl ?_
            -- leaf 2
            exact rfl
          first | replace hc16 := ne_of_beq_false ((irr_eq _).symm.trans hc16) | simp only [irr_eq, beq_iff_eq, beq_eq_false_iff_ne, ne_eq, decide_eq_true_eq, decide_eq_false_iff_not] at hc16
          exact absurd rfl hc16
        first | replace hc15 := ne_of_beq_false ((irr_eq _).symm.trans hc15) | simp only [irr_eq, beq_iff_eq, beq_eq_false_iff_ne, ne_eq, decide_eq_true_eq, decide_eq_false_iff_not] at hc15
        exact absurd z2 hc15
      first | replace hc14 := ne_of_beq_false ((irr_eq _).symm.trans hc14) | simp only [irr_eq, beq_iff_eq, beq_eq_false_iff_ne, ne_eq, decide_eq_true_eq, decide_eq_false_iff_not] at hc14
      exact absurd z1 hc14
    try simp only [irr_eq, beq_iff_eq, bne_iff_ne, beq_eq_false_iff_ne, bne_eq_false_iff_eq, ne_eq, decide_eq_true_eq, decide_eq_false_iff_not, Bool.not_eq_true', Bool.not_eq_false'] at hc13
    simp at hc13
  try simp only [irr_eq, beq_iff_eq, bne_iff_ne, beq_eq_false_iff_ne, bne_eq_false_iff_eq, ne_eq, decide_eq_true_eq, decide_eq_false_iff_not, Bool.not_eq_true', Bool.not_eq_false'] at hc7
  subst hc7
  rcases hrc with ⟨_, e⟩ | ⟨e, _⟩
  case inr => cases e
  injection e with e1 e2 e3 e4 e5
  rw [e5] at F hokr
  obtain ⟨y3, st2, en2, F, hy3, hok2⟩ : ∃ (y3 : Option Addr × Nat) (st2 en2 : Int), Facts E0 σ s [own y1.1 bl0.length y1.2 2 (rows eB bl0), cel m (hC m y3.1 y3.2 most st2 en2 bl0), own y3.1 bl0.length y3.2 2 (rows eB bl0)] ∧ Ex y3.1 ∧ HOK most st2 en2 bl0 := ⟨y2, _, _, F, hy2, hokr⟩
  refine l_s rfl rfl ?_
  refine l_s rfl rfl ?_
  refine l_s rfl rfl ?_
  refine l_s rfl rfl ?_
  refine l_s rfl rfl ?_
  refine l_op 2 rfl rfl rfl rfl rfl ?_
  refine l_op 0 rfl rfl rfl rfl rfl ?_
  refine l_op 0 rfl rfl rfl rfl rfl ?_
  refine l_op 2 rfl rfl rfl rfl rfl ?_
  refine l_op 0 rfl rfl rfl rfl rfl ?_
  refine l_op 0 rfl rfl rfl rfl rfl ?_
  refine l_cmp rfl rfl rfl rfl ?_
  refine l_op 2 rfl rfl rfl rfl rfl ?_
  refine l_op 2 rfl rfl rfl rfl rfl ?_
  refine l_op 0 rfl rfl rfl rfl rfl ?_
  refine l_guard rfl rfl rfl (fun hc17 => ?_) (fun hc17 => ?_)
  · first | replace hc17 := bne_iff_ne.1 ((irr_eq _).symm.trans hc17) | simp only [irr_eq, bne_iff_ne, bne_eq_false_iff_eq, ne_eq, decide_eq_true_eq, decide_eq_false_iff_not, Bool.not_eq_true', Bool.not_eq_false'] at hc17
    exact absurd e1 hc17
  first | replace hc17 := bne_eq_false_iff_eq.1 ((irr_eq _).symm.trans hc17) | simp only [irr_eq, bne_iff_ne, bne_eq_false_iff_eq, ne_eq, decide_eq_true_eq, decide_eq_false_iff_not, Bool.not_eq_true', Bool.not_eq_false'] at hc17
  refine l_op 0 rfl rfl rfl rfl rfl ?_
  have hlb := hok2.len
  refine l_callp F rfl rfl (by kernel_rfl) rfl rfl (blocks_call (F.cel0 1 rfl) (Old.pure (F.has 2 rfl)) (Nat.le_trans hok2.len (by decide))) (fun y4 s F hy4 => ?_)
  (try dsimp only [n_1, n_2, n_3, n_4, List.append_nil, pk, n_5, n_6] at F)
  refine l_op 0 rfl rfl rfl rfl rfl ?_
  refine l_callp F rfl rfl (by kernel_rfl) rfl rfl (same_call (Old.pure (F.has 3 rfl)) (Old.pure (F.has 0 rfl)) (Nat.le_trans hok2.len (by decide))) (fun _ s F _ => ?_)
  (try dsimp only [n_1, n_2, n_3, n_4, List.append_nil, pk, n_5, n_6] at F)
  refine l_op 2 rfl rfl rfl rfl rfl ?_
  refine l_op 2 rfl rfl rfl rfl rfl ?_
  refine l_nil (WK.nx (by assumption) ?_)
  refine SeqK.nx (by assumption) ?_
  refine l_cond rfl rfl (fun hc18 => ?_) (fun hc18 => ?_)
  · simp [irr_eq] at hc18
  try simp only [irr_eq, beq_iff_eq, bne_iff_ne, beq_eq_false_iff_ne, bne_eq_false_iff_eq, ne_eq, decide_eq_true_eq, decide_eq_false_iff_not, Bool.not_eq_true', Bool.not_eq_false'] at hc18
  refine k_skip ?_
  refine SeqK.nx (by assumption) ?_
  refine k_seq (fun Q K => ?_)
  refine k_seq (fun Q K => ?_)
  refine k_lin (fun W K => ?_)
  refine l_op 0 rfl rfl rfl rfl rfl ?_
  first | refine l_op 2 rfl rfl rfl rfl rfl ?_ | refine l_ln rfl rfl rfl rfl ?_
  refine l_a64 rfl rfl rfl (by omega) rfl ?_
  refine l_op 0 rfl rfl rfl rfl rfl ?_
  refine l_nil (WK.nx (by assumption) ?_)
  refine SeqK.nx (by assumption) ?_
  refine k_block (fun Q K => ?_)
  refine k_loop (α := Int × HS) (fun ⟨j, g⟩ s => Facts E0 σ s (own y1.1 bl0.length y1.2 2 (rows eB bl0) :: g.f m most) ∧ g.ok most ∧ g.bl = bl0.take (j + 1).toNat ∧ -1 ≤ j ∧ j < bl0.length) (fun ⟨j, g⟩ => [(7, .pointer (some ⟨m, 0, none⟩)), (9, .slice y1.1 bl0.length y1.2), (12, .int .i64 j)]) (fun ⟨j, _⟩ => (j + 1).toNat) ((bl0.length : Int) - 1, ⟨y3.1, y3.2, st2, en2, bl0⟩) ⟨F.pick [0, 1, 2] (by decide), ⟨hy3, hok2⟩, (List.take_of_length_le (by dsimp only; omega)).symm, by omega, by omega⟩ (by repeat (first | exact trivial | refine And.intro rfl ?_)) ?_
  clear F
  rintro ⟨j, ⟨a5, c5, st5, en5, bl5⟩⟩ env s Q K1 ⟨F, ⟨hEx5, hok5⟩, hbl, j0, j1⟩
  dsimp only at F hEx5 hok5 hbl
  subst hbl
  refine k_seq (fun Q K => ?_)
  refine k_seq (fun Q K => ?_)
  refine k_lin (fun W K => ?_)
  refine l_op 0 rfl rfl rfl rfl rfl ?_
  refine l_cmp rfl rfl rfl rfl ?_
  refine l_nil (WK.nx (by assumption) ?_)
  refine SeqK.nx (by assumption) ?_
  refine l_cond rfl rfl (fun hc19 => ?_) (fun hc19 => ?_)
  · replace hc19 := of_decide_eq_true ((irr_eq _).symm.trans hc19)
    have hne : bl0 ≠ [] := fun e => by subst e; simp at j1; omega
    obtain ⟨w1, w2⟩ := free_last (st := st5) (en := en5) hok2.blk (hok2.on hne).2.2.2.2 (j := j.toNat) (by omega)
    have ej : (j + 1).toNat = j.toNat + 1 := by omega
    rw [ej] at F hok5
    refine k_skip ?_
    refine SeqK.nx (by assumption) ?_
    refine k_seq (fun Q K => ?_)
    refine k_block (fun Q K => ?_)
    refine k_seq (fun Q K => ?_)
    refine k_lin (fun W K => ?_)
    refine l_op 0 rfl rfl rfl rfl rfl ?_
    refine l_callp F rfl rfl (by kernel_rfl) rfl rfl (active_call (F.cel0 1 rfl)) (fun _ s F _ => ?_)
    (try dsimp only [n_1, n_2, n_3, n_4, List.append_nil, pk, n_5, n_6] at F)
    refine l_op 2 rfl rfl rfl rfl rfl ?_
    refine l_op 0 rfl rfl rfl rfl rfl ?_
    refine l_guard rfl rfl rfl (fun hc20 => ?_) (fun hc20 => ?_)
    · try simp only [irr_eq, beq_iff_eq, bne_iff_ne, beq_eq_false_iff_ne, bne_eq_false_iff_eq, ne_eq, decide_eq_true_eq, decide_eq_false_iff_not, Bool.not_eq_true', Bool.not_eq_false'] at hc20
      rw [List.length_take] at hc20; omega
    try simp only [irr_eq, beq_iff_eq, bne_iff_ne, beq_eq_false_iff_ne, bne_eq_false_iff_eq, ne_eq, decide_eq_true_eq, decide_eq_false_iff_not, Bool.not_eq_true', Bool.not_eq_false'] at hc20
    refine l_op 0 rfl rfl rfl rfl rfl ?_
    refine l_op 0 rfl rfl rfl rfl rfl ?_
    refine l_op 0 rfl rfl rfl rfl rfl ?_
    refine l_ixr (e := eB) rfl rfl rfl rfl rfl rfl (F.has 0 rfl) ⟨eB_len, by decide⟩ (by omega) (fun m102 b102 hA102 => ?_)
    refine l_op 2 rfl rfl rfl rfl rfl ?_
    refine l_ld0 rfl rfl rfl rfl rfl (by assumption) ?_
    refine l_call F [1, 2] [0] (by decide) rfl rfl (by kernel_rfl) rfl rfl (free_call (F.sub [1, 2] (by decide)) hEx5 hok5.len) hD (fun y6 s F hy6 => ?_)
    (try dsimp only [n_1, n_2, n_3, n_4, List.append_nil, pk, n_5, n_6] at F)
    have hok6 := hok_free (ad := (bl0.getD j.toNat default).1) hok5
    rw [w2] at F hok6
    refine l_callp F rfl rfl (by kernel_rfl) rfl rfl num_call (fun _ s F _ => ?_)
    (try dsimp only [n_1, n_2, n_3, n_4, List.append_nil, pk, n_5, n_6] at F)
    refine l_cmp rfl rfl rfl rfl ?_
    refine l_op 2 rfl rfl rfl rfl rfl ?_
    refine l_nil (WK.nx (by assumption) ?_)
    refine SeqK.nx (by assumption) ?_
    refine l_cond rfl rfl (fun hc21 => ?_) (fun hc21 => ?_)
    · first | replace hc21 := bne_iff_ne.1 ((irr_eq _).symm.trans hc21) | simp only [irr_eq, bne_iff_ne, bne_eq_false_iff_eq, ne_eq, decide_eq_true_eq, decide_eq_false_iff_not, Bool.not_eq_true', Bool.not_eq_false'] at hc21
      exact absurd w1 hc21
    first | replace hc21 := bne_eq_false_iff_eq.1 ((irr_eq _).symm.trans hc21) | simp only [irr_eq, bne_iff_ne, bne_eq_false_iff_eq, ne_eq, decide_eq_true_eq, decide_eq_false_iff_not, Bool.not_eq_true', Bool.not_eq_false'] at hc21
    refine k_skip ?_
    refine BlkK.nx (by assumption) ?_
    refine SeqK.nx (by assumption) ?_
    refine k_lin (fun W K => ?_)
    refine l_op 0 rfl rfl rfl rfl rfl ?_
    refine l_a64 rfl rfl rfl (by omega) rfl ?_
    refine l_op 0 rfl rfl rfl rfl rfl ?_
    refine l_nil (WK.nx (by assumption) ?_)
    have ej2 : (j - 1 + 1).toNat = j.toNat := by omega
    exact K1.nx (j - 1, ⟨y6.1, y6.2, _, _, _⟩) (by repeat (first | exact trivial | refine And.intro rfl ?_)) ⟨F, ⟨hy6, hok6⟩, by rw [ej2], by omega, by omega⟩ (by first | omega | (simp only; omega))
  replace hc19 := of_decide_eq_false ((irr_eq _).symm.trans hc19)
  have ej : (j + 1).toNat = 0 := by omega
  rw [ej, List.take_zero] at F hok5
  obtain ⟨z1, z2⟩ := hok5.emp rfl
  refine k_exit ?_
  refine SeqK.et (by assumption) ?_
  refine LoopK.et (by assumption) ?_
  refine BlkK.et (by assumption) ?_
  refine SeqK.nx (by assumption) ?_
  refine k_seq (fun Q K => ?_)
  refine k_lin (fun W K => ?_)
  refine l_op 0 rfl rfl rfl rfl rfl ?_
  refine l_callp F rfl rfl (by kernel_rfl) rfl rfl (active_call (F.cel0 1 rfl)) (fun _ s F _ => ?_)
  (try dsimp only [n_1, n_2, n_3, n_4, List.append_nil, pk, n_5, n_6] at F)
  refine l_op 2 rfl rfl rfl rfl rfl ?_
  refine l_op 0 rfl rfl rfl rfl rfl ?_
  refine l_guard rfl rfl rfl (fun hc22 => ?_) (fun hc22 => ?_)
  · try simp only [irr_eq, beq_iff_eq, bne_iff_ne, beq_eq_false_iff_ne, bne_eq_false_iff_eq, ne_eq, decide_eq_true_eq, decide_eq_false_iff_not, Bool.not_eq_true', Bool.not_eq_false'] at hc22
    refine l_op 0 rfl rfl rfl rfl rfl ?_
    refine l_callp F rfl rfl (by kernel_rfl) rfl rfl (start_call (F.cel0 1 rfl)) (fun _ s F _ => ?_)
    (try dsimp only [n_1, n_2, n_3, n_4, List.append_nil, pk, n_5, n_6] at F)
    refine l_cmp rfl rfl rfl rfl ?_
    refine l_op 2 rfl rfl rfl rfl rfl ?_
    refine l_op 0 rfl rfl rfl rfl rfl ?_
    refine l_guard rfl rfl rfl (fun hc23 => ?_) (fun hc23 => ?_)
    · first | replace hc23 := eq_of_beq ((irr_eq _).symm.trans hc23) | simp only [irr_eq, beq_iff_eq, beq_eq_false_iff_ne, ne_eq, decide_eq_true_eq, decide_eq_false_iff_not] at hc23
      refine l_op 0 rfl rfl rfl rfl rfl ?_
      refine l_callp F rfl rfl (by kernel_rfl) rfl rfl (end_call (F.cel0 1 rfl)) (fun _ s F _ => ?_)
      (try dsimp only [n_1, n_2, n_3, n_4, List.append_nil, pk, n_5, n_6] at F)
      refine l_cmp rfl rfl rfl rfl ?_
      refine l_op 2 rfl rfl rfl rfl rfl ?_
      refine l_op 0 rfl rfl rfl rfl rfl ?_
      refine l_guard rfl rfl rfl (fun hc24 => ?_) (fun hc24 => ?_)
      · first | replace hc24 := eq_of_beq ((irr_eq _).symm.trans hc24) | simp only [irr_eq, beq_iff_eq, beq_eq_false_iff_ne, ne_eq, decide_eq_true_eq, decide_eq_false_iff_not] at hc24
        refine l_op 0 rfl rfl rfl rfl rfl ?_
        refine l_callp F rfl rfl (by kernel_rfl) rfl rfl (blocks_call (F.cel0 1 rfl) (Old.pure (F.has 2 rfl)) (by decide)) (fun y9 s F hy9 => ?_)
        (try dsimp only [n_1, n_2, n_3, n_4, List.append_nil, pk, n_5, n_6] at F)
        first | refine l_op 2 rfl rfl rfl rfl rfl ?_ | refine l_ln rfl rfl rfl rfl ?_
        refine l_cmp rfl rfl rfl rfl ?_
        refine l_op 2 rfl rfl rfl rfl rfl ?_
        refine l_op 0 rfl rfl rfl rfl rfl ?_
        refine l_guard rfl rfl rfl (fun hc25 => ?_) (fun hc25 => ?_)
        · first | replace hc25 := eq_of_beq ((irr_eq _).symm.trans hc25) | simp only [irr_eq, beq_iff_eq, beq_eq_false_iff_ne, ne_eq, decide_eq_true_eq, decide_eq_false_iff_not] at hc25
          refine l_callp F rfl rfl (by kernel_rfl) rfl rfl live_call (fun _ s F _ => ?_)
          (try dsimp only [n_1, n_2, n_3, n_4, List.append_nil, pk, n_5, n_6] at F)
          refine l_op 2 rfl rfl rfl rfl rfl ?_
          refine l_op 0 rfl rfl rfl rfl rfl ?_
          refine l_nil (WK.nx (by assumption) ?_)
          refine SeqK.nx (by assumption) ?_
          refine k_ret ?_
          refine FunK.rt (by assumption) rfl ?_
          -- leaf 3
          exact rfl
        first | replace hc25 := ne_of_beq_false ((irr_eq _).symm.trans hc25) | simp only [irr_eq, beq_iff_eq, beq_eq_false_iff_ne, ne_eq, decide_eq_true_eq, decide_eq_false_iff_not] at hc25
        exact absurd rfl hc25
      first | replace hc24 := ne_of_beq_false ((irr_eq _).symm.trans hc24) | simp only [irr_eq, beq_iff_eq, beq_eq_false_iff_ne, ne_eq, decide_eq_true_eq, decide_eq_false_iff_not] at hc24
      exact absurd z2 hc24
    first | replace hc23 := ne_of_beq_false ((irr_eq _).symm.trans hc23) | simp only [irr_eq, beq_iff_eq, beq_eq_false_iff_ne, ne_eq, decide_eq_true_eq, decide_eq_false_iff_not] at hc23
    exact absurd z1 hc23
  try simp only [irr_eq, beq_iff_eq, bne_iff_ne, beq_eq_false_iff_ne, bne_eq_false_iff_eq, ne_eq, decide_eq_true_eq, decide_eq_false_iff_not, Bool.not_eq_true', Bool.not_eq_false'] at hc22
  simp at hc22

end Go.Proofs.Ytkealnppdblgiaa
