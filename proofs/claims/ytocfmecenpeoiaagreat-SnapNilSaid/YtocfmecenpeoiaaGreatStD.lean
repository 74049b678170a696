/- A stack is loaded, by the program. No statement of the seat is proved in this text. -/
import Derived.Test.YtocfmecenpeoiaaGreatStC
set_option linter.unusedVariables false
set_option linter.unusedSimpArgs false
set_option maxRecDepth 100000
set_option maxHeartbeats 4000000
namespace Go.Proofs.YtocfmecenpeoiaaGreat.Stk
open GAb Go

abbrev stF (m : Nat) (size : Int) (a : Option Addr) (n c : Nat) (bs : List Int) (fp : Int) (on : Bool) : List Fact := [cel m (sC a n c size fp on), own a n c 1 (u8l bs)]
theorem load_call {O : Nat → Prop} {σ : AState} {m n c l d : Nat} {a x : Option Addr} {size fp : Int} {on : Bool} {bs xs : List Int} (F : Facts O σ σ [cel m (sC a n c size fp on), own a n c 1 (u8l bs)]) (hx : Old O σ x l d 1 (u8l xs)) (hB : Bytes xs) (hl : l ≤ 20000) :
    SCall Tryz.prog O 60 [.pointer (some ⟨m, 0, none⟩), .slice x l d] σ (Ret O σ (fun (y : Int × Option Addr × Nat × Nat × List Int × Int × Bool) => .int .i64 y.1) (fun y => stF m size y.2.1 y.2.2.1 y.2.2.2.1 y.2.2.2.2.1 y.2.2.2.2.2.1 y.2.2.2.2.2.2)
      fun y => RightR xs size ∧ y.1 = 0 ∧ y.2.2.1 = l ∧ y.2.2.2.2.1 = xs ∧ y.2.2.2.2.2.1 = at4 xs (l - 4) ∧ y.2.2.2.2.2.2 = true ∨ ¬ RightR xs size ∧ y = (102, a, n, c, bs, fp, on)) := by
  have hxl := hx.len8
  refine k_fun Tryz.func60 rfl (m := 77) rfl fun B hD Q K => ?_
  refine k_seq fun Q K => k_lin fun W K => ?_
  refine l_op 0 rfl rfl rfl rfl rfl ?_
  refine l_nil (WK.nx ‹_› (SeqK.nx ‹_› ?_))
  refine k_seq fun Q K => k_seq fun Q K => k_lin fun W K => ?_
  refine l_op 0 rfl rfl rfl rfl rfl ?_
  refine l_cmp rfl rfl rfl rfl ?_
  refine l_nil (WK.nx ‹_› (SeqK.nx ‹_› ?_))
  refine l_cond rfl rfl (fun hc1 => ?_) (fun hc1 => ?_)
  · exact absurd ((irr_eq _).symm.trans hc1) (by decide)
  simp only [irr_eq, beq_iff_eq, beq_eq_false_iff_ne, ne_eq, decide_eq_true_eq, decide_eq_false_iff_not] at hc1
  refine k_skip (SeqK.nx ‹_› ?_)
  refine k_seq fun Q K => k_seq fun Q K => k_lin fun W K => ?_
  refine l_op 0 rfl rfl rfl rfl rfl ?_
  refine l_op 2 rfl rfl rfl rfl rfl ?_
  refine l_op 0 rfl rfl rfl rfl rfl ?_
  iterate 2 refine l_op 2 rfl rfl rfl rfl rfl ?_
  refine l_ldc F 0 rfl rfl rfl rfl rfl rfl rfl ?_
  refine l_cmp rfl rfl rfl rfl ?_
  refine l_op 0 rfl rfl rfl rfl rfl ?_
  refine l_guard rfl rfl rfl (fun hc2 => ?_) (fun hc2 => ?_)
  · replace hc2 := of_decide_eq_true ((irr_eq _).symm.trans hc2)
    iterate 4 refine l_s rfl rfl ?_
    refine l_op 2 rfl rfl rfl rfl rfl ?_
    refine l_op 0 rfl rfl rfl rfl rfl ?_
    iterate 3 refine l_s rfl rfl ?_
    refine l_op 2 rfl rfl rfl rfl rfl ?_
    refine l_nil (WK.nx ‹_› (SeqK.nx ‹_› ?_))
    refine e_cond_t rfl rfl rfl ?_
    refine k_seq fun Q K => k_lin fun W K => ?_
    refine l_op 0 rfl rfl rfl rfl rfl ?_
    refine l_nil (WK.nx ‹_› (SeqK.nx ‹_› (k_ret (SeqK.rt ‹_› ?_))))
    refine FunK.rt (by assumption) rfl ?_
    -- leaf 1
    (refine ⟨(102, a, n, c, bs, fp, on), rfl, F.pick [0, 1] (by decide), .inr ⟨fun h => ?_, rfl⟩⟩
     first
       | (unfold RightR at h; omega)
       | (have hf := (hR.1 h).ge; omega)
       | (have hf := (hR.1 h).frame
          rw [← hy] at hf
          simp_all; done))
  replace hc2 := of_decide_eq_false ((irr_eq _).symm.trans hc2)
  refine l_op 0 rfl rfl rfl rfl rfl ?_
  refine l_op 2 rfl rfl rfl rfl rfl ?_
  refine l_remn rfl rfl rfl rfl rfl (by omega) rfl ?_
  refine l_cmp rfl rfl rfl rfl ?_
  refine l_op 2 rfl rfl rfl rfl rfl ?_
  refine l_op 0 rfl rfl rfl rfl rfl ?_
  refine l_guard rfl rfl rfl (fun hc3 => ?_) (fun hc3 => ?_)
  · replace hc3 := bne_iff_ne.1 ((irr_eq _).symm.trans hc3)
    iterate 3 refine l_s rfl rfl ?_
    refine l_op 2 rfl rfl rfl rfl rfl ?_
    refine l_nil (WK.nx ‹_› (SeqK.nx ‹_› ?_))
    refine e_cond_t rfl rfl rfl ?_
    refine k_seq fun Q K => k_lin fun W K => ?_
    refine l_op 0 rfl rfl rfl rfl rfl ?_
    refine l_nil (WK.nx ‹_› (SeqK.nx ‹_› (k_ret (SeqK.rt ‹_› ?_))))
    refine FunK.rt (by assumption) rfl ?_
    -- leaf 2
    (refine ⟨(102, a, n, c, bs, fp, on), rfl, F.pick [0, 1] (by decide), .inr ⟨fun h => ?_, rfl⟩⟩
     first
       | (unfold RightR at h; omega)
       | (have hf := (hR.1 h).ge; omega)
       | (have hf := (hR.1 h).frame
          rw [← hy] at hf
          simp_all; done))
  replace hc3 := bne_eq_false_iff_eq.1 ((irr_eq _).symm.trans hc3)
  refine l_op 0 rfl rfl rfl rfl rfl ?_
  refine l_op 2 rfl rfl rfl rfl rfl ?_
  refine l_cmp rfl rfl rfl rfl ?_
  refine l_op 2 rfl rfl rfl rfl rfl ?_
  refine l_nil (WK.nx ‹_› (SeqK.nx ‹_› ?_))
  refine l_cond rfl rfl (fun hc4 => ?_) (fun hc4 => ?_)
  · replace hc4 := of_decide_eq_true ((irr_eq _).symm.trans hc4)
    refine k_seq fun Q K => k_lin fun W K => ?_
    refine l_op 0 rfl rfl rfl rfl rfl ?_
    refine l_nil (WK.nx ‹_› (SeqK.nx ‹_› (k_ret (SeqK.rt ‹_› ?_))))
    refine FunK.rt (by assumption) rfl ?_
    -- leaf 3
    (refine ⟨(102, a, n, c, bs, fp, on), rfl, F.pick [0, 1] (by decide), .inr ⟨fun h => ?_, rfl⟩⟩
     first
       | (unfold RightR at h; omega)
       | (have hf := (hR.1 h).ge; omega)
       | (have hf := (hR.1 h).frame
          rw [← hy] at hf
          simp_all; done))
  replace hc4 := of_decide_eq_false ((irr_eq _).symm.trans hc4)
  refine k_skip (SeqK.nx ‹_› ?_)
  refine k_seq fun Q K => ?_
  refine k_linm [0, 2, 3, 4, 5, 1, 6, 7, 8] mixed (by kernel_rfl) (fun W K => ?_)
  try have hpS := F.pns
  iterate 2 refine l_op 0 rfl rfl rfl rfl rfl ?_
  iterate 2 refine l_op 2 rfl rfl rfl rfl rfl ?_
  refine l_ldc F 0 rfl rfl rfl rfl rfl rfl rfl ?_
  skip
  have hpA := PnA.cel F 0 rfl pna_nil
  refine l_callp F rfl rfl (by kernel_rfl) rfl rfl (clone_call (Old.pure (F.old hx)) (by omega)) (fun y s F _ => ?_)
  have hpA := PnA.cel F 0 rfl pna_nil
  obtain ⟨y1, y2⟩ := y
  dsimp only at F hpA
  (try dsimp only [n_1, n_2, n_3, n_4, List.append_nil, pk, n_5, n_6] at F)
  refine l_bld rfl rfl rfl rfl ?_
  refine l_bx F rfl rfl rfl rfl rfl (fun q35 s F => ?_)
  (try dsimp only [n_1, n_2, n_3, n_4, List.append_nil, pk, n_5, n_6] at F)
  refine l_op 0 rfl rfl rfl rfl rfl ?_
  refine l_nil (WK.nx ‹_› (SeqK.nx ‹_› ?_))
  refine k_seq fun Q K => k_lin fun W K => ?_
  iterate 3 refine l_op 0 rfl rfl rfl rfl rfl ?_
  refine l_op 2 rfl rfl rfl rfl rfl ?_
  refine l_a64 rfl rfl rfl (by omega) rfl ?_
  refine l_callp F rfl rfl (by kernel_rfl) rfl rfl (at_call (F.cel0 3 rfl) (Old.pure (F.has 2 rfl)) hB (by omega)) (fun _ s F _ => ?_)
  (try dsimp only [n_1, n_2, n_3, n_4, List.append_nil, pk, n_5, n_6] at F)
  iterate 2 refine l_op 2 rfl rfl rfl rfl rfl ?_
  refine l_stc F 3 rfl rfl rfl rfl rfl rfl rfl rfl rfl hD (fun s F => ?_)
  (try dsimp only [n_1, n_2, n_3, n_4, List.append_nil, pk, n_5, n_6] at F)
  refine l_nil (WK.nx ‹_› (SeqK.nx ‹_› ?_))
  refine k_seq fun Q K => k_seq fun Q K => k_lin fun W K => ?_
  refine l_op 0 rfl rfl rfl rfl rfl ?_
  iterate 2 refine l_op 2 rfl rfl rfl rfl rfl ?_
  refine l_ldc F 3 rfl rfl rfl rfl rfl rfl rfl ?_
  refine l_op 0 rfl rfl rfl rfl rfl ?_
  refine l_op 2 rfl rfl rfl rfl rfl ?_
  refine l_a64 rfl rfl rfl (by omega) rfl ?_
  iterate 2 refine l_op 0 rfl rfl rfl rfl rfl ?_
  refine l_nil (WK.nx ‹_› (SeqK.nx ‹_› ?_))
  refine k_block fun Q K => ?_
  have hb0 := at4_bd hB ((l : Int) - 4)
  refine k_loop (α := Int × Int) (fun ⟨f, t⟩ s => Facts O σ s [cel m (sC a n c size fp on), own a n c 1 (u8l bs), own y1 l y2 1 (u8l xs), cel q35 (sC y1 l y2 size (at4 xs (l - 4)) true)] ∧ 0 ≤ f ∧ f ≤ 4294967295 ∧ 0 ≤ t ∧ t ≤ l ∧ (RightR xs size ↔ Chain xs f t)) (fun ⟨f, t⟩ => [(0, .pointer (some ⟨m, 0, none⟩)), (5, .pointer (some ⟨q35, 0, none⟩)), (6, .int .i64 f), (7, .int .i64 t)]) (fun ⟨f, t⟩ => t.toNat) (at4 xs ((l : Int) - 4), (l : Int) - 16) ⟨F, hb0.1, hb0.2, by omega, by omega, by
    unfold RightR
    rw [hxl]
    exact ⟨fun h => h.2.2.2, fun h => ⟨by omega, by omega, by omega, h⟩⟩⟩ (by repeat (first | exact trivial | refine And.intro rfl ?_)) ?_
  clear F
  rintro ⟨f, t⟩ env s Q K0 ⟨F, f0, f1, t0, t1, hR⟩
  have hb1 := at4_bd hB (f - 4)
  refine k_block fun Q K => k_seq fun Q K => k_seq fun Q K => k_lin fun W K => ?_
  iterate 3 refine l_op 0 rfl rfl rfl rfl rfl ?_
  refine l_callp F rfl rfl (by kernel_rfl) rfl rfl (frame_call (F.cel0 3 rfl) (Old.pure (F.has 2 rfl)) hB (by omega) (by omega) (by omega)) (fun yf s F hy => ?_)
  (try dsimp only [n_1, n_2, n_3, n_4, List.append_nil, pk, n_5, n_6] at F)
  refine l_op 2 rfl rfl rfl rfl rfl ?_
  refine l_op 0 rfl rfl rfl rfl rfl ?_
  refine l_guard rfl rfl rfl (fun hc5 => ?_) (fun hc5 => ?_)
  · try simp only [i_1, i_2, i_3, i_4, i_5, ne_eq, i_6, i_7, i_8, i_9] at hc5
    iterate 6 refine l_s rfl rfl ?_
    refine l_op 2 rfl rfl rfl rfl rfl ?_
    refine l_nil (WK.nx ‹_› (SeqK.nx ‹_› ?_))
    refine e_cond_t rfl rfl rfl ?_
    refine k_seq fun Q K => k_lin fun W K => ?_
    refine l_op 0 rfl rfl rfl rfl rfl ?_
    refine l_nil (WK.nx ‹_› (SeqK.nx ‹_› (k_ret (SeqK.rt ‹_› (BlkK.rt ‹_› ?_)))))
    refine LoopK.rt (by assumption) ?_
    refine BlkK.rt ‹_› (SeqK.rt ‹_› ?_)
    refine FunK.rt (by assumption) rfl ?_
    -- leaf 4
    (refine ⟨(102, a, n, c, bs, fp, on), rfl, F.pick [0, 1] (by decide), .inr ⟨fun h => ?_, rfl⟩⟩
     first
       | (unfold RightR at h; omega)
       | (have hf := (hR.1 h).ge; omega)
       | (have hf := (hR.1 h).frame
          rw [← hy] at hf
          simp_all; done))
  try simp only [i_1, i_2, i_3, i_4, i_5, ne_eq, i_6, i_7, i_8, i_9] at hc5
  refine l_op 0 rfl rfl rfl rfl rfl ?_
  refine l_cmp rfl rfl rfl rfl ?_
  refine l_op 0 rfl rfl rfl rfl rfl ?_
  refine l_guard rfl rfl rfl (fun hc6 => ?_) (fun hc6 => ?_)
  · replace hc6 := bne_iff_ne.1 ((irr_eq _).symm.trans hc6)
    refine l_op 0 rfl rfl rfl rfl rfl ?_
    refine l_cmp rfl rfl rfl rfl ?_
    iterate 2 refine l_op 2 rfl rfl rfl rfl rfl ?_
    refine l_nil (WK.nx ‹_› (SeqK.nx ‹_› ?_))
    refine l_cond rfl rfl (fun hc7 => ?_) (fun hc7 => ?_)
    · replace hc7 := of_decide_eq_true ((irr_eq _).symm.trans hc7)
      refine k_seq fun Q K => k_lin fun W K => ?_
      refine l_op 0 rfl rfl rfl rfl rfl ?_
      refine l_nil (WK.nx ‹_› (SeqK.nx ‹_› (k_ret (SeqK.rt ‹_› (BlkK.rt ‹_› ?_)))))
      refine LoopK.rt (by assumption) ?_
      refine BlkK.rt ‹_› (SeqK.rt ‹_› ?_)
      refine FunK.rt (by assumption) rfl ?_
      -- leaf 5
      (refine ⟨(102, a, n, c, bs, fp, on), rfl, F.pick [0, 1] (by decide), .inr ⟨fun h => ?_, rfl⟩⟩
       first
         | (unfold RightR at h; omega)
         | (have hf := (hR.1 h).ge; omega)
         | (have hf := (hR.1 h).frame
            rw [← hy] at hf
            simp_all; done))
    replace hc7 := of_decide_eq_false ((irr_eq _).symm.trans hc7)
    refine k_skip (SeqK.nx ‹_› ?_)
    refine k_seq fun Q K => k_seq fun Q K => k_lin fun W K => ?_
    refine l_op 0 rfl rfl rfl rfl rfl ?_
    refine l_cmp rfl rfl rfl rfl ?_
    refine l_nil (WK.nx ‹_› (SeqK.nx ‹_› ?_))
    refine l_cond rfl rfl (fun hc8 => ?_) (fun hc8 => ?_)
    · replace hc8 := eq_of_beq ((irr_eq _).symm.trans hc8)
      refine k_exit ?_
      refine SeqK.et (by assumption) ?_
      refine BlkK.ot (by assumption) rfl ?_
      refine LoopK.et (by assumption) ?_
      refine BlkK.et (by assumption) ?_
      refine SeqK.nx ‹_› ?_
      refine k_seq fun Q K => k_lin fun W K => ?_
      iterate 2 refine l_op 0 rfl rfl rfl rfl rfl ?_
      refine l_op 2 rfl rfl rfl rfl rfl ?_
      refine l_ldca F 3 rfl rfl rfl rfl rfl rfl rfl ?_
      refine l_op 2 rfl rfl rfl rfl rfl ?_
      refine l_stca F 0 rfl rfl rfl rfl rfl rfl rfl rfl rfl rfl hD rfl (fun s F => ?_)
      (try dsimp only [n_1, n_2, n_3, n_4, List.append_nil, pk, n_5, n_6] at F)
      refine l_nil (WK.nx ‹_› (SeqK.nx ‹_› ?_))
      refine k_seq fun Q K => k_lin fun W K => ?_
      refine l_op 0 rfl rfl rfl rfl rfl ?_
      refine l_nil (WK.nx ‹_› (SeqK.nx ‹_› (k_ret ?_)))
      refine FunK.rt (by assumption) rfl ?_
      -- leaf 6
      (have hfr : FrameOK xs f t := hy.1 (by simp_all)
       exact ⟨(0, y1, l, y2, xs, at4 xs (l - 4), true), rfl, F.pick [0, 2] (by decide), .inl ⟨hR.2 (chain_iff.2 ⟨hfr, .inl (by omega)⟩), rfl, rfl, rfl, rfl, rfl⟩⟩)
    replace hc8 := ne_of_beq_false ((irr_eq _).symm.trans hc8)
    refine k_skip (SeqK.nx ‹_› ?_)
    refine k_lin fun W K => ?_
    iterate 2 refine l_op 0 rfl rfl rfl rfl rfl ?_
    refine l_a64 rfl rfl rfl (by omega) rfl ?_
    refine l_callp F rfl rfl (by kernel_rfl) rfl rfl (at_call (F.cel0 3 rfl) (Old.pure (F.has 2 rfl)) hB (by omega)) (fun _ s F _ => ?_)
    (try dsimp only [n_1, n_2, n_3, n_4, List.append_nil, pk, n_5, n_6] at F)
    refine l_op 0 rfl rfl rfl rfl rfl ?_
    refine l_a64 rfl rfl rfl (by omega) rfl ?_
    iterate 2 refine l_op 0 rfl rfl rfl rfl rfl ?_
    refine l_nil (WK.nx ‹_› (BlkK.nx ‹_› ?_))
    have hfr : FrameOK xs f t := hy.1 (by simp_all)
    have hlt := frame_lt hfr
    exact K0.nx (_, f - 16) (by repeat (first | exact trivial | refine And.intro rfl ?_)) ⟨F, hb1.1, hb1.2, by omega, by omega, by
      rw [hR]
      exact ⟨fun h => (h.prev (by omega)).2, fun h => .step hfr (by omega) (by omega) h⟩⟩ (by first | omega | (simp only; omega))
  replace hc6 := bne_eq_false_iff_eq.1 ((irr_eq _).symm.trans hc6)
  iterate 2 refine l_s rfl rfl ?_
  iterate 2 refine l_op 2 rfl rfl rfl rfl rfl ?_
  refine l_nil (WK.nx ‹_› (SeqK.nx ‹_› ?_))
  refine e_cond_f rfl rfl rfl ?_
  refine k_skip (SeqK.nx ‹_› ?_)
  refine k_seq fun Q K => k_seq fun Q K => k_lin fun W K => ?_
  refine l_op 0 rfl rfl rfl rfl rfl ?_
  refine l_cmp rfl rfl rfl rfl ?_
  refine l_nil (WK.nx ‹_› (SeqK.nx ‹_› ?_))
  refine l_cond rfl rfl (fun hc9 => ?_) (fun hc9 => ?_)
  · replace hc9 := eq_of_beq ((irr_eq _).symm.trans hc9)
    refine k_exit ?_
    refine SeqK.et (by assumption) ?_
    refine BlkK.ot (by assumption) rfl ?_
    refine LoopK.et (by assumption) ?_
    refine BlkK.et (by assumption) ?_
    refine SeqK.nx ‹_› ?_
    refine k_seq fun Q K => k_lin fun W K => ?_
    iterate 2 refine l_op 0 rfl rfl rfl rfl rfl ?_
    refine l_op 2 rfl rfl rfl rfl rfl ?_
    refine l_ldca F 3 rfl rfl rfl rfl rfl rfl rfl ?_
    refine l_op 2 rfl rfl rfl rfl rfl ?_
    refine l_stca F 0 rfl rfl rfl rfl rfl rfl rfl rfl rfl rfl hD rfl (fun s F => ?_)
    (try dsimp only [n_1, n_2, n_3, n_4, List.append_nil, pk, n_5, n_6] at F)
    refine l_nil (WK.nx ‹_› (SeqK.nx ‹_› ?_))
    refine k_seq fun Q K => k_lin fun W K => ?_
    refine l_op 0 rfl rfl rfl rfl rfl ?_
    refine l_nil (WK.nx ‹_› (SeqK.nx ‹_› (k_ret ?_)))
    refine FunK.rt (by assumption) rfl ?_
    -- leaf 7
    (have hfr : FrameOK xs f t := hy.1 (by simp_all)
     exact ⟨(0, y1, l, y2, xs, at4 xs (l - 4), true), rfl, F.pick [0, 2] (by decide), .inl ⟨hR.2 (chain_iff.2 ⟨hfr, .inl (by omega)⟩), rfl, rfl, rfl, rfl, rfl⟩⟩)
  replace hc9 := ne_of_beq_false ((irr_eq _).symm.trans hc9)
  refine k_skip (SeqK.nx ‹_› ?_)
  refine k_lin fun W K => ?_
  iterate 2 refine l_op 0 rfl rfl rfl rfl rfl ?_
  refine l_a64 rfl rfl rfl (by omega) rfl ?_
  refine l_callp F rfl rfl (by kernel_rfl) rfl rfl (at_call (F.cel0 3 rfl) (Old.pure (F.has 2 rfl)) hB (by omega)) (fun _ s F _ => ?_)
  (try dsimp only [n_1, n_2, n_3, n_4, List.append_nil, pk, n_5, n_6] at F)
  refine l_op 0 rfl rfl rfl rfl rfl ?_
  refine l_a64 rfl rfl rfl (by omega) rfl ?_
  iterate 2 refine l_op 0 rfl rfl rfl rfl rfl ?_
  refine l_nil (WK.nx ‹_› (BlkK.nx ‹_› ?_))
  have hfr : FrameOK xs f t := hy.1 (by simp_all)
  have hlt := frame_lt hfr
  exact K0.nx (_, f - 16) (by repeat (first | exact trivial | refine And.intro rfl ?_)) ⟨F, hb1.1, hb1.2, by omega, by omega, by
    rw [hR]
    exact ⟨fun h => (h.prev (by omega)).2, fun h => .step hfr (by omega) (by omega) h⟩⟩ (by first | omega | (simp only; omega))

end Go.Proofs.YtocfmecenpeoiaaGreat.Stk
