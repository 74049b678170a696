/- The program's game and the document's are alike at first. No statement of the seat is proved in this text. -/
import Derived.Test.YtocfmecenpeoiaaGreatSnC
set_option linter.unusedVariables false
set_option linter.unusedSimpArgs false
set_option maxRecDepth 100000
set_option maxHeartbeats 8000000
namespace Go.Proofs.YtocfmecenpeoiaaGreat
open GAb Go

theorem sframe_call {σ : AState} {m n c : Nat} {a : Option Addr} {size fp : Int} (hc : OldC E0 σ m (Stk.sC a n c size fp true)) (hf : U32 fp) :
    SCall Tryz.prog E0 58 [.pointer (some ⟨m, 0, none⟩)] σ (Ret E0 σ (fun (_ : Unit) => .tuple #[.int .u32 fp, .bool true]) (fun _ => []) fun _ => True) := by
  obtain ⟨f0, f1⟩ := hf
  refine k_fun Tryz.func58 rfl (m := 18) rfl fun B hD Q K => ?_
  have F := Facts.nil E0 σ
  refine k_seq fun Q K => k_lin fun W K => ?_
  iterate 2 refine l_op 0 rfl rfl rfl rfl rfl ?_
  refine l_nil (WK.nx ‹_› (SeqK.nx ‹_› ?_))
  refine k_seq fun Q K => k_seq fun Q K => k_lin fun W K => ?_
  refine l_op 0 rfl rfl rfl rfl rfl ?_
  refine l_cmp rfl rfl rfl rfl ?_
  refine l_op 0 rfl rfl rfl rfl rfl ?_
  refine l_guard rfl rfl rfl (fun hc1 => ?_) (fun hc1 => ?_)
  · exact absurd ((irr_eq _).symm.trans hc1) (by decide)
  simp only [irr_eq, beq_iff_eq, beq_eq_false_iff_ne, ne_eq, decide_eq_true_eq, decide_eq_false_iff_not] at hc1
  refine l_op 0 rfl rfl rfl rfl rfl ?_
  iterate 2 refine l_op 2 rfl rfl rfl rfl rfl ?_
  refine l_ldo F (by assumption) rfl rfl rfl rfl rfl rfl ?_
  iterate 2 refine l_op 2 rfl rfl rfl rfl rfl ?_
  refine l_nil (WK.nx ‹_› (SeqK.nx ‹_› ?_))
  refine l_cond rfl rfl (fun hc2 => ?_) (fun hc2 => ?_)
  · try simp only [i_1, i_2, i_3, i_4, i_5, ne_eq, i_6, i_7, i_8, i_9] at hc2
    exfalso; simp_all
  try simp only [i_1, i_2, i_3, i_4, i_5, ne_eq, i_6, i_7, i_8, i_9] at hc2
  refine k_skip (SeqK.nx ‹_› ?_)
  refine k_seq fun Q K => k_lin fun W K => ?_
  refine l_op 0 rfl rfl rfl rfl rfl ?_
  iterate 2 refine l_op 2 rfl rfl rfl rfl rfl ?_
  refine l_ldo F (by assumption) rfl rfl rfl rfl rfl rfl ?_
  refine l_c32 rfl rfl rfl (by omega) rfl ?_
  iterate 2 refine l_op 0 rfl rfl rfl rfl rfl ?_
  refine l_nil (WK.nx ‹_› (SeqK.nx ‹_› (k_ret ?_)))
  refine FunK.rt (by assumption) rfl ?_
  -- leaf 1
  first
  | exact ⟨(), rfl, F, trivial⟩
theorem rblocks0_call {σ : AState} {h : Nat} (hc : OldC E0 σ h (rhC 0 0 none 0 0)) :
    SCall Tryz.prog E0 57 [.pointer (some ⟨h, 0, none⟩)] σ (Ret E0 σ (fun (_ : Unit) => .slice none 0 0) (fun _ => []) fun _ => True) := by
  refine k_fun Tryz.func57 rfl (m := 81) rfl fun B hD Q K => ?_
  have F := Facts.nil E0 σ
  refine k_seq fun Q K => k_lin fun W K => ?_
  refine l_op 0 rfl rfl rfl rfl rfl ?_
  refine l_nil (WK.nx ‹_› (SeqK.nx ‹_› ?_))
  refine k_seq fun Q K => k_lin fun W K => ?_
  refine l_op 0 rfl rfl rfl rfl rfl ?_
  refine l_nil (WK.nx ‹_› (SeqK.nx ‹_› ?_))
  refine k_seq fun Q K => k_block fun Q K => ?_
  refine k_loop (α := Unit) (fun _ s => Facts E0 σ s []) (fun _ => [(0, .pointer (some ⟨h, 0, none⟩)), (3, .slice none 0 0)]) (fun _ => 0) () F (by repeat (first | exact trivial | refine And.intro rfl ?_)) ?_
  clear F
  rintro ⟨⟩ env s Q K0 F
  refine k_seq fun Q K => k_seq fun Q K => k_lin fun W K => ?_
  refine l_op 0 rfl rfl rfl rfl rfl ?_
  refine l_op 2 rfl rfl rfl rfl rfl ?_
  refine l_op 0 rfl rfl rfl rfl rfl ?_
  iterate 2 refine l_op 2 rfl rfl rfl rfl rfl ?_
  refine l_ldo F (by assumption) rfl rfl rfl rfl rfl rfl ?_
  refine l_op 2 rfl rfl rfl rfl rfl ?_
  refine l_cmp rfl rfl rfl rfl ?_
  refine l_nil (WK.nx ‹_› (SeqK.nx ‹_› ?_))
  refine l_cond rfl rfl (fun hc1 => ?_) (fun hc1 => ?_)
  · replace hc1 := of_decide_eq_true ((irr_eq _).symm.trans hc1)
    exfalso; omega
  replace hc1 := of_decide_eq_false ((irr_eq _).symm.trans hc1)
  refine k_exit ?_
  refine SeqK.et (by assumption) ?_
  refine LoopK.et (by assumption) ?_
  refine BlkK.et (by assumption) ?_
  refine SeqK.nx ‹_› ?_
  refine k_seq fun Q K => k_lin fun W K => ?_
  iterate 2 refine l_op 0 rfl rfl rfl rfl rfl ?_
  refine l_nil (WK.nx ‹_› (SeqK.nx ‹_› (k_ret ?_)))
  refine FunK.rt (by assumption) rfl ?_
  -- leaf 1
  first
  | exact ⟨(), rfl, F, trivial⟩
theorem psame0_call {σ : AState} {a b : Option Addr} {c d : Nat} :
    SCall Tryz.prog E0 37 [.slice a 0 c, .slice b 0 d] σ (Ret E0 σ (fun (_ : Unit) => .bool true) (fun _ => []) fun _ => True) := by
  refine k_fun Tryz.func37 rfl (m := 26) rfl fun B hD Q K => ?_
  have F := Facts.nil E0 σ
  refine k_seq fun Q K => k_lin fun W K => ?_
  refine l_op 0 rfl rfl rfl rfl rfl ?_
  refine l_nil (WK.nx ‹_› (SeqK.nx ‹_› ?_))
  refine k_seq fun Q K => k_seq fun Q K => k_lin fun W K => ?_
  refine l_op 0 rfl rfl rfl rfl rfl ?_
  refine l_op 2 rfl rfl rfl rfl rfl ?_
  refine l_op 0 rfl rfl rfl rfl rfl ?_
  refine l_op 2 rfl rfl rfl rfl rfl ?_
  refine l_cmp rfl rfl rfl rfl ?_
  refine l_nil (WK.nx ‹_› (SeqK.nx ‹_› ?_))
  refine l_cond rfl rfl (fun hc1 => ?_) (fun hc1 => ?_)
  · replace hc1 := bne_iff_ne.1 ((irr_eq _).symm.trans hc1)
    exact absurd rfl hc1
  replace hc1 := bne_eq_false_iff_eq.1 ((irr_eq _).symm.trans hc1)
  refine k_skip (SeqK.nx ‹_› ?_)
  refine k_seq fun Q K => k_seq fun Q K => k_lin fun W K => ?_
  refine l_op 0 rfl rfl rfl rfl rfl ?_
  refine l_nil (WK.nx ‹_› (SeqK.nx ‹_› ?_))
  refine k_block fun Q K => ?_
  refine k_loop (α := Unit) (fun _ s => Facts E0 σ s []) (fun _ => [(0, .slice a 0 c), (1, .slice b 0 d), (5, .int .i64 0)]) (fun _ => 0) () F (by repeat (first | exact trivial | refine And.intro rfl ?_)) ?_
  clear F
  rintro ⟨⟩ env s Q K0 F
  refine k_seq fun Q K => k_seq fun Q K => k_lin fun W K => ?_
  iterate 2 refine l_op 0 rfl rfl rfl rfl rfl ?_
  refine l_op 2 rfl rfl rfl rfl rfl ?_
  refine l_cmp rfl rfl rfl rfl ?_
  refine l_nil (WK.nx ‹_› (SeqK.nx ‹_› ?_))
  refine l_cond rfl rfl (fun hc2 => ?_) (fun hc2 => ?_)
  · replace hc2 := of_decide_eq_true ((irr_eq _).symm.trans hc2)
    exfalso; omega
  replace hc2 := of_decide_eq_false ((irr_eq _).symm.trans hc2)
  refine k_exit ?_
  refine SeqK.et (by assumption) ?_
  refine LoopK.et (by assumption) ?_
  refine BlkK.et (by assumption) ?_
  refine SeqK.nx ‹_› ?_
  refine k_seq fun Q K => k_lin fun W K => ?_
  refine l_op 0 rfl rfl rfl rfl rfl ?_
  refine l_nil (WK.nx ‹_› (SeqK.nx ‹_› (k_ret ?_)))
  refine FunK.rt (by assumption) rfl ?_
  -- leaf 1
  first
  | exact ⟨(), rfl, F, trivial⟩
structure OldB (σ : AState) (z : BZ) : Prop where
  m : OldM σ z.y.1 (z0 z.y)
  rm : OldC E0 σ z.zr.m (rmC z.zr.x4 768 z.zr.c4 z.zr.x5 z.zr.c5 z.zr.h 0 0)
  rb : Old E0 σ z.zr.x4 768 z.zr.c4 1 (u8l firstB)
  rh : OldC E0 σ z.zr.h (rhC 0 0 none 0 0)
  s : OldC E0 σ z.qs (Stk.sC z.sa 16 z.sc 1024 0 true)
  sb : Old E0 σ z.sa 16 z.sc 1 (u8l fr17)
  t : OldC E0 σ z.qt (Stk.sC z.ta 16 z.tc 1024 0 true)
  tb : Old E0 σ z.ta 16 z.tc 1 (u8l fr17)
  b : OldC E0 σ z.b [.pointer (some ⟨z.y.1, 0, none⟩), .pointer (some ⟨z.qs, 0, none⟩), .pointer (some ⟨z.zr.m, 0, none⟩), .pointer (some ⟨z.qt, 0, none⟩)]
theorem oldB_of {O : Nat → Prop} {σ0 σ : AState} {L : List Fact} {z : BZ} (F : Facts O σ0 σ (bF z ++ L)) : OldB σ z :=
  ⟨oldM_of F (z0_ok z.y) 0 1 2 3 4 rfl rfl rfl rfl rfl, F.cel0 5 rfl, Old.pure (F.has 6 rfl), F.cel0 8 rfl, F.cel0 10 rfl, Old.pure (F.has 11 rfl), F.cel0 12 rfl, Old.pure (F.has 13 rfl), F.cel0 14 rfl⟩
theorem alike0_call {σ : AState} {z : BZ} (h : OldB σ z) :
    SCall Tryz.prog E0 19 [.pointer (some ⟨z.b, 0, none⟩)] σ (Ret E0 σ (fun (_ : Unit) => .bool true) (fun _ => []) fun _ => True) := by
  have hb := h.b
  refine k_fun Tryz.func19 rfl (m := 101) rfl fun B hD Q K => ?_
  have F := Facts.nil E0 σ
  refine k_seq fun Q K => k_lin fun W K => ?_
  refine l_op 0 rfl rfl rfl rfl rfl ?_
  refine l_nil (WK.nx ‹_› (SeqK.nx ‹_› ?_))
  refine k_seq fun Q K => k_lin fun W K => ?_
  refine l_op 0 rfl rfl rfl rfl rfl ?_
  iterate 2 refine l_op 2 rfl rfl rfl rfl rfl ?_
  refine l_ldo F (by assumption) rfl rfl rfl rfl rfl rfl ?_
  refine l_callp F rfl rfl (by kernel_rfl) rfl rfl (mheap_call (h.m.to F) (z0_ok z.y)) (fun yh s F _ => ?_)
  rw [show (z0 z.y).st = 0 from rfl]
  (try dsimp only [n_1, n_2, n_3, n_4, List.append_nil, pk, n_5, n_6] at F)
  refine l_op 0 rfl rfl rfl rfl rfl ?_
  iterate 2 refine l_op 2 rfl rfl rfl rfl rfl ?_
  iterate 2 refine l_op 0 rfl rfl rfl rfl rfl ?_
  refine l_nil (WK.nx ‹_› (SeqK.nx ‹_› ?_))
  refine k_seq fun Q K => k_lin fun W K => ?_
  refine l_op 0 rfl rfl rfl rfl rfl ?_
  iterate 2 refine l_op 2 rfl rfl rfl rfl rfl ?_
  refine l_ldo F (by assumption) rfl rfl rfl rfl rfl rfl ?_
  refine l_callp F rfl rfl (by kernel_rfl) rfl rfl (sframe_call (F.oldc0 h.s) (by decide)) (fun _ s F _ => ?_)
  (try dsimp only [n_1, n_2, n_3, n_4, List.append_nil, pk, n_5, n_6] at F)
  refine l_op 0 rfl rfl rfl rfl rfl ?_
  iterate 2 refine l_op 2 rfl rfl rfl rfl rfl ?_
  iterate 2 refine l_op 0 rfl rfl rfl rfl rfl ?_
  refine l_nil (WK.nx ‹_› (SeqK.nx ‹_› ?_))
  refine k_seq fun Q K => ?_
  refine k_linm [0, 1, 2, 5, 6, 7, 3, 8, 9, 10, 11, 4, 12, 13, 14, 16, 17, 18, 15, 19, 20, 21, 22, 23, 24, 25, 26, 27, 28, 29, 30, 31, 32, 33, 34, 35, 36, 37, 38, 39, 40, 41, 42, 43, 46, 47, 48, 44, 49, 50, 51, 52, 45, 53, 54, 55, 56, 58, 59, 60, 57, 61, 62, 63, 64, 65, 66, 67, 68, 69, 70, 71, 72, 73, 74, 75, 76, 77, 78] mixed (by kernel_rfl) (fun W K => ?_)
  try have hpS := F.pns
  refine l_op 0 rfl rfl rfl rfl rfl ?_
  iterate 2 refine l_op 2 rfl rfl rfl rfl rfl ?_
  refine l_op 0 rfl rfl rfl rfl rfl ?_
  iterate 2 refine l_op 2 rfl rfl rfl rfl rfl ?_
  refine l_ldo F hb rfl rfl rfl rfl rfl rfl ?_
  have hpS := PnS.add hpS (OldC.sf hb)
  refine l_ldo F hb rfl rfl rfl rfl rfl rfl ?_
  have hpS := PnS.add hpS (OldC.sf hb)
  iterate 2 refine l_op 2 rfl rfl rfl rfl rfl ?_
  refine l_ldo F h.rm rfl rfl rfl rfl rfl rfl ?_
  have hpS := PnS.add hpS (OldC.sf h.rm)
  refine l_callp F rfl rfl (by kernel_rfl) rfl rfl (mbytes_call (h.m.to F) (z0_ok z.y)) (fun ym s F _ => ?_)
  (try dsimp only [n_1, n_2, n_3, n_4, List.append_nil, pk, n_5, n_6] at F)
  refine l_callp F rfl rfl (by kernel_rfl) rfl rfl (same_call (xs := firstB) (ys := firstB) (Old.pure (F.has 1 rfl)) (Old.pure (F.old h.rb))) (fun _ s F _ => ?_)
  (try dsimp only [n_1, n_2, n_3, n_4, List.append_nil, pk, n_5, n_6] at F)
  rw [eqS_self]
  refine l_op 0 rfl rfl rfl rfl rfl ?_
  refine l_guard rfl rfl rfl (fun hc1 => ?_) (fun hc1 => ?_)
  · try simp only [i_1, i_2, i_3, i_4, i_5, ne_eq, i_6, i_7, i_8, i_9] at hc1
    iterate 2 refine l_op 0 rfl rfl rfl rfl rfl ?_
    iterate 2 refine l_op 2 rfl rfl rfl rfl rfl ?_
    refine l_c64 rfl rfl rfl (by omega) rfl ?_
    refine l_ldo F hb rfl rfl rfl rfl rfl rfl ?_
    have hpS := PnS.add hpS (OldC.sf hb)
    iterate 2 refine l_op 2 rfl rfl rfl rfl rfl ?_
    refine l_ldo F h.rm rfl rfl rfl rfl rfl rfl ?_
    have hpS := PnS.add hpS (OldC.sf h.rm)
    iterate 2 refine l_op 2 rfl rfl rfl rfl rfl ?_
    refine l_ldo F h.rh rfl rfl rfl rfl rfl rfl ?_
    have hpS := PnS.add hpS (OldC.sf h.rh)
    refine l_cmp rfl rfl rfl rfl ?_
    refine l_op 2 rfl rfl rfl rfl rfl ?_
    refine l_op 0 rfl rfl rfl rfl rfl ?_
    refine l_guard rfl rfl rfl (fun hc2 => ?_) (fun hc2 => ?_)
    · replace hc2 := eq_of_beq ((irr_eq _).symm.trans hc2)
      iterate 2 refine l_op 0 rfl rfl rfl rfl rfl ?_
      iterate 2 refine l_op 2 rfl rfl rfl rfl rfl ?_
      refine l_ldo F hb rfl rfl rfl rfl rfl rfl ?_
      have hpS := PnS.add hpS (OldC.sf hb)
      iterate 2 refine l_op 2 rfl rfl rfl rfl rfl ?_
      refine l_ldo F h.rm rfl rfl rfl rfl rfl rfl ?_
      have hpS := PnS.add hpS (OldC.sf h.rm)
      refine l_callp F rfl rfl (by kernel_rfl) rfl rfl (rblocks0_call (F.oldc0 h.rh)) (fun _ s F _ => ?_)
      (try dsimp only [n_1, n_2, n_3, n_4, List.append_nil, pk, n_5, n_6] at F)
      refine l_callp F rfl rfl (by kernel_rfl) rfl rfl psame0_call (fun _ s F _ => ?_)
      (try dsimp only [n_1, n_2, n_3, n_4, List.append_nil, pk, n_5, n_6] at F)
      refine l_op 2 rfl rfl rfl rfl rfl ?_
      refine l_op 0 rfl rfl rfl rfl rfl ?_
      refine l_guard rfl rfl rfl (fun hc3 => ?_) (fun hc3 => ?_)
      · try simp only [i_1, i_2, i_3, i_4, i_5, ne_eq, i_6, i_7, i_8, i_9] at hc3
        refine l_op 0 rfl rfl rfl rfl rfl ?_
        iterate 2 refine l_op 2 rfl rfl rfl rfl rfl ?_
        refine l_op 0 rfl rfl rfl rfl rfl ?_
        iterate 2 refine l_op 2 rfl rfl rfl rfl rfl ?_
        refine l_ldo F hb rfl rfl rfl rfl rfl rfl ?_
        have hpS := PnS.add hpS (OldC.sf hb)
        refine l_ldo F hb rfl rfl rfl rfl rfl rfl ?_
        have hpS := PnS.add hpS (OldC.sf hb)
        iterate 2 refine l_op 2 rfl rfl rfl rfl rfl ?_
        refine l_ldo F h.t rfl rfl rfl rfl rfl rfl ?_
        have hpS := PnS.add hpS (OldC.sf h.t)
        refine l_callp F rfl rfl (by kernel_rfl) rfl rfl (Stk.bytes_call (F.oldc0 h.s) (Old.pure (F.old h.sb)) (by decide)) (fun yt s F _ => ?_)
        (try dsimp only [n_1, n_2, n_3, n_4, List.append_nil, pk, n_5, n_6] at F)
        refine l_callp F rfl rfl (by kernel_rfl) rfl rfl (same_call (xs := fr17) (ys := fr17) (Old.pure (F.has 2 rfl)) (Old.pure (F.old h.tb))) (fun _ s F _ => ?_)
        (try dsimp only [n_1, n_2, n_3, n_4, List.append_nil, pk, n_5, n_6] at F)
        rw [eqS_self]
        refine l_op 2 rfl rfl rfl rfl rfl ?_
        refine l_op 0 rfl rfl rfl rfl rfl ?_
        refine l_guard rfl rfl rfl (fun hc4 => ?_) (fun hc4 => ?_)
        · try simp only [i_1, i_2, i_3, i_4, i_5, ne_eq, i_6, i_7, i_8, i_9] at hc4
          iterate 2 refine l_op 0 rfl rfl rfl rfl rfl ?_
          iterate 2 refine l_op 2 rfl rfl rfl rfl rfl ?_
          refine l_c64 rfl rfl rfl (by omega) rfl ?_
          refine l_ldo F hb rfl rfl rfl rfl rfl rfl ?_
          have hpS := PnS.add hpS (OldC.sf hb)
          iterate 2 refine l_op 2 rfl rfl rfl rfl rfl ?_
          refine l_ldo F h.t rfl rfl rfl rfl rfl rfl ?_
          have hpS := PnS.add hpS (OldC.sf h.t)
          refine l_cmp rfl rfl rfl rfl ?_
          refine l_op 2 rfl rfl rfl rfl rfl ?_
          refine l_op 0 rfl rfl rfl rfl rfl ?_
          refine l_guard rfl rfl rfl (fun hc5 => ?_) (fun hc5 => ?_)
          · replace hc5 := eq_of_beq ((irr_eq _).symm.trans hc5)
            iterate 2 refine l_op 0 rfl rfl rfl rfl rfl ?_
            iterate 2 refine l_op 2 rfl rfl rfl rfl rfl ?_
            refine l_ldo F hb rfl rfl rfl rfl rfl rfl ?_
            have hpS := PnS.add hpS (OldC.sf hb)
            iterate 2 refine l_op 2 rfl rfl rfl rfl rfl ?_
            refine l_ldo F h.t rfl rfl rfl rfl rfl rfl ?_
            have hpS := PnS.add hpS (OldC.sf h.t)
            refine l_cmp rfl rfl rfl rfl ?_
            refine l_op 2 rfl rfl rfl rfl rfl ?_
            refine l_op 0 rfl rfl rfl rfl rfl ?_
            refine l_nil (WK.nx ‹_› (SeqK.nx ‹_› (k_ret ?_)))
            refine FunK.rt (by assumption) rfl ?_
            -- leaf 1
            (rw [show irr (true == true) = true from irr_eq _]; exact ⟨(), rfl, F.pick [] (by decide), trivial⟩)
          replace hc5 := ne_of_beq_false ((irr_eq _).symm.trans hc5)
          exfalso; omega
        exact absurd ((irr_eq _).symm.trans hc4) (by decide)
      try simp only [i_1, i_2, i_3, i_4, i_5, ne_eq, i_6, i_7, i_8, i_9] at hc3
      iterate 13 refine l_s rfl rfl ?_
      refine l_op 2 rfl rfl rfl rfl rfl ?_
      refine l_op 0 rfl rfl rfl rfl rfl ?_
      iterate 10 refine l_s rfl rfl ?_
      refine l_op 2 rfl rfl rfl rfl rfl ?_
      refine l_op 0 rfl rfl rfl rfl rfl ?_
      iterate 9 refine l_s rfl rfl ?_
      refine l_op 2 rfl rfl rfl rfl rfl ?_
      refine l_op 0 rfl rfl rfl rfl rfl ?_
      refine l_nil (WK.nx ‹_› (SeqK.nx ‹_› (k_ret ?_)))
      refine FunK.rt (by assumption) rfl ?_
      -- leaf 2
      exact absurd (by assumption : true = false) (by decide)
    replace hc2 := ne_of_beq_false ((irr_eq _).symm.trans hc2)
    exfalso; omega
  exact absurd ((irr_eq _).symm.trans hc1) (by decide)

end Go.Proofs.YtocfmecenpeoiaaGreat
