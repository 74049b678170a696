/- A game without acts, by the program and by the document. No statement of the seat is proved in this text. -/
import Derived.Test.YtocfmecenpeoiaaGreatSnB
set_option linter.unusedVariables false
set_option linter.unusedSimpArgs false
set_option maxRecDepth 100000
set_option maxHeartbeats 8000000
namespace Go.Proofs.YtocfmecenpeoiaaGreat
open GAb Go

abbrev fmt17 : List Int := [4, 1, 0, 0]
abbrev fr17 : List Int := [0, 0, 0, 16, 0, 0, 0, 12, 4, 1, 0, 0, 0, 0, 0, 0]
theorem loc17 : Stk.locR fmt17 = (12, 4, 0) := by kernel_rfl
theorem ent17 : Stk.entE false [] 0 0 1024 fmt17 = 0 := by unfold Stk.entE; rw [loc17]; rfl
theorem entB17 : Stk.entB fmt17 = fr17 := by unfold Stk.entB; rw [loc17]; rfl
theorem bytes_fmt17 : Bytes fmt17 := bytesm_mem.2 (by decide)
theorem bytes_fr17 : Bytes fr17 := bytesm_mem.2 (by decide)
theorem sok0 : Stk.SOK 1024 [] 0 0 false := ⟨rfl, fun i h => (by cases h), by decide, rfl, fun h => (by cases h), fun _ => ⟨rfl, .inl rfl⟩⟩
theorem act0_call {σ : AState} {b : Nat} : SCall Tryz.prog E0 35 [.pointer (some ⟨b, 0, none⟩), .slice none 0 0] σ (Ret E0 σ (fun (_ : Unit) => .tuple #[]) (fun _ => []) fun _ => True) := by
  refine k_fun Tryz.func35 rfl (m := 156) rfl fun B hD Q K => ?_
  have F := Facts.nil E0 σ
  refine k_seq fun Q K => k_lin fun W K => ?_
  refine l_op 0 rfl rfl rfl rfl rfl ?_
  refine l_nil (WK.nx ‹_› (SeqK.nx ‹_› ?_))
  refine k_block fun Q K => ?_
  refine k_loop (α := Unit) (fun _ s => Facts E0 σ s []) (fun _ => [(0, .pointer (some ⟨b, 0, none⟩)), (1, .slice none 0 0), (4, .int .i64 0)]) (fun _ => 0) () F (by repeat (first | exact trivial | refine And.intro rfl ?_)) ?_
  clear F
  rintro ⟨⟩ env s Q K0 F
  refine k_seq fun Q K => k_seq fun Q K => k_lin fun W K => ?_
  iterate 2 refine l_op 0 rfl rfl rfl rfl rfl ?_
  refine l_op 2 rfl rfl rfl rfl rfl ?_
  refine l_cmp rfl rfl rfl rfl ?_
  refine l_nil (WK.nx ‹_› (SeqK.nx ‹_› ?_))
  refine l_cond rfl rfl (fun hc1 => ?_) (fun hc1 => ?_)
  · replace hc1 := of_decide_eq_true ((irr_eq _).symm.trans hc1)
    exfalso; omega
  replace hc1 := of_decide_eq_false ((irr_eq _).symm.trans hc1)
  refine k_exit ?_
  refine SeqK.et (by assumption) ?_
  refine LoopK.et (by assumption) ?_
  refine BlkK.et (by assumption) ?_
  refine FunK.nx (by assumption) rfl ?_
  -- leaf 1
  first
  | exact ⟨(), rfl, F, trivial⟩
/-- A game of both. -/
structure BZ where
  y : Nat × Option Addr × Nat × Nat × Nat
  qs : Nat
  sa : Option Addr
  sc : Nat
  zr : ZN
  qt : Nat
  ta : Option Addr
  tc : Nat
  b : Nat
abbrev bF (z : BZ) : List Fact := mF z.y.1 (z0 z.y) ++ [cel z.zr.m (rmC z.zr.x4 768 z.zr.c4 z.zr.x5 z.zr.c5 z.zr.h 0 0), own z.zr.x4 768 z.zr.c4 1 (u8l firstB), own z.zr.x5 512 z.zr.c5 1 (u8l smallB), cel z.zr.h (rhC 0 0 none 0 0), own none 0 0 2 (rows eB []), cel z.qs (Stk.sC z.sa 16 z.sc 1024 0 true), own z.sa 16 z.sc 1 (u8l fr17), cel z.qt (Stk.sC z.ta 16 z.tc 1024 0 true), own z.ta 16 z.tc 1 (u8l fr17), cel z.b [.pointer (some ⟨z.y.1, 0, none⟩), .pointer (some ⟨z.qs, 0, none⟩), .pointer (some ⟨z.zr.m, 0, none⟩), .pointer (some ⟨z.qt, 0, none⟩)]]
theorem begin0_call {σ : AState} :
    SCall Tryz.prog E0 10 [.slice none 0 0] σ (Ret E0 σ (fun (z : BZ) => .pointer (some ⟨z.b, 0, none⟩)) (fun z => bF z) fun _ => True) := by
  refine k_fun Tryz.func10 rfl (m := 70) rfl fun B hD Q K => ?_
  have F := Facts.nil E0 σ
  refine k_seq fun Q K => k_lin fun W K => ?_
  refine l_op 0 rfl rfl rfl rfl rfl ?_
  refine l_nil (WK.nx ‹_› (SeqK.nx ‹_› ?_))
  refine k_seq fun Q K => k_lin fun W K => ?_
  refine l_callp F rfl rfl (by kernel_rfl) rfl rfl small_call (fun ys s F _ => ?_)
  (try dsimp only [n_1, n_2, n_3, n_4, List.append_nil, pk, n_5, n_6] at F)
  refine l_callp F rfl rfl (by kernel_rfl) rfl rfl (mnew_call (Old.pure (F.has 0 rfl))) (fun y s F _ => ?_)
  (try dsimp only [n_1, n_2, n_3, n_4, List.append_nil, pk, n_5, n_6] at F)
  refine l_op 0 rfl rfl rfl rfl rfl ?_
  iterate 3 refine l_op 2 rfl rfl rfl rfl rfl ?_
  iterate 3 refine l_op 0 rfl rfl rfl rfl rfl ?_
  refine l_nil (WK.nx ‹_› (SeqK.nx ‹_› ?_))
  refine k_seq fun Q K => k_lin fun W K => ?_
  refine l_callp F rfl rfl (by kernel_rfl) rfl rfl (Stk.new_call (by decide)) (fun qs s F _ => ?_)
  (try dsimp only [n_1, n_2, n_3, n_4, List.append_nil, pk, n_5, n_6] at F)
  refine l_op 0 rfl rfl rfl rfl rfl ?_
  iterate 2 refine l_op 2 rfl rfl rfl rfl rfl ?_
  iterate 2 refine l_op 0 rfl rfl rfl rfl rfl ?_
  refine l_nil (WK.nx ‹_› (SeqK.nx ‹_› ?_))
  refine k_seq fun Q K => k_lin fun W K => ?_
  refine l_callp F rfl rfl (by kernel_rfl) rfl rfl small_call (fun ys s F _ => ?_)
  (try dsimp only [n_1, n_2, n_3, n_4, List.append_nil, pk, n_5, n_6] at F)
  refine l_callp F rfl rfl (by kernel_rfl) rfl rfl (rmnew_call (Old.pure (F.has 8 rfl))) (fun zr s F _ => ?_)
  (try dsimp only [n_1, n_2, n_3, n_4, List.append_nil, pk, n_5, n_6] at F)
  refine l_op 0 rfl rfl rfl rfl rfl ?_
  iterate 3 refine l_op 2 rfl rfl rfl rfl rfl ?_
  iterate 3 refine l_op 0 rfl rfl rfl rfl rfl ?_
  refine l_nil (WK.nx ‹_› (SeqK.nx ‹_› ?_))
  refine k_seq fun Q K => k_lin fun W K => ?_
  refine l_bld (vs := Stk.sC none 0 0 1024 0 false) rfl rfl rfl rfl ?_
  refine l_bx F rfl rfl rfl rfl rfl (fun q31 s F => ?_)
  have F1 := F.pick [1, 2, 3, 4, 5, 6, 7, 9, 10, 11, 12, 13, 14] (by decide)
  clear F
  have F : Facts E0 σ s [cel y.1 (mC (z0 y)), own y.2.1 512 y.2.2.1 1 (u8l smallB), own (some ⟨y.2.2.2.1, 0, some 0⟩) firstB.length 768 1 (u8l firstB), cel y.2.2.2.2 (hC y.2.2.2.2 none 0 1048576 0 0 []), own none [].length 0 2 (rows eB []), cel qs (Stk.sC none 0 0 1024 0 false), own none 0 0 1 (u8l []), cel zr.m (rmC zr.x4 768 zr.c4 zr.x5 zr.c5 zr.h 0 0), own zr.x4 768 zr.c4 1 (u8l firstB), own zr.x5 512 zr.c5 1 (u8l smallB), cel zr.h (rhC 0 0 none 0 0), own none 0 0 2 (rows eB []), cel q31 (Stk.sC none 0 0 1024 0 false)] := F1
  clear F1
  refine l_op 0 rfl rfl rfl rfl rfl ?_
  refine l_nil (WK.nx ‹_› (SeqK.nx ‹_› ?_))
  refine k_seq fun Q K => k_lin fun W K => ?_
  refine l_lit F rfl rfl rfl rfl (fun q32 s F => ?_)
  (try dsimp only [n_1, n_2, n_3, n_4, List.append_nil, pk, n_5, n_6] at F)
  refine l_op 0 rfl rfl rfl rfl rfl ?_
  refine l_nil (WK.nx ‹_› (SeqK.nx ‹_› ?_))
  refine k_seq fun Q K => k_seq fun Q K => k_lin fun W K => ?_
  refine l_op 0 rfl rfl rfl rfl rfl ?_
  refine l_callv rfl rfl (by kernel_rfl) rfl rfl (snNum _ _ _) ?_
  (try dsimp only [n_1, n_2, n_3, n_4, List.append_nil, pk, n_5, n_6] at F)
  refine l_op 0 rfl rfl rfl rfl rfl ?_
  refine l_callv rfl rfl (by kernel_rfl) rfl rfl (snNum _ _ _) ?_
  (try dsimp only [n_1, n_2, n_3, n_4, List.append_nil, pk, n_5, n_6] at F)
  refine l_a64 rfl rfl rfl (by omega) rfl ?_
  refine l_op 0 rfl rfl rfl rfl rfl ?_
  refine l_a64 rfl rfl rfl (by omega) rfl ?_
  refine l_cmp rfl rfl rfl rfl ?_
  refine l_op 0 rfl rfl rfl rfl rfl ?_
  refine l_guard rfl rfl rfl (fun hc1 => ?_) (fun hc1 => ?_)
  · replace hc1 := bne_iff_ne.1 ((irr_eq _).symm.trans hc1)
    iterate 2 refine l_s rfl rfl ?_
    refine l_op 2 rfl rfl rfl rfl rfl ?_
    refine l_op 0 rfl rfl rfl rfl rfl ?_
    iterate 2 refine l_s rfl rfl ?_
    refine l_op 2 rfl rfl rfl rfl rfl ?_
    refine l_op 0 rfl rfl rfl rfl rfl ?_
    iterate 9 refine l_s rfl rfl ?_
    refine l_op 2 rfl rfl rfl rfl rfl ?_
    refine l_nil (WK.nx ‹_› (SeqK.nx ‹_› ?_))
    refine e_cond_t rfl rfl rfl ?_
    refine k_seq fun Q K => k_lin fun W K => ?_
    refine l_op 0 rfl rfl rfl rfl rfl ?_
    refine l_nil (WK.nx ‹_› (SeqK.nx ‹_› (k_ret (SeqK.rt ‹_› ?_))))
    refine FunK.rt (by assumption) rfl ?_
    -- leaf 1
    (exfalso; omega)
  replace hc1 := bne_eq_false_iff_eq.1 ((irr_eq _).symm.trans hc1)
  refine l_op 0 rfl rfl rfl rfl rfl ?_
  refine l_cmp rfl rfl rfl rfl ?_
  refine l_op 2 rfl rfl rfl rfl rfl ?_
  refine l_op 0 rfl rfl rfl rfl rfl ?_
  refine l_guard rfl rfl rfl (fun hc2 => ?_) (fun hc2 => ?_)
  · simp only [irr_eq, beq_iff_eq, beq_eq_false_iff_ne, ne_eq, decide_eq_true_eq, decide_eq_false_iff_not] at hc2
    iterate 2 refine l_s rfl rfl ?_
    refine l_op 2 rfl rfl rfl rfl rfl ?_
    refine l_op 0 rfl rfl rfl rfl rfl ?_
    iterate 9 refine l_s rfl rfl ?_
    refine l_op 2 rfl rfl rfl rfl rfl ?_
    refine l_nil (WK.nx ‹_› (SeqK.nx ‹_› ?_))
    refine e_cond_t rfl rfl rfl ?_
    refine k_seq fun Q K => k_lin fun W K => ?_
    refine l_op 0 rfl rfl rfl rfl rfl ?_
    refine l_nil (WK.nx ‹_› (SeqK.nx ‹_› (k_ret (SeqK.rt ‹_› ?_))))
    refine FunK.rt (by assumption) rfl ?_
    -- leaf 2
    (exfalso; simp_all; done)
  simp only [irr_eq, beq_iff_eq, beq_eq_false_iff_ne, ne_eq, decide_eq_true_eq, decide_eq_false_iff_not] at hc2
  refine l_op 0 rfl rfl rfl rfl rfl ?_
  refine l_cmp rfl rfl rfl rfl ?_
  refine l_op 2 rfl rfl rfl rfl rfl ?_
  refine l_op 0 rfl rfl rfl rfl rfl ?_
  refine l_guard rfl rfl rfl (fun hc3 => ?_) (fun hc3 => ?_)
  · simp only [irr_eq, beq_iff_eq, beq_eq_false_iff_ne, ne_eq, decide_eq_true_eq, decide_eq_false_iff_not] at hc3
    iterate 9 refine l_s rfl rfl ?_
    refine l_op 2 rfl rfl rfl rfl rfl ?_
    refine l_nil (WK.nx ‹_› (SeqK.nx ‹_› ?_))
    refine e_cond_t rfl rfl rfl ?_
    refine k_seq fun Q K => k_lin fun W K => ?_
    refine l_op 0 rfl rfl rfl rfl rfl ?_
    refine l_nil (WK.nx ‹_› (SeqK.nx ‹_› (k_ret (SeqK.rt ‹_› ?_))))
    refine FunK.rt (by assumption) rfl ?_
    -- leaf 3
    (exfalso; simp_all; done)
  simp only [irr_eq, beq_iff_eq, beq_eq_false_iff_ne, ne_eq, decide_eq_true_eq, decide_eq_false_iff_not] at hc3
  iterate 2 refine l_op 0 rfl rfl rfl rfl rfl ?_
  refine l_call F [5, 6] [0, 1, 2, 3, 4, 7, 8, 9, 10, 11, 12, 13] (by decide) rfl rfl (by kernel_rfl) rfl rfl (Stk.enter_call (p := fmt17) (bs := []) (F.sub [5, 6] (by decide)) (F.oldK [5, 6] 13 rfl (by decide)) (fun i hi => by cases hi) bytes_fmt17 (by omega) (by omega) (by omega) (by omega) (fun h => by cases h)) hD (fun z s F hz => ?_)
  (try dsimp only [n_1, n_2, n_3, n_4, List.append_nil, pk, n_5, n_6] at F)
  rw [show Stk.entE false [] (0 : Nat) 0 1024 fmt17 = 0 from ent17]
  obtain ⟨za, zn, zc, zf, zo, zb⟩ := z
  obtain ⟨z1, z2, z3, z4⟩ := hz.ok ent17
  rw [List.nil_append, entB17] at z1 z4
  dsimp only at z1 z2 z3 z4 F
  subst z1 z2 z3 z4
  refine l_callv rfl rfl (by kernel_rfl) rfl rfl (snNum _ _ _) ?_
  (try dsimp only [n_1, n_2, n_3, n_4, List.append_nil, pk, n_5, n_6] at F)
  iterate 2 refine l_op 0 rfl rfl rfl rfl rfl ?_
  have F1 := F.nilrow 1
  clear F
  have F := F1
  clear F1
  (try dsimp only [n_1, n_2, n_3, n_4, List.append_nil, pk, n_5, n_6] at F)
  refine l_call F [10, 14] [0, 1, 2, 3, 4, 5, 6, 7, 8, 9, 12, 13] (by decide) rfl rfl (by kernel_rfl) rfl rfl (Stk.renter_call (p := fmt17) (bs := []) (F.sub [10, 14] (by decide)) (F.oldK [10, 14] 11 rfl (by decide)) sok0 bytes_fmt17 (by omega)) hD (fun w s F hw => ?_)
  (try dsimp only [n_1, n_2, n_3, n_4, List.append_nil, pk, n_5, n_6] at F)
  rw [show Stk.entE false [] 0 0 1024 fmt17 = 0 from ent17]
  obtain ⟨wa, wn, wc, wf, wo, wb⟩ := w
  obtain ⟨w1, w2, w3, w4⟩ := hw.ok ent17
  rw [List.nil_append, entB17] at w1 w4
  dsimp only at w1 w2 w3 w4 F
  subst w1 w2 w3 w4
  refine l_a64 rfl rfl rfl (by omega) rfl ?_
  refine l_cmp rfl rfl rfl rfl ?_
  refine l_op 2 rfl rfl rfl rfl rfl ?_
  refine l_nil (WK.nx ‹_› (SeqK.nx ‹_› ?_))
  refine l_cond rfl rfl (fun hc4 => ?_) (fun hc4 => ?_)
  · replace hc4 := bne_iff_ne.1 ((irr_eq _).symm.trans hc4)
    exfalso; omega
  replace hc4 := bne_eq_false_iff_eq.1 ((irr_eq _).symm.trans hc4)
  refine k_skip (SeqK.nx ‹_› ?_)
  refine k_seq fun Q K => k_lin fun W K => ?_
  iterate 4 refine l_op 0 rfl rfl rfl rfl rfl ?_
  refine l_bld rfl rfl rfl rfl ?_
  refine l_bx F rfl rfl rfl rfl rfl (fun q65 s F => ?_)
  (try dsimp only [n_1, n_2, n_3, n_4, List.append_nil, pk, n_5, n_6] at F)
  refine l_op 0 rfl rfl rfl rfl rfl ?_
  refine l_nil (WK.nx ‹_› (SeqK.nx ‹_› ?_))
  refine k_seq fun Q K => k_lin fun W K => ?_
  iterate 2 refine l_op 0 rfl rfl rfl rfl rfl ?_
  refine l_callp F rfl rfl (by kernel_rfl) rfl rfl act0_call (fun _ s F _ => ?_)
  (try dsimp only [n_1, n_2, n_3, n_4, List.append_nil, pk, n_5, n_6] at F)
  refine l_nil (WK.nx ‹_› (SeqK.nx ‹_› ?_))
  refine k_seq fun Q K => k_lin fun W K => ?_
  iterate 2 refine l_op 0 rfl rfl rfl rfl rfl ?_
  refine l_nil (WK.nx ‹_› (SeqK.nx ‹_› (k_ret ?_)))
  refine FunK.rt (by assumption) rfl ?_
  -- leaf 4
  exact ⟨⟨y, qs, za, zc, zr, q31, wa, wc, q65⟩, rfl, F, trivial⟩

end Go.Proofs.YtocfmecenpeoiaaGreat
