/- The page's example. No statement of the seat is proved in this text. -/
import Derived.Test.YtkealnppdblgiaaHeap3
set_option linter.unusedVariables false
set_option linter.unusedSimpArgs false
set_option maxRecDepth 100000
set_option maxHeartbeats 4000000
namespace Go.Proofs.Ytkealnppdblgiaa
open GAb Go

theorem num_call {σ : AState} {x : Int} : SCall Try.prog E0 16 [.int .i64 x] σ (Ret E0 σ (fun (_ : Unit) => .int .i64 x) (fun _ => []) fun _ => True) := by
  refine k_fun Try.func16 rfl (m := 4) rfl fun B hD Q K => ?_
  have F := Facts.nil E0 σ
  refine k_seq (fun Q K => ?_)
  refine k_lin (fun W K => ?_)
  refine l_op 0 rfl rfl rfl rfl rfl ?_
  refine l_nil (WK.nx (by assumption) ?_)
  refine SeqK.nx (by assumption) ?_
  refine k_seq (fun Q K => ?_)
  refine k_lin (fun W K => ?_)
  refine l_op 0 rfl rfl rfl rfl rfl ?_
  refine l_op 0 rfl rfl rfl rfl rfl ?_
  refine l_nil (WK.nx (by assumption) ?_)
  refine SeqK.nx (by assumption) ?_
  refine k_ret ?_
  refine FunK.rt (by assumption) rfl ?_
  -- leaf 1
  exact ⟨(), rfl, F.pick [] (by decide), trivial⟩
/-- A call of Malloc whose answer is told. -/
theorem malloc_callR {O : Nat → Prop} {σ : AState} {m c : Nat} {a : Option Addr} {most st en n e : Int} {bl : List (Int × Int)} {r : HR} (hr : mallocR most st en bl n e = r) (F : Facts O σ σ (hF m a c most st en bl)) (hEx : Ex a) (hB : BlkOK bl) (hn : bl.length ≤ 4096) (hm : U32 most) (hs : U32 st) (he : U32 en) (hu : U32 n) (hv : U32 e) :
    SCall Try.prog O 13 [.pointer (some ⟨m, 0, none⟩), .int .u32 n, .int .u32 e] σ (Ret O σ (fun (_ : Option Addr × Nat) => mV r) (fun y => hF m y.1 y.2 most r.st r.en r.bl) fun y => Ex y.1) := by
  subst hr; exact malloc_call F hEx hB hn hm hs he hu hv
theorem free_callR {O : Nat → Prop} {σ : AState} {m c : Nat} {a : Option Addr} {most st en ad : Int} {bl : List (Int × Int)} {r : HR} (hr : freeR st en bl ad = r) (F : Facts O σ σ (hF m a c most st en bl)) (hEx : Ex a) (hn : bl.length ≤ 4096) :
    SCall Try.prog O 14 [.pointer (some ⟨m, 0, none⟩), .int .u32 ad] σ (Ret O σ (fun (_ : Option Addr × Nat) => .int .i64 r.ret) (fun y => hF m y.1 y.2 most r.st r.en r.bl) fun y => Ex y.1) := by
  subst hr; exact free_call F hEx hn
theorem blkOK_lit (bl : List (Int × Int)) (h : (bl.all fun x => decide (0 ≤ x.1 ∧ x.1 ≤ 4294967295) && decide (0 ≤ x.2 ∧ x.2 ≤ 4294967295)) = true) : BlkOK bl := fun x hx => by
  have := List.all_eq_true.1 h x hx
  simp only [Bool.and_eq_true, decide_eq_true_eq] at this
  exact this
theorem live_call {σ : AState} : SCall Try.prog E0 11 [] σ (Ret E0 σ (fun (_ : Unit) => .bool true) (fun _ => []) fun _ => True) := by
  refine k_fun Try.func11 rfl (m := 94) rfl fun B hD Q K => ?_
  have F := Facts.nil E0 σ
  refine k_seq (fun Q K => ?_)
  refine k_lin (fun W K => ?_)
  refine l_op 0 rfl rfl rfl rfl rfl ?_
  refine l_nil (WK.nx (by assumption) ?_)
  refine SeqK.nx (by assumption) ?_
  refine k_seq (fun Q K => ?_)
  refine k_lin (fun W K => ?_)
  refine l_callp F rfl rfl (by kernel_rfl) rfl rfl (new_call (most := 4096)) (fun m s F _ => ?_)
  have hEx0 : Ex none := .inl rfl
  (try dsimp only [n_1, n_2, n_3, n_4, List.append_nil, pk, n_5, n_6] at F)
  refine l_op 0 rfl rfl rfl rfl rfl ?_
  refine l_nil (WK.nx (by assumption) ?_)
  refine SeqK.nx (by assumption) ?_
  refine k_seq (fun Q K => ?_)
  refine k_seq (fun Q K => ?_)
  refine k_lin (fun W K => ?_)
  refine l_op 0 rfl rfl rfl rfl rfl ?_
  refine l_cmp rfl rfl rfl rfl ?_
  refine l_nil (WK.nx (by assumption) ?_)
  refine SeqK.nx (by assumption) ?_
  refine l_cond rfl rfl (fun hc1 => ?_) (fun hc1 => ?_)
  · exact absurd ((irr_eq _).symm.trans hc1) (by decide)
  first | replace hc1 := ne_of_beq_false ((irr_eq _).symm.trans hc1) | simp only [irr_eq, beq_iff_eq, beq_eq_false_iff_ne, ne_eq, decide_eq_true_eq, decide_eq_false_iff_not] at hc1
  refine k_skip ?_
  refine SeqK.nx (by assumption) ?_
  refine k_seq (fun Q K => ?_)
  refine k_lin (fun W K => ?_)
  refine l_op 0 rfl rfl rfl rfl rfl ?_
  refine l_call F [0, 1] [] (by decide) rfl rfl (by kernel_rfl) rfl rfl (malloc_callR (r := ⟨1024, true, 1024, 1280, [(1024, 100)]⟩) (by decide) (F.sub [0, 1] (by decide)) hEx0 (blkOK_lit _ (by decide)) (by decide) (by decide) (by decide) (by decide) (by decide) (by decide)) hD (fun y1 s F hy1 => ?_)
  (try dsimp only [n_1, n_2, n_3, n_4, List.append_nil, pk, n_5, n_6] at F)
  refine l_op 0 rfl rfl rfl rfl rfl ?_
  refine l_op 2 rfl rfl rfl rfl rfl ?_
  refine l_op 2 rfl rfl rfl rfl rfl ?_
  refine l_op 0 rfl rfl rfl rfl rfl ?_
  refine l_op 0 rfl rfl rfl rfl rfl ?_
  refine l_nil (WK.nx (by assumption) ?_)
  refine SeqK.nx (by assumption) ?_
  refine k_seq (fun Q K => ?_)
  refine k_lin (fun W K => ?_)
  refine l_op 0 rfl rfl rfl rfl rfl ?_
  refine l_call F [0, 1] [] (by decide) rfl rfl (by kernel_rfl) rfl rfl (malloc_callR (r := ⟨1124, true, 1024, 1536, [(1024, 100), (1124, 300)]⟩) (by decide) (F.sub [0, 1] (by decide)) hy1 (blkOK_lit _ (by decide)) (by decide) (by decide) (by decide) (by decide) (by decide) (by decide)) hD (fun y2 s F hy2 => ?_)
  (try dsimp only [n_1, n_2, n_3, n_4, List.append_nil, pk, n_5, n_6] at F)
  refine l_op 0 rfl rfl rfl rfl rfl ?_
  refine l_op 2 rfl rfl rfl rfl rfl ?_
  refine l_op 2 rfl rfl rfl rfl rfl ?_
  refine l_op 0 rfl rfl rfl rfl rfl ?_
  refine l_op 0 rfl rfl rfl rfl rfl ?_
  refine l_nil (WK.nx (by assumption) ?_)
  refine SeqK.nx (by assumption) ?_
  refine k_seq (fun Q K => ?_)
  refine k_lin (fun W K => ?_)
  refine l_op 0 rfl rfl rfl rfl rfl ?_
  refine l_call F [0, 1] [] (by decide) rfl rfl (by kernel_rfl) rfl rfl (free_callR (r := ⟨0, true, 1024, 1536, [(1124, 300)]⟩) (by decide) (F.sub [0, 1] (by decide)) hy2 (by decide)) hD (fun y3 s F hy3 => ?_)
  (try dsimp only [n_1, n_2, n_3, n_4, List.append_nil, pk, n_5, n_6] at F)
  refine l_op 0 rfl rfl rfl rfl rfl ?_
  refine l_nil (WK.nx (by assumption) ?_)
  refine SeqK.nx (by assumption) ?_
  refine k_seq (fun Q K => ?_)
  refine k_lin (fun W K => ?_)
  refine l_op 0 rfl rfl rfl rfl rfl ?_
  refine l_call F [0, 1] [] (by decide) rfl rfl (by kernel_rfl) rfl rfl (malloc_callR (r := ⟨1024, true, 1024, 1536, [(1024, 50), (1124, 300)]⟩) (by decide) (F.sub [0, 1] (by decide)) hy3 (blkOK_lit _ (by decide)) (by decide) (by decide) (by decide) (by decide) (by decide) (by decide)) hD (fun y4 s F hy4 => ?_)
  (try dsimp only [n_1, n_2, n_3, n_4, List.append_nil, pk, n_5, n_6] at F)
  refine l_op 0 rfl rfl rfl rfl rfl ?_
  refine l_op 2 rfl rfl rfl rfl rfl ?_
  refine l_op 2 rfl rfl rfl rfl rfl ?_
  refine l_op 0 rfl rfl rfl rfl rfl ?_
  refine l_op 0 rfl rfl rfl rfl rfl ?_
  refine l_nil (WK.nx (by assumption) ?_)
  refine SeqK.nx (by assumption) ?_
  refine k_seq (fun Q K => ?_)
  refine k_lin (fun W K => ?_)
  refine l_op 0 rfl rfl rfl rfl rfl ?_
  refine l_call F [0, 1] [] (by decide) rfl rfl (by kernel_rfl) rfl rfl (malloc_callR (r := ⟨1424, true, 1024, 1536, [(1024, 50), (1124, 300), (1424, 60)]⟩) (by decide) (F.sub [0, 1] (by decide)) hy4 (blkOK_lit _ (by decide)) (by decide) (by decide) (by decide) (by decide) (by decide) (by decide)) hD (fun y5 s F hy5 => ?_)
  (try dsimp only [n_1, n_2, n_3, n_4, List.append_nil, pk, n_5, n_6] at F)
  refine l_op 0 rfl rfl rfl rfl rfl ?_
  refine l_op 2 rfl rfl rfl rfl rfl ?_
  refine l_op 2 rfl rfl rfl rfl rfl ?_
  refine l_op 0 rfl rfl rfl rfl rfl ?_
  refine l_op 0 rfl rfl rfl rfl rfl ?_
  refine l_nil (WK.nx (by assumption) ?_)
  refine SeqK.nx (by assumption) ?_
  refine k_seq (fun Q K => ?_)
  refine k_lin (fun W K => ?_)
  refine l_op 0 rfl rfl rfl rfl rfl ?_
  refine l_call F [0, 1] [] (by decide) rfl rfl (by kernel_rfl) rfl rfl (malloc_callR (r := ⟨0, false, 1024, 1536, [(1024, 50), (1124, 300), (1424, 60)]⟩) (by decide) (F.sub [0, 1] (by decide)) hy5 (blkOK_lit _ (by decide)) (by decide) (by decide) (by decide) (by decide) (by decide) (by decide)) hD (fun y6 s F hy6 => ?_)
  (try dsimp only [n_1, n_2, n_3, n_4, List.append_nil, pk, n_5, n_6] at F)
  refine l_op 0 rfl rfl rfl rfl rfl ?_
  refine l_op 2 rfl rfl rfl rfl rfl ?_
  refine l_op 2 rfl rfl rfl rfl rfl ?_
  refine l_op 0 rfl rfl rfl rfl rfl ?_
  refine l_op 0 rfl rfl rfl rfl rfl ?_
  refine l_nil (WK.nx (by assumption) ?_)
  refine SeqK.nx (by assumption) ?_
  refine k_seq (fun Q K => ?_)
  refine k_lin (fun W K => ?_)
  refine l_op 0 rfl rfl rfl rfl rfl ?_
  refine l_cmp rfl rfl rfl rfl ?_
  refine l_op 0 rfl rfl rfl rfl rfl ?_
  refine l_guard rfl rfl rfl (fun hc2 => ?_) (fun hc2 => ?_)
  · first | replace hc2 := eq_of_beq ((irr_eq _).symm.trans hc2) | simp only [irr_eq, beq_iff_eq, beq_eq_false_iff_ne, ne_eq, decide_eq_true_eq, decide_eq_false_iff_not] at hc2
    refine l_op 0 rfl rfl rfl rfl rfl ?_
    refine l_op 2 rfl rfl rfl rfl rfl ?_
    refine l_op 0 rfl rfl rfl rfl rfl ?_
    refine l_guard rfl rfl rfl (fun hc3 => ?_) (fun hc3 => ?_)
    · try simp only [irr_eq, beq_iff_eq, bne_iff_ne, beq_eq_false_iff_ne, bne_eq_false_iff_eq, ne_eq, decide_eq_true_eq, decide_eq_false_iff_not, Bool.not_eq_true', Bool.not_eq_false'] at hc3
      refine l_op 0 rfl rfl rfl rfl rfl ?_
      refine l_cmp rfl rfl rfl rfl ?_
      refine l_op 2 rfl rfl rfl rfl rfl ?_
      refine l_op 0 rfl rfl rfl rfl rfl ?_
      refine l_guard rfl rfl rfl (fun hc4 => ?_) (fun hc4 => ?_)
      · first | replace hc4 := eq_of_beq ((irr_eq _).symm.trans hc4) | simp only [irr_eq, beq_iff_eq, beq_eq_false_iff_ne, ne_eq, decide_eq_true_eq, decide_eq_false_iff_not] at hc4
        refine l_op 0 rfl rfl rfl rfl rfl ?_
        refine l_op 2 rfl rfl rfl rfl rfl ?_
        refine l_op 0 rfl rfl rfl rfl rfl ?_
        refine l_guard rfl rfl rfl (fun hc5 => ?_) (fun hc5 => ?_)
        · try simp only [irr_eq, beq_iff_eq, bne_iff_ne, beq_eq_false_iff_ne, bne_eq_false_iff_eq, ne_eq, decide_eq_true_eq, decide_eq_false_iff_not, Bool.not_eq_true', Bool.not_eq_false'] at hc5
          refine l_op 0 rfl rfl rfl rfl rfl ?_
          refine l_callp F rfl rfl (by kernel_rfl) rfl rfl num_call (fun _ s F _ => ?_)
          (try dsimp only [n_1, n_2, n_3, n_4, List.append_nil, pk, n_5, n_6] at F)
          refine l_cmp rfl rfl rfl rfl ?_
          refine l_op 2 rfl rfl rfl rfl rfl ?_
          refine l_op 0 rfl rfl rfl rfl rfl ?_
          refine l_guard rfl rfl rfl (fun hc6 => ?_) (fun hc6 => ?_)
          · first | replace hc6 := eq_of_beq ((irr_eq _).symm.trans hc6) | simp only [irr_eq, beq_iff_eq, beq_eq_false_iff_ne, ne_eq, decide_eq_true_eq, decide_eq_false_iff_not] at hc6
            refine l_op 0 rfl rfl rfl rfl rfl ?_
            refine l_cmp rfl rfl rfl rfl ?_
            refine l_op 2 rfl rfl rfl rfl rfl ?_
            refine l_op 0 rfl rfl rfl rfl rfl ?_
            refine l_guard rfl rfl rfl (fun hc7 => ?_) (fun hc7 => ?_)
            · first | replace hc7 := eq_of_beq ((irr_eq _).symm.trans hc7) | simp only [irr_eq, beq_iff_eq, beq_eq_false_iff_ne, ne_eq, decide_eq_true_eq, decide_eq_false_iff_not] at hc7
              refine l_op 0 rfl rfl rfl rfl rfl ?_
              refine l_op 2 rfl rfl rfl rfl rfl ?_
              refine l_op 0 rfl rfl rfl rfl rfl ?_
              refine l_guard rfl rfl rfl (fun hc8 => ?_) (fun hc8 => ?_)
              · try simp only [irr_eq, beq_iff_eq, bne_iff_ne, beq_eq_false_iff_ne, bne_eq_false_iff_eq, ne_eq, decide_eq_true_eq, decide_eq_false_iff_not, Bool.not_eq_true', Bool.not_eq_false'] at hc8
                refine l_op 0 rfl rfl rfl rfl rfl ?_
                refine l_cmp rfl rfl rfl rfl ?_
                refine l_op 2 rfl rfl rfl rfl rfl ?_
                refine l_op 0 rfl rfl rfl rfl rfl ?_
                refine l_guard rfl rfl rfl (fun hc9 => ?_) (fun hc9 => ?_)
                · first | replace hc9 := eq_of_beq ((irr_eq _).symm.trans hc9) | simp only [irr_eq, beq_iff_eq, beq_eq_false_iff_ne, ne_eq, decide_eq_true_eq, decide_eq_false_iff_not] at hc9
                  refine l_op 0 rfl rfl rfl rfl rfl ?_
                  refine l_op 2 rfl rfl rfl rfl rfl ?_
                  refine l_op 0 rfl rfl rfl rfl rfl ?_
                  refine l_guard rfl rfl rfl (fun hc10 => ?_) (fun hc10 => ?_)
                  · try simp only [irr_eq, beq_iff_eq, bne_iff_ne, beq_eq_false_iff_ne, bne_eq_false_iff_eq, ne_eq, decide_eq_true_eq, decide_eq_false_iff_not, Bool.not_eq_true', Bool.not_eq_false'] at hc10
                    refine l_op 0 rfl rfl rfl rfl rfl ?_
                    refine l_op 2 rfl rfl rfl rfl rfl ?_
                    refine l_op 2 rfl rfl rfl rfl rfl ?_
                    refine l_op 0 rfl rfl rfl rfl rfl ?_
                    refine l_guard rfl rfl rfl (fun hc11 => ?_) (fun hc11 => ?_)
                    · try simp only [irr_eq, beq_iff_eq, bne_iff_ne, beq_eq_false_iff_ne, bne_eq_false_iff_eq, ne_eq, decide_eq_true_eq, decide_eq_false_iff_not, Bool.not_eq_true', Bool.not_eq_false'] at hc11
                      refine l_op 0 rfl rfl rfl rfl rfl ?_
                      refine l_callp F rfl rfl (by kernel_rfl) rfl rfl (end_call (F.cel0 0 rfl)) (fun _ s F _ => ?_)
                      (try dsimp only [n_1, n_2, n_3, n_4, List.append_nil, pk, n_5, n_6] at F)
                      refine l_cmp rfl rfl rfl rfl ?_
                      refine l_op 2 rfl rfl rfl rfl rfl ?_
                      refine l_op 0 rfl rfl rfl rfl rfl ?_
                      refine l_guard rfl rfl rfl (fun hc12 => ?_) (fun hc12 => ?_)
                      · first | replace hc12 := eq_of_beq ((irr_eq _).symm.trans hc12) | simp only [irr_eq, beq_iff_eq, beq_eq_false_iff_ne, ne_eq, decide_eq_true_eq, decide_eq_false_iff_not] at hc12
                        refine l_op 0 rfl rfl rfl rfl rfl ?_
                        refine l_callp F rfl rfl (by kernel_rfl) rfl rfl (start_call (F.cel0 0 rfl)) (fun _ s F _ => ?_)
                        (try dsimp only [n_1, n_2, n_3, n_4, List.append_nil, pk, n_5, n_6] at F)
                        refine l_cmp rfl rfl rfl rfl ?_
                        refine l_op 2 rfl rfl rfl rfl rfl ?_
                        refine l_op 0 rfl rfl rfl rfl rfl ?_
                        refine l_guard rfl rfl rfl (fun hc13 => ?_) (fun hc13 => ?_)
                        · first | replace hc13 := eq_of_beq ((irr_eq _).symm.trans hc13) | simp only [irr_eq, beq_iff_eq, beq_eq_false_iff_ne, ne_eq, decide_eq_true_eq, decide_eq_false_iff_not] at hc13
                          refine l_op 0 rfl rfl rfl rfl rfl ?_
                          refine l_call F [0, 1] [] (by decide) rfl rfl (by kernel_rfl) rfl rfl (free_callR (r := ⟨5, false, 1024, 1536, [(1024, 50), (1124, 300), (1424, 60)]⟩) (by decide) (F.sub [0, 1] (by decide)) hy6 (by decide)) hD (fun y7 s F hy7 => ?_)
                          (try dsimp only [n_1, n_2, n_3, n_4, List.append_nil, pk, n_5, n_6] at F)
                          refine l_callp F rfl rfl (by kernel_rfl) rfl rfl num_call (fun _ s F _ => ?_)
                          (try dsimp only [n_1, n_2, n_3, n_4, List.append_nil, pk, n_5, n_6] at F)
                          refine l_cmp rfl rfl rfl rfl ?_
                          refine l_op 2 rfl rfl rfl rfl rfl ?_
                          refine l_op 0 rfl rfl rfl rfl rfl ?_
                          refine l_nil (WK.nx (by assumption) ?_)
                          refine SeqK.nx (by assumption) ?_
                          refine k_ret ?_
                          refine FunK.rt (by assumption) rfl ?_
                          -- leaf 1
                          refine ⟨(), ?_, F.pick [] (by decide), trivial⟩
                          show Value.bool _ = _
                          rw [irr_eq]; rfl
                        first | exact absurd ((irr_eq _).symm.trans hc13) (by decide) | cases hc13
                      first | exact absurd ((irr_eq _).symm.trans hc12) (by decide) | cases hc12
                    first | exact absurd ((irr_eq _).symm.trans hc11) (by decide) | cases hc11
                  first | exact absurd ((irr_eq _).symm.trans hc10) (by decide) | cases hc10
                first | exact absurd ((irr_eq _).symm.trans hc9) (by decide) | cases hc9
              first | exact absurd ((irr_eq _).symm.trans hc8) (by decide) | cases hc8
            first | exact absurd ((irr_eq _).symm.trans hc7) (by decide) | cases hc7
          first | exact absurd ((irr_eq _).symm.trans hc6) (by decide) | cases hc6
        first | exact absurd ((irr_eq _).symm.trans hc5) (by decide) | cases hc5
      first | exact absurd ((irr_eq _).symm.trans hc4) (by decide) | cases hc4
    first | exact absurd ((irr_eq _).symm.trans hc3) (by decide) | cases hc3
  first | exact absurd ((irr_eq _).symm.trans hc2) (by decide) | cases hc2

end Go.Proofs.Ytkealnppdblgiaa
