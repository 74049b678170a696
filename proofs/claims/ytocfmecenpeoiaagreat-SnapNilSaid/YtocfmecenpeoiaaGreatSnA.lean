/- No memory, no stack, a nil Undo: what is told then; the page's example of chapter 17. No statement of the seat is proved in this text. -/
import Derived.Test.YtocfmecenpeoiaaGreatMemU
set_option linter.unusedVariables false
set_option linter.unusedSimpArgs false
set_option maxRecDepth 100000
set_option maxHeartbeats 4000000
namespace Go.Proofs.YtocfmecenpeoiaaGreat
open GAb Go

/-- A state without anything. -/
abbrev st0 : Value := .agg #[.slice none 0 0, .int .u32 0, .slice none 0 0, .slice none 0 0]
abbrev stV (a b c : Option Addr) (l1 l2 l3 c1 c2 c3 : Nat) (h : Int) : Value := .agg #[.slice a l1 c1, .int .u32 h, .slice b l2 c2, .slice c l3 c3]
theorem snTake0 {σ : AState} {m : Nat} : SCall Tryz.prog E0 13 [.pointer none, .pointer (some ⟨m, 0, none⟩)] σ (Ret E0 σ (fun (_ : Unit) => .tuple #[st0, .int .i64 8]) (fun _ => []) fun _ => True) := by
  refine k_fun Tryz.func13 rfl (m := 31) rfl fun B hD Q K => ?_
  have F := Facts.nil E0 σ
  refine k_seq fun Q K => k_lin fun W K => ?_
  refine l_al F rfl rfl rfl rfl (fun q4 s F => ?_)
  (try dsimp only [n_1, n_2, n_3, n_4, List.append_nil, pk, n_5, n_6] at F)
  refine l_op 0 rfl rfl rfl rfl rfl ?_
  refine l_nil (WK.nx ‹_› (SeqK.nx ‹_› ?_))
  refine k_seq fun Q K => k_seq fun Q K => k_lin fun W K => ?_
  refine l_op 0 rfl rfl rfl rfl rfl ?_
  refine l_cmp rfl rfl rfl rfl ?_
  refine l_op 0 rfl rfl rfl rfl rfl ?_
  refine l_guard rfl rfl rfl (fun hc1 => ?_) (fun hc1 => ?_)
  · simp only [irr_eq, beq_iff_eq, beq_eq_false_iff_ne, ne_eq, decide_eq_true_eq, decide_eq_false_iff_not] at hc1
    iterate 2 refine l_s rfl rfl ?_
    refine l_op 2 rfl rfl rfl rfl rfl ?_
    refine l_nil (WK.nx ‹_› (SeqK.nx ‹_› ?_))
    refine e_cond_t rfl rfl rfl ?_
    refine k_seq fun Q K => k_lin fun W K => ?_
    refine l_bld rfl rfl rfl rfl ?_
    refine l_stca F 0 rfl rfl rfl rfl rfl rfl rfl rfl rfl rfl hD rfl (fun s F => ?_)
    (try dsimp only [n_1, n_2, n_3, n_4, List.append_nil, pk, n_5, n_6] at F)
    refine l_op 0 rfl rfl rfl rfl rfl ?_
    refine l_nil (WK.nx ‹_› (SeqK.nx ‹_› (k_ret (SeqK.rt ‹_› ?_))))
    refine FunK.rtc (by assumption) (res_cell F 0 rfl rfl (by kernel_rfl) (resE_rsv rfl)) ?_
    -- leaf 1
    first
    | exact ⟨(), rfl, F.pick [] (by decide), trivial⟩
  exact absurd ((irr_eq _).symm.trans hc1) (by decide)
theorem snTake1 {σ : AState} {m : Nat} : SCall Tryz.prog E0 13 [.pointer (some ⟨m, 0, none⟩), .pointer none] σ (Ret E0 σ (fun (_ : Unit) => .tuple #[st0, .int .i64 8]) (fun _ => []) fun _ => True) := by
  refine k_fun Tryz.func13 rfl (m := 31) rfl fun B hD Q K => ?_
  have F := Facts.nil E0 σ
  refine k_seq fun Q K => k_lin fun W K => ?_
  refine l_al F rfl rfl rfl rfl (fun q4 s F => ?_)
  (try dsimp only [n_1, n_2, n_3, n_4, List.append_nil, pk, n_5, n_6] at F)
  refine l_op 0 rfl rfl rfl rfl rfl ?_
  refine l_nil (WK.nx ‹_› (SeqK.nx ‹_› ?_))
  refine k_seq fun Q K => k_seq fun Q K => k_lin fun W K => ?_
  refine l_op 0 rfl rfl rfl rfl rfl ?_
  refine l_cmp rfl rfl rfl rfl ?_
  refine l_op 0 rfl rfl rfl rfl rfl ?_
  refine l_guard rfl rfl rfl (fun hc1 => ?_) (fun hc1 => ?_)
  · exact absurd ((irr_eq _).symm.trans hc1) (by decide)
  simp only [irr_eq, beq_iff_eq, beq_eq_false_iff_ne, ne_eq, decide_eq_true_eq, decide_eq_false_iff_not] at hc1
  refine l_op 0 rfl rfl rfl rfl rfl ?_
  refine l_cmp rfl rfl rfl rfl ?_
  refine l_op 2 rfl rfl rfl rfl rfl ?_
  refine l_nil (WK.nx ‹_› (SeqK.nx ‹_› ?_))
  refine l_cond rfl rfl (fun hc2 => ?_) (fun hc2 => ?_)
  · simp only [irr_eq, beq_iff_eq, beq_eq_false_iff_ne, ne_eq, decide_eq_true_eq, decide_eq_false_iff_not] at hc2
    refine k_seq fun Q K => k_lin fun W K => ?_
    refine l_bld rfl rfl rfl rfl ?_
    refine l_stca F 0 rfl rfl rfl rfl rfl rfl rfl rfl rfl rfl hD rfl (fun s F => ?_)
    (try dsimp only [n_1, n_2, n_3, n_4, List.append_nil, pk, n_5, n_6] at F)
    refine l_op 0 rfl rfl rfl rfl rfl ?_
    refine l_nil (WK.nx ‹_› (SeqK.nx ‹_› (k_ret (SeqK.rt ‹_› ?_))))
    refine FunK.rtc (by assumption) (res_cell F 0 rfl rfl (by kernel_rfl) (resE_rsv rfl)) ?_
    -- leaf 1
    first
    | exact ⟨(), rfl, F.pick [] (by decide), trivial⟩
  exact absurd ((irr_eq _).symm.trans hc2) (by decide)
theorem snPut0 {σ : AState} {m : Nat} : SCall Tryz.prog E0 11 [.pointer (some ⟨m, 0, none⟩), .pointer none] σ (Ret E0 σ (fun (_ : Unit) => .tuple #[.slice none 0 0, .int .i64 8]) (fun _ => []) fun _ => True) := by
  refine k_fun Tryz.func11 rfl (m := 78) rfl fun B hD Q K => ?_
  have F := Facts.nil E0 σ
  refine k_seq fun Q K => k_lin fun W K => ?_
  iterate 2 refine l_op 0 rfl rfl rfl rfl rfl ?_
  refine l_nil (WK.nx ‹_› (SeqK.nx ‹_› ?_))
  refine k_seq fun Q K => k_lin fun W K => ?_
  iterate 2 refine l_op 0 rfl rfl rfl rfl rfl ?_
  refine l_callp F rfl rfl (by kernel_rfl) rfl rfl snTake1 (fun _ s F _ => ?_)
  (try dsimp only [n_1, n_2, n_3, n_4, List.append_nil, pk, n_5, n_6] at F)
  refine l_op 0 rfl rfl rfl rfl rfl ?_
  iterate 2 refine l_op 2 rfl rfl rfl rfl rfl ?_
  refine l_al F rfl rfl rfl rfl (fun q6 s F => ?_)
  (try dsimp only [n_1, n_2, n_3, n_4, List.append_nil, pk, n_5, n_6] at F)
  refine l_stca F 0 rfl rfl rfl rfl rfl rfl rfl rfl rfl rfl hD rfl (fun s F => ?_)
  (try dsimp only [n_1, n_2, n_3, n_4, List.append_nil, pk, n_5, n_6] at F)
  refine l_op 0 rfl rfl rfl rfl rfl ?_
  refine l_nil (WK.nx ‹_› (SeqK.nx ‹_› ?_))
  refine k_seq fun Q K => k_seq fun Q K => k_lin fun W K => ?_
  refine l_op 0 rfl rfl rfl rfl rfl ?_
  refine l_cmp rfl rfl rfl rfl ?_
  refine l_nil (WK.nx ‹_› (SeqK.nx ‹_› ?_))
  refine l_cond rfl rfl (fun hc1 => ?_) (fun hc1 => ?_)
  · replace hc1 := bne_iff_ne.1 ((irr_eq _).symm.trans hc1)
    refine k_seq fun Q K => k_lin fun W K => ?_
    iterate 3 refine l_op 0 rfl rfl rfl rfl rfl ?_
    refine l_nil (WK.nx ‹_› (SeqK.nx ‹_› (k_ret (SeqK.rt ‹_› ?_))))
    refine FunK.rt (by assumption) rfl ?_
    -- leaf 1
    first
    | exact ⟨(), rfl, F.pick [] (by decide), trivial⟩
  replace hc1 := bne_eq_false_iff_eq.1 ((irr_eq _).symm.trans hc1)
  exfalso; omega
theorem snGet0 {σ : AState} {a : Option Addr} {l c : Nat} : SCall Tryz.prog E0 25 [.pointer none, .slice a l c] σ (Ret E0 σ (fun (_ : Unit) => .tuple #[st0, .int .i64 8]) (fun _ => []) fun _ => True) := by
  refine k_fun Tryz.func25 rfl (m := 108) rfl fun B hD Q K => ?_
  have F := Facts.nil E0 σ
  refine k_seq fun Q K => k_lin fun W K => ?_
  refine l_al F rfl rfl rfl rfl (fun q4 s F => ?_)
  (try dsimp only [n_1, n_2, n_3, n_4, List.append_nil, pk, n_5, n_6] at F)
  refine l_op 0 rfl rfl rfl rfl rfl ?_
  refine l_nil (WK.nx ‹_› (SeqK.nx ‹_› ?_))
  refine k_seq fun Q K => k_seq fun Q K => k_lin fun W K => ?_
  refine l_op 0 rfl rfl rfl rfl rfl ?_
  refine l_cmp rfl rfl rfl rfl ?_
  refine l_nil (WK.nx ‹_› (SeqK.nx ‹_› ?_))
  refine l_cond rfl rfl (fun hc1 => ?_) (fun hc1 => ?_)
  · simp only [irr_eq, beq_iff_eq, beq_eq_false_iff_ne, ne_eq, decide_eq_true_eq, decide_eq_false_iff_not] at hc1
    refine k_seq fun Q K => k_lin fun W K => ?_
    refine l_bld rfl rfl rfl rfl ?_
    refine l_stca F 0 rfl rfl rfl rfl rfl rfl rfl rfl rfl rfl hD rfl (fun s F => ?_)
    (try dsimp only [n_1, n_2, n_3, n_4, List.append_nil, pk, n_5, n_6] at F)
    refine l_op 0 rfl rfl rfl rfl rfl ?_
    refine l_nil (WK.nx ‹_› (SeqK.nx ‹_› (k_ret (SeqK.rt ‹_› ?_))))
    refine FunK.rtc (by assumption) (res_cell F 0 rfl rfl (by kernel_rfl) (resE_rsv rfl)) ?_
    -- leaf 1
    first
    | exact ⟨(), rfl, F.pick [] (by decide), trivial⟩
  exact absurd ((irr_eq _).symm.trans hc1) (by decide)
theorem snPush0 {σ : AState} {a b c : Option Addr} {l1 l2 l3 c1 c2 c3 : Nat} {h : Int} : SCall Tryz.prog E0 28 [.pointer none, stV a b c l1 l2 l3 c1 c2 c3 h] σ (Ret E0 σ (fun (_ : Unit) => .tuple #[]) (fun _ => []) fun _ => True) := by
  refine k_fun Tryz.func28 rfl (m := 22) rfl fun B hD Q K => ?_
  have F := Facts.nil E0 σ
  refine k_seq fun Q K => k_lin fun W K => ?_
  refine l_bx F rfl rfl rfl rfl rfl (fun q3 s F => ?_)
  (try dsimp only [n_1, n_2, n_3, n_4, List.append_nil, pk, n_5, n_6] at F)
  refine l_nil (WK.nx ‹_› (SeqK.nx ‹_› ?_))
  refine k_seq fun Q K => k_lin fun W K => ?_
  refine l_op 0 rfl rfl rfl rfl rfl ?_
  refine l_cmp rfl rfl rfl rfl ?_
  refine l_nil (WK.nx ‹_› (SeqK.nx ‹_› ?_))
  refine l_cond rfl rfl (fun hc1 => ?_) (fun hc1 => ?_)
  · exact absurd ((irr_eq _).symm.trans hc1) (by decide)
  simp only [irr_eq, bne_iff_ne, bne_eq_false_iff_eq, ne_eq, decide_eq_true_eq, decide_eq_false_iff_not, Bool.not_eq_true', Bool.not_eq_false'] at hc1
  refine k_skip ?_
  refine FunK.nx (by assumption) rfl ?_
  -- leaf 1
  first
  | exact ⟨(), rfl, F.pick [] (by decide), trivial⟩
theorem snPop0 {σ : AState} : SCall Tryz.prog E0 29 [.pointer none] σ (Ret E0 σ (fun (_ : Unit) => .tuple #[st0, .bool false]) (fun _ => []) fun _ => True) := by
  refine k_fun Tryz.func29 rfl (m := 13) rfl fun B hD Q K => ?_
  have F := Facts.nil E0 σ
  refine k_seq fun Q K => k_lin fun W K => ?_
  refine l_al F rfl rfl rfl rfl (fun q2 s F => ?_)
  (try dsimp only [n_1, n_2, n_3, n_4, List.append_nil, pk, n_5, n_6] at F)
  refine l_op 0 rfl rfl rfl rfl rfl ?_
  refine l_nil (WK.nx ‹_› (SeqK.nx ‹_› ?_))
  refine k_seq fun Q K => k_seq fun Q K => k_lin fun W K => ?_
  refine l_op 0 rfl rfl rfl rfl rfl ?_
  refine l_cmp rfl rfl rfl rfl ?_
  refine l_nil (WK.nx ‹_› (SeqK.nx ‹_› ?_))
  refine l_cond rfl rfl (fun hc1 => ?_) (fun hc1 => ?_)
  · simp only [irr_eq, beq_iff_eq, beq_eq_false_iff_ne, ne_eq, decide_eq_true_eq, decide_eq_false_iff_not] at hc1
    refine k_seq fun Q K => k_lin fun W K => ?_
    refine l_bld rfl rfl rfl rfl ?_
    refine l_stca F 0 rfl rfl rfl rfl rfl rfl rfl rfl rfl rfl hD rfl (fun s F => ?_)
    (try dsimp only [n_1, n_2, n_3, n_4, List.append_nil, pk, n_5, n_6] at F)
    refine l_op 0 rfl rfl rfl rfl rfl ?_
    refine l_nil (WK.nx ‹_› (SeqK.nx ‹_› (k_ret (SeqK.rt ‹_› ?_))))
    refine FunK.rtc (by assumption) (res_cell F 0 rfl rfl (by kernel_rfl) (resE_rsv rfl)) ?_
    -- leaf 1
    first
    | exact ⟨(), rfl, F.pick [] (by decide), trivial⟩
  exact absurd ((irr_eq _).symm.trans hc1) (by decide)
theorem snLen0 (D : Nat → Prop) (σ : AState) : SCall Tryz.prog D 30 [.pointer none] σ fun v s => v = .int .i64 0 ∧ s = σ :=
  closed_told (n := 200) (by kernel_rfl) rfl rfl D σ
theorem snLoad0 {σ : AState} {m : Nat} {a b c : Option Addr} {l1 l2 l3 c1 c2 c3 : Nat} {h : Int} : SCall Tryz.prog E0 22 [.pointer none, .pointer (some ⟨m, 0, none⟩), stV a b c l1 l2 l3 c1 c2 c3 h] σ (Ret E0 σ (fun (_ : Unit) => .int .i64 8) (fun _ => []) fun _ => True) := by
  refine k_fun Tryz.func22 rfl (m := 42) rfl fun B hD Q K => ?_
  have F := Facts.nil E0 σ
  refine k_seq fun Q K => k_lin fun W K => ?_
  refine l_bx F rfl rfl rfl rfl rfl (fun q5 s F => ?_)
  (try dsimp only [n_1, n_2, n_3, n_4, List.append_nil, pk, n_5, n_6] at F)
  refine l_op 0 rfl rfl rfl rfl rfl ?_
  refine l_nil (WK.nx ‹_› (SeqK.nx ‹_› ?_))
  refine k_seq fun Q K => k_seq fun Q K => k_lin fun W K => ?_
  refine l_op 0 rfl rfl rfl rfl rfl ?_
  refine l_cmp rfl rfl rfl rfl ?_
  refine l_op 0 rfl rfl rfl rfl rfl ?_
  refine l_guard rfl rfl rfl (fun hc1 => ?_) (fun hc1 => ?_)
  · simp only [irr_eq, beq_iff_eq, beq_eq_false_iff_ne, ne_eq, decide_eq_true_eq, decide_eq_false_iff_not] at hc1
    iterate 2 refine l_s rfl rfl ?_
    refine l_op 2 rfl rfl rfl rfl rfl ?_
    refine l_nil (WK.nx ‹_› (SeqK.nx ‹_› ?_))
    refine e_cond_t rfl rfl rfl ?_
    refine k_seq fun Q K => k_lin fun W K => ?_
    refine l_op 0 rfl rfl rfl rfl rfl ?_
    refine l_nil (WK.nx ‹_› (SeqK.nx ‹_› (k_ret (SeqK.rt ‹_› ?_))))
    refine FunK.rt (by assumption) rfl ?_
    -- leaf 1
    first
    | exact ⟨(), rfl, F.pick [] (by decide), trivial⟩
  exact absurd ((irr_eq _).symm.trans hc1) (by decide)
theorem snLoad1 {σ : AState} {m : Nat} {a b c : Option Addr} {l1 l2 l3 c1 c2 c3 : Nat} {h : Int} : SCall Tryz.prog E0 22 [.pointer (some ⟨m, 0, none⟩), .pointer none, stV a b c l1 l2 l3 c1 c2 c3 h] σ (Ret E0 σ (fun (_ : Unit) => .int .i64 8) (fun _ => []) fun _ => True) := by
  refine k_fun Tryz.func22 rfl (m := 42) rfl fun B hD Q K => ?_
  have F := Facts.nil E0 σ
  refine k_seq fun Q K => k_lin fun W K => ?_
  refine l_bx F rfl rfl rfl rfl rfl (fun q5 s F => ?_)
  (try dsimp only [n_1, n_2, n_3, n_4, List.append_nil, pk, n_5, n_6] at F)
  refine l_op 0 rfl rfl rfl rfl rfl ?_
  refine l_nil (WK.nx ‹_› (SeqK.nx ‹_› ?_))
  refine k_seq fun Q K => k_seq fun Q K => k_lin fun W K => ?_
  refine l_op 0 rfl rfl rfl rfl rfl ?_
  refine l_cmp rfl rfl rfl rfl ?_
  refine l_op 0 rfl rfl rfl rfl rfl ?_
  refine l_guard rfl rfl rfl (fun hc1 => ?_) (fun hc1 => ?_)
  · exact absurd ((irr_eq _).symm.trans hc1) (by decide)
  simp only [irr_eq, beq_iff_eq, beq_eq_false_iff_ne, ne_eq, decide_eq_true_eq, decide_eq_false_iff_not] at hc1
  refine l_op 0 rfl rfl rfl rfl rfl ?_
  refine l_cmp rfl rfl rfl rfl ?_
  refine l_op 2 rfl rfl rfl rfl rfl ?_
  refine l_nil (WK.nx ‹_› (SeqK.nx ‹_› ?_))
  refine l_cond rfl rfl (fun hc2 => ?_) (fun hc2 => ?_)
  · simp only [irr_eq, beq_iff_eq, beq_eq_false_iff_ne, ne_eq, decide_eq_true_eq, decide_eq_false_iff_not] at hc2
    refine k_seq fun Q K => k_lin fun W K => ?_
    refine l_op 0 rfl rfl rfl rfl rfl ?_
    refine l_nil (WK.nx ‹_› (SeqK.nx ‹_› (k_ret (SeqK.rt ‹_› ?_))))
    refine FunK.rt (by assumption) rfl ?_
    -- leaf 1
    first
    | exact ⟨(), rfl, F.pick [] (by decide), trivial⟩
  exact absurd ((irr_eq _).symm.trans hc2) (by decide)
theorem live17_told : told (ev Tryz.prog (fun _ => none) 2000 [] (.call 9 []) empty) = some (.bool true) := by kernel_rfl
theorem live17_call (E : Nat → Prop) (σ : AState) : SCall Tryz.prog E 9 [] σ fun v s => v = .bool true ∧ s = σ := closed_told live17_told rfl rfl E σ
theorem snNum (E : Nat → Prop) (x : Int) (σ : AState) : SCall Tryz.prog E 15 [.int .i64 x] σ fun v s => v = .int .i64 x ∧ s = σ :=
  closed_told (n := 200) (by kernel_rfl) rfl rfl E σ

end Go.Proofs.YtocfmecenpeoiaaGreat
