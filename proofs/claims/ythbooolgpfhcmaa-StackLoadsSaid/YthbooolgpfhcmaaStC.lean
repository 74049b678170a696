/- A stack is loaded, left, told, by the program. No statement of the seat is proved in this text. -/
import Derived.Test.YthbooolgpfhcmaaStB
set_option linter.unusedVariables false
set_option linter.unusedSimpArgs false
set_option maxRecDepth 100000
set_option maxHeartbeats 4000000
namespace Go.Proofs.Ythbooolgpfhcmaa
open GAb Go

theorem bytes_call {σ : AState} {m n c : Nat} {a : Option Addr} {size fp : Int} {on : Bool} {bs : List Int} (hc : OldC E0 σ m (sC a n c size fp on)) (hl : Old E0 σ a n c 1 (u8l bs)) (hn : n ≤ 1000000) :
    SCall Try.prog E0 22 [.pointer (some ⟨m, 0, none⟩)] σ (Ret E0 σ (fun (y : Option Addr × Nat) => .slice y.1 n y.2) (fun y => [own y.1 n y.2 1 (u8l bs)]) fun _ => True) := by
  refine k_fun Try.func22 rfl (m := 10) rfl fun B hD Q K => ?_
  have F := Facts.nil E0 σ
  refine k_seq (fun Q K => ?_)
  refine k_lin (fun W K => ?_)
  refine l_op 0 rfl rfl rfl rfl rfl ?_
  refine l_nil (WK.nx (by assumption) ?_)
  refine SeqK.nx (by assumption) ?_
  refine k_seq (fun Q K => ?_)
  refine k_seq (fun Q K => ?_)
  refine k_lin (fun W K => ?_)
  refine l_op 0 rfl rfl rfl rfl rfl ?_
  refine l_cmp rfl rfl rfl rfl ?_
  refine l_nil (WK.nx (by assumption) ?_)
  refine SeqK.nx (by assumption) ?_
  refine l_cond rfl rfl (fun hc1 => ?_) (fun hc1 => ?_)
  · exact absurd ((irr_eq _).symm.trans hc1) (by decide)
  first | replace hc1 := ne_of_beq_false ((irr_eq _).symm.trans hc1) | simp only [irr_eq, beq_iff_eq, beq_eq_false_iff_ne, ne_eq, decide_eq_true_eq, decide_eq_false_iff_not] at hc1
  refine k_skip ?_
  refine SeqK.nx (by assumption) ?_
  refine k_seq (fun Q K => ?_)
  refine k_lin (fun W K => ?_)
  refine l_op 0 rfl rfl rfl rfl rfl ?_
  refine l_op 2 rfl rfl rfl rfl rfl ?_
  refine l_op 2 rfl rfl rfl rfl rfl ?_
  (first | refine l_ld0 rfl rfl rfl rfl rfl (by assumption) ?_ | refine l_ldj rfl rfl rfl rfl rfl rfl (by assumption) rfl ?_ | refine l_ldc F 0 rfl rfl rfl rfl rfl rfl rfl ?_ | refine l_ldc F 1 rfl rfl rfl rfl rfl rfl rfl ?_ | refine l_ldc F 2 rfl rfl rfl rfl rfl rfl rfl ?_ | refine l_ldc F 3 rfl rfl rfl rfl rfl rfl rfl ?_ | refine l_ldc F 4 rfl rfl rfl rfl rfl rfl rfl ?_ | refine l_ldc F 5 rfl rfl rfl rfl rfl rfl rfl ?_ | refine l_ldc F 6 rfl rfl rfl rfl rfl rfl rfl ?_ | refine l_ldc F 7 rfl rfl rfl rfl rfl rfl rfl ?_ | refine l_ldc F 8 rfl rfl rfl rfl rfl rfl rfl ?_ | refine l_ldc F 9 rfl rfl rfl rfl rfl rfl rfl ?_ | refine l_lda rfl rfl rfl rfl rfl (by assumption) ?_ | refine l_ldca F 0 rfl rfl rfl rfl rfl rfl rfl ?_ | refine l_ldca F 1 rfl rfl rfl rfl rfl rfl rfl ?_ | refine l_ldca F 2 rfl rfl rfl rfl rfl rfl rfl ?_ | refine l_ldca F 3 rfl rfl rfl rfl rfl rfl rfl ?_ | refine l_ldca F 4 rfl rfl rfl rfl rfl rfl rfl ?_ | refine l_ldca F 5 rfl rfl rfl rfl rfl rfl rfl ?_ | refine l_ldca F 6 rfl rfl rfl rfl rfl rfl rfl ?_ | refine l_ldca F 7 rfl rfl rfl rfl rfl rfl rfl ?_ | refine l_ldca F 8 rfl rfl rfl rfl rfl rfl rfl ?_ | refine l_ldca F 9 rfl rfl rfl rfl rfl rfl rfl ?_ | refine l_ldo F (by assumption) rfl rfl rfl rfl rfl rfl ?_ | refine l_ldoa F (by assumption) rfl rfl rfl rfl rfl rfl ?_)
  refine l_callp F rfl rfl (by kernel_rfl) rfl rfl (clone_call (Old.pure (F.old hl)) (by omega)) (fun y s F _ => ?_)
  (try dsimp only [n_1, n_2, n_3, n_4, List.append_nil, pk, n_5, n_6] at F)
  refine l_op 0 rfl rfl rfl rfl rfl ?_
  refine l_nil (WK.nx (by assumption) ?_)
  refine SeqK.nx (by assumption) ?_
  refine k_ret ?_
  refine FunK.rt (by assumption) rfl ?_
  -- leaf 1
  exact ⟨y, rfl, F, trivial⟩
theorem top_call {σ : AState} {m n c : Nat} {a : Option Addr} {size fp : Int} {on : Bool} (hc : OldC E0 σ m (sC a n c size fp on)) (hn : n ≤ 1000000) :
    SCall Try.prog E0 20 [.pointer (some ⟨m, 0, none⟩)] σ (Ret E0 σ (fun (_ : Unit) => .int .u32 n) (fun _ => []) fun _ => True) := by
  refine k_fun Try.func20 rfl (m := 11) rfl fun B hD Q K => ?_
  have F := Facts.nil E0 σ
  refine k_seq (fun Q K => ?_)
  refine k_lin (fun W K => ?_)
  refine l_op 0 rfl rfl rfl rfl rfl ?_
  refine l_nil (WK.nx (by assumption) ?_)
  refine SeqK.nx (by assumption) ?_
  refine k_seq (fun Q K => ?_)
  refine k_seq (fun Q K => ?_)
  refine k_lin (fun W K => ?_)
  refine l_op 0 rfl rfl rfl rfl rfl ?_
  refine l_cmp rfl rfl rfl rfl ?_
  refine l_nil (WK.nx (by assumption) ?_)
  refine SeqK.nx (by assumption) ?_
  refine l_cond rfl rfl (fun hc1 => ?_) (fun hc1 => ?_)
  · exact absurd ((irr_eq _).symm.trans hc1) (by decide)
  first | replace hc1 := ne_of_beq_false ((irr_eq _).symm.trans hc1) | simp only [irr_eq, beq_iff_eq, beq_eq_false_iff_ne, ne_eq, decide_eq_true_eq, decide_eq_false_iff_not] at hc1
  refine k_skip ?_
  refine SeqK.nx (by assumption) ?_
  refine k_seq (fun Q K => ?_)
  refine k_lin (fun W K => ?_)
  refine l_op 0 rfl rfl rfl rfl rfl ?_
  refine l_op 2 rfl rfl rfl rfl rfl ?_
  refine l_op 2 rfl rfl rfl rfl rfl ?_
  (first | refine l_ld0 rfl rfl rfl rfl rfl (by assumption) ?_ | refine l_ldj rfl rfl rfl rfl rfl rfl (by assumption) rfl ?_ | refine l_ldc F 0 rfl rfl rfl rfl rfl rfl rfl ?_ | refine l_ldc F 1 rfl rfl rfl rfl rfl rfl rfl ?_ | refine l_ldc F 2 rfl rfl rfl rfl rfl rfl rfl ?_ | refine l_ldc F 3 rfl rfl rfl rfl rfl rfl rfl ?_ | refine l_ldc F 4 rfl rfl rfl rfl rfl rfl rfl ?_ | refine l_ldc F 5 rfl rfl rfl rfl rfl rfl rfl ?_ | refine l_ldc F 6 rfl rfl rfl rfl rfl rfl rfl ?_ | refine l_ldc F 7 rfl rfl rfl rfl rfl rfl rfl ?_ | refine l_ldc F 8 rfl rfl rfl rfl rfl rfl rfl ?_ | refine l_ldc F 9 rfl rfl rfl rfl rfl rfl rfl ?_ | refine l_lda rfl rfl rfl rfl rfl (by assumption) ?_ | refine l_ldca F 0 rfl rfl rfl rfl rfl rfl rfl ?_ | refine l_ldca F 1 rfl rfl rfl rfl rfl rfl rfl ?_ | refine l_ldca F 2 rfl rfl rfl rfl rfl rfl rfl ?_ | refine l_ldca F 3 rfl rfl rfl rfl rfl rfl rfl ?_ | refine l_ldca F 4 rfl rfl rfl rfl rfl rfl rfl ?_ | refine l_ldca F 5 rfl rfl rfl rfl rfl rfl rfl ?_ | refine l_ldca F 6 rfl rfl rfl rfl rfl rfl rfl ?_ | refine l_ldca F 7 rfl rfl rfl rfl rfl rfl rfl ?_ | refine l_ldca F 8 rfl rfl rfl rfl rfl rfl rfl ?_ | refine l_ldca F 9 rfl rfl rfl rfl rfl rfl rfl ?_ | refine l_ldo F (by assumption) rfl rfl rfl rfl rfl rfl ?_ | refine l_ldoa F (by assumption) rfl rfl rfl rfl rfl rfl ?_)
  first | refine l_op 2 rfl rfl rfl rfl rfl ?_ | refine l_ln rfl rfl rfl rfl ?_
  (first | refine l_c64 rfl rfl rfl (by omega) rfl ?_ | refine l_c32 rfl rfl rfl (by omega) rfl ?_ | refine l_c8 rfl rfl rfl (by omega) rfl ?_ | refine l_cu64 rfl rfl rfl (by omega) rfl ?_ | refine l_str rfl rfl rfl rfl rfl (F.old (by assumption)) ?_ | refine l_str rfl rfl rfl rfl rfl (F.has 0 rfl) ?_ | refine l_str rfl rfl rfl rfl rfl (F.has 1 rfl) ?_ | refine l_str rfl rfl rfl rfl rfl (F.has 2 rfl) ?_ | refine l_op 16 rfl rfl rfl rfl rfl ?_)
  refine l_op 0 rfl rfl rfl rfl rfl ?_
  refine l_nil (WK.nx (by assumption) ?_)
  refine SeqK.nx (by assumption) ?_
  refine k_ret ?_
  refine FunK.rt (by assumption) rfl ?_
  -- leaf 1
  exact ⟨(), rfl, F, trivial⟩

theorem ready0 {on : Bool} {n size : Int} (h : n ≤ size) : readyR on n 0 size = 102 ∧ on = false ∨ readyR on n 0 size = 0 ∧ on = true := by
  unfold readyR
  cases on
  · exact .inl ⟨rfl, rfl⟩
  · right; rw [if_neg (by decide), if_neg (by omega)]; exact ⟨rfl, rfl⟩
theorem leave_call {O : Nat → Prop} {σ : AState} {m n c : Nat} {a : Option Addr} {size fp : Int} {on : Bool} {bs : List Int} (F : Facts O σ σ [cel m (sC a n c size fp on), own a n c 1 (u8l bs)]) (hn : n ≤ 1000000) (hns : n ≤ size) (hf : on = true → 0 ≤ fp ∧ fp ≤ n) :
    SCall Try.prog O 23 [.pointer (some ⟨m, 0, none⟩)] σ (Ret O σ (fun (y : Int × Nat × Int × Bool) => .int .i64 y.1) (fun y => [cel m (sC a y.2.1 c size y.2.2.1 y.2.2.2), own a y.2.1 c 1 (u8l (bs.take y.2.1))]) fun y => on = false ∧ y.1 = 102 ∧ y.2.1 = n ∧ y.2.2.1 = fp ∧ y.2.2.2 = false ∨ on = true ∧ y.1 = 0 ∧ (y.2.1 : Int) = fp ∧ y.2.2.1 = 0 ∧ y.2.2.2 = false) := by
  have hbl := F.len8 1 rfl
  refine k_fun Try.func23 rfl (m := 27) rfl fun B hD Q K => ?_
  refine k_seq (fun Q K => ?_)
  refine k_lin (fun W K => ?_)
  refine l_op 0 rfl rfl rfl rfl rfl ?_
  refine l_nil (WK.nx (by assumption) ?_)
  refine SeqK.nx (by assumption) ?_
  refine k_seq (fun Q K => ?_)
  refine k_seq (fun Q K => ?_)
  refine k_lin (fun W K => ?_)
  refine l_op 0 rfl rfl rfl rfl rfl ?_
  refine l_callp F rfl rfl (by kernel_rfl) rfl rfl (ready_call (F.cel0 0 rfl) (Old.pure (F.has 1 rfl)) (by omega) (by omega)) (fun _ s F _ => ?_)
  have hr := ready0 (on := on) hns
  (try dsimp only [n_1, n_2, n_3, n_4, List.append_nil, pk, n_5, n_6] at F)
  refine l_op 0 rfl rfl rfl rfl rfl ?_
  refine l_nil (WK.nx (by assumption) ?_)
  refine SeqK.nx (by assumption) ?_
  refine k_seq (fun Q K => ?_)
  refine k_lin (fun W K => ?_)
  refine l_op 0 rfl rfl rfl rfl rfl ?_
  refine l_cmp rfl rfl rfl rfl ?_
  refine l_nil (WK.nx (by assumption) ?_)
  refine SeqK.nx (by assumption) ?_
  refine l_cond rfl rfl (fun hc1 => ?_) (fun hc1 => ?_)
  · first | replace hc1 := bne_iff_ne.1 ((irr_eq _).symm.trans hc1) | simp only [irr_eq, bne_iff_ne, bne_eq_false_iff_eq, ne_eq, decide_eq_true_eq, decide_eq_false_iff_not, Bool.not_eq_true', Bool.not_eq_false'] at hc1
    refine k_seq (fun Q K => ?_)
    refine k_lin (fun W K => ?_)
    refine l_op 0 rfl rfl rfl rfl rfl ?_
    refine l_op 0 rfl rfl rfl rfl rfl ?_
    refine l_nil (WK.nx (by assumption) ?_)
    refine SeqK.nx (by assumption) ?_
    refine k_ret ?_
    refine SeqK.rt (by assumption) ?_
    refine FunK.rt (by assumption) rfl ?_
    -- leaf 1
    rcases hr with ⟨h1, h2⟩ | ⟨h1, h2⟩
    · have F' := F.pick [0, 1] (by decide)
      have e : bs.take n = bs := List.take_of_length_le (by omega)
      exact ⟨(102, n, fp, on), congrArg (Value.int .i64) h1, by show Facts O σ s [cel m (sC a n c size fp on), own a n c 1 (u8l (bs.take n))]; rw [e]; exact F', .inl ⟨h2, rfl, rfl, rfl, h2⟩⟩
    · omega
  first | replace hc1 := bne_eq_false_iff_eq.1 ((irr_eq _).symm.trans hc1) | simp only [irr_eq, bne_iff_ne, bne_eq_false_iff_eq, ne_eq, decide_eq_true_eq, decide_eq_false_iff_not, Bool.not_eq_true', Bool.not_eq_false'] at hc1
  have hon : on = true := by rcases hr with h | h; omega; exact h.2
  have hf' := hf hon
  refine k_skip ?_
  refine SeqK.nx (by assumption) ?_
  refine k_seq (fun Q K => ?_)
  refine k_linm [0, 1, 2, 3, 4, 5, 7, 8, 9, 6, 10, 11, 12, 13, 14, 15, 16, 17, 18, 19, 20] mixed (by kernel_rfl) (fun W K => ?_)
  try have hpS := F.pns
  refine l_op 0 rfl rfl rfl rfl rfl ?_
  refine l_op 0 rfl rfl rfl rfl rfl ?_
  refine l_op 0 rfl rfl rfl rfl rfl ?_
  refine l_op 0 rfl rfl rfl rfl rfl ?_
  refine l_op 2 rfl rfl rfl rfl rfl ?_
  refine l_op 2 rfl rfl rfl rfl rfl ?_
  refine l_op 0 rfl rfl rfl rfl rfl ?_
  refine l_op 2 rfl rfl rfl rfl rfl ?_
  refine l_op 2 rfl rfl rfl rfl rfl ?_
  (first | refine l_ld0 rfl rfl rfl rfl rfl (by assumption) ?_ | refine l_ldj rfl rfl rfl rfl rfl rfl (by assumption) rfl ?_ | refine l_ldc F 0 rfl rfl rfl rfl rfl rfl rfl ?_ | refine l_ldc F 1 rfl rfl rfl rfl rfl rfl rfl ?_ | refine l_ldc F 2 rfl rfl rfl rfl rfl rfl rfl ?_ | refine l_ldc F 3 rfl rfl rfl rfl rfl rfl rfl ?_ | refine l_ldc F 4 rfl rfl rfl rfl rfl rfl rfl ?_ | refine l_ldc F 5 rfl rfl rfl rfl rfl rfl rfl ?_ | refine l_ldc F 6 rfl rfl rfl rfl rfl rfl rfl ?_ | refine l_ldc F 7 rfl rfl rfl rfl rfl rfl rfl ?_ | refine l_ldc F 8 rfl rfl rfl rfl rfl rfl rfl ?_ | refine l_ldc F 9 rfl rfl rfl rfl rfl rfl rfl ?_ | refine l_lda rfl rfl rfl rfl rfl (by assumption) ?_ | refine l_ldca F 0 rfl rfl rfl rfl rfl rfl rfl ?_ | refine l_ldca F 1 rfl rfl rfl rfl rfl rfl rfl ?_ | refine l_ldca F 2 rfl rfl rfl rfl rfl rfl rfl ?_ | refine l_ldca F 3 rfl rfl rfl rfl rfl rfl rfl ?_ | refine l_ldca F 4 rfl rfl rfl rfl rfl rfl rfl ?_ | refine l_ldca F 5 rfl rfl rfl rfl rfl rfl rfl ?_ | refine l_ldca F 6 rfl rfl rfl rfl rfl rfl rfl ?_ | refine l_ldca F 7 rfl rfl rfl rfl rfl rfl rfl ?_ | refine l_ldca F 8 rfl rfl rfl rfl rfl rfl rfl ?_ | refine l_ldca F 9 rfl rfl rfl rfl rfl rfl rfl ?_ | refine l_ldo F (by assumption) rfl rfl rfl rfl rfl rfl ?_ | refine l_ldoa F (by assumption) rfl rfl rfl rfl rfl rfl ?_)
  first | have hpS := PnS.add hpS hS13 | have hpS := PnS.add hpS (OldC.sf (by assumption)) | skip
  (first | refine l_ld0 rfl rfl rfl rfl rfl (by assumption) ?_ | refine l_ldj rfl rfl rfl rfl rfl rfl (by assumption) rfl ?_ | refine l_ldc F 0 rfl rfl rfl rfl rfl rfl rfl ?_ | refine l_ldc F 1 rfl rfl rfl rfl rfl rfl rfl ?_ | refine l_ldc F 2 rfl rfl rfl rfl rfl rfl rfl ?_ | refine l_ldc F 3 rfl rfl rfl rfl rfl rfl rfl ?_ | refine l_ldc F 4 rfl rfl rfl rfl rfl rfl rfl ?_ | refine l_ldc F 5 rfl rfl rfl rfl rfl rfl rfl ?_ | refine l_ldc F 6 rfl rfl rfl rfl rfl rfl rfl ?_ | refine l_ldc F 7 rfl rfl rfl rfl rfl rfl rfl ?_ | refine l_ldc F 8 rfl rfl rfl rfl rfl rfl rfl ?_ | refine l_ldc F 9 rfl rfl rfl rfl rfl rfl rfl ?_ | refine l_lda rfl rfl rfl rfl rfl (by assumption) ?_ | refine l_ldca F 0 rfl rfl rfl rfl rfl rfl rfl ?_ | refine l_ldca F 1 rfl rfl rfl rfl rfl rfl rfl ?_ | refine l_ldca F 2 rfl rfl rfl rfl rfl rfl rfl ?_ | refine l_ldca F 3 rfl rfl rfl rfl rfl rfl rfl ?_ | refine l_ldca F 4 rfl rfl rfl rfl rfl rfl rfl ?_ | refine l_ldca F 5 rfl rfl rfl rfl rfl rfl rfl ?_ | refine l_ldca F 6 rfl rfl rfl rfl rfl rfl rfl ?_ | refine l_ldca F 7 rfl rfl rfl rfl rfl rfl rfl ?_ | refine l_ldca F 8 rfl rfl rfl rfl rfl rfl rfl ?_ | refine l_ldca F 9 rfl rfl rfl rfl rfl rfl rfl ?_ | refine l_ldo F (by assumption) rfl rfl rfl rfl rfl rfl ?_ | refine l_ldoa F (by assumption) rfl rfl rfl rfl rfl rfl ?_)
  first | have hpS := PnS.add hpS hS17 | have hpS := PnS.add hpS (OldC.sf (by assumption)) | skip
  first | refine l_slh rfl rfl rfl rfl rfl ⟨rfl, _, _, rfl, by omega, rfl⟩ (F.old (by assumption)) (by omega) ?_ | refine l_slh rfl rfl rfl rfl rfl ⟨rfl, _, _, rfl, by omega, rfl⟩ (F.has 0 rfl) (by omega) ?_ | refine l_slh rfl rfl rfl rfl rfl ⟨rfl, _, _, rfl, by omega, rfl⟩ (F.has 1 rfl) (by omega) ?_ | refine l_slh rfl rfl rfl rfl rfl ⟨rfl, _, _, rfl, by omega, rfl⟩ (F.has 2 rfl) (by omega) ?_ | refine l_slh rfl rfl rfl rfl rfl ⟨rfl, _, _, rfl, by omega, rfl⟩ (F.has 3 rfl) (by omega) ?_
  refine l_op 2 rfl rfl rfl rfl rfl ?_
  refine l_op 2 rfl rfl rfl rfl rfl ?_
  refine l_rs (by kernel_rfl) ?_
  (first | refine l_stc F 0 rfl rfl rfl rfl rfl rfl rfl rfl rfl hD (fun s F => ?_) | refine l_stc F 1 rfl rfl rfl rfl rfl rfl rfl rfl rfl hD (fun s F => ?_) | refine l_stc F 2 rfl rfl rfl rfl rfl rfl rfl rfl rfl hD (fun s F => ?_) | refine l_stc F 3 rfl rfl rfl rfl rfl rfl rfl rfl rfl hD (fun s F => ?_) | refine l_stc F 4 rfl rfl rfl rfl rfl rfl rfl rfl rfl hD (fun s F => ?_) | refine l_stc F 5 rfl rfl rfl rfl rfl rfl rfl rfl rfl hD (fun s F => ?_) | refine l_stc F 6 rfl rfl rfl rfl rfl rfl rfl rfl rfl hD (fun s F => ?_) | refine l_stc F 7 rfl rfl rfl rfl rfl rfl rfl rfl rfl hD (fun s F => ?_) | refine l_stc F 8 rfl rfl rfl rfl rfl rfl rfl rfl rfl hD (fun s F => ?_) | refine l_stc F 9 rfl rfl rfl rfl rfl rfl rfl rfl rfl hD (fun s F => ?_) | refine l_stca F 0 rfl rfl rfl rfl rfl rfl rfl rfl rfl rfl hD rfl (fun s F => ?_) | refine l_stca F 1 rfl rfl rfl rfl rfl rfl rfl rfl rfl rfl hD rfl (fun s F => ?_) | refine l_stca F 2 rfl rfl rfl rfl rfl rfl rfl rfl rfl rfl hD rfl (fun s F => ?_) | refine l_stca F 3 rfl rfl rfl rfl rfl rfl rfl rfl rfl rfl hD rfl (fun s F => ?_) | refine l_stca F 4 rfl rfl rfl rfl rfl rfl rfl rfl rfl rfl hD rfl (fun s F => ?_) | refine l_stca F 5 rfl rfl rfl rfl rfl rfl rfl rfl rfl rfl hD rfl (fun s F => ?_) | refine l_stca F 6 rfl rfl rfl rfl rfl rfl rfl rfl rfl rfl hD rfl (fun s F => ?_) | refine l_stca F 7 rfl rfl rfl rfl rfl rfl rfl rfl rfl rfl hD rfl (fun s F => ?_) | refine l_stca F 8 rfl rfl rfl rfl rfl rfl rfl rfl rfl rfl hD rfl (fun s F => ?_) | refine l_stca F 9 rfl rfl rfl rfl rfl rfl rfl rfl rfl rfl hD rfl (fun s F => ?_) | refine l_stoi F 0 rfl rfl rfl rfl rfl rfl rfl (by omega) hD (fun s F => ?_) | refine l_stoi F 1 rfl rfl rfl rfl rfl rfl rfl (by omega) hD (fun s F => ?_) | refine l_stoi F 2 rfl rfl rfl rfl rfl rfl rfl (by omega) hD (fun s F => ?_) | refine l_stoi F 3 rfl rfl rfl rfl rfl rfl rfl (by omega) hD (fun s F => ?_) | refine l_stoi F 4 rfl rfl rfl rfl rfl rfl rfl (by omega) hD (fun s F => ?_) | refine l_stoi F 5 rfl rfl rfl rfl rfl rfl rfl (by omega) hD (fun s F => ?_) | refine l_stoi F 6 rfl rfl rfl rfl rfl rfl rfl (by omega) hD (fun s F => ?_) | refine l_stoi F 7 rfl rfl rfl rfl rfl rfl rfl (by omega) hD (fun s F => ?_) | refine l_stoi F 8 rfl rfl rfl rfl rfl rfl rfl (by omega) hD (fun s F => ?_) | refine l_stoi F 9 rfl rfl rfl rfl rfl rfl rfl (by omega) hD (fun s F => ?_))
  (try dsimp only [n_1, n_2, n_3, n_4, List.append_nil, pk, n_5, n_6] at F)
  refine l_op 2 rfl rfl rfl rfl rfl ?_
  refine l_op 2 rfl rfl rfl rfl rfl ?_
  refine l_rs (by kernel_rfl) ?_
  (first | refine l_stc F 0 rfl rfl rfl rfl rfl rfl rfl rfl rfl hD (fun s F => ?_) | refine l_stc F 1 rfl rfl rfl rfl rfl rfl rfl rfl rfl hD (fun s F => ?_) | refine l_stc F 2 rfl rfl rfl rfl rfl rfl rfl rfl rfl hD (fun s F => ?_) | refine l_stc F 3 rfl rfl rfl rfl rfl rfl rfl rfl rfl hD (fun s F => ?_) | refine l_stc F 4 rfl rfl rfl rfl rfl rfl rfl rfl rfl hD (fun s F => ?_) | refine l_stc F 5 rfl rfl rfl rfl rfl rfl rfl rfl rfl hD (fun s F => ?_) | refine l_stc F 6 rfl rfl rfl rfl rfl rfl rfl rfl rfl hD (fun s F => ?_) | refine l_stc F 7 rfl rfl rfl rfl rfl rfl rfl rfl rfl hD (fun s F => ?_) | refine l_stc F 8 rfl rfl rfl rfl rfl rfl rfl rfl rfl hD (fun s F => ?_) | refine l_stc F 9 rfl rfl rfl rfl rfl rfl rfl rfl rfl hD (fun s F => ?_) | refine l_stca F 0 rfl rfl rfl rfl rfl rfl rfl rfl rfl rfl hD rfl (fun s F => ?_) | refine l_stca F 1 rfl rfl rfl rfl rfl rfl rfl rfl rfl rfl hD rfl (fun s F => ?_) | refine l_stca F 2 rfl rfl rfl rfl rfl rfl rfl rfl rfl rfl hD rfl (fun s F => ?_) | refine l_stca F 3 rfl rfl rfl rfl rfl rfl rfl rfl rfl rfl hD rfl (fun s F => ?_) | refine l_stca F 4 rfl rfl rfl rfl rfl rfl rfl rfl rfl rfl hD rfl (fun s F => ?_) | refine l_stca F 5 rfl rfl rfl rfl rfl rfl rfl rfl rfl rfl hD rfl (fun s F => ?_) | refine l_stca F 6 rfl rfl rfl rfl rfl rfl rfl rfl rfl rfl hD rfl (fun s F => ?_) | refine l_stca F 7 rfl rfl rfl rfl rfl rfl rfl rfl rfl rfl hD rfl (fun s F => ?_) | refine l_stca F 8 rfl rfl rfl rfl rfl rfl rfl rfl rfl rfl hD rfl (fun s F => ?_) | refine l_stca F 9 rfl rfl rfl rfl rfl rfl rfl rfl rfl rfl hD rfl (fun s F => ?_) | refine l_stoi F 0 rfl rfl rfl rfl rfl rfl rfl (by omega) hD (fun s F => ?_) | refine l_stoi F 1 rfl rfl rfl rfl rfl rfl rfl (by omega) hD (fun s F => ?_) | refine l_stoi F 2 rfl rfl rfl rfl rfl rfl rfl (by omega) hD (fun s F => ?_) | refine l_stoi F 3 rfl rfl rfl rfl rfl rfl rfl (by omega) hD (fun s F => ?_) | refine l_stoi F 4 rfl rfl rfl rfl rfl rfl rfl (by omega) hD (fun s F => ?_) | refine l_stoi F 5 rfl rfl rfl rfl rfl rfl rfl (by omega) hD (fun s F => ?_) | refine l_stoi F 6 rfl rfl rfl rfl rfl rfl rfl (by omega) hD (fun s F => ?_) | refine l_stoi F 7 rfl rfl rfl rfl rfl rfl rfl (by omega) hD (fun s F => ?_) | refine l_stoi F 8 rfl rfl rfl rfl rfl rfl rfl (by omega) hD (fun s F => ?_) | refine l_stoi F 9 rfl rfl rfl rfl rfl rfl rfl (by omega) hD (fun s F => ?_))
  (try dsimp only [n_1, n_2, n_3, n_4, List.append_nil, pk, n_5, n_6] at F)
  refine l_op 2 rfl rfl rfl rfl rfl ?_
  refine l_op 2 rfl rfl rfl rfl rfl ?_
  refine l_rs (by kernel_rfl) ?_
  (first | refine l_stc F 0 rfl rfl rfl rfl rfl rfl rfl rfl rfl hD (fun s F => ?_) | refine l_stc F 1 rfl rfl rfl rfl rfl rfl rfl rfl rfl hD (fun s F => ?_) | refine l_stc F 2 rfl rfl rfl rfl rfl rfl rfl rfl rfl hD (fun s F => ?_) | refine l_stc F 3 rfl rfl rfl rfl rfl rfl rfl rfl rfl hD (fun s F => ?_) | refine l_stc F 4 rfl rfl rfl rfl rfl rfl rfl rfl rfl hD (fun s F => ?_) | refine l_stc F 5 rfl rfl rfl rfl rfl rfl rfl rfl rfl hD (fun s F => ?_) | refine l_stc F 6 rfl rfl rfl rfl rfl rfl rfl rfl rfl hD (fun s F => ?_) | refine l_stc F 7 rfl rfl rfl rfl rfl rfl rfl rfl rfl hD (fun s F => ?_) | refine l_stc F 8 rfl rfl rfl rfl rfl rfl rfl rfl rfl hD (fun s F => ?_) | refine l_stc F 9 rfl rfl rfl rfl rfl rfl rfl rfl rfl hD (fun s F => ?_) | refine l_stca F 0 rfl rfl rfl rfl rfl rfl rfl rfl rfl rfl hD rfl (fun s F => ?_) | refine l_stca F 1 rfl rfl rfl rfl rfl rfl rfl rfl rfl rfl hD rfl (fun s F => ?_) | refine l_stca F 2 rfl rfl rfl rfl rfl rfl rfl rfl rfl rfl hD rfl (fun s F => ?_) | refine l_stca F 3 rfl rfl rfl rfl rfl rfl rfl rfl rfl rfl hD rfl (fun s F => ?_) | refine l_stca F 4 rfl rfl rfl rfl rfl rfl rfl rfl rfl rfl hD rfl (fun s F => ?_) | refine l_stca F 5 rfl rfl rfl rfl rfl rfl rfl rfl rfl rfl hD rfl (fun s F => ?_) | refine l_stca F 6 rfl rfl rfl rfl rfl rfl rfl rfl rfl rfl hD rfl (fun s F => ?_) | refine l_stca F 7 rfl rfl rfl rfl rfl rfl rfl rfl rfl rfl hD rfl (fun s F => ?_) | refine l_stca F 8 rfl rfl rfl rfl rfl rfl rfl rfl rfl rfl hD rfl (fun s F => ?_) | refine l_stca F 9 rfl rfl rfl rfl rfl rfl rfl rfl rfl rfl hD rfl (fun s F => ?_) | refine l_stoi F 0 rfl rfl rfl rfl rfl rfl rfl (by omega) hD (fun s F => ?_) | refine l_stoi F 1 rfl rfl rfl rfl rfl rfl rfl (by omega) hD (fun s F => ?_) | refine l_stoi F 2 rfl rfl rfl rfl rfl rfl rfl (by omega) hD (fun s F => ?_) | refine l_stoi F 3 rfl rfl rfl rfl rfl rfl rfl (by omega) hD (fun s F => ?_) | refine l_stoi F 4 rfl rfl rfl rfl rfl rfl rfl (by omega) hD (fun s F => ?_) | refine l_stoi F 5 rfl rfl rfl rfl rfl rfl rfl (by omega) hD (fun s F => ?_) | refine l_stoi F 6 rfl rfl rfl rfl rfl rfl rfl (by omega) hD (fun s F => ?_) | refine l_stoi F 7 rfl rfl rfl rfl rfl rfl rfl (by omega) hD (fun s F => ?_) | refine l_stoi F 8 rfl rfl rfl rfl rfl rfl rfl (by omega) hD (fun s F => ?_) | refine l_stoi F 9 rfl rfl rfl rfl rfl rfl rfl (by omega) hD (fun s F => ?_))
  (try dsimp only [n_1, n_2, n_3, n_4, List.append_nil, pk, n_5, n_6] at F)
  refine l_nil (WK.nx (by assumption) ?_)
  refine SeqK.nx (by assumption) ?_
  refine k_seq (fun Q K => ?_)
  refine k_lin (fun W K => ?_)
  refine l_op 0 rfl rfl rfl rfl rfl ?_
  refine l_nil (WK.nx (by assumption) ?_)
  refine SeqK.nx (by assumption) ?_
  refine k_ret ?_
  refine FunK.rt (by assumption) rfl ?_
  -- leaf 2
  have F := Facts.upto (F := F) 1 rfl (h := fp.toNat) (by omega)
  (try dsimp only [n_1, n_2, n_3, n_4, List.append_nil, pk, n_5, n_6] at F)
  rw [Nat.mul_one, ← List.map_take] at F
  exact ⟨(0, fp.toNat, 0, false), rfl, F.pick [0, 1] (by decide), .inr ⟨hon, rfl, by show ((fp.toNat : Nat) : Int) = fp; omega, rfl, rfl⟩⟩

/-- What an Unstub tells and leaves: three numbers, the error, how many bytes, the frame, is there one. -/
def UnsR (bs : List Int) (n : Nat) (fp : Int) (on : Bool) (x y z e : Int) (n' : Nat) (fp' : Int) (on' : Bool) : Prop :=
  on = true ∧ (n - (fp + at4 bs fp)) / 4 < 4 ∧ x = 0 ∧ y = 0 ∧ z = 0 ∧ e = 101 ∧ n' = n ∧ fp' = fp ∧ on' = on ∨
  on = false ∧ n = 0 ∧ x = 0 ∧ y = 0 ∧ z = 0 ∧ e = 5 ∧ n' = n ∧ fp' = fp ∧ on' = on ∨
  on = true ∧ 4 ≤ (n - (fp + at4 bs fp)) / 4 ∧ at4 bs (n - 16 + 12) ≠ fp ∧ x = 0 ∧ y = 0 ∧ z = 0 ∧ e = 102 ∧ n' = n ∧ fp' = fp ∧ on' = on ∨
  (on = true ∧ 4 ≤ (n - (fp + at4 bs fp)) / 4 ∧ at4 bs (n - 16 + 12) = fp ∨ on = false ∧ 16 ≤ n) ∧ x = at4 bs (n - 16) ∧ y = at4 bs (n - 16 + 4) ∧ z = at4 bs (n - 16 + 8) ∧ e = 0 ∧ n' = n - 16 ∧ fp' = at4 bs (n - 16 + 12) ∧ on' = true
abbrev unsV (y : Int × Int × Int × Int × Nat × Int × Bool) : Value := .tuple #[.int .u32 y.1, .int .u32 y.2.1, .int .u32 y.2.2.1, .int .i64 y.2.2.2.1]
abbrev unsF (m c : Nat) (a : Option Addr) (size : Int) (bs : List Int) (y : Int × Int × Int × Int × Nat × Int × Bool) : List Fact := [cel m (sC a y.2.2.2.2.1 c size y.2.2.2.2.2.1 y.2.2.2.2.2.2), own a y.2.2.2.2.1 c 1 (u8l (bs.take y.2.2.2.2.1))]
abbrev unsP (bs : List Int) (n : Nat) (fp : Int) (on : Bool) (y : Int × Int × Int × Int × Nat × Int × Bool) : Prop := UnsR bs n fp on y.1 y.2.1 y.2.2.1 y.2.2.2.1 y.2.2.2.2.1 y.2.2.2.2.2.1 y.2.2.2.2.2.2
theorem unstub_call {O : Nat → Prop} {σ : AState} {m n c : Nat} {a : Option Addr} {size fp : Int} {on : Bool} {bs : List Int} (F : Facts O σ σ [cel m (sC a n c size fp on), own a n c 1 (u8l bs)]) (hB : Bytes bs) (hn : n ≤ 1000000) (hf : 0 ≤ fp ∧ fp ≤ 4294967295) (hon : on = true → fp + at4 bs fp ≤ n) (hoff : on = false → n = 0 ∨ 16 ≤ n) :
    SCall Try.prog O 24 [.pointer (some ⟨m, 0, none⟩)] σ (Ret O σ unsV (unsF m c a size bs) (unsP bs n fp on)) := by
  have hbl := F.len8 1 rfl
  have hb := at4_bd hB fp
  have hbA := at4_bd hB ((n : Int) - 16)
  have hbB := at4_bd hB ((n : Int) - 16 + 4)
  have hbC := at4_bd hB ((n : Int) - 16 + 8)
  have hbt : bs.take n = bs := List.take_of_length_le (by omega)
  cases on
  · have hoff' := hoff rfl
    refine k_fun Try.func24 rfl (m := 91) rfl fun B hD Q K => ?_
    refine k_seq (fun Q K => ?_)
    refine k_lin (fun W K => ?_)
    refine l_op 0 rfl rfl rfl rfl rfl ?_
    refine l_op 0 rfl rfl rfl rfl rfl ?_
    refine l_op 0 rfl rfl rfl rfl rfl ?_
    refine l_op 0 rfl rfl rfl rfl rfl ?_
    refine l_nil (WK.nx (by assumption) ?_)
    refine SeqK.nx (by assumption) ?_
    refine k_seq (fun Q K => ?_)
    refine k_block (fun Q K => ?_)
    refine k_seq (fun Q K => ?_)
    refine k_lin (fun W K => ?_)
    refine l_op 0 rfl rfl rfl rfl rfl ?_
    refine l_cmp rfl rfl rfl rfl ?_
    refine l_op 0 rfl rfl rfl rfl rfl ?_
    refine l_nil (WK.nx (by assumption) ?_)
    refine SeqK.nx (by assumption) ?_
    refine l_cond rfl rfl (fun hc1 => ?_) (fun hc1 => ?_)
    · exact absurd ((irr_eq _).symm.trans hc1) (by decide)
    first | replace hc1 := ne_of_beq_false ((irr_eq _).symm.trans hc1) | simp only [irr_eq, beq_iff_eq, beq_eq_false_iff_ne, ne_eq, decide_eq_true_eq, decide_eq_false_iff_not] at hc1
    refine k_seq (fun Q K => ?_)
    refine k_lin (fun W K => ?_)
    refine l_op 0 rfl rfl rfl rfl rfl ?_
    refine l_op 2 rfl rfl rfl rfl rfl ?_
    refine l_op 2 rfl rfl rfl rfl rfl ?_
    (first | refine l_ld0 rfl rfl rfl rfl rfl (by assumption) ?_ | refine l_ldj rfl rfl rfl rfl rfl rfl (by assumption) rfl ?_ | refine l_ldc F 0 rfl rfl rfl rfl rfl rfl rfl ?_ | refine l_ldc F 1 rfl rfl rfl rfl rfl rfl rfl ?_ | refine l_ldc F 2 rfl rfl rfl rfl rfl rfl rfl ?_ | refine l_ldc F 3 rfl rfl rfl rfl rfl rfl rfl ?_ | refine l_ldc F 4 rfl rfl rfl rfl rfl rfl rfl ?_ | refine l_ldc F 5 rfl rfl rfl rfl rfl rfl rfl ?_ | refine l_ldc F 6 rfl rfl rfl rfl rfl rfl rfl ?_ | refine l_ldc F 7 rfl rfl rfl rfl rfl rfl rfl ?_ | refine l_ldc F 8 rfl rfl rfl rfl rfl rfl rfl ?_ | refine l_ldc F 9 rfl rfl rfl rfl rfl rfl rfl ?_ | refine l_lda rfl rfl rfl rfl rfl (by assumption) ?_ | refine l_ldca F 0 rfl rfl rfl rfl rfl rfl rfl ?_ | refine l_ldca F 1 rfl rfl rfl rfl rfl rfl rfl ?_ | refine l_ldca F 2 rfl rfl rfl rfl rfl rfl rfl ?_ | refine l_ldca F 3 rfl rfl rfl rfl rfl rfl rfl ?_ | refine l_ldca F 4 rfl rfl rfl rfl rfl rfl rfl ?_ | refine l_ldca F 5 rfl rfl rfl rfl rfl rfl rfl ?_ | refine l_ldca F 6 rfl rfl rfl rfl rfl rfl rfl ?_ | refine l_ldca F 7 rfl rfl rfl rfl rfl rfl rfl ?_ | refine l_ldca F 8 rfl rfl rfl rfl rfl rfl rfl ?_ | refine l_ldca F 9 rfl rfl rfl rfl rfl rfl rfl ?_ | refine l_ldo F (by assumption) rfl rfl rfl rfl rfl rfl ?_ | refine l_ldoa F (by assumption) rfl rfl rfl rfl rfl rfl ?_)
    refine l_op 0 rfl rfl rfl rfl rfl ?_
    refine l_guard rfl rfl rfl (fun hc2 => ?_) (fun hc2 => ?_)
    · cases hc2
    try simp only [irr_eq, beq_iff_eq, bne_iff_ne, beq_eq_false_iff_ne, bne_eq_false_iff_eq, ne_eq, decide_eq_true_eq, decide_eq_false_iff_not, Bool.not_eq_true', Bool.not_eq_false'] at hc2
    refine l_s rfl rfl ?_
    refine l_s rfl rfl ?_
    refine l_s rfl rfl ?_
    refine l_op 2 rfl rfl rfl rfl rfl ?_
    refine l_op 0 rfl rfl rfl rfl rfl ?_
    refine l_nil (WK.nx (by assumption) ?_)
    refine SeqK.nx (by assumption) ?_
    first | refine e_cond_f rfl rfl rfl ?_ | refine e_cond_f rfl rfl (by rw [irr_eq]; first | exact beq_eq_false_iff_ne.2 (by assumption) | exact decide_eq_false (by assumption) | exact bne_eq_false_iff_eq.2 (by assumption)) ?_
    refine k_seq (fun Q K => ?_)
    refine k_lin (fun W K => ?_)
    refine l_op 0 rfl rfl rfl rfl rfl ?_
    refine l_op 2 rfl rfl rfl rfl rfl ?_
    refine l_op 2 rfl rfl rfl rfl rfl ?_
    (first | refine l_ld0 rfl rfl rfl rfl rfl (by assumption) ?_ | refine l_ldj rfl rfl rfl rfl rfl rfl (by assumption) rfl ?_ | refine l_ldc F 0 rfl rfl rfl rfl rfl rfl rfl ?_ | refine l_ldc F 1 rfl rfl rfl rfl rfl rfl rfl ?_ | refine l_ldc F 2 rfl rfl rfl rfl rfl rfl rfl ?_ | refine l_ldc F 3 rfl rfl rfl rfl rfl rfl rfl ?_ | refine l_ldc F 4 rfl rfl rfl rfl rfl rfl rfl ?_ | refine l_ldc F 5 rfl rfl rfl rfl rfl rfl rfl ?_ | refine l_ldc F 6 rfl rfl rfl rfl rfl rfl rfl ?_ | refine l_ldc F 7 rfl rfl rfl rfl rfl rfl rfl ?_ | refine l_ldc F 8 rfl rfl rfl rfl rfl rfl rfl ?_ | refine l_ldc F 9 rfl rfl rfl rfl rfl rfl rfl ?_ | refine l_lda rfl rfl rfl rfl rfl (by assumption) ?_ | refine l_ldca F 0 rfl rfl rfl rfl rfl rfl rfl ?_ | refine l_ldca F 1 rfl rfl rfl rfl rfl rfl rfl ?_ | refine l_ldca F 2 rfl rfl rfl rfl rfl rfl rfl ?_ | refine l_ldca F 3 rfl rfl rfl rfl rfl rfl rfl ?_ | refine l_ldca F 4 rfl rfl rfl rfl rfl rfl rfl ?_ | refine l_ldca F 5 rfl rfl rfl rfl rfl rfl rfl ?_ | refine l_ldca F 6 rfl rfl rfl rfl rfl rfl rfl ?_ | refine l_ldca F 7 rfl rfl rfl rfl rfl rfl rfl ?_ | refine l_ldca F 8 rfl rfl rfl rfl rfl rfl rfl ?_ | refine l_ldca F 9 rfl rfl rfl rfl rfl rfl rfl ?_ | refine l_ldo F (by assumption) rfl rfl rfl rfl rfl rfl ?_ | refine l_ldoa F (by assumption) rfl rfl rfl rfl rfl rfl ?_)
    refine l_op 2 rfl rfl rfl rfl rfl ?_
    refine l_op 0 rfl rfl rfl rfl rfl ?_
    refine l_guard rfl rfl rfl (fun hc3 => ?_) (fun hc3 => ?_)
    · try simp only [irr_eq, beq_iff_eq, bne_iff_ne, beq_eq_false_iff_ne, bne_eq_false_iff_eq, ne_eq, decide_eq_true_eq, decide_eq_false_iff_not, Bool.not_eq_true', Bool.not_eq_false'] at hc3
      refine l_op 0 rfl rfl rfl rfl rfl ?_
      refine l_op 2 rfl rfl rfl rfl rfl ?_
      refine l_op 2 rfl rfl rfl rfl rfl ?_
      (first | refine l_ld0 rfl rfl rfl rfl rfl (by assumption) ?_ | refine l_ldj rfl rfl rfl rfl rfl rfl (by assumption) rfl ?_ | refine l_ldc F 0 rfl rfl rfl rfl rfl rfl rfl ?_ | refine l_ldc F 1 rfl rfl rfl rfl rfl rfl rfl ?_ | refine l_ldc F 2 rfl rfl rfl rfl rfl rfl rfl ?_ | refine l_ldc F 3 rfl rfl rfl rfl rfl rfl rfl ?_ | refine l_ldc F 4 rfl rfl rfl rfl rfl rfl rfl ?_ | refine l_ldc F 5 rfl rfl rfl rfl rfl rfl rfl ?_ | refine l_ldc F 6 rfl rfl rfl rfl rfl rfl rfl ?_ | refine l_ldc F 7 rfl rfl rfl rfl rfl rfl rfl ?_ | refine l_ldc F 8 rfl rfl rfl rfl rfl rfl rfl ?_ | refine l_ldc F 9 rfl rfl rfl rfl rfl rfl rfl ?_ | refine l_lda rfl rfl rfl rfl rfl (by assumption) ?_ | refine l_ldca F 0 rfl rfl rfl rfl rfl rfl rfl ?_ | refine l_ldca F 1 rfl rfl rfl rfl rfl rfl rfl ?_ | refine l_ldca F 2 rfl rfl rfl rfl rfl rfl rfl ?_ | refine l_ldca F 3 rfl rfl rfl rfl rfl rfl rfl ?_ | refine l_ldca F 4 rfl rfl rfl rfl rfl rfl rfl ?_ | refine l_ldca F 5 rfl rfl rfl rfl rfl rfl rfl ?_ | refine l_ldca F 6 rfl rfl rfl rfl rfl rfl rfl ?_ | refine l_ldca F 7 rfl rfl rfl rfl rfl rfl rfl ?_ | refine l_ldca F 8 rfl rfl rfl rfl rfl rfl rfl ?_ | refine l_ldca F 9 rfl rfl rfl rfl rfl rfl rfl ?_ | refine l_ldo F (by assumption) rfl rfl rfl rfl rfl rfl ?_ | refine l_ldoa F (by assumption) rfl rfl rfl rfl rfl rfl ?_)
      first | refine l_op 2 rfl rfl rfl rfl rfl ?_ | refine l_ln rfl rfl rfl rfl ?_
      refine l_cmp rfl rfl rfl rfl ?_
      refine l_op 2 rfl rfl rfl rfl rfl ?_
      refine l_op 0 rfl rfl rfl rfl rfl ?_
      refine l_nil (WK.nx (by assumption) ?_)
      refine SeqK.nx (by assumption) ?_
      refine l_cond rfl rfl (fun hc4 => ?_) (fun hc4 => ?_)
      · first | replace hc4 := eq_of_beq ((irr_eq _).symm.trans hc4) | simp only [irr_eq, beq_iff_eq, beq_eq_false_iff_ne, ne_eq, decide_eq_true_eq, decide_eq_false_iff_not] at hc4
        refine k_seq (fun Q K => ?_)
        refine k_lin (fun W K => ?_)
        refine l_op 0 rfl rfl rfl rfl rfl ?_
        refine l_op 0 rfl rfl rfl rfl rfl ?_
        refine l_op 0 rfl rfl rfl rfl rfl ?_
        refine l_op 0 rfl rfl rfl rfl rfl ?_
        refine l_nil (WK.nx (by assumption) ?_)
        refine SeqK.nx (by assumption) ?_
        refine k_ret ?_
        refine BlkK.rt (by assumption) ?_
        refine SeqK.rt (by assumption) ?_
        refine FunK.rt (by assumption) rfl ?_
        -- leaf 1
        have F' := F.pick [0, 1] (by decide)
        exact ⟨(0, 0, 0, 5, n, fp, false), rfl, by dsimp only [unsF]; rw [hbt]; exact F', .inr (.inl ⟨rfl, by omega, rfl, rfl, rfl, rfl, rfl, rfl, rfl⟩)⟩
      first | replace hc4 := ne_of_beq_false ((irr_eq _).symm.trans hc4) | simp only [irr_eq, beq_iff_eq, beq_eq_false_iff_ne, ne_eq, decide_eq_true_eq, decide_eq_false_iff_not] at hc4
      refine k_skip ?_
      refine BlkK.nx (by assumption) ?_
      refine SeqK.nx (by assumption) ?_
      refine k_seq (fun Q K => ?_)
      refine k_lin (fun W K => ?_)
      refine l_op 0 rfl rfl rfl rfl rfl ?_
      refine l_op 2 rfl rfl rfl rfl rfl ?_
      refine l_op 2 rfl rfl rfl rfl rfl ?_
      (first | refine l_ld0 rfl rfl rfl rfl rfl (by assumption) ?_ | refine l_ldj rfl rfl rfl rfl rfl rfl (by assumption) rfl ?_ | refine l_ldc F 0 rfl rfl rfl rfl rfl rfl rfl ?_ | refine l_ldc F 1 rfl rfl rfl rfl rfl rfl rfl ?_ | refine l_ldc F 2 rfl rfl rfl rfl rfl rfl rfl ?_ | refine l_ldc F 3 rfl rfl rfl rfl rfl rfl rfl ?_ | refine l_ldc F 4 rfl rfl rfl rfl rfl rfl rfl ?_ | refine l_ldc F 5 rfl rfl rfl rfl rfl rfl rfl ?_ | refine l_ldc F 6 rfl rfl rfl rfl rfl rfl rfl ?_ | refine l_ldc F 7 rfl rfl rfl rfl rfl rfl rfl ?_ | refine l_ldc F 8 rfl rfl rfl rfl rfl rfl rfl ?_ | refine l_ldc F 9 rfl rfl rfl rfl rfl rfl rfl ?_ | refine l_lda rfl rfl rfl rfl rfl (by assumption) ?_ | refine l_ldca F 0 rfl rfl rfl rfl rfl rfl rfl ?_ | refine l_ldca F 1 rfl rfl rfl rfl rfl rfl rfl ?_ | refine l_ldca F 2 rfl rfl rfl rfl rfl rfl rfl ?_ | refine l_ldca F 3 rfl rfl rfl rfl rfl rfl rfl ?_ | refine l_ldca F 4 rfl rfl rfl rfl rfl rfl rfl ?_ | refine l_ldca F 5 rfl rfl rfl rfl rfl rfl rfl ?_ | refine l_ldca F 6 rfl rfl rfl rfl rfl rfl rfl ?_ | refine l_ldca F 7 rfl rfl rfl rfl rfl rfl rfl ?_ | refine l_ldca F 8 rfl rfl rfl rfl rfl rfl rfl ?_ | refine l_ldca F 9 rfl rfl rfl rfl rfl rfl rfl ?_ | refine l_ldo F (by assumption) rfl rfl rfl rfl rfl rfl ?_ | refine l_ldoa F (by assumption) rfl rfl rfl rfl rfl rfl ?_)
      first | refine l_op 2 rfl rfl rfl rfl rfl ?_ | refine l_ln rfl rfl rfl rfl ?_
      (first | refine l_a64 rfl rfl rfl (by omega) rfl ?_ | refine l_a32 rfl rfl rfl (by omega) rfl ?_ | refine l_a8 rfl rfl rfl (by omega) rfl ?_ | refine l_au64 rfl rfl rfl (by omega) rfl ?_ | refine l_op 1 rfl rfl rfl rfl rfl ?_)
      refine l_op 0 rfl rfl rfl rfl rfl ?_
      refine l_nil (WK.nx (by assumption) ?_)
      refine SeqK.nx (by assumption) ?_
      refine k_seq (fun Q K => ?_)
      refine k_seq (fun Q K => ?_)
      refine k_linm [0, 1, 2, 3, 4, 5, 6, 7, 9, 10, 11, 12, 8, 13, 14] mixed (by kernel_rfl) (fun W K => ?_)
      try have hpS := F.pns
      refine l_op 0 rfl rfl rfl rfl rfl ?_
      refine l_op 2 rfl rfl rfl rfl rfl ?_
      refine l_op 2 rfl rfl rfl rfl rfl ?_
      (first | refine l_ld0 rfl rfl rfl rfl rfl (by assumption) ?_ | refine l_ldj rfl rfl rfl rfl rfl rfl (by assumption) rfl ?_ | refine l_ldc F 0 rfl rfl rfl rfl rfl rfl rfl ?_ | refine l_ldc F 1 rfl rfl rfl rfl rfl rfl rfl ?_ | refine l_ldc F 2 rfl rfl rfl rfl rfl rfl rfl ?_ | refine l_ldc F 3 rfl rfl rfl rfl rfl rfl rfl ?_ | refine l_ldc F 4 rfl rfl rfl rfl rfl rfl rfl ?_ | refine l_ldc F 5 rfl rfl rfl rfl rfl rfl rfl ?_ | refine l_ldc F 6 rfl rfl rfl rfl rfl rfl rfl ?_ | refine l_ldc F 7 rfl rfl rfl rfl rfl rfl rfl ?_ | refine l_ldc F 8 rfl rfl rfl rfl rfl rfl rfl ?_ | refine l_ldc F 9 rfl rfl rfl rfl rfl rfl rfl ?_ | refine l_lda rfl rfl rfl rfl rfl (by assumption) ?_ | refine l_ldca F 0 rfl rfl rfl rfl rfl rfl rfl ?_ | refine l_ldca F 1 rfl rfl rfl rfl rfl rfl rfl ?_ | refine l_ldca F 2 rfl rfl rfl rfl rfl rfl rfl ?_ | refine l_ldca F 3 rfl rfl rfl rfl rfl rfl rfl ?_ | refine l_ldca F 4 rfl rfl rfl rfl rfl rfl rfl ?_ | refine l_ldca F 5 rfl rfl rfl rfl rfl rfl rfl ?_ | refine l_ldca F 6 rfl rfl rfl rfl rfl rfl rfl ?_ | refine l_ldca F 7 rfl rfl rfl rfl rfl rfl rfl ?_ | refine l_ldca F 8 rfl rfl rfl rfl rfl rfl rfl ?_ | refine l_ldca F 9 rfl rfl rfl rfl rfl rfl rfl ?_ | refine l_ldo F (by assumption) rfl rfl rfl rfl rfl rfl ?_ | refine l_ldoa F (by assumption) rfl rfl rfl rfl rfl rfl ?_)
      first | have hpS := PnS.add hpS hS41 | have hpS := PnS.add hpS (OldC.sf (by assumption)) | skip
      refine l_op 0 rfl rfl rfl rfl rfl ?_
      refine l_guard rfl rfl rfl (fun hc5 => ?_) (fun hc5 => ?_)
      · cases hc5
      try simp only [irr_eq, beq_iff_eq, bne_iff_ne, beq_eq_false_iff_ne, bne_eq_false_iff_eq, ne_eq, decide_eq_true_eq, decide_eq_false_iff_not, Bool.not_eq_true', Bool.not_eq_false'] at hc5
      refine l_s rfl rfl ?_
      refine l_s rfl rfl ?_
      refine l_s rfl rfl ?_
      refine l_s rfl rfl ?_
      refine l_s rfl rfl ?_
      refine l_s rfl rfl ?_
      refine l_s rfl rfl ?_
      refine l_s rfl rfl ?_
      refine l_s rfl rfl ?_
      refine l_op 2 rfl rfl rfl rfl rfl ?_
      refine l_nil (WK.nx (by assumption) ?_)
      refine SeqK.nx (by assumption) ?_
      first | refine e_cond_f rfl rfl rfl ?_ | refine e_cond_f rfl rfl (by rw [irr_eq]; first | exact beq_eq_false_iff_ne.2 (by assumption) | exact decide_eq_false (by assumption) | exact bne_eq_false_iff_eq.2 (by assumption)) ?_
      refine k_skip ?_
      refine SeqK.nx (by assumption) ?_
      refine k_seq (fun Q K => ?_)
      refine k_lin (fun W K => ?_)
      refine l_op 0 rfl rfl rfl rfl rfl ?_
      refine l_op 0 rfl rfl rfl rfl rfl ?_
      refine l_callp F rfl rfl (by kernel_rfl) rfl rfl (at_call (F.cel0 0 rfl) (Old.pure (F.has 1 rfl)) hB (by omega)) (fun _ s F _ => ?_)
      (try dsimp only [n_1, n_2, n_3, n_4, List.append_nil, pk, n_5, n_6] at F)
      (first | refine l_c64 rfl rfl rfl (by omega) rfl ?_ | refine l_c32 rfl rfl rfl (by omega) rfl ?_ | refine l_c8 rfl rfl rfl (by omega) rfl ?_ | refine l_cu64 rfl rfl rfl (by omega) rfl ?_ | refine l_str rfl rfl rfl rfl rfl (F.old (by assumption)) ?_ | refine l_str rfl rfl rfl rfl rfl (F.has 0 rfl) ?_ | refine l_str rfl rfl rfl rfl rfl (F.has 1 rfl) ?_ | refine l_str rfl rfl rfl rfl rfl (F.has 2 rfl) ?_ | refine l_op 16 rfl rfl rfl rfl rfl ?_)
      refine l_op 0 rfl rfl rfl rfl rfl ?_
      refine l_op 0 rfl rfl rfl rfl rfl ?_
      (first | refine l_a64 rfl rfl rfl (by omega) rfl ?_ | refine l_a32 rfl rfl rfl (by omega) rfl ?_ | refine l_a8 rfl rfl rfl (by omega) rfl ?_ | refine l_au64 rfl rfl rfl (by omega) rfl ?_ | refine l_op 1 rfl rfl rfl rfl rfl ?_)
      refine l_callp F rfl rfl (by kernel_rfl) rfl rfl (at_call (F.cel0 0 rfl) (Old.pure (F.has 1 rfl)) hB (by omega)) (fun _ s F _ => ?_)
      (try dsimp only [n_1, n_2, n_3, n_4, List.append_nil, pk, n_5, n_6] at F)
      (first | refine l_c64 rfl rfl rfl (by omega) rfl ?_ | refine l_c32 rfl rfl rfl (by omega) rfl ?_ | refine l_c8 rfl rfl rfl (by omega) rfl ?_ | refine l_cu64 rfl rfl rfl (by omega) rfl ?_ | refine l_str rfl rfl rfl rfl rfl (F.old (by assumption)) ?_ | refine l_str rfl rfl rfl rfl rfl (F.has 0 rfl) ?_ | refine l_str rfl rfl rfl rfl rfl (F.has 1 rfl) ?_ | refine l_str rfl rfl rfl rfl rfl (F.has 2 rfl) ?_ | refine l_op 16 rfl rfl rfl rfl rfl ?_)
      refine l_op 0 rfl rfl rfl rfl rfl ?_
      refine l_op 0 rfl rfl rfl rfl rfl ?_
      (first | refine l_a64 rfl rfl rfl (by omega) rfl ?_ | refine l_a32 rfl rfl rfl (by omega) rfl ?_ | refine l_a8 rfl rfl rfl (by omega) rfl ?_ | refine l_au64 rfl rfl rfl (by omega) rfl ?_ | refine l_op 1 rfl rfl rfl rfl rfl ?_)
      refine l_callp F rfl rfl (by kernel_rfl) rfl rfl (at_call (F.cel0 0 rfl) (Old.pure (F.has 1 rfl)) hB (by omega)) (fun _ s F _ => ?_)
      (try dsimp only [n_1, n_2, n_3, n_4, List.append_nil, pk, n_5, n_6] at F)
      (first | refine l_c64 rfl rfl rfl (by omega) rfl ?_ | refine l_c32 rfl rfl rfl (by omega) rfl ?_ | refine l_c8 rfl rfl rfl (by omega) rfl ?_ | refine l_cu64 rfl rfl rfl (by omega) rfl ?_ | refine l_str rfl rfl rfl rfl rfl (F.old (by assumption)) ?_ | refine l_str rfl rfl rfl rfl rfl (F.has 0 rfl) ?_ | refine l_str rfl rfl rfl rfl rfl (F.has 1 rfl) ?_ | refine l_str rfl rfl rfl rfl rfl (F.has 2 rfl) ?_ | refine l_op 16 rfl rfl rfl rfl rfl ?_)
      refine l_op 0 rfl rfl rfl rfl rfl ?_
      refine l_op 0 rfl rfl rfl rfl rfl ?_
      refine l_op 0 rfl rfl rfl rfl rfl ?_
      refine l_nil (WK.nx (by assumption) ?_)
      refine SeqK.nx (by assumption) ?_
      refine k_seq (fun Q K => ?_)
      refine k_lin (fun W K => ?_)
      refine l_op 0 rfl rfl rfl rfl rfl ?_
      refine l_op 0 rfl rfl rfl rfl rfl ?_
      refine l_op 0 rfl rfl rfl rfl rfl ?_
      refine l_op 0 rfl rfl rfl rfl rfl ?_
      (first | refine l_a64 rfl rfl rfl (by omega) rfl ?_ | refine l_a32 rfl rfl rfl (by omega) rfl ?_ | refine l_a8 rfl rfl rfl (by omega) rfl ?_ | refine l_au64 rfl rfl rfl (by omega) rfl ?_ | refine l_op 1 rfl rfl rfl rfl rfl ?_)
      refine l_callp F rfl rfl (by kernel_rfl) rfl rfl (at_call (F.cel0 0 rfl) (Old.pure (F.has 1 rfl)) hB (by omega)) (fun _ s F _ => ?_)
      (try dsimp only [n_1, n_2, n_3, n_4, List.append_nil, pk, n_5, n_6] at F)
      refine l_op 2 rfl rfl rfl rfl rfl ?_
      refine l_op 2 rfl rfl rfl rfl rfl ?_
      (first | refine l_stc F 0 rfl rfl rfl rfl rfl rfl rfl rfl rfl hD (fun s F => ?_) | refine l_stc F 1 rfl rfl rfl rfl rfl rfl rfl rfl rfl hD (fun s F => ?_) | refine l_stc F 2 rfl rfl rfl rfl rfl rfl rfl rfl rfl hD (fun s F => ?_) | refine l_stc F 3 rfl rfl rfl rfl rfl rfl rfl rfl rfl hD (fun s F => ?_) | refine l_stc F 4 rfl rfl rfl rfl rfl rfl rfl rfl rfl hD (fun s F => ?_) | refine l_stc F 5 rfl rfl rfl rfl rfl rfl rfl rfl rfl hD (fun s F => ?_) | refine l_stc F 6 rfl rfl rfl rfl rfl rfl rfl rfl rfl hD (fun s F => ?_) | refine l_stc F 7 rfl rfl rfl rfl rfl rfl rfl rfl rfl hD (fun s F => ?_) | refine l_stc F 8 rfl rfl rfl rfl rfl rfl rfl rfl rfl hD (fun s F => ?_) | refine l_stc F 9 rfl rfl rfl rfl rfl rfl rfl rfl rfl hD (fun s F => ?_) | refine l_stca F 0 rfl rfl rfl rfl rfl rfl rfl rfl rfl rfl hD rfl (fun s F => ?_) | refine l_stca F 1 rfl rfl rfl rfl rfl rfl rfl rfl rfl rfl hD rfl (fun s F => ?_) | refine l_stca F 2 rfl rfl rfl rfl rfl rfl rfl rfl rfl rfl hD rfl (fun s F => ?_) | refine l_stca F 3 rfl rfl rfl rfl rfl rfl rfl rfl rfl rfl hD rfl (fun s F => ?_) | refine l_stca F 4 rfl rfl rfl rfl rfl rfl rfl rfl rfl rfl hD rfl (fun s F => ?_) | refine l_stca F 5 rfl rfl rfl rfl rfl rfl rfl rfl rfl rfl hD rfl (fun s F => ?_) | refine l_stca F 6 rfl rfl rfl rfl rfl rfl rfl rfl rfl rfl hD rfl (fun s F => ?_) | refine l_stca F 7 rfl rfl rfl rfl rfl rfl rfl rfl rfl rfl hD rfl (fun s F => ?_) | refine l_stca F 8 rfl rfl rfl rfl rfl rfl rfl rfl rfl rfl hD rfl (fun s F => ?_) | refine l_stca F 9 rfl rfl rfl rfl rfl rfl rfl rfl rfl rfl hD rfl (fun s F => ?_) | refine l_stoi F 0 rfl rfl rfl rfl rfl rfl rfl (by omega) hD (fun s F => ?_) | refine l_stoi F 1 rfl rfl rfl rfl rfl rfl rfl (by omega) hD (fun s F => ?_) | refine l_stoi F 2 rfl rfl rfl rfl rfl rfl rfl (by omega) hD (fun s F => ?_) | refine l_stoi F 3 rfl rfl rfl rfl rfl rfl rfl (by omega) hD (fun s F => ?_) | refine l_stoi F 4 rfl rfl rfl rfl rfl rfl rfl (by omega) hD (fun s F => ?_) | refine l_stoi F 5 rfl rfl rfl rfl rfl rfl rfl (by omega) hD (fun s F => ?_) | refine l_stoi F 6 rfl rfl rfl rfl rfl rfl rfl (by omega) hD (fun s F => ?_) | refine l_stoi F 7 rfl rfl rfl rfl rfl rfl rfl (by omega) hD (fun s F => ?_) | refine l_stoi F 8 rfl rfl rfl rfl rfl rfl rfl (by omega) hD (fun s F => ?_) | refine l_stoi F 9 rfl rfl rfl rfl rfl rfl rfl (by omega) hD (fun s F => ?_))
      (try dsimp only [n_1, n_2, n_3, n_4, List.append_nil, pk, n_5, n_6] at F)
      refine l_op 2 rfl rfl rfl rfl rfl ?_
      refine l_op 2 rfl rfl rfl rfl rfl ?_
      (first | refine l_stc F 0 rfl rfl rfl rfl rfl rfl rfl rfl rfl hD (fun s F => ?_) | refine l_stc F 1 rfl rfl rfl rfl rfl rfl rfl rfl rfl hD (fun s F => ?_) | refine l_stc F 2 rfl rfl rfl rfl rfl rfl rfl rfl rfl hD (fun s F => ?_) | refine l_stc F 3 rfl rfl rfl rfl rfl rfl rfl rfl rfl hD (fun s F => ?_) | refine l_stc F 4 rfl rfl rfl rfl rfl rfl rfl rfl rfl hD (fun s F => ?_) | refine l_stc F 5 rfl rfl rfl rfl rfl rfl rfl rfl rfl hD (fun s F => ?_) | refine l_stc F 6 rfl rfl rfl rfl rfl rfl rfl rfl rfl hD (fun s F => ?_) | refine l_stc F 7 rfl rfl rfl rfl rfl rfl rfl rfl rfl hD (fun s F => ?_) | refine l_stc F 8 rfl rfl rfl rfl rfl rfl rfl rfl rfl hD (fun s F => ?_) | refine l_stc F 9 rfl rfl rfl rfl rfl rfl rfl rfl rfl hD (fun s F => ?_) | refine l_stca F 0 rfl rfl rfl rfl rfl rfl rfl rfl rfl rfl hD rfl (fun s F => ?_) | refine l_stca F 1 rfl rfl rfl rfl rfl rfl rfl rfl rfl rfl hD rfl (fun s F => ?_) | refine l_stca F 2 rfl rfl rfl rfl rfl rfl rfl rfl rfl rfl hD rfl (fun s F => ?_) | refine l_stca F 3 rfl rfl rfl rfl rfl rfl rfl rfl rfl rfl hD rfl (fun s F => ?_) | refine l_stca F 4 rfl rfl rfl rfl rfl rfl rfl rfl rfl rfl hD rfl (fun s F => ?_) | refine l_stca F 5 rfl rfl rfl rfl rfl rfl rfl rfl rfl rfl hD rfl (fun s F => ?_) | refine l_stca F 6 rfl rfl rfl rfl rfl rfl rfl rfl rfl rfl hD rfl (fun s F => ?_) | refine l_stca F 7 rfl rfl rfl rfl rfl rfl rfl rfl rfl rfl hD rfl (fun s F => ?_) | refine l_stca F 8 rfl rfl rfl rfl rfl rfl rfl rfl rfl rfl hD rfl (fun s F => ?_) | refine l_stca F 9 rfl rfl rfl rfl rfl rfl rfl rfl rfl rfl hD rfl (fun s F => ?_) | refine l_stoi F 0 rfl rfl rfl rfl rfl rfl rfl (by omega) hD (fun s F => ?_) | refine l_stoi F 1 rfl rfl rfl rfl rfl rfl rfl (by omega) hD (fun s F => ?_) | refine l_stoi F 2 rfl rfl rfl rfl rfl rfl rfl (by omega) hD (fun s F => ?_) | refine l_stoi F 3 rfl rfl rfl rfl rfl rfl rfl (by omega) hD (fun s F => ?_) | refine l_stoi F 4 rfl rfl rfl rfl rfl rfl rfl (by omega) hD (fun s F => ?_) | refine l_stoi F 5 rfl rfl rfl rfl rfl rfl rfl (by omega) hD (fun s F => ?_) | refine l_stoi F 6 rfl rfl rfl rfl rfl rfl rfl (by omega) hD (fun s F => ?_) | refine l_stoi F 7 rfl rfl rfl rfl rfl rfl rfl (by omega) hD (fun s F => ?_) | refine l_stoi F 8 rfl rfl rfl rfl rfl rfl rfl (by omega) hD (fun s F => ?_) | refine l_stoi F 9 rfl rfl rfl rfl rfl rfl rfl (by omega) hD (fun s F => ?_))
      (try dsimp only [n_1, n_2, n_3, n_4, List.append_nil, pk, n_5, n_6] at F)
      refine l_nil (WK.nx (by assumption) ?_)
      refine SeqK.nx (by assumption) ?_
      refine k_seq (fun Q K => ?_)
      refine k_lin (fun W K => ?_)
      refine l_op 0 rfl rfl rfl rfl rfl ?_
      refine l_op 0 rfl rfl rfl rfl rfl ?_
      refine l_op 2 rfl rfl rfl rfl rfl ?_
      refine l_op 2 rfl rfl rfl rfl rfl ?_
      (first | refine l_ld0 rfl rfl rfl rfl rfl (by assumption) ?_ | refine l_ldj rfl rfl rfl rfl rfl rfl (by assumption) rfl ?_ | refine l_ldc F 0 rfl rfl rfl rfl rfl rfl rfl ?_ | refine l_ldc F 1 rfl rfl rfl rfl rfl rfl rfl ?_ | refine l_ldc F 2 rfl rfl rfl rfl rfl rfl rfl ?_ | refine l_ldc F 3 rfl rfl rfl rfl rfl rfl rfl ?_ | refine l_ldc F 4 rfl rfl rfl rfl rfl rfl rfl ?_ | refine l_ldc F 5 rfl rfl rfl rfl rfl rfl rfl ?_ | refine l_ldc F 6 rfl rfl rfl rfl rfl rfl rfl ?_ | refine l_ldc F 7 rfl rfl rfl rfl rfl rfl rfl ?_ | refine l_ldc F 8 rfl rfl rfl rfl rfl rfl rfl ?_ | refine l_ldc F 9 rfl rfl rfl rfl rfl rfl rfl ?_ | refine l_lda rfl rfl rfl rfl rfl (by assumption) ?_ | refine l_ldca F 0 rfl rfl rfl rfl rfl rfl rfl ?_ | refine l_ldca F 1 rfl rfl rfl rfl rfl rfl rfl ?_ | refine l_ldca F 2 rfl rfl rfl rfl rfl rfl rfl ?_ | refine l_ldca F 3 rfl rfl rfl rfl rfl rfl rfl ?_ | refine l_ldca F 4 rfl rfl rfl rfl rfl rfl rfl ?_ | refine l_ldca F 5 rfl rfl rfl rfl rfl rfl rfl ?_ | refine l_ldca F 6 rfl rfl rfl rfl rfl rfl rfl ?_ | refine l_ldca F 7 rfl rfl rfl rfl rfl rfl rfl ?_ | refine l_ldca F 8 rfl rfl rfl rfl rfl rfl rfl ?_ | refine l_ldca F 9 rfl rfl rfl rfl rfl rfl rfl ?_ | refine l_ldo F (by assumption) rfl rfl rfl rfl rfl rfl ?_ | refine l_ldoa F (by assumption) rfl rfl rfl rfl rfl rfl ?_)
      refine l_op 0 rfl rfl rfl rfl rfl ?_
      first | refine l_slh rfl rfl rfl rfl rfl ⟨rfl, _, _, rfl, by omega, rfl⟩ (F.old (by assumption)) (by omega) ?_ | refine l_slh rfl rfl rfl rfl rfl ⟨rfl, _, _, rfl, by omega, rfl⟩ (F.has 0 rfl) (by omega) ?_ | refine l_slh rfl rfl rfl rfl rfl ⟨rfl, _, _, rfl, by omega, rfl⟩ (F.has 1 rfl) (by omega) ?_ | refine l_slh rfl rfl rfl rfl rfl ⟨rfl, _, _, rfl, by omega, rfl⟩ (F.has 2 rfl) (by omega) ?_ | refine l_slh rfl rfl rfl rfl rfl ⟨rfl, _, _, rfl, by omega, rfl⟩ (F.has 3 rfl) (by omega) ?_
      refine l_op 2 rfl rfl rfl rfl rfl ?_
      refine l_op 2 rfl rfl rfl rfl rfl ?_
      (first | refine l_stc F 0 rfl rfl rfl rfl rfl rfl rfl rfl rfl hD (fun s F => ?_) | refine l_stc F 1 rfl rfl rfl rfl rfl rfl rfl rfl rfl hD (fun s F => ?_) | refine l_stc F 2 rfl rfl rfl rfl rfl rfl rfl rfl rfl hD (fun s F => ?_) | refine l_stc F 3 rfl rfl rfl rfl rfl rfl rfl rfl rfl hD (fun s F => ?_) | refine l_stc F 4 rfl rfl rfl rfl rfl rfl rfl rfl rfl hD (fun s F => ?_) | refine l_stc F 5 rfl rfl rfl rfl rfl rfl rfl rfl rfl hD (fun s F => ?_) | refine l_stc F 6 rfl rfl rfl rfl rfl rfl rfl rfl rfl hD (fun s F => ?_) | refine l_stc F 7 rfl rfl rfl rfl rfl rfl rfl rfl rfl hD (fun s F => ?_) | refine l_stc F 8 rfl rfl rfl rfl rfl rfl rfl rfl rfl hD (fun s F => ?_) | refine l_stc F 9 rfl rfl rfl rfl rfl rfl rfl rfl rfl hD (fun s F => ?_) | refine l_stca F 0 rfl rfl rfl rfl rfl rfl rfl rfl rfl rfl hD rfl (fun s F => ?_) | refine l_stca F 1 rfl rfl rfl rfl rfl rfl rfl rfl rfl rfl hD rfl (fun s F => ?_) | refine l_stca F 2 rfl rfl rfl rfl rfl rfl rfl rfl rfl rfl hD rfl (fun s F => ?_) | refine l_stca F 3 rfl rfl rfl rfl rfl rfl rfl rfl rfl rfl hD rfl (fun s F => ?_) | refine l_stca F 4 rfl rfl rfl rfl rfl rfl rfl rfl rfl rfl hD rfl (fun s F => ?_) | refine l_stca F 5 rfl rfl rfl rfl rfl rfl rfl rfl rfl rfl hD rfl (fun s F => ?_) | refine l_stca F 6 rfl rfl rfl rfl rfl rfl rfl rfl rfl rfl hD rfl (fun s F => ?_) | refine l_stca F 7 rfl rfl rfl rfl rfl rfl rfl rfl rfl rfl hD rfl (fun s F => ?_) | refine l_stca F 8 rfl rfl rfl rfl rfl rfl rfl rfl rfl rfl hD rfl (fun s F => ?_) | refine l_stca F 9 rfl rfl rfl rfl rfl rfl rfl rfl rfl rfl hD rfl (fun s F => ?_) | refine l_stoi F 0 rfl rfl rfl rfl rfl rfl rfl (by omega) hD (fun s F => ?_) | refine l_stoi F 1 rfl rfl rfl rfl rfl rfl rfl (by omega) hD (fun s F => ?_) | refine l_stoi F 2 rfl rfl rfl rfl rfl rfl rfl (by omega) hD (fun s F => ?_) | refine l_stoi F 3 rfl rfl rfl rfl rfl rfl rfl (by omega) hD (fun s F => ?_) | refine l_stoi F 4 rfl rfl rfl rfl rfl rfl rfl (by omega) hD (fun s F => ?_) | refine l_stoi F 5 rfl rfl rfl rfl rfl rfl rfl (by omega) hD (fun s F => ?_) | refine l_stoi F 6 rfl rfl rfl rfl rfl rfl rfl (by omega) hD (fun s F => ?_) | refine l_stoi F 7 rfl rfl rfl rfl rfl rfl rfl (by omega) hD (fun s F => ?_) | refine l_stoi F 8 rfl rfl rfl rfl rfl rfl rfl (by omega) hD (fun s F => ?_) | refine l_stoi F 9 rfl rfl rfl rfl rfl rfl rfl (by omega) hD (fun s F => ?_))
      (try dsimp only [n_1, n_2, n_3, n_4, List.append_nil, pk, n_5, n_6] at F)
      refine l_nil (WK.nx (by assumption) ?_)
      refine SeqK.nx (by assumption) ?_
      refine k_seq (fun Q K => ?_)
      refine k_lin (fun W K => ?_)
      refine l_op 0 rfl rfl rfl rfl rfl ?_
      refine l_op 0 rfl rfl rfl rfl rfl ?_
      refine l_op 0 rfl rfl rfl rfl rfl ?_
      refine l_op 0 rfl rfl rfl rfl rfl ?_
      refine l_op 0 rfl rfl rfl rfl rfl ?_
      refine l_op 0 rfl rfl rfl rfl rfl ?_
      refine l_op 0 rfl rfl rfl rfl rfl ?_
      refine l_nil (WK.nx (by assumption) ?_)
      refine SeqK.nx (by assumption) ?_
      refine k_ret ?_
      refine FunK.rt (by assumption) rfl ?_
      -- leaf 2
      have F := Facts.upto (F := F) 1 rfl (h := n - 16) (by omega)
      (try dsimp only [n_1, n_2, n_3, n_4, List.append_nil, pk, n_5, n_6] at F)
      rw [Nat.mul_one, ← List.map_take] at F
      have e1 : ((n : Int) - 16).toNat = n - 16 := by omega
      rw [e1] at F
      exact ⟨(_, _, _, 0, n - 16, at4 bs (n - 16 + 12), true), rfl, F.pick [0, 1] (by decide), .inr (.inr (.inr ⟨.inr ⟨rfl, by omega⟩, rfl, rfl, rfl, rfl, rfl, rfl, rfl⟩))⟩
    cases hc3
  · have hon' := hon rfl
    have hcr : countR true bs n fp = (n - (fp + at4 bs fp)) / 4 := rfl
    refine k_fun Try.func24 rfl (m := 91) rfl fun B hD Q K => ?_
    refine k_seq (fun Q K => ?_)
    refine k_lin (fun W K => ?_)
    refine l_op 0 rfl rfl rfl rfl rfl ?_
    refine l_op 0 rfl rfl rfl rfl rfl ?_
    refine l_op 0 rfl rfl rfl rfl rfl ?_
    refine l_op 0 rfl rfl rfl rfl rfl ?_
    refine l_nil (WK.nx (by assumption) ?_)
    refine SeqK.nx (by assumption) ?_
    refine k_seq (fun Q K => ?_)
    refine k_block (fun Q K => ?_)
    refine k_seq (fun Q K => ?_)
    refine k_lin (fun W K => ?_)
    refine l_op 0 rfl rfl rfl rfl rfl ?_
    refine l_cmp rfl rfl rfl rfl ?_
    refine l_op 0 rfl rfl rfl rfl rfl ?_
    refine l_nil (WK.nx (by assumption) ?_)
    refine SeqK.nx (by assumption) ?_
    refine l_cond rfl rfl (fun hc1 => ?_) (fun hc1 => ?_)
    · exact absurd ((irr_eq _).symm.trans hc1) (by decide)
    first | replace hc1 := ne_of_beq_false ((irr_eq _).symm.trans hc1) | simp only [irr_eq, beq_iff_eq, beq_eq_false_iff_ne, ne_eq, decide_eq_true_eq, decide_eq_false_iff_not] at hc1
    refine k_seq (fun Q K => ?_)
    refine k_lin (fun W K => ?_)
    refine l_op 0 rfl rfl rfl rfl rfl ?_
    refine l_op 2 rfl rfl rfl rfl rfl ?_
    refine l_op 2 rfl rfl rfl rfl rfl ?_
    (first | refine l_ld0 rfl rfl rfl rfl rfl (by assumption) ?_ | refine l_ldj rfl rfl rfl rfl rfl rfl (by assumption) rfl ?_ | refine l_ldc F 0 rfl rfl rfl rfl rfl rfl rfl ?_ | refine l_ldc F 1 rfl rfl rfl rfl rfl rfl rfl ?_ | refine l_ldc F 2 rfl rfl rfl rfl rfl rfl rfl ?_ | refine l_ldc F 3 rfl rfl rfl rfl rfl rfl rfl ?_ | refine l_ldc F 4 rfl rfl rfl rfl rfl rfl rfl ?_ | refine l_ldc F 5 rfl rfl rfl rfl rfl rfl rfl ?_ | refine l_ldc F 6 rfl rfl rfl rfl rfl rfl rfl ?_ | refine l_ldc F 7 rfl rfl rfl rfl rfl rfl rfl ?_ | refine l_ldc F 8 rfl rfl rfl rfl rfl rfl rfl ?_ | refine l_ldc F 9 rfl rfl rfl rfl rfl rfl rfl ?_ | refine l_lda rfl rfl rfl rfl rfl (by assumption) ?_ | refine l_ldca F 0 rfl rfl rfl rfl rfl rfl rfl ?_ | refine l_ldca F 1 rfl rfl rfl rfl rfl rfl rfl ?_ | refine l_ldca F 2 rfl rfl rfl rfl rfl rfl rfl ?_ | refine l_ldca F 3 rfl rfl rfl rfl rfl rfl rfl ?_ | refine l_ldca F 4 rfl rfl rfl rfl rfl rfl rfl ?_ | refine l_ldca F 5 rfl rfl rfl rfl rfl rfl rfl ?_ | refine l_ldca F 6 rfl rfl rfl rfl rfl rfl rfl ?_ | refine l_ldca F 7 rfl rfl rfl rfl rfl rfl rfl ?_ | refine l_ldca F 8 rfl rfl rfl rfl rfl rfl rfl ?_ | refine l_ldca F 9 rfl rfl rfl rfl rfl rfl rfl ?_ | refine l_ldo F (by assumption) rfl rfl rfl rfl rfl rfl ?_ | refine l_ldoa F (by assumption) rfl rfl rfl rfl rfl rfl ?_)
    refine l_op 0 rfl rfl rfl rfl rfl ?_
    refine l_guard rfl rfl rfl (fun hc2 => ?_) (fun hc2 => ?_)
    · try simp only [irr_eq, beq_iff_eq, bne_iff_ne, beq_eq_false_iff_ne, bne_eq_false_iff_eq, ne_eq, decide_eq_true_eq, decide_eq_false_iff_not, Bool.not_eq_true', Bool.not_eq_false'] at hc2
      refine l_op 0 rfl rfl rfl rfl rfl ?_
      refine l_callp F rfl rfl (by kernel_rfl) rfl rfl (count_call (F.cel0 0 rfl) (Old.pure (F.has 1 rfl)) hB (by omega) hf hon) (fun _ s F _ => ?_)
      (try dsimp only [n_1, n_2, n_3, n_4, List.append_nil, pk, n_5, n_6] at F)
      refine l_cmp rfl rfl rfl rfl ?_
      refine l_op 2 rfl rfl rfl rfl rfl ?_
      refine l_op 0 rfl rfl rfl rfl rfl ?_
      refine l_nil (WK.nx (by assumption) ?_)
      refine SeqK.nx (by assumption) ?_
      refine l_cond rfl rfl (fun hc3 => ?_) (fun hc3 => ?_)
      · replace hc3 := of_decide_eq_true ((irr_eq _).symm.trans hc3)
        refine k_seq (fun Q K => ?_)
        refine k_lin (fun W K => ?_)
        refine l_op 0 rfl rfl rfl rfl rfl ?_
        refine l_op 0 rfl rfl rfl rfl rfl ?_
        refine l_op 0 rfl rfl rfl rfl rfl ?_
        refine l_op 0 rfl rfl rfl rfl rfl ?_
        refine l_nil (WK.nx (by assumption) ?_)
        refine SeqK.nx (by assumption) ?_
        refine k_ret ?_
        refine BlkK.rt (by assumption) ?_
        refine SeqK.rt (by assumption) ?_
        refine FunK.rt (by assumption) rfl ?_
        -- leaf 1
        have F' := F.pick [0, 1] (by decide)
        exact ⟨(0, 0, 0, 101, n, fp, true), rfl, by dsimp only [unsF]; rw [hbt]; exact F', .inl ⟨rfl, by omega, rfl, rfl, rfl, rfl, rfl, rfl, rfl⟩⟩
      replace hc3 := of_decide_eq_false ((irr_eq _).symm.trans hc3)
      refine k_seq (fun Q K => ?_)
      refine k_lin (fun W K => ?_)
      refine l_op 0 rfl rfl rfl rfl rfl ?_
      refine l_op 2 rfl rfl rfl rfl rfl ?_
      refine l_op 2 rfl rfl rfl rfl rfl ?_
      (first | refine l_ld0 rfl rfl rfl rfl rfl (by assumption) ?_ | refine l_ldj rfl rfl rfl rfl rfl rfl (by assumption) rfl ?_ | refine l_ldc F 0 rfl rfl rfl rfl rfl rfl rfl ?_ | refine l_ldc F 1 rfl rfl rfl rfl rfl rfl rfl ?_ | refine l_ldc F 2 rfl rfl rfl rfl rfl rfl rfl ?_ | refine l_ldc F 3 rfl rfl rfl rfl rfl rfl rfl ?_ | refine l_ldc F 4 rfl rfl rfl rfl rfl rfl rfl ?_ | refine l_ldc F 5 rfl rfl rfl rfl rfl rfl rfl ?_ | refine l_ldc F 6 rfl rfl rfl rfl rfl rfl rfl ?_ | refine l_ldc F 7 rfl rfl rfl rfl rfl rfl rfl ?_ | refine l_ldc F 8 rfl rfl rfl rfl rfl rfl rfl ?_ | refine l_ldc F 9 rfl rfl rfl rfl rfl rfl rfl ?_ | refine l_lda rfl rfl rfl rfl rfl (by assumption) ?_ | refine l_ldca F 0 rfl rfl rfl rfl rfl rfl rfl ?_ | refine l_ldca F 1 rfl rfl rfl rfl rfl rfl rfl ?_ | refine l_ldca F 2 rfl rfl rfl rfl rfl rfl rfl ?_ | refine l_ldca F 3 rfl rfl rfl rfl rfl rfl rfl ?_ | refine l_ldca F 4 rfl rfl rfl rfl rfl rfl rfl ?_ | refine l_ldca F 5 rfl rfl rfl rfl rfl rfl rfl ?_ | refine l_ldca F 6 rfl rfl rfl rfl rfl rfl rfl ?_ | refine l_ldca F 7 rfl rfl rfl rfl rfl rfl rfl ?_ | refine l_ldca F 8 rfl rfl rfl rfl rfl rfl rfl ?_ | refine l_ldca F 9 rfl rfl rfl rfl rfl rfl rfl ?_ | refine l_ldo F (by assumption) rfl rfl rfl rfl rfl rfl ?_ | refine l_ldoa F (by assumption) rfl rfl rfl rfl rfl rfl ?_)
      refine l_op 2 rfl rfl rfl rfl rfl ?_
      refine l_op 0 rfl rfl rfl rfl rfl ?_
      refine l_guard rfl rfl rfl (fun hc4 => ?_) (fun hc4 => ?_)
      · cases hc4
      try simp only [irr_eq, beq_iff_eq, bne_iff_ne, beq_eq_false_iff_ne, bne_eq_false_iff_eq, ne_eq, decide_eq_true_eq, decide_eq_false_iff_not, Bool.not_eq_true', Bool.not_eq_false'] at hc4
      refine l_s rfl rfl ?_
      refine l_s rfl rfl ?_
      refine l_s rfl rfl ?_
      refine l_s rfl rfl ?_
      refine l_s rfl rfl ?_
      refine l_s rfl rfl ?_
      refine l_op 2 rfl rfl rfl rfl rfl ?_
      refine l_op 0 rfl rfl rfl rfl rfl ?_
      refine l_nil (WK.nx (by assumption) ?_)
      refine SeqK.nx (by assumption) ?_
      first | refine e_cond_f rfl rfl rfl ?_ | refine e_cond_f rfl rfl (by rw [irr_eq]; first | exact beq_eq_false_iff_ne.2 (by assumption) | exact decide_eq_false (by assumption) | exact bne_eq_false_iff_eq.2 (by assumption)) ?_
      refine k_skip ?_
      refine BlkK.nx (by assumption) ?_
      refine SeqK.nx (by assumption) ?_
      refine k_seq (fun Q K => ?_)
      refine k_lin (fun W K => ?_)
      refine l_op 0 rfl rfl rfl rfl rfl ?_
      refine l_op 2 rfl rfl rfl rfl rfl ?_
      refine l_op 2 rfl rfl rfl rfl rfl ?_
      (first | refine l_ld0 rfl rfl rfl rfl rfl (by assumption) ?_ | refine l_ldj rfl rfl rfl rfl rfl rfl (by assumption) rfl ?_ | refine l_ldc F 0 rfl rfl rfl rfl rfl rfl rfl ?_ | refine l_ldc F 1 rfl rfl rfl rfl rfl rfl rfl ?_ | refine l_ldc F 2 rfl rfl rfl rfl rfl rfl rfl ?_ | refine l_ldc F 3 rfl rfl rfl rfl rfl rfl rfl ?_ | refine l_ldc F 4 rfl rfl rfl rfl rfl rfl rfl ?_ | refine l_ldc F 5 rfl rfl rfl rfl rfl rfl rfl ?_ | refine l_ldc F 6 rfl rfl rfl rfl rfl rfl rfl ?_ | refine l_ldc F 7 rfl rfl rfl rfl rfl rfl rfl ?_ | refine l_ldc F 8 rfl rfl rfl rfl rfl rfl rfl ?_ | refine l_ldc F 9 rfl rfl rfl rfl rfl rfl rfl ?_ | refine l_lda rfl rfl rfl rfl rfl (by assumption) ?_ | refine l_ldca F 0 rfl rfl rfl rfl rfl rfl rfl ?_ | refine l_ldca F 1 rfl rfl rfl rfl rfl rfl rfl ?_ | refine l_ldca F 2 rfl rfl rfl rfl rfl rfl rfl ?_ | refine l_ldca F 3 rfl rfl rfl rfl rfl rfl rfl ?_ | refine l_ldca F 4 rfl rfl rfl rfl rfl rfl rfl ?_ | refine l_ldca F 5 rfl rfl rfl rfl rfl rfl rfl ?_ | refine l_ldca F 6 rfl rfl rfl rfl rfl rfl rfl ?_ | refine l_ldca F 7 rfl rfl rfl rfl rfl rfl rfl ?_ | refine l_ldca F 8 rfl rfl rfl rfl rfl rfl rfl ?_ | refine l_ldca F 9 rfl rfl rfl rfl rfl rfl rfl ?_ | refine l_ldo F (by assumption) rfl rfl rfl rfl rfl rfl ?_ | refine l_ldoa F (by assumption) rfl rfl rfl rfl rfl rfl ?_)
      first | refine l_op 2 rfl rfl rfl rfl rfl ?_ | refine l_ln rfl rfl rfl rfl ?_
      (first | refine l_a64 rfl rfl rfl (by omega) rfl ?_ | refine l_a32 rfl rfl rfl (by omega) rfl ?_ | refine l_a8 rfl rfl rfl (by omega) rfl ?_ | refine l_au64 rfl rfl rfl (by omega) rfl ?_ | refine l_op 1 rfl rfl rfl rfl rfl ?_)
      refine l_op 0 rfl rfl rfl rfl rfl ?_
      refine l_nil (WK.nx (by assumption) ?_)
      refine SeqK.nx (by assumption) ?_
      refine k_seq (fun Q K => ?_)
      refine k_seq (fun Q K => ?_)
      refine k_linm [0, 1, 2, 3, 4, 5, 6, 7, 9, 10, 11, 12, 8, 13, 14] mixed (by kernel_rfl) (fun W K => ?_)
      try have hpS := F.pns
      refine l_op 0 rfl rfl rfl rfl rfl ?_
      refine l_op 2 rfl rfl rfl rfl rfl ?_
      refine l_op 2 rfl rfl rfl rfl rfl ?_
      (first | refine l_ld0 rfl rfl rfl rfl rfl (by assumption) ?_ | refine l_ldj rfl rfl rfl rfl rfl rfl (by assumption) rfl ?_ | refine l_ldc F 0 rfl rfl rfl rfl rfl rfl rfl ?_ | refine l_ldc F 1 rfl rfl rfl rfl rfl rfl rfl ?_ | refine l_ldc F 2 rfl rfl rfl rfl rfl rfl rfl ?_ | refine l_ldc F 3 rfl rfl rfl rfl rfl rfl rfl ?_ | refine l_ldc F 4 rfl rfl rfl rfl rfl rfl rfl ?_ | refine l_ldc F 5 rfl rfl rfl rfl rfl rfl rfl ?_ | refine l_ldc F 6 rfl rfl rfl rfl rfl rfl rfl ?_ | refine l_ldc F 7 rfl rfl rfl rfl rfl rfl rfl ?_ | refine l_ldc F 8 rfl rfl rfl rfl rfl rfl rfl ?_ | refine l_ldc F 9 rfl rfl rfl rfl rfl rfl rfl ?_ | refine l_lda rfl rfl rfl rfl rfl (by assumption) ?_ | refine l_ldca F 0 rfl rfl rfl rfl rfl rfl rfl ?_ | refine l_ldca F 1 rfl rfl rfl rfl rfl rfl rfl ?_ | refine l_ldca F 2 rfl rfl rfl rfl rfl rfl rfl ?_ | refine l_ldca F 3 rfl rfl rfl rfl rfl rfl rfl ?_ | refine l_ldca F 4 rfl rfl rfl rfl rfl rfl rfl ?_ | refine l_ldca F 5 rfl rfl rfl rfl rfl rfl rfl ?_ | refine l_ldca F 6 rfl rfl rfl rfl rfl rfl rfl ?_ | refine l_ldca F 7 rfl rfl rfl rfl rfl rfl rfl ?_ | refine l_ldca F 8 rfl rfl rfl rfl rfl rfl rfl ?_ | refine l_ldca F 9 rfl rfl rfl rfl rfl rfl rfl ?_ | refine l_ldo F (by assumption) rfl rfl rfl rfl rfl rfl ?_ | refine l_ldoa F (by assumption) rfl rfl rfl rfl rfl rfl ?_)
      first | have hpS := PnS.add hpS hS41 | have hpS := PnS.add hpS (OldC.sf (by assumption)) | skip
      refine l_op 0 rfl rfl rfl rfl rfl ?_
      refine l_guard rfl rfl rfl (fun hc5 => ?_) (fun hc5 => ?_)
      · try simp only [irr_eq, beq_iff_eq, bne_iff_ne, beq_eq_false_iff_ne, bne_eq_false_iff_eq, ne_eq, decide_eq_true_eq, decide_eq_false_iff_not, Bool.not_eq_true', Bool.not_eq_false'] at hc5
        refine l_op 0 rfl rfl rfl rfl rfl ?_
        refine l_op 0 rfl rfl rfl rfl rfl ?_
        (first | refine l_a64 rfl rfl rfl (by omega) rfl ?_ | refine l_a32 rfl rfl rfl (by omega) rfl ?_ | refine l_a8 rfl rfl rfl (by omega) rfl ?_ | refine l_au64 rfl rfl rfl (by omega) rfl ?_ | refine l_op 1 rfl rfl rfl rfl rfl ?_)
        refine l_op 0 rfl rfl rfl rfl rfl ?_
        refine l_op 2 rfl rfl rfl rfl rfl ?_
        refine l_op 2 rfl rfl rfl rfl rfl ?_
        (first | refine l_ld0 rfl rfl rfl rfl rfl (by assumption) ?_ | refine l_ldj rfl rfl rfl rfl rfl rfl (by assumption) rfl ?_ | refine l_ldc F 0 rfl rfl rfl rfl rfl rfl rfl ?_ | refine l_ldc F 1 rfl rfl rfl rfl rfl rfl rfl ?_ | refine l_ldc F 2 rfl rfl rfl rfl rfl rfl rfl ?_ | refine l_ldc F 3 rfl rfl rfl rfl rfl rfl rfl ?_ | refine l_ldc F 4 rfl rfl rfl rfl rfl rfl rfl ?_ | refine l_ldc F 5 rfl rfl rfl rfl rfl rfl rfl ?_ | refine l_ldc F 6 rfl rfl rfl rfl rfl rfl rfl ?_ | refine l_ldc F 7 rfl rfl rfl rfl rfl rfl rfl ?_ | refine l_ldc F 8 rfl rfl rfl rfl rfl rfl rfl ?_ | refine l_ldc F 9 rfl rfl rfl rfl rfl rfl rfl ?_ | refine l_lda rfl rfl rfl rfl rfl (by assumption) ?_ | refine l_ldca F 0 rfl rfl rfl rfl rfl rfl rfl ?_ | refine l_ldca F 1 rfl rfl rfl rfl rfl rfl rfl ?_ | refine l_ldca F 2 rfl rfl rfl rfl rfl rfl rfl ?_ | refine l_ldca F 3 rfl rfl rfl rfl rfl rfl rfl ?_ | refine l_ldca F 4 rfl rfl rfl rfl rfl rfl rfl ?_ | refine l_ldca F 5 rfl rfl rfl rfl rfl rfl rfl ?_ | refine l_ldca F 6 rfl rfl rfl rfl rfl rfl rfl ?_ | refine l_ldca F 7 rfl rfl rfl rfl rfl rfl rfl ?_ | refine l_ldca F 8 rfl rfl rfl rfl rfl rfl rfl ?_ | refine l_ldca F 9 rfl rfl rfl rfl rfl rfl rfl ?_ | refine l_ldo F (by assumption) rfl rfl rfl rfl rfl rfl ?_ | refine l_ldoa F (by assumption) rfl rfl rfl rfl rfl rfl ?_)
        first | have hpS := PnS.add hpS hS50 | have hpS := PnS.add hpS (OldC.sf (by assumption)) | skip
        have hpA := PnA.cel F 0 rfl (PnA.cel F 0 rfl pna_nil)
        refine l_callp F rfl rfl (by kernel_rfl) rfl rfl (at_call (F.cel0 0 rfl) (Old.pure (F.has 1 rfl)) hB (by omega)) (fun _ s F _ => ?_)
        (try dsimp only [n_1, n_2, n_3, n_4, List.append_nil, pk, n_5, n_6] at F)
        refine l_cmp rfl rfl rfl rfl ?_
        refine l_op 2 rfl rfl rfl rfl rfl ?_
        refine l_nil (WK.nx (by assumption) ?_)
        refine SeqK.nx (by assumption) ?_
        refine l_cond rfl rfl (fun hc6 => ?_) (fun hc6 => ?_)
        · first | replace hc6 := bne_iff_ne.1 ((irr_eq _).symm.trans hc6) | simp only [irr_eq, bne_iff_ne, bne_eq_false_iff_eq, ne_eq, decide_eq_true_eq, decide_eq_false_iff_not, Bool.not_eq_true', Bool.not_eq_false'] at hc6
          refine k_seq (fun Q K => ?_)
          refine k_lin (fun W K => ?_)
          refine l_op 0 rfl rfl rfl rfl rfl ?_
          refine l_op 0 rfl rfl rfl rfl rfl ?_
          refine l_op 0 rfl rfl rfl rfl rfl ?_
          refine l_op 0 rfl rfl rfl rfl rfl ?_
          refine l_nil (WK.nx (by assumption) ?_)
          refine SeqK.nx (by assumption) ?_
          refine k_ret ?_
          refine SeqK.rt (by assumption) ?_
          refine FunK.rt (by assumption) rfl ?_
          -- leaf 2
          have F' := F.pick [0, 1] (by decide)
          exact ⟨(0, 0, 0, 102, n, fp, true), rfl, by dsimp only [unsF]; rw [hbt]; exact F', .inr (.inr (.inl ⟨rfl, by omega, by assumption, rfl, rfl, rfl, rfl, rfl, rfl, rfl⟩))⟩
        first | replace hc6 := bne_eq_false_iff_eq.1 ((irr_eq _).symm.trans hc6) | simp only [irr_eq, bne_iff_ne, bne_eq_false_iff_eq, ne_eq, decide_eq_true_eq, decide_eq_false_iff_not, Bool.not_eq_true', Bool.not_eq_false'] at hc6
        refine k_skip ?_
        refine SeqK.nx (by assumption) ?_
        refine k_seq (fun Q K => ?_)
        refine k_lin (fun W K => ?_)
        refine l_op 0 rfl rfl rfl rfl rfl ?_
        refine l_op 0 rfl rfl rfl rfl rfl ?_
        refine l_callp F rfl rfl (by kernel_rfl) rfl rfl (at_call (F.cel0 0 rfl) (Old.pure (F.has 1 rfl)) hB (by omega)) (fun _ s F _ => ?_)
        (try dsimp only [n_1, n_2, n_3, n_4, List.append_nil, pk, n_5, n_6] at F)
        (first | refine l_c64 rfl rfl rfl (by omega) rfl ?_ | refine l_c32 rfl rfl rfl (by omega) rfl ?_ | refine l_c8 rfl rfl rfl (by omega) rfl ?_ | refine l_cu64 rfl rfl rfl (by omega) rfl ?_ | refine l_str rfl rfl rfl rfl rfl (F.old (by assumption)) ?_ | refine l_str rfl rfl rfl rfl rfl (F.has 0 rfl) ?_ | refine l_str rfl rfl rfl rfl rfl (F.has 1 rfl) ?_ | refine l_str rfl rfl rfl rfl rfl (F.has 2 rfl) ?_ | refine l_op 16 rfl rfl rfl rfl rfl ?_)
        refine l_op 0 rfl rfl rfl rfl rfl ?_
        refine l_op 0 rfl rfl rfl rfl rfl ?_
        (first | refine l_a64 rfl rfl rfl (by omega) rfl ?_ | refine l_a32 rfl rfl rfl (by omega) rfl ?_ | refine l_a8 rfl rfl rfl (by omega) rfl ?_ | refine l_au64 rfl rfl rfl (by omega) rfl ?_ | refine l_op 1 rfl rfl rfl rfl rfl ?_)
        refine l_callp F rfl rfl (by kernel_rfl) rfl rfl (at_call (F.cel0 0 rfl) (Old.pure (F.has 1 rfl)) hB (by omega)) (fun _ s F _ => ?_)
        (try dsimp only [n_1, n_2, n_3, n_4, List.append_nil, pk, n_5, n_6] at F)
        (first | refine l_c64 rfl rfl rfl (by omega) rfl ?_ | refine l_c32 rfl rfl rfl (by omega) rfl ?_ | refine l_c8 rfl rfl rfl (by omega) rfl ?_ | refine l_cu64 rfl rfl rfl (by omega) rfl ?_ | refine l_str rfl rfl rfl rfl rfl (F.old (by assumption)) ?_ | refine l_str rfl rfl rfl rfl rfl (F.has 0 rfl) ?_ | refine l_str rfl rfl rfl rfl rfl (F.has 1 rfl) ?_ | refine l_str rfl rfl rfl rfl rfl (F.has 2 rfl) ?_ | refine l_op 16 rfl rfl rfl rfl rfl ?_)
        refine l_op 0 rfl rfl rfl rfl rfl ?_
        refine l_op 0 rfl rfl rfl rfl rfl ?_
        (first | refine l_a64 rfl rfl rfl (by omega) rfl ?_ | refine l_a32 rfl rfl rfl (by omega) rfl ?_ | refine l_a8 rfl rfl rfl (by omega) rfl ?_ | refine l_au64 rfl rfl rfl (by omega) rfl ?_ | refine l_op 1 rfl rfl rfl rfl rfl ?_)
        refine l_callp F rfl rfl (by kernel_rfl) rfl rfl (at_call (F.cel0 0 rfl) (Old.pure (F.has 1 rfl)) hB (by omega)) (fun _ s F _ => ?_)
        (try dsimp only [n_1, n_2, n_3, n_4, List.append_nil, pk, n_5, n_6] at F)
        (first | refine l_c64 rfl rfl rfl (by omega) rfl ?_ | refine l_c32 rfl rfl rfl (by omega) rfl ?_ | refine l_c8 rfl rfl rfl (by omega) rfl ?_ | refine l_cu64 rfl rfl rfl (by omega) rfl ?_ | refine l_str rfl rfl rfl rfl rfl (F.old (by assumption)) ?_ | refine l_str rfl rfl rfl rfl rfl (F.has 0 rfl) ?_ | refine l_str rfl rfl rfl rfl rfl (F.has 1 rfl) ?_ | refine l_str rfl rfl rfl rfl rfl (F.has 2 rfl) ?_ | refine l_op 16 rfl rfl rfl rfl rfl ?_)
        refine l_op 0 rfl rfl rfl rfl rfl ?_
        refine l_op 0 rfl rfl rfl rfl rfl ?_
        refine l_op 0 rfl rfl rfl rfl rfl ?_
        refine l_nil (WK.nx (by assumption) ?_)
        refine SeqK.nx (by assumption) ?_
        refine k_seq (fun Q K => ?_)
        refine k_lin (fun W K => ?_)
        refine l_op 0 rfl rfl rfl rfl rfl ?_
        refine l_op 0 rfl rfl rfl rfl rfl ?_
        refine l_op 0 rfl rfl rfl rfl rfl ?_
        refine l_op 0 rfl rfl rfl rfl rfl ?_
        (first | refine l_a64 rfl rfl rfl (by omega) rfl ?_ | refine l_a32 rfl rfl rfl (by omega) rfl ?_ | refine l_a8 rfl rfl rfl (by omega) rfl ?_ | refine l_au64 rfl rfl rfl (by omega) rfl ?_ | refine l_op 1 rfl rfl rfl rfl rfl ?_)
        refine l_callp F rfl rfl (by kernel_rfl) rfl rfl (at_call (F.cel0 0 rfl) (Old.pure (F.has 1 rfl)) hB (by omega)) (fun _ s F _ => ?_)
        (try dsimp only [n_1, n_2, n_3, n_4, List.append_nil, pk, n_5, n_6] at F)
        refine l_op 2 rfl rfl rfl rfl rfl ?_
        refine l_op 2 rfl rfl rfl rfl rfl ?_
        (first | refine l_stc F 0 rfl rfl rfl rfl rfl rfl rfl rfl rfl hD (fun s F => ?_) | refine l_stc F 1 rfl rfl rfl rfl rfl rfl rfl rfl rfl hD (fun s F => ?_) | refine l_stc F 2 rfl rfl rfl rfl rfl rfl rfl rfl rfl hD (fun s F => ?_) | refine l_stc F 3 rfl rfl rfl rfl rfl rfl rfl rfl rfl hD (fun s F => ?_) | refine l_stc F 4 rfl rfl rfl rfl rfl rfl rfl rfl rfl hD (fun s F => ?_) | refine l_stc F 5 rfl rfl rfl rfl rfl rfl rfl rfl rfl hD (fun s F => ?_) | refine l_stc F 6 rfl rfl rfl rfl rfl rfl rfl rfl rfl hD (fun s F => ?_) | refine l_stc F 7 rfl rfl rfl rfl rfl rfl rfl rfl rfl hD (fun s F => ?_) | refine l_stc F 8 rfl rfl rfl rfl rfl rfl rfl rfl rfl hD (fun s F => ?_) | refine l_stc F 9 rfl rfl rfl rfl rfl rfl rfl rfl rfl hD (fun s F => ?_) | refine l_stca F 0 rfl rfl rfl rfl rfl rfl rfl rfl rfl rfl hD rfl (fun s F => ?_) | refine l_stca F 1 rfl rfl rfl rfl rfl rfl rfl rfl rfl rfl hD rfl (fun s F => ?_) | refine l_stca F 2 rfl rfl rfl rfl rfl rfl rfl rfl rfl rfl hD rfl (fun s F => ?_) | refine l_stca F 3 rfl rfl rfl rfl rfl rfl rfl rfl rfl rfl hD rfl (fun s F => ?_) | refine l_stca F 4 rfl rfl rfl rfl rfl rfl rfl rfl rfl rfl hD rfl (fun s F => ?_) | refine l_stca F 5 rfl rfl rfl rfl rfl rfl rfl rfl rfl rfl hD rfl (fun s F => ?_) | refine l_stca F 6 rfl rfl rfl rfl rfl rfl rfl rfl rfl rfl hD rfl (fun s F => ?_) | refine l_stca F 7 rfl rfl rfl rfl rfl rfl rfl rfl rfl rfl hD rfl (fun s F => ?_) | refine l_stca F 8 rfl rfl rfl rfl rfl rfl rfl rfl rfl rfl hD rfl (fun s F => ?_) | refine l_stca F 9 rfl rfl rfl rfl rfl rfl rfl rfl rfl rfl hD rfl (fun s F => ?_) | refine l_stoi F 0 rfl rfl rfl rfl rfl rfl rfl (by omega) hD (fun s F => ?_) | refine l_stoi F 1 rfl rfl rfl rfl rfl rfl rfl (by omega) hD (fun s F => ?_) | refine l_stoi F 2 rfl rfl rfl rfl rfl rfl rfl (by omega) hD (fun s F => ?_) | refine l_stoi F 3 rfl rfl rfl rfl rfl rfl rfl (by omega) hD (fun s F => ?_) | refine l_stoi F 4 rfl rfl rfl rfl rfl rfl rfl (by omega) hD (fun s F => ?_) | refine l_stoi F 5 rfl rfl rfl rfl rfl rfl rfl (by omega) hD (fun s F => ?_) | refine l_stoi F 6 rfl rfl rfl rfl rfl rfl rfl (by omega) hD (fun s F => ?_) | refine l_stoi F 7 rfl rfl rfl rfl rfl rfl rfl (by omega) hD (fun s F => ?_) | refine l_stoi F 8 rfl rfl rfl rfl rfl rfl rfl (by omega) hD (fun s F => ?_) | refine l_stoi F 9 rfl rfl rfl rfl rfl rfl rfl (by omega) hD (fun s F => ?_))
        (try dsimp only [n_1, n_2, n_3, n_4, List.append_nil, pk, n_5, n_6] at F)
        refine l_op 2 rfl rfl rfl rfl rfl ?_
        refine l_op 2 rfl rfl rfl rfl rfl ?_
        (first | refine l_stc F 0 rfl rfl rfl rfl rfl rfl rfl rfl rfl hD (fun s F => ?_) | refine l_stc F 1 rfl rfl rfl rfl rfl rfl rfl rfl rfl hD (fun s F => ?_) | refine l_stc F 2 rfl rfl rfl rfl rfl rfl rfl rfl rfl hD (fun s F => ?_) | refine l_stc F 3 rfl rfl rfl rfl rfl rfl rfl rfl rfl hD (fun s F => ?_) | refine l_stc F 4 rfl rfl rfl rfl rfl rfl rfl rfl rfl hD (fun s F => ?_) | refine l_stc F 5 rfl rfl rfl rfl rfl rfl rfl rfl rfl hD (fun s F => ?_) | refine l_stc F 6 rfl rfl rfl rfl rfl rfl rfl rfl rfl hD (fun s F => ?_) | refine l_stc F 7 rfl rfl rfl rfl rfl rfl rfl rfl rfl hD (fun s F => ?_) | refine l_stc F 8 rfl rfl rfl rfl rfl rfl rfl rfl rfl hD (fun s F => ?_) | refine l_stc F 9 rfl rfl rfl rfl rfl rfl rfl rfl rfl hD (fun s F => ?_) | refine l_stca F 0 rfl rfl rfl rfl rfl rfl rfl rfl rfl rfl hD rfl (fun s F => ?_) | refine l_stca F 1 rfl rfl rfl rfl rfl rfl rfl rfl rfl rfl hD rfl (fun s F => ?_) | refine l_stca F 2 rfl rfl rfl rfl rfl rfl rfl rfl rfl rfl hD rfl (fun s F => ?_) | refine l_stca F 3 rfl rfl rfl rfl rfl rfl rfl rfl rfl rfl hD rfl (fun s F => ?_) | refine l_stca F 4 rfl rfl rfl rfl rfl rfl rfl rfl rfl rfl hD rfl (fun s F => ?_) | refine l_stca F 5 rfl rfl rfl rfl rfl rfl rfl rfl rfl rfl hD rfl (fun s F => ?_) | refine l_stca F 6 rfl rfl rfl rfl rfl rfl rfl rfl rfl rfl hD rfl (fun s F => ?_) | refine l_stca F 7 rfl rfl rfl rfl rfl rfl rfl rfl rfl rfl hD rfl (fun s F => ?_) | refine l_stca F 8 rfl rfl rfl rfl rfl rfl rfl rfl rfl rfl hD rfl (fun s F => ?_) | refine l_stca F 9 rfl rfl rfl rfl rfl rfl rfl rfl rfl rfl hD rfl (fun s F => ?_) | refine l_stoi F 0 rfl rfl rfl rfl rfl rfl rfl (by omega) hD (fun s F => ?_) | refine l_stoi F 1 rfl rfl rfl rfl rfl rfl rfl (by omega) hD (fun s F => ?_) | refine l_stoi F 2 rfl rfl rfl rfl rfl rfl rfl (by omega) hD (fun s F => ?_) | refine l_stoi F 3 rfl rfl rfl rfl rfl rfl rfl (by omega) hD (fun s F => ?_) | refine l_stoi F 4 rfl rfl rfl rfl rfl rfl rfl (by omega) hD (fun s F => ?_) | refine l_stoi F 5 rfl rfl rfl rfl rfl rfl rfl (by omega) hD (fun s F => ?_) | refine l_stoi F 6 rfl rfl rfl rfl rfl rfl rfl (by omega) hD (fun s F => ?_) | refine l_stoi F 7 rfl rfl rfl rfl rfl rfl rfl (by omega) hD (fun s F => ?_) | refine l_stoi F 8 rfl rfl rfl rfl rfl rfl rfl (by omega) hD (fun s F => ?_) | refine l_stoi F 9 rfl rfl rfl rfl rfl rfl rfl (by omega) hD (fun s F => ?_))
        (try dsimp only [n_1, n_2, n_3, n_4, List.append_nil, pk, n_5, n_6] at F)
        refine l_nil (WK.nx (by assumption) ?_)
        refine SeqK.nx (by assumption) ?_
        refine k_seq (fun Q K => ?_)
        refine k_lin (fun W K => ?_)
        refine l_op 0 rfl rfl rfl rfl rfl ?_
        refine l_op 0 rfl rfl rfl rfl rfl ?_
        refine l_op 2 rfl rfl rfl rfl rfl ?_
        refine l_op 2 rfl rfl rfl rfl rfl ?_
        (first | refine l_ld0 rfl rfl rfl rfl rfl (by assumption) ?_ | refine l_ldj rfl rfl rfl rfl rfl rfl (by assumption) rfl ?_ | refine l_ldc F 0 rfl rfl rfl rfl rfl rfl rfl ?_ | refine l_ldc F 1 rfl rfl rfl rfl rfl rfl rfl ?_ | refine l_ldc F 2 rfl rfl rfl rfl rfl rfl rfl ?_ | refine l_ldc F 3 rfl rfl rfl rfl rfl rfl rfl ?_ | refine l_ldc F 4 rfl rfl rfl rfl rfl rfl rfl ?_ | refine l_ldc F 5 rfl rfl rfl rfl rfl rfl rfl ?_ | refine l_ldc F 6 rfl rfl rfl rfl rfl rfl rfl ?_ | refine l_ldc F 7 rfl rfl rfl rfl rfl rfl rfl ?_ | refine l_ldc F 8 rfl rfl rfl rfl rfl rfl rfl ?_ | refine l_ldc F 9 rfl rfl rfl rfl rfl rfl rfl ?_ | refine l_lda rfl rfl rfl rfl rfl (by assumption) ?_ | refine l_ldca F 0 rfl rfl rfl rfl rfl rfl rfl ?_ | refine l_ldca F 1 rfl rfl rfl rfl rfl rfl rfl ?_ | refine l_ldca F 2 rfl rfl rfl rfl rfl rfl rfl ?_ | refine l_ldca F 3 rfl rfl rfl rfl rfl rfl rfl ?_ | refine l_ldca F 4 rfl rfl rfl rfl rfl rfl rfl ?_ | refine l_ldca F 5 rfl rfl rfl rfl rfl rfl rfl ?_ | refine l_ldca F 6 rfl rfl rfl rfl rfl rfl rfl ?_ | refine l_ldca F 7 rfl rfl rfl rfl rfl rfl rfl ?_ | refine l_ldca F 8 rfl rfl rfl rfl rfl rfl rfl ?_ | refine l_ldca F 9 rfl rfl rfl rfl rfl rfl rfl ?_ | refine l_ldo F (by assumption) rfl rfl rfl rfl rfl rfl ?_ | refine l_ldoa F (by assumption) rfl rfl rfl rfl rfl rfl ?_)
        refine l_op 0 rfl rfl rfl rfl rfl ?_
        first | refine l_slh rfl rfl rfl rfl rfl ⟨rfl, _, _, rfl, by omega, rfl⟩ (F.old (by assumption)) (by omega) ?_ | refine l_slh rfl rfl rfl rfl rfl ⟨rfl, _, _, rfl, by omega, rfl⟩ (F.has 0 rfl) (by omega) ?_ | refine l_slh rfl rfl rfl rfl rfl ⟨rfl, _, _, rfl, by omega, rfl⟩ (F.has 1 rfl) (by omega) ?_ | refine l_slh rfl rfl rfl rfl rfl ⟨rfl, _, _, rfl, by omega, rfl⟩ (F.has 2 rfl) (by omega) ?_ | refine l_slh rfl rfl rfl rfl rfl ⟨rfl, _, _, rfl, by omega, rfl⟩ (F.has 3 rfl) (by omega) ?_
        refine l_op 2 rfl rfl rfl rfl rfl ?_
        refine l_op 2 rfl rfl rfl rfl rfl ?_
        (first | refine l_stc F 0 rfl rfl rfl rfl rfl rfl rfl rfl rfl hD (fun s F => ?_) | refine l_stc F 1 rfl rfl rfl rfl rfl rfl rfl rfl rfl hD (fun s F => ?_) | refine l_stc F 2 rfl rfl rfl rfl rfl rfl rfl rfl rfl hD (fun s F => ?_) | refine l_stc F 3 rfl rfl rfl rfl rfl rfl rfl rfl rfl hD (fun s F => ?_) | refine l_stc F 4 rfl rfl rfl rfl rfl rfl rfl rfl rfl hD (fun s F => ?_) | refine l_stc F 5 rfl rfl rfl rfl rfl rfl rfl rfl rfl hD (fun s F => ?_) | refine l_stc F 6 rfl rfl rfl rfl rfl rfl rfl rfl rfl hD (fun s F => ?_) | refine l_stc F 7 rfl rfl rfl rfl rfl rfl rfl rfl rfl hD (fun s F => ?_) | refine l_stc F 8 rfl rfl rfl rfl rfl rfl rfl rfl rfl hD (fun s F => ?_) | refine l_stc F 9 rfl rfl rfl rfl rfl rfl rfl rfl rfl hD (fun s F => ?_) | refine l_stca F 0 rfl rfl rfl rfl rfl rfl rfl rfl rfl rfl hD rfl (fun s F => ?_) | refine l_stca F 1 rfl rfl rfl rfl rfl rfl rfl rfl rfl rfl hD rfl (fun s F => ?_) | refine l_stca F 2 rfl rfl rfl rfl rfl rfl rfl rfl rfl rfl hD rfl (fun s F => ?_) | refine l_stca F 3 rfl rfl rfl rfl rfl rfl rfl rfl rfl rfl hD rfl (fun s F => ?_) | refine l_stca F 4 rfl rfl rfl rfl rfl rfl rfl rfl rfl rfl hD rfl (fun s F => ?_) | refine l_stca F 5 rfl rfl rfl rfl rfl rfl rfl rfl rfl rfl hD rfl (fun s F => ?_) | refine l_stca F 6 rfl rfl rfl rfl rfl rfl rfl rfl rfl rfl hD rfl (fun s F => ?_) | refine l_stca F 7 rfl rfl rfl rfl rfl rfl rfl rfl rfl rfl hD rfl (fun s F => ?_) | refine l_stca F 8 rfl rfl rfl rfl rfl rfl rfl rfl rfl rfl hD rfl (fun s F => ?_) | refine l_stca F 9 rfl rfl rfl rfl rfl rfl rfl rfl rfl rfl hD rfl (fun s F => ?_) | refine l_stoi F 0 rfl rfl rfl rfl rfl rfl rfl (by omega) hD (fun s F => ?_) | refine l_stoi F 1 rfl rfl rfl rfl rfl rfl rfl (by omega) hD (fun s F => ?_) | refine l_stoi F 2 rfl rfl rfl rfl rfl rfl rfl (by omega) hD (fun s F => ?_) | refine l_stoi F 3 rfl rfl rfl rfl rfl rfl rfl (by omega) hD (fun s F => ?_) | refine l_stoi F 4 rfl rfl rfl rfl rfl rfl rfl (by omega) hD (fun s F => ?_) | refine l_stoi F 5 rfl rfl rfl rfl rfl rfl rfl (by omega) hD (fun s F => ?_) | refine l_stoi F 6 rfl rfl rfl rfl rfl rfl rfl (by omega) hD (fun s F => ?_) | refine l_stoi F 7 rfl rfl rfl rfl rfl rfl rfl (by omega) hD (fun s F => ?_) | refine l_stoi F 8 rfl rfl rfl rfl rfl rfl rfl (by omega) hD (fun s F => ?_) | refine l_stoi F 9 rfl rfl rfl rfl rfl rfl rfl (by omega) hD (fun s F => ?_))
        (try dsimp only [n_1, n_2, n_3, n_4, List.append_nil, pk, n_5, n_6] at F)
        refine l_nil (WK.nx (by assumption) ?_)
        refine SeqK.nx (by assumption) ?_
        refine k_seq (fun Q K => ?_)
        refine k_lin (fun W K => ?_)
        refine l_op 0 rfl rfl rfl rfl rfl ?_
        refine l_op 0 rfl rfl rfl rfl rfl ?_
        refine l_op 0 rfl rfl rfl rfl rfl ?_
        refine l_op 0 rfl rfl rfl rfl rfl ?_
        refine l_op 0 rfl rfl rfl rfl rfl ?_
        refine l_op 0 rfl rfl rfl rfl rfl ?_
        refine l_op 0 rfl rfl rfl rfl rfl ?_
        refine l_nil (WK.nx (by assumption) ?_)
        refine SeqK.nx (by assumption) ?_
        refine k_ret ?_
        refine FunK.rt (by assumption) rfl ?_
        -- leaf 3
        have F := Facts.upto (F := F) 1 rfl (h := n - 16) (by omega)
        (try dsimp only [n_1, n_2, n_3, n_4, List.append_nil, pk, n_5, n_6] at F)
        rw [Nat.mul_one, ← List.map_take] at F
        have e1 : ((n : Int) - 16).toNat = n - 16 := by omega
        rw [e1] at F
        exact ⟨(_, _, _, 0, n - 16, at4 bs (n - 16 + 12), true), rfl, F.pick [0, 1] (by decide), .inr (.inr (.inr ⟨.inl ⟨rfl, by omega, by assumption⟩, rfl, rfl, rfl, rfl, rfl, rfl, rfl⟩))⟩
      cases hc5
    cases hc2

end Go.Proofs.Ythbooolgpfhcmaa
