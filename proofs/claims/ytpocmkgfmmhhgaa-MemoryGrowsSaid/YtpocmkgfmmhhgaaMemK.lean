/- What is written is read. No statement of the seat is proved in this text. -/
import Derived.Test.YtpocmkgfmmhhgaaMemI
set_option linter.unusedVariables false
set_option linter.unusedSimpArgs false
set_option maxRecDepth 100000
set_option maxHeartbeats 8000000
namespace Go.Proofs.Ytpocmkgfmmhhgaa
open GAb Go

theorem putB_take {bs C : List Int} {a : Nat} (h : a + C.length ≤ bs.length) : (putB bs a C).take a = bs.take a := by
  unfold putB
  rw [List.take_append_of_le_length (by rw [List.length_take]; omega), List.take_take, Nat.min_self]
theorem putB_drop {bs C : List Int} {a : Nat} (h : a + C.length ≤ bs.length) : (putB bs a C).drop (a + C.length) = bs.drop (a + C.length) := by
  unfold putB
  rw [← List.append_assoc]
  have e : (bs.take a ++ C).length = a + C.length := by rw [List.length_append, List.length_take]; omega
  rw [List.drop_append_of_le_length (by omega), ← e, List.drop_length, List.nil_append, e]
theorem putB_be {bs : List Int} {a x n : Int} (h : n = 1 ∨ n = 2 ∨ n = 4) (h0 : 0 ≤ a) (h1 : a + n ≤ bs.length) : be (putB bs a.toNat (putR x n)) a.toNat n.toNat = x % 256 ^ n.toNat := by
  have := be_put (bs.take a.toNat) (bs.drop (a.toNat + (putR x n).length)) x n h
  rw [List.length_take, Nat.min_eq_left (by omega)] at this
  exact this
theorem andM {x w : Int} (hw : w = 256 ∨ w = 65536) (h0 : 0 ≤ x) (h1 : x ≤ 4294967295) : IntKind.u32.wrap ↑(BitVec.ofInt IntKind.u32.bits x &&& BitVec.ofInt IntKind.u32.bits (w - 1)).toNat = x % w := by
  rcases hw with rfl | rfl
  · have e : (BitVec.ofInt IntKind.u32.bits x &&& BitVec.ofInt IntKind.u32.bits (256 - 1)).toNat = (x % 4294967296).toNat % 2 ^ 8 := by
      rw [BitVec.toNat_and, BitVec.toNat_ofInt]
      exact Nat.and_two_pow_sub_one_eq_mod _ 8
    rw [e, wrap32 (by omega) (by omega)]
    omega
  · have e : (BitVec.ofInt IntKind.u32.bits x &&& BitVec.ofInt IntKind.u32.bits (65536 - 1)).toNat = (x % 4294967296).toNat % 2 ^ 16 := by
      rw [BitVec.toNat_and, BitVec.toNat_ofInt]
      exact Nat.and_two_pow_sub_one_eq_mod _ 16
    rw [e, wrap32 (by omega) (by omega)]
    omega
theorem pow256 {n : Int} (h : n = 1 ∨ n = 2 ∨ n = 4) : ∃ w : Int, 256 ^ n.toNat = w ∧ ((n = 1 ∧ w = 256) ∨ (n = 2 ∧ w = 65536) ∨ (n = 4 ∧ w = 4294967296)) := by
  rcases h with rfl | rfl | rfl
  · exact ⟨256, rfl, by omega⟩
  · exact ⟨65536, rfl, by omega⟩
  · exact ⟨4294967296, rfl, by omega⟩
theorem shlN {n w : Int} (h : (n = 1 ∧ w = 256) ∨ (n = 2 ∧ w = 65536)) : IntKind.u32.wrap (1 * 2 ^ min (8 * n).toNat IntKind.u32.bits) = w := by
  rcases h with ⟨rfl, rfl⟩ | ⟨rfl, rfl⟩ <;> decide
theorem wr_cases (len a n : Int) : ∃ w, wrE len a n = w ∧ ((w = 1 ∧ ¬ (n = 1 ∨ n = 2 ∨ n = 4)) ∨ (w = 91 ∧ (n = 1 ∨ n = 2 ∨ n = 4) ∧ ¬ (256 ≤ a ∧ a + n ≤ len)) ∨ (w = 0 ∧ (n = 1 ∨ n = 2 ∨ n = 4) ∧ 256 ≤ a ∧ a + n ≤ len)) := by
  unfold wrE
  split
  · exact ⟨1, rfl, .inl ⟨rfl, by assumption⟩⟩
  · split
    · exact ⟨0, rfl, .inr (.inr ⟨rfl, by omega, by omega⟩)⟩
    · exact ⟨91, rfl, .inr (.inl ⟨rfl, by omega, by omega⟩)⟩
theorem wrA_same {bs : List Int} {a n x : Int} (h : wrE bs.length a n ≠ 0) : wrA bs a n x = bs := if_neg h
theorem wrA_put {bs : List Int} {a n x : Int} (h : wrE bs.length a n = 0) : wrA bs a n x = putB bs a.toNat (putR x n) := if_pos h
theorem holds_law {σ : AState} {q : Option Addr} {l c : Nat} {ts : List Act9} {a n x : Int} (h : OldA9 E0 σ q l c ts) (ha : U32 a) (hn : -9223372036854775808 ≤ n ∧ n ≤ 9223372036854775807) (hx : U32 x) :
    SCall Try.prog E0 3 [.slice q l c, .int .u32 a, .int .i64 n, .int .u32 x] σ (fun v _ => v = .bool true) := by
  have ha' := ha
  have hx' := hx
  obtain ⟨a0, a1⟩ := ha
  obtain ⟨x0, x1⟩ := hx
  refine k_fun Try.func3 rfl (m := 147) rfl fun B hD Q K => ?_
  have F := Facts.nil E0 σ
  refine k_seq (fun Q K => ?_)
  refine k_lin (fun W K => ?_)
  refine l_op 0 rfl rfl rfl rfl rfl ?_
  refine l_nil (WK.nx (by assumption) ?_)
  refine SeqK.nx (by assumption) ?_
  refine k_seq (fun Q K => ?_)
  refine k_seq (fun Q K => ?_)
  refine k_lin (fun W K => ?_)
  refine l_op 0 rfl rfl rfl rfl rfl ?_
  refine l_callp F rfl rfl (by kernel_rfl) rfl rfl (huge9_call h) (fun hg s F hhg => ?_)
  (try dsimp only [n_1, n_2, n_3, n_4, List.append_nil, pk, n_5, n_6] at F)
  refine l_nil (WK.nx (by assumption) ?_)
  refine SeqK.nx (by assumption) ?_
  refine l_cond rfl rfl (fun hc1 => ?_) (fun hc1 => ?_)
  · try simp only [irr_eq, beq_iff_eq, bne_iff_ne, beq_eq_false_iff_ne, bne_eq_false_iff_eq, ne_eq, decide_eq_true_eq, decide_eq_false_iff_not, Bool.not_eq_true', Bool.not_eq_false'] at hc1
    refine k_seq (fun Q K => ?_)
    refine k_lin (fun W K => ?_)
    refine l_callp F rfl rfl (by kernel_rfl) rfl rfl (live9_call E0) (fun _ s F _ => ?_)
    (try dsimp only [n_1, n_2, n_3, n_4, List.append_nil, pk, n_5, n_6] at F)
    refine l_op 0 rfl rfl rfl rfl rfl ?_
    refine l_nil (WK.nx (by assumption) ?_)
    refine SeqK.nx (by assumption) ?_
    refine k_ret ?_
    refine SeqK.rt (by assumption) ?_
    refine FunK.rt (by assumption) rfl ?_
    -- leaf 1
    first
    | rfl
    | (exfalso; omega)
  try simp only [irr_eq, beq_iff_eq, bne_iff_ne, beq_eq_false_iff_ne, bne_eq_false_iff_eq, ne_eq, decide_eq_true_eq, decide_eq_false_iff_not, Bool.not_eq_true', Bool.not_eq_false'] at hc1
  have hg2 := hhg (by assumption)
  refine k_skip ?_
  refine SeqK.nx (by assumption) ?_
  refine k_seq (fun Q K => ?_)
  refine k_lin (fun W K => ?_)
  refine l_op 0 rfl rfl rfl rfl rfl ?_
  refine l_callp F rfl rfl (by kernel_rfl) rfl rfl (begin9_call (h.to F) hg2.1 hg2.2) (fun y s F ok => ?_)
  obtain ⟨m, z⟩ := y
  replace F : Facts E0 σ s (mF m z) := F
  replace ok : MOK z := ok
  have hr := ok.room
  have hz := ok.size
  (try dsimp only [n_1, n_2, n_3, n_4, List.append_nil, pk, n_5, n_6] at F)
  refine l_op 0 rfl rfl rfl rfl rfl ?_
  refine l_nil (WK.nx (by assumption) ?_)
  refine SeqK.nx (by assumption) ?_
  refine k_seq (fun Q K => ?_)
  refine k_seq (fun Q K => ?_)
  refine k_lin (fun W K => ?_)
  refine l_op 0 rfl rfl rfl rfl rfl ?_
  refine l_cmp rfl rfl rfl rfl ?_
  refine l_nil (WK.nx (by assumption) ?_)
  refine SeqK.nx (by assumption) ?_
  refine l_cond rfl rfl (fun hc2 => ?_) (fun hc2 => ?_)
  · first | replace hc2 := eq_of_beq ((irr_eq _).symm.trans hc2) | simp only [irr_eq, beq_iff_eq, beq_eq_false_iff_ne, ne_eq, decide_eq_true_eq, decide_eq_false_iff_not] at hc2
    cases hc2
  first | replace hc2 := ne_of_beq_false ((irr_eq _).symm.trans hc2) | simp only [irr_eq, beq_iff_eq, beq_eq_false_iff_ne, ne_eq, decide_eq_true_eq, decide_eq_false_iff_not] at hc2
  refine k_skip ?_
  refine SeqK.nx (by assumption) ?_
  refine k_seq (fun Q K => ?_)
  refine k_lin (fun W K => ?_)
  refine l_op 0 rfl rfl rfl rfl rfl ?_
  first
  | refine l_callp F rfl rfl (by kernel_rfl) rfl rfl (mbytes_call (oldM_of F ok 0 1 2 3 4 rfl rfl rfl rfl rfl) ok) (fun y1 s F _ => ?_)
  | refine l_callp F rfl rfl (by kernel_rfl) rfl rfl (mbytes_call (oldM_of F ok' 1 2 3 4 5 rfl rfl rfl rfl rfl) ok') (fun y2 s F _ => ?_)
  (try dsimp only [n_1, n_2, n_3, n_4, List.append_nil, pk, n_5, n_6] at F)
  refine l_op 0 rfl rfl rfl rfl rfl ?_
  refine l_nil (WK.nx (by assumption) ?_)
  refine SeqK.nx (by assumption) ?_
  refine k_seq (fun Q K => ?_)
  refine k_lin (fun W K => ?_)
  refine l_op 0 rfl rfl rfl rfl rfl ?_
  refine l_op 0 rfl rfl rfl rfl rfl ?_
  refine l_op 0 rfl rfl rfl rfl rfl ?_
  refine l_op 0 rfl rfl rfl rfl rfl ?_
  refine l_call F [0, 1, 2, 3, 4] [5] (by decide) rfl rfl (by kernel_rfl) rfl rfl (write_call (F.sub [0, 1, 2, 3, 4] (by decide)) ok ha' hx') hD (fun _ s F _ => ?_)
  have hwl := wrA_len z.bs a n x
  have hwl2 : (z.wb (wrA z.bs a n x)).bs.length = z.bs.length := hwl
  have ok' : MOK (z.wb (wrA z.bs a n x)) := ok.wb hwl (wrA_bytes ok.byt _ _ _)
  obtain ⟨w, hw, hwc⟩ := wr_cases z.bs.length a n
  rw [hw]
  (try dsimp only [n_1, n_2, n_3, n_4, List.append_nil, pk, n_5, n_6] at F)
  refine l_op 0 rfl rfl rfl rfl rfl ?_
  refine l_nil (WK.nx (by assumption) ?_)
  refine SeqK.nx (by assumption) ?_
  refine k_seq (fun Q K => ?_)
  refine k_lin (fun W K => ?_)
  refine l_op 0 rfl rfl rfl rfl rfl ?_
  first
  | refine l_callp F rfl rfl (by kernel_rfl) rfl rfl (mbytes_call (oldM_of F ok 0 1 2 3 4 rfl rfl rfl rfl rfl) ok) (fun y1 s F _ => ?_)
  | refine l_callp F rfl rfl (by kernel_rfl) rfl rfl (mbytes_call (oldM_of F ok' 1 2 3 4 5 rfl rfl rfl rfl rfl) ok') (fun y2 s F _ => ?_)
  (try dsimp only [n_1, n_2, n_3, n_4, List.append_nil, pk, n_5, n_6] at F)
  refine l_op 0 rfl rfl rfl rfl rfl ?_
  refine l_nil (WK.nx (by assumption) ?_)
  refine SeqK.nx (by assumption) ?_
  refine k_seq (fun Q K => ?_)
  refine k_seq (fun Q K => ?_)
  refine k_lin (fun W K => ?_)
  refine l_op 0 rfl rfl rfl rfl rfl ?_
  refine l_callv rfl rfl (by kernel_rfl) rfl rfl num9_call ?_
  (try dsimp only [n_1, n_2, n_3, n_4, List.append_nil, pk, n_5, n_6] at F)
  refine l_cmp rfl rfl rfl rfl ?_
  refine l_nil (WK.nx (by assumption) ?_)
  refine SeqK.nx (by assumption) ?_
  refine l_cond rfl rfl (fun hc3 => ?_) (fun hc3 => ?_)
  · first | replace hc3 := bne_iff_ne.1 ((irr_eq _).symm.trans hc3) | simp only [irr_eq, bne_iff_ne, bne_eq_false_iff_eq, ne_eq, decide_eq_true_eq, decide_eq_false_iff_not, Bool.not_eq_true', Bool.not_eq_false'] at hc3
    refine k_seq (fun Q K => ?_)
    refine k_lin (fun W K => ?_)
    refine l_op 0 rfl rfl rfl rfl rfl ?_
    refine l_op 0 rfl rfl rfl rfl rfl ?_
    have es := wrA_same (x := x) (by omega : wrE z.bs.length a n ≠ 0)
    refine l_callp F rfl rfl (by kernel_rfl) rfl rfl (same_call (xs := z.bs) (ys := wrA z.bs a n x) (Old.pure (F.has 0 rfl)) (Old.pure (F.has 6 rfl))) (fun _ s F _ => ?_)
    rw [es, eqS_self]
    refine l_op 0 rfl rfl rfl rfl rfl ?_
    refine l_guard rfl rfl rfl (fun hc4 => ?_) (fun hc4 => ?_)
    · try simp only [irr_eq, beq_iff_eq, bne_iff_ne, beq_eq_false_iff_ne, bne_eq_false_iff_eq, ne_eq, decide_eq_true_eq, decide_eq_false_iff_not, Bool.not_eq_true', Bool.not_eq_false'] at hc4
      refine l_op 0 rfl rfl rfl rfl rfl ?_
      refine l_callv rfl rfl (by kernel_rfl) rfl rfl num9_call ?_
      (try dsimp only [n_1, n_2, n_3, n_4, List.append_nil, pk, n_5, n_6] at F)
      refine l_cmp rfl rfl rfl rfl ?_
      refine l_op 0 rfl rfl rfl rfl rfl ?_
      refine l_guard rfl rfl rfl (fun hc5 => ?_) (fun hc5 => ?_)
      · first | replace hc5 := eq_of_beq ((irr_eq _).symm.trans hc5) | simp only [irr_eq, beq_iff_eq, beq_eq_false_iff_ne, ne_eq, decide_eq_true_eq, decide_eq_false_iff_not] at hc5
        refine l_op 0 rfl rfl rfl rfl rfl ?_
        refine l_cmp rfl rfl rfl rfl ?_
        refine l_op 2 rfl rfl rfl rfl rfl ?_
        refine l_op 0 rfl rfl rfl rfl rfl ?_
        refine l_guard rfl rfl rfl (fun hc6 => ?_) (fun hc6 => ?_)
        · first | replace hc6 := bne_iff_ne.1 ((irr_eq _).symm.trans hc6) | simp only [irr_eq, bne_iff_ne, bne_eq_false_iff_eq, ne_eq, decide_eq_true_eq, decide_eq_false_iff_not, Bool.not_eq_true', Bool.not_eq_false'] at hc6
          refine l_op 0 rfl rfl rfl rfl rfl ?_
          refine l_cmp rfl rfl rfl rfl ?_
          refine l_op 2 rfl rfl rfl rfl rfl ?_
          refine l_op 0 rfl rfl rfl rfl rfl ?_
          refine l_guard rfl rfl rfl (fun hc7 => ?_) (fun hc7 => ?_)
          · first | replace hc7 := bne_iff_ne.1 ((irr_eq _).symm.trans hc7) | simp only [irr_eq, bne_iff_ne, bne_eq_false_iff_eq, ne_eq, decide_eq_true_eq, decide_eq_false_iff_not, Bool.not_eq_true', Bool.not_eq_false'] at hc7
            refine l_op 0 rfl rfl rfl rfl rfl ?_
            refine l_cmp rfl rfl rfl rfl ?_
            refine l_op 2 rfl rfl rfl rfl rfl ?_
            refine l_op 0 rfl rfl rfl rfl rfl ?_
            refine l_guard rfl rfl rfl (fun hc8 => ?_) (fun hc8 => ?_)
            · first | replace hc8 := bne_iff_ne.1 ((irr_eq _).symm.trans hc8) | simp only [irr_eq, bne_iff_ne, bne_eq_false_iff_eq, ne_eq, decide_eq_true_eq, decide_eq_false_iff_not, Bool.not_eq_true', Bool.not_eq_false'] at hc8
              refine l_s rfl rfl ?_
              refine l_s rfl rfl ?_
              refine l_s rfl rfl ?_
              refine l_s rfl rfl ?_
              refine l_s rfl rfl ?_
              refine l_s rfl rfl ?_
              refine l_s rfl rfl ?_
              refine l_s rfl rfl ?_
              refine l_s rfl rfl ?_
              refine l_s rfl rfl ?_
              refine l_s rfl rfl ?_
              refine l_s rfl rfl ?_
              refine l_s rfl rfl ?_
              refine l_s rfl rfl ?_
              refine l_s rfl rfl ?_
              refine l_s rfl rfl ?_
              refine l_s rfl rfl ?_
              refine l_s rfl rfl ?_
              refine l_op 2 rfl rfl rfl rfl rfl ?_
              refine l_op 2 rfl rfl rfl rfl rfl ?_
              refine l_op 0 rfl rfl rfl rfl rfl ?_
              refine l_callp F rfl rfl (by kernel_rfl) rfl rfl (live9_call E0) (fun _ s F _ => ?_)
              (try dsimp only [n_1, n_2, n_3, n_4, List.append_nil, pk, n_5, n_6] at F)
              refine l_op 2 rfl rfl rfl rfl rfl ?_
              refine l_op 0 rfl rfl rfl rfl rfl ?_
              refine l_nil (WK.nx (by assumption) ?_)
              refine SeqK.nx (by assumption) ?_
              refine k_ret ?_
              refine SeqK.rt (by assumption) ?_
              refine FunK.rt (by assumption) rfl ?_
              -- leaf 2
              first
              | rfl
              | (exfalso; omega)
            first | replace hc8 := bne_eq_false_iff_eq.1 ((irr_eq _).symm.trans hc8) | simp only [irr_eq, bne_iff_ne, bne_eq_false_iff_eq, ne_eq, decide_eq_true_eq, decide_eq_false_iff_not, Bool.not_eq_true', Bool.not_eq_false'] at hc8
            refine l_op 0 rfl rfl rfl rfl rfl ?_
            refine l_callv rfl rfl (by kernel_rfl) rfl rfl num9_call ?_
            (try dsimp only [n_1, n_2, n_3, n_4, List.append_nil, pk, n_5, n_6] at F)
            refine l_cmp rfl rfl rfl rfl ?_
            refine l_op 0 rfl rfl rfl rfl rfl ?_
            refine l_guard rfl rfl rfl (fun hc9 => ?_) (fun hc9 => ?_)
            · first | replace hc9 := eq_of_beq ((irr_eq _).symm.trans hc9) | simp only [irr_eq, beq_iff_eq, beq_eq_false_iff_ne, ne_eq, decide_eq_true_eq, decide_eq_false_iff_not] at hc9
              refine l_op 0 rfl rfl rfl rfl rfl ?_
              refine l_cmp rfl rfl rfl rfl ?_
              refine l_op 0 rfl rfl rfl rfl rfl ?_
              refine l_guard rfl rfl rfl (fun hc10 => ?_) (fun hc10 => ?_)
              · replace hc10 := of_decide_eq_true ((irr_eq _).symm.trans hc10)
                refine l_s rfl rfl ?_
                refine l_s rfl rfl ?_
                refine l_s rfl rfl ?_
                refine l_s rfl rfl ?_
                refine l_s rfl rfl ?_
                refine l_s rfl rfl ?_
                refine l_s rfl rfl ?_
                refine l_s rfl rfl ?_
                refine l_s rfl rfl ?_
                refine l_op 2 rfl rfl rfl rfl rfl ?_
                refine l_op 2 rfl rfl rfl rfl rfl ?_
                refine l_op 2 rfl rfl rfl rfl rfl ?_
                refine l_op 2 rfl rfl rfl rfl rfl ?_
                refine l_op 0 rfl rfl rfl rfl rfl ?_
                refine l_callp F rfl rfl (by kernel_rfl) rfl rfl (live9_call E0) (fun _ s F _ => ?_)
                (try dsimp only [n_1, n_2, n_3, n_4, List.append_nil, pk, n_5, n_6] at F)
                refine l_op 2 rfl rfl rfl rfl rfl ?_
                refine l_op 0 rfl rfl rfl rfl rfl ?_
                refine l_nil (WK.nx (by assumption) ?_)
                refine SeqK.nx (by assumption) ?_
                refine k_ret ?_
                refine SeqK.rt (by assumption) ?_
                refine FunK.rt (by assumption) rfl ?_
                -- leaf 3
                first
                | rfl
                | (exfalso; omega)
              replace hc10 := of_decide_eq_false ((irr_eq _).symm.trans hc10)
              refine l_op 0 rfl rfl rfl rfl rfl ?_
              refine l_cu64 rfl rfl rfl (by omega) rfl ?_
              refine l_op 0 rfl rfl rfl rfl rfl ?_
              refine l_cu64 rfl rfl rfl (by omega) rfl ?_
              refine l_au64 rfl rfl rfl (by omega) rfl ?_
              refine l_op 0 rfl rfl rfl rfl rfl ?_
              first | refine l_op 2 rfl rfl rfl rfl rfl ?_ | refine l_ln rfl rfl rfl rfl ?_
              refine l_cu64 rfl rfl rfl (by omega) rfl ?_
              refine l_cmp rfl rfl rfl rfl ?_
              refine l_op 2 rfl rfl rfl rfl rfl ?_
              refine l_op 2 rfl rfl rfl rfl rfl ?_
              refine l_op 2 rfl rfl rfl rfl rfl ?_
              refine l_op 2 rfl rfl rfl rfl rfl ?_
              refine l_op 0 rfl rfl rfl rfl rfl ?_
              refine l_guard rfl rfl rfl (fun hc11 => ?_) (fun hc11 => ?_)
              · replace hc11 := of_decide_eq_true ((irr_eq _).symm.trans hc11)
                refine l_callp F rfl rfl (by kernel_rfl) rfl rfl (live9_call E0) (fun _ s F _ => ?_)
                (try dsimp only [n_1, n_2, n_3, n_4, List.append_nil, pk, n_5, n_6] at F)
                refine l_op 2 rfl rfl rfl rfl rfl ?_
                refine l_op 0 rfl rfl rfl rfl rfl ?_
                refine l_nil (WK.nx (by assumption) ?_)
                refine SeqK.nx (by assumption) ?_
                refine k_ret ?_
                refine SeqK.rt (by assumption) ?_
                refine FunK.rt (by assumption) rfl ?_
                -- leaf 4
                first
                | rfl
                | (exfalso; omega)
              replace hc11 := of_decide_eq_false ((irr_eq _).symm.trans hc11)
              refine l_s rfl rfl ?_
              refine l_op 2 rfl rfl rfl rfl rfl ?_
              refine l_op 0 rfl rfl rfl rfl rfl ?_
              refine l_nil (WK.nx (by assumption) ?_)
              refine SeqK.nx (by assumption) ?_
              refine k_ret ?_
              refine SeqK.rt (by assumption) ?_
              refine FunK.rt (by assumption) rfl ?_
              -- leaf 5
              first
              | rfl
              | (exfalso; omega)
            first | replace hc9 := ne_of_beq_false ((irr_eq _).symm.trans hc9) | simp only [irr_eq, beq_iff_eq, beq_eq_false_iff_ne, ne_eq, decide_eq_true_eq, decide_eq_false_iff_not] at hc9
            refine l_s rfl rfl ?_
            refine l_s rfl rfl ?_
            refine l_s rfl rfl ?_
            refine l_s rfl rfl ?_
            refine l_s rfl rfl ?_
            refine l_s rfl rfl ?_
            refine l_s rfl rfl ?_
            refine l_s rfl rfl ?_
            refine l_s rfl rfl ?_
            refine l_s rfl rfl ?_
            refine l_s rfl rfl ?_
            refine l_s rfl rfl ?_
            refine l_s rfl rfl ?_
            refine l_op 2 rfl rfl rfl rfl rfl ?_
            refine l_op 2 rfl rfl rfl rfl rfl ?_
            refine l_op 2 rfl rfl rfl rfl rfl ?_
            refine l_op 0 rfl rfl rfl rfl rfl ?_
            refine l_s rfl rfl ?_
            refine l_op 2 rfl rfl rfl rfl rfl ?_
            refine l_op 0 rfl rfl rfl rfl rfl ?_
            refine l_nil (WK.nx (by assumption) ?_)
            refine SeqK.nx (by assumption) ?_
            refine k_ret ?_
            refine SeqK.rt (by assumption) ?_
            refine FunK.rt (by assumption) rfl ?_
            -- leaf 6
            first
            | rfl
            | (exfalso; omega)
          first | replace hc7 := bne_eq_false_iff_eq.1 ((irr_eq _).symm.trans hc7) | simp only [irr_eq, bne_iff_ne, bne_eq_false_iff_eq, ne_eq, decide_eq_true_eq, decide_eq_false_iff_not, Bool.not_eq_true', Bool.not_eq_false'] at hc7
          refine l_s rfl rfl ?_
          refine l_s rfl rfl ?_
          refine l_op 2 rfl rfl rfl rfl rfl ?_
          refine l_op 0 rfl rfl rfl rfl rfl ?_
          refine l_op 0 rfl rfl rfl rfl rfl ?_
          refine l_callv rfl rfl (by kernel_rfl) rfl rfl num9_call ?_
          (try dsimp only [n_1, n_2, n_3, n_4, List.append_nil, pk, n_5, n_6] at F)
          refine l_cmp rfl rfl rfl rfl ?_
          refine l_op 0 rfl rfl rfl rfl rfl ?_
          refine l_guard rfl rfl rfl (fun hc12 => ?_) (fun hc12 => ?_)
          · first | replace hc12 := eq_of_beq ((irr_eq _).symm.trans hc12) | simp only [irr_eq, beq_iff_eq, beq_eq_false_iff_ne, ne_eq, decide_eq_true_eq, decide_eq_false_iff_not] at hc12
            refine l_op 0 rfl rfl rfl rfl rfl ?_
            refine l_cmp rfl rfl rfl rfl ?_
            refine l_op 0 rfl rfl rfl rfl rfl ?_
            refine l_guard rfl rfl rfl (fun hc13 => ?_) (fun hc13 => ?_)
            · replace hc13 := of_decide_eq_true ((irr_eq _).symm.trans hc13)
              refine l_s rfl rfl ?_
              refine l_s rfl rfl ?_
              refine l_s rfl rfl ?_
              refine l_s rfl rfl ?_
              refine l_s rfl rfl ?_
              refine l_s rfl rfl ?_
              refine l_s rfl rfl ?_
              refine l_s rfl rfl ?_
              refine l_s rfl rfl ?_
              refine l_op 2 rfl rfl rfl rfl rfl ?_
              refine l_op 2 rfl rfl rfl rfl rfl ?_
              refine l_op 2 rfl rfl rfl rfl rfl ?_
              refine l_op 2 rfl rfl rfl rfl rfl ?_
              refine l_op 0 rfl rfl rfl rfl rfl ?_
              refine l_callp F rfl rfl (by kernel_rfl) rfl rfl (live9_call E0) (fun _ s F _ => ?_)
              (try dsimp only [n_1, n_2, n_3, n_4, List.append_nil, pk, n_5, n_6] at F)
              refine l_op 2 rfl rfl rfl rfl rfl ?_
              refine l_op 0 rfl rfl rfl rfl rfl ?_
              refine l_nil (WK.nx (by assumption) ?_)
              refine SeqK.nx (by assumption) ?_
              refine k_ret ?_
              refine SeqK.rt (by assumption) ?_
              refine FunK.rt (by assumption) rfl ?_
              -- leaf 7
              first
              | rfl
              | (exfalso; omega)
            replace hc13 := of_decide_eq_false ((irr_eq _).symm.trans hc13)
            refine l_op 0 rfl rfl rfl rfl rfl ?_
            refine l_cu64 rfl rfl rfl (by omega) rfl ?_
            refine l_op 0 rfl rfl rfl rfl rfl ?_
            refine l_cu64 rfl rfl rfl (by omega) rfl ?_
            refine l_au64 rfl rfl rfl (by omega) rfl ?_
            refine l_op 0 rfl rfl rfl rfl rfl ?_
            first | refine l_op 2 rfl rfl rfl rfl rfl ?_ | refine l_ln rfl rfl rfl rfl ?_
            refine l_cu64 rfl rfl rfl (by omega) rfl ?_
            refine l_cmp rfl rfl rfl rfl ?_
            refine l_op 2 rfl rfl rfl rfl rfl ?_
            refine l_op 2 rfl rfl rfl rfl rfl ?_
            refine l_op 2 rfl rfl rfl rfl rfl ?_
            refine l_op 2 rfl rfl rfl rfl rfl ?_
            refine l_op 0 rfl rfl rfl rfl rfl ?_
            refine l_guard rfl rfl rfl (fun hc14 => ?_) (fun hc14 => ?_)
            · replace hc14 := of_decide_eq_true ((irr_eq _).symm.trans hc14)
              refine l_callp F rfl rfl (by kernel_rfl) rfl rfl (live9_call E0) (fun _ s F _ => ?_)
              (try dsimp only [n_1, n_2, n_3, n_4, List.append_nil, pk, n_5, n_6] at F)
              refine l_op 2 rfl rfl rfl rfl rfl ?_
              refine l_op 0 rfl rfl rfl rfl rfl ?_
              refine l_nil (WK.nx (by assumption) ?_)
              refine SeqK.nx (by assumption) ?_
              refine k_ret ?_
              refine SeqK.rt (by assumption) ?_
              refine FunK.rt (by assumption) rfl ?_
              -- leaf 8
              first
              | rfl
              | (exfalso; omega)
            replace hc14 := of_decide_eq_false ((irr_eq _).symm.trans hc14)
            refine l_s rfl rfl ?_
            refine l_op 2 rfl rfl rfl rfl rfl ?_
            refine l_op 0 rfl rfl rfl rfl rfl ?_
            refine l_nil (WK.nx (by assumption) ?_)
            refine SeqK.nx (by assumption) ?_
            refine k_ret ?_
            refine SeqK.rt (by assumption) ?_
            refine FunK.rt (by assumption) rfl ?_
            -- leaf 9
            first
            | rfl
            | (exfalso; omega)
          first | replace hc12 := ne_of_beq_false ((irr_eq _).symm.trans hc12) | simp only [irr_eq, beq_iff_eq, beq_eq_false_iff_ne, ne_eq, decide_eq_true_eq, decide_eq_false_iff_not] at hc12
          refine l_s rfl rfl ?_
          refine l_s rfl rfl ?_
          refine l_s rfl rfl ?_
          refine l_s rfl rfl ?_
          refine l_s rfl rfl ?_
          refine l_s rfl rfl ?_
          refine l_s rfl rfl ?_
          refine l_s rfl rfl ?_
          refine l_s rfl rfl ?_
          refine l_s rfl rfl ?_
          refine l_s rfl rfl ?_
          refine l_s rfl rfl ?_
          refine l_s rfl rfl ?_
          refine l_op 2 rfl rfl rfl rfl rfl ?_
          refine l_op 2 rfl rfl rfl rfl rfl ?_
          refine l_op 2 rfl rfl rfl rfl rfl ?_
          refine l_op 0 rfl rfl rfl rfl rfl ?_
          refine l_s rfl rfl ?_
          refine l_op 2 rfl rfl rfl rfl rfl ?_
          refine l_op 0 rfl rfl rfl rfl rfl ?_
          refine l_nil (WK.nx (by assumption) ?_)
          refine SeqK.nx (by assumption) ?_
          refine k_ret ?_
          refine SeqK.rt (by assumption) ?_
          refine FunK.rt (by assumption) rfl ?_
          -- leaf 10
          first
          | rfl
          | (exfalso; omega)
        first | replace hc6 := bne_eq_false_iff_eq.1 ((irr_eq _).symm.trans hc6) | simp only [irr_eq, bne_iff_ne, bne_eq_false_iff_eq, ne_eq, decide_eq_true_eq, decide_eq_false_iff_not, Bool.not_eq_true', Bool.not_eq_false'] at hc6
        refine l_s rfl rfl ?_
        refine l_s rfl rfl ?_
        refine l_op 2 rfl rfl rfl rfl rfl ?_
        refine l_op 0 rfl rfl rfl rfl rfl ?_
        refine l_s rfl rfl ?_
        refine l_s rfl rfl ?_
        refine l_op 2 rfl rfl rfl rfl rfl ?_
        refine l_op 0 rfl rfl rfl rfl rfl ?_
        refine l_op 0 rfl rfl rfl rfl rfl ?_
        refine l_callv rfl rfl (by kernel_rfl) rfl rfl num9_call ?_
        (try dsimp only [n_1, n_2, n_3, n_4, List.append_nil, pk, n_5, n_6] at F)
        refine l_cmp rfl rfl rfl rfl ?_
        refine l_op 0 rfl rfl rfl rfl rfl ?_
        refine l_guard rfl rfl rfl (fun hc15 => ?_) (fun hc15 => ?_)
        · first | replace hc15 := eq_of_beq ((irr_eq _).symm.trans hc15) | simp only [irr_eq, beq_iff_eq, beq_eq_false_iff_ne, ne_eq, decide_eq_true_eq, decide_eq_false_iff_not] at hc15
          refine l_op 0 rfl rfl rfl rfl rfl ?_
          refine l_cmp rfl rfl rfl rfl ?_
          refine l_op 0 rfl rfl rfl rfl rfl ?_
          refine l_guard rfl rfl rfl (fun hc16 => ?_) (fun hc16 => ?_)
          · replace hc16 := of_decide_eq_true ((irr_eq _).symm.trans hc16)
            refine l_s rfl rfl ?_
            refine l_s rfl rfl ?_
            refine l_s rfl rfl ?_
            refine l_s rfl rfl ?_
            refine l_s rfl rfl ?_
            refine l_s rfl rfl ?_
            refine l_s rfl rfl ?_
            refine l_s rfl rfl ?_
            refine l_s rfl rfl ?_
            refine l_op 2 rfl rfl rfl rfl rfl ?_
            refine l_op 2 rfl rfl rfl rfl rfl ?_
            refine l_op 2 rfl rfl rfl rfl rfl ?_
            refine l_op 2 rfl rfl rfl rfl rfl ?_
            refine l_op 0 rfl rfl rfl rfl rfl ?_
            refine l_callp F rfl rfl (by kernel_rfl) rfl rfl (live9_call E0) (fun _ s F _ => ?_)
            (try dsimp only [n_1, n_2, n_3, n_4, List.append_nil, pk, n_5, n_6] at F)
            refine l_op 2 rfl rfl rfl rfl rfl ?_
            refine l_op 0 rfl rfl rfl rfl rfl ?_
            refine l_nil (WK.nx (by assumption) ?_)
            refine SeqK.nx (by assumption) ?_
            refine k_ret ?_
            refine SeqK.rt (by assumption) ?_
            refine FunK.rt (by assumption) rfl ?_
            -- leaf 11
            first
            | rfl
            | (exfalso; omega)
          replace hc16 := of_decide_eq_false ((irr_eq _).symm.trans hc16)
          refine l_op 0 rfl rfl rfl rfl rfl ?_
          refine l_cu64 rfl rfl rfl (by omega) rfl ?_
          refine l_op 0 rfl rfl rfl rfl rfl ?_
          refine l_cu64 rfl rfl rfl (by omega) rfl ?_
          refine l_au64 rfl rfl rfl (by omega) rfl ?_
          refine l_op 0 rfl rfl rfl rfl rfl ?_
          first | refine l_op 2 rfl rfl rfl rfl rfl ?_ | refine l_ln rfl rfl rfl rfl ?_
          refine l_cu64 rfl rfl rfl (by omega) rfl ?_
          refine l_cmp rfl rfl rfl rfl ?_
          refine l_op 2 rfl rfl rfl rfl rfl ?_
          refine l_op 2 rfl rfl rfl rfl rfl ?_
          refine l_op 2 rfl rfl rfl rfl rfl ?_
          refine l_op 2 rfl rfl rfl rfl rfl ?_
          refine l_op 0 rfl rfl rfl rfl rfl ?_
          refine l_guard rfl rfl rfl (fun hc17 => ?_) (fun hc17 => ?_)
          · replace hc17 := of_decide_eq_true ((irr_eq _).symm.trans hc17)
            refine l_callp F rfl rfl (by kernel_rfl) rfl rfl (live9_call E0) (fun _ s F _ => ?_)
            (try dsimp only [n_1, n_2, n_3, n_4, List.append_nil, pk, n_5, n_6] at F)
            refine l_op 2 rfl rfl rfl rfl rfl ?_
            refine l_op 0 rfl rfl rfl rfl rfl ?_
            refine l_nil (WK.nx (by assumption) ?_)
            refine SeqK.nx (by assumption) ?_
            refine k_ret ?_
            refine SeqK.rt (by assumption) ?_
            refine FunK.rt (by assumption) rfl ?_
            -- leaf 12
            first
            | rfl
            | (exfalso; omega)
          replace hc17 := of_decide_eq_false ((irr_eq _).symm.trans hc17)
          refine l_s rfl rfl ?_
          refine l_op 2 rfl rfl rfl rfl rfl ?_
          refine l_op 0 rfl rfl rfl rfl rfl ?_
          refine l_nil (WK.nx (by assumption) ?_)
          refine SeqK.nx (by assumption) ?_
          refine k_ret ?_
          refine SeqK.rt (by assumption) ?_
          refine FunK.rt (by assumption) rfl ?_
          -- leaf 13
          first
          | rfl
          | (exfalso; omega)
        first | replace hc15 := ne_of_beq_false ((irr_eq _).symm.trans hc15) | simp only [irr_eq, beq_iff_eq, beq_eq_false_iff_ne, ne_eq, decide_eq_true_eq, decide_eq_false_iff_not] at hc15
        refine l_s rfl rfl ?_
        refine l_s rfl rfl ?_
        refine l_s rfl rfl ?_
        refine l_s rfl rfl ?_
        refine l_s rfl rfl ?_
        refine l_s rfl rfl ?_
        refine l_s rfl rfl ?_
        refine l_s rfl rfl ?_
        refine l_s rfl rfl ?_
        refine l_s rfl rfl ?_
        refine l_s rfl rfl ?_
        refine l_s rfl rfl ?_
        refine l_s rfl rfl ?_
        refine l_op 2 rfl rfl rfl rfl rfl ?_
        refine l_op 2 rfl rfl rfl rfl rfl ?_
        refine l_op 2 rfl rfl rfl rfl rfl ?_
        refine l_op 0 rfl rfl rfl rfl rfl ?_
        refine l_s rfl rfl ?_
        refine l_op 2 rfl rfl rfl rfl rfl ?_
        refine l_op 0 rfl rfl rfl rfl rfl ?_
        refine l_nil (WK.nx (by assumption) ?_)
        refine SeqK.nx (by assumption) ?_
        refine k_ret ?_
        refine SeqK.rt (by assumption) ?_
        refine FunK.rt (by assumption) rfl ?_
        -- leaf 14
        first
        | rfl
        | (exfalso; omega)
      first | replace hc5 := ne_of_beq_false ((irr_eq _).symm.trans hc5) | simp only [irr_eq, beq_iff_eq, beq_eq_false_iff_ne, ne_eq, decide_eq_true_eq, decide_eq_false_iff_not] at hc5
      refine l_s rfl rfl ?_
      refine l_s rfl rfl ?_
      refine l_op 2 rfl rfl rfl rfl rfl ?_
      refine l_op 0 rfl rfl rfl rfl rfl ?_
      refine l_s rfl rfl ?_
      refine l_s rfl rfl ?_
      refine l_op 2 rfl rfl rfl rfl rfl ?_
      refine l_op 0 rfl rfl rfl rfl rfl ?_
      refine l_s rfl rfl ?_
      refine l_s rfl rfl ?_
      refine l_op 2 rfl rfl rfl rfl rfl ?_
      refine l_op 0 rfl rfl rfl rfl rfl ?_
      refine l_op 0 rfl rfl rfl rfl rfl ?_
      refine l_callv rfl rfl (by kernel_rfl) rfl rfl num9_call ?_
      (try dsimp only [n_1, n_2, n_3, n_4, List.append_nil, pk, n_5, n_6] at F)
      refine l_cmp rfl rfl rfl rfl ?_
      refine l_op 0 rfl rfl rfl rfl rfl ?_
      refine l_guard rfl rfl rfl (fun hc18 => ?_) (fun hc18 => ?_)
      · first | replace hc18 := eq_of_beq ((irr_eq _).symm.trans hc18) | simp only [irr_eq, beq_iff_eq, beq_eq_false_iff_ne, ne_eq, decide_eq_true_eq, decide_eq_false_iff_not] at hc18
        refine l_op 0 rfl rfl rfl rfl rfl ?_
        refine l_cmp rfl rfl rfl rfl ?_
        refine l_op 0 rfl rfl rfl rfl rfl ?_
        refine l_guard rfl rfl rfl (fun hc19 => ?_) (fun hc19 => ?_)
        · replace hc19 := of_decide_eq_true ((irr_eq _).symm.trans hc19)
          refine l_s rfl rfl ?_
          refine l_s rfl rfl ?_
          refine l_s rfl rfl ?_
          refine l_s rfl rfl ?_
          refine l_s rfl rfl ?_
          refine l_s rfl rfl ?_
          refine l_s rfl rfl ?_
          refine l_s rfl rfl ?_
          refine l_s rfl rfl ?_
          refine l_op 2 rfl rfl rfl rfl rfl ?_
          refine l_op 2 rfl rfl rfl rfl rfl ?_
          refine l_op 2 rfl rfl rfl rfl rfl ?_
          refine l_op 2 rfl rfl rfl rfl rfl ?_
          refine l_op 0 rfl rfl rfl rfl rfl ?_
          refine l_callp F rfl rfl (by kernel_rfl) rfl rfl (live9_call E0) (fun _ s F _ => ?_)
          (try dsimp only [n_1, n_2, n_3, n_4, List.append_nil, pk, n_5, n_6] at F)
          refine l_op 2 rfl rfl rfl rfl rfl ?_
          refine l_op 0 rfl rfl rfl rfl rfl ?_
          refine l_nil (WK.nx (by assumption) ?_)
          refine SeqK.nx (by assumption) ?_
          refine k_ret ?_
          refine SeqK.rt (by assumption) ?_
          refine FunK.rt (by assumption) rfl ?_
          -- leaf 15
          first
          | rfl
          | (exfalso; omega)
        replace hc19 := of_decide_eq_false ((irr_eq _).symm.trans hc19)
        refine l_op 0 rfl rfl rfl rfl rfl ?_
        refine l_cu64 rfl rfl rfl (by omega) rfl ?_
        refine l_op 0 rfl rfl rfl rfl rfl ?_
        refine l_cu64 rfl rfl rfl (by omega) rfl ?_
        refine l_au64 rfl rfl rfl (by omega) rfl ?_
        refine l_op 0 rfl rfl rfl rfl rfl ?_
        first | refine l_op 2 rfl rfl rfl rfl rfl ?_ | refine l_ln rfl rfl rfl rfl ?_
        refine l_cu64 rfl rfl rfl (by omega) rfl ?_
        refine l_cmp rfl rfl rfl rfl ?_
        refine l_op 2 rfl rfl rfl rfl rfl ?_
        refine l_op 2 rfl rfl rfl rfl rfl ?_
        refine l_op 2 rfl rfl rfl rfl rfl ?_
        refine l_op 2 rfl rfl rfl rfl rfl ?_
        refine l_op 0 rfl rfl rfl rfl rfl ?_
        refine l_guard rfl rfl rfl (fun hc20 => ?_) (fun hc20 => ?_)
        · replace hc20 := of_decide_eq_true ((irr_eq _).symm.trans hc20)
          refine l_callp F rfl rfl (by kernel_rfl) rfl rfl (live9_call E0) (fun _ s F _ => ?_)
          (try dsimp only [n_1, n_2, n_3, n_4, List.append_nil, pk, n_5, n_6] at F)
          refine l_op 2 rfl rfl rfl rfl rfl ?_
          refine l_op 0 rfl rfl rfl rfl rfl ?_
          refine l_nil (WK.nx (by assumption) ?_)
          refine SeqK.nx (by assumption) ?_
          refine k_ret ?_
          refine SeqK.rt (by assumption) ?_
          refine FunK.rt (by assumption) rfl ?_
          -- leaf 16
          first
          | rfl
          | (exfalso; omega)
        replace hc20 := of_decide_eq_false ((irr_eq _).symm.trans hc20)
        refine l_s rfl rfl ?_
        refine l_op 2 rfl rfl rfl rfl rfl ?_
        refine l_op 0 rfl rfl rfl rfl rfl ?_
        refine l_nil (WK.nx (by assumption) ?_)
        refine SeqK.nx (by assumption) ?_
        refine k_ret ?_
        refine SeqK.rt (by assumption) ?_
        refine FunK.rt (by assumption) rfl ?_
        -- leaf 17
        first
        | rfl
        | (exfalso; omega)
      first | replace hc18 := ne_of_beq_false ((irr_eq _).symm.trans hc18) | simp only [irr_eq, beq_iff_eq, beq_eq_false_iff_ne, ne_eq, decide_eq_true_eq, decide_eq_false_iff_not] at hc18
      refine l_s rfl rfl ?_
      refine l_s rfl rfl ?_
      refine l_s rfl rfl ?_
      refine l_s rfl rfl ?_
      refine l_s rfl rfl ?_
      refine l_s rfl rfl ?_
      refine l_s rfl rfl ?_
      refine l_s rfl rfl ?_
      refine l_s rfl rfl ?_
      refine l_s rfl rfl ?_
      refine l_s rfl rfl ?_
      refine l_s rfl rfl ?_
      refine l_s rfl rfl ?_
      refine l_op 2 rfl rfl rfl rfl rfl ?_
      refine l_op 2 rfl rfl rfl rfl rfl ?_
      refine l_op 2 rfl rfl rfl rfl rfl ?_
      refine l_op 0 rfl rfl rfl rfl rfl ?_
      refine l_s rfl rfl ?_
      refine l_op 2 rfl rfl rfl rfl rfl ?_
      refine l_op 0 rfl rfl rfl rfl rfl ?_
      refine l_nil (WK.nx (by assumption) ?_)
      refine SeqK.nx (by assumption) ?_
      refine k_ret ?_
      refine SeqK.rt (by assumption) ?_
      refine FunK.rt (by assumption) rfl ?_
      -- leaf 18
      first
      | rfl
      | (exfalso; omega)
    exact absurd ((irr_eq _).symm.trans hc4) (by decide)
  first | replace hc3 := bne_eq_false_iff_eq.1 ((irr_eq _).symm.trans hc3) | simp only [irr_eq, bne_iff_ne, bne_eq_false_iff_eq, ne_eq, decide_eq_true_eq, decide_eq_false_iff_not, Bool.not_eq_true', Bool.not_eq_false'] at hc3
  refine k_skip ?_
  refine SeqK.nx (by assumption) ?_
  refine k_seq (fun Q K => ?_)
  refine k_lin (fun W K => ?_)
  refine l_op 0 rfl rfl rfl rfl rfl ?_
  refine l_op 0 rfl rfl rfl rfl rfl ?_
  refine l_op 0 rfl rfl rfl rfl rfl ?_
  have hz0 : wrE z.bs.length a n = 0 := by omega
  have hsz : n = 1 ∨ n = 2 ∨ n = 4 := by omega
  have ep := wrA_put (x := x) hz0
  obtain ⟨p, hp, hpc⟩ := pow256 hsz
  refine l_callp F rfl rfl (by kernel_rfl) rfl rfl (read_call (oldM_of F ok' 1 2 3 4 5 rfl rfl rfl rfl rfl) ok' ha') (fun yr s F hyr => ?_)
  have er : yr = (x % p, 0) := by
    rw [hyr, if_neg (by omega), if_pos (by show a + n ≤ ((wrA z.bs a n x).length : Int); omega)]
    show (be (wrA z.bs a n x) a.toNat n.toNat, (0 : Int)) = _
    rw [ep, putB_be hsz (by omega) (by omega), hp]
  subst er
  clear hyr
  (try dsimp only [n_1, n_2, n_3, n_4, List.append_nil, pk, n_5, n_6] at F)
  refine l_op 0 rfl rfl rfl rfl rfl ?_
  refine l_op 2 rfl rfl rfl rfl rfl ?_
  refine l_op 2 rfl rfl rfl rfl rfl ?_
  refine l_op 0 rfl rfl rfl rfl rfl ?_
  refine l_op 0 rfl rfl rfl rfl rfl ?_
  refine l_nil (WK.nx (by assumption) ?_)
  refine SeqK.nx (by assumption) ?_
  refine k_seq (fun Q K => ?_)
  refine k_seq (fun Q K => ?_)
  refine k_lin (fun W K => ?_)
  refine l_op 0 rfl rfl rfl rfl rfl ?_
  refine l_callv rfl rfl (by kernel_rfl) rfl rfl num9_call ?_
  (try dsimp only [n_1, n_2, n_3, n_4, List.append_nil, pk, n_5, n_6] at F)
  refine l_cmp rfl rfl rfl rfl ?_
  refine l_op 0 rfl rfl rfl rfl rfl ?_
  refine l_guard rfl rfl rfl (fun hc21 => ?_) (fun hc21 => ?_)
  · first | replace hc21 := bne_iff_ne.1 ((irr_eq _).symm.trans hc21) | simp only [irr_eq, bne_iff_ne, bne_eq_false_iff_eq, ne_eq, decide_eq_true_eq, decide_eq_false_iff_not, Bool.not_eq_true', Bool.not_eq_false'] at hc21
    refine l_s rfl rfl ?_
    refine l_s rfl rfl ?_
    refine l_s rfl rfl ?_
    refine l_s rfl rfl ?_
    refine l_s rfl rfl ?_
    refine l_op 2 rfl rfl rfl rfl rfl ?_
    refine l_op 0 rfl rfl rfl rfl rfl ?_
    refine l_s rfl rfl ?_
    refine l_s rfl rfl ?_
    refine l_s rfl rfl ?_
    refine l_s rfl rfl ?_
    refine l_s rfl rfl ?_
    refine l_s rfl rfl ?_
    refine l_s rfl rfl ?_
    refine l_s rfl rfl ?_
    refine l_s rfl rfl ?_
    refine l_s rfl rfl ?_
    refine l_s rfl rfl ?_
    refine l_s rfl rfl ?_
    refine l_op 2 rfl rfl rfl rfl rfl ?_
    refine l_op 0 rfl rfl rfl rfl rfl ?_
    refine l_s rfl rfl ?_
    refine l_s rfl rfl ?_
    refine l_s rfl rfl ?_
    refine l_s rfl rfl ?_
    refine l_s rfl rfl ?_
    refine l_s rfl rfl ?_
    refine l_s rfl rfl ?_
    refine l_op 2 rfl rfl rfl rfl rfl ?_
    refine l_nil (WK.nx (by assumption) ?_)
    refine SeqK.nx (by assumption) ?_
    first | refine e_cond_t rfl rfl rfl ?_ | refine e_cond_t rfl rfl (by rw [irr_eq]; first | exact beq_iff_eq.2 (by assumption) | exact decide_eq_true (by assumption) | exact bne_iff_ne.2 (by assumption)) ?_
    refine k_seq (fun Q K => ?_)
    refine k_lin (fun W K => ?_)
    refine l_op 0 rfl rfl rfl rfl rfl ?_
    refine l_nil (WK.nx (by assumption) ?_)
    refine SeqK.nx (by assumption) ?_
    refine k_ret ?_
    refine SeqK.rt (by assumption) ?_
    refine FunK.rt (by assumption) rfl ?_
    -- leaf 19
    first
    | rfl
    | (exfalso; omega)
  first | replace hc21 := bne_eq_false_iff_eq.1 ((irr_eq _).symm.trans hc21) | simp only [irr_eq, bne_iff_ne, bne_eq_false_iff_eq, ne_eq, decide_eq_true_eq, decide_eq_false_iff_not, Bool.not_eq_true', Bool.not_eq_false'] at hc21
  refine l_op 0 rfl rfl rfl rfl rfl ?_
  first | refine l_op 2 rfl rfl rfl rfl rfl ?_ | refine l_ln rfl rfl rfl rfl ?_
  refine l_op 0 rfl rfl rfl rfl rfl ?_
  first | refine l_op 2 rfl rfl rfl rfl rfl ?_ | refine l_ln rfl rfl rfl rfl ?_
  refine l_cmp rfl rfl rfl rfl ?_
  refine l_op 2 rfl rfl rfl rfl rfl ?_
  refine l_op 0 rfl rfl rfl rfl rfl ?_
  refine l_guard rfl rfl rfl (fun hc22 => ?_) (fun hc22 => ?_)
  · first | replace hc22 := bne_iff_ne.1 ((irr_eq _).symm.trans hc22) | simp only [irr_eq, bne_iff_ne, bne_eq_false_iff_eq, ne_eq, decide_eq_true_eq, decide_eq_false_iff_not, Bool.not_eq_true', Bool.not_eq_false'] at hc22
    refine l_s rfl rfl ?_
    refine l_s rfl rfl ?_
    refine l_s rfl rfl ?_
    refine l_s rfl rfl ?_
    refine l_s rfl rfl ?_
    refine l_s rfl rfl ?_
    refine l_s rfl rfl ?_
    refine l_s rfl rfl ?_
    refine l_s rfl rfl ?_
    refine l_s rfl rfl ?_
    refine l_s rfl rfl ?_
    refine l_s rfl rfl ?_
    refine l_op 2 rfl rfl rfl rfl rfl ?_
    refine l_op 0 rfl rfl rfl rfl rfl ?_
    refine l_s rfl rfl ?_
    refine l_s rfl rfl ?_
    refine l_s rfl rfl ?_
    refine l_s rfl rfl ?_
    refine l_s rfl rfl ?_
    refine l_s rfl rfl ?_
    refine l_s rfl rfl ?_
    refine l_op 2 rfl rfl rfl rfl rfl ?_
    refine l_nil (WK.nx (by assumption) ?_)
    refine SeqK.nx (by assumption) ?_
    first | refine e_cond_t rfl rfl rfl ?_ | refine e_cond_t rfl rfl (by rw [irr_eq]; first | exact beq_iff_eq.2 (by assumption) | exact decide_eq_true (by assumption) | exact bne_iff_ne.2 (by assumption)) ?_
    refine k_seq (fun Q K => ?_)
    refine k_lin (fun W K => ?_)
    refine l_op 0 rfl rfl rfl rfl rfl ?_
    refine l_nil (WK.nx (by assumption) ?_)
    refine SeqK.nx (by assumption) ?_
    refine k_ret ?_
    refine SeqK.rt (by assumption) ?_
    refine FunK.rt (by assumption) rfl ?_
    -- leaf 20
    first
    | rfl
    | (exfalso; omega)
  first | replace hc22 := bne_eq_false_iff_eq.1 ((irr_eq _).symm.trans hc22) | simp only [irr_eq, bne_iff_ne, bne_eq_false_iff_eq, ne_eq, decide_eq_true_eq, decide_eq_false_iff_not, Bool.not_eq_true', Bool.not_eq_false'] at hc22
  refine l_op 0 rfl rfl rfl rfl rfl ?_
  refine l_cmp rfl rfl rfl rfl ?_
  refine l_op 0 rfl rfl rfl rfl rfl ?_
  refine l_guard rfl rfl rfl (fun hc23 => ?_) (fun hc23 => ?_)
  · replace hc23 := of_decide_eq_true ((irr_eq _).symm.trans hc23)
    refine l_op 0 rfl rfl rfl rfl rfl ?_
    refine l_op 0 rfl rfl rfl rfl rfl ?_
    refine l_op 0 rfl rfl rfl rfl rfl ?_
    refine l_a64 rfl rfl rfl (by omega) rfl ?_
    refine l_sh p rfl rfl rfl rfl rfl (by omega) (.inr ⟨rfl, shlN (by omega)⟩) ?_
    refine l_a32 rfl rfl rfl (by omega) rfl ?_
    refine l_op 2 rfl rfl rfl rfl rfl ?_
    rw [andM (by omega) x0 x1]
    refine l_cmp rfl rfl rfl rfl ?_
    refine l_op 2 rfl rfl rfl rfl rfl ?_
    refine l_op 2 rfl rfl rfl rfl rfl ?_
    refine l_op 0 rfl rfl rfl rfl rfl ?_
    refine l_guard rfl rfl rfl (fun hc24 => ?_) (fun hc24 => ?_)
    · first | replace hc24 := bne_iff_ne.1 ((irr_eq _).symm.trans hc24) | simp only [irr_eq, bne_iff_ne, bne_eq_false_iff_eq, ne_eq, decide_eq_true_eq, decide_eq_false_iff_not, Bool.not_eq_true', Bool.not_eq_false'] at hc24
      refine l_s rfl rfl ?_
      refine l_s rfl rfl ?_
      refine l_s rfl rfl ?_
      refine l_s rfl rfl ?_
      refine l_s rfl rfl ?_
      refine l_s rfl rfl ?_
      refine l_s rfl rfl ?_
      refine l_op 2 rfl rfl rfl rfl rfl ?_
      refine l_nil (WK.nx (by assumption) ?_)
      refine SeqK.nx (by assumption) ?_
      first | refine e_cond_t rfl rfl rfl ?_ | refine e_cond_t rfl rfl (by rw [irr_eq]; first | exact beq_iff_eq.2 (by assumption) | exact decide_eq_true (by assumption) | exact bne_iff_ne.2 (by assumption)) ?_
      refine k_seq (fun Q K => ?_)
      refine k_lin (fun W K => ?_)
      refine l_op 0 rfl rfl rfl rfl rfl ?_
      refine l_nil (WK.nx (by assumption) ?_)
      refine SeqK.nx (by assumption) ?_
      refine k_ret ?_
      refine SeqK.rt (by assumption) ?_
      refine FunK.rt (by assumption) rfl ?_
      -- leaf 21
      first
      | rfl
      | (exfalso; omega)
    first | replace hc24 := bne_eq_false_iff_eq.1 ((irr_eq _).symm.trans hc24) | simp only [irr_eq, bne_iff_ne, bne_eq_false_iff_eq, ne_eq, decide_eq_true_eq, decide_eq_false_iff_not, Bool.not_eq_true', Bool.not_eq_false'] at hc24
    refine l_op 0 rfl rfl rfl rfl rfl ?_
    refine l_cmp rfl rfl rfl rfl ?_
    refine l_op 0 rfl rfl rfl rfl rfl ?_
    refine l_guard rfl rfl rfl (fun hc25 => ?_) (fun hc25 => ?_)
    · first | replace hc25 := eq_of_beq ((irr_eq _).symm.trans hc25) | simp only [irr_eq, beq_iff_eq, beq_eq_false_iff_ne, ne_eq, decide_eq_true_eq, decide_eq_false_iff_not] at hc25
      have hp4 : p = 4294967296 := by omega
      subst hp4
      refine l_op 0 rfl rfl rfl rfl rfl ?_
      refine l_op 0 rfl rfl rfl rfl rfl ?_
      refine l_cmp rfl rfl rfl rfl ?_
      refine l_op 2 rfl rfl rfl rfl rfl ?_
      refine l_op 2 rfl rfl rfl rfl rfl ?_
      refine l_nil (WK.nx (by assumption) ?_)
      refine SeqK.nx (by assumption) ?_
      refine l_cond rfl rfl (fun hc26 => ?_) (fun hc26 => ?_)
      · first | replace hc26 := bne_iff_ne.1 ((irr_eq _).symm.trans hc26) | simp only [irr_eq, bne_iff_ne, bne_eq_false_iff_eq, ne_eq, decide_eq_true_eq, decide_eq_false_iff_not, Bool.not_eq_true', Bool.not_eq_false'] at hc26
        refine k_seq (fun Q K => ?_)
        refine k_lin (fun W K => ?_)
        refine l_op 0 rfl rfl rfl rfl rfl ?_
        refine l_nil (WK.nx (by assumption) ?_)
        refine SeqK.nx (by assumption) ?_
        refine k_ret ?_
        refine SeqK.rt (by assumption) ?_
        refine FunK.rt (by assumption) rfl ?_
        -- leaf 22
        first
        | rfl
        | (exfalso; omega)
      first | replace hc26 := bne_eq_false_iff_eq.1 ((irr_eq _).symm.trans hc26) | simp only [irr_eq, bne_iff_ne, bne_eq_false_iff_eq, ne_eq, decide_eq_true_eq, decide_eq_false_iff_not, Bool.not_eq_true', Bool.not_eq_false'] at hc26
      refine k_skip ?_
      refine SeqK.nx (by assumption) ?_
      refine k_seq (fun Q K => ?_)
      refine k_lin (fun W K => ?_)
      refine l_op 0 rfl rfl rfl rfl rfl ?_
      refine l_c64 rfl rfl rfl (by omega) rfl ?_
      refine l_op 0 rfl rfl rfl rfl rfl ?_
      refine l_nil (WK.nx (by assumption) ?_)
      refine SeqK.nx (by assumption) ?_
      refine k_seq (fun Q K => ?_)
      refine k_linr mixed (by kernel_rfl) (fun W K => ?_)
      try have hpS := F.pns
      refine l_op 0 rfl rfl rfl rfl rfl ?_
      refine l_cmp rfl rfl rfl rfl ?_
      refine l_op 0 rfl rfl rfl rfl rfl ?_
      refine l_guard rfl rfl rfl (fun hc27 => ?_) (fun hc27 => ?_)
      · replace hc27 := of_decide_eq_true ((irr_eq _).symm.trans hc27)
        refine l_op 0 rfl rfl rfl rfl rfl ?_
        refine l_op 0 rfl rfl rfl rfl rfl ?_
        refine l_slh (es := 1) rfl rfl rfl rfl rfl ⟨rfl, _, _, rfl, by omega, rfl⟩ (F.has 0 rfl) (by omega) ?_
        refine l_op 0 rfl rfl rfl rfl rfl ?_
        refine l_op 0 rfl rfl rfl rfl rfl ?_
        refine l_slh (es := 1) rfl rfl rfl rfl rfl ⟨rfl, _, _, rfl, by omega, rfl⟩ (F.has 6 rfl) (by omega) ?_
        refine l_callp F rfl rfl (by kernel_rfl) rfl rfl (same_call (xs := z.bs.take a.toNat) (ys := (wrA z.bs a n x).take a.toNat) (Old.pure ((F.has 0 rfl).upto8 (hi := a.toNat) (by omega))) (Old.pure ((F.has 6 rfl).upto8 (hi := a.toNat) (by omega)))) (fun _ s F _ => ?_)
        (try dsimp only [n_1, n_2, n_3, n_4, List.append_nil, pk, n_5, n_6] at F)
        have hpl := putR_n (x := x) hsz
        rw [show eqS (z.bs.take a.toNat) ((wrA z.bs a n x).take a.toNat) = true by rw [ep, putB_take (by omega), eqS_self]]
        refine l_op 2 rfl rfl rfl rfl rfl ?_
        refine l_op 0 rfl rfl rfl rfl rfl ?_
        refine l_guard rfl rfl rfl (fun hc28 => ?_) (fun hc28 => ?_)
        · try simp only [irr_eq, beq_iff_eq, bne_iff_ne, beq_eq_false_iff_ne, bne_eq_false_iff_eq, ne_eq, decide_eq_true_eq, decide_eq_false_iff_not, Bool.not_eq_true', Bool.not_eq_false'] at hc28
          refine l_op 0 rfl rfl rfl rfl rfl ?_
          refine l_op 0 rfl rfl rfl rfl rfl ?_
          refine l_op 0 rfl rfl rfl rfl rfl ?_
          refine l_a64 rfl rfl rfl (by omega) rfl ?_
          refine l_sl (es := 1) (l := (a + n).toNat) rfl rfl rfl rfl rfl rfl rfl rfl rfl (F.has 0 rfl) (by omega) ?_
          refine l_op 0 rfl rfl rfl rfl rfl ?_
          refine l_op 0 rfl rfl rfl rfl rfl ?_
          refine l_op 0 rfl rfl rfl rfl rfl ?_
          refine l_a64 rfl rfl rfl (by omega) rfl ?_
          refine l_sl (es := 1) (l := (a + n).toNat) rfl rfl rfl rfl rfl rfl rfl rfl rfl (F.has 6 rfl) (by omega) ?_
          refine l_callp F rfl rfl (by kernel_rfl) rfl rfl (same_call (xs := z.bs.drop (a + n).toNat) (ys := (wrA z.bs a n x).drop (a + n).toNat) (Old.pure ((F.has 0 rfl).from8 (lo := (a + n).toNat) (by omega))) (Old.pure ((F.has 6 rfl).from8 (lo := (a + n).toNat) (by omega)))) (fun _ s F _ => ?_)
          (try dsimp only [n_1, n_2, n_3, n_4, List.append_nil, pk, n_5, n_6] at F)
          have hpl := putR_n (x := x) hsz
          rw [show eqS (z.bs.drop (a + n).toNat) ((wrA z.bs a n x).drop (a + n).toNat) = true by rw [ep, show (a + n).toNat = a.toNat + (putR x n).length by omega, putB_drop (by omega), eqS_self]]
          refine l_op 2 rfl rfl rfl rfl rfl ?_
          refine l_op 0 rfl rfl rfl rfl rfl ?_
          refine l_guard rfl rfl rfl (fun hc29 => ?_) (fun hc29 => ?_)
          · try simp only [irr_eq, beq_iff_eq, bne_iff_ne, beq_eq_false_iff_ne, bne_eq_false_iff_eq, ne_eq, decide_eq_true_eq, decide_eq_false_iff_not, Bool.not_eq_true', Bool.not_eq_false'] at hc29
            refine l_callp F rfl rfl (by kernel_rfl) rfl rfl (live9_call E0) (fun _ s F _ => ?_)
            (try dsimp only [n_1, n_2, n_3, n_4, List.append_nil, pk, n_5, n_6] at F)
            refine l_op 2 rfl rfl rfl rfl rfl ?_
            refine l_op 0 rfl rfl rfl rfl rfl ?_
            refine l_nil (WK.nx (by assumption) ?_)
            refine SeqK.nx (by assumption) ?_
            refine k_ret ?_
            refine FunK.rt (by assumption) rfl ?_
            -- leaf 23
            first
            | rfl
            | (exfalso; omega)
          exact absurd ((irr_eq _).symm.trans hc29) (by decide)
        exact absurd ((irr_eq _).symm.trans hc28) (by decide)
      replace hc27 := of_decide_eq_false ((irr_eq _).symm.trans hc27)
      refine l_s rfl rfl ?_
      refine l_s rfl rfl ?_
      refine l_s rfl rfl ?_
      refine l_s rfl rfl ?_
      refine l_s rfl rfl ?_
      refine l_s rfl rfl ?_
      refine l_s rfl rfl ?_
      refine l_op 2 rfl rfl rfl rfl rfl ?_
      refine l_op 0 rfl rfl rfl rfl rfl ?_
      refine l_s rfl rfl ?_
      refine l_s rfl rfl ?_
      refine l_s rfl rfl ?_
      refine l_s rfl rfl ?_
      refine l_s rfl rfl ?_
      refine l_s rfl rfl ?_
      refine l_s rfl rfl ?_
      refine l_s rfl rfl ?_
      refine l_s rfl rfl ?_
      refine l_s rfl rfl ?_
      refine l_s rfl rfl ?_
      refine l_op 2 rfl rfl rfl rfl rfl ?_
      refine l_op 0 rfl rfl rfl rfl rfl ?_
      refine l_s rfl rfl ?_
      refine l_op 2 rfl rfl rfl rfl rfl ?_
      refine l_op 0 rfl rfl rfl rfl rfl ?_
      refine l_nil (WK.nx (by assumption) ?_)
      refine SeqK.nx (by assumption) ?_
      refine k_ret ?_
      refine FunK.rt (by assumption) rfl ?_
      -- leaf 24
      first
      | rfl
      | (exfalso; omega)
    first | replace hc25 := ne_of_beq_false ((irr_eq _).symm.trans hc25) | simp only [irr_eq, beq_iff_eq, beq_eq_false_iff_ne, ne_eq, decide_eq_true_eq, decide_eq_false_iff_not] at hc25
    refine l_s rfl rfl ?_
    refine l_s rfl rfl ?_
    refine l_s rfl rfl ?_
    refine l_op 2 rfl rfl rfl rfl rfl ?_
    refine l_op 2 rfl rfl rfl rfl rfl ?_
    refine l_nil (WK.nx (by assumption) ?_)
    refine SeqK.nx (by assumption) ?_
    first | refine e_cond_f rfl rfl rfl ?_ | refine e_cond_f rfl rfl (by rw [irr_eq]; first | exact beq_eq_false_iff_ne.2 (by assumption) | exact decide_eq_false (by assumption) | exact bne_eq_false_iff_eq.2 (by assumption)) ?_
    refine k_skip ?_
    refine SeqK.nx (by assumption) ?_
    refine k_seq (fun Q K => ?_)
    refine k_lin (fun W K => ?_)
    refine l_op 0 rfl rfl rfl rfl rfl ?_
    refine l_c64 rfl rfl rfl (by omega) rfl ?_
    refine l_op 0 rfl rfl rfl rfl rfl ?_
    refine l_nil (WK.nx (by assumption) ?_)
    refine SeqK.nx (by assumption) ?_
    refine k_seq (fun Q K => ?_)
    refine k_linr mixed (by kernel_rfl) (fun W K => ?_)
    try have hpS := F.pns
    refine l_op 0 rfl rfl rfl rfl rfl ?_
    refine l_cmp rfl rfl rfl rfl ?_
    refine l_op 0 rfl rfl rfl rfl rfl ?_
    refine l_guard rfl rfl rfl (fun hc30 => ?_) (fun hc30 => ?_)
    · replace hc30 := of_decide_eq_true ((irr_eq _).symm.trans hc30)
      refine l_op 0 rfl rfl rfl rfl rfl ?_
      refine l_op 0 rfl rfl rfl rfl rfl ?_
      refine l_slh (es := 1) rfl rfl rfl rfl rfl ⟨rfl, _, _, rfl, by omega, rfl⟩ (F.has 0 rfl) (by omega) ?_
      refine l_op 0 rfl rfl rfl rfl rfl ?_
      refine l_op 0 rfl rfl rfl rfl rfl ?_
      refine l_slh (es := 1) rfl rfl rfl rfl rfl ⟨rfl, _, _, rfl, by omega, rfl⟩ (F.has 6 rfl) (by omega) ?_
      refine l_callp F rfl rfl (by kernel_rfl) rfl rfl (same_call (xs := z.bs.take a.toNat) (ys := (wrA z.bs a n x).take a.toNat) (Old.pure ((F.has 0 rfl).upto8 (hi := a.toNat) (by omega))) (Old.pure ((F.has 6 rfl).upto8 (hi := a.toNat) (by omega)))) (fun _ s F _ => ?_)
      (try dsimp only [n_1, n_2, n_3, n_4, List.append_nil, pk, n_5, n_6] at F)
      have hpl := putR_n (x := x) hsz
      rw [show eqS (z.bs.take a.toNat) ((wrA z.bs a n x).take a.toNat) = true by rw [ep, putB_take (by omega), eqS_self]]
      refine l_op 2 rfl rfl rfl rfl rfl ?_
      refine l_op 0 rfl rfl rfl rfl rfl ?_
      refine l_guard rfl rfl rfl (fun hc31 => ?_) (fun hc31 => ?_)
      · try simp only [irr_eq, beq_iff_eq, bne_iff_ne, beq_eq_false_iff_ne, bne_eq_false_iff_eq, ne_eq, decide_eq_true_eq, decide_eq_false_iff_not, Bool.not_eq_true', Bool.not_eq_false'] at hc31
        refine l_op 0 rfl rfl rfl rfl rfl ?_
        refine l_op 0 rfl rfl rfl rfl rfl ?_
        refine l_op 0 rfl rfl rfl rfl rfl ?_
        refine l_a64 rfl rfl rfl (by omega) rfl ?_
        refine l_sl (es := 1) (l := (a + n).toNat) rfl rfl rfl rfl rfl rfl rfl rfl rfl (F.has 0 rfl) (by omega) ?_
        refine l_op 0 rfl rfl rfl rfl rfl ?_
        refine l_op 0 rfl rfl rfl rfl rfl ?_
        refine l_op 0 rfl rfl rfl rfl rfl ?_
        refine l_a64 rfl rfl rfl (by omega) rfl ?_
        refine l_sl (es := 1) (l := (a + n).toNat) rfl rfl rfl rfl rfl rfl rfl rfl rfl (F.has 6 rfl) (by omega) ?_
        refine l_callp F rfl rfl (by kernel_rfl) rfl rfl (same_call (xs := z.bs.drop (a + n).toNat) (ys := (wrA z.bs a n x).drop (a + n).toNat) (Old.pure ((F.has 0 rfl).from8 (lo := (a + n).toNat) (by omega))) (Old.pure ((F.has 6 rfl).from8 (lo := (a + n).toNat) (by omega)))) (fun _ s F _ => ?_)
        (try dsimp only [n_1, n_2, n_3, n_4, List.append_nil, pk, n_5, n_6] at F)
        have hpl := putR_n (x := x) hsz
        rw [show eqS (z.bs.drop (a + n).toNat) ((wrA z.bs a n x).drop (a + n).toNat) = true by rw [ep, show (a + n).toNat = a.toNat + (putR x n).length by omega, putB_drop (by omega), eqS_self]]
        refine l_op 2 rfl rfl rfl rfl rfl ?_
        refine l_op 0 rfl rfl rfl rfl rfl ?_
        refine l_guard rfl rfl rfl (fun hc32 => ?_) (fun hc32 => ?_)
        · try simp only [irr_eq, beq_iff_eq, bne_iff_ne, beq_eq_false_iff_ne, bne_eq_false_iff_eq, ne_eq, decide_eq_true_eq, decide_eq_false_iff_not, Bool.not_eq_true', Bool.not_eq_false'] at hc32
          refine l_callp F rfl rfl (by kernel_rfl) rfl rfl (live9_call E0) (fun _ s F _ => ?_)
          (try dsimp only [n_1, n_2, n_3, n_4, List.append_nil, pk, n_5, n_6] at F)
          refine l_op 2 rfl rfl rfl rfl rfl ?_
          refine l_op 0 rfl rfl rfl rfl rfl ?_
          refine l_nil (WK.nx (by assumption) ?_)
          refine SeqK.nx (by assumption) ?_
          refine k_ret ?_
          refine FunK.rt (by assumption) rfl ?_
          -- leaf 25
          first
          | rfl
          | (exfalso; omega)
        exact absurd ((irr_eq _).symm.trans hc32) (by decide)
      exact absurd ((irr_eq _).symm.trans hc31) (by decide)
    replace hc30 := of_decide_eq_false ((irr_eq _).symm.trans hc30)
    refine l_s rfl rfl ?_
    refine l_s rfl rfl ?_
    refine l_s rfl rfl ?_
    refine l_s rfl rfl ?_
    refine l_s rfl rfl ?_
    refine l_s rfl rfl ?_
    refine l_s rfl rfl ?_
    refine l_op 2 rfl rfl rfl rfl rfl ?_
    refine l_op 0 rfl rfl rfl rfl rfl ?_
    refine l_s rfl rfl ?_
    refine l_s rfl rfl ?_
    refine l_s rfl rfl ?_
    refine l_s rfl rfl ?_
    refine l_s rfl rfl ?_
    refine l_s rfl rfl ?_
    refine l_s rfl rfl ?_
    refine l_s rfl rfl ?_
    refine l_s rfl rfl ?_
    refine l_s rfl rfl ?_
    refine l_s rfl rfl ?_
    refine l_op 2 rfl rfl rfl rfl rfl ?_
    refine l_op 0 rfl rfl rfl rfl rfl ?_
    refine l_s rfl rfl ?_
    refine l_op 2 rfl rfl rfl rfl rfl ?_
    refine l_op 0 rfl rfl rfl rfl rfl ?_
    refine l_nil (WK.nx (by assumption) ?_)
    refine SeqK.nx (by assumption) ?_
    refine k_ret ?_
    refine FunK.rt (by assumption) rfl ?_
    -- leaf 26
    first
    | rfl
    | (exfalso; omega)
  replace hc23 := of_decide_eq_false ((irr_eq _).symm.trans hc23)
  refine l_s rfl rfl ?_
  refine l_s rfl rfl ?_
  refine l_s rfl rfl ?_
  refine l_s rfl rfl ?_
  refine l_s rfl rfl ?_
  refine l_s rfl rfl ?_
  refine l_s rfl rfl ?_
  refine l_s rfl rfl ?_
  refine l_op 2 rfl rfl rfl rfl rfl ?_
  refine l_op 2 rfl rfl rfl rfl rfl ?_
  refine l_op 0 rfl rfl rfl rfl rfl ?_
  refine l_op 0 rfl rfl rfl rfl rfl ?_
  refine l_cmp rfl rfl rfl rfl ?_
  refine l_op 0 rfl rfl rfl rfl rfl ?_
  refine l_guard rfl rfl rfl (fun hc33 => ?_) (fun hc33 => ?_)
  · first | replace hc33 := eq_of_beq ((irr_eq _).symm.trans hc33) | simp only [irr_eq, beq_iff_eq, beq_eq_false_iff_ne, ne_eq, decide_eq_true_eq, decide_eq_false_iff_not] at hc33
    have hp4 : p = 4294967296 := by omega
    subst hp4
    refine l_op 0 rfl rfl rfl rfl rfl ?_
    refine l_op 0 rfl rfl rfl rfl rfl ?_
    refine l_cmp rfl rfl rfl rfl ?_
    refine l_op 2 rfl rfl rfl rfl rfl ?_
    refine l_op 2 rfl rfl rfl rfl rfl ?_
    refine l_nil (WK.nx (by assumption) ?_)
    refine SeqK.nx (by assumption) ?_
    refine l_cond rfl rfl (fun hc34 => ?_) (fun hc34 => ?_)
    · first | replace hc34 := bne_iff_ne.1 ((irr_eq _).symm.trans hc34) | simp only [irr_eq, bne_iff_ne, bne_eq_false_iff_eq, ne_eq, decide_eq_true_eq, decide_eq_false_iff_not, Bool.not_eq_true', Bool.not_eq_false'] at hc34
      refine k_seq (fun Q K => ?_)
      refine k_lin (fun W K => ?_)
      refine l_op 0 rfl rfl rfl rfl rfl ?_
      refine l_nil (WK.nx (by assumption) ?_)
      refine SeqK.nx (by assumption) ?_
      refine k_ret ?_
      refine SeqK.rt (by assumption) ?_
      refine FunK.rt (by assumption) rfl ?_
      -- leaf 27
      first
      | rfl
      | (exfalso; omega)
    first | replace hc34 := bne_eq_false_iff_eq.1 ((irr_eq _).symm.trans hc34) | simp only [irr_eq, bne_iff_ne, bne_eq_false_iff_eq, ne_eq, decide_eq_true_eq, decide_eq_false_iff_not, Bool.not_eq_true', Bool.not_eq_false'] at hc34
    refine k_skip ?_
    refine SeqK.nx (by assumption) ?_
    refine k_seq (fun Q K => ?_)
    refine k_lin (fun W K => ?_)
    refine l_op 0 rfl rfl rfl rfl rfl ?_
    refine l_c64 rfl rfl rfl (by omega) rfl ?_
    refine l_op 0 rfl rfl rfl rfl rfl ?_
    refine l_nil (WK.nx (by assumption) ?_)
    refine SeqK.nx (by assumption) ?_
    refine k_seq (fun Q K => ?_)
    refine k_linr mixed (by kernel_rfl) (fun W K => ?_)
    try have hpS := F.pns
    refine l_op 0 rfl rfl rfl rfl rfl ?_
    refine l_cmp rfl rfl rfl rfl ?_
    refine l_op 0 rfl rfl rfl rfl rfl ?_
    refine l_guard rfl rfl rfl (fun hc35 => ?_) (fun hc35 => ?_)
    · replace hc35 := of_decide_eq_true ((irr_eq _).symm.trans hc35)
      refine l_op 0 rfl rfl rfl rfl rfl ?_
      refine l_op 0 rfl rfl rfl rfl rfl ?_
      refine l_slh (es := 1) rfl rfl rfl rfl rfl ⟨rfl, _, _, rfl, by omega, rfl⟩ (F.has 0 rfl) (by omega) ?_
      refine l_op 0 rfl rfl rfl rfl rfl ?_
      refine l_op 0 rfl rfl rfl rfl rfl ?_
      refine l_slh (es := 1) rfl rfl rfl rfl rfl ⟨rfl, _, _, rfl, by omega, rfl⟩ (F.has 6 rfl) (by omega) ?_
      refine l_callp F rfl rfl (by kernel_rfl) rfl rfl (same_call (xs := z.bs.take a.toNat) (ys := (wrA z.bs a n x).take a.toNat) (Old.pure ((F.has 0 rfl).upto8 (hi := a.toNat) (by omega))) (Old.pure ((F.has 6 rfl).upto8 (hi := a.toNat) (by omega)))) (fun _ s F _ => ?_)
      (try dsimp only [n_1, n_2, n_3, n_4, List.append_nil, pk, n_5, n_6] at F)
      have hpl := putR_n (x := x) hsz
      rw [show eqS (z.bs.take a.toNat) ((wrA z.bs a n x).take a.toNat) = true by rw [ep, putB_take (by omega), eqS_self]]
      refine l_op 2 rfl rfl rfl rfl rfl ?_
      refine l_op 0 rfl rfl rfl rfl rfl ?_
      refine l_guard rfl rfl rfl (fun hc36 => ?_) (fun hc36 => ?_)
      · try simp only [irr_eq, beq_iff_eq, bne_iff_ne, beq_eq_false_iff_ne, bne_eq_false_iff_eq, ne_eq, decide_eq_true_eq, decide_eq_false_iff_not, Bool.not_eq_true', Bool.not_eq_false'] at hc36
        refine l_op 0 rfl rfl rfl rfl rfl ?_
        refine l_op 0 rfl rfl rfl rfl rfl ?_
        refine l_op 0 rfl rfl rfl rfl rfl ?_
        refine l_a64 rfl rfl rfl (by omega) rfl ?_
        refine l_sl (es := 1) (l := (a + n).toNat) rfl rfl rfl rfl rfl rfl rfl rfl rfl (F.has 0 rfl) (by omega) ?_
        refine l_op 0 rfl rfl rfl rfl rfl ?_
        refine l_op 0 rfl rfl rfl rfl rfl ?_
        refine l_op 0 rfl rfl rfl rfl rfl ?_
        refine l_a64 rfl rfl rfl (by omega) rfl ?_
        refine l_sl (es := 1) (l := (a + n).toNat) rfl rfl rfl rfl rfl rfl rfl rfl rfl (F.has 6 rfl) (by omega) ?_
        refine l_callp F rfl rfl (by kernel_rfl) rfl rfl (same_call (xs := z.bs.drop (a + n).toNat) (ys := (wrA z.bs a n x).drop (a + n).toNat) (Old.pure ((F.has 0 rfl).from8 (lo := (a + n).toNat) (by omega))) (Old.pure ((F.has 6 rfl).from8 (lo := (a + n).toNat) (by omega)))) (fun _ s F _ => ?_)
        (try dsimp only [n_1, n_2, n_3, n_4, List.append_nil, pk, n_5, n_6] at F)
        have hpl := putR_n (x := x) hsz
        rw [show eqS (z.bs.drop (a + n).toNat) ((wrA z.bs a n x).drop (a + n).toNat) = true by rw [ep, show (a + n).toNat = a.toNat + (putR x n).length by omega, putB_drop (by omega), eqS_self]]
        refine l_op 2 rfl rfl rfl rfl rfl ?_
        refine l_op 0 rfl rfl rfl rfl rfl ?_
        refine l_guard rfl rfl rfl (fun hc37 => ?_) (fun hc37 => ?_)
        · try simp only [irr_eq, beq_iff_eq, bne_iff_ne, beq_eq_false_iff_ne, bne_eq_false_iff_eq, ne_eq, decide_eq_true_eq, decide_eq_false_iff_not, Bool.not_eq_true', Bool.not_eq_false'] at hc37
          refine l_callp F rfl rfl (by kernel_rfl) rfl rfl (live9_call E0) (fun _ s F _ => ?_)
          (try dsimp only [n_1, n_2, n_3, n_4, List.append_nil, pk, n_5, n_6] at F)
          refine l_op 2 rfl rfl rfl rfl rfl ?_
          refine l_op 0 rfl rfl rfl rfl rfl ?_
          refine l_nil (WK.nx (by assumption) ?_)
          refine SeqK.nx (by assumption) ?_
          refine k_ret ?_
          refine FunK.rt (by assumption) rfl ?_
          -- leaf 28
          first
          | rfl
          | (exfalso; omega)
        exact absurd ((irr_eq _).symm.trans hc37) (by decide)
      exact absurd ((irr_eq _).symm.trans hc36) (by decide)
    replace hc35 := of_decide_eq_false ((irr_eq _).symm.trans hc35)
    refine l_s rfl rfl ?_
    refine l_s rfl rfl ?_
    refine l_s rfl rfl ?_
    refine l_s rfl rfl ?_
    refine l_s rfl rfl ?_
    refine l_s rfl rfl ?_
    refine l_s rfl rfl ?_
    refine l_op 2 rfl rfl rfl rfl rfl ?_
    refine l_op 0 rfl rfl rfl rfl rfl ?_
    refine l_s rfl rfl ?_
    refine l_s rfl rfl ?_
    refine l_s rfl rfl ?_
    refine l_s rfl rfl ?_
    refine l_s rfl rfl ?_
    refine l_s rfl rfl ?_
    refine l_s rfl rfl ?_
    refine l_s rfl rfl ?_
    refine l_s rfl rfl ?_
    refine l_s rfl rfl ?_
    refine l_s rfl rfl ?_
    refine l_op 2 rfl rfl rfl rfl rfl ?_
    refine l_op 0 rfl rfl rfl rfl rfl ?_
    refine l_s rfl rfl ?_
    refine l_op 2 rfl rfl rfl rfl rfl ?_
    refine l_op 0 rfl rfl rfl rfl rfl ?_
    refine l_nil (WK.nx (by assumption) ?_)
    refine SeqK.nx (by assumption) ?_
    refine k_ret ?_
    refine FunK.rt (by assumption) rfl ?_
    -- leaf 29
    first
    | rfl
    | (exfalso; omega)
  first | replace hc33 := ne_of_beq_false ((irr_eq _).symm.trans hc33) | simp only [irr_eq, beq_iff_eq, beq_eq_false_iff_ne, ne_eq, decide_eq_true_eq, decide_eq_false_iff_not] at hc33
  refine l_s rfl rfl ?_
  refine l_s rfl rfl ?_
  refine l_s rfl rfl ?_
  refine l_op 2 rfl rfl rfl rfl rfl ?_
  refine l_op 2 rfl rfl rfl rfl rfl ?_
  refine l_nil (WK.nx (by assumption) ?_)
  refine SeqK.nx (by assumption) ?_
  first | refine e_cond_f rfl rfl rfl ?_ | refine e_cond_f rfl rfl (by rw [irr_eq]; first | exact beq_eq_false_iff_ne.2 (by assumption) | exact decide_eq_false (by assumption) | exact bne_eq_false_iff_eq.2 (by assumption)) ?_
  refine k_skip ?_
  refine SeqK.nx (by assumption) ?_
  refine k_seq (fun Q K => ?_)
  refine k_lin (fun W K => ?_)
  refine l_op 0 rfl rfl rfl rfl rfl ?_
  refine l_c64 rfl rfl rfl (by omega) rfl ?_
  refine l_op 0 rfl rfl rfl rfl rfl ?_
  refine l_nil (WK.nx (by assumption) ?_)
  refine SeqK.nx (by assumption) ?_
  refine k_seq (fun Q K => ?_)
  refine k_linr mixed (by kernel_rfl) (fun W K => ?_)
  try have hpS := F.pns
  refine l_op 0 rfl rfl rfl rfl rfl ?_
  refine l_cmp rfl rfl rfl rfl ?_
  refine l_op 0 rfl rfl rfl rfl rfl ?_
  refine l_guard rfl rfl rfl (fun hc38 => ?_) (fun hc38 => ?_)
  · replace hc38 := of_decide_eq_true ((irr_eq _).symm.trans hc38)
    refine l_op 0 rfl rfl rfl rfl rfl ?_
    refine l_op 0 rfl rfl rfl rfl rfl ?_
    refine l_slh (es := 1) rfl rfl rfl rfl rfl ⟨rfl, _, _, rfl, by omega, rfl⟩ (F.has 0 rfl) (by omega) ?_
    refine l_op 0 rfl rfl rfl rfl rfl ?_
    refine l_op 0 rfl rfl rfl rfl rfl ?_
    refine l_slh (es := 1) rfl rfl rfl rfl rfl ⟨rfl, _, _, rfl, by omega, rfl⟩ (F.has 6 rfl) (by omega) ?_
    refine l_callp F rfl rfl (by kernel_rfl) rfl rfl (same_call (xs := z.bs.take a.toNat) (ys := (wrA z.bs a n x).take a.toNat) (Old.pure ((F.has 0 rfl).upto8 (hi := a.toNat) (by omega))) (Old.pure ((F.has 6 rfl).upto8 (hi := a.toNat) (by omega)))) (fun _ s F _ => ?_)
    (try dsimp only [n_1, n_2, n_3, n_4, List.append_nil, pk, n_5, n_6] at F)
    have hpl := putR_n (x := x) hsz
    rw [show eqS (z.bs.take a.toNat) ((wrA z.bs a n x).take a.toNat) = true by rw [ep, putB_take (by omega), eqS_self]]
    refine l_op 2 rfl rfl rfl rfl rfl ?_
    refine l_op 0 rfl rfl rfl rfl rfl ?_
    refine l_guard rfl rfl rfl (fun hc39 => ?_) (fun hc39 => ?_)
    · try simp only [irr_eq, beq_iff_eq, bne_iff_ne, beq_eq_false_iff_ne, bne_eq_false_iff_eq, ne_eq, decide_eq_true_eq, decide_eq_false_iff_not, Bool.not_eq_true', Bool.not_eq_false'] at hc39
      refine l_op 0 rfl rfl rfl rfl rfl ?_
      refine l_op 0 rfl rfl rfl rfl rfl ?_
      refine l_op 0 rfl rfl rfl rfl rfl ?_
      refine l_a64 rfl rfl rfl (by omega) rfl ?_
      refine l_sl (es := 1) (l := (a + n).toNat) rfl rfl rfl rfl rfl rfl rfl rfl rfl (F.has 0 rfl) (by omega) ?_
      refine l_op 0 rfl rfl rfl rfl rfl ?_
      refine l_op 0 rfl rfl rfl rfl rfl ?_
      refine l_op 0 rfl rfl rfl rfl rfl ?_
      refine l_a64 rfl rfl rfl (by omega) rfl ?_
      refine l_sl (es := 1) (l := (a + n).toNat) rfl rfl rfl rfl rfl rfl rfl rfl rfl (F.has 6 rfl) (by omega) ?_
      refine l_callp F rfl rfl (by kernel_rfl) rfl rfl (same_call (xs := z.bs.drop (a + n).toNat) (ys := (wrA z.bs a n x).drop (a + n).toNat) (Old.pure ((F.has 0 rfl).from8 (lo := (a + n).toNat) (by omega))) (Old.pure ((F.has 6 rfl).from8 (lo := (a + n).toNat) (by omega)))) (fun _ s F _ => ?_)
      (try dsimp only [n_1, n_2, n_3, n_4, List.append_nil, pk, n_5, n_6] at F)
      have hpl := putR_n (x := x) hsz
      rw [show eqS (z.bs.drop (a + n).toNat) ((wrA z.bs a n x).drop (a + n).toNat) = true by rw [ep, show (a + n).toNat = a.toNat + (putR x n).length by omega, putB_drop (by omega), eqS_self]]
      refine l_op 2 rfl rfl rfl rfl rfl ?_
      refine l_op 0 rfl rfl rfl rfl rfl ?_
      refine l_guard rfl rfl rfl (fun hc40 => ?_) (fun hc40 => ?_)
      · try simp only [irr_eq, beq_iff_eq, bne_iff_ne, beq_eq_false_iff_ne, bne_eq_false_iff_eq, ne_eq, decide_eq_true_eq, decide_eq_false_iff_not, Bool.not_eq_true', Bool.not_eq_false'] at hc40
        refine l_callp F rfl rfl (by kernel_rfl) rfl rfl (live9_call E0) (fun _ s F _ => ?_)
        (try dsimp only [n_1, n_2, n_3, n_4, List.append_nil, pk, n_5, n_6] at F)
        refine l_op 2 rfl rfl rfl rfl rfl ?_
        refine l_op 0 rfl rfl rfl rfl rfl ?_
        refine l_nil (WK.nx (by assumption) ?_)
        refine SeqK.nx (by assumption) ?_
        refine k_ret ?_
        refine FunK.rt (by assumption) rfl ?_
        -- leaf 30
        first
        | rfl
        | (exfalso; omega)
      exact absurd ((irr_eq _).symm.trans hc40) (by decide)
    exact absurd ((irr_eq _).symm.trans hc39) (by decide)
  replace hc38 := of_decide_eq_false ((irr_eq _).symm.trans hc38)
  refine l_s rfl rfl ?_
  refine l_s rfl rfl ?_
  refine l_s rfl rfl ?_
  refine l_s rfl rfl ?_
  refine l_s rfl rfl ?_
  refine l_s rfl rfl ?_
  refine l_s rfl rfl ?_
  refine l_op 2 rfl rfl rfl rfl rfl ?_
  refine l_op 0 rfl rfl rfl rfl rfl ?_
  refine l_s rfl rfl ?_
  refine l_s rfl rfl ?_
  refine l_s rfl rfl ?_
  refine l_s rfl rfl ?_
  refine l_s rfl rfl ?_
  refine l_s rfl rfl ?_
  refine l_s rfl rfl ?_
  refine l_s rfl rfl ?_
  refine l_s rfl rfl ?_
  refine l_s rfl rfl ?_
  refine l_s rfl rfl ?_
  refine l_op 2 rfl rfl rfl rfl rfl ?_
  refine l_op 0 rfl rfl rfl rfl rfl ?_
  refine l_s rfl rfl ?_
  refine l_op 2 rfl rfl rfl rfl rfl ?_
  refine l_op 0 rfl rfl rfl rfl rfl ?_
  refine l_nil (WK.nx (by assumption) ?_)
  refine SeqK.nx (by assumption) ?_
  refine k_ret ?_
  refine FunK.rt (by assumption) rfl ?_
  -- leaf 31
  first
  | rfl
  | (exfalso; omega)

end Go.Proofs.Ytpocmkgfmmhhgaa
