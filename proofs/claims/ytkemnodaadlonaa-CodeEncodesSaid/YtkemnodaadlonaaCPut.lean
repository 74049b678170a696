/- Words laid in bytes, by the program and by the document; can a mode tell a value. No statement of the seat is proved in this text. -/
import Derived.Test.YtkemnodaadlonaaCSmall
set_option linter.unusedVariables false
set_option linter.unusedSimpArgs false
set_option maxRecDepth 100000
set_option maxHeartbeats 4000000
namespace Go.Proofs.Ytkemnodaadlonaa
open GAb Go

theorem putR_none {x n : Int} (h : ¬ (n = 1 ∨ n = 2 ∨ n = 4)) : putR x n = [] := by
  unfold putR; rw [if_neg (by omega), if_neg (by omega), if_neg (by omega)]
theorem putR_n {x n : Int} (h : n = 1 ∨ n = 2 ∨ n = 4) : ((putR x n).length : Int) = n := putR_len (.inr h)
theorem zrow8 (n : Nat) : zrow [Value.int .u8 0] n = u8l (List.replicate n 0) := by
  induction n with
  | zero => rfl
  | succ n ih =>
    have : zrow [Value.int .u8 0] (n + 1) = Value.int .u8 0 :: zrow [Value.int .u8 0] n := by
      simp [zrow, List.replicate_succ]
    rw [this, ih, List.replicate_succ]
    rfl
theorem put_step {x n i : Int} (h : n = 1 ∨ n = 2 ∨ n = 4) (hi : 0 ≤ i ∧ i < n) (hx : U32 x) :
    (List.replicate (i + 1).toNat 0 ++ (putR x n).drop (i + 1).toNat).set i.toNat (x / 256 ^ (n - 1 - i).toNat % 256) = List.replicate i.toNat 0 ++ (putR x n).drop i.toNat := by
  obtain ⟨x0, x1⟩ := hx
  have hi4 : i = 0 ∨ i = 1 ∨ i = 2 ∨ i = 3 := by omega
  rcases h with rfl | rfl | rfl <;> rcases hi4 with rfl | rfl | rfl | rfl <;> first | (exfalso; omega) | (simp [putR]; done) | (simp [putR]; omega)
theorem shr8 {x : Int} (h0 : 0 ≤ x) : x.fdiv (2 ^ min (Int.toNat 8) IntKind.u32.bits) = x / 256 := by
  show x.fdiv 256 = x / 256
  rw [Int.fdiv_eq_ediv_of_nonneg _ (by omega)]
theorem wrap8m (v : Int) : IntKind.u8.wrap v = v % 256 := by
  simp only [IntKind.wrap, IntKind.bits, IntKind.signed]
  simp
theorem shrk {v k : Int} (hk : k = 1 ∨ k = 2) (h0 : 0 ≤ v) : v.fdiv (2 ^ min (8 * k).toNat IntKind.u32.bits) = v / 256 ^ k.toNat := by
  rcases hk with rfl | rfl
  · show v.fdiv 256 = v / 256
    rw [Int.fdiv_eq_ediv_of_nonneg _ (by omega)]
  · show v.fdiv 65536 = v / 65536
    rw [Int.fdiv_eq_ediv_of_nonneg _ (by omega)]
theorem wput_call {σ : AState} {x n : Int} (hx : U32 x) :
    SCall Try.prog E0 55 [.int .u32 x, .int .i64 n] σ (Ret E0 σ (fun (y : Option Addr × Nat) => .slice y.1 (putR x n).length y.2) (fun y => [own y.1 (putR x n).length y.2 1 (u8l (putR x n))]) fun _ => True) := by
  have hx' := hx
  obtain ⟨x0, x1⟩ := hx
  refine k_fun Try.func55 rfl (m := 26) rfl fun B hD Q K => ?_
  have F := (Facts.nil E0 σ).nilrow 1
  refine k_seq (fun Q K => ?_)
  refine k_lin (fun W K => ?_)
  refine l_op 0 rfl rfl rfl rfl rfl ?_
  refine l_nil (WK.nx (by assumption) ?_)
  refine SeqK.nx (by assumption) ?_
  refine k_seq (fun Q K => ?_)
  refine k_seq (fun Q K => ?_)
  refine k_lin (fun W K => ?_)
  refine l_op 0 rfl rfl rfl rfl rfl ?_
  refine l_callp F rfl rfl (by kernel_rfl) rfl rfl sized_call (fun y s F hy => ?_)
  (try dsimp only [n_1, n_2, n_3, n_4, List.append_nil, pk, n_5, n_6] at F)
  refine l_op 2 rfl rfl rfl rfl rfl ?_
  refine l_nil (WK.nx (by assumption) ?_)
  refine SeqK.nx (by assumption) ?_
  refine l_cond rfl rfl (fun hc1 => ?_) (fun hc1 => ?_)
  · try simp only [irr_eq, beq_iff_eq, bne_iff_ne, beq_eq_false_iff_ne, bne_eq_false_iff_eq, ne_eq, decide_eq_true_eq, decide_eq_false_iff_not, Bool.not_eq_true', Bool.not_eq_false'] at hc1
    refine k_seq (fun Q K => ?_)
    refine k_lin (fun W K => ?_)
    refine l_op 0 rfl rfl rfl rfl rfl ?_
    refine l_nil (WK.nx (by assumption) ?_)
    refine SeqK.nx (by assumption) ?_
    refine k_ret ?_
    refine SeqK.rt (by assumption) ?_
    refine FunK.rt (by assumption) rfl ?_
    -- leaf 1
    first
      | (have hp := putR_none (x := x) (n := n) (fun h => by rw [hy.2 h] at hc1; cases hc1)
         rw [hp]
         exact ⟨(none, 0), rfl, F, trivial⟩)
      | (have e1 : i = -1 := by omega
         subst e1
         have F' : Facts E0 σ s [own (some ⟨q11, 0, some 0⟩) n.toNat n.toNat 1 (u8l (putR x n))] := F
         have e2 : n.toNat = (putR x n).length := by omega
         rw [e2] at F'
         refine ⟨(some ⟨q11, 0, some 0⟩, (putR x n).length), ?_, F', trivial⟩
         show Value.slice _ n.toNat n.toNat = _
         rw [e2])
  try simp only [irr_eq, beq_iff_eq, bne_iff_ne, beq_eq_false_iff_ne, bne_eq_false_iff_eq, ne_eq, decide_eq_true_eq, decide_eq_false_iff_not, Bool.not_eq_true', Bool.not_eq_false'] at hc1
  have hn : n = 1 ∨ n = 2 ∨ n = 4 := hy.1 (by simpa using hc1)
  have hlen := putR_n (x := x) hn
  refine k_skip ?_
  refine SeqK.nx (by assumption) ?_
  refine k_seq (fun Q K => ?_)
  refine k_lin (fun W K => ?_)
  refine l_op 0 rfl rfl rfl rfl rfl ?_
  refine l_mk F rfl rfl rfl rfl rfl rfl rfl (by omega) (fun q11 s F => ?_)
  (try dsimp only [n_1, n_2, n_3, n_4, List.append_nil, pk, n_5, n_6] at F)
  refine l_op 0 rfl rfl rfl rfl rfl ?_
  refine l_nil (WK.nx (by assumption) ?_)
  refine SeqK.nx (by assumption) ?_
  refine k_seq (fun Q K => ?_)
  refine k_seq (fun Q K => ?_)
  refine k_lin (fun W K => ?_)
  refine l_op 0 rfl rfl rfl rfl rfl ?_
  refine l_a64 rfl rfl rfl (by omega) rfl ?_
  refine l_op 0 rfl rfl rfl rfl rfl ?_
  refine l_nil (WK.nx (by assumption) ?_)
  refine SeqK.nx (by assumption) ?_
  refine k_block (fun Q K => ?_)
  have F0 := F.pick [1] (by decide)
  clear F
  have F := F0
  clear F0
  have F : Facts E0 σ s [own (some ⟨q11, 0, some 0⟩) n.toNat n.toNat 1 (u8l (List.replicate (n - 1 + 1).toNat 0 ++ (putR x n).drop (n - 1 + 1).toNat))] := by
    rw [show (n - 1 + 1).toNat = n.toNat by omega, List.drop_of_length_le (by omega), List.append_nil, ← zrow8]
    exact F
  refine k_loop (α := Int × Int) (fun ⟨i, v⟩ s => Facts E0 σ s [own (some ⟨q11, 0, some 0⟩) n.toNat n.toNat 1 (u8l (List.replicate (i + 1).toNat 0 ++ (putR x n).drop (i + 1).toNat))] ∧ -1 ≤ i ∧ i < n ∧ v = x / 256 ^ (n - 1 - i).toNat) (fun ⟨i, v⟩ => [(0, .int .u32 v), (5, .slice (some ⟨q11, 0, some 0⟩) n.toNat n.toNat), (6, .int .i64 i)]) (fun ⟨i, _⟩ => (i + 1).toNat) (n - 1, x) ⟨F, by omega, by omega, by rw [show (n - 1 - (n - 1)).toNat = 0 by omega]; simp⟩ (by repeat (first | exact trivial | refine And.intro rfl ?_)) ?_
  clear F
  rintro ⟨i, v⟩ env s Q K0 ⟨F, i0, i1, hv⟩
  have hv0 : 0 ≤ v ∧ v ≤ x := by
    have : (1 : Int) ≤ 256 ^ (n - 1 - i).toNat := by exact_mod_cast Nat.one_le_pow _ 256 (by omega)
    rw [hv]
    exact ⟨Int.ediv_nonneg x0 (by omega), Int.ediv_le_self _ x0⟩
  refine k_seq (fun Q K => ?_)
  refine k_seq (fun Q K => ?_)
  refine k_lin (fun W K => ?_)
  refine l_op 0 rfl rfl rfl rfl rfl ?_
  refine l_cmp rfl rfl rfl rfl ?_
  refine l_nil (WK.nx (by assumption) ?_)
  refine SeqK.nx (by assumption) ?_
  refine l_cond rfl rfl (fun hc2 => ?_) (fun hc2 => ?_)
  · replace hc2 := of_decide_eq_true ((irr_eq _).symm.trans hc2)
    refine k_skip ?_
    refine SeqK.nx (by assumption) ?_
    refine k_seq (fun Q K => ?_)
    refine k_block (fun Q K => ?_)
    refine k_seq (fun Q K => ?_)
    refine k_lin (fun W K => ?_)
    refine l_op 0 rfl rfl rfl rfl rfl ?_
    refine l_op 0 rfl rfl rfl rfl rfl ?_
    refine l_op 0 rfl rfl rfl rfl rfl ?_
    refine l_op 16 rfl rfl rfl (congrArg (Value.int .u8) (wrap8m v)) rfl ?_
    first | refine l_ixi rfl rfl rfl rfl rfl rfl (F.old (by assumption)) (by omega) (fun m22 b22 hA22 => ?_) | (refine l_ixoi F 0 rfl rfl rfl rfl rfl rfl rfl (by omega) (fun m e ha hA22 => ?_); cases ha) | (refine l_ixoi F 1 rfl rfl rfl rfl rfl rfl rfl (by omega) (fun m e ha hA22 => ?_); cases ha) | (refine l_ixoi F 2 rfl rfl rfl rfl rfl rfl rfl (by omega) (fun m e ha hA22 => ?_); cases ha) | (refine l_ixoi F 3 rfl rfl rfl rfl rfl rfl rfl (by omega) (fun m e ha hA22 => ?_); cases ha)
    refine l_stoi F 0 rfl rfl rfl rfl rfl rfl rfl (by omega) hD (fun s F => ?_)
    (try dsimp only [n_1, n_2, n_3, n_4, List.append_nil, pk, n_5, n_6] at F)
    refine l_nil (WK.nx (by assumption) ?_)
    refine SeqK.nx (by assumption) ?_
    refine k_lin (fun W K => ?_)
    refine l_op 0 rfl rfl rfl rfl rfl ?_
    refine l_sh (v / 256) rfl rfl rfl rfl rfl (by decide) (.inl ⟨rfl, shr8 (by omega)⟩) ?_
    refine l_op 0 rfl rfl rfl rfl rfl ?_
    refine l_nil (WK.nx (by assumption) ?_)
    refine BlkK.nx (by assumption) ?_
    refine SeqK.nx (by assumption) ?_
    refine k_lin (fun W K => ?_)
    refine l_op 0 rfl rfl rfl rfl rfl ?_
    refine l_a64 rfl rfl rfl (by omega) rfl ?_
    refine l_op 0 rfl rfl rfl rfl rfl ?_
    refine l_nil (WK.nx (by assumption) ?_)
    have e := put_step (x := x) (n := n) (i := i) hn (by omega) hx'
    rw [← hv] at e
    rw [e] at F
    exact K0.nx (i - 1, v / 256) (by repeat (first | exact trivial | refine And.intro rfl ?_)) ⟨by rw [show (i - 1 + 1).toNat = i.toNat by omega]; exact F, by omega, by omega, by
      rw [hv, Int.ediv_ediv_of_nonneg (by exact_mod_cast Nat.zero_le _), show (n - 1 - (i - 1)).toNat = (n - 1 - i).toNat + 1 by omega, Int.pow_succ]⟩ (by first | omega | (simp only; omega))
  replace hc2 := of_decide_eq_false ((irr_eq _).symm.trans hc2)
  refine k_exit ?_
  refine SeqK.et (by assumption) ?_
  refine LoopK.et (by assumption) ?_
  refine BlkK.et (by assumption) ?_
  refine SeqK.nx (by assumption) ?_
  refine k_seq (fun Q K => ?_)
  refine k_lin (fun W K => ?_)
  refine l_op 0 rfl rfl rfl rfl rfl ?_
  refine l_op 0 rfl rfl rfl rfl rfl ?_
  refine l_nil (WK.nx (by assumption) ?_)
  refine SeqK.nx (by assumption) ?_
  refine k_ret ?_
  refine FunK.rt (by assumption) rfl ?_
  -- leaf 2
  first
    | (have hp := putR_none (x := x) (n := n) (fun h => by rw [hy.2 h] at hc1; cases hc1)
       rw [hp]
       exact ⟨(none, 0), rfl, F, trivial⟩)
    | (have e1 : i = -1 := by omega
       subst e1
       have F' : Facts E0 σ s [own (some ⟨q11, 0, some 0⟩) n.toNat n.toNat 1 (u8l (putR x n))] := F
       have e2 : n.toNat = (putR x n).length := by omega
       rw [e2] at F'
       refine ⟨(some ⟨q11, 0, some 0⟩, (putR x n).length), ?_, F', trivial⟩
       show Value.slice _ n.toNat n.toNat = _
       rw [e2])
theorem beqd (x y : Int) : (x == y) = decide (x = y) := by rw [Bool.eq_iff_iff]; simp
theorem tells_call {σ : AState} {m v : Int} (hm : 0 ≤ szm m) (hv : U32 v) :
    SCall Try.prog E0 56 [.agg #[.int .i64 m, .int .u32 v]] σ (Ret E0 σ (fun (_ : Unit) => .bool (irr (tellsR m v))) (fun _ => []) fun _ => True) := by
  have hv' := hv
  obtain ⟨v0, v1⟩ := hv
  have hz := (szm_cases hm).2.2.1
  refine k_fun Try.func56 rfl (m := 33) rfl fun B hD Q K => ?_
  have F := Facts.nil E0 σ
  refine k_seq (fun Q K => ?_)
  refine k_lin (fun W K => ?_)
  refine l_bx F rfl rfl rfl rfl rfl (fun q1 s F => ?_)
  (try dsimp only [n_1, n_2, n_3, n_4, List.append_nil, pk, n_5, n_6] at F)
  refine l_op 0 rfl rfl rfl rfl rfl ?_
  refine l_nil (WK.nx (by assumption) ?_)
  refine SeqK.nx (by assumption) ?_
  refine k_seq (fun Q K => ?_)
  refine k_lin (fun W K => ?_)
  refine l_op 2 rfl rfl rfl rfl rfl ?_
  refine l_ldc F 0 rfl rfl rfl rfl rfl rfl rfl ?_
  refine l_callp F rfl rfl (by kernel_rfl) rfl rfl size_call (fun _ s F _ => ?_)
  (try dsimp only [n_1, n_2, n_3, n_4, List.append_nil, pk, n_5, n_6] at F)
  refine l_op 0 rfl rfl rfl rfl rfl ?_
  refine l_nil (WK.nx (by assumption) ?_)
  refine SeqK.nx (by assumption) ?_
  refine k_seq (fun Q K => ?_)
  refine k_block (fun Q K => ?_)
  refine k_seq (fun Q K => ?_)
  refine k_lin (fun W K => ?_)
  refine l_op 0 rfl rfl rfl rfl rfl ?_
  refine l_cmp rfl rfl rfl rfl ?_
  refine l_op 0 rfl rfl rfl rfl rfl ?_
  refine l_nil (WK.nx (by assumption) ?_)
  refine SeqK.nx (by assumption) ?_
  refine l_cond rfl rfl (fun hc1 => ?_) (fun hc1 => ?_)
  · first | replace hc1 := eq_of_beq ((irr_eq _).symm.trans hc1) | simp only [irr_eq, beq_iff_eq, beq_eq_false_iff_ne, ne_eq, decide_eq_true_eq, decide_eq_false_iff_not] at hc1
    refine k_seq (fun Q K => ?_)
    refine k_lin (fun W K => ?_)
    refine l_op 2 rfl rfl rfl rfl rfl ?_
    refine l_ldc F 0 rfl rfl rfl rfl rfl rfl rfl ?_
    refine l_cmp rfl rfl rfl rfl ?_
    refine l_op 0 rfl rfl rfl rfl rfl ?_
    refine l_nil (WK.nx (by assumption) ?_)
    refine SeqK.nx (by assumption) ?_
    refine k_ret ?_
    refine BlkK.rt (by assumption) ?_
    refine SeqK.rt (by assumption) ?_
    refine FunK.rt (by assumption) rfl ?_
    -- leaf 1
    refine ⟨(), ?_, F.pick [] (by decide), trivial⟩
    show Value.bool _ = Value.bool (irr (tellsR m v))
    unfold tellsR
    simp only [irr_eq]
    first
      | (rw [if_pos (by omega)]; first | rfl | exact congrArg Value.bool (beqd _ _))
      | (rw [if_neg (by omega), if_pos (by omega)]; done)
      | (rw [if_neg (by omega), if_neg (by omega), if_pos (by assumption)]; first | rfl | exact congrArg Value.bool (beqd _ _))
      | (rw [if_neg (by omega), if_neg (by omega), if_neg (by simpa using hc3)]
         refine congrArg Value.bool ?_
         have hk : szm m = 1 ∨ szm m = 2 := by omega
         rw [beqd]
         rcases hk with hk | hk <;> rw [hk] <;> exact decide_eq_decide.2 (by simp; omega))
  first | replace hc1 := ne_of_beq_false ((irr_eq _).symm.trans hc1) | simp only [irr_eq, beq_iff_eq, beq_eq_false_iff_ne, ne_eq, decide_eq_true_eq, decide_eq_false_iff_not] at hc1
  refine k_seq (fun Q K => ?_)
  refine k_lin (fun W K => ?_)
  refine l_op 0 rfl rfl rfl rfl rfl ?_
  refine l_cmp rfl rfl rfl rfl ?_
  refine l_op 0 rfl rfl rfl rfl rfl ?_
  refine l_nil (WK.nx (by assumption) ?_)
  refine SeqK.nx (by assumption) ?_
  refine l_cond rfl rfl (fun hc2 => ?_) (fun hc2 => ?_)
  · first | replace hc2 := eq_of_beq ((irr_eq _).symm.trans hc2) | simp only [irr_eq, beq_iff_eq, beq_eq_false_iff_ne, ne_eq, decide_eq_true_eq, decide_eq_false_iff_not] at hc2
    refine k_seq (fun Q K => ?_)
    refine k_lin (fun W K => ?_)
    refine l_op 0 rfl rfl rfl rfl rfl ?_
    refine l_nil (WK.nx (by assumption) ?_)
    refine SeqK.nx (by assumption) ?_
    refine k_ret ?_
    refine BlkK.rt (by assumption) ?_
    refine SeqK.rt (by assumption) ?_
    refine FunK.rt (by assumption) rfl ?_
    -- leaf 2
    refine ⟨(), ?_, F.pick [] (by decide), trivial⟩
    show Value.bool _ = Value.bool (irr (tellsR m v))
    unfold tellsR
    simp only [irr_eq]
    first
      | (rw [if_pos (by omega)]; first | rfl | exact congrArg Value.bool (beqd _ _))
      | (rw [if_neg (by omega), if_pos (by omega)]; done)
      | (rw [if_neg (by omega), if_neg (by omega), if_pos (by assumption)]; first | rfl | exact congrArg Value.bool (beqd _ _))
      | (rw [if_neg (by omega), if_neg (by omega), if_neg (by simpa using hc3)]
         refine congrArg Value.bool ?_
         have hk : szm m = 1 ∨ szm m = 2 := by omega
         rw [beqd]
         rcases hk with hk | hk <;> rw [hk] <;> exact decide_eq_decide.2 (by simp; omega))
  first | replace hc2 := ne_of_beq_false ((irr_eq _).symm.trans hc2) | simp only [irr_eq, beq_iff_eq, beq_eq_false_iff_ne, ne_eq, decide_eq_true_eq, decide_eq_false_iff_not] at hc2
  refine k_seq (fun Q K => ?_)
  refine k_lin (fun W K => ?_)
  refine l_op 2 rfl rfl rfl rfl rfl ?_
  refine l_ldc F 0 rfl rfl rfl rfl rfl rfl rfl ?_
  refine l_callp F rfl rfl (by kernel_rfl) rfl rfl constant_call (fun _ s F _ => ?_)
  (try dsimp only [n_1, n_2, n_3, n_4, List.append_nil, pk, n_5, n_6] at F)
  refine l_op 0 rfl rfl rfl rfl rfl ?_
  refine l_nil (WK.nx (by assumption) ?_)
  refine SeqK.nx (by assumption) ?_
  refine l_cond rfl rfl (fun hc3 => ?_) (fun hc3 => ?_)
  · try simp only [irr_eq, beq_iff_eq, bne_iff_ne, beq_eq_false_iff_ne, bne_eq_false_iff_eq, ne_eq, decide_eq_true_eq, decide_eq_false_iff_not, Bool.not_eq_true', Bool.not_eq_false'] at hc3
    refine k_seq (fun Q K => ?_)
    refine k_linm [0, 2, 4, 1, 5, 3, 6, 7] mixed (by kernel_rfl) (fun W K => ?_)
    try have hpS := F.pns
    refine l_op 2 rfl rfl rfl rfl rfl ?_
    refine l_op 0 rfl rfl rfl rfl rfl ?_
    refine l_op 2 rfl rfl rfl rfl rfl ?_
    refine l_ldc F 0 rfl rfl rfl rfl rfl rfl rfl ?_
    first | have hpS := PnS.add hpS hS1 | have hpS := PnS.add hpS (OldC.sf (by assumption)) | skip
    refine l_ldc F 0 rfl rfl rfl rfl rfl rfl rfl ?_
    first | have hpS := PnS.add hpS hS1 | have hpS := PnS.add hpS (OldC.sf (by assumption)) | skip
    have hpA := PnA.cel F 0 rfl (PnA.cel F 0 rfl pna_nil)
    refine l_callp F rfl rfl (by kernel_rfl) rfl rfl (extend_call hv') (fun _ s F _ => ?_)
    (try dsimp only [n_1, n_2, n_3, n_4, List.append_nil, pk, n_5, n_6] at F)
    refine l_cmp rfl rfl rfl rfl ?_
    refine l_op 0 rfl rfl rfl rfl rfl ?_
    refine l_nil (WK.nx (by assumption) ?_)
    refine SeqK.nx (by assumption) ?_
    refine k_ret ?_
    refine BlkK.rt (by assumption) ?_
    refine SeqK.rt (by assumption) ?_
    refine FunK.rt (by assumption) rfl ?_
    -- leaf 3
    refine ⟨(), ?_, F.pick [] (by decide), trivial⟩
    show Value.bool _ = Value.bool (irr (tellsR m v))
    unfold tellsR
    simp only [irr_eq]
    first
      | (rw [if_pos (by omega)]; first | rfl | exact congrArg Value.bool (beqd _ _))
      | (rw [if_neg (by omega), if_pos (by omega)]; done)
      | (rw [if_neg (by omega), if_neg (by omega), if_pos (by assumption)]; first | rfl | exact congrArg Value.bool (beqd _ _))
      | (rw [if_neg (by omega), if_neg (by omega), if_neg (by simpa using hc3)]
         refine congrArg Value.bool ?_
         have hk : szm m = 1 ∨ szm m = 2 := by omega
         rw [beqd]
         rcases hk with hk | hk <;> rw [hk] <;> exact decide_eq_decide.2 (by simp; omega))
  try simp only [irr_eq, beq_iff_eq, bne_iff_ne, beq_eq_false_iff_ne, bne_eq_false_iff_eq, ne_eq, decide_eq_true_eq, decide_eq_false_iff_not, Bool.not_eq_true', Bool.not_eq_false'] at hc3
  refine k_skip ?_
  refine BlkK.nx (by assumption) ?_
  refine SeqK.nx (by assumption) ?_
  refine k_seq (fun Q K => ?_)
  refine k_lin (fun W K => ?_)
  refine l_op 2 rfl rfl rfl rfl rfl ?_
  refine l_ldc F 0 rfl rfl rfl rfl rfl rfl rfl ?_
  refine l_op 0 rfl rfl rfl rfl rfl ?_
  refine l_a64 rfl rfl rfl (by omega) rfl ?_
  refine l_sh (v / 256 ^ (szm m).toNat) rfl rfl rfl rfl rfl (by omega) (.inl ⟨rfl, shrk (by omega) v0⟩) ?_
  refine l_cmp rfl rfl rfl rfl ?_
  refine l_op 0 rfl rfl rfl rfl rfl ?_
  refine l_nil (WK.nx (by assumption) ?_)
  refine SeqK.nx (by assumption) ?_
  refine k_ret ?_
  refine FunK.rt (by assumption) rfl ?_
  -- leaf 4
  refine ⟨(), ?_, F.pick [] (by decide), trivial⟩
  show Value.bool _ = Value.bool (irr (tellsR m v))
  unfold tellsR
  simp only [irr_eq]
  first
    | (rw [if_pos (by omega)]; first | rfl | exact congrArg Value.bool (beqd _ _))
    | (rw [if_neg (by omega), if_pos (by omega)]; done)
    | (rw [if_neg (by omega), if_neg (by omega), if_pos (by assumption)]; first | rfl | exact congrArg Value.bool (beqd _ _))
    | (rw [if_neg (by omega), if_neg (by omega), if_neg (by simpa using hc3)]
       refine congrArg Value.bool ?_
       have hk : szm m = 1 ∨ szm m = 2 := by omega
       rw [beqd]
       rcases hk with hk | hk <;> rw [hk] <;> exact decide_eq_decide.2 (by simp; omega))
theorem rsize_call {σ : AState} {m : Int} :
    SCall Try.prog E0 43 [.int .i64 m] σ (Ret E0 σ (fun (_ : Unit) => .int .i64 (szm m)) (fun _ => []) fun _ => True) := by
  refine k_fun Try.func43 rfl (m := 19) rfl fun B hD Q K => ?_
  have F := Facts.nil E0 σ
  refine k_seq (fun Q K => ?_)
  refine k_lin (fun W K => ?_)
  refine l_op 0 rfl rfl rfl rfl rfl ?_
  refine l_nil (WK.nx (by assumption) ?_)
  refine SeqK.nx (by assumption) ?_
  refine k_seq (fun Q K => ?_)
  refine k_seq (fun Q K => ?_)
  refine k_lin (fun W K => ?_)
  refine l_op 0 rfl rfl rfl rfl rfl ?_
  refine l_cmp rfl rfl rfl rfl ?_
  refine l_op 0 rfl rfl rfl rfl rfl ?_
  refine l_guard rfl rfl rfl (fun hc1 => ?_) (fun hc1 => ?_)
  · replace hc1 := of_decide_eq_true ((irr_eq _).symm.trans hc1)
    refine l_s rfl rfl ?_
    refine l_s rfl rfl ?_
    refine l_op 2 rfl rfl rfl rfl rfl ?_
    refine l_op 0 rfl rfl rfl rfl rfl ?_
    refine l_s rfl rfl ?_
    refine l_s rfl rfl ?_
    refine l_s rfl rfl ?_
    refine l_op 2 rfl rfl rfl rfl rfl ?_
    refine l_nil (WK.nx (by assumption) ?_)
    refine SeqK.nx (by assumption) ?_
    first | refine e_cond_t rfl rfl rfl ?_ | refine e_cond_t rfl rfl (by rw [irr_eq]; first | exact beq_iff_eq.2 (by assumption) | exact decide_eq_true (by assumption) | exact bne_iff_ne.2 (by assumption)) ?_
    refine k_seq (fun Q K => ?_)
    refine k_lin (fun W K => ?_)
    refine l_op 0 rfl rfl rfl rfl rfl ?_
    refine l_nil (WK.nx (by assumption) ?_)
    refine SeqK.nx (by assumption) ?_
    refine k_ret ?_
    refine SeqK.rt (by assumption) ?_
    refine FunK.rt (by assumption) rfl ?_
    -- leaf 1
    refine ⟨(), ?_, F, trivial⟩
    show Value.int .i64 _ = Value.int .i64 (szm m)
    first
      | (rw [show szm m = -1 from if_pos (by omega)]; done)
      | (have h16 : m = 0 ∨ m = 1 ∨ m = 2 ∨ m = 3 ∨ m = 4 ∨ m = 5 ∨ m = 6 ∨ m = 7 ∨ m = 8 ∨ m = 9 ∨ m = 10 ∨ m = 11 ∨ m = 12 ∨ m = 13 ∨ m = 14 ∨ m = 15 := by omega
         rcases h16 with rfl | rfl | rfl | rfl | rfl | rfl | rfl | rfl | rfl | rfl | rfl | rfl | rfl | rfl | rfl | rfl <;> first | rfl | (exfalso; omega))
  replace hc1 := of_decide_eq_false ((irr_eq _).symm.trans hc1)
  refine l_op 0 rfl rfl rfl rfl rfl ?_
  refine l_cmp rfl rfl rfl rfl ?_
  refine l_op 2 rfl rfl rfl rfl rfl ?_
  refine l_op 0 rfl rfl rfl rfl rfl ?_
  refine l_guard rfl rfl rfl (fun hc2 => ?_) (fun hc2 => ?_)
  · replace hc2 := of_decide_eq_true ((irr_eq _).symm.trans hc2)
    refine l_s rfl rfl ?_
    refine l_s rfl rfl ?_
    refine l_s rfl rfl ?_
    refine l_op 2 rfl rfl rfl rfl rfl ?_
    refine l_nil (WK.nx (by assumption) ?_)
    refine SeqK.nx (by assumption) ?_
    first | refine e_cond_t rfl rfl rfl ?_ | refine e_cond_t rfl rfl (by rw [irr_eq]; first | exact beq_iff_eq.2 (by assumption) | exact decide_eq_true (by assumption) | exact bne_iff_ne.2 (by assumption)) ?_
    refine k_seq (fun Q K => ?_)
    refine k_lin (fun W K => ?_)
    refine l_op 0 rfl rfl rfl rfl rfl ?_
    refine l_nil (WK.nx (by assumption) ?_)
    refine SeqK.nx (by assumption) ?_
    refine k_ret ?_
    refine SeqK.rt (by assumption) ?_
    refine FunK.rt (by assumption) rfl ?_
    -- leaf 2
    refine ⟨(), ?_, F, trivial⟩
    show Value.int .i64 _ = Value.int .i64 (szm m)
    first
      | (rw [show szm m = -1 from if_pos (by omega)]; done)
      | (have h16 : m = 0 ∨ m = 1 ∨ m = 2 ∨ m = 3 ∨ m = 4 ∨ m = 5 ∨ m = 6 ∨ m = 7 ∨ m = 8 ∨ m = 9 ∨ m = 10 ∨ m = 11 ∨ m = 12 ∨ m = 13 ∨ m = 14 ∨ m = 15 := by omega
         rcases h16 with rfl | rfl | rfl | rfl | rfl | rfl | rfl | rfl | rfl | rfl | rfl | rfl | rfl | rfl | rfl | rfl <;> first | rfl | (exfalso; omega))
  replace hc2 := of_decide_eq_false ((irr_eq _).symm.trans hc2)
  refine l_op 0 rfl rfl rfl rfl rfl ?_
  first | refine l_remn rfl rfl rfl rfl rfl (by omega) rfl ?_ | refine l_rem rfl rfl rfl rfl rfl (by omega) rfl ?_
  refine l_cmp rfl rfl rfl rfl ?_
  refine l_op 2 rfl rfl rfl rfl rfl ?_
  refine l_nil (WK.nx (by assumption) ?_)
  refine SeqK.nx (by assumption) ?_
  refine l_cond rfl rfl (fun hc3 => ?_) (fun hc3 => ?_)
  · first | replace hc3 := eq_of_beq ((irr_eq _).symm.trans hc3) | simp only [irr_eq, beq_iff_eq, beq_eq_false_iff_ne, ne_eq, decide_eq_true_eq, decide_eq_false_iff_not] at hc3
    refine k_seq (fun Q K => ?_)
    refine k_lin (fun W K => ?_)
    refine l_op 0 rfl rfl rfl rfl rfl ?_
    refine l_nil (WK.nx (by assumption) ?_)
    refine SeqK.nx (by assumption) ?_
    refine k_ret ?_
    refine SeqK.rt (by assumption) ?_
    refine FunK.rt (by assumption) rfl ?_
    -- leaf 3
    refine ⟨(), ?_, F, trivial⟩
    show Value.int .i64 _ = Value.int .i64 (szm m)
    first
      | (rw [show szm m = -1 from if_pos (by omega)]; done)
      | (have h16 : m = 0 ∨ m = 1 ∨ m = 2 ∨ m = 3 ∨ m = 4 ∨ m = 5 ∨ m = 6 ∨ m = 7 ∨ m = 8 ∨ m = 9 ∨ m = 10 ∨ m = 11 ∨ m = 12 ∨ m = 13 ∨ m = 14 ∨ m = 15 := by omega
         rcases h16 with rfl | rfl | rfl | rfl | rfl | rfl | rfl | rfl | rfl | rfl | rfl | rfl | rfl | rfl | rfl | rfl <;> first | rfl | (exfalso; omega))
  first | replace hc3 := ne_of_beq_false ((irr_eq _).symm.trans hc3) | simp only [irr_eq, beq_iff_eq, beq_eq_false_iff_ne, ne_eq, decide_eq_true_eq, decide_eq_false_iff_not] at hc3
  refine k_skip ?_
  refine SeqK.nx (by assumption) ?_
  refine k_seq (fun Q K => ?_)
  refine k_seq (fun Q K => ?_)
  refine k_lin (fun W K => ?_)
  refine l_op 0 rfl rfl rfl rfl rfl ?_
  first | refine l_remn rfl rfl rfl rfl rfl (by omega) rfl ?_ | refine l_rem rfl rfl rfl rfl rfl (by omega) rfl ?_
  refine l_cmp rfl rfl rfl rfl ?_
  refine l_nil (WK.nx (by assumption) ?_)
  refine SeqK.nx (by assumption) ?_
  refine l_cond rfl rfl (fun hc4 => ?_) (fun hc4 => ?_)
  · first | replace hc4 := eq_of_beq ((irr_eq _).symm.trans hc4) | simp only [irr_eq, beq_iff_eq, beq_eq_false_iff_ne, ne_eq, decide_eq_true_eq, decide_eq_false_iff_not] at hc4
    refine k_seq (fun Q K => ?_)
    refine k_lin (fun W K => ?_)
    refine l_op 0 rfl rfl rfl rfl rfl ?_
    refine l_nil (WK.nx (by assumption) ?_)
    refine SeqK.nx (by assumption) ?_
    refine k_ret ?_
    refine SeqK.rt (by assumption) ?_
    refine FunK.rt (by assumption) rfl ?_
    -- leaf 4
    refine ⟨(), ?_, F, trivial⟩
    show Value.int .i64 _ = Value.int .i64 (szm m)
    first
      | (rw [show szm m = -1 from if_pos (by omega)]; done)
      | (have h16 : m = 0 ∨ m = 1 ∨ m = 2 ∨ m = 3 ∨ m = 4 ∨ m = 5 ∨ m = 6 ∨ m = 7 ∨ m = 8 ∨ m = 9 ∨ m = 10 ∨ m = 11 ∨ m = 12 ∨ m = 13 ∨ m = 14 ∨ m = 15 := by omega
         rcases h16 with rfl | rfl | rfl | rfl | rfl | rfl | rfl | rfl | rfl | rfl | rfl | rfl | rfl | rfl | rfl | rfl <;> first | rfl | (exfalso; omega))
  first | replace hc4 := ne_of_beq_false ((irr_eq _).symm.trans hc4) | simp only [irr_eq, beq_iff_eq, beq_eq_false_iff_ne, ne_eq, decide_eq_true_eq, decide_eq_false_iff_not] at hc4
  refine k_skip ?_
  refine SeqK.nx (by assumption) ?_
  refine k_seq (fun Q K => ?_)
  refine k_lin (fun W K => ?_)
  refine l_op 0 rfl rfl rfl rfl rfl ?_
  first | refine l_remn rfl rfl rfl rfl rfl (by omega) rfl ?_ | refine l_rem rfl rfl rfl rfl rfl (by omega) rfl ?_
  refine l_op 0 rfl rfl rfl rfl rfl ?_
  refine l_nil (WK.nx (by assumption) ?_)
  refine SeqK.nx (by assumption) ?_
  refine k_ret ?_
  refine FunK.rt (by assumption) rfl ?_
  -- leaf 5
  refine ⟨(), ?_, F, trivial⟩
  show Value.int .i64 _ = Value.int .i64 (szm m)
  first
    | (rw [show szm m = -1 from if_pos (by omega)]; done)
    | (have h16 : m = 0 ∨ m = 1 ∨ m = 2 ∨ m = 3 ∨ m = 4 ∨ m = 5 ∨ m = 6 ∨ m = 7 ∨ m = 8 ∨ m = 9 ∨ m = 10 ∨ m = 11 ∨ m = 12 ∨ m = 13 ∨ m = 14 ∨ m = 15 := by omega
       rcases h16 with rfl | rfl | rfl | rfl | rfl | rfl | rfl | rfl | rfl | rfl | rfl | rfl | rfl | rfl | rfl | rfl <;> first | rfl | (exfalso; omega))
theorem rmay_call {σ : AState} {c m : Int} :
    SCall Try.prog E0 42 [.int .u8 c, .int .i64 m] σ (Ret E0 σ (fun (_ : Unit) => .bool (irr (mayR c m))) (fun _ => []) fun _ => True) := by
  refine k_fun Try.func42 rfl (m := 18) rfl fun B hD Q K => ?_
  have F := Facts.nil E0 σ
  refine k_seq (fun Q K => ?_)
  refine k_lin (fun W K => ?_)
  refine l_op 0 rfl rfl rfl rfl rfl ?_
  refine l_nil (WK.nx (by assumption) ?_)
  refine SeqK.nx (by assumption) ?_
  refine k_seq (fun Q K => ?_)
  refine k_seq (fun Q K => ?_)
  refine k_lin (fun W K => ?_)
  refine l_op 0 rfl rfl rfl rfl rfl ?_
  refine l_callp F rfl rfl (by kernel_rfl) rfl rfl rsize_call (fun _ s F _ => ?_)
  (try dsimp only [n_1, n_2, n_3, n_4, List.append_nil, pk, n_5, n_6] at F)
  refine l_cmp rfl rfl rfl rfl ?_
  refine l_nil (WK.nx (by assumption) ?_)
  refine SeqK.nx (by assumption) ?_
  refine l_cond rfl rfl (fun hc1 => ?_) (fun hc1 => ?_)
  · replace hc1 := of_decide_eq_true ((irr_eq _).symm.trans hc1)
    refine k_seq (fun Q K => ?_)
    refine k_lin (fun W K => ?_)
    refine l_op 0 rfl rfl rfl rfl rfl ?_
    refine l_nil (WK.nx (by assumption) ?_)
    refine SeqK.nx (by assumption) ?_
    refine k_ret ?_
    refine SeqK.rt (by assumption) ?_
    refine FunK.rt (by assumption) rfl ?_
    -- leaf 1
    refine ⟨(), ?_, F.pick [] (by decide), trivial⟩
    show Value.bool _ = Value.bool (irr (mayR c m))
    unfold mayR
    first
      | (rw [irr_eq, decide_eq_false (by omega)]; done)
      | (rw [irr_eq, decide_eq_true ⟨by omega, .inl (by omega)⟩]; done)
      | (have e : cst m = false := decide_eq_false (by omega)
         rw [irr_eq, decide_eq_true ⟨by omega, .inr e⟩]; done)
      | (have hlo := (szm_cases (m := m) (by omega)).1
         have e : decide (m > 3) = decide (0 ≤ szm m ∧ (c = 76 ∨ cst m = false)) := by
           unfold cst
           rw [decide_eq_decide, decide_eq_false_iff_not]
           exact ⟨fun h => ⟨by omega, .inr (by omega)⟩, fun h => by rcases h.2 with h | h <;> omega⟩
         rw [← e])
  replace hc1 := of_decide_eq_false ((irr_eq _).symm.trans hc1)
  refine k_skip ?_
  refine SeqK.nx (by assumption) ?_
  refine k_seq (fun Q K => ?_)
  refine k_lin (fun W K => ?_)
  refine l_op 0 rfl rfl rfl rfl rfl ?_
  refine l_cmp rfl rfl rfl rfl ?_
  refine l_op 0 rfl rfl rfl rfl rfl ?_
  refine l_guard rfl rfl rfl (fun hc2 => ?_) (fun hc2 => ?_)
  · first | replace hc2 := eq_of_beq ((irr_eq _).symm.trans hc2) | simp only [irr_eq, beq_iff_eq, beq_eq_false_iff_ne, ne_eq, decide_eq_true_eq, decide_eq_false_iff_not] at hc2
    refine l_s rfl rfl ?_
    refine l_s rfl rfl ?_
    refine l_op 2 rfl rfl rfl rfl rfl ?_
    refine l_op 0 rfl rfl rfl rfl rfl ?_
    refine l_s rfl rfl ?_
    refine l_s rfl rfl ?_
    refine l_op 2 rfl rfl rfl rfl rfl ?_
    refine l_op 0 rfl rfl rfl rfl rfl ?_
    refine l_nil (WK.nx (by assumption) ?_)
    refine SeqK.nx (by assumption) ?_
    refine k_ret ?_
    refine FunK.rt (by assumption) rfl ?_
    -- leaf 2
    refine ⟨(), ?_, F.pick [] (by decide), trivial⟩
    show Value.bool _ = Value.bool (irr (mayR c m))
    unfold mayR
    first
      | (rw [irr_eq, decide_eq_false (by omega)]; done)
      | (rw [irr_eq, decide_eq_true ⟨by omega, .inl (by omega)⟩]; done)
      | (have e : cst m = false := decide_eq_false (by omega)
         rw [irr_eq, decide_eq_true ⟨by omega, .inr e⟩]; done)
      | (have hlo := (szm_cases (m := m) (by omega)).1
         have e : decide (m > 3) = decide (0 ≤ szm m ∧ (c = 76 ∨ cst m = false)) := by
           unfold cst
           rw [decide_eq_decide, decide_eq_false_iff_not]
           exact ⟨fun h => ⟨by omega, .inr (by omega)⟩, fun h => by rcases h.2 with h | h <;> omega⟩
         rw [← e])
  first | replace hc2 := ne_of_beq_false ((irr_eq _).symm.trans hc2) | simp only [irr_eq, beq_iff_eq, beq_eq_false_iff_ne, ne_eq, decide_eq_true_eq, decide_eq_false_iff_not] at hc2
  refine l_op 0 rfl rfl rfl rfl rfl ?_
  refine l_cmp rfl rfl rfl rfl ?_
  refine l_op 2 rfl rfl rfl rfl rfl ?_
  refine l_op 0 rfl rfl rfl rfl rfl ?_
  refine l_guard rfl rfl rfl (fun hc3 => ?_) (fun hc3 => ?_)
  · first | replace hc3 := eq_of_beq ((irr_eq _).symm.trans hc3) | simp only [irr_eq, beq_iff_eq, beq_eq_false_iff_ne, ne_eq, decide_eq_true_eq, decide_eq_false_iff_not] at hc3
    refine l_s rfl rfl ?_
    refine l_s rfl rfl ?_
    refine l_op 2 rfl rfl rfl rfl rfl ?_
    refine l_op 0 rfl rfl rfl rfl rfl ?_
    refine l_nil (WK.nx (by assumption) ?_)
    refine SeqK.nx (by assumption) ?_
    refine k_ret ?_
    refine FunK.rt (by assumption) rfl ?_
    -- leaf 3
    refine ⟨(), ?_, F.pick [] (by decide), trivial⟩
    show Value.bool _ = Value.bool (irr (mayR c m))
    unfold mayR
    first
      | (rw [irr_eq, decide_eq_false (by omega)]; done)
      | (rw [irr_eq, decide_eq_true ⟨by omega, .inl (by omega)⟩]; done)
      | (have e : cst m = false := decide_eq_false (by omega)
         rw [irr_eq, decide_eq_true ⟨by omega, .inr e⟩]; done)
      | (have hlo := (szm_cases (m := m) (by omega)).1
         have e : decide (m > 3) = decide (0 ≤ szm m ∧ (c = 76 ∨ cst m = false)) := by
           unfold cst
           rw [decide_eq_decide, decide_eq_false_iff_not]
           exact ⟨fun h => ⟨by omega, .inr (by omega)⟩, fun h => by rcases h.2 with h | h <;> omega⟩
         rw [← e])
  first | replace hc3 := ne_of_beq_false ((irr_eq _).symm.trans hc3) | simp only [irr_eq, beq_iff_eq, beq_eq_false_iff_ne, ne_eq, decide_eq_true_eq, decide_eq_false_iff_not] at hc3
  refine l_op 0 rfl rfl rfl rfl rfl ?_
  refine l_cmp rfl rfl rfl rfl ?_
  refine l_op 2 rfl rfl rfl rfl rfl ?_
  refine l_op 0 rfl rfl rfl rfl rfl ?_
  refine l_nil (WK.nx (by assumption) ?_)
  refine SeqK.nx (by assumption) ?_
  refine k_ret ?_
  refine FunK.rt (by assumption) rfl ?_
  -- leaf 4
  refine ⟨(), ?_, F.pick [] (by decide), trivial⟩
  show Value.bool _ = Value.bool (irr (mayR c m))
  unfold mayR
  first
    | (rw [irr_eq, decide_eq_false (by omega)]; done)
    | (rw [irr_eq, decide_eq_true ⟨by omega, .inl (by omega)⟩]; done)
    | (have e : cst m = false := decide_eq_false (by omega)
       rw [irr_eq, decide_eq_true ⟨by omega, .inr e⟩]; done)
    | (have hlo := (szm_cases (m := m) (by omega)).1
       have e : decide (m > 3) = decide (0 ≤ szm m ∧ (c = 76 ∨ cst m = false)) := by
         unfold cst
         rw [decide_eq_decide, decide_eq_false_iff_not]
         exact ⟨fun h => ⟨by omega, .inr (by omega)⟩, fun h => by rcases h.2 with h | h <;> omega⟩
       rw [← e])
theorem and32 {x : Int} : IntKind.u32.wrap (IntKind.i64.wrap ↑(BitVec.ofInt IntKind.i64.bits x &&& BitVec.ofInt IntKind.i64.bits 4294967295).toNat) = x % 4294967296 := by
  have e : (BitVec.ofInt IntKind.i64.bits x &&& BitVec.ofInt IntKind.i64.bits 4294967295).toNat = (x % 18446744073709551616).toNat % 2 ^ 32 := by
    rw [BitVec.toNat_and, BitVec.toNat_ofInt]
    exact Nat.and_two_pow_sub_one_eq_mod _ 32
  rw [e, wrapi (by omega) (by omega), wrap32 (by omega) (by omega)]
  omega
theorem rof_call {σ : AState} {x : Int} (h : -2147483648 ≤ x ∧ x ≤ 4294967295) :
    SCall Try.prog E0 48 [.int .i64 x] σ (Ret E0 σ (fun (_ : Unit) => .int .u32 (x % 4294967296)) (fun _ => []) fun _ => True) := by
  refine k_fun Try.func48 rfl (m := 6) rfl fun B hD Q K => ?_
  have F := Facts.nil E0 σ
  refine k_seq (fun Q K => ?_)
  refine k_lin (fun W K => ?_)
  refine l_op 0 rfl rfl rfl rfl rfl ?_
  refine l_nil (WK.nx (by assumption) ?_)
  refine SeqK.nx (by assumption) ?_
  refine k_seq (fun Q K => ?_)
  refine k_lin (fun W K => ?_)
  refine l_op 0 rfl rfl rfl rfl rfl ?_
  refine l_op 2 rfl rfl rfl rfl rfl ?_
  refine l_op 16 rfl rfl rfl rfl rfl ?_
  refine l_op 0 rfl rfl rfl rfl rfl ?_
  refine l_nil (WK.nx (by assumption) ?_)
  refine SeqK.nx (by assumption) ?_
  refine k_ret ?_
  refine FunK.rt (by assumption) rfl ?_
  -- leaf 1
  exact ⟨(), congrArg (Value.int .u32) and32, F, trivial⟩
theorem rextend_call {σ : AState} {x k : Int} (hx : U32 x) :
    SCall Try.prog E0 44 [.int .u32 x, .int .i64 k] σ (Ret E0 σ (fun (_ : Unit) => .int .u32 (extR x k)) (fun _ => []) fun _ => True) := by
  obtain ⟨x0, x1⟩ := hx
  refine k_fun Try.func44 rfl (m := 27) rfl fun B hD Q K => ?_
  have F := Facts.nil E0 σ
  refine k_seq (fun Q K => ?_)
  refine k_lin (fun W K => ?_)
  refine l_op 0 rfl rfl rfl rfl rfl ?_
  refine l_nil (WK.nx (by assumption) ?_)
  refine SeqK.nx (by assumption) ?_
  refine k_seq (fun Q K => ?_)
  refine k_lin (fun W K => ?_)
  refine l_op 0 rfl rfl rfl rfl rfl ?_
  refine l_nil (WK.nx (by assumption) ?_)
  refine SeqK.nx (by assumption) ?_
  refine k_seq (fun Q K => ?_)
  refine k_seq (fun Q K => ?_)
  refine k_lin (fun W K => ?_)
  refine l_op 0 rfl rfl rfl rfl rfl ?_
  refine l_cmp rfl rfl rfl rfl ?_
  refine l_nil (WK.nx (by assumption) ?_)
  refine SeqK.nx (by assumption) ?_
  refine l_cond rfl rfl (fun hc1 => ?_) (fun hc1 => ?_)
  · first | replace hc1 := eq_of_beq ((irr_eq _).symm.trans hc1) | simp only [irr_eq, beq_iff_eq, beq_eq_false_iff_ne, ne_eq, decide_eq_true_eq, decide_eq_false_iff_not] at hc1
    refine k_lin (fun W K => ?_)
    refine l_op 0 rfl rfl rfl rfl rfl ?_
    refine l_nil (WK.nx (by assumption) ?_)
    refine SeqK.nx (by assumption) ?_
    refine k_seq (fun Q K => ?_)
    refine k_seq (fun Q K => ?_)
    refine k_lin (fun W K => ?_)
    refine l_op 0 rfl rfl rfl rfl rfl ?_
    refine l_cmp rfl rfl rfl rfl ?_
    refine l_nil (WK.nx (by assumption) ?_)
    refine SeqK.nx (by assumption) ?_
    refine l_cond rfl rfl (fun hc2 => ?_) (fun hc2 => ?_)
    · first | replace hc2 := eq_of_beq ((irr_eq _).symm.trans hc2) | simp only [irr_eq, beq_iff_eq, beq_eq_false_iff_ne, ne_eq, decide_eq_true_eq, decide_eq_false_iff_not] at hc2
      refine k_lin (fun W K => ?_)
      refine l_op 0 rfl rfl rfl rfl rfl ?_
      refine l_nil (WK.nx (by assumption) ?_)
      refine SeqK.nx (by assumption) ?_
      refine k_seq (fun Q K => ?_)
      refine k_seq (fun Q K => ?_)
      refine k_lin (fun W K => ?_)
      refine l_op 0 rfl rfl rfl rfl rfl ?_
      refine l_cmp rfl rfl rfl rfl ?_
      refine l_nil (WK.nx (by assumption) ?_)
      refine SeqK.nx (by assumption) ?_
      refine l_cond rfl rfl (fun hc3 => ?_) (fun hc3 => ?_)
      · first | replace hc3 := eq_of_beq ((irr_eq _).symm.trans hc3) | simp only [irr_eq, beq_iff_eq, beq_eq_false_iff_ne, ne_eq, decide_eq_true_eq, decide_eq_false_iff_not] at hc3
        refine k_seq (fun Q K => ?_)
        refine k_lin (fun W K => ?_)
        refine l_op 0 rfl rfl rfl rfl rfl ?_
        refine l_op 0 rfl rfl rfl rfl rfl ?_
        refine l_nil (WK.nx (by assumption) ?_)
        refine SeqK.nx (by assumption) ?_
        refine k_ret ?_
        refine SeqK.rt (by assumption) ?_
        refine FunK.rt (by assumption) rfl ?_
        -- leaf 1
        refine ⟨(), ?_, F.pick [] (by decide), trivial⟩
        show Value.int .u32 _ = Value.int .u32 (extR x k)
        unfold extR
        first
          | (rw [if_pos (by omega), if_pos (by omega)]; exact congrArg _ (by omega))
          | (rw [if_pos (by omega), if_neg (by omega)]; exact congrArg _ (by omega))
          | (rw [if_neg (by omega), if_pos (by omega), if_pos (by omega)]; exact congrArg _ (by omega))
          | (rw [if_neg (by omega), if_pos (by omega), if_neg (by omega)]; exact congrArg _ (by omega))
          | (rw [if_neg (by omega), if_neg (by omega)]; done)
          | omega
      first | replace hc3 := ne_of_beq_false ((irr_eq _).symm.trans hc3) | simp only [irr_eq, beq_iff_eq, beq_eq_false_iff_ne, ne_eq, decide_eq_true_eq, decide_eq_false_iff_not] at hc3
      refine k_skip ?_
      refine SeqK.nx (by assumption) ?_
      refine k_seq (fun Q K => ?_)
      refine k_lin (fun W K => ?_)
      refine l_op 0 rfl rfl rfl rfl rfl ?_
      refine l_c64 rfl rfl rfl (by omega) rfl ?_
      refine l_op 0 rfl rfl rfl rfl rfl ?_
      first | refine l_remn rfl rfl rfl rfl rfl (by omega) rfl ?_ | refine l_rem rfl rfl rfl rfl rfl (by omega) rfl ?_
      refine l_op 0 rfl rfl rfl rfl rfl ?_
      refine l_nil (WK.nx (by assumption) ?_)
      refine SeqK.nx (by assumption) ?_
      refine k_seq (fun Q K => ?_)
      refine k_seq (fun Q K => ?_)
      refine k_lin (fun W K => ?_)
      refine l_op 0 rfl rfl rfl rfl rfl ?_
      refine l_op 0 rfl rfl rfl rfl rfl ?_
      first | refine l_quon rfl rfl rfl rfl rfl (by omega) rfl ?_ | refine l_quou64 rfl rfl rfl rfl rfl (by omega) rfl ?_ | refine l_quou32 rfl rfl rfl rfl rfl (by omega) rfl ?_ | refine l_quo rfl rfl rfl rfl rfl (by omega) rfl ?_
      refine l_cmp rfl rfl rfl rfl ?_
      refine l_nil (WK.nx (by assumption) ?_)
      refine SeqK.nx (by assumption) ?_
      refine l_cond rfl rfl (fun hc4 => ?_) (fun hc4 => ?_)
      · replace hc4 := of_decide_eq_true ((irr_eq _).symm.trans hc4)
        refine k_lin (fun W K => ?_)
        refine l_op 0 rfl rfl rfl rfl rfl ?_
        refine l_op 0 rfl rfl rfl rfl rfl ?_
        refine l_a64 rfl rfl rfl (by omega) rfl ?_
        refine l_op 0 rfl rfl rfl rfl rfl ?_
        refine l_nil (WK.nx (by assumption) ?_)
        refine SeqK.nx (by assumption) ?_
        refine k_seq (fun Q K => ?_)
        refine k_lin (fun W K => ?_)
        refine l_op 0 rfl rfl rfl rfl rfl ?_
        refine l_callp F rfl rfl (by kernel_rfl) rfl rfl (rof_call (by omega)) (fun _ s F _ => ?_)
        (try dsimp only [n_1, n_2, n_3, n_4, List.append_nil, pk, n_5, n_6] at F)
        refine l_op 0 rfl rfl rfl rfl rfl ?_
        refine l_nil (WK.nx (by assumption) ?_)
        refine SeqK.nx (by assumption) ?_
        refine k_ret ?_
        refine FunK.rt (by assumption) rfl ?_
        -- leaf 2
        refine ⟨(), ?_, F.pick [] (by decide), trivial⟩
        show Value.int .u32 _ = Value.int .u32 (extR x k)
        unfold extR
        first
          | (rw [if_pos (by omega), if_pos (by omega)]; exact congrArg _ (by omega))
          | (rw [if_pos (by omega), if_neg (by omega)]; exact congrArg _ (by omega))
          | (rw [if_neg (by omega), if_pos (by omega), if_pos (by omega)]; exact congrArg _ (by omega))
          | (rw [if_neg (by omega), if_pos (by omega), if_neg (by omega)]; exact congrArg _ (by omega))
          | (rw [if_neg (by omega), if_neg (by omega)]; done)
          | omega
      replace hc4 := of_decide_eq_false ((irr_eq _).symm.trans hc4)
      refine k_skip ?_
      refine SeqK.nx (by assumption) ?_
      refine k_seq (fun Q K => ?_)
      refine k_lin (fun W K => ?_)
      refine l_op 0 rfl rfl rfl rfl rfl ?_
      refine l_callp F rfl rfl (by kernel_rfl) rfl rfl (rof_call (by omega)) (fun _ s F _ => ?_)
      (try dsimp only [n_1, n_2, n_3, n_4, List.append_nil, pk, n_5, n_6] at F)
      refine l_op 0 rfl rfl rfl rfl rfl ?_
      refine l_nil (WK.nx (by assumption) ?_)
      refine SeqK.nx (by assumption) ?_
      refine k_ret ?_
      refine FunK.rt (by assumption) rfl ?_
      -- leaf 3
      refine ⟨(), ?_, F.pick [] (by decide), trivial⟩
      show Value.int .u32 _ = Value.int .u32 (extR x k)
      unfold extR
      first
        | (rw [if_pos (by omega), if_pos (by omega)]; exact congrArg _ (by omega))
        | (rw [if_pos (by omega), if_neg (by omega)]; exact congrArg _ (by omega))
        | (rw [if_neg (by omega), if_pos (by omega), if_pos (by omega)]; exact congrArg _ (by omega))
        | (rw [if_neg (by omega), if_pos (by omega), if_neg (by omega)]; exact congrArg _ (by omega))
        | (rw [if_neg (by omega), if_neg (by omega)]; done)
        | omega
    first | replace hc2 := ne_of_beq_false ((irr_eq _).symm.trans hc2) | simp only [irr_eq, beq_iff_eq, beq_eq_false_iff_ne, ne_eq, decide_eq_true_eq, decide_eq_false_iff_not] at hc2
    refine k_skip ?_
    refine SeqK.nx (by assumption) ?_
    refine k_seq (fun Q K => ?_)
    refine k_seq (fun Q K => ?_)
    refine k_lin (fun W K => ?_)
    refine l_op 0 rfl rfl rfl rfl rfl ?_
    refine l_cmp rfl rfl rfl rfl ?_
    refine l_nil (WK.nx (by assumption) ?_)
    refine SeqK.nx (by assumption) ?_
    refine l_cond rfl rfl (fun hc5 => ?_) (fun hc5 => ?_)
    · first | replace hc5 := eq_of_beq ((irr_eq _).symm.trans hc5) | simp only [irr_eq, beq_iff_eq, beq_eq_false_iff_ne, ne_eq, decide_eq_true_eq, decide_eq_false_iff_not] at hc5
      refine k_seq (fun Q K => ?_)
      refine k_lin (fun W K => ?_)
      refine l_op 0 rfl rfl rfl rfl rfl ?_
      refine l_op 0 rfl rfl rfl rfl rfl ?_
      refine l_nil (WK.nx (by assumption) ?_)
      refine SeqK.nx (by assumption) ?_
      refine k_ret ?_
      refine SeqK.rt (by assumption) ?_
      refine FunK.rt (by assumption) rfl ?_
      -- leaf 4
      refine ⟨(), ?_, F.pick [] (by decide), trivial⟩
      show Value.int .u32 _ = Value.int .u32 (extR x k)
      unfold extR
      first
        | (rw [if_pos (by omega), if_pos (by omega)]; exact congrArg _ (by omega))
        | (rw [if_pos (by omega), if_neg (by omega)]; exact congrArg _ (by omega))
        | (rw [if_neg (by omega), if_pos (by omega), if_pos (by omega)]; exact congrArg _ (by omega))
        | (rw [if_neg (by omega), if_pos (by omega), if_neg (by omega)]; exact congrArg _ (by omega))
        | (rw [if_neg (by omega), if_neg (by omega)]; done)
        | omega
    first | replace hc5 := ne_of_beq_false ((irr_eq _).symm.trans hc5) | simp only [irr_eq, beq_iff_eq, beq_eq_false_iff_ne, ne_eq, decide_eq_true_eq, decide_eq_false_iff_not] at hc5
    refine k_skip ?_
    refine SeqK.nx (by assumption) ?_
    refine k_seq (fun Q K => ?_)
    refine k_lin (fun W K => ?_)
    refine l_op 0 rfl rfl rfl rfl rfl ?_
    refine l_c64 rfl rfl rfl (by omega) rfl ?_
    refine l_op 0 rfl rfl rfl rfl rfl ?_
    first | refine l_remn rfl rfl rfl rfl rfl (by omega) rfl ?_ | refine l_rem rfl rfl rfl rfl rfl (by omega) rfl ?_
    refine l_op 0 rfl rfl rfl rfl rfl ?_
    refine l_nil (WK.nx (by assumption) ?_)
    refine SeqK.nx (by assumption) ?_
    refine k_seq (fun Q K => ?_)
    refine k_seq (fun Q K => ?_)
    refine k_lin (fun W K => ?_)
    refine l_op 0 rfl rfl rfl rfl rfl ?_
    refine l_op 0 rfl rfl rfl rfl rfl ?_
    first | refine l_quon rfl rfl rfl rfl rfl (by omega) rfl ?_ | refine l_quou64 rfl rfl rfl rfl rfl (by omega) rfl ?_ | refine l_quou32 rfl rfl rfl rfl rfl (by omega) rfl ?_ | refine l_quo rfl rfl rfl rfl rfl (by omega) rfl ?_
    refine l_cmp rfl rfl rfl rfl ?_
    refine l_nil (WK.nx (by assumption) ?_)
    refine SeqK.nx (by assumption) ?_
    refine l_cond rfl rfl (fun hc6 => ?_) (fun hc6 => ?_)
    · replace hc6 := of_decide_eq_true ((irr_eq _).symm.trans hc6)
      refine k_lin (fun W K => ?_)
      refine l_op 0 rfl rfl rfl rfl rfl ?_
      refine l_op 0 rfl rfl rfl rfl rfl ?_
      refine l_a64 rfl rfl rfl (by omega) rfl ?_
      refine l_op 0 rfl rfl rfl rfl rfl ?_
      refine l_nil (WK.nx (by assumption) ?_)
      refine SeqK.nx (by assumption) ?_
      refine k_seq (fun Q K => ?_)
      refine k_lin (fun W K => ?_)
      refine l_op 0 rfl rfl rfl rfl rfl ?_
      refine l_callp F rfl rfl (by kernel_rfl) rfl rfl (rof_call (by omega)) (fun _ s F _ => ?_)
      (try dsimp only [n_1, n_2, n_3, n_4, List.append_nil, pk, n_5, n_6] at F)
      refine l_op 0 rfl rfl rfl rfl rfl ?_
      refine l_nil (WK.nx (by assumption) ?_)
      refine SeqK.nx (by assumption) ?_
      refine k_ret ?_
      refine FunK.rt (by assumption) rfl ?_
      -- leaf 5
      refine ⟨(), ?_, F.pick [] (by decide), trivial⟩
      show Value.int .u32 _ = Value.int .u32 (extR x k)
      unfold extR
      first
        | (rw [if_pos (by omega), if_pos (by omega)]; exact congrArg _ (by omega))
        | (rw [if_pos (by omega), if_neg (by omega)]; exact congrArg _ (by omega))
        | (rw [if_neg (by omega), if_pos (by omega), if_pos (by omega)]; exact congrArg _ (by omega))
        | (rw [if_neg (by omega), if_pos (by omega), if_neg (by omega)]; exact congrArg _ (by omega))
        | (rw [if_neg (by omega), if_neg (by omega)]; done)
        | omega
    replace hc6 := of_decide_eq_false ((irr_eq _).symm.trans hc6)
    refine k_skip ?_
    refine SeqK.nx (by assumption) ?_
    refine k_seq (fun Q K => ?_)
    refine k_lin (fun W K => ?_)
    refine l_op 0 rfl rfl rfl rfl rfl ?_
    refine l_callp F rfl rfl (by kernel_rfl) rfl rfl (rof_call (by omega)) (fun _ s F _ => ?_)
    (try dsimp only [n_1, n_2, n_3, n_4, List.append_nil, pk, n_5, n_6] at F)
    refine l_op 0 rfl rfl rfl rfl rfl ?_
    refine l_nil (WK.nx (by assumption) ?_)
    refine SeqK.nx (by assumption) ?_
    refine k_ret ?_
    refine FunK.rt (by assumption) rfl ?_
    -- leaf 6
    refine ⟨(), ?_, F.pick [] (by decide), trivial⟩
    show Value.int .u32 _ = Value.int .u32 (extR x k)
    unfold extR
    first
      | (rw [if_pos (by omega), if_pos (by omega)]; exact congrArg _ (by omega))
      | (rw [if_pos (by omega), if_neg (by omega)]; exact congrArg _ (by omega))
      | (rw [if_neg (by omega), if_pos (by omega), if_pos (by omega)]; exact congrArg _ (by omega))
      | (rw [if_neg (by omega), if_pos (by omega), if_neg (by omega)]; exact congrArg _ (by omega))
      | (rw [if_neg (by omega), if_neg (by omega)]; done)
      | omega
  first | replace hc1 := ne_of_beq_false ((irr_eq _).symm.trans hc1) | simp only [irr_eq, beq_iff_eq, beq_eq_false_iff_ne, ne_eq, decide_eq_true_eq, decide_eq_false_iff_not] at hc1
  refine k_skip ?_
  refine SeqK.nx (by assumption) ?_
  refine k_seq (fun Q K => ?_)
  refine k_seq (fun Q K => ?_)
  refine k_lin (fun W K => ?_)
  refine l_op 0 rfl rfl rfl rfl rfl ?_
  refine l_cmp rfl rfl rfl rfl ?_
  refine l_nil (WK.nx (by assumption) ?_)
  refine SeqK.nx (by assumption) ?_
  refine l_cond rfl rfl (fun hc7 => ?_) (fun hc7 => ?_)
  · first | replace hc7 := eq_of_beq ((irr_eq _).symm.trans hc7) | simp only [irr_eq, beq_iff_eq, beq_eq_false_iff_ne, ne_eq, decide_eq_true_eq, decide_eq_false_iff_not] at hc7
    refine k_lin (fun W K => ?_)
    refine l_op 0 rfl rfl rfl rfl rfl ?_
    refine l_nil (WK.nx (by assumption) ?_)
    refine SeqK.nx (by assumption) ?_
    refine k_seq (fun Q K => ?_)
    refine k_seq (fun Q K => ?_)
    refine k_lin (fun W K => ?_)
    refine l_op 0 rfl rfl rfl rfl rfl ?_
    refine l_cmp rfl rfl rfl rfl ?_
    refine l_nil (WK.nx (by assumption) ?_)
    refine SeqK.nx (by assumption) ?_
    refine l_cond rfl rfl (fun hc8 => ?_) (fun hc8 => ?_)
    · first | replace hc8 := eq_of_beq ((irr_eq _).symm.trans hc8) | simp only [irr_eq, beq_iff_eq, beq_eq_false_iff_ne, ne_eq, decide_eq_true_eq, decide_eq_false_iff_not] at hc8
      refine k_seq (fun Q K => ?_)
      refine k_lin (fun W K => ?_)
      refine l_op 0 rfl rfl rfl rfl rfl ?_
      refine l_op 0 rfl rfl rfl rfl rfl ?_
      refine l_nil (WK.nx (by assumption) ?_)
      refine SeqK.nx (by assumption) ?_
      refine k_ret ?_
      refine SeqK.rt (by assumption) ?_
      refine FunK.rt (by assumption) rfl ?_
      -- leaf 7
      refine ⟨(), ?_, F.pick [] (by decide), trivial⟩
      show Value.int .u32 _ = Value.int .u32 (extR x k)
      unfold extR
      first
        | (rw [if_pos (by omega), if_pos (by omega)]; exact congrArg _ (by omega))
        | (rw [if_pos (by omega), if_neg (by omega)]; exact congrArg _ (by omega))
        | (rw [if_neg (by omega), if_pos (by omega), if_pos (by omega)]; exact congrArg _ (by omega))
        | (rw [if_neg (by omega), if_pos (by omega), if_neg (by omega)]; exact congrArg _ (by omega))
        | (rw [if_neg (by omega), if_neg (by omega)]; done)
        | omega
    first | replace hc8 := ne_of_beq_false ((irr_eq _).symm.trans hc8) | simp only [irr_eq, beq_iff_eq, beq_eq_false_iff_ne, ne_eq, decide_eq_true_eq, decide_eq_false_iff_not] at hc8
    refine k_skip ?_
    refine SeqK.nx (by assumption) ?_
    refine k_seq (fun Q K => ?_)
    refine k_lin (fun W K => ?_)
    refine l_op 0 rfl rfl rfl rfl rfl ?_
    refine l_c64 rfl rfl rfl (by omega) rfl ?_
    refine l_op 0 rfl rfl rfl rfl rfl ?_
    first | refine l_remn rfl rfl rfl rfl rfl (by omega) rfl ?_ | refine l_rem rfl rfl rfl rfl rfl (by omega) rfl ?_
    refine l_op 0 rfl rfl rfl rfl rfl ?_
    refine l_nil (WK.nx (by assumption) ?_)
    refine SeqK.nx (by assumption) ?_
    refine k_seq (fun Q K => ?_)
    refine k_seq (fun Q K => ?_)
    refine k_lin (fun W K => ?_)
    refine l_op 0 rfl rfl rfl rfl rfl ?_
    refine l_op 0 rfl rfl rfl rfl rfl ?_
    first | refine l_quon rfl rfl rfl rfl rfl (by omega) rfl ?_ | refine l_quou64 rfl rfl rfl rfl rfl (by omega) rfl ?_ | refine l_quou32 rfl rfl rfl rfl rfl (by omega) rfl ?_ | refine l_quo rfl rfl rfl rfl rfl (by omega) rfl ?_
    refine l_cmp rfl rfl rfl rfl ?_
    refine l_nil (WK.nx (by assumption) ?_)
    refine SeqK.nx (by assumption) ?_
    refine l_cond rfl rfl (fun hc9 => ?_) (fun hc9 => ?_)
    · replace hc9 := of_decide_eq_true ((irr_eq _).symm.trans hc9)
      refine k_lin (fun W K => ?_)
      refine l_op 0 rfl rfl rfl rfl rfl ?_
      refine l_op 0 rfl rfl rfl rfl rfl ?_
      refine l_a64 rfl rfl rfl (by omega) rfl ?_
      refine l_op 0 rfl rfl rfl rfl rfl ?_
      refine l_nil (WK.nx (by assumption) ?_)
      refine SeqK.nx (by assumption) ?_
      refine k_seq (fun Q K => ?_)
      refine k_lin (fun W K => ?_)
      refine l_op 0 rfl rfl rfl rfl rfl ?_
      refine l_callp F rfl rfl (by kernel_rfl) rfl rfl (rof_call (by omega)) (fun _ s F _ => ?_)
      (try dsimp only [n_1, n_2, n_3, n_4, List.append_nil, pk, n_5, n_6] at F)
      refine l_op 0 rfl rfl rfl rfl rfl ?_
      refine l_nil (WK.nx (by assumption) ?_)
      refine SeqK.nx (by assumption) ?_
      refine k_ret ?_
      refine FunK.rt (by assumption) rfl ?_
      -- leaf 8
      refine ⟨(), ?_, F.pick [] (by decide), trivial⟩
      show Value.int .u32 _ = Value.int .u32 (extR x k)
      unfold extR
      first
        | (rw [if_pos (by omega), if_pos (by omega)]; exact congrArg _ (by omega))
        | (rw [if_pos (by omega), if_neg (by omega)]; exact congrArg _ (by omega))
        | (rw [if_neg (by omega), if_pos (by omega), if_pos (by omega)]; exact congrArg _ (by omega))
        | (rw [if_neg (by omega), if_pos (by omega), if_neg (by omega)]; exact congrArg _ (by omega))
        | (rw [if_neg (by omega), if_neg (by omega)]; done)
        | omega
    replace hc9 := of_decide_eq_false ((irr_eq _).symm.trans hc9)
    refine k_skip ?_
    refine SeqK.nx (by assumption) ?_
    refine k_seq (fun Q K => ?_)
    refine k_lin (fun W K => ?_)
    refine l_op 0 rfl rfl rfl rfl rfl ?_
    refine l_callp F rfl rfl (by kernel_rfl) rfl rfl (rof_call (by omega)) (fun _ s F _ => ?_)
    (try dsimp only [n_1, n_2, n_3, n_4, List.append_nil, pk, n_5, n_6] at F)
    refine l_op 0 rfl rfl rfl rfl rfl ?_
    refine l_nil (WK.nx (by assumption) ?_)
    refine SeqK.nx (by assumption) ?_
    refine k_ret ?_
    refine FunK.rt (by assumption) rfl ?_
    -- leaf 9
    refine ⟨(), ?_, F.pick [] (by decide), trivial⟩
    show Value.int .u32 _ = Value.int .u32 (extR x k)
    unfold extR
    first
      | (rw [if_pos (by omega), if_pos (by omega)]; exact congrArg _ (by omega))
      | (rw [if_pos (by omega), if_neg (by omega)]; exact congrArg _ (by omega))
      | (rw [if_neg (by omega), if_pos (by omega), if_pos (by omega)]; exact congrArg _ (by omega))
      | (rw [if_neg (by omega), if_pos (by omega), if_neg (by omega)]; exact congrArg _ (by omega))
      | (rw [if_neg (by omega), if_neg (by omega)]; done)
      | omega
  first | replace hc7 := ne_of_beq_false ((irr_eq _).symm.trans hc7) | simp only [irr_eq, beq_iff_eq, beq_eq_false_iff_ne, ne_eq, decide_eq_true_eq, decide_eq_false_iff_not] at hc7
  refine k_skip ?_
  refine SeqK.nx (by assumption) ?_
  refine k_seq (fun Q K => ?_)
  refine k_seq (fun Q K => ?_)
  refine k_lin (fun W K => ?_)
  refine l_op 0 rfl rfl rfl rfl rfl ?_
  refine l_cmp rfl rfl rfl rfl ?_
  refine l_nil (WK.nx (by assumption) ?_)
  refine SeqK.nx (by assumption) ?_
  refine l_cond rfl rfl (fun hc10 => ?_) (fun hc10 => ?_)
  · first | replace hc10 := eq_of_beq ((irr_eq _).symm.trans hc10) | simp only [irr_eq, beq_iff_eq, beq_eq_false_iff_ne, ne_eq, decide_eq_true_eq, decide_eq_false_iff_not] at hc10
    refine k_seq (fun Q K => ?_)
    refine k_lin (fun W K => ?_)
    refine l_op 0 rfl rfl rfl rfl rfl ?_
    refine l_op 0 rfl rfl rfl rfl rfl ?_
    refine l_nil (WK.nx (by assumption) ?_)
    refine SeqK.nx (by assumption) ?_
    refine k_ret ?_
    refine SeqK.rt (by assumption) ?_
    refine FunK.rt (by assumption) rfl ?_
    -- leaf 10
    refine ⟨(), ?_, F.pick [] (by decide), trivial⟩
    show Value.int .u32 _ = Value.int .u32 (extR x k)
    unfold extR
    first
      | (rw [if_pos (by omega), if_pos (by omega)]; exact congrArg _ (by omega))
      | (rw [if_pos (by omega), if_neg (by omega)]; exact congrArg _ (by omega))
      | (rw [if_neg (by omega), if_pos (by omega), if_pos (by omega)]; exact congrArg _ (by omega))
      | (rw [if_neg (by omega), if_pos (by omega), if_neg (by omega)]; exact congrArg _ (by omega))
      | (rw [if_neg (by omega), if_neg (by omega)]; done)
      | omega
  first | replace hc10 := ne_of_beq_false ((irr_eq _).symm.trans hc10) | simp only [irr_eq, beq_iff_eq, beq_eq_false_iff_ne, ne_eq, decide_eq_true_eq, decide_eq_false_iff_not] at hc10
  refine k_skip ?_
  refine SeqK.nx (by assumption) ?_
  refine k_seq (fun Q K => ?_)
  refine k_lin (fun W K => ?_)
  refine l_op 0 rfl rfl rfl rfl rfl ?_
  refine l_c64 rfl rfl rfl (by omega) rfl ?_
  refine l_op 0 rfl rfl rfl rfl rfl ?_
  first | refine l_remn rfl rfl rfl rfl rfl (by omega) rfl ?_ | refine l_rem rfl rfl rfl rfl rfl (by omega) rfl ?_
  refine l_op 0 rfl rfl rfl rfl rfl ?_
  refine l_nil (WK.nx (by assumption) ?_)
  refine SeqK.nx (by assumption) ?_
  refine k_seq (fun Q K => ?_)
  refine k_seq (fun Q K => ?_)
  refine k_lin (fun W K => ?_)
  refine l_op 0 rfl rfl rfl rfl rfl ?_
  refine l_op 0 rfl rfl rfl rfl rfl ?_
  first | refine l_quon rfl rfl rfl rfl rfl (by omega) rfl ?_ | refine l_quou64 rfl rfl rfl rfl rfl (by omega) rfl ?_ | refine l_quou32 rfl rfl rfl rfl rfl (by omega) rfl ?_ | refine l_quo rfl rfl rfl rfl rfl (by omega) rfl ?_
  refine l_cmp rfl rfl rfl rfl ?_
  refine l_nil (WK.nx (by assumption) ?_)
  refine SeqK.nx (by assumption) ?_
  refine l_cond rfl rfl (fun hc11 => ?_) (fun hc11 => ?_)
  · replace hc11 := of_decide_eq_true ((irr_eq _).symm.trans hc11)
    refine k_lin (fun W K => ?_)
    refine l_op 0 rfl rfl rfl rfl rfl ?_
    refine l_op 0 rfl rfl rfl rfl rfl ?_
    refine l_a64 rfl rfl rfl (by omega) rfl ?_
    refine l_op 0 rfl rfl rfl rfl rfl ?_
    refine l_nil (WK.nx (by assumption) ?_)
    refine SeqK.nx (by assumption) ?_
    refine k_seq (fun Q K => ?_)
    refine k_lin (fun W K => ?_)
    refine l_op 0 rfl rfl rfl rfl rfl ?_
    refine l_callp F rfl rfl (by kernel_rfl) rfl rfl (rof_call (by omega)) (fun _ s F _ => ?_)
    (try dsimp only [n_1, n_2, n_3, n_4, List.append_nil, pk, n_5, n_6] at F)
    refine l_op 0 rfl rfl rfl rfl rfl ?_
    refine l_nil (WK.nx (by assumption) ?_)
    refine SeqK.nx (by assumption) ?_
    refine k_ret ?_
    refine FunK.rt (by assumption) rfl ?_
    -- leaf 11
    refine ⟨(), ?_, F.pick [] (by decide), trivial⟩
    show Value.int .u32 _ = Value.int .u32 (extR x k)
    unfold extR
    first
      | (rw [if_pos (by omega), if_pos (by omega)]; exact congrArg _ (by omega))
      | (rw [if_pos (by omega), if_neg (by omega)]; exact congrArg _ (by omega))
      | (rw [if_neg (by omega), if_pos (by omega), if_pos (by omega)]; exact congrArg _ (by omega))
      | (rw [if_neg (by omega), if_pos (by omega), if_neg (by omega)]; exact congrArg _ (by omega))
      | (rw [if_neg (by omega), if_neg (by omega)]; done)
      | omega
  replace hc11 := of_decide_eq_false ((irr_eq _).symm.trans hc11)
  refine k_skip ?_
  refine SeqK.nx (by assumption) ?_
  refine k_seq (fun Q K => ?_)
  refine k_lin (fun W K => ?_)
  refine l_op 0 rfl rfl rfl rfl rfl ?_
  refine l_callp F rfl rfl (by kernel_rfl) rfl rfl (rof_call (by omega)) (fun _ s F _ => ?_)
  (try dsimp only [n_1, n_2, n_3, n_4, List.append_nil, pk, n_5, n_6] at F)
  refine l_op 0 rfl rfl rfl rfl rfl ?_
  refine l_nil (WK.nx (by assumption) ?_)
  refine SeqK.nx (by assumption) ?_
  refine k_ret ?_
  refine FunK.rt (by assumption) rfl ?_
  -- leaf 12
  refine ⟨(), ?_, F.pick [] (by decide), trivial⟩
  show Value.int .u32 _ = Value.int .u32 (extR x k)
  unfold extR
  first
    | (rw [if_pos (by omega), if_pos (by omega)]; exact congrArg _ (by omega))
    | (rw [if_pos (by omega), if_neg (by omega)]; exact congrArg _ (by omega))
    | (rw [if_neg (by omega), if_pos (by omega), if_pos (by omega)]; exact congrArg _ (by omega))
    | (rw [if_neg (by omega), if_pos (by omega), if_neg (by omega)]; exact congrArg _ (by omega))
    | (rw [if_neg (by omega), if_neg (by omega)]; done)
    | omega

end Go.Proofs.Ytkemnodaadlonaa
