/- Numbers of bytes, the highest first, by the program. No statement of the seat is proved in this text. -/
import Derived.Test.YtocfmecenpeoiaaGreatWd
set_option linter.unusedVariables false
set_option linter.unusedSimpArgs false
set_option maxRecDepth 100000
set_option maxHeartbeats 4000000
namespace Go.Proofs.YtocfmecenpeoiaaGreat
open GAb Go

/-- What so many bytes say, from a place on. -/
def be (bs : List Int) (at_ : Nat) : Nat → Int
  | 0 => 0
  | k + 1 => 256 * be bs at_ k + bs.getD (at_ + k) 0
theorem be_bound {bs : List Int} (hB : Bytes bs) (at_ : Nat) : ∀ k, 0 ≤ be bs at_ k ∧ be bs at_ k < 256 ^ k
  | 0 => by simp [be]
  | k + 1 => by
    have h1 := be_bound hB at_ k
    have h2 := hB.at (at_ + k)
    simp only [be]
    rw [Int.pow_succ]
    omega
def beR (bs : List Int) (at_ n : Int) : Int × Int :=
  if ¬ (n = 1 ∨ n = 2 ∨ n = 4) ∨ at_ < 0 then (0, 1) else if at_ + n > bs.length then (0, 2) else (be bs at_.toNat n.toNat, 0)
abbrev beV (bs : List Int) (at_ n : Int) : Value := .tuple #[.int .u32 (beR bs at_ n).1, .int .i64 (beR bs at_ n).2]

theorem beV_arg {bs : List Int} {at_ n : Int} (h : ¬ (n = 1 ∨ n = 2 ∨ n = 4) ∨ at_ < 0) : beV bs at_ n = .tuple #[.int .u32 0, .int .i64 1] := by
  have e : beR bs at_ n = (0, 1) := if_pos h
  unfold beV; rw [e]
theorem beV_short {bs : List Int} {at_ n : Int} (h : ¬ (¬ (n = 1 ∨ n = 2 ∨ n = 4) ∨ at_ < 0)) (h2 : at_ + n > bs.length) : beV bs at_ n = .tuple #[.int .u32 0, .int .i64 2] := by
  have e : beR bs at_ n = (0, 2) := by unfold beR; rw [if_neg h, if_pos h2]
  unfold beV; rw [e]
theorem beV_ok {bs : List Int} {at_ n : Int} (h : ¬ (¬ (n = 1 ∨ n = 2 ∨ n = 4) ∨ at_ < 0)) (h2 : ¬ at_ + n > bs.length) : beV bs at_ n = .tuple #[.int .u32 (be bs at_.toNat n.toNat), .int .i64 0] := by
  have e : beR bs at_ n = (be bs at_.toNat n.toNat, 0) := by unfold beR; rw [if_neg h, if_neg h2]
  unfold beV; rw [e]
theorem shlor {x c : Int} (h0 : 0 ≤ x) (h1 : x < 16777216) (h2 : 0 ≤ c) (h3 : c ≤ 255) : IntKind.u32.wrap ↑(BitVec.ofInt IntKind.u32.bits (IntKind.u32.wrap (x * 2 ^ min (Int.toNat 8) IntKind.u32.bits)) ||| BitVec.ofInt IntKind.u32.bits c).toNat = 256 * x + c := by
  have e1 : IntKind.u32.wrap (x * 2 ^ min (Int.toNat 8) IntKind.u32.bits) = x * 256 := by
    show IntKind.u32.wrap (x * 256) = _
    exact wrap32 (by omega) (by omega)
  have e2 : (BitVec.ofInt 32 (x * 256) ||| BitVec.ofInt 32 c).toNat = x.toNat * 256 + c.toNat := by
    rw [BitVec.toNat_or, BitVec.toNat_ofInt, BitVec.toNat_ofInt]
    have a1 : ((x * 256) % (2 ^ 32 : Nat)).toNat = x.toNat <<< 8 := by rw [Nat.shiftLeft_eq]; omega
    have a2 : (c % (2 ^ 32 : Nat)).toNat = c.toNat := by omega
    rw [a1, a2, ← Nat.shiftLeft_add_eq_or_of_lt (by omega), Nat.shiftLeft_eq]
  have e3 : (BitVec.ofInt IntKind.u32.bits (x * 256) ||| BitVec.ofInt IntKind.u32.bits c).toNat = x.toNat * 256 + c.toNat := e2
  rw [e1, e3, wrap32 (by omega) (by omega)]
  omega
theorem be_lt {bs : List Int} (hB : Bytes bs) (at_ : Nat) {k : Nat} (hk : k < 4) : 0 ≤ be bs at_ k ∧ be bs at_ k < 16777216 := by
  have h := be_bound hB at_ k
  have : (256 : Int) ^ k ≤ 16777216 := by
    have : k = 0 ∨ k = 1 ∨ k = 2 ∨ k = 3 := by omega
    rcases this with rfl | rfl | rfl | rfl <;> decide
  omega

theorem be_lt4 {bs : List Int} (hB : Bytes bs) (at_ : Nat) {k : Nat} (hk : k ≤ 4) : 0 ≤ be bs at_ k ∧ be bs at_ k ≤ 4294967295 := by
  have h := be_bound hB at_ k
  have : (256 : Int) ^ k ≤ 4294967296 := by
    have : k = 0 ∨ k = 1 ∨ k = 2 ∨ k = 3 ∨ k = 4 := by omega
    rcases this with rfl | rfl | rfl | rfl | rfl <;> decide
  omega

theorem irr_t : Value.bool true = Value.bool (irr true) := by rw [irr_eq]
theorem irr_f : Value.bool false = Value.bool (irr false) := by rw [irr_eq]
theorem sized_call {σ : AState} {x : Int} :
    SCall Tryz.prog E0 113 [.int .i64 x] σ (Ret E0 σ (fun (y : Bool) => .bool (irr y)) (fun _ => []) fun y => y = true ↔ (x = 1 ∨ x = 2 ∨ x = 4)) := by
  refine k_fun Tryz.func113 rfl (m := 13) rfl fun B hD Q K => ?_
  have F := Facts.nil E0 σ
  refine k_seq fun Q K => k_lin fun W K => ?_
  refine l_op 0 rfl rfl rfl rfl rfl ?_
  refine l_nil (WK.nx ‹_› (SeqK.nx ‹_› ?_))
  refine k_seq fun Q K => k_lin fun W K => ?_
  refine l_op 0 rfl rfl rfl rfl rfl ?_
  refine l_cmp rfl rfl rfl rfl ?_
  refine l_op 0 rfl rfl rfl rfl rfl ?_
  refine l_guard rfl rfl rfl (fun hc1 => ?_) (fun hc1 => ?_)
  · first | replace hc1 := eq_of_beq ((irr_eq _).symm.trans hc1) | simp only [irr_eq, beq_iff_eq, beq_eq_false_iff_ne, ne_eq, decide_eq_true_eq, decide_eq_false_iff_not] at hc1
    iterate 2 refine l_s rfl rfl ?_
    refine l_op 2 rfl rfl rfl rfl rfl ?_
    refine l_op 0 rfl rfl rfl rfl rfl ?_
    iterate 2 refine l_s rfl rfl ?_
    refine l_op 2 rfl rfl rfl rfl rfl ?_
    refine l_op 0 rfl rfl rfl rfl rfl ?_
    refine l_nil (WK.nx ‹_› (SeqK.nx ‹_› (k_ret ?_)))
    refine FunK.rt (by assumption) rfl ?_
    -- leaf 1
    first
      | exact ⟨true, irr_t, F, ⟨fun _ => by omega, fun _ => rfl⟩⟩
      | exact ⟨x == 4, rfl, F, by show (x == 4) = true ↔ _; simp only [beq_iff_eq]; omega⟩
  first | replace hc1 := ne_of_beq_false ((irr_eq _).symm.trans hc1) | simp only [irr_eq, beq_iff_eq, beq_eq_false_iff_ne, ne_eq, decide_eq_true_eq, decide_eq_false_iff_not] at hc1
  refine l_op 0 rfl rfl rfl rfl rfl ?_
  refine l_cmp rfl rfl rfl rfl ?_
  refine l_op 2 rfl rfl rfl rfl rfl ?_
  refine l_op 0 rfl rfl rfl rfl rfl ?_
  refine l_guard rfl rfl rfl (fun hc2 => ?_) (fun hc2 => ?_)
  · first | replace hc2 := eq_of_beq ((irr_eq _).symm.trans hc2) | simp only [irr_eq, beq_iff_eq, beq_eq_false_iff_ne, ne_eq, decide_eq_true_eq, decide_eq_false_iff_not] at hc2
    iterate 2 refine l_s rfl rfl ?_
    refine l_op 2 rfl rfl rfl rfl rfl ?_
    refine l_op 0 rfl rfl rfl rfl rfl ?_
    refine l_nil (WK.nx ‹_› (SeqK.nx ‹_› (k_ret ?_)))
    refine FunK.rt (by assumption) rfl ?_
    -- leaf 2
    first
      | exact ⟨true, irr_t, F, ⟨fun _ => by omega, fun _ => rfl⟩⟩
      | exact ⟨x == 4, rfl, F, by show (x == 4) = true ↔ _; simp only [beq_iff_eq]; omega⟩
  first | replace hc2 := ne_of_beq_false ((irr_eq _).symm.trans hc2) | simp only [irr_eq, beq_iff_eq, beq_eq_false_iff_ne, ne_eq, decide_eq_true_eq, decide_eq_false_iff_not] at hc2
  refine l_op 0 rfl rfl rfl rfl rfl ?_
  refine l_cmp rfl rfl rfl rfl ?_
  refine l_op 2 rfl rfl rfl rfl rfl ?_
  refine l_op 0 rfl rfl rfl rfl rfl ?_
  refine l_nil (WK.nx ‹_› (SeqK.nx ‹_› (k_ret ?_)))
  refine FunK.rt (by assumption) rfl ?_
  -- leaf 3
  first
    | exact ⟨true, irr_t, F, ⟨fun _ => by omega, fun _ => rfl⟩⟩
    | exact ⟨x == 4, rfl, F, by show (x == 4) = true ↔ _; simp only [beq_iff_eq]; omega⟩

theorem wbe_call {σ : AState} {a : Option Addr} {l c : Nat} {bs : List Int} {at_ n : Int} (h : Old E0 σ a l c 1 (u8l bs)) (hB : Bytes bs) (hl : l ≤ 2000000) :
    SCall Tryz.prog E0 148 [.slice a l c, .int .i64 at_, .int .i64 n] σ (Ret E0 σ (fun (_ : Unit) => beV bs at_ n) (fun _ => []) fun _ => True) := by
  have hbl := h.len8
  refine k_fun Tryz.func148 rfl (m := 50) rfl fun B hD Q K => ?_
  have F := Facts.nil E0 σ
  refine k_seq fun Q K => k_lin fun W K => ?_
  iterate 2 refine l_op 0 rfl rfl rfl rfl rfl ?_
  refine l_nil (WK.nx ‹_› (SeqK.nx ‹_› ?_))
  refine k_seq fun Q K => k_block fun Q K => k_seq fun Q K => k_lin fun W K => ?_
  refine l_op 0 rfl rfl rfl rfl rfl ?_
  refine l_callp F rfl rfl (by kernel_rfl) rfl rfl sized_call (fun y s F hy => ?_)
  (try dsimp only [n_1, n_2, n_3, n_4, List.append_nil, pk, n_5, n_6] at F)
  refine l_op 2 rfl rfl rfl rfl rfl ?_
  refine l_op 0 rfl rfl rfl rfl rfl ?_
  refine l_guard rfl rfl rfl (fun hc1 => ?_) (fun hc1 => ?_)
  · try simp only [i_1, i_2, i_3, i_4, i_5, ne_eq, i_6, i_7, i_8, i_9] at hc1
    iterate 2 refine l_s rfl rfl ?_
    refine l_op 2 rfl rfl rfl rfl rfl ?_
    refine l_op 0 rfl rfl rfl rfl rfl ?_
    refine l_nil (WK.nx ‹_› (SeqK.nx ‹_› ?_))
    first | refine e_cond_t rfl rfl rfl ?_ | refine e_cond_t rfl rfl (by rw [irr_eq]; first | exact beq_iff_eq.2 (by assumption) | exact decide_eq_true (by assumption) | exact bne_iff_ne.2 (by assumption)) ?_
    refine k_seq fun Q K => k_lin fun W K => ?_
    iterate 2 refine l_op 0 rfl rfl rfl rfl rfl ?_
    refine l_nil (WK.nx ‹_› (SeqK.nx ‹_› (k_ret (BlkK.rt ‹_› (SeqK.rt ‹_› ?_)))))
    refine FunK.rt (by assumption) rfl ?_
    -- leaf 1
    refine ⟨(), ?_, F, trivial⟩
    first
      | exact (beV_arg (by omega)).symm
      | exact (beV_arg (by rw [← hy]; simp_all)).symm
      | exact (beV_short (by omega) (by omega)).symm
      | (refine Eq.trans ?_ (beV_ok (by omega) (by omega)).symm
         have : i = n := by omega
         rw [← this, ← hx]; rfl)
  try simp only [i_1, i_2, i_3, i_4, i_5, ne_eq, i_6, i_7, i_8, i_9] at hc1
  have hn := hy.1 hc1
  refine l_op 0 rfl rfl rfl rfl rfl ?_
  refine l_cmp rfl rfl rfl rfl ?_
  refine l_op 2 rfl rfl rfl rfl rfl ?_
  refine l_op 0 rfl rfl rfl rfl rfl ?_
  refine l_nil (WK.nx ‹_› (SeqK.nx ‹_› ?_))
  refine l_cond rfl rfl (fun hc2 => ?_) (fun hc2 => ?_)
  · replace hc2 := of_decide_eq_true ((irr_eq _).symm.trans hc2)
    refine k_seq fun Q K => k_lin fun W K => ?_
    iterate 2 refine l_op 0 rfl rfl rfl rfl rfl ?_
    refine l_nil (WK.nx ‹_› (SeqK.nx ‹_› (k_ret (BlkK.rt ‹_› (SeqK.rt ‹_› ?_)))))
    refine FunK.rt (by assumption) rfl ?_
    -- leaf 2
    refine ⟨(), ?_, F, trivial⟩
    first
      | exact (beV_arg (by omega)).symm
      | exact (beV_arg (by rw [← hy]; simp_all)).symm
      | exact (beV_short (by omega) (by omega)).symm
      | (refine Eq.trans ?_ (beV_ok (by omega) (by omega)).symm
         have : i = n := by omega
         rw [← this, ← hx]; rfl)
  replace hc2 := of_decide_eq_false ((irr_eq _).symm.trans hc2)
  refine k_seq fun Q K => k_lin fun W K => ?_
  iterate 2 refine l_op 0 rfl rfl rfl rfl rfl ?_
  first | refine l_op 2 rfl rfl rfl rfl rfl ?_ | refine l_ln rfl rfl rfl rfl ?_
  refine l_cmp rfl rfl rfl rfl ?_
  refine l_op 0 rfl rfl rfl rfl rfl ?_
  refine l_guard rfl rfl rfl (fun hc3 => ?_) (fun hc3 => ?_)
  · replace hc3 := of_decide_eq_true ((irr_eq _).symm.trans hc3)
    iterate 6 refine l_s rfl rfl ?_
    refine l_op 2 rfl rfl rfl rfl rfl ?_
    refine l_op 0 rfl rfl rfl rfl rfl ?_
    refine l_nil (WK.nx ‹_› (SeqK.nx ‹_› ?_))
    first | refine e_cond_t rfl rfl rfl ?_ | refine e_cond_t rfl rfl (by rw [irr_eq]; first | exact beq_iff_eq.2 (by assumption) | exact decide_eq_true (by assumption) | exact bne_iff_ne.2 (by assumption)) ?_
    refine k_seq fun Q K => k_lin fun W K => ?_
    iterate 2 refine l_op 0 rfl rfl rfl rfl rfl ?_
    refine l_nil (WK.nx ‹_› (SeqK.nx ‹_› (k_ret (BlkK.rt ‹_› (SeqK.rt ‹_› ?_)))))
    refine FunK.rt (by assumption) rfl ?_
    -- leaf 3
    refine ⟨(), ?_, F, trivial⟩
    first
      | exact (beV_arg (by omega)).symm
      | exact (beV_arg (by rw [← hy]; simp_all)).symm
      | exact (beV_short (by omega) (by omega)).symm
      | (refine Eq.trans ?_ (beV_ok (by omega) (by omega)).symm
         have : i = n := by omega
         rw [← this, ← hx]; rfl)
  replace hc3 := of_decide_eq_false ((irr_eq _).symm.trans hc3)
  refine l_op 0 rfl rfl rfl rfl rfl ?_
  first | refine l_op 2 rfl rfl rfl rfl rfl ?_ | refine l_ln rfl rfl rfl rfl ?_
  refine l_op 0 rfl rfl rfl rfl rfl ?_
  (first | refine l_a64 rfl rfl rfl (by omega) rfl ?_ | refine l_a32 rfl rfl rfl (by omega) rfl ?_ | refine l_a8 rfl rfl rfl (by omega) rfl ?_ | refine l_au64 rfl rfl rfl (by omega) rfl ?_ | refine l_op 1 rfl rfl rfl rfl rfl ?_)
  refine l_op 0 rfl rfl rfl rfl rfl ?_
  refine l_cmp rfl rfl rfl rfl ?_
  refine l_op 2 rfl rfl rfl rfl rfl ?_
  refine l_op 0 rfl rfl rfl rfl rfl ?_
  refine l_nil (WK.nx ‹_› (SeqK.nx ‹_› ?_))
  refine l_cond rfl rfl (fun hc4 => ?_) (fun hc4 => ?_)
  · replace hc4 := of_decide_eq_true ((irr_eq _).symm.trans hc4)
    refine k_seq fun Q K => k_lin fun W K => ?_
    iterate 2 refine l_op 0 rfl rfl rfl rfl rfl ?_
    refine l_nil (WK.nx ‹_› (SeqK.nx ‹_› (k_ret (BlkK.rt ‹_› (SeqK.rt ‹_› ?_)))))
    refine FunK.rt (by assumption) rfl ?_
    -- leaf 4
    refine ⟨(), ?_, F, trivial⟩
    first
      | exact (beV_arg (by omega)).symm
      | exact (beV_arg (by rw [← hy]; simp_all)).symm
      | exact (beV_short (by omega) (by omega)).symm
      | (refine Eq.trans ?_ (beV_ok (by omega) (by omega)).symm
         have : i = n := by omega
         rw [← this, ← hx]; rfl)
  replace hc4 := of_decide_eq_false ((irr_eq _).symm.trans hc4)
  refine k_skip (BlkK.nx ‹_› (SeqK.nx ‹_› ?_))
  refine k_seq fun Q K => k_lin fun W K => ?_
  refine l_op 0 rfl rfl rfl rfl rfl ?_
  refine l_nil (WK.nx ‹_› (SeqK.nx ‹_› ?_))
  refine k_seq fun Q K => k_seq fun Q K => k_lin fun W K => ?_
  iterate 4 refine l_op 0 rfl rfl rfl rfl rfl ?_
  (first | refine l_a64 rfl rfl rfl (by omega) rfl ?_ | refine l_a32 rfl rfl rfl (by omega) rfl ?_ | refine l_a8 rfl rfl rfl (by omega) rfl ?_ | refine l_au64 rfl rfl rfl (by omega) rfl ?_ | refine l_op 1 rfl rfl rfl rfl rfl ?_)
  first | refine l_sl rfl rfl rfl rfl rfl rfl rfl rfl ⟨rfl, _, _, rfl, by omega, rfl⟩ (F.old (by assumption)) (by omega) ?_ | refine l_sl rfl rfl rfl rfl rfl rfl rfl rfl ⟨rfl, _, _, rfl, by omega, rfl⟩ (F.has 0 rfl) (by omega) ?_ | refine l_sl rfl rfl rfl rfl rfl rfl rfl rfl ⟨rfl, _, _, rfl, by omega, rfl⟩ (F.has 1 rfl) (by omega) ?_ | refine l_sl rfl rfl rfl rfl rfl rfl rfl rfl ⟨rfl, _, _, rfl, by omega, rfl⟩ (F.has 2 rfl) (by omega) ?_ | refine l_sl rfl rfl rfl rfl rfl rfl rfl rfl ⟨rfl, _, _, rfl, by omega, rfl⟩ (F.has 3 rfl) (by omega) ?_
  first | refine l_op 2 rfl rfl rfl rfl rfl ?_ | refine l_ln rfl rfl rfl rfl ?_
  refine l_op 0 rfl rfl rfl rfl rfl ?_
  refine l_nil (WK.nx ‹_› (SeqK.nx ‹_› ?_))
  refine k_block fun Q K => ?_
  have h37 := h.part8 (lo := at_.toNat) (hi := (at_ + n).toNat) (by omega) (by omega)
  refine k_loop (α := Int × Int) (fun ⟨i, x⟩ s => Facts E0 σ s [] ∧ 0 ≤ i ∧ i ≤ n ∧ x = be bs at_.toNat i.toNat) (fun ⟨i, x⟩ => [(8, .int .u32 x), (37, .slice (shift a (at_.toNat * 1)) ((at_ + n).toNat - at_.toNat) (c - at_.toNat)), (38, .int .i64 ((at_ + n).toNat - at_.toNat : Nat)), (39, .int .i64 i)]) (fun ⟨i, _⟩ => (n - i).toNat) (0, 0) ⟨F, by omega, by omega, rfl⟩ (by repeat (first | exact trivial | refine And.intro rfl ?_)) ?_
  clear F
  rintro ⟨i, x⟩ env s Q K0 ⟨F, h0, hi, hx⟩
  refine k_seq fun Q K => k_lin fun W K => ?_
  refine l_cmp rfl rfl rfl rfl ?_
  refine l_nil (WK.nx ‹_› (SeqK.nx ‹_› ?_))
  refine k_seq fun Q K => ?_
  refine l_cond rfl rfl (fun hc5 => ?_) (fun hc5 => ?_)
  · replace hc5 := of_decide_eq_true ((irr_eq _).symm.trans hc5)
    have hcl := getD_part bs at_.toNat ((at_ + n).toNat - at_.toNat) i.toNat (by omega)
    have hcb := hB.at (at_.toNat + i.toNat)
    rw [← hcl] at hcb
    have hlt := be_lt hB at_.toNat (k := i.toNat) (by omega)
    refine k_skip (SeqK.nx ‹_› ?_)
    refine k_seq fun Q K => k_block fun Q K => k_seq fun Q K => k_lin fun W K => ?_
    first | refine l_ixi rfl rfl rfl rfl rfl rfl (F.old (by assumption)) (by omega) (fun m41 b41 hA41 => ?_) | (refine l_ixoi F 0 rfl rfl rfl rfl rfl rfl rfl (by omega) (fun m e ha hA41 => ?_); cases ha) | (refine l_ixoi F 1 rfl rfl rfl rfl rfl rfl rfl (by omega) (fun m e ha hA41 => ?_); cases ha) | (refine l_ixoi F 2 rfl rfl rfl rfl rfl rfl rfl (by omega) (fun m e ha hA41 => ?_); cases ha) | (refine l_ixoi F 3 rfl rfl rfl rfl rfl rfl rfl (by omega) (fun m e ha hA41 => ?_); cases ha)
    (first | refine l_ld0 rfl rfl rfl rfl rfl (by assumption) ?_ | refine l_ldj rfl rfl rfl rfl rfl rfl (by assumption) rfl ?_ | refine l_ldc F 0 rfl rfl rfl rfl rfl rfl rfl ?_ | refine l_ldc F 1 rfl rfl rfl rfl rfl rfl rfl ?_ | refine l_ldc F 2 rfl rfl rfl rfl rfl rfl rfl ?_ | refine l_ldc F 3 rfl rfl rfl rfl rfl rfl rfl ?_ | refine l_ldc F 4 rfl rfl rfl rfl rfl rfl rfl ?_ | refine l_ldc F 5 rfl rfl rfl rfl rfl rfl rfl ?_ | refine l_ldc F 6 rfl rfl rfl rfl rfl rfl rfl ?_ | refine l_ldc F 7 rfl rfl rfl rfl rfl rfl rfl ?_ | refine l_ldc F 8 rfl rfl rfl rfl rfl rfl rfl ?_ | refine l_ldc F 9 rfl rfl rfl rfl rfl rfl rfl ?_ | refine l_lda rfl rfl rfl rfl rfl (by assumption) ?_ | refine l_ldca F 0 rfl rfl rfl rfl rfl rfl rfl ?_ | refine l_ldca F 1 rfl rfl rfl rfl rfl rfl rfl ?_ | refine l_ldca F 2 rfl rfl rfl rfl rfl rfl rfl ?_ | refine l_ldca F 3 rfl rfl rfl rfl rfl rfl rfl ?_ | refine l_ldca F 4 rfl rfl rfl rfl rfl rfl rfl ?_ | refine l_ldca F 5 rfl rfl rfl rfl rfl rfl rfl ?_ | refine l_ldca F 6 rfl rfl rfl rfl rfl rfl rfl ?_ | refine l_ldca F 7 rfl rfl rfl rfl rfl rfl rfl ?_ | refine l_ldca F 8 rfl rfl rfl rfl rfl rfl rfl ?_ | refine l_ldca F 9 rfl rfl rfl rfl rfl rfl rfl ?_ | refine l_ldo F (by assumption) rfl rfl rfl rfl rfl rfl ?_ | refine l_ldoa F (by assumption) rfl rfl rfl rfl rfl rfl ?_)
    refine l_op 0 rfl rfl rfl rfl rfl ?_
    refine l_nil (WK.nx ‹_› (SeqK.nx ‹_› ?_))
    refine k_lin fun W K => ?_
    refine l_op 0 rfl rfl rfl rfl rfl ?_
    refine l_op 2 rfl rfl rfl rfl rfl ?_
    refine l_op 0 rfl rfl rfl rfl rfl ?_
    (first | refine l_c64 rfl rfl rfl (by omega) rfl ?_ | refine l_c32 rfl rfl rfl (by omega) rfl ?_ | refine l_c8 rfl rfl rfl (by omega) rfl ?_ | refine l_cu64 rfl rfl rfl (by omega) rfl ?_ | refine l_str rfl rfl rfl rfl rfl (F.old (by assumption)) ?_ | refine l_str rfl rfl rfl rfl rfl (F.has 0 rfl) ?_ | refine l_str rfl rfl rfl rfl rfl (F.has 1 rfl) ?_ | refine l_str rfl rfl rfl rfl rfl (F.has 2 rfl) ?_ | refine l_op 16 rfl rfl rfl rfl rfl ?_)
    refine l_op 2 rfl rfl rfl (congrArg (Value.int .u32) (shlor (by omega) (by omega) (by omega) (by omega))) rfl ?_
    refine l_op 0 rfl rfl rfl rfl rfl ?_
    refine l_nil (WK.nx ‹_› (BlkK.nx ‹_› (SeqK.nx ‹_› ?_)))
    refine k_lin fun W K => ?_
    (first | refine l_a64 rfl rfl rfl (by omega) rfl ?_ | refine l_a32 rfl rfl rfl (by omega) rfl ?_ | refine l_a8 rfl rfl rfl (by omega) rfl ?_ | refine l_au64 rfl rfl rfl (by omega) rfl ?_ | refine l_op 1 rfl rfl rfl rfl rfl ?_)
    refine l_op 0 rfl rfl rfl rfl rfl ?_
    refine l_nil (WK.nx ‹_› ?_)
    have e1 : (i + 1).toNat = i.toNat + 1 := by omega
    exact K0.nx (i + 1, _) (by repeat (first | exact trivial | refine And.intro rfl ?_)) ⟨F, by omega, by omega, by rw [e1, be, ← hcl, hx]⟩ (by first | omega | (simp only; omega))
  replace hc5 := of_decide_eq_false ((irr_eq _).symm.trans hc5)
  refine k_exit ?_
  refine SeqK.et (by assumption) ?_
  refine LoopK.et (by assumption) ?_
  refine BlkK.et (by assumption) ?_
  refine SeqK.nx ‹_› ?_
  refine k_seq fun Q K => k_lin fun W K => ?_
  iterate 3 refine l_op 0 rfl rfl rfl rfl rfl ?_
  refine l_nil (WK.nx ‹_› (SeqK.nx ‹_› (k_ret ?_)))
  refine FunK.rt (by assumption) rfl ?_
  -- leaf 5
  refine ⟨(), ?_, F, trivial⟩
  first
    | exact (beV_arg (by omega)).symm
    | exact (beV_arg (by rw [← hy]; simp_all)).symm
    | exact (beV_short (by omega) (by omega)).symm
    | (refine Eq.trans ?_ (beV_ok (by omega) (by omega)).symm
       have : i = n := by omega
       rw [← this, ← hx]; rfl)

end Go.Proofs.YtocfmecenpeoiaaGreat
