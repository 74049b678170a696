/- What the program stretches to. No statement of the seat is proved in this text. -/
import Derived.Test.YtddenboepgfbgaaStretchModel
import Derived.KernelRfl
set_option linter.unusedVariables false
set_option linter.unusedSimpArgs false
set_option maxRecDepth 100000
set_option maxHeartbeats 4000000
namespace Go.Proofs.Ytddenboepgfbgaa
open GAb Go

theorem mixed : Try.prog.follows .mixedOrders = true := by kernel_rfl
theorem one_u8 (zs : List Int) : (u8l zs).all Value.oneCell' = true := by
  rw [List.all_eq_true]
  intro x hx
  obtain ⟨z, _, rfl⟩ := List.mem_map.1 hx
  rfl

theorem stretch_call (D : Nat → Prop) {σ : AState} {a b : Option Addr} {l c m d : Nat} {was bs : List Int} {size : Int} (h1 : Bs σ a l c was) (h2 : Bs σ b m d bs) (hw : ∀ x ∈ was, 0 ≤ x ∧ x ≤ 255) (hb : ∀ x ∈ bs, 0 ≤ x ∧ x ≤ 255) (hm : m ≤ 1000000) (hl : l ≤ 1000000) (hs : size ≤ 1000000 ∨ 1048576 < size) :
    SCall Try.prog D 14 [.slice a l c, .int .i64 size, .slice b m d] σ fun v s => ∃ x k e, v = .tuple #[.slice x k e, .int .i64 (stretchL was size bs).1] ∧ Own σ.next s x k e 1 (u8l (stretchL was size bs).2) ∧ Kp σ.next σ s := by
  have hwl : was.length = l := by simpa using h1.size
  have hbl : bs.length = m := by simpa using h2.size
  refine e_fun' (m := 66) Try.func14 rfl rfl fun B hB hN => ?_
  by_cases hbad : size < 0 ∨ 1048576 < size
  · by_cases hneg : size < 0
    · repeat (first | refine e_mv rfl rfl rfl rfl ?_ | refine e_ops rfl rfl rfl (by first | exact congrArg Value.bool (decide_eq_true (by omega)) | exact congrArg Value.bool (decide_eq_false (by omega)) | exact congrArg Value.bool (beq_iff_eq.2 (by omega)) | exact congrArg Value.bool (beq_eq_false_iff_ne.2 (by omega)) | exact congrArg Value.bool (bne_iff_ne.2 (by omega)) | exact congrArg Value.bool (bne_eq_false_iff_eq.2 (by omega)) | exact congrArg (Value.int .i64) (wrapi (by omega) (by omega)) | exact congrArg (Value.int .u8) (wrap8 (by omega) (by omega)) | exact congrArg (Value.int .u32) (wrap32 (by omega) (by omega)) | exact rfl) rfl ?_ | refine e_s rfl rfl ?_ | refine e_nil ?_ | refine then_n ?_ | refine e_seq ?_ | refine e_region ?_ | refine e_block ?_ | refine e_ret ?_ | refine e_skip ?_ | refine e_exit ?_ | refine then_ret ?_ | refine then_exit ?_ | refine blk_n ?_ | refine blk_ret ?_ | refine blk_here ?_ | refine blk_there rfl ?_ | refine e_cond_t rfl rfl rfl ?_ | refine e_cond_f rfl rfl rfl ?_)
      apply e_done (Or.inr rfl)
      case hr => rfl
      case hv => rfl
      case hR => exact ⟨none, 0, 0, by unfold stretchL; rw [if_pos hbad]; rfl, by unfold stretchL; rw [if_pos hbad]; exact Own.nil (Nat.le_refl _), Kp.refl _ _⟩
    · repeat (first | refine e_mv rfl rfl rfl rfl ?_ | refine e_ops rfl rfl rfl (by first | exact congrArg Value.bool (decide_eq_true (by omega)) | exact congrArg Value.bool (decide_eq_false (by omega)) | exact congrArg Value.bool (beq_iff_eq.2 (by omega)) | exact congrArg Value.bool (beq_eq_false_iff_ne.2 (by omega)) | exact congrArg Value.bool (bne_iff_ne.2 (by omega)) | exact congrArg Value.bool (bne_eq_false_iff_eq.2 (by omega)) | exact congrArg (Value.int .i64) (wrapi (by omega) (by omega)) | exact congrArg (Value.int .u8) (wrap8 (by omega) (by omega)) | exact congrArg (Value.int .u32) (wrap32 (by omega) (by omega)) | exact rfl) rfl ?_ | refine e_s rfl rfl ?_ | refine e_nil ?_ | refine then_n ?_ | refine e_seq ?_ | refine e_region ?_ | refine e_block ?_ | refine e_ret ?_ | refine e_skip ?_ | refine e_exit ?_ | refine then_ret ?_ | refine then_exit ?_ | refine blk_n ?_ | refine blk_ret ?_ | refine blk_here ?_ | refine blk_there rfl ?_ | refine e_cond_t rfl rfl rfl ?_ | refine e_cond_f rfl rfl rfl ?_)
      apply e_done (Or.inr rfl)
      case hr => rfl
      case hv => rfl
      case hR => exact ⟨none, 0, 0, by unfold stretchL; rw [if_pos hbad]; rfl, by unfold stretchL; rw [if_pos hbad]; exact Own.nil (Nat.le_refl _), Kp.refl _ _⟩
  have hsz : (0 : Int) ≤ size ∧ size ≤ 1000000 := by omega
  have hst : ∀ e row, ex size.toNat [] bs = (e, row) → stretchL was size bs = if e = 0 then (0, outL was size.toNat row) else (e, []) := fun e row h => by unfold stretchL; rw [if_neg hbad, h]
  repeat (first | refine e_mv rfl rfl rfl rfl ?_ | refine e_ops rfl rfl rfl (by first | exact congrArg Value.bool (decide_eq_true (by omega)) | exact congrArg Value.bool (decide_eq_false (by omega)) | exact congrArg Value.bool (beq_iff_eq.2 (by omega)) | exact congrArg Value.bool (beq_eq_false_iff_ne.2 (by omega)) | exact congrArg Value.bool (bne_iff_ne.2 (by omega)) | exact congrArg Value.bool (bne_eq_false_iff_eq.2 (by omega)) | exact congrArg (Value.int .i64) (wrapi (by omega) (by omega)) | exact congrArg (Value.int .u8) (wrap8 (by omega) (by omega)) | exact congrArg (Value.int .u32) (wrap32 (by omega) (by omega)) | exact rfl) rfl ?_ | refine e_s rfl rfl ?_ | refine e_nil ?_ | refine then_n ?_ | refine e_seq ?_ | refine e_region ?_ | refine e_block ?_ | refine e_ret ?_ | refine e_skip ?_ | refine e_exit ?_ | refine then_ret ?_ | refine then_exit ?_ | refine blk_n ?_ | refine blk_ret ?_ | refine blk_here ?_ | refine blk_there rfl ?_ | refine e_cond_t rfl rfl rfl ?_ | refine e_cond_f rfl rfl rfl ?_)
  refine e_y rfl rfl (y_mk (n0 := σ.next) (k := 1) (b := 1) (zs := [.int .u8 0]) rfl rfl rfl (Nat.le_refl _) (by omega) (by omega) (by omega) (by omega) fun q1 s1 hO1 hK1 => ⟨fun _ h => (by cases h), ?_⟩)
  rw [show zrow [Value.int .u8 0] size.toNat = u8l (List.replicate size.toNat 0) by rw [zrow_one]; simp [u8l]] at hO1
  repeat (first | refine e_mv rfl rfl rfl rfl ?_ | refine e_ops rfl rfl rfl (by first | exact congrArg Value.bool (decide_eq_true (by omega)) | exact congrArg Value.bool (decide_eq_false (by omega)) | exact congrArg Value.bool (beq_iff_eq.2 (by omega)) | exact congrArg Value.bool (beq_eq_false_iff_ne.2 (by omega)) | exact congrArg Value.bool (bne_iff_ne.2 (by omega)) | exact congrArg Value.bool (bne_eq_false_iff_eq.2 (by omega)) | exact congrArg (Value.int .i64) (wrapi (by omega) (by omega)) | exact congrArg (Value.int .u8) (wrap8 (by omega) (by omega)) | exact congrArg (Value.int .u32) (wrap32 (by omega) (by omega)) | exact rfl) rfl ?_ | refine e_s rfl rfl ?_ | refine e_nil ?_ | refine then_n ?_ | refine e_seq ?_ | refine e_region ?_ | refine e_block ?_ | refine e_ret ?_ | refine e_skip ?_ | refine e_exit ?_ | refine then_ret ?_ | refine then_exit ?_ | refine blk_n ?_ | refine blk_ret ?_ | refine blk_here ?_ | refine blk_there rfl ?_ | refine e_cond_t rfl rfl rfl ?_ | refine e_cond_f rfl rfl rfl ?_)
  refine e_y rfl rfl (y_cp (n0 := σ.next) (es := 1) rfl rfl rfl hO1 (h1.kp (Nat.le_refl _) hK1) (one_u8 _) fun s2 wn hwn hO2 hK2 => ⟨fun k hk => hN k (hwn k hk), ?_⟩)
  rw [Nat.mul_one, show (u8l was).take (min l size.toNat) = u8l (was.take (min was.length size.toNat)) by rw [hwl]; simp [u8l, List.map_take], outL_start hw] at hO2
  repeat (first | refine e_mv rfl rfl rfl rfl ?_ | refine e_ops rfl rfl rfl (by first | exact congrArg Value.bool (decide_eq_true (by omega)) | exact congrArg Value.bool (decide_eq_false (by omega)) | exact congrArg Value.bool (beq_iff_eq.2 (by omega)) | exact congrArg Value.bool (beq_eq_false_iff_ne.2 (by omega)) | exact congrArg Value.bool (bne_iff_ne.2 (by omega)) | exact congrArg Value.bool (bne_eq_false_iff_eq.2 (by omega)) | exact congrArg (Value.int .i64) (wrapi (by omega) (by omega)) | exact congrArg (Value.int .u8) (wrap8 (by omega) (by omega)) | exact congrArg (Value.int .u32) (wrap32 (by omega) (by omega)) | exact rfl) rfl ?_ | refine e_s rfl rfl ?_ | refine e_nil ?_ | refine then_n ?_ | refine e_seq ?_ | refine e_region ?_ | refine e_block ?_ | refine e_ret ?_ | refine e_skip ?_ | refine e_exit ?_ | refine then_ret ?_ | refine then_exit ?_ | refine blk_n ?_ | refine blk_ret ?_ | refine blk_here ?_ | refine blk_there rfl ?_ | refine e_cond_t rfl rfl rfl ?_ | refine e_cond_f rfl rfl rfl ?_)
  have hK02 := hK1.trans hK2
  refine e_loop (α := Nat × List Int) (fun ⟨i, row⟩ s' => i ≤ m ∧ row.length ≤ size.toNat ∧ Own σ.next s' (some q1) size.toNat size.toNat 1 (u8l (outL was size.toNat row)) ∧ ex size.toNat row (bs.drop i) = ex size.toNat [] bs ∧ Kp σ.next σ s')
    (fun ⟨i, row⟩ => [(0, .slice a l c), (1, .int .i64 size), (2, .slice b m d), (8, .slice (some q1) size.toNat size.toNat), (9, .int .i64 row.length), (10, .int .i64 i)]) (fun ⟨i, _⟩ => m - i) (0, [])
    ⟨Nat.zero_le _, by simp, hO2, rfl, hK02⟩ ⟨rfl, rfl, rfl, rfl, rfl, rfl, trivial⟩ ?_
  rintro ⟨i, row⟩ env s ⟨hi, hrl, hO, hq, hK⟩
  have hbs := h2.kp (Nat.le_refl _) hK
  have hby : ∀ j, j < m → 0 ≤ bs.getD j 0 ∧ bs.getD j 0 ≤ 255 := fun j hj => by
    have hj' : j < bs.length := by omega
    have := hb bs[j] (List.getElem_mem hj')
    simpa [List.getD, hj'] using this
  by_cases him : i < m
  · have hy0 := hby i him
    repeat (first | refine e_mv rfl rfl rfl rfl ?_ | refine e_ops rfl rfl rfl (by first | exact congrArg Value.bool (decide_eq_true (by omega)) | exact congrArg Value.bool (decide_eq_false (by omega)) | exact congrArg Value.bool (beq_iff_eq.2 (by omega)) | exact congrArg Value.bool (beq_eq_false_iff_ne.2 (by omega)) | exact congrArg Value.bool (bne_iff_ne.2 (by omega)) | exact congrArg Value.bool (bne_eq_false_iff_eq.2 (by omega)) | exact congrArg (Value.int .i64) (wrapi (by omega) (by omega)) | exact congrArg (Value.int .u8) (wrap8 (by omega) (by omega)) | exact congrArg (Value.int .u32) (wrap32 (by omega) (by omega)) | exact rfl) rfl ?_ | refine e_s rfl rfl ?_ | refine e_nil ?_ | refine then_n ?_ | refine e_seq ?_ | refine e_region ?_ | refine e_block ?_ | refine e_ret ?_ | refine e_skip ?_ | refine e_exit ?_ | refine then_ret ?_ | refine then_exit ?_ | refine blk_n ?_ | refine blk_ret ?_ | refine blk_here ?_ | refine blk_there rfl ?_ | refine e_cond_t rfl rfl rfl ?_ | refine e_cond_f rfl rfl rfl ?_)
    refine e_ixi rfl rfl rfl rfl rfl hbs (by omega) (by omega) fun p hp => ?_
    refine e_ld rfl rfl rfl rfl hp ?_
    by_cases hx : bs.getD i 0 = 0
    · by_cases him1 : i + 1 < m
      · have hy := hby (i + 1) him1
        repeat (first | refine e_mv rfl rfl rfl rfl ?_ | refine e_ops rfl rfl rfl (by first | exact congrArg Value.bool (beq_iff_eq.2 hx) | exact congrArg Value.bool (decide_eq_true (by omega)) | exact congrArg Value.bool (decide_eq_false (by omega)) | exact congrArg Value.bool (beq_iff_eq.2 (by omega)) | exact congrArg Value.bool (beq_eq_false_iff_ne.2 (by omega)) | exact congrArg Value.bool (bne_iff_ne.2 (by omega)) | exact congrArg Value.bool (bne_eq_false_iff_eq.2 (by omega)) | exact congrArg (Value.int .i64) (wrapi (by omega) (by omega)) | exact congrArg (Value.int .u8) (wrap8 (by omega) (by omega)) | exact congrArg (Value.int .u32) (wrap32 (by omega) (by omega)) | exact rfl) rfl ?_ | refine e_s rfl rfl ?_ | refine e_nil ?_ | refine then_n ?_ | refine e_seq ?_ | refine e_region ?_ | refine e_block ?_ | refine e_ret ?_ | refine e_skip ?_ | refine e_exit ?_ | refine then_ret ?_ | refine then_exit ?_ | refine blk_n ?_ | refine blk_ret ?_ | refine blk_here ?_ | refine blk_there rfl ?_ | refine e_cond_t rfl rfl rfl ?_ | refine e_cond_f rfl rfl rfl ?_)
        refine e_ixi rfl rfl rfl rfl rfl hbs (by omega) (by omega) fun p2 hp2 => ?_
        rw [show ((i : Int) + 1).toNat = i + 1 by omega] at hp2
        refine e_ld rfl rfl rfl rfl hp2 ?_
        rw [ex_zeros (by omega) hx (by omega)] at hq
        by_cases hlong : size.toNat < row.length + ((bs.getD (i + 1) 0).toNat + 1)
        · rw [if_pos hlong] at hq
          repeat (first | refine e_mv rfl rfl rfl rfl ?_ | refine e_ops rfl rfl rfl (by first | exact congrArg Value.bool (decide_eq_true (by omega)) | exact congrArg Value.bool (decide_eq_false (by omega)) | exact congrArg Value.bool (beq_iff_eq.2 (by omega)) | exact congrArg Value.bool (beq_eq_false_iff_ne.2 (by omega)) | exact congrArg Value.bool (bne_iff_ne.2 (by omega)) | exact congrArg Value.bool (bne_eq_false_iff_eq.2 (by omega)) | exact congrArg (Value.int .i64) (wrapi (by omega) (by omega)) | exact congrArg (Value.int .u8) (wrap8 (by omega) (by omega)) | exact congrArg (Value.int .u32) (wrap32 (by omega) (by omega)) | exact rfl) rfl ?_ | refine e_s rfl rfl ?_ | refine e_nil ?_ | refine then_n ?_ | refine e_seq ?_ | refine e_region ?_ | refine e_block ?_ | refine e_ret ?_ | refine e_skip ?_ | refine e_exit ?_ | refine then_ret ?_ | refine then_exit ?_ | refine blk_n ?_ | refine blk_ret ?_ | refine blk_here ?_ | refine blk_there rfl ?_ | refine e_cond_t rfl rfl rfl ?_ | refine e_cond_f rfl rfl rfl ?_)
          apply e_done (Or.inr rfl)
          case hr => rfl
          case hv => rfl
          case hR => exact ⟨none, 0, 0, by rw [hst _ _ hq.symm]; rfl, by rw [hst _ _ hq.symm]; exact Own.nil hO.le, hK⟩
        · rw [if_neg hlong] at hq
          repeat (first | refine e_mv rfl rfl rfl rfl ?_ | refine e_ops rfl rfl rfl (by first | exact congrArg Value.bool (decide_eq_true (by omega)) | exact congrArg Value.bool (decide_eq_false (by omega)) | exact congrArg Value.bool (beq_iff_eq.2 (by omega)) | exact congrArg Value.bool (beq_eq_false_iff_ne.2 (by omega)) | exact congrArg Value.bool (bne_iff_ne.2 (by omega)) | exact congrArg Value.bool (bne_eq_false_iff_eq.2 (by omega)) | exact congrArg (Value.int .i64) (wrapi (by omega) (by omega)) | exact congrArg (Value.int .u8) (wrap8 (by omega) (by omega)) | exact congrArg (Value.int .u32) (wrap32 (by omega) (by omega)) | exact rfl) rfl ?_ | refine e_s rfl rfl ?_ | refine e_nil ?_ | refine then_n ?_ | refine e_seq ?_ | refine e_region ?_ | refine e_block ?_ | refine e_ret ?_ | refine e_skip ?_ | refine e_exit ?_ | refine then_ret ?_ | refine then_exit ?_ | refine blk_n ?_ | refine blk_ret ?_ | refine blk_here ?_ | refine blk_there rfl ?_ | refine e_cond_t rfl rfl rfl ?_ | refine e_cond_f rfl rfl rfl ?_)
          refine ⟨(i + 2, row ++ List.replicate ((bs.getD (i + 1) 0).toNat + 1) 0), _, rfl, by first | omega | (simp only; omega), ⟨by omega, by simp only [List.length_append, List.length_replicate]; omega, by rw [outL_zeros]; exact hO, hq, hK⟩, ⟨rfl, rfl, rfl, rfl, ?_, rfl, trivial⟩⟩
          refine congrArg (Value.int .i64) ?_
          simp only [List.length_append, List.length_replicate]
          omega
      · rw [ex_short (by omega) hx (by omega)] at hq
        repeat (first | refine e_mv rfl rfl rfl rfl ?_ | refine e_ops rfl rfl rfl (by first | exact congrArg Value.bool (beq_iff_eq.2 hx) | exact congrArg Value.bool (decide_eq_true (by omega)) | exact congrArg Value.bool (decide_eq_false (by omega)) | exact congrArg Value.bool (beq_iff_eq.2 (by omega)) | exact congrArg Value.bool (beq_eq_false_iff_ne.2 (by omega)) | exact congrArg Value.bool (bne_iff_ne.2 (by omega)) | exact congrArg Value.bool (bne_eq_false_iff_eq.2 (by omega)) | exact congrArg (Value.int .i64) (wrapi (by omega) (by omega)) | exact congrArg (Value.int .u8) (wrap8 (by omega) (by omega)) | exact congrArg (Value.int .u32) (wrap32 (by omega) (by omega)) | exact rfl) rfl ?_ | refine e_s rfl rfl ?_ | refine e_nil ?_ | refine then_n ?_ | refine e_seq ?_ | refine e_region ?_ | refine e_block ?_ | refine e_ret ?_ | refine e_skip ?_ | refine e_exit ?_ | refine then_ret ?_ | refine then_exit ?_ | refine blk_n ?_ | refine blk_ret ?_ | refine blk_here ?_ | refine blk_there rfl ?_ | refine e_cond_t rfl rfl rfl ?_ | refine e_cond_f rfl rfl rfl ?_)
        apply e_done (Or.inr rfl)
        case hr => rfl
        case hv => rfl
        case hR => exact ⟨none, 0, 0, by rw [hst _ _ hq.symm]; rfl, by rw [hst _ _ hq.symm]; exact Own.nil hO.le, hK⟩
    · rw [ex_other (by omega) hx] at hq
      by_cases hroom : row.length < size.toNat
      · rw [if_neg (by omega)] at hq
        repeat (first | refine e_mv rfl rfl rfl rfl ?_ | refine e_ops rfl rfl rfl (by first | exact congrArg Value.bool (beq_eq_false_iff_ne.2 hx) | exact congrArg Value.bool (decide_eq_true (by omega)) | exact congrArg Value.bool (decide_eq_false (by omega)) | exact congrArg Value.bool (beq_iff_eq.2 (by omega)) | exact congrArg Value.bool (beq_eq_false_iff_ne.2 (by omega)) | exact congrArg Value.bool (bne_iff_ne.2 (by omega)) | exact congrArg Value.bool (bne_eq_false_iff_eq.2 (by omega)) | exact congrArg (Value.int .i64) (wrapi (by omega) (by omega)) | exact congrArg (Value.int .u8) (wrap8 (by omega) (by omega)) | exact congrArg (Value.int .u32) (wrap32 (by omega) (by omega)) | exact rfl) rfl ?_ | refine e_s rfl rfl ?_ | refine e_nil ?_ | refine then_n ?_ | refine e_seq ?_ | refine e_region ?_ | refine e_block ?_ | refine e_ret ?_ | refine e_skip ?_ | refine e_exit ?_ | refine then_ret ?_ | refine then_exit ?_ | refine blk_n ?_ | refine blk_ret ?_ | refine blk_here ?_ | refine blk_there rfl ?_ | refine e_cond_t rfl rfl rfl ?_ | refine e_cond_f rfl rfl rfl ?_)
        refine a_region mixed ?_
        refine a_take 0 rfl (by kernel_rfl) (by kernel_rfl) (by kernel_rfl) rfl rfl rfl (y_op rfl rfl ?_)
        refine a_take 1 rfl (by kernel_rfl) (by kernel_rfl) (by kernel_rfl) rfl rfl rfl (y_op rfl rfl ?_)
        refine a_take 2 rfl (by kernel_rfl) (by kernel_rfl) (by kernel_rfl) rfl rfl rfl (y_ixi rfl rfl rfl hO.has (by omega) (by omega) fun pa hpa => ?_)
        refine a_take 3 rfl (by kernel_rfl) (by kernel_rfl) (by kernel_rfl) rfl rfl rfl (y_ld rfl rfl hpa ?_)
        refine a_take 4 rfl (by kernel_rfl) (by kernel_rfl) (by kernel_rfl) rfl rfl rfl (y_op rfl rfl ?_)
        refine a_take 5 rfl (by kernel_rfl) (by kernel_rfl) (by kernel_rfl) rfl rfl rfl (y_op rfl rfl ?_)
        refine a_take 6 rfl (by kernel_rfl) (by kernel_rfl) (by kernel_rfl) rfl rfl rfl (y_ixi rfl rfl rfl hbs (by omega) (by omega) fun pb hpb => ?_)
        refine a_take 7 rfl (by kernel_rfl) (by kernel_rfl) (by kernel_rfl) rfl rfl rfl (y_ld rfl rfl hpb ?_)
        refine a_take 8 rfl (by kernel_rfl) (by kernel_rfl) (by kernel_rfl) rfl rfl rfl (y_op (u := .int .u8 (xor8 ((outL was size.toNat row).getD row.length 0) (bs.getD i 0))) rfl rfl ?_)
        refine a_take 9 rfl (by kernel_rfl) (by kernel_rfl) (by kernel_rfl) rfl rfl rfl (y_ixo (es := 1) rfl rfl rfl hO (by omega) (by omega) fun pc hpc hL => ?_)
        refine a_only 10 rfl (by kernel_rfl) rfl (by kernel_rfl) rfl (y_st (k := 1) (v := .int .u8 (xor8 ((outL was size.toNat row).getD row.length 0) (bs.getD i 0))) rfl rfl rfl hO hL rfl rfl (by simp; omega) fun s5 m5 hm5 hO5 hK5 => ⟨fun k hk => (by injection hk with hk; exact hN k (by omega)), ?_⟩)
        refine a_done (by kernel_rfl) ?_
        have hO6 : Own σ.next s5 (some q1) size.toNat size.toNat 1 (u8l (outL was size.toNat (row ++ [bs.getD i 0]))) := by
          rw [← outL_set hroom hw hy0]
          simpa [Value.cells] using hO5
        have hK6 := hK.trans hK5
        repeat (first | refine e_mv rfl rfl rfl rfl ?_ | refine e_ops rfl rfl rfl (by first | exact congrArg Value.bool (decide_eq_true (by omega)) | exact congrArg Value.bool (decide_eq_false (by omega)) | exact congrArg Value.bool (beq_iff_eq.2 (by omega)) | exact congrArg Value.bool (beq_eq_false_iff_ne.2 (by omega)) | exact congrArg Value.bool (bne_iff_ne.2 (by omega)) | exact congrArg Value.bool (bne_eq_false_iff_eq.2 (by omega)) | exact congrArg (Value.int .i64) (wrapi (by omega) (by omega)) | exact congrArg (Value.int .u8) (wrap8 (by omega) (by omega)) | exact congrArg (Value.int .u32) (wrap32 (by omega) (by omega)) | exact rfl) rfl ?_ | refine e_s rfl rfl ?_ | refine e_nil ?_ | refine then_n ?_ | refine e_seq ?_ | refine e_region ?_ | refine e_block ?_ | refine e_ret ?_ | refine e_skip ?_ | refine e_exit ?_ | refine then_ret ?_ | refine then_exit ?_ | refine blk_n ?_ | refine blk_ret ?_ | refine blk_here ?_ | refine blk_there rfl ?_ | refine e_cond_t rfl rfl rfl ?_ | refine e_cond_f rfl rfl rfl ?_)
        refine ⟨(i + 1, row ++ [bs.getD i 0]), _, rfl, by first | omega | (simp only; omega), ⟨by omega, by simp only [List.length_append, List.length_singleton]; omega, hO6, hq, hK6⟩, ⟨rfl, rfl, rfl, rfl, ?_, rfl, trivial⟩⟩
        refine congrArg (Value.int .i64) ?_
        simp
      · rw [if_pos (by omega)] at hq
        repeat (first | refine e_mv rfl rfl rfl rfl ?_ | refine e_ops rfl rfl rfl (by first | exact congrArg Value.bool (beq_eq_false_iff_ne.2 hx) | exact congrArg Value.bool (decide_eq_true (by omega)) | exact congrArg Value.bool (decide_eq_false (by omega)) | exact congrArg Value.bool (beq_iff_eq.2 (by omega)) | exact congrArg Value.bool (beq_eq_false_iff_ne.2 (by omega)) | exact congrArg Value.bool (bne_iff_ne.2 (by omega)) | exact congrArg Value.bool (bne_eq_false_iff_eq.2 (by omega)) | exact congrArg (Value.int .i64) (wrapi (by omega) (by omega)) | exact congrArg (Value.int .u8) (wrap8 (by omega) (by omega)) | exact congrArg (Value.int .u32) (wrap32 (by omega) (by omega)) | exact rfl) rfl ?_ | refine e_s rfl rfl ?_ | refine e_nil ?_ | refine then_n ?_ | refine e_seq ?_ | refine e_region ?_ | refine e_block ?_ | refine e_ret ?_ | refine e_skip ?_ | refine e_exit ?_ | refine then_ret ?_ | refine then_exit ?_ | refine blk_n ?_ | refine blk_ret ?_ | refine blk_here ?_ | refine blk_there rfl ?_ | refine e_cond_t rfl rfl rfl ?_ | refine e_cond_f rfl rfl rfl ?_)
        apply e_done (Or.inr rfl)
        case hr => rfl
        case hv => rfl
        case hR => exact ⟨none, 0, 0, by rw [hst _ _ hq.symm]; rfl, by rw [hst _ _ hq.symm]; exact Own.nil hO.le, hK⟩
  · rw [ex_nil (by omega)] at hq
    repeat (first | refine e_mv rfl rfl rfl rfl ?_ | refine e_ops rfl rfl rfl (by first | exact congrArg Value.bool (decide_eq_true (by omega)) | exact congrArg Value.bool (decide_eq_false (by omega)) | exact congrArg Value.bool (beq_iff_eq.2 (by omega)) | exact congrArg Value.bool (beq_eq_false_iff_ne.2 (by omega)) | exact congrArg Value.bool (bne_iff_ne.2 (by omega)) | exact congrArg Value.bool (bne_eq_false_iff_eq.2 (by omega)) | exact congrArg (Value.int .i64) (wrapi (by omega) (by omega)) | exact congrArg (Value.int .u8) (wrap8 (by omega) (by omega)) | exact congrArg (Value.int .u32) (wrap32 (by omega) (by omega)) | exact rfl) rfl ?_ | refine e_s rfl rfl ?_ | refine e_nil ?_ | refine then_n ?_ | refine e_seq ?_ | refine e_region ?_ | refine e_block ?_ | refine e_ret ?_ | refine e_skip ?_ | refine e_exit ?_ | refine then_ret ?_ | refine then_exit ?_ | refine blk_n ?_ | refine blk_ret ?_ | refine blk_here ?_ | refine blk_there rfl ?_ | refine e_cond_t rfl rfl rfl ?_ | refine e_cond_f rfl rfl rfl ?_)
    apply e_done (Or.inr rfl)
    case hr => rfl
    case hv => rfl
    case hR => exact ⟨some q1, size.toNat, size.toNat, by rw [hst _ _ hq.symm]; rfl, by rw [hst _ _ hq.symm]; exact hO, hK⟩

end Go.Proofs.Ytddenboepgfbgaa
