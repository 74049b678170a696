/- The law that what was squeezed is stretched to what it was, over the abstract heap. No statement of the seat is proved in this text. -/
import Derived.Test.YtddenboepgfbgaaBackModel
import Derived.Test.YtddenboepgfbgaaStretchesLaw
set_option linter.unusedVariables false
set_option linter.unusedSimpArgs false
set_option maxRecDepth 100000
set_option maxHeartbeats 4000000
namespace Go.Proofs.Ytddenboepgfbgaa
open GAb Go

theorem back_walk (D : Nat → Prop) {σ : AState} {x0 x1 : Option Addr} {l0 c0 l1 c1 : Nat} {z0 z1 : List Int} (R0 : Row σ x0 l0 c0 1 (z0.map (.int .u8))) (R1 : Row σ x1 l1 c1 1 (z1.map (.int .u8))) (hz0 : ∀ x ∈ z0, 0 ≤ x ∧ x ≤ 255) (hz1 : ∀ x ∈ z1, 0 ≤ x ∧ x ≤ 255) :
    SCall Try.prog D 5 [.slice x0 l0 c0, .slice x1 l1 c1] σ fun v _ => v = .bool true := by
  have b0 := bs_of R0
  have b1 := bs_of R1
  have w0 : ∀ x ∈ z0.take l0, 0 ≤ x ∧ x ≤ 255 := fun x hx => hz0 x (List.mem_of_mem_take hx)
  have w1 : ∀ x ∈ z1.take l1, 0 ≤ x ∧ x ≤ 255 := fun x hx => hz1 x (List.mem_of_mem_take hx)
  generalize z0.take l0 = was at b0 w0
  generalize z1.take l1 = now at b1 w1
  have hwl : was.length = l0 := by simpa using b0.size
  have hnl : now.length = l1 := by simpa using b1.size
  refine e_fun' (m := 59) Try.func5 rfl rfl fun B hB hN => ?_
  by_cases h0 : 8192 < l0
  · repeat (first | refine e_mv rfl rfl rfl rfl ?_ | refine e_c rfl rfl rfl Try.func8 rfl (live17_call _ _) ?_ | refine e_ops rfl rfl rfl (by first | exact congrArg Value.bool (decide_eq_true (by omega)) | exact congrArg Value.bool (decide_eq_false (by omega)) | exact congrArg Value.bool (beq_iff_eq.2 (by omega)) | exact congrArg Value.bool (beq_eq_false_iff_ne.2 (by omega)) | exact congrArg Value.bool (bne_iff_ne.2 (by omega)) | exact congrArg Value.bool (bne_eq_false_iff_eq.2 (by omega)) | exact congrArg (Value.int .i64) (wrapi (by omega) (by omega)) | exact congrArg (Value.int .u8) (wrap8 (by omega) (by omega)) | exact congrArg (Value.int .u32) (wrap32 (by omega) (by omega)) | exact rfl) rfl ?_ | refine e_s rfl rfl ?_ | refine e_nil ?_ | refine then_n ?_ | refine e_seq ?_ | refine e_region ?_ | refine e_block ?_ | refine e_ret ?_ | refine e_skip ?_ | refine e_exit ?_ | refine then_ret ?_ | refine then_exit ?_ | refine blk_n ?_ | refine blk_ret ?_ | refine blk_here ?_ | refine blk_there rfl ?_ | refine e_cond_t rfl rfl rfl ?_ | refine e_cond_f rfl rfl rfl ?_)
    apply e_done (Or.inr rfl)
    case hr => rfl
    case hv => rfl
    case hR => rfl
  by_cases h1 : 8192 < l1
  · repeat (first | refine e_mv rfl rfl rfl rfl ?_ | refine e_c rfl rfl rfl Try.func8 rfl (live17_call _ _) ?_ | refine e_ops rfl rfl rfl (by first | exact congrArg Value.bool (decide_eq_true (by omega)) | exact congrArg Value.bool (decide_eq_false (by omega)) | exact congrArg Value.bool (beq_iff_eq.2 (by omega)) | exact congrArg Value.bool (beq_eq_false_iff_ne.2 (by omega)) | exact congrArg Value.bool (bne_iff_ne.2 (by omega)) | exact congrArg Value.bool (bne_eq_false_iff_eq.2 (by omega)) | exact congrArg (Value.int .i64) (wrapi (by omega) (by omega)) | exact congrArg (Value.int .u8) (wrap8 (by omega) (by omega)) | exact congrArg (Value.int .u32) (wrap32 (by omega) (by omega)) | exact rfl) rfl ?_ | refine e_s rfl rfl ?_ | refine e_nil ?_ | refine then_n ?_ | refine e_seq ?_ | refine e_region ?_ | refine e_block ?_ | refine e_ret ?_ | refine e_skip ?_ | refine e_exit ?_ | refine then_ret ?_ | refine then_exit ?_ | refine blk_n ?_ | refine blk_ret ?_ | refine blk_here ?_ | refine blk_there rfl ?_ | refine e_cond_t rfl rfl rfl ?_ | refine e_cond_f rfl rfl rfl ?_)
    apply e_done (Or.inr rfl)
    case hr => rfl
    case hv => rfl
    case hR => rfl
  repeat (first | refine e_mv rfl rfl rfl rfl ?_ | refine e_ops rfl rfl rfl (by first | exact congrArg Value.bool (decide_eq_true (by omega)) | exact congrArg Value.bool (decide_eq_false (by omega)) | exact congrArg Value.bool (beq_iff_eq.2 (by omega)) | exact congrArg Value.bool (beq_eq_false_iff_ne.2 (by omega)) | exact congrArg Value.bool (bne_iff_ne.2 (by omega)) | exact congrArg Value.bool (bne_eq_false_iff_eq.2 (by omega)) | exact congrArg (Value.int .i64) (wrapi (by omega) (by omega)) | exact congrArg (Value.int .u8) (wrap8 (by omega) (by omega)) | exact congrArg (Value.int .u32) (wrap32 (by omega) (by omega)) | exact rfl) rfl ?_ | refine e_s rfl rfl ?_ | refine e_nil ?_ | refine then_n ?_ | refine e_seq ?_ | refine e_region ?_ | refine e_block ?_ | refine e_ret ?_ | refine e_skip ?_ | refine e_exit ?_ | refine then_ret ?_ | refine then_exit ?_ | refine blk_n ?_ | refine blk_ret ?_ | refine blk_here ?_ | refine blk_there rfl ?_ | refine e_cond_t rfl rfl rfl ?_ | refine e_cond_f rfl rfl rfl ?_)
  refine e_call rfl rfl rfl Try.func10 rfl (squeeze_call (fun _ => False) b0 b1 (by omega) (by omega)) (fun _ h => h.elim) ?_
  rintro _ s1 ⟨xa, ka, ca, rfl, ha, k1, ha3⟩
  have hka : (sqz 0 (rowL was now)).length = ka := by simpa using ha.has.size
  have hlen : 2 * ka ≤ 3 * l1 := by
    have := sqz_length (rowL was now) 0
    rw [rowL_length] at this
    omega
  have hsb := sqz_bytes (rowL was now) 0 (rowL_bytes w1)
  have hback := back_law (was := was) w1 (by omega)
  rw [hnl] at hback
  repeat (first | refine e_mv rfl rfl rfl rfl ?_ | refine e_ops rfl rfl rfl (by first | exact congrArg Value.bool (decide_eq_true (by omega)) | exact congrArg Value.bool (decide_eq_false (by omega)) | exact congrArg Value.bool (beq_iff_eq.2 (by omega)) | exact congrArg Value.bool (beq_eq_false_iff_ne.2 (by omega)) | exact congrArg Value.bool (bne_iff_ne.2 (by omega)) | exact congrArg Value.bool (bne_eq_false_iff_eq.2 (by omega)) | exact congrArg (Value.int .i64) (wrapi (by omega) (by omega)) | exact congrArg (Value.int .u8) (wrap8 (by omega) (by omega)) | exact congrArg (Value.int .u32) (wrap32 (by omega) (by omega)) | exact rfl) rfl ?_ | refine e_s rfl rfl ?_ | refine e_nil ?_ | refine then_n ?_ | refine e_seq ?_ | refine e_region ?_ | refine e_block ?_ | refine e_ret ?_ | refine e_skip ?_ | refine e_exit ?_ | refine then_ret ?_ | refine then_exit ?_ | refine blk_n ?_ | refine blk_ret ?_ | refine blk_here ?_ | refine blk_there rfl ?_ | refine e_cond_t rfl rfl rfl ?_ | refine e_cond_f rfl rfl rfl ?_)
  have hst := stretch_call (fun _ => False) (size := (l1 : Int)) (b0.kp (Nat.le_refl _) k1) ha.has w0 hsb (by omega) (by omega) (by omega)
  rw [hback] at hst
  refine e_call rfl rfl rfl Try.func14 rfl hst (fun _ h => h.elim) ?_
  rintro _ s2 ⟨xb, kb, cb, rfl, hb, k2⟩
  have k12 := k1.trans (k2.weaken k1.le)
  repeat (first | refine e_mv rfl rfl rfl rfl ?_ | refine e_ops rfl rfl rfl (by first | exact congrArg Value.bool (decide_eq_true (by omega)) | exact congrArg Value.bool (decide_eq_false (by omega)) | exact congrArg Value.bool (beq_iff_eq.2 (by omega)) | exact congrArg Value.bool (beq_eq_false_iff_ne.2 (by omega)) | exact congrArg Value.bool (bne_iff_ne.2 (by omega)) | exact congrArg Value.bool (bne_eq_false_iff_eq.2 (by omega)) | exact congrArg (Value.int .i64) (wrapi (by omega) (by omega)) | exact congrArg (Value.int .u8) (wrap8 (by omega) (by omega)) | exact congrArg (Value.int .u32) (wrap32 (by omega) (by omega)) | exact rfl) rfl ?_ | refine e_s rfl rfl ?_ | refine e_nil ?_ | refine then_n ?_ | refine e_seq ?_ | refine e_region ?_ | refine e_block ?_ | refine e_ret ?_ | refine e_skip ?_ | refine e_exit ?_ | refine then_ret ?_ | refine then_exit ?_ | refine blk_n ?_ | refine blk_ret ?_ | refine blk_here ?_ | refine blk_there rfl ?_ | refine e_cond_t rfl rfl rfl ?_ | refine e_cond_f rfl rfl rfl ?_)
  refine e_lit (n0 := s2.next) (k := 1) (vs := u8l []) rfl rfl rfl (Nat.le_refl _) fun q s3 hO3 k3 => ?_
  have k13 := k12.trans (k3.weaken k12.le)
  repeat (first | refine e_mv rfl rfl rfl rfl ?_ | refine e_ops rfl rfl rfl (by first | exact congrArg Value.bool (decide_eq_true (by omega)) | exact congrArg Value.bool (decide_eq_false (by omega)) | exact congrArg Value.bool (beq_iff_eq.2 (by omega)) | exact congrArg Value.bool (beq_eq_false_iff_ne.2 (by omega)) | exact congrArg Value.bool (bne_iff_ne.2 (by omega)) | exact congrArg Value.bool (bne_eq_false_iff_eq.2 (by omega)) | exact congrArg (Value.int .i64) (wrapi (by omega) (by omega)) | exact congrArg (Value.int .u8) (wrap8 (by omega) (by omega)) | exact congrArg (Value.int .u32) (wrap32 (by omega) (by omega)) | exact rfl) rfl ?_ | refine e_s rfl rfl ?_ | refine e_nil ?_ | refine then_n ?_ | refine e_seq ?_ | refine e_region ?_ | refine e_block ?_ | refine e_ret ?_ | refine e_skip ?_ | refine e_exit ?_ | refine then_ret ?_ | refine then_exit ?_ | refine blk_n ?_ | refine blk_ret ?_ | refine blk_here ?_ | refine blk_there rfl ?_ | refine e_cond_t rfl rfl rfl ?_ | refine e_cond_f rfl rfl rfl ?_)
  refine e_appi (n0 := s2.next) (by_ := 1) rfl rfl rfl rfl rfl hO3 (b1.kp (Nat.le_refl _) k13) (by omega) (fun m hm => hN m (Nat.le_trans k12.le hm)) fun x4 c4 s4 hO4 k4 => ?_
  have k14 := k13.trans (k4.weaken k12.le)
  have hb4 := hb.has.kp (Nat.le_refl _) (k3.trans k4)
  have hs := same_call (fun _ => False) hb4 (b1.kp (Nat.le_refl _) k14)
  rw [eqS_self] at hs
  have hsq := squeeze_call (fun _ => False) hO4.has (b1.kp (Nat.le_refl _) k14) (by omega) (by omega)
  rw [List.nil_append, same_none] at hsq
  repeat (first | refine e_mv rfl rfl rfl rfl ?_ | refine e_c rfl rfl rfl Try.func16 rfl (num_call _ _ _) ?_ | refine e_c rfl rfl rfl Try.func11 rfl hs ?_ | refine e_ops rfl rfl rfl (by first | exact congrArg Value.bool (decide_eq_true (by omega)) | exact congrArg Value.bool (decide_eq_false (by omega)) | exact congrArg Value.bool (beq_iff_eq.2 (by omega)) | exact congrArg Value.bool (beq_eq_false_iff_ne.2 (by omega)) | exact congrArg Value.bool (bne_iff_ne.2 (by omega)) | exact congrArg Value.bool (bne_eq_false_iff_eq.2 (by omega)) | exact congrArg (Value.int .i64) (wrapi (by omega) (by omega)) | exact congrArg (Value.int .u8) (wrap8 (by omega) (by omega)) | exact congrArg (Value.int .u32) (wrap32 (by omega) (by omega)) | exact rfl) rfl ?_ | refine e_s rfl rfl ?_ | refine e_nil ?_ | refine then_n ?_ | refine e_seq ?_ | refine e_region ?_ | refine e_block ?_ | refine e_ret ?_ | refine e_skip ?_ | refine e_exit ?_ | refine then_ret ?_ | refine then_exit ?_ | refine blk_n ?_ | refine blk_ret ?_ | refine blk_here ?_ | refine blk_there rfl ?_ | refine e_cond_t rfl rfl rfl ?_ | refine e_cond_f rfl rfl rfl ?_)
  refine e_call rfl rfl rfl Try.func10 rfl hsq (fun _ h => h.elim) ?_
  rintro _ s5 ⟨x5, k5, e5, rfl, h5, kk5, _⟩
  have hk0 : k5 = 0 := by have := h5.has.size; simpa using this.symm
  subst hk0
  repeat (first | refine e_mv rfl rfl rfl rfl ?_ | refine e_c rfl rfl rfl Try.func8 rfl (live17_call _ _) ?_ | refine e_ops rfl rfl rfl (by first | exact congrArg Value.bool (decide_eq_true (by omega)) | exact congrArg Value.bool (decide_eq_false (by omega)) | exact congrArg Value.bool (beq_iff_eq.2 (by omega)) | exact congrArg Value.bool (beq_eq_false_iff_ne.2 (by omega)) | exact congrArg Value.bool (bne_iff_ne.2 (by omega)) | exact congrArg Value.bool (bne_eq_false_iff_eq.2 (by omega)) | exact congrArg (Value.int .i64) (wrapi (by omega) (by omega)) | exact congrArg (Value.int .u8) (wrap8 (by omega) (by omega)) | exact congrArg (Value.int .u32) (wrap32 (by omega) (by omega)) | exact rfl) rfl ?_ | refine e_s rfl rfl ?_ | refine e_nil ?_ | refine then_n ?_ | refine e_seq ?_ | refine e_region ?_ | refine e_block ?_ | refine e_ret ?_ | refine e_skip ?_ | refine e_exit ?_ | refine then_ret ?_ | refine then_exit ?_ | refine blk_n ?_ | refine blk_ret ?_ | refine blk_here ?_ | refine blk_there rfl ?_ | refine e_cond_t rfl rfl rfl ?_ | refine e_cond_f rfl rfl rfl ?_)
  apply e_done (Or.inr rfl)
  case hr => rfl
  case hv => rfl
  case hR => rfl

end Go.Proofs.Ytddenboepgfbgaa
