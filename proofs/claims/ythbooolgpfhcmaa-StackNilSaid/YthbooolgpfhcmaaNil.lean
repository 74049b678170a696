/- What a nil stack answers. No statement of the seat is proved in this text. -/
import Derived.Test.YthbooolgpfhcmaaAb18
import Derived.Test.YthbooolgpfhcmaaProg
import Derived.KernelRfl
set_option linter.unusedVariables false
set_option linter.unusedSimpArgs false
set_option maxRecDepth 100000
namespace Go.Proofs.Ythbooolgpfhcmaa
open GAb Go

theorem nil36 (D : Nat → Prop) (a n : Int) (σ : AState) : SCall Try.prog D 36 [.pointer none, .int .u32 a, .int .i64 n] σ fun v s => v = .tuple #[.int .u32 0, .int .i64 8] ∧ s = σ :=
  closed_told (n := 200) (by kernel_rfl) rfl rfl D σ
theorem nil32 (D : Nat → Prop) (σ : AState) : SCall Try.prog D 32 [.pointer none] σ fun v s => v = .tuple #[.int .u32 0, .int .i64 8] ∧ s = σ :=
  closed_told (n := 200) (by kernel_rfl) rfl rfl D σ
theorem nil28 (D : Nat → Prop) (a : Int) (σ : AState) : SCall Try.prog D 28 [.pointer none, .int .u32 a] σ fun v s => v = .tuple #[.int .u32 0, .int .i64 8] ∧ s = σ :=
  closed_told (n := 200) (by kernel_rfl) rfl rfl D σ
theorem nil24 (D : Nat → Prop) (σ : AState) : SCall Try.prog D 24 [.pointer none] σ fun v s => v = .tuple #[.int .u32 0, .int .u32 0, .int .u32 0, .int .i64 8] ∧ s = σ :=
  closed_told (n := 200) (by kernel_rfl) rfl rfl D σ
theorem nil31 (D : Nat → Prop) (σ : AState) : SCall Try.prog D 31 [.pointer none] σ fun v s => v = .tuple #[.int .u32 0, .bool false] ∧ s = σ :=
  closed_told (n := 200) (by kernel_rfl) rfl rfl D σ
theorem nil23 (D : Nat → Prop) (σ : AState) : SCall Try.prog D 23 [.pointer none] σ fun v s => v = .int .i64 8 ∧ s = σ :=
  closed_told (n := 200) (by kernel_rfl) rfl rfl D σ
theorem nil26 (D : Nat → Prop) (a : Int) (σ : AState) : SCall Try.prog D 26 [.pointer none, .int .u32 a] σ fun v s => v = .int .i64 8 ∧ s = σ :=
  closed_told (n := 200) (by kernel_rfl) rfl rfl D σ
theorem nil41 (D : Nat → Prop) (a n : Int) (σ : AState) : SCall Try.prog D 41 [.pointer none, .int .u32 a, .int .i64 n, .int .u32 a] σ fun v s => v = .int .i64 8 ∧ s = σ :=
  closed_told (n := 200) (by kernel_rfl) rfl rfl D σ
theorem nil38 (D : Nat → Prop) (σ : AState) : SCall Try.prog D 38 [.pointer none] σ fun v s => v = .int .i64 8 ∧ s = σ :=
  closed_told (n := 200) (by kernel_rfl) rfl rfl D σ
theorem nil27 (D : Nat → Prop) (a : Int) (σ : AState) : SCall Try.prog D 27 [.pointer none, .int .u32 a, .int .u32 a] σ fun v s => v = .int .i64 8 ∧ s = σ :=
  closed_told (n := 200) (by kernel_rfl) rfl rfl D σ
theorem nil42 (D : Nat → Prop) (a : Int) (σ : AState) : SCall Try.prog D 42 [.pointer none, .int .u32 a] σ fun v s => v = .int .i64 8 ∧ s = σ :=
  closed_told (n := 200) (by kernel_rfl) rfl rfl D σ
theorem nil33 (D : Nat → Prop) (a : Int) (σ : AState) : SCall Try.prog D 33 [.pointer none, .int .u32 a, .int .u32 a, .int .u32 a] σ fun v s => v = .int .i64 8 ∧ s = σ :=
  closed_told (n := 200) (by kernel_rfl) rfl rfl D σ
theorem nil39 (D : Nat → Prop) (a : Int) (σ : AState) : SCall Try.prog D 39 [.pointer none, .int .u32 a] σ fun v s => v = .int .i64 8 ∧ s = σ :=
  closed_told (n := 200) (by kernel_rfl) rfl rfl D σ
theorem nil40 (D : Nat → Prop) (σ : AState) : SCall Try.prog D 40 [.pointer none] σ fun v s => v = .int .i64 0 ∧ s = σ :=
  closed_told (n := 200) (by kernel_rfl) rfl rfl D σ
theorem nil20 (D : Nat → Prop) (σ : AState) : SCall Try.prog D 20 [.pointer none] σ fun v s => v = .int .u32 0 ∧ s = σ :=
  closed_told (n := 200) (by kernel_rfl) rfl rfl D σ
theorem nil22 (D : Nat → Prop) (σ : AState) : SCall Try.prog D 22 [.pointer none] σ fun v s => v = .slice none 0 0 ∧ s = σ :=
  closed_told (n := 200) (by kernel_rfl) rfl rfl D σ
theorem nil43 (D : Nat → Prop) (σ : AState) : SCall Try.prog D 43 [.pointer none] σ fun v s => v = .pointer none ∧ s = σ :=
  closed_told (n := 200) (by kernel_rfl) rfl rfl D σ
theorem nil14 (D : Nat → Prop) (e : Int) (σ : AState) : SCall Try.prog D 14 [.int .i64 e] σ fun v s => v = .int .i64 e ∧ s = σ :=
  closed_told (n := 200) (by kernel_rfl) rfl rfl D σ
theorem nil34 (D : Nat → Prop) (x : Option Addr) (l c : Nat) (σ : AState) : SCall Try.prog D 34 [.pointer none, .slice x l c] σ fun v s => v = .int .i64 8 ∧ s = σ := by
  refine e_fun (m := 101) Try.func34 rfl rfl fun B hB => ?_
  repeat (first | refine e_mv rfl rfl rfl rfl ?_ | refine e_ops rfl rfl rfl (by first | exact congrArg Value.bool (decide_eq_true (by omega)) | exact congrArg Value.bool (decide_eq_false (by omega)) | exact congrArg Value.bool (beq_iff_eq.2 (by omega)) | exact congrArg Value.bool (beq_eq_false_iff_ne.2 (by omega)) | exact congrArg Value.bool (bne_iff_ne.2 (by omega)) | exact congrArg Value.bool (bne_eq_false_iff_eq.2 (by omega)) | exact congrArg (Value.int .i64) (wrapi (by omega) (by omega)) | exact congrArg (Value.int .u8) (wrap8 (by omega) (by omega)) | exact congrArg (Value.int .u32) (wrap32 (by omega) (by omega)) | exact rfl) rfl ?_ | refine e_s rfl rfl ?_ | refine e_nil ?_ | refine then_n ?_ | refine e_seq ?_ | refine e_region ?_ | refine e_block ?_ | refine e_ret ?_ | refine e_skip ?_ | refine e_exit ?_ | refine then_ret ?_ | refine then_exit ?_ | refine blk_n ?_ | refine blk_ret ?_ | refine blk_here ?_ | refine blk_there rfl ?_ | refine e_cond_t rfl rfl rfl ?_ | refine e_cond_f rfl rfl rfl ?_)
  apply e_done (Or.inr rfl)
  case hr => rfl
  case hv => rfl
  case hR => exact ⟨rfl, rfl⟩
theorem nil17 (D : Nat → Prop) (x : Option Addr) (l c : Nat) (σ : AState) : SCall Try.prog D 17 [.pointer none, .slice x l c] σ fun v s => v = .int .i64 8 ∧ s = σ := by
  refine e_fun (m := 77) Try.func17 rfl rfl fun B hB => ?_
  repeat (first | refine e_mv rfl rfl rfl rfl ?_ | refine e_ops rfl rfl rfl (by first | exact congrArg Value.bool (decide_eq_true (by omega)) | exact congrArg Value.bool (decide_eq_false (by omega)) | exact congrArg Value.bool (beq_iff_eq.2 (by omega)) | exact congrArg Value.bool (beq_eq_false_iff_ne.2 (by omega)) | exact congrArg Value.bool (bne_iff_ne.2 (by omega)) | exact congrArg Value.bool (bne_eq_false_iff_eq.2 (by omega)) | exact congrArg (Value.int .i64) (wrapi (by omega) (by omega)) | exact congrArg (Value.int .u8) (wrap8 (by omega) (by omega)) | exact congrArg (Value.int .u32) (wrap32 (by omega) (by omega)) | exact rfl) rfl ?_ | refine e_s rfl rfl ?_ | refine e_nil ?_ | refine then_n ?_ | refine e_seq ?_ | refine e_region ?_ | refine e_block ?_ | refine e_ret ?_ | refine e_skip ?_ | refine e_exit ?_ | refine then_ret ?_ | refine then_exit ?_ | refine blk_n ?_ | refine blk_ret ?_ | refine blk_here ?_ | refine blk_there rfl ?_ | refine e_cond_t rfl rfl rfl ?_ | refine e_cond_f rfl rfl rfl ?_)
  apply e_done (Or.inr rfl)
  case hr => rfl
  case hv => rfl
  case hR => exact ⟨rfl, rfl⟩
theorem nil37 (D : Nat → Prop) (x : Option Addr) (l c : Nat) (σ : AState) : SCall Try.prog D 37 [.pointer none, .slice x l c] σ fun v s => v = .int .i64 8 ∧ Kp σ.next σ s := by
  refine e_fun (m := 28) Try.func37 rfl rfl fun B hB => ?_
  refine e_seq ?_
  refine e_region ?_
  refine e_opv (.pointer (some ⟨σ.next, 0, none⟩)) rfl rfl rfl rfl ?_
  refine e_opv (.pointer (some ⟨σ.next + 1, 0, none⟩)) rfl rfl rfl rfl ?_
  repeat (first | refine e_mv rfl rfl rfl rfl ?_ | refine e_ops rfl rfl rfl (by first | exact congrArg Value.bool (decide_eq_true (by omega)) | exact congrArg Value.bool (decide_eq_false (by omega)) | exact congrArg Value.bool (beq_iff_eq.2 (by omega)) | exact congrArg Value.bool (beq_eq_false_iff_ne.2 (by omega)) | exact congrArg Value.bool (bne_iff_ne.2 (by omega)) | exact congrArg Value.bool (bne_eq_false_iff_eq.2 (by omega)) | exact congrArg (Value.int .i64) (wrapi (by omega) (by omega)) | exact congrArg (Value.int .u8) (wrap8 (by omega) (by omega)) | exact congrArg (Value.int .u32) (wrap32 (by omega) (by omega)) | exact rfl) rfl ?_ | refine e_s rfl rfl ?_ | refine e_nil ?_ | refine then_n ?_ | refine e_seq ?_ | refine e_region ?_ | refine e_block ?_ | refine e_ret ?_ | refine e_skip ?_ | refine e_exit ?_ | refine then_ret ?_ | refine then_exit ?_ | refine blk_n ?_ | refine blk_ret ?_ | refine blk_here ?_ | refine blk_there rfl ?_ | refine e_cond_t rfl rfl rfl ?_ | refine e_cond_f rfl rfl rfl ?_)
  refine e_ld (v := .pointer none) rfl rfl rfl rfl ⟨σ.next, 0, rfl, ?_⟩ ?_
  · unfold rd
    show (match ((σ.alloc ⟨_, 0, false⟩).alloc ⟨_, 0, false⟩).get σ.next with | some b => _ | none => none) = _
    rw [AState.get_alloc, if_neg (by simp), AState.get_alloc, if_pos rfl]
    rfl
  repeat (first | refine e_mv rfl rfl rfl rfl ?_ | refine e_c rfl rfl rfl Try.func56 rfl (closed_told (n := 200) (v := .int .i64 8) (by kernel_rfl) rfl rfl _ _) ?_ | refine e_ops rfl rfl rfl (by first | exact congrArg Value.bool (decide_eq_true (by omega)) | exact congrArg Value.bool (decide_eq_false (by omega)) | exact congrArg Value.bool (beq_iff_eq.2 (by omega)) | exact congrArg Value.bool (beq_eq_false_iff_ne.2 (by omega)) | exact congrArg Value.bool (bne_iff_ne.2 (by omega)) | exact congrArg Value.bool (bne_eq_false_iff_eq.2 (by omega)) | exact congrArg (Value.int .i64) (wrapi (by omega) (by omega)) | exact congrArg (Value.int .u8) (wrap8 (by omega) (by omega)) | exact congrArg (Value.int .u32) (wrap32 (by omega) (by omega)) | exact rfl) rfl ?_ | refine e_s rfl rfl ?_ | refine e_nil ?_ | refine then_n ?_ | refine e_seq ?_ | refine e_region ?_ | refine e_block ?_ | refine e_ret ?_ | refine e_skip ?_ | refine e_exit ?_ | refine then_ret ?_ | refine then_exit ?_ | refine blk_n ?_ | refine blk_ret ?_ | refine blk_here ?_ | refine blk_there rfl ?_ | refine e_cond_t rfl rfl rfl ?_ | refine e_cond_f rfl rfl rfl ?_)
  apply e_done (Or.inr rfl)
  case hr => rfl
  case hv => rfl
  case hR => exact ⟨rfl, (Kp.alloc _ (Nat.le_refl _)).trans (Kp.alloc _ (Nat.le_succ _))⟩

end Go.Proofs.Ythbooolgpfhcmaa
