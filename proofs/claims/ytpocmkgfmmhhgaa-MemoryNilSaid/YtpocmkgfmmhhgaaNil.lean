/- What a nil memory answers. No statement of the seat is proved in this text. -/
import Derived.Test.YtpocmkgfmmhhgaaAb18
import Derived.Test.YtpocmkgfmmhhgaaProg
import Derived.KernelRfl
set_option linter.unusedVariables false
set_option linter.unusedSimpArgs false
set_option maxRecDepth 100000
namespace Go.Proofs.Ytpocmkgfmmhhgaa
open GAb Go

theorem nil18 (D : Nat → Prop) (a : Int) (σ : AState) : SCall Try.prog D 18 [.pointer none, .int .u32 a, .int .u32 a] σ fun v s => v = undef ∧ s = σ :=
  closed_told (n := 200) (by kernel_rfl) rfl rfl D σ
theorem nil19 (D : Nat → Prop) (σ : AState) : SCall Try.prog D 19 [.pointer none] σ fun v s => v = undef ∧ s = σ :=
  closed_told (n := 200) (by kernel_rfl) rfl rfl D σ
theorem nil15 (D : Nat → Prop) (a n : Int) (σ : AState) : SCall Try.prog D 15 [.pointer none, .int .u32 a, .int .i64 n] σ fun v s => v = .tuple #[.int .u32 0, .int .i64 8] ∧ s = σ :=
  closed_told (n := 200) (by kernel_rfl) rfl rfl D σ
theorem nil21 (D : Nat → Prop) (σ : AState) : SCall Try.prog D 21 [.pointer none] σ fun v s => v = .tuple #[.int .u32 0, .slice none 0 0] ∧ s = σ :=
  closed_told (n := 200) (by kernel_rfl) rfl rfl D σ
theorem nil12 (D : Nat → Prop) (a n : Int) (σ : AState) : SCall Try.prog D 12 [.pointer none, .int .u32 a, .int .i64 n, .int .u32 1] σ fun v s => v = .int .i64 8 ∧ s = σ :=
  closed_told (n := 200) (by kernel_rfl) rfl rfl D σ
theorem nil17 (D : Nat → Prop) (a : Int) (σ : AState) : SCall Try.prog D 17 [.pointer none, .int .u32 a, .int .u32 a] σ fun v s => v = .int .i64 8 ∧ s = σ :=
  closed_told (n := 200) (by kernel_rfl) rfl rfl D σ
theorem nil16 (D : Nat → Prop) (a : Int) (σ : AState) : SCall Try.prog D 16 [.pointer none, .int .u32 a, .int .u32 a, .int .u32 a] σ fun v s => v = .int .i64 8 ∧ s = σ :=
  closed_told (n := 200) (by kernel_rfl) rfl rfl D σ
theorem nil22 (D : Nat → Prop) (a : Int) (σ : AState) : SCall Try.prog D 22 [.pointer none, .int .u32 a] σ fun v s => v = .bool false ∧ s = σ :=
  closed_told (n := 200) (by kernel_rfl) rfl rfl D σ
theorem nil23 (D : Nat → Prop) (a : Int) (σ : AState) : SCall Try.prog D 23 [.pointer none, .int .u32 a] σ fun v s => v = .int .u32 0 ∧ s = σ :=
  closed_told (n := 200) (by kernel_rfl) rfl rfl D σ
theorem nil24 (D : Nat → Prop) (a : Int) (σ : AState) : SCall Try.prog D 24 [.pointer none, .int .u32 a] σ fun v s => v = .int .i64 8 ∧ s = σ :=
  closed_told (n := 200) (by kernel_rfl) rfl rfl D σ
theorem nil26 (D : Nat → Prop) (σ : AState) : SCall Try.prog D 26 [.pointer none] σ fun v s => v = .int .u32 0 ∧ s = σ :=
  closed_told (n := 200) (by kernel_rfl) rfl rfl D σ
theorem nil27 (D : Nat → Prop) (σ : AState) : SCall Try.prog D 27 [.pointer none] σ fun v s => v = .agg #[.int .u32 0, .int .u32 0, .int .u32 0, .int .u32 0, .int .u32 0, .int .u32 0, .int .u32 0, .int .u32 0] ∧ s = σ :=
  closed_told (n := 200) (by kernel_rfl) rfl rfl D σ
theorem nil11 (D : Nat → Prop) (σ : AState) : SCall Try.prog D 11 [.pointer none] σ fun v s => v = .slice none 0 0 ∧ s = σ :=
  closed_told (n := 200) (by kernel_rfl) rfl rfl D σ
theorem nil28 (D : Nat → Prop) (σ : AState) : SCall Try.prog D 28 [.pointer none] σ fun v s => v = .slice none 0 0 ∧ s = σ :=
  closed_told (n := 200) (by kernel_rfl) rfl rfl D σ
theorem nil29 (D : Nat → Prop) (σ : AState) : SCall Try.prog D 29 [.pointer none] σ fun v s => v = .pointer none ∧ s = σ :=
  closed_told (n := 200) (by kernel_rfl) rfl rfl D σ
theorem nil13 (D : Nat → Prop) (e : Int) (σ : AState) : SCall Try.prog D 13 [.int .i64 e] σ fun v s => v = .int .i64 e ∧ s = σ :=
  closed_told (n := 200) (by kernel_rfl) rfl rfl D σ
theorem nil25 (D : Nat → Prop) (a : Int) (x : Option Addr) (l c : Nat) (σ : AState) : SCall Try.prog D 25 [.pointer none, .slice x l c, .int .u32 a, .slice none 0 0] σ fun v s => v = .int .i64 8 ∧ s = σ := by
  refine e_fun (m := 101) Try.func25 rfl rfl fun B hB => ?_
  repeat (first | refine e_mv rfl rfl rfl rfl ?_ | refine e_ops rfl rfl rfl (by first | exact congrArg Value.bool (decide_eq_true (by omega)) | exact congrArg Value.bool (decide_eq_false (by omega)) | exact congrArg Value.bool (beq_iff_eq.2 (by omega)) | exact congrArg Value.bool (beq_eq_false_iff_ne.2 (by omega)) | exact congrArg Value.bool (bne_iff_ne.2 (by omega)) | exact congrArg Value.bool (bne_eq_false_iff_eq.2 (by omega)) | exact congrArg (Value.int .i64) (wrapi (by omega) (by omega)) | exact congrArg (Value.int .u8) (wrap8 (by omega) (by omega)) | exact congrArg (Value.int .u32) (wrap32 (by omega) (by omega)) | exact rfl) rfl ?_ | refine e_s rfl rfl ?_ | refine e_nil ?_ | refine then_n ?_ | refine e_seq ?_ | refine e_region ?_ | refine e_block ?_ | refine e_ret ?_ | refine e_skip ?_ | refine e_exit ?_ | refine then_ret ?_ | refine then_exit ?_ | refine blk_n ?_ | refine blk_ret ?_ | refine blk_here ?_ | refine blk_there rfl ?_ | refine e_cond_t rfl rfl rfl ?_ | refine e_cond_f rfl rfl rfl ?_)
  apply e_done (Or.inr rfl)
  case hr => rfl
  case hv => rfl
  case hR => exact ⟨rfl, rfl⟩

end Go.Proofs.Ytpocmkgfmmhhgaa
