/- What a branch leads to, by the program and by the document's answer, over the abstract heap. No statement of the seat is proved in this text. -/
import Derived.Test.YtkemnodaadlonaaAb13
import Derived.Test.YtkemnodaadlonaaProg
import Derived.KernelRfl
set_option linter.unusedVariables false
set_option linter.unusedSimpArgs false
set_option maxRecDepth 100000
namespace Go.Proofs.Ytkemnodaadlonaa
open GAb Go

def jumpV (a b : Int) : Value :=
  if b < 2 then .tuple #[.int .u32 0, .bool true, .int .u32 b] else .tuple #[.int .u32 (IntKind.u32.wrap (IntKind.u32.wrap (a + b) - 2)), .bool false, .int .u32 0]

theorem jump_call (D : Nat → Prop) (a b : Int) (σ : AState) : SCall Try.prog D 23 [.int .u32 a, .int .u32 b] σ fun v s => v = jumpV a b ∧ s = σ := by
  by_cases hb : b < 2
  · refine e_fun (m := 14) Try.func23 rfl rfl fun B hB => ?_
    repeat (first | refine e_op rfl rfl rfl ?_ | refine e_nil ?_ | refine then_n ?_ | refine e_seq ?_ | refine e_region ?_ | refine e_cond_t rfl rfl (decide_eq_true hb) ?_ | refine e_ret ?_ | refine then_ret ?_)
    apply e_done (Or.inr rfl)
    case hr => rfl
    case hv => rfl
    case hR => exact ⟨by unfold jumpV; rw [if_pos hb]; rfl, rfl⟩
  · refine e_fun (m := 14) Try.func23 rfl rfl fun B hB => ?_
    repeat (first | refine e_op rfl rfl rfl ?_ | refine e_nil ?_ | refine then_n ?_ | refine e_seq ?_ | refine e_region ?_ | refine e_cond_f rfl rfl (decide_eq_false hb) ?_ | refine e_skip ?_ | refine e_ret ?_ | refine then_ret ?_)
    apply e_done (Or.inr rfl)
    case hr => rfl
    case hv => rfl
    case hR => exact ⟨by unfold jumpV; rw [if_neg hb]; rfl, rfl⟩

theorem mask32 (x : Int) : ((BitVec.ofInt 64 x &&& BitVec.ofInt 64 4294967295).toNat : Int) = x % 4294967296 := by
  have h : (BitVec.ofInt 64 4294967295).toNat = 2 ^ 32 - 1 := by decide
  rw [BitVec.toNat_and, h, Nat.and_two_pow_sub_one_eq_mod, BitVec.toNat_ofInt]
  omega

theorem of_call (D : Nat → Prop) (x : Int) (σ : AState) : SCall Try.prog D 48 [.int .i64 x] σ fun v s => v = .int .u32 (IntKind.u32.wrap x) ∧ s = σ := by
  refine e_fun (m := 6) Try.func48 rfl rfl fun B hB => ?_
  repeat (first | refine e_op rfl rfl rfl ?_ | refine e_nil ?_ | refine then_n ?_ | refine e_seq ?_ | refine e_region ?_ | refine e_ret ?_ | refine then_ret ?_)
  apply e_done (Or.inr rfl)
  case hr => rfl
  case hv => rfl
  case hR =>
    refine ⟨?_, rfl⟩
    show Value.int .u32 (IntKind.u32.wrap (IntKind.i64.wrap ((BitVec.ofInt 64 x &&& BitVec.ofInt 64 4294967295).toNat : Int))) = _
    rw [mask32]
    congr 1
    simp only [IntKind.wrap, IntKind.bits, IntKind.signed]
    simp
    omega

theorem refJump_call (D : Nat → Prop) (a b : Int) (ha : 0 ≤ a ∧ a < 4294967296) (hb0 : 0 ≤ b ∧ b < 4294967296) (σ : AState) : SCall Try.prog D 24 [.int .u32 a, .int .u32 b] σ fun v s => v = jumpV a b ∧ s = σ := by
  by_cases h0 : b = 0
  · refine e_fun (m := 21) Try.func24 rfl rfl fun B hB => ?_
    repeat (first | refine e_t rfl rfl (beq_iff_eq.2 h0) rfl ?_ | refine e_op rfl rfl rfl ?_ | refine e_s rfl rfl ?_ | refine e_nil ?_ | refine then_n ?_ | refine e_seq ?_ | refine e_region ?_ | refine e_cond_t rfl rfl rfl ?_ | refine e_ret ?_ | refine then_ret ?_)
    apply e_done (Or.inr rfl)
    case hr => rfl
    case hv => rfl
    case hR => exact ⟨by unfold jumpV; rw [if_pos (by omega)]; rfl, rfl⟩
  by_cases h1 : b = 1
  · refine e_fun (m := 21) Try.func24 rfl rfl fun B hB => ?_
    repeat (first | refine e_f rfl rfl (beq_eq_false_iff_ne.2 h0) rfl ?_ | refine e_t rfl rfl (beq_iff_eq.2 h1) rfl ?_ | refine e_op rfl rfl rfl ?_ | refine e_s rfl rfl ?_ | refine e_nil ?_ | refine then_n ?_ | refine e_seq ?_ | refine e_region ?_ | refine e_cond_t rfl rfl rfl ?_ | refine e_ret ?_ | refine then_ret ?_)
    apply e_done (Or.inr rfl)
    case hr => rfl
    case hv => rfl
    case hR => exact ⟨by unfold jumpV; rw [if_pos (by omega)]; rfl, rfl⟩
  · refine e_fun (m := 21) Try.func24 rfl rfl fun B hB => ?_
    repeat (first | refine e_f rfl rfl (beq_eq_false_iff_ne.2 h0) rfl ?_ | refine e_f rfl rfl (beq_eq_false_iff_ne.2 h1) rfl ?_ | refine e_op rfl rfl rfl ?_ | refine e_c rfl rfl rfl Try.func48 rfl (of_call _ _ _) ?_ | refine e_s rfl rfl ?_ | refine e_nil ?_ | refine then_n ?_ | refine e_seq ?_ | refine e_region ?_ | refine e_cond_f rfl rfl rfl ?_ | refine e_skip ?_ | refine e_ret ?_ | refine then_ret ?_)
    apply e_done (Or.inr rfl)
    case hr => rfl
    case hv => rfl
    case hR =>
      refine ⟨?_, rfl⟩
      unfold jumpV
      rw [if_neg (by omega)]
      have : (IntKind.u32.wrap (IntKind.i64.wrap (IntKind.i64.wrap (IntKind.i64.wrap a + IntKind.i64.wrap b) - 2))) = IntKind.u32.wrap (IntKind.u32.wrap (a + b) - 2) := by
        simp only [IntKind.wrap, IntKind.bits, IntKind.signed]
        simp
        omega
      rw [← this]
      rfl

end Go.Proofs.Ytkemnodaadlonaa
