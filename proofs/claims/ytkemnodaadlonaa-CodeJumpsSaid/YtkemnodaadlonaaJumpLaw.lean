/- The law of the branches over the abstract heap: every test is true, whatever the two numbers are. No statement of the seat is proved in this text. -/
import Derived.Test.YtkemnodaadlonaaJump
import Derived.Test.YtkemnodaadlonaaLive
set_option linter.unusedVariables false
set_option linter.unusedSimpArgs false
set_option maxRecDepth 100000
namespace Go.Proofs.Ytkemnodaadlonaa
open GAb Go

theorem jump_law (D : Nat → Prop) (a b : Int) (ha : 0 ≤ a ∧ a < 4294967296) (hb0 : 0 ≤ b ∧ b < 4294967296) : SCall Try.prog D 5 [.int .u32 a, .int .u32 b] empty fun v s => v = .bool true := by
  have h2 : (IntKind.u32.wrap (IntKind.u32.wrap (a + 2) - 2) == a) = true := by
    rw [beq_iff_eq]
    simp only [IntKind.wrap, IntKind.bits, IntKind.signed]
    simp
    omega
  have j2 := jump_call (fun _ => False) a 2 empty
  rw [show jumpV a 2 = .tuple #[.int .u32 (IntKind.u32.wrap (IntKind.u32.wrap (a + 2) - 2)), .bool false, .int .u32 0] from if_neg (by decide)] at j2
  by_cases hb : b < 2
  · have e := show jumpV a b = .tuple #[.int .u32 0, .bool true, .int .u32 b] from if_pos hb
    have j0 := jump_call (fun _ => False) a b empty
    have j1 := refJump_call (fun _ => False) a b ha hb0 empty
    rw [e] at j0 j1
    refine e_fun (m := 59) Try.func5 rfl rfl fun B hB => ?_
    repeat (first | refine e_t rfl rfl h2 rfl ?_ | refine e_t rfl rfl (beq_self_eq_true _) rfl ?_ | refine e_op rfl rfl rfl ?_ | refine e_c rfl rfl rfl Try.func23 rfl j0 ?_ | refine e_c rfl rfl rfl Try.func24 rfl j1 ?_ | refine e_c rfl rfl rfl Try.func23 rfl j2 ?_ | refine e_c rfl rfl rfl Try.func12 rfl (live_call _ _) ?_ | refine e_nil ?_ | refine then_n ?_ | refine e_seq ?_ | refine e_region ?_ | refine e_ret ?_ | refine then_ret ?_)
    apply e_done (Or.inr rfl)
    case hr => rfl
    case hv => rfl
    case hR => rfl
  · have e := show jumpV a b = .tuple #[.int .u32 (IntKind.u32.wrap (IntKind.u32.wrap (a + b) - 2)), .bool false, .int .u32 0] from if_neg hb
    have j0 := jump_call (fun _ => False) a b empty
    have j1 := refJump_call (fun _ => False) a b ha hb0 empty
    rw [e] at j0 j1
    refine e_fun (m := 59) Try.func5 rfl rfl fun B hB => ?_
    repeat (first | refine e_t rfl rfl h2 rfl ?_ | refine e_t rfl rfl (beq_self_eq_true _) rfl ?_ | refine e_op rfl rfl rfl ?_ | refine e_c rfl rfl rfl Try.func23 rfl j0 ?_ | refine e_c rfl rfl rfl Try.func24 rfl j1 ?_ | refine e_c rfl rfl rfl Try.func23 rfl j2 ?_ | refine e_c rfl rfl rfl Try.func12 rfl (live_call _ _) ?_ | refine e_nil ?_ | refine then_n ?_ | refine e_seq ?_ | refine e_region ?_ | refine e_ret ?_ | refine then_ret ?_)
    apply e_done (Or.inr rfl)
    case hr => rfl
    case hv => rfl
    case hR => rfl

end Go.Proofs.Ytkemnodaadlonaa
