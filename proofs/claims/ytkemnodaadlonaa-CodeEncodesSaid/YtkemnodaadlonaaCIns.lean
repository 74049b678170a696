/- Instructions as they come in. No statement of the seat is proved in this text. -/
import Derived.Test.YtkemnodaadlonaaCSame
import Derived.Test.YtkemnodaadlonaaAb32
set_option linter.unusedVariables false
set_option linter.unusedSimpArgs false
set_option maxRecDepth 100000
set_option maxHeartbeats 4000000
namespace Go.Proofs.Ytkemnodaadlonaa
open GAb Go

structure Ins where
  op : Int
  x : Option Addr
  l : Nat
  c : Nat
  zs : List (Int × Int)
abbrev eI (t : Ins) : List Value := [.int .u32 t.op, .slice t.x t.l t.c]
theorem opn_operand : Opn Try.prog 62 fun _ vs => ∃ x : Int × Int, vs = eO x ∧ U32 x.2 :=
  opn_mono (opn_struct Try.underlying62 (by kernel_rfl) (.cons (opn_int Try.underlying3) (.cons (opn_int Try.underlying25) .nil))) (fun σ vs h => by
    obtain ⟨u0, w0, rfl, ⟨n0, rfl, h0⟩, u1, w1, rfl, ⟨n1, rfl, h1⟩, rfl⟩ := h
    exact ⟨(n0, n1), rfl, bounds_u32 h1⟩) (fun _ _ _ h _ => h)
theorem opn_operands : Opn Try.prog 26 fun σ vs => ∃ x len cap zs, vs = [.slice x len cap] ∧ Row σ x len cap 2 (rows eO zs) ∧ ArgOK zs :=
  opn_mono (opn_slice (es := 2) Try.underlying26 (by kernel_rfl) (by decide) opn_operand) (fun σ vs h => by
    obtain ⟨x, len, cap, zs, rfl, hR, hE, hM⟩ := h
    obtain ⟨xs, rfl, h1, h2⟩ := els_rows (Q := fun t : Int × Int => U32 t.2) (e := eO) (es := 2) (σ := σ) hE
    exact ⟨x, len, cap, xs, rfl, hR, fun y hy => h2 y hy⟩) (fun σ σ' vs ⟨x, len, cap, zs, h1, h2, h3⟩ k => ⟨x, len, cap, zs, h1, h2.kp (Nat.le_refl _) k, h3⟩)
def InsOK (σ : AState) (t : Ins) : Prop := U32 t.op ∧ Row σ t.x t.l t.c 2 (rows eO t.zs) ∧ ArgOK t.zs
theorem opn_ins : Opn Try.prog 28 fun σ vs => ∃ t : Ins, vs = eI t ∧ InsOK σ t :=
  opn_mono (opn_struct Try.underlying28 (by kernel_rfl) (.cons (opn_int Try.underlying25) (.cons opn_operands .nil))) (fun σ vs h => by
    obtain ⟨u0, w0, rfl, ⟨n0, rfl, h0⟩, u1, w1, rfl, ⟨x, l, c, zs, rfl, h4, h5⟩, rfl⟩ := h
    exact ⟨⟨n0, x, l, c, zs⟩, rfl, bounds_u32 h0, h4, h5⟩) (fun σ σ' vs ⟨t, h1, h2, h3, h4⟩ k => ⟨t, h1, h2, h3.kp (Nat.le_refl _) k, h4⟩)
/-- An instruction that is only read. -/
structure OldI (σ : AState) (t : Ins) (ars : List (Int × Int)) : Prop where
  op : U32 t.op
  old : Old E0 σ t.x t.l t.c 2 (rows eO ars)
  ok : ArgOK ars
theorem oldI_ins {σ : AState} {t : Ins} (h : InsOK σ t) : OldI σ t (t.zs.take t.l) :=
  ⟨h.1, Old.pure ⟨_, h.2.1, by rw [rows_take eO_len]⟩, fun a ha => h.2.2 a (List.mem_of_mem_take ha)⟩

theorem eO_one (xs : List (Int × Int)) : (rows eO xs).all Value.oneCell' = true := by
  rw [List.all_eq_true]
  intro v hv
  obtain ⟨r, _, hr⟩ := List.mem_flatMap.1 hv
  simp only [List.mem_cons, List.mem_nil_iff, or_false] at hr
  rcases hr with rfl | rfl <;> rfl
theorem num11_call {σ : AState} {x : Int} : SCall Try.prog (fun _ => False) 17 [.int .i64 x] σ (fun v s => v = .int .i64 x ∧ s = σ) := by
  refine k_fun Try.func17 rfl (m := 4) rfl fun B hD Q K => ?_
  refine k_seq (fun Q K => ?_)
  refine k_lin (fun W K => ?_)
  refine l_op 0 rfl rfl rfl rfl rfl ?_
  refine l_nil (WK.nx (by assumption) ?_)
  refine SeqK.nx (by assumption) ?_
  refine k_seq (fun Q K => ?_)
  refine k_lin (fun W K => ?_)
  refine l_op 0 rfl rfl rfl rfl rfl ?_
  refine l_op 0 rfl rfl rfl rfl rfl ?_
  refine l_nil (WK.nx (by assumption) ?_)
  refine SeqK.nx (by assumption) ?_
  refine k_ret ?_
  refine FunK.rt (by assumption) rfl ?_
  -- leaf 1
  exact ⟨rfl, rfl⟩

end Go.Proofs.Ytkemnodaadlonaa
