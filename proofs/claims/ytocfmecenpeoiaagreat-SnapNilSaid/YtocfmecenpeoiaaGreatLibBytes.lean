/- What the small functions over bytes answer: copies with a mark, likeness. No statement of the seat is proved in this text. -/
import Derived.Test.YtocfmecenpeoiaaGreatWd
set_option linter.unusedVariables false
set_option linter.unusedSimpArgs false
set_option maxRecDepth 100000
set_option maxHeartbeats 4000000
namespace Go.Proofs.YtocfmecenpeoiaaGreat
open GAb Go

def eqS (xs ys : List Int) : Bool := (strOfNums xs).toList == (strOfNums ys).toList
theorem eqS_self (xs : List Int) : eqS xs xs = true := by unfold eqS; exact beq_self_eq_true _

theorem same_call {σ : AState} {a b : Option Addr} {l c m d : Nat} {xs ys : List Int} (h1 : Old E0 σ a l c 1 (u8l xs)) (h2 : Old E0 σ b m d 1 (u8l ys)) :
    SCall Tryz.prog E0 14 [.slice a l c, .slice b m d] σ (Ret E0 σ (fun (_ : Unit) => .bool (irr (eqS xs ys))) (fun _ => []) fun _ => True) := by
  refine k_fun Tryz.func14 rfl (m := 10) rfl fun B hD Q K => ?_
  have F := Facts.nil E0 σ
  refine k_seq fun Q K => k_lin fun W K => ?_
  refine l_op 0 rfl rfl rfl rfl rfl ?_
  refine l_nil (WK.nx ‹_› (SeqK.nx ‹_› ?_))
  refine k_seq fun Q K => k_lin fun W K => ?_
  refine l_op 0 rfl rfl rfl rfl rfl ?_
  refine l_str rfl rfl rfl rfl rfl (F.old h1) ?_
  refine l_op 0 rfl rfl rfl rfl rfl ?_
  refine l_str rfl rfl rfl rfl rfl (F.old h2) ?_
  refine l_cmp rfl rfl rfl rfl ?_
  refine l_op 0 rfl rfl rfl rfl rfl ?_
  refine l_nil (WK.nx ‹_› (SeqK.nx ‹_› (k_ret ?_)))
  refine FunK.rt (by assumption) rfl ?_
  -- leaf 1
  exact ⟨(), rfl, F, trivial⟩

theorem Has.none {σ : AState} {l c es : Nat} {vs : List Value} (h : Has σ none l c es vs) : l = 0 ∧ c = 0 ∧ vs = [] := by
  obtain ⟨zs, h1, h2⟩ := h
  rcases h1 with ⟨_, rfl, rfl, rfl⟩ | ⟨n, o, e, h, _⟩
  · exact ⟨rfl, rfl, by rw [← h2]; simp⟩
  · cases h

/-- A copy of one's own. -/
theorem clone_call {σ : AState} {a : Option Addr} {l c : Nat} {xs : List Int} (h1 : Old E0 σ a l c 1 (u8l xs)) (hl : l ≤ 1000000000) :
    SCall Tryz.prog E0 82 [.slice a l c] σ (Ret E0 σ (fun (y : Option Addr × Nat) => .slice y.1 l y.2) (fun y => [own y.1 l y.2 1 (u8l xs)]) fun _ => True) := by
  have hxl := h1.len8
  have F := Facts.nil E0 σ
  cases a with
  | none =>
    obtain ⟨rfl, rfl, hxs⟩ := Has.none h1.1
    obtain rfl : xs = [] := List.eq_nil_of_length_eq_zero hxl
    refine k_fun Tryz.func82 rfl (m := 8) rfl fun B hD Q K => ?_
    refine k_seq fun Q K => k_lin fun W K => ?_
    refine l_op 0 rfl rfl rfl rfl rfl ?_
    refine l_nil (WK.nx ‹_› (SeqK.nx ‹_› ?_))
    refine k_seq fun Q K => k_seq fun Q K => k_lin fun W K => ?_
    refine l_op 0 rfl rfl rfl rfl rfl ?_
    refine l_cmp rfl rfl rfl rfl ?_
    refine l_nil (WK.nx ‹_› (SeqK.nx ‹_› ?_))
    refine l_cond rfl rfl (fun hc1 => ?_) (fun hc1 => ?_)
    · simp only [irr_eq, beq_iff_eq, beq_eq_false_iff_ne, ne_eq, decide_eq_true_eq, decide_eq_false_iff_not] at hc1
      refine k_seq fun Q K => k_lin fun W K => ?_
      refine l_op 0 rfl rfl rfl rfl rfl ?_
      refine l_nil (WK.nx ‹_› (SeqK.nx ‹_› (k_ret (SeqK.rt ‹_› ?_))))
      refine FunK.rt (by assumption) rfl ?_
      -- leaf 1
      exact ⟨(none, 0), rfl, F.nilrow 1, trivial⟩
    exact absurd ((irr_eq _).symm.trans hc1) (by decide)
  | some p =>
    refine k_fun Tryz.func82 rfl (m := 8) rfl fun B hD Q K => ?_
    refine k_seq fun Q K => k_lin fun W K => ?_
    refine l_op 0 rfl rfl rfl rfl rfl ?_
    refine l_nil (WK.nx ‹_› (SeqK.nx ‹_› ?_))
    refine k_seq fun Q K => k_seq fun Q K => k_lin fun W K => ?_
    refine l_op 0 rfl rfl rfl rfl rfl ?_
    refine l_cmp rfl rfl rfl rfl ?_
    refine l_nil (WK.nx ‹_› (SeqK.nx ‹_› ?_))
    refine l_cond rfl rfl (fun hc1 => ?_) (fun hc1 => ?_)
    · exact absurd ((irr_eq _).symm.trans hc1) (by decide)
    simp only [irr_eq, beq_iff_eq, beq_eq_false_iff_ne, ne_eq, decide_eq_true_eq, decide_eq_false_iff_not] at hc1
    refine k_skip (SeqK.nx ‹_› ?_)
    refine k_seq fun Q K => k_lin fun W K => ?_
    refine l_lit F rfl rfl rfl rfl (fun q5 s F => ?_)
    (try dsimp only [n_1, n_2, n_3, n_4, List.append_nil, pk, n_5, n_6] at F)
    refine l_op 0 rfl rfl rfl rfl rfl ?_
    refine l_appi (xs := []) F 0 rfl rfl rfl rfl rfl rfl rfl (F.old h1) rfl (by omega) hD (fun x2 c2 s F => ?_)
    (try dsimp only [n_1, n_2, n_3, n_4, List.append_nil, pk, n_5, n_6] at F)
    rw [Nat.zero_add] at F
    refine l_op 0 rfl rfl rfl rfl rfl ?_
    refine l_nil (WK.nx ‹_› (SeqK.nx ‹_› (k_ret ?_)))
    refine FunK.rt (by assumption) rfl ?_
    -- leaf 1
    exact ⟨(x2, c2), congrArg (fun k => Value.slice x2 k c2) (Nat.zero_add l), F, trivial⟩

end Go.Proofs.YtocfmecenpeoiaaGreat
