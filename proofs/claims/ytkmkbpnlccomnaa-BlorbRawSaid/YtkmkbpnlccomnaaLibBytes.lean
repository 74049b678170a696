/- What the small functions over bytes answer: copies with a mark, likeness. No statement of the seat is proved in this text. -/
import Derived.Test.YtkmkbpnlccomnaaWd
set_option linter.unusedVariables false
set_option linter.unusedSimpArgs false
set_option maxRecDepth 100000
set_option maxHeartbeats 4000000
namespace Go.Proofs.Ytkmkbpnlccomnaa
open GAb Go

def eqS (xs ys : List Int) : Bool := (strOfNums xs).toList == (strOfNums ys).toList
theorem eqS_self (xs : List Int) : eqS xs xs = true := by unfold eqS; exact beq_self_eq_true _

theorem same_call {σ : AState} {a b : Option Addr} {l c m d : Nat} {xs ys : List Int} (h1 : Old E0 σ a l c 1 (u8l xs)) (h2 : Old E0 σ b m d 1 (u8l ys)) :
    SCall Try.prog E0 21 [.slice a l c, .slice b m d] σ (Ret E0 σ (fun (_ : Unit) => .bool (irr (eqS xs ys))) (fun _ => []) fun _ => True) := by
  refine k_fun Try.func21 rfl (m := 10) rfl fun B hD Q K => ?_
  have F := Facts.nil E0 σ
  refine k_seq (fun Q K => ?_)
  refine k_lin (fun W K => ?_)
  refine l_op 0 rfl rfl rfl rfl rfl ?_
  refine l_nil (WK.nx (by assumption) ?_)
  refine SeqK.nx (by assumption) ?_
  refine k_seq (fun Q K => ?_)
  refine k_lin (fun W K => ?_)
  refine l_op 0 rfl rfl rfl rfl rfl ?_
  refine l_str rfl rfl rfl rfl rfl (F.old h1) ?_
  refine l_op 0 rfl rfl rfl rfl rfl ?_
  refine l_str rfl rfl rfl rfl rfl (F.old h2) ?_
  refine l_cmp rfl rfl rfl rfl ?_
  refine l_op 0 rfl rfl rfl rfl rfl ?_
  refine l_nil (WK.nx (by assumption) ?_)
  refine SeqK.nx (by assumption) ?_
  refine k_ret ?_
  refine FunK.rt (by assumption) rfl ?_
  -- leaf 1
  exact ⟨(), rfl, F, trivial⟩

/-- A copy with a mark behind it. -/
theorem lent_call {σ : AState} {a : Option Addr} {l c : Nat} {xs : List Int} (h1 : Old E0 σ a l c 1 (u8l xs)) (hl : l ≤ 1000000) :
    SCall Try.prog E0 11 [.slice a l c] σ (Ret E0 σ (fun (y : Option Addr × Nat) => .slice y.1 l y.2) (fun y => [own y.1 (l + 1) y.2 1 (u8l (xs ++ [77]))]) fun _ => True) := by
  have hxl := h1.len8
  refine k_fun Try.func11 rfl (m := 14) rfl fun B hD Q K => ?_
  have F := Facts.nil E0 σ
  refine k_seq (fun Q K => ?_)
  refine k_lin (fun W K => ?_)
  refine l_op 0 rfl rfl rfl rfl rfl ?_
  refine l_nil (WK.nx (by assumption) ?_)
  refine SeqK.nx (by assumption) ?_
  refine k_seq (fun Q K => ?_)
  refine k_lin (fun W K => ?_)
  refine l_lit F rfl rfl rfl rfl (fun q4 s F => ?_)
  (try dsimp only [n_1, n_2, n_3, n_4, List.append_nil, pk, n_5, n_6] at F)
  refine l_op 0 rfl rfl rfl rfl rfl ?_
  refine l_appi (xs := []) F 0 rfl rfl rfl rfl rfl rfl rfl (F.old h1) rfl (by omega) hD (fun x2 c2 s F => ?_)
  (try dsimp only [n_1, n_2, n_3, n_4, List.append_nil, pk, n_5, n_6] at F)
  refine l_op 0 rfl rfl rfl rfl rfl ?_
  refine l_nil (WK.nx (by assumption) ?_)
  refine SeqK.nx (by assumption) ?_
  refine k_seq (fun Q K => ?_)
  refine k_lin (fun W K => ?_)
  refine l_op 0 rfl rfl rfl rfl rfl ?_
  refine l_lit F rfl rfl rfl rfl (fun q8 s F => ?_)
  (try dsimp only [n_1, n_2, n_3, n_4, List.append_nil, pk, n_5, n_6] at F)
  refine l_appi F 0 rfl rfl rfl rfl rfl rfl rfl (ys := [77]) (F.has 1 rfl) rfl (by omega) hD (fun x4 c4 s F => ?_)
  (try dsimp only [n_1, n_2, n_3, n_4, List.append_nil, pk, n_5, n_6] at F)
  refine l_op 0 rfl rfl rfl rfl rfl ?_
  refine l_nil (WK.nx (by assumption) ?_)
  refine SeqK.nx (by assumption) ?_
  refine k_seq (fun Q K => ?_)
  refine k_lin (fun W K => ?_)
  refine l_op 0 rfl rfl rfl rfl rfl ?_
  refine l_op 0 rfl rfl rfl rfl rfl ?_
  first | refine l_op 2 rfl rfl rfl rfl rfl ?_ | refine l_ln rfl rfl rfl rfl ?_
  first | refine l_slh rfl rfl rfl rfl rfl ⟨rfl, _, _, rfl, by omega, rfl⟩ (F.old (by assumption)) (by omega) ?_ | refine l_slh rfl rfl rfl rfl rfl ⟨rfl, _, _, rfl, by omega, rfl⟩ (F.has 0 rfl) (by omega) ?_ | refine l_slh rfl rfl rfl rfl rfl ⟨rfl, _, _, rfl, by omega, rfl⟩ (F.has 1 rfl) (by omega) ?_ | refine l_slh rfl rfl rfl rfl rfl ⟨rfl, _, _, rfl, by omega, rfl⟩ (F.has 2 rfl) (by omega) ?_ | refine l_slh rfl rfl rfl rfl rfl ⟨rfl, _, _, rfl, by omega, rfl⟩ (F.has 3 rfl) (by omega) ?_
  refine l_op 0 rfl rfl rfl rfl rfl ?_
  refine l_nil (WK.nx (by assumption) ?_)
  refine SeqK.nx (by assumption) ?_
  refine k_ret ?_
  refine FunK.rt (by assumption) rfl ?_
  -- leaf 1
  refine ⟨(x4, c4), ?_, ?_, trivial⟩
  · exact congrArg (fun k => Value.slice x4 k c4) (by omega)
  · have := F.pick [0] (by decide)
    rw [Nat.zero_add] at this
    exact this

/-- Is it as it was, and the mark? -/
theorem kept_call {σ : AState} {a b : Option Addr} {l c m d : Nat} {xs : List Int} (h1 : Old E0 σ a (l + 1) c 1 (u8l (xs ++ [77]))) (h2 : Old E0 σ b m d 1 (u8l xs)) (hlm : l = m) (hl : l ≤ 1000000) :
    SCall Try.prog E0 16 [.slice a l c, .slice b m d] σ (Ret E0 σ (fun (_ : Unit) => .bool true) (fun _ => []) fun _ => True) := by
  have hxl := h2.len8
  have h3 : Old E0 σ a l c 1 (u8l xs) := by
    have := h1.upto8 (hi := l) (by omega)
    rw [List.take_append_of_le_length (by omega), List.take_of_length_le (by omega)] at this
    exact this
  refine k_fun Try.func16 rfl (m := 22) rfl fun B hD Q K => ?_
  have F := Facts.nil E0 σ
  refine k_seq (fun Q K => ?_)
  refine k_lin (fun W K => ?_)
  refine l_op 0 rfl rfl rfl rfl rfl ?_
  refine l_nil (WK.nx (by assumption) ?_)
  refine SeqK.nx (by assumption) ?_
  refine k_seq (fun Q K => ?_)
  refine k_lin (fun W K => ?_)
  refine l_op 0 rfl rfl rfl rfl rfl ?_
  refine l_str rfl rfl rfl rfl rfl (F.old h3) ?_
  refine l_op 0 rfl rfl rfl rfl rfl ?_
  refine l_str rfl rfl rfl rfl rfl (F.old h2) ?_
  refine l_cmp rfl rfl rfl rfl ?_
  refine l_op 0 rfl rfl rfl rfl rfl ?_
  refine l_guard rfl rfl rfl (fun hc1 => ?_) (fun hc1 => ?_)
  · first | replace hc1 := eq_of_beq ((irr_eq _).symm.trans hc1) | simp only [irr_eq, beq_iff_eq, beq_eq_false_iff_ne, ne_eq, decide_eq_true_eq, decide_eq_false_iff_not] at hc1
    refine l_op 0 rfl rfl rfl rfl rfl ?_
    refine l_op 0 rfl rfl rfl rfl rfl ?_
    first | refine l_op 2 rfl rfl rfl rfl rfl ?_ | refine l_ln rfl rfl rfl rfl ?_
    refine l_a64 rfl rfl rfl (by omega) rfl ?_
    refine l_slh rfl rfl rfl rfl rfl ⟨rfl, _, _, rfl, by omega, rfl⟩ (F.old h1) (by omega) ?_
    have h5 : Old E0 σ a ((m : Int) + 1).toNat c 1 (u8l (xs ++ [77])) := by rw [show ((m : Int) + 1).toNat = l + 1 by omega]; exact h1
    have hlast : (xs ++ [77]).getD ((m : Int).toNat) 0 = 77 := by
      rw [Int.toNat_natCast, ← hxl]
      simp
    refine l_op 0 rfl rfl rfl rfl rfl ?_
    first | refine l_op 2 rfl rfl rfl rfl rfl ?_ | refine l_ln rfl rfl rfl rfl ?_
    refine l_ixi rfl rfl rfl rfl rfl rfl (F.old h5) (by omega) (fun m18 b18 hA18 => ?_)
    rw [hlast] at hA18
    refine l_ld0 rfl rfl rfl rfl rfl (by assumption) ?_
    refine l_cmp rfl rfl rfl rfl ?_
    refine l_op 2 rfl rfl rfl rfl rfl ?_
    refine l_op 0 rfl rfl rfl rfl rfl ?_
    refine l_nil (WK.nx (by assumption) ?_)
    refine SeqK.nx (by assumption) ?_
    refine k_ret ?_
    refine FunK.rt (by assumption) rfl ?_
    -- leaf 1
    exact ⟨(), by simp only [one, irr_eq, BEq.rfl], F, trivial⟩
  exact absurd ((irr_eq _).symm.trans hc1) (by show ¬ eqS xs xs = false; rw [eqS_self]; decide)

/-- Whatever was there is spoilt. -/
theorem spoil_call {O : Nat → Prop} {σ : AState} {a : Option Addr} {l c : Nat} {xs : List Int} (F : Facts O σ σ [own a l c 1 (u8l xs)]) (hl : l ≤ 100000000) :
    SCall Try.prog O 24 [.slice a l c] σ (Ret O σ (fun (_ : List Int) => .tuple #[]) (fun y => [own a l c 1 (u8l y)]) fun _ => True) := by
  refine k_fun Try.func24 rfl (m := 12) rfl fun B hD Q K => ?_
  refine k_seq (fun Q K => ?_)
  refine k_lin (fun W K => ?_)
  refine l_op 0 rfl rfl rfl rfl rfl ?_
  refine l_nil (WK.nx (by assumption) ?_)
  refine SeqK.nx (by assumption) ?_
  refine k_block (fun Q K => ?_)
  refine k_loop (α := Int × List Int) (fun ⟨i, y⟩ s => Facts O σ s [own a l c 1 (u8l y)] ∧ 0 ≤ i) (fun ⟨i, y⟩ => [(0, .slice a l c), (2, .int .i64 i)]) (fun ⟨i, _⟩ => (l - i).toNat) (0, xs) ⟨F, by omega⟩ (by repeat (first | exact trivial | refine And.intro rfl ?_)) ?_
  clear F
  rintro ⟨i, y⟩ env s Q K0 ⟨F, h0⟩
  refine k_seq (fun Q K => ?_)
  refine k_seq (fun Q K => ?_)
  refine k_lin (fun W K => ?_)
  refine l_op 0 rfl rfl rfl rfl rfl ?_
  refine l_op 0 rfl rfl rfl rfl rfl ?_
  first | refine l_op 2 rfl rfl rfl rfl rfl ?_ | refine l_ln rfl rfl rfl rfl ?_
  refine l_cmp rfl rfl rfl rfl ?_
  refine l_nil (WK.nx (by assumption) ?_)
  refine SeqK.nx (by assumption) ?_
  refine l_cond rfl rfl (fun hc1 => ?_) (fun hc1 => ?_)
  · replace hc1 := of_decide_eq_true ((irr_eq _).symm.trans hc1)
    refine k_skip ?_
    refine SeqK.nx (by assumption) ?_
    refine k_seq (fun Q K => ?_)
    refine k_block (fun Q K => ?_)
    refine k_lin (fun W K => ?_)
    refine l_op 0 rfl rfl rfl rfl rfl ?_
    refine l_op 0 rfl rfl rfl rfl rfl ?_
    first | refine l_ixi rfl rfl rfl rfl rfl rfl (F.old (by assumption)) (by omega) (fun m11 b11 hA11 => ?_) | (refine l_ixoi F 0 rfl rfl rfl rfl rfl rfl rfl (by omega) (fun m e ha hA11 => ?_); cases ha) | (refine l_ixoi F 1 rfl rfl rfl rfl rfl rfl rfl (by omega) (fun m e ha hA11 => ?_); cases ha) | (refine l_ixoi F 2 rfl rfl rfl rfl rfl rfl rfl (by omega) (fun m e ha hA11 => ?_); cases ha) | (refine l_ixoi F 3 rfl rfl rfl rfl rfl rfl rfl (by omega) (fun m e ha hA11 => ?_); cases ha)
    refine l_stoi F 0 rfl rfl rfl rfl rfl rfl rfl (by omega) hD (fun s F => ?_)
    (try dsimp only [n_1, n_2, n_3, n_4, List.append_nil, pk, n_5, n_6] at F)
    refine l_nil (WK.nx (by assumption) ?_)
    refine BlkK.nx (by assumption) ?_
    refine SeqK.nx (by assumption) ?_
    refine k_lin (fun W K => ?_)
    refine l_op 0 rfl rfl rfl rfl rfl ?_
    refine l_a64 rfl rfl rfl (by omega) rfl ?_
    refine l_op 0 rfl rfl rfl rfl rfl ?_
    refine l_nil (WK.nx (by assumption) ?_)
    exact K0.nx (i + 1, _) (by repeat (first | exact trivial | refine And.intro rfl ?_)) ⟨F, by omega⟩ (by first | omega | (simp only; omega))
  replace hc1 := of_decide_eq_false ((irr_eq _).symm.trans hc1)
  refine k_exit ?_
  refine SeqK.et (by assumption) ?_
  refine LoopK.et (by assumption) ?_
  refine BlkK.et (by assumption) ?_
  refine FunK.nx (by assumption) rfl ?_
  -- leaf 1
  exact ⟨_, rfl, F, trivial⟩

theorem Has.none {σ : AState} {l c es : Nat} {vs : List Value} (h : Has σ none l c es vs) : l = 0 ∧ c = 0 ∧ vs = [] := by
  obtain ⟨zs, h1, h2⟩ := h
  rcases h1 with ⟨_, rfl, rfl, rfl⟩ | ⟨n, o, e, h, _⟩
  · exact ⟨rfl, rfl, by rw [← h2]; simp⟩
  · cases h

/-- A copy of one's own. -/
theorem clone_call {σ : AState} {a : Option Addr} {l c : Nat} {xs : List Int} (h1 : Old E0 σ a l c 1 (u8l xs)) (hl : l ≤ 1000000000) :
    SCall Try.prog E0 35 [.slice a l c] σ (Ret E0 σ (fun (y : Option Addr × Nat) => .slice y.1 l y.2) (fun y => [own y.1 l y.2 1 (u8l xs)]) fun _ => True) := by
  have hxl := h1.len8
  have F := Facts.nil E0 σ
  cases a with
  | none =>
    obtain ⟨rfl, rfl, hxs⟩ := Has.none h1.1
    obtain rfl : xs = [] := List.eq_nil_of_length_eq_zero hxl
    refine k_fun Try.func35 rfl (m := 8) rfl fun B hD Q K => ?_
    refine k_seq (fun Q K => ?_)
    refine k_lin (fun W K => ?_)
    refine l_op 0 rfl rfl rfl rfl rfl ?_
    refine l_nil (WK.nx (by assumption) ?_)
    refine SeqK.nx (by assumption) ?_
    refine k_seq (fun Q K => ?_)
    refine k_seq (fun Q K => ?_)
    refine k_lin (fun W K => ?_)
    refine l_op 0 rfl rfl rfl rfl rfl ?_
    refine l_cmp rfl rfl rfl rfl ?_
    refine l_nil (WK.nx (by assumption) ?_)
    refine SeqK.nx (by assumption) ?_
    refine l_cond rfl rfl (fun hc1 => ?_) (fun hc1 => ?_)
    · first | replace hc1 := eq_of_beq ((irr_eq _).symm.trans hc1) | simp only [irr_eq, beq_iff_eq, beq_eq_false_iff_ne, ne_eq, decide_eq_true_eq, decide_eq_false_iff_not] at hc1
      refine k_seq (fun Q K => ?_)
      refine k_lin (fun W K => ?_)
      refine l_op 0 rfl rfl rfl rfl rfl ?_
      refine l_nil (WK.nx (by assumption) ?_)
      refine SeqK.nx (by assumption) ?_
      refine k_ret ?_
      refine SeqK.rt (by assumption) ?_
      refine FunK.rt (by assumption) rfl ?_
      -- leaf 1
      exact ⟨(none, 0), rfl, F.nilrow 1, trivial⟩
    exact absurd ((irr_eq _).symm.trans hc1) (by decide)
  | some p =>
    refine k_fun Try.func35 rfl (m := 8) rfl fun B hD Q K => ?_
    refine k_seq (fun Q K => ?_)
    refine k_lin (fun W K => ?_)
    refine l_op 0 rfl rfl rfl rfl rfl ?_
    refine l_nil (WK.nx (by assumption) ?_)
    refine SeqK.nx (by assumption) ?_
    refine k_seq (fun Q K => ?_)
    refine k_seq (fun Q K => ?_)
    refine k_lin (fun W K => ?_)
    refine l_op 0 rfl rfl rfl rfl rfl ?_
    refine l_cmp rfl rfl rfl rfl ?_
    refine l_nil (WK.nx (by assumption) ?_)
    refine SeqK.nx (by assumption) ?_
    refine l_cond rfl rfl (fun hc1 => ?_) (fun hc1 => ?_)
    · exact absurd ((irr_eq _).symm.trans hc1) (by decide)
    first | replace hc1 := ne_of_beq_false ((irr_eq _).symm.trans hc1) | simp only [irr_eq, beq_iff_eq, beq_eq_false_iff_ne, ne_eq, decide_eq_true_eq, decide_eq_false_iff_not] at hc1
    refine k_skip ?_
    refine SeqK.nx (by assumption) ?_
    refine k_seq (fun Q K => ?_)
    refine k_lin (fun W K => ?_)
    refine l_lit F rfl rfl rfl rfl (fun q5 s F => ?_)
    (try dsimp only [n_1, n_2, n_3, n_4, List.append_nil, pk, n_5, n_6] at F)
    refine l_op 0 rfl rfl rfl rfl rfl ?_
    refine l_appi (xs := []) F 0 rfl rfl rfl rfl rfl rfl rfl (F.old h1) rfl (by omega) hD (fun x2 c2 s F => ?_)
    (try dsimp only [n_1, n_2, n_3, n_4, List.append_nil, pk, n_5, n_6] at F)
    rw [Nat.zero_add] at F
    refine l_op 0 rfl rfl rfl rfl rfl ?_
    refine l_nil (WK.nx (by assumption) ?_)
    refine SeqK.nx (by assumption) ?_
    refine k_ret ?_
    refine FunK.rt (by assumption) rfl ?_
    -- leaf 1
    exact ⟨(x2, c2), congrArg (fun k => Value.slice x2 k c2) (Nat.zero_add l), F, trivial⟩

end Go.Proofs.Ytkmkbpnlccomnaa
