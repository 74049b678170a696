/- How a function begins, by the program and by the document, and the law of it. No statement of the seat is proved in this text. -/
import Derived.Test.YtkemnodaadlonaaFmtA
import Derived.Test.YtkemnodaadlonaaLibBe
import Derived.Test.YtkemnodaadlonaaLibBytes
import Derived.Test.YtkemnodaadlonaaLive
set_option linter.unusedVariables false
set_option linter.unusedSimpArgs false
set_option maxRecDepth 100000
set_option maxHeartbeats 4000000
namespace Go.Proofs.Ytkemnodaadlonaa
open GAb Go

/-- Up to the first pair of zeros. -/
theorem pr_z {d : List Int} {i : Nat} (hi : i + 1 < d.length) (he : i % 2 = 0) (h0 : d.getD i 0 = 0 ∧ d.getD (i + 1) 0 = 0) (hb : ∀ j, j < i → j % 2 = 0 → ¬ (d.getD j 0 = 0 ∧ d.getD (j + 1) 0 = 0)) :
    ∀ (n k : Nat), i - k ≤ n → k ≤ i → k % 2 = 0 → pr k ((d.take (i + 2)).drop k) = pr k (d.drop k) ∧ (pr k (d.drop k) = 0 ∨ pr k (d.drop k) = i + 2) := by
  have hg : ∀ j, j ≤ i + 1 → (d.take (i + 2)).getD j 0 = d.getD j 0 := fun j hj => by simp [List.getD, List.getElem?_take, show j < i + 2 by omega]
  have fin : pr i ((d.take (i + 2)).drop i) = pr i (d.drop i) ∧ (pr i (d.drop i) = 0 ∨ pr i (d.drop i) = i + 2) := by
    have e1 : pr i ((d.take (i + 2)).drop i) = i + 2 := by rw [pr_at (by simp; omega), hg i (by omega), hg (i + 1) (by omega), if_pos h0]
    have e2 : pr i (d.drop i) = i + 2 := by rw [pr_at hi, if_pos h0]
    exact ⟨e1.trans e2.symm, .inr e2⟩
  intro n
  induction n with
  | zero =>
    intro k hk hki hke
    obtain rfl : k = i := by omega
    exact fin
  | succ n ih =>
    intro k hk hki hke
    by_cases hkk : k = i
    · subst hkk; exact fin
    · rw [pr_at (show k + 1 < (d.take (i + 2)).length by rw [List.length_take]; omega), pr_at (show k + 1 < d.length by omega), hg k (by omega), hg (k + 1) (by omega), if_neg (hb k (by omega) hke), if_neg (hb k (by omega) hke)]
      split
      · exact ⟨rfl, .inl rfl⟩
      · exact ih (k + 2) (by omega) (by omega) (by omega)
theorem pr_nz {d : List Int} (hb : ∀ j, j + 1 < d.length → j % 2 = 0 → ¬ (d.getD j 0 = 0 ∧ d.getD (j + 1) 0 = 0)) : ∀ (n k : Nat), d.length - k ≤ n → k % 2 = 0 → pr k (d.drop k) = 0 := by
  intro n
  induction n with
  | zero => intro k hk _; exact pr_end (by omega)
  | succ n ih =>
    intro k hk hke
    by_cases hl : k + 1 < d.length
    · rw [pr_at hl, if_neg (hb k hl hke)]
      split
      · rfl
      · exact ih (k + 2) (by omega) (by omega)
    · exact pr_end (by omega)

def headR (bs : List Int) (at_ : Int) : Int × List Int × Int × Int :=
  if at_ < 0 then (0, [], 0, 1) else if at_ + 1 > bs.length then (0, [], 0, 90)
  else if bs.getD at_.toNat 0 ≠ 192 ∧ bs.getD at_.toNat 0 ≠ 193 then (0, [], 0, 112)
  else if pr 0 (bs.drop (at_ + 1).toNat) = 0 then (0, [], 0, 112)
  else (bs.getD at_.toNat 0, (bs.drop (at_ + 1).toNat).take (pr 0 (bs.drop (at_ + 1).toNat)).toNat, 1 + pr 0 (bs.drop (at_ + 1).toNat), 0)
abbrev headV (r : Int × List Int × Int × Int) (y : Option Addr × Nat) : Value := .tuple #[.int .i64 r.1, .slice y.1 r.2.1.length y.2, .int .i64 r.2.2.1, .int .i64 r.2.2.2]

theorem be1_ok {bs : List Int} {at_ : Int} (h0 : 0 ≤ at_) (h : (beR bs at_ 1).2 = 0) : at_ + 1 ≤ bs.length ∧ (beR bs at_ 1).1 = bs.getD at_.toNat 0 := by
  unfold beR at h ⊢
  rw [if_neg (by omega)] at h ⊢
  split at h
  · cases h
  · rename_i h2
    rw [if_neg h2]
    exact ⟨by omega, by simp [be]⟩
theorem be1_no {bs : List Int} {at_ : Int} (h0 : 0 ≤ at_) (h : (beR bs at_ 1).2 ≠ 0) : at_ + 1 > bs.length := by
  unfold beR at h
  rw [if_neg (by omega)] at h
  split at h
  · assumption
  · exact (h rfl).elim
theorem locR_e (f : List Int) : (locR f).2.2 = 0 ↔ (pr 0 f ≠ 0 ∧ pr 0 f = f.length) := by
  unfold locR
  split
  · rename_i h; constructor
    · intro h2; cases h2
    · intro h2; omega
  · rename_i h; constructor
    · intro _; omega
    · intro _; rfl
/-- No pair of zeros up to a place. -/
def NoZ (d : List Int) (k : Int) : Prop := ∀ j : Nat, (j : Int) < k → j % 2 = 0 → ¬ (d.getD j 0 = 0 ∧ d.getD (j + 1) 0 = 0)

theorem head_call {σ : AState} {a : Option Addr} {l c : Nat} {bs : List Int} {at_ : Int} (h : Old E0 σ a l c 1 (u8l bs)) (hB : Bytes bs) (hl : l ≤ 20000) :
    SCall Try.prog E0 19 [.slice a l c, .int .i64 at_] σ (Ret E0 σ (headV (headR bs at_)) (fun y => [own y.1 (headR bs at_).2.1.length y.2 1 (u8l (headR bs at_).2.1)]) fun _ => True) := by
  have hbl := h.len8
  refine k_fun Try.func19 rfl (m := 72) rfl fun B hD Q K => ?_
  have F := (Facts.nil E0 σ).nilrow 1
  refine k_seq (fun Q K => ?_)
  refine k_lin (fun W K => ?_)
  refine l_op 0 rfl rfl rfl rfl rfl ?_
  refine l_op 0 rfl rfl rfl rfl rfl ?_
  refine l_op 0 rfl rfl rfl rfl rfl ?_
  refine l_op 0 rfl rfl rfl rfl rfl ?_
  refine l_nil (WK.nx (by assumption) ?_)
  refine SeqK.nx (by assumption) ?_
  refine k_seq (fun Q K => ?_)
  refine k_seq (fun Q K => ?_)
  refine k_lin (fun W K => ?_)
  refine l_op 0 rfl rfl rfl rfl rfl ?_
  refine l_cmp rfl rfl rfl rfl ?_
  refine l_nil (WK.nx (by assumption) ?_)
  refine SeqK.nx (by assumption) ?_
  refine l_cond rfl rfl (fun hc1 => ?_) (fun hc1 => ?_)
  · replace hc1 := of_decide_eq_true ((irr_eq _).symm.trans hc1)
    refine k_seq (fun Q K => ?_)
    refine k_lin (fun W K => ?_)
    refine l_op 0 rfl rfl rfl rfl rfl ?_
    refine l_op 0 rfl rfl rfl rfl rfl ?_
    refine l_op 0 rfl rfl rfl rfl rfl ?_
    refine l_op 0 rfl rfl rfl rfl rfl ?_
    refine l_nil (WK.nx (by assumption) ?_)
    refine SeqK.nx (by assumption) ?_
    refine k_ret ?_
    refine SeqK.rt (by assumption) ?_
    refine FunK.rt (by assumption) rfl ?_
    -- leaf 1
    first
      | (have hr : headR bs at_ = (0, [], 0, 1) := if_pos (by omega)
         rw [hr]; exact ⟨(none, 0), rfl, F.pick [0] (by decide), trivial⟩)
      | (have hr : headR bs at_ = (0, [], 0, 90) := by
           have := be1_no (by omega) hc2
           unfold headR; rw [if_neg (by omega), if_pos this]
         rw [hr]; exact ⟨(none, 0), rfl, F.pick [0] (by decide), trivial⟩)
      | (have hr : headR bs at_ = (0, [], 0, 112) := by
           unfold headR; rw [if_neg (by omega), if_neg (by omega), if_pos (by omega)]
         rw [hr]; exact ⟨(none, 0), rfl, F.pick [0] (by decide), trivial⟩)
      | (have hr : headR bs at_ = (0, [], 0, 112) := by
           unfold headR; rw [if_neg (by omega), if_neg (by omega), if_neg (by omega), if_pos (hz (by assumption))]
         rw [hr]; exact ⟨(none, 0), rfl, F.pick [0] (by decide), trivial⟩)
      | (have hok' := hok (by assumption); omega)
      | (obtain ⟨e1, e2⟩ := hok (by assumption)
         have hr : headR bs at_ = ((beR bs at_ 1).1, (bs.drop (at_ + 1).toNat).take ((q + 2).toNat - (at_ + 1).toNat), 1 + (((q + 2).toNat - (at_ + 1).toNat : Nat) : Int), 0) := by
           unfold headR; rw [if_neg (by omega), if_neg (by omega), if_neg (by omega), if_neg (by rw [e1]; omega), e1, Int.toNat_natCast, hv]
         have hl' : ((bs.drop (at_ + 1).toNat).take ((q + 2).toNat - (at_ + 1).toNat)).length = (q + 2).toNat - (at_ + 1).toNat := by rw [List.length_take, List.length_drop]; omega
         have F' := F.pick [1] (by decide)
         rw [hr]
         refine ⟨y, ?_, ?_, trivial⟩
         · show _ = Value.tuple #[.int .i64 _, .slice y.1 (List.length _) y.2, _, _]
           rw [hl']; rfl
         · show Facts _ _ _ [own y.1 (List.length _) y.2 1 _]
           rw [hl']; exact F')
  · replace hc1 := of_decide_eq_false ((irr_eq _).symm.trans hc1)
    refine k_skip ?_
    refine SeqK.nx (by assumption) ?_
    refine k_seq (fun Q K => ?_)
    refine k_lin (fun W K => ?_)
    refine l_op 0 rfl rfl rfl rfl rfl ?_
    refine l_op 0 rfl rfl rfl rfl rfl ?_
    refine l_callp F rfl rfl (by kernel_rfl) rfl rfl (wbe_call (Old.pure (F.old h)) hB (by omega)) (fun _ s F _ => ?_)
    (try dsimp only [List.set_cons_zero, List.set_cons_succ, List.cons_append, List.nil_append, List.append_nil, pk, List.getElem?_cons_zero, List.getElem?_cons_succ] at F)
    refine l_op 0 rfl rfl rfl rfl rfl ?_
    refine l_op 2 rfl rfl rfl rfl rfl ?_
    refine l_op 2 rfl rfl rfl rfl rfl ?_
    refine l_op 0 rfl rfl rfl rfl rfl ?_
    refine l_op 0 rfl rfl rfl rfl rfl ?_
    refine l_nil (WK.nx (by assumption) ?_)
    refine SeqK.nx (by assumption) ?_
    refine k_seq (fun Q K => ?_)
    refine k_seq (fun Q K => ?_)
    refine k_lin (fun W K => ?_)
    refine l_op 0 rfl rfl rfl rfl rfl ?_
    refine l_cmp rfl rfl rfl rfl ?_
    refine l_nil (WK.nx (by assumption) ?_)
    refine SeqK.nx (by assumption) ?_
    refine l_cond rfl rfl (fun hc2 => ?_) (fun hc2 => ?_)
    · first | replace hc2 := bne_iff_ne.1 ((irr_eq _).symm.trans hc2) | simp only [irr_eq, bne_iff_ne, bne_eq_false_iff_eq, ne_eq, decide_eq_true_eq, decide_eq_false_iff_not, Bool.not_eq_true', Bool.not_eq_false'] at hc2
      refine k_seq (fun Q K => ?_)
      refine k_lin (fun W K => ?_)
      refine l_op 0 rfl rfl rfl rfl rfl ?_
      refine l_op 0 rfl rfl rfl rfl rfl ?_
      refine l_op 0 rfl rfl rfl rfl rfl ?_
      refine l_op 0 rfl rfl rfl rfl rfl ?_
      refine l_nil (WK.nx (by assumption) ?_)
      refine SeqK.nx (by assumption) ?_
      refine k_ret ?_
      refine SeqK.rt (by assumption) ?_
      refine FunK.rt (by assumption) rfl ?_
      -- leaf 2
      first
        | (have hr : headR bs at_ = (0, [], 0, 1) := if_pos (by omega)
           rw [hr]; exact ⟨(none, 0), rfl, F.pick [0] (by decide), trivial⟩)
        | (have hr : headR bs at_ = (0, [], 0, 90) := by
             have := be1_no (by omega) hc2
             unfold headR; rw [if_neg (by omega), if_pos this]
           rw [hr]; exact ⟨(none, 0), rfl, F.pick [0] (by decide), trivial⟩)
        | (have hr : headR bs at_ = (0, [], 0, 112) := by
             unfold headR; rw [if_neg (by omega), if_neg (by omega), if_pos (by omega)]
           rw [hr]; exact ⟨(none, 0), rfl, F.pick [0] (by decide), trivial⟩)
        | (have hr : headR bs at_ = (0, [], 0, 112) := by
             unfold headR; rw [if_neg (by omega), if_neg (by omega), if_neg (by omega), if_pos (hz (by assumption))]
           rw [hr]; exact ⟨(none, 0), rfl, F.pick [0] (by decide), trivial⟩)
        | (have hok' := hok (by assumption); omega)
        | (obtain ⟨e1, e2⟩ := hok (by assumption)
           have hr : headR bs at_ = ((beR bs at_ 1).1, (bs.drop (at_ + 1).toNat).take ((q + 2).toNat - (at_ + 1).toNat), 1 + (((q + 2).toNat - (at_ + 1).toNat : Nat) : Int), 0) := by
             unfold headR; rw [if_neg (by omega), if_neg (by omega), if_neg (by omega), if_neg (by rw [e1]; omega), e1, Int.toNat_natCast, hv]
           have hl' : ((bs.drop (at_ + 1).toNat).take ((q + 2).toNat - (at_ + 1).toNat)).length = (q + 2).toNat - (at_ + 1).toNat := by rw [List.length_take, List.length_drop]; omega
           have F' := F.pick [1] (by decide)
           rw [hr]
           refine ⟨y, ?_, ?_, trivial⟩
           · show _ = Value.tuple #[.int .i64 _, .slice y.1 (List.length _) y.2, _, _]
             rw [hl']; rfl
           · show Facts _ _ _ [own y.1 (List.length _) y.2 1 _]
             rw [hl']; exact F')
    · first | replace hc2 := bne_eq_false_iff_eq.1 ((irr_eq _).symm.trans hc2) | simp only [irr_eq, bne_iff_ne, bne_eq_false_iff_eq, ne_eq, decide_eq_true_eq, decide_eq_false_iff_not, Bool.not_eq_true', Bool.not_eq_false'] at hc2
      obtain ⟨hlen, hv⟩ := be1_ok (by omega) hc2
      have hat := hB.at at_.toNat
      rw [← hv] at hat
      refine k_skip ?_
      refine SeqK.nx (by assumption) ?_
      refine k_seq (fun Q K => ?_)
      refine k_seq (fun Q K => ?_)
      refine k_lin (fun W K => ?_)
      refine l_op 0 rfl rfl rfl rfl rfl ?_
      refine l_cmp rfl rfl rfl rfl ?_
      refine l_op 0 rfl rfl rfl rfl rfl ?_
      refine l_guard rfl rfl rfl (fun hc3 => ?_) (fun hc3 => ?_)
      · first | replace hc3 := bne_iff_ne.1 ((irr_eq _).symm.trans hc3) | simp only [irr_eq, bne_iff_ne, bne_eq_false_iff_eq, ne_eq, decide_eq_true_eq, decide_eq_false_iff_not, Bool.not_eq_true', Bool.not_eq_false'] at hc3
        refine l_op 0 rfl rfl rfl rfl rfl ?_
        refine l_cmp rfl rfl rfl rfl ?_
        refine l_op 2 rfl rfl rfl rfl rfl ?_
        refine l_nil (WK.nx (by assumption) ?_)
        refine SeqK.nx (by assumption) ?_
        refine l_cond rfl rfl (fun hc4 => ?_) (fun hc4 => ?_)
        · first | replace hc4 := bne_iff_ne.1 ((irr_eq _).symm.trans hc4) | simp only [irr_eq, bne_iff_ne, bne_eq_false_iff_eq, ne_eq, decide_eq_true_eq, decide_eq_false_iff_not, Bool.not_eq_true', Bool.not_eq_false'] at hc4
          refine k_seq (fun Q K => ?_)
          refine k_lin (fun W K => ?_)
          refine l_op 0 rfl rfl rfl rfl rfl ?_
          refine l_op 0 rfl rfl rfl rfl rfl ?_
          refine l_op 0 rfl rfl rfl rfl rfl ?_
          refine l_op 0 rfl rfl rfl rfl rfl ?_
          refine l_nil (WK.nx (by assumption) ?_)
          refine SeqK.nx (by assumption) ?_
          refine k_ret ?_
          refine SeqK.rt (by assumption) ?_
          refine FunK.rt (by assumption) rfl ?_
          -- leaf 3
          first
            | (have hr : headR bs at_ = (0, [], 0, 1) := if_pos (by omega)
               rw [hr]; exact ⟨(none, 0), rfl, F.pick [0] (by decide), trivial⟩)
            | (have hr : headR bs at_ = (0, [], 0, 90) := by
                 have := be1_no (by omega) hc2
                 unfold headR; rw [if_neg (by omega), if_pos this]
               rw [hr]; exact ⟨(none, 0), rfl, F.pick [0] (by decide), trivial⟩)
            | (have hr : headR bs at_ = (0, [], 0, 112) := by
                 unfold headR; rw [if_neg (by omega), if_neg (by omega), if_pos (by omega)]
               rw [hr]; exact ⟨(none, 0), rfl, F.pick [0] (by decide), trivial⟩)
            | (have hr : headR bs at_ = (0, [], 0, 112) := by
                 unfold headR; rw [if_neg (by omega), if_neg (by omega), if_neg (by omega), if_pos (hz (by assumption))]
               rw [hr]; exact ⟨(none, 0), rfl, F.pick [0] (by decide), trivial⟩)
            | (have hok' := hok (by assumption); omega)
            | (obtain ⟨e1, e2⟩ := hok (by assumption)
               have hr : headR bs at_ = ((beR bs at_ 1).1, (bs.drop (at_ + 1).toNat).take ((q + 2).toNat - (at_ + 1).toNat), 1 + (((q + 2).toNat - (at_ + 1).toNat : Nat) : Int), 0) := by
                 unfold headR; rw [if_neg (by omega), if_neg (by omega), if_neg (by omega), if_neg (by rw [e1]; omega), e1, Int.toNat_natCast, hv]
               have hl' : ((bs.drop (at_ + 1).toNat).take ((q + 2).toNat - (at_ + 1).toNat)).length = (q + 2).toNat - (at_ + 1).toNat := by rw [List.length_take, List.length_drop]; omega
               have F' := F.pick [1] (by decide)
               rw [hr]
               refine ⟨y, ?_, ?_, trivial⟩
               · show _ = Value.tuple #[.int .i64 _, .slice y.1 (List.length _) y.2, _, _]
                 rw [hl']; rfl
               · show Facts _ _ _ [own y.1 (List.length _) y.2 1 _]
                 rw [hl']; exact F')
        · first | replace hc4 := bne_eq_false_iff_eq.1 ((irr_eq _).symm.trans hc4) | simp only [irr_eq, bne_iff_ne, bne_eq_false_iff_eq, ne_eq, decide_eq_true_eq, decide_eq_false_iff_not, Bool.not_eq_true', Bool.not_eq_false'] at hc4
          refine k_skip ?_
          refine SeqK.nx (by assumption) ?_
          refine k_seq (fun Q K => ?_)
          refine k_seq (fun Q K => ?_)
          refine k_lin (fun W K => ?_)
          refine l_op 0 rfl rfl rfl rfl rfl ?_
          first | refine l_a64 rfl rfl rfl (by omega) rfl ?_ | refine l_a32 rfl rfl rfl (by omega) rfl ?_ | refine l_a8 rfl rfl rfl (by omega) rfl ?_ | refine l_au64 rfl rfl rfl (by omega) rfl ?_ | refine l_op 1 rfl rfl rfl rfl rfl ?_
          refine l_op 0 rfl rfl rfl rfl rfl ?_
          refine l_nil (WK.nx (by assumption) ?_)
          refine SeqK.nx (by assumption) ?_
          refine k_block (fun Q K => ?_)
          refine k_loop (α := Int) (fun q s => Facts E0 σ s [own none 0 0 1 []] ∧ at_ + 1 ≤ q ∧ q ≤ l ∧ (q - (at_ + 1)) % 2 = 0 ∧ NoZ (bs.drop (at_ + 1).toNat) (q - (at_ + 1))) (fun q => [(0, .slice a l c), (1, .int .i64 at_), (5, .slice none 0 0), (8, .int .u32 (beR bs at_ 1).1), (9, .int .i64 q)]) (fun q => (l - q).toNat) (at_ + 1) ⟨F.pick [0] (by decide), by omega, by omega, by omega, fun j hj => by omega⟩ (by repeat (first | exact trivial | refine And.intro rfl ?_)) ?_
          clear F
          rintro q env s Q K0 ⟨F, hq, hql, hq2, hnz⟩
          refine k_seq (fun Q K => ?_)
          refine k_seq (fun Q K => ?_)
          refine k_lin (fun W K => ?_)
          refine l_op 0 rfl rfl rfl rfl rfl ?_
          first | refine l_a64 rfl rfl rfl (by omega) rfl ?_ | refine l_a32 rfl rfl rfl (by omega) rfl ?_ | refine l_a8 rfl rfl rfl (by omega) rfl ?_ | refine l_au64 rfl rfl rfl (by omega) rfl ?_ | refine l_op 1 rfl rfl rfl rfl rfl ?_
          refine l_op 0 rfl rfl rfl rfl rfl ?_
          first | refine l_op 2 rfl rfl rfl rfl rfl ?_ | refine l_ln rfl rfl rfl rfl ?_
          refine l_cmp rfl rfl rfl rfl ?_
          refine l_nil (WK.nx (by assumption) ?_)
          refine SeqK.nx (by assumption) ?_
          refine l_cond rfl rfl (fun hc5 => ?_) (fun hc5 => ?_)
          · replace hc5 := of_decide_eq_true ((irr_eq _).symm.trans hc5)
            have g1 := getD_drop bs (at_ + 1).toNat (q - (at_ + 1)).toNat
            have g2 := getD_drop bs (at_ + 1).toNat ((q - (at_ + 1)).toNat + 1)
            have n1 : (at_ + 1).toNat + (q - (at_ + 1)).toNat = q.toNat := by omega
            have n2 : (at_ + 1).toNat + ((q - (at_ + 1)).toNat + 1) = (q + 1).toNat := by omega
            rw [n1] at g1
            rw [n2] at g2
            refine k_skip ?_
            refine SeqK.nx (by assumption) ?_
            refine k_seq (fun Q K => ?_)
            refine k_block (fun Q K => ?_)
            refine k_seq (fun Q K => ?_)
            refine k_lin (fun W K => ?_)
            refine l_op 0 rfl rfl rfl rfl rfl ?_
            refine l_op 0 rfl rfl rfl rfl rfl ?_
            first | refine l_ixi rfl rfl rfl rfl rfl rfl (F.old (by assumption)) (by omega) (fun m40 b40 hA40 => ?_) | (refine l_ixoi F 0 rfl rfl rfl rfl rfl rfl rfl (by omega) (fun m e ha hA40 => ?_); cases ha) | (refine l_ixoi F 1 rfl rfl rfl rfl rfl rfl rfl (by omega) (fun m e ha hA40 => ?_); cases ha) | (refine l_ixoi F 2 rfl rfl rfl rfl rfl rfl rfl (by omega) (fun m e ha hA40 => ?_); cases ha) | (refine l_ixoi F 3 rfl rfl rfl rfl rfl rfl rfl (by omega) (fun m e ha hA40 => ?_); cases ha)
            first | refine l_ld0 rfl rfl rfl rfl rfl (by assumption) ?_ | refine l_ldj rfl rfl rfl rfl rfl rfl (by assumption) rfl ?_ | refine l_ldc F 0 rfl rfl rfl rfl rfl rfl rfl ?_ | refine l_ldc F 1 rfl rfl rfl rfl rfl rfl rfl ?_ | refine l_ldc F 2 rfl rfl rfl rfl rfl rfl rfl ?_ | refine l_ldc F 3 rfl rfl rfl rfl rfl rfl rfl ?_ | refine l_lda rfl rfl rfl rfl rfl (by assumption) ?_ | refine l_ldca F 0 rfl rfl rfl rfl rfl rfl rfl ?_ | refine l_ldca F 1 rfl rfl rfl rfl rfl rfl rfl ?_ | refine l_ldca F 2 rfl rfl rfl rfl rfl rfl rfl ?_ | refine l_ldca F 3 rfl rfl rfl rfl rfl rfl rfl ?_ | refine l_ldo F (by assumption) rfl rfl rfl rfl rfl rfl ?_ | refine l_ldoa F (by assumption) rfl rfl rfl rfl rfl rfl ?_
            refine l_cmp rfl rfl rfl rfl ?_
            refine l_op 0 rfl rfl rfl rfl rfl ?_
            refine l_guard rfl rfl rfl (fun hc6 => ?_) (fun hc6 => ?_)
            · first | replace hc6 := eq_of_beq ((irr_eq _).symm.trans hc6) | simp only [irr_eq, beq_iff_eq, beq_eq_false_iff_ne, ne_eq, decide_eq_true_eq, decide_eq_false_iff_not] at hc6
              refine l_op 0 rfl rfl rfl rfl rfl ?_
              refine l_op 0 rfl rfl rfl rfl rfl ?_
              first | refine l_a64 rfl rfl rfl (by omega) rfl ?_ | refine l_a32 rfl rfl rfl (by omega) rfl ?_ | refine l_a8 rfl rfl rfl (by omega) rfl ?_ | refine l_au64 rfl rfl rfl (by omega) rfl ?_ | refine l_op 1 rfl rfl rfl rfl rfl ?_
              first | refine l_ixi rfl rfl rfl rfl rfl rfl (F.old (by assumption)) (by omega) (fun m47 b47 hA47 => ?_) | (refine l_ixoi F 0 rfl rfl rfl rfl rfl rfl rfl (by omega) (fun m e ha hA47 => ?_); cases ha) | (refine l_ixoi F 1 rfl rfl rfl rfl rfl rfl rfl (by omega) (fun m e ha hA47 => ?_); cases ha) | (refine l_ixoi F 2 rfl rfl rfl rfl rfl rfl rfl (by omega) (fun m e ha hA47 => ?_); cases ha) | (refine l_ixoi F 3 rfl rfl rfl rfl rfl rfl rfl (by omega) (fun m e ha hA47 => ?_); cases ha)
              first | refine l_ld0 rfl rfl rfl rfl rfl (by assumption) ?_ | refine l_ldj rfl rfl rfl rfl rfl rfl (by assumption) rfl ?_ | refine l_ldc F 0 rfl rfl rfl rfl rfl rfl rfl ?_ | refine l_ldc F 1 rfl rfl rfl rfl rfl rfl rfl ?_ | refine l_ldc F 2 rfl rfl rfl rfl rfl rfl rfl ?_ | refine l_ldc F 3 rfl rfl rfl rfl rfl rfl rfl ?_ | refine l_lda rfl rfl rfl rfl rfl (by assumption) ?_ | refine l_ldca F 0 rfl rfl rfl rfl rfl rfl rfl ?_ | refine l_ldca F 1 rfl rfl rfl rfl rfl rfl rfl ?_ | refine l_ldca F 2 rfl rfl rfl rfl rfl rfl rfl ?_ | refine l_ldca F 3 rfl rfl rfl rfl rfl rfl rfl ?_ | refine l_ldo F (by assumption) rfl rfl rfl rfl rfl rfl ?_ | refine l_ldoa F (by assumption) rfl rfl rfl rfl rfl rfl ?_
              refine l_cmp rfl rfl rfl rfl ?_
              refine l_op 2 rfl rfl rfl rfl rfl ?_
              refine l_nil (WK.nx (by assumption) ?_)
              refine SeqK.nx (by assumption) ?_
              refine l_cond rfl rfl (fun hc7 => ?_) (fun hc7 => ?_)
              · first | replace hc7 := eq_of_beq ((irr_eq _).symm.trans hc7) | simp only [irr_eq, beq_iff_eq, beq_eq_false_iff_ne, ne_eq, decide_eq_true_eq, decide_eq_false_iff_not] at hc7
                refine k_seq (fun Q K => ?_)
                refine k_lin (fun W K => ?_)
                refine l_op 0 rfl rfl rfl rfl rfl ?_
                refine l_op 0 rfl rfl rfl rfl rfl ?_
                first | refine l_a64 rfl rfl rfl (by omega) rfl ?_ | refine l_a32 rfl rfl rfl (by omega) rfl ?_ | refine l_a8 rfl rfl rfl (by omega) rfl ?_ | refine l_au64 rfl rfl rfl (by omega) rfl ?_ | refine l_op 1 rfl rfl rfl rfl rfl ?_
                refine l_op 0 rfl rfl rfl rfl rfl ?_
                first | refine l_a64 rfl rfl rfl (by omega) rfl ?_ | refine l_a32 rfl rfl rfl (by omega) rfl ?_ | refine l_a8 rfl rfl rfl (by omega) rfl ?_ | refine l_au64 rfl rfl rfl (by omega) rfl ?_ | refine l_op 1 rfl rfl rfl rfl rfl ?_
                first | refine l_sl rfl rfl rfl rfl rfl rfl rfl rfl ⟨rfl, _, _, rfl, by omega, rfl⟩ (F.old (by assumption)) (by omega) ?_ | refine l_sl rfl rfl rfl rfl rfl rfl rfl rfl ⟨rfl, _, _, rfl, by omega, rfl⟩ (F.has 0 rfl) (by omega) ?_ | refine l_sl rfl rfl rfl rfl rfl rfl rfl rfl ⟨rfl, _, _, rfl, by omega, rfl⟩ (F.has 1 rfl) (by omega) ?_ | refine l_sl rfl rfl rfl rfl rfl rfl rfl rfl ⟨rfl, _, _, rfl, by omega, rfl⟩ (F.has 2 rfl) (by omega) ?_ | refine l_sl rfl rfl rfl rfl rfl rfl rfl rfl ⟨rfl, _, _, rfl, by omega, rfl⟩ (F.has 3 rfl) (by omega) ?_
                have hpz := pr_z (d := bs.drop (at_ + 1).toNat) (i := (q - (at_ + 1)).toNat) (by rw [List.length_drop]; omega) (by omega) ⟨by rw [g1]; assumption, by rw [g2]; assumption⟩ (fun j hj hj2 => hnz j (by omega) hj2) _ 0 (Nat.le_refl _) (by omega) rfl
                rw [List.drop_zero, List.drop_zero, show (q - (at_ + 1)).toNat + 2 = (q + 2).toNat - (at_ + 1).toNat by omega] at hpz
                refine l_callp F rfl rfl (by kernel_rfl) rfl rfl (clone_call (Old.pure ((F.old h).part8 (lo := (at_ + 1).toNat) (hi := (q + 2).toNat) (by omega) (by omega))) (by omega)) (fun y s F _ => ?_)
                have hz : (locR ((bs.drop (at_ + 1).toNat).take ((q + 2).toNat - (at_ + 1).toNat))).2.2 ≠ 0 → pr 0 (bs.drop (at_ + 1).toNat) = 0 := fun hne => by
                  rw [Ne, locR_e] at hne
                  rw [List.length_take, List.length_drop] at hne
                  omega
                have hok : (locR ((bs.drop (at_ + 1).toNat).take ((q + 2).toNat - (at_ + 1).toNat))).2.2 = 0 → pr 0 (bs.drop (at_ + 1).toNat) = ((q + 2).toNat - (at_ + 1).toNat : Nat) ∧ 0 < (q + 2).toNat - (at_ + 1).toNat := fun he => by
                  rw [locR_e, List.length_take, List.length_drop] at he
                  omega
                (try dsimp only [List.set_cons_zero, List.set_cons_succ, List.cons_append, List.nil_append, List.append_nil, pk, List.getElem?_cons_zero, List.getElem?_cons_succ] at F)
                refine l_op 0 rfl rfl rfl rfl rfl ?_
                refine l_nil (WK.nx (by assumption) ?_)
                refine SeqK.nx (by assumption) ?_
                refine k_exit ?_
                refine BlkK.ot (by assumption) rfl ?_
                refine SeqK.et (by assumption) ?_
                refine LoopK.et (by assumption) ?_
                refine BlkK.et (by assumption) ?_
                refine SeqK.nx (by assumption) ?_
                refine k_seq (fun Q K => ?_)
                refine k_seq (fun Q K => ?_)
                refine k_lin (fun W K => ?_)
                refine l_op 0 rfl rfl rfl rfl rfl ?_
                first
                  | refine l_callp F rfl rfl (by kernel_rfl) rfl rfl (locals_call (bs := []) (Old.pure (F.has 0 rfl)) (fun i hi => by cases hi) (by omega)) (fun _ s F _ => ?_)
                  | refine l_callp F rfl rfl (by kernel_rfl) rfl rfl (locals_call (Old.pure (F.has 1 rfl)) ((hB.drop _).take _) (by omega)) (fun _ s F _ => ?_)
                (try dsimp only [List.set_cons_zero, List.set_cons_succ, List.cons_append, List.nil_append, List.append_nil, pk, List.getElem?_cons_zero, List.getElem?_cons_succ] at F)
                refine l_op 0 rfl rfl rfl rfl rfl ?_
                refine l_op 2 rfl rfl rfl rfl rfl ?_
                refine l_op 2 rfl rfl rfl rfl rfl ?_
                refine l_op 2 rfl rfl rfl rfl rfl ?_
                refine l_op 0 rfl rfl rfl rfl rfl ?_
                refine l_op 0 rfl rfl rfl rfl rfl ?_
                refine l_op 0 rfl rfl rfl rfl rfl ?_
                refine l_nil (WK.nx (by assumption) ?_)
                refine SeqK.nx (by assumption) ?_
                refine k_seq (fun Q K => ?_)
                refine k_lin (fun W K => ?_)
                refine l_op 0 rfl rfl rfl rfl rfl ?_
                refine l_cmp rfl rfl rfl rfl ?_
                refine l_nil (WK.nx (by assumption) ?_)
                refine SeqK.nx (by assumption) ?_
                refine l_cond rfl rfl (fun hc8 => ?_) (fun hc8 => ?_)
                · first | replace hc8 := bne_iff_ne.1 ((irr_eq _).symm.trans hc8) | simp only [irr_eq, bne_iff_ne, bne_eq_false_iff_eq, ne_eq, decide_eq_true_eq, decide_eq_false_iff_not, Bool.not_eq_true', Bool.not_eq_false'] at hc8
                  refine k_seq (fun Q K => ?_)
                  refine k_lin (fun W K => ?_)
                  refine l_op 0 rfl rfl rfl rfl rfl ?_
                  refine l_op 0 rfl rfl rfl rfl rfl ?_
                  refine l_op 0 rfl rfl rfl rfl rfl ?_
                  refine l_op 0 rfl rfl rfl rfl rfl ?_
                  refine l_nil (WK.nx (by assumption) ?_)
                  refine SeqK.nx (by assumption) ?_
                  refine k_ret ?_
                  refine SeqK.rt (by assumption) ?_
                  refine FunK.rt (by assumption) rfl ?_
                  -- leaf 4
                  first
                    | (have hr : headR bs at_ = (0, [], 0, 1) := if_pos (by omega)
                       rw [hr]; exact ⟨(none, 0), rfl, F.pick [0] (by decide), trivial⟩)
                    | (have hr : headR bs at_ = (0, [], 0, 90) := by
                         have := be1_no (by omega) hc2
                         unfold headR; rw [if_neg (by omega), if_pos this]
                       rw [hr]; exact ⟨(none, 0), rfl, F.pick [0] (by decide), trivial⟩)
                    | (have hr : headR bs at_ = (0, [], 0, 112) := by
                         unfold headR; rw [if_neg (by omega), if_neg (by omega), if_pos (by omega)]
                       rw [hr]; exact ⟨(none, 0), rfl, F.pick [0] (by decide), trivial⟩)
                    | (have hr : headR bs at_ = (0, [], 0, 112) := by
                         unfold headR; rw [if_neg (by omega), if_neg (by omega), if_neg (by omega), if_pos (hz (by assumption))]
                       rw [hr]; exact ⟨(none, 0), rfl, F.pick [0] (by decide), trivial⟩)
                    | (have hok' := hok (by assumption); omega)
                    | (obtain ⟨e1, e2⟩ := hok (by assumption)
                       have hr : headR bs at_ = ((beR bs at_ 1).1, (bs.drop (at_ + 1).toNat).take ((q + 2).toNat - (at_ + 1).toNat), 1 + (((q + 2).toNat - (at_ + 1).toNat : Nat) : Int), 0) := by
                         unfold headR; rw [if_neg (by omega), if_neg (by omega), if_neg (by omega), if_neg (by rw [e1]; omega), e1, Int.toNat_natCast, hv]
                       have hl' : ((bs.drop (at_ + 1).toNat).take ((q + 2).toNat - (at_ + 1).toNat)).length = (q + 2).toNat - (at_ + 1).toNat := by rw [List.length_take, List.length_drop]; omega
                       have F' := F.pick [1] (by decide)
                       rw [hr]
                       refine ⟨y, ?_, ?_, trivial⟩
                       · show _ = Value.tuple #[.int .i64 _, .slice y.1 (List.length _) y.2, _, _]
                         rw [hl']; rfl
                       · show Facts _ _ _ [own y.1 (List.length _) y.2 1 _]
                         rw [hl']; exact F')
                · first | replace hc8 := bne_eq_false_iff_eq.1 ((irr_eq _).symm.trans hc8) | simp only [irr_eq, bne_iff_ne, bne_eq_false_iff_eq, ne_eq, decide_eq_true_eq, decide_eq_false_iff_not, Bool.not_eq_true', Bool.not_eq_false'] at hc8
                  refine k_skip ?_
                  refine SeqK.nx (by assumption) ?_
                  refine k_seq (fun Q K => ?_)
                  refine k_lin (fun W K => ?_)
                  refine l_op 0 rfl rfl rfl rfl rfl ?_
                  first | refine l_c64 rfl rfl rfl (by omega) rfl ?_ | refine l_c32 rfl rfl rfl (by omega) rfl ?_ | refine l_c8 rfl rfl rfl (by omega) rfl ?_ | refine l_cu64 rfl rfl rfl (by omega) rfl ?_ | refine l_str rfl rfl rfl rfl rfl (F.old (by assumption)) ?_ | refine l_str rfl rfl rfl rfl rfl (F.has 0 rfl) ?_ | refine l_str rfl rfl rfl rfl rfl (F.has 1 rfl) ?_ | refine l_str rfl rfl rfl rfl rfl (F.has 2 rfl) ?_ | refine l_op 16 rfl rfl rfl rfl rfl ?_
                  refine l_op 0 rfl rfl rfl rfl rfl ?_
                  refine l_op 0 rfl rfl rfl rfl rfl ?_
                  first | refine l_op 2 rfl rfl rfl rfl rfl ?_ | refine l_ln rfl rfl rfl rfl ?_
                  first | refine l_a64 rfl rfl rfl (by omega) rfl ?_ | refine l_a32 rfl rfl rfl (by omega) rfl ?_ | refine l_a8 rfl rfl rfl (by omega) rfl ?_ | refine l_au64 rfl rfl rfl (by omega) rfl ?_ | refine l_op 1 rfl rfl rfl rfl rfl ?_
                  refine l_op 0 rfl rfl rfl rfl rfl ?_
                  refine l_op 0 rfl rfl rfl rfl rfl ?_
                  refine l_op 0 rfl rfl rfl rfl rfl ?_
                  refine l_op 0 rfl rfl rfl rfl rfl ?_
                  refine l_nil (WK.nx (by assumption) ?_)
                  refine SeqK.nx (by assumption) ?_
                  refine k_ret ?_
                  refine FunK.rt (by assumption) rfl ?_
                  -- leaf 5
                  first
                    | (have hr : headR bs at_ = (0, [], 0, 1) := if_pos (by omega)
                       rw [hr]; exact ⟨(none, 0), rfl, F.pick [0] (by decide), trivial⟩)
                    | (have hr : headR bs at_ = (0, [], 0, 90) := by
                         have := be1_no (by omega) hc2
                         unfold headR; rw [if_neg (by omega), if_pos this]
                       rw [hr]; exact ⟨(none, 0), rfl, F.pick [0] (by decide), trivial⟩)
                    | (have hr : headR bs at_ = (0, [], 0, 112) := by
                         unfold headR; rw [if_neg (by omega), if_neg (by omega), if_pos (by omega)]
                       rw [hr]; exact ⟨(none, 0), rfl, F.pick [0] (by decide), trivial⟩)
                    | (have hr : headR bs at_ = (0, [], 0, 112) := by
                         unfold headR; rw [if_neg (by omega), if_neg (by omega), if_neg (by omega), if_pos (hz (by assumption))]
                       rw [hr]; exact ⟨(none, 0), rfl, F.pick [0] (by decide), trivial⟩)
                    | (have hok' := hok (by assumption); omega)
                    | (obtain ⟨e1, e2⟩ := hok (by assumption)
                       have hr : headR bs at_ = ((beR bs at_ 1).1, (bs.drop (at_ + 1).toNat).take ((q + 2).toNat - (at_ + 1).toNat), 1 + (((q + 2).toNat - (at_ + 1).toNat : Nat) : Int), 0) := by
                         unfold headR; rw [if_neg (by omega), if_neg (by omega), if_neg (by omega), if_neg (by rw [e1]; omega), e1, Int.toNat_natCast, hv]
                       have hl' : ((bs.drop (at_ + 1).toNat).take ((q + 2).toNat - (at_ + 1).toNat)).length = (q + 2).toNat - (at_ + 1).toNat := by rw [List.length_take, List.length_drop]; omega
                       have F' := F.pick [1] (by decide)
                       rw [hr]
                       refine ⟨y, ?_, ?_, trivial⟩
                       · show _ = Value.tuple #[.int .i64 _, .slice y.1 (List.length _) y.2, _, _]
                         rw [hl']; rfl
                       · show Facts _ _ _ [own y.1 (List.length _) y.2 1 _]
                         rw [hl']; exact F')
              · first | replace hc7 := ne_of_beq_false ((irr_eq _).symm.trans hc7) | simp only [irr_eq, beq_iff_eq, beq_eq_false_iff_ne, ne_eq, decide_eq_true_eq, decide_eq_false_iff_not] at hc7
                refine k_skip ?_
                refine BlkK.nx (by assumption) ?_
                refine SeqK.nx (by assumption) ?_
                refine k_lin (fun W K => ?_)
                refine l_op 0 rfl rfl rfl rfl rfl ?_
                first | refine l_a64 rfl rfl rfl (by omega) rfl ?_ | refine l_a32 rfl rfl rfl (by omega) rfl ?_ | refine l_a8 rfl rfl rfl (by omega) rfl ?_ | refine l_au64 rfl rfl rfl (by omega) rfl ?_ | refine l_op 1 rfl rfl rfl rfl rfl ?_
                refine l_op 0 rfl rfl rfl rfl rfl ?_
                refine l_nil (WK.nx (by assumption) ?_)
                exact K0.nx (q + 2) (by repeat (first | exact trivial | refine And.intro rfl ?_)) ⟨F, by omega, by omega, by omega, fun j hj hj2 => by
                  by_cases hjj : (j : Int) = q - (at_ + 1)
                  · have e : j = (q - (at_ + 1)).toNat := by omega
                    rw [e, g1, g2]
                    omega
                  · exact hnz j (by omega) hj2⟩ (by first | omega | (simp only; omega))
            · first | replace hc6 := ne_of_beq_false ((irr_eq _).symm.trans hc6) | simp only [irr_eq, beq_iff_eq, beq_eq_false_iff_ne, ne_eq, decide_eq_true_eq, decide_eq_false_iff_not] at hc6
              refine l_s rfl rfl ?_
              refine l_s rfl rfl ?_
              refine l_s rfl rfl ?_
              refine l_s rfl rfl ?_
              refine l_s rfl rfl ?_
              refine l_s rfl rfl ?_
              refine l_op 2 rfl rfl rfl rfl rfl ?_
              refine l_nil (WK.nx (by assumption) ?_)
              refine SeqK.nx (by assumption) ?_
              refine e_cond_f rfl rfl rfl ?_
              refine k_skip ?_
              refine BlkK.nx (by assumption) ?_
              refine SeqK.nx (by assumption) ?_
              refine k_lin (fun W K => ?_)
              refine l_op 0 rfl rfl rfl rfl rfl ?_
              first | refine l_a64 rfl rfl rfl (by omega) rfl ?_ | refine l_a32 rfl rfl rfl (by omega) rfl ?_ | refine l_a8 rfl rfl rfl (by omega) rfl ?_ | refine l_au64 rfl rfl rfl (by omega) rfl ?_ | refine l_op 1 rfl rfl rfl rfl rfl ?_
              refine l_op 0 rfl rfl rfl rfl rfl ?_
              refine l_nil (WK.nx (by assumption) ?_)
              exact K0.nx (q + 2) (by repeat (first | exact trivial | refine And.intro rfl ?_)) ⟨F, by omega, by omega, by omega, fun j hj hj2 => by
                by_cases hjj : (j : Int) = q - (at_ + 1)
                · have e : j = (q - (at_ + 1)).toNat := by omega
                  rw [e, g1, g2]
                  omega
                · exact hnz j (by omega) hj2⟩ (by first | omega | (simp only; omega))
          · replace hc5 := of_decide_eq_false ((irr_eq _).symm.trans hc5)
            have hz : (locR []).2.2 ≠ 0 → pr 0 (bs.drop (at_ + 1).toNat) = 0 := fun _ => by
              have := pr_nz (d := bs.drop (at_ + 1).toNat) (fun j hj hj2 => hnz j (by rw [List.length_drop] at hj; omega) hj2) _ 0 (Nat.le_refl _) rfl
              rwa [List.drop_zero] at this
            have hok : (locR []).2.2 = 0 → pr 0 (bs.drop (at_ + 1).toNat) = ((0 : Nat) : Int) ∧ 0 < 0 := fun he => by rw [locR_e] at he; exact (he.1 rfl).elim
            refine k_exit ?_
            refine SeqK.et (by assumption) ?_
            refine LoopK.et (by assumption) ?_
            refine BlkK.et (by assumption) ?_
            refine SeqK.nx (by assumption) ?_
            refine k_seq (fun Q K => ?_)
            refine k_seq (fun Q K => ?_)
            refine k_lin (fun W K => ?_)
            refine l_op 0 rfl rfl rfl rfl rfl ?_
            first
              | refine l_callp F rfl rfl (by kernel_rfl) rfl rfl (locals_call (bs := []) (Old.pure (F.has 0 rfl)) (fun i hi => by cases hi) (by omega)) (fun _ s F _ => ?_)
              | refine l_callp F rfl rfl (by kernel_rfl) rfl rfl (locals_call (Old.pure (F.has 1 rfl)) ((hB.drop _).take _) (by omega)) (fun _ s F _ => ?_)
            (try dsimp only [List.set_cons_zero, List.set_cons_succ, List.cons_append, List.nil_append, List.append_nil, pk, List.getElem?_cons_zero, List.getElem?_cons_succ] at F)
            refine l_op 0 rfl rfl rfl rfl rfl ?_
            refine l_op 2 rfl rfl rfl rfl rfl ?_
            refine l_op 2 rfl rfl rfl rfl rfl ?_
            refine l_op 2 rfl rfl rfl rfl rfl ?_
            refine l_op 0 rfl rfl rfl rfl rfl ?_
            refine l_op 0 rfl rfl rfl rfl rfl ?_
            refine l_op 0 rfl rfl rfl rfl rfl ?_
            refine l_nil (WK.nx (by assumption) ?_)
            refine SeqK.nx (by assumption) ?_
            refine k_seq (fun Q K => ?_)
            refine k_lin (fun W K => ?_)
            refine l_op 0 rfl rfl rfl rfl rfl ?_
            refine l_cmp rfl rfl rfl rfl ?_
            refine l_nil (WK.nx (by assumption) ?_)
            refine SeqK.nx (by assumption) ?_
            refine l_cond rfl rfl (fun hc9 => ?_) (fun hc9 => ?_)
            · first | replace hc9 := bne_iff_ne.1 ((irr_eq _).symm.trans hc9) | simp only [irr_eq, bne_iff_ne, bne_eq_false_iff_eq, ne_eq, decide_eq_true_eq, decide_eq_false_iff_not, Bool.not_eq_true', Bool.not_eq_false'] at hc9
              refine k_seq (fun Q K => ?_)
              refine k_lin (fun W K => ?_)
              refine l_op 0 rfl rfl rfl rfl rfl ?_
              refine l_op 0 rfl rfl rfl rfl rfl ?_
              refine l_op 0 rfl rfl rfl rfl rfl ?_
              refine l_op 0 rfl rfl rfl rfl rfl ?_
              refine l_nil (WK.nx (by assumption) ?_)
              refine SeqK.nx (by assumption) ?_
              refine k_ret ?_
              refine SeqK.rt (by assumption) ?_
              refine FunK.rt (by assumption) rfl ?_
              -- leaf 6
              first
                | (have hr : headR bs at_ = (0, [], 0, 1) := if_pos (by omega)
                   rw [hr]; exact ⟨(none, 0), rfl, F.pick [0] (by decide), trivial⟩)
                | (have hr : headR bs at_ = (0, [], 0, 90) := by
                     have := be1_no (by omega) hc2
                     unfold headR; rw [if_neg (by omega), if_pos this]
                   rw [hr]; exact ⟨(none, 0), rfl, F.pick [0] (by decide), trivial⟩)
                | (have hr : headR bs at_ = (0, [], 0, 112) := by
                     unfold headR; rw [if_neg (by omega), if_neg (by omega), if_pos (by omega)]
                   rw [hr]; exact ⟨(none, 0), rfl, F.pick [0] (by decide), trivial⟩)
                | (have hr : headR bs at_ = (0, [], 0, 112) := by
                     unfold headR; rw [if_neg (by omega), if_neg (by omega), if_neg (by omega), if_pos (hz (by assumption))]
                   rw [hr]; exact ⟨(none, 0), rfl, F.pick [0] (by decide), trivial⟩)
                | (have hok' := hok (by assumption); omega)
                | (obtain ⟨e1, e2⟩ := hok (by assumption)
                   have hr : headR bs at_ = ((beR bs at_ 1).1, (bs.drop (at_ + 1).toNat).take ((q + 2).toNat - (at_ + 1).toNat), 1 + (((q + 2).toNat - (at_ + 1).toNat : Nat) : Int), 0) := by
                     unfold headR; rw [if_neg (by omega), if_neg (by omega), if_neg (by omega), if_neg (by rw [e1]; omega), e1, Int.toNat_natCast, hv]
                   have hl' : ((bs.drop (at_ + 1).toNat).take ((q + 2).toNat - (at_ + 1).toNat)).length = (q + 2).toNat - (at_ + 1).toNat := by rw [List.length_take, List.length_drop]; omega
                   have F' := F.pick [1] (by decide)
                   rw [hr]
                   refine ⟨y, ?_, ?_, trivial⟩
                   · show _ = Value.tuple #[.int .i64 _, .slice y.1 (List.length _) y.2, _, _]
                     rw [hl']; rfl
                   · show Facts _ _ _ [own y.1 (List.length _) y.2 1 _]
                     rw [hl']; exact F')
            · first | replace hc9 := bne_eq_false_iff_eq.1 ((irr_eq _).symm.trans hc9) | simp only [irr_eq, bne_iff_ne, bne_eq_false_iff_eq, ne_eq, decide_eq_true_eq, decide_eq_false_iff_not, Bool.not_eq_true', Bool.not_eq_false'] at hc9
              refine k_skip ?_
              refine SeqK.nx (by assumption) ?_
              refine k_seq (fun Q K => ?_)
              refine k_lin (fun W K => ?_)
              refine l_op 0 rfl rfl rfl rfl rfl ?_
              first | refine l_c64 rfl rfl rfl (by omega) rfl ?_ | refine l_c32 rfl rfl rfl (by omega) rfl ?_ | refine l_c8 rfl rfl rfl (by omega) rfl ?_ | refine l_cu64 rfl rfl rfl (by omega) rfl ?_ | refine l_str rfl rfl rfl rfl rfl (F.old (by assumption)) ?_ | refine l_str rfl rfl rfl rfl rfl (F.has 0 rfl) ?_ | refine l_str rfl rfl rfl rfl rfl (F.has 1 rfl) ?_ | refine l_str rfl rfl rfl rfl rfl (F.has 2 rfl) ?_ | refine l_op 16 rfl rfl rfl rfl rfl ?_
              refine l_op 0 rfl rfl rfl rfl rfl ?_
              refine l_op 0 rfl rfl rfl rfl rfl ?_
              first | refine l_op 2 rfl rfl rfl rfl rfl ?_ | refine l_ln rfl rfl rfl rfl ?_
              first | refine l_a64 rfl rfl rfl (by omega) rfl ?_ | refine l_a32 rfl rfl rfl (by omega) rfl ?_ | refine l_a8 rfl rfl rfl (by omega) rfl ?_ | refine l_au64 rfl rfl rfl (by omega) rfl ?_ | refine l_op 1 rfl rfl rfl rfl rfl ?_
              refine l_op 0 rfl rfl rfl rfl rfl ?_
              refine l_op 0 rfl rfl rfl rfl rfl ?_
              refine l_op 0 rfl rfl rfl rfl rfl ?_
              refine l_op 0 rfl rfl rfl rfl rfl ?_
              refine l_nil (WK.nx (by assumption) ?_)
              refine SeqK.nx (by assumption) ?_
              refine k_ret ?_
              refine FunK.rt (by assumption) rfl ?_
              -- leaf 7
              first
                | (have hr : headR bs at_ = (0, [], 0, 1) := if_pos (by omega)
                   rw [hr]; exact ⟨(none, 0), rfl, F.pick [0] (by decide), trivial⟩)
                | (have hr : headR bs at_ = (0, [], 0, 90) := by
                     have := be1_no (by omega) hc2
                     unfold headR; rw [if_neg (by omega), if_pos this]
                   rw [hr]; exact ⟨(none, 0), rfl, F.pick [0] (by decide), trivial⟩)
                | (have hr : headR bs at_ = (0, [], 0, 112) := by
                     unfold headR; rw [if_neg (by omega), if_neg (by omega), if_pos (by omega)]
                   rw [hr]; exact ⟨(none, 0), rfl, F.pick [0] (by decide), trivial⟩)
                | (have hr : headR bs at_ = (0, [], 0, 112) := by
                     unfold headR; rw [if_neg (by omega), if_neg (by omega), if_neg (by omega), if_pos (hz (by assumption))]
                   rw [hr]; exact ⟨(none, 0), rfl, F.pick [0] (by decide), trivial⟩)
                | (have hok' := hok (by assumption); omega)
                | (obtain ⟨e1, e2⟩ := hok (by assumption)
                   have hr : headR bs at_ = ((beR bs at_ 1).1, (bs.drop (at_ + 1).toNat).take ((q + 2).toNat - (at_ + 1).toNat), 1 + (((q + 2).toNat - (at_ + 1).toNat : Nat) : Int), 0) := by
                     unfold headR; rw [if_neg (by omega), if_neg (by omega), if_neg (by omega), if_neg (by rw [e1]; omega), e1, Int.toNat_natCast, hv]
                   have hl' : ((bs.drop (at_ + 1).toNat).take ((q + 2).toNat - (at_ + 1).toNat)).length = (q + 2).toNat - (at_ + 1).toNat := by rw [List.length_take, List.length_drop]; omega
                   have F' := F.pick [1] (by decide)
                   rw [hr]
                   refine ⟨y, ?_, ?_, trivial⟩
                   · show _ = Value.tuple #[.int .i64 _, .slice y.1 (List.length _) y.2, _, _]
                     rw [hl']; rfl
                   · show Facts _ _ _ [own y.1 (List.length _) y.2 1 _]
                     rw [hl']; exact F')
      · first | replace hc3 := bne_eq_false_iff_eq.1 ((irr_eq _).symm.trans hc3) | simp only [irr_eq, bne_iff_ne, bne_eq_false_iff_eq, ne_eq, decide_eq_true_eq, decide_eq_false_iff_not, Bool.not_eq_true', Bool.not_eq_false'] at hc3
        refine l_s rfl rfl ?_
        refine l_s rfl rfl ?_
        refine l_op 2 rfl rfl rfl rfl rfl ?_
        refine l_nil (WK.nx (by assumption) ?_)
        refine SeqK.nx (by assumption) ?_
        refine e_cond_f rfl rfl rfl ?_
        refine k_skip ?_
        refine SeqK.nx (by assumption) ?_
        refine k_seq (fun Q K => ?_)
        refine k_seq (fun Q K => ?_)
        refine k_lin (fun W K => ?_)
        refine l_op 0 rfl rfl rfl rfl rfl ?_
        first | refine l_a64 rfl rfl rfl (by omega) rfl ?_ | refine l_a32 rfl rfl rfl (by omega) rfl ?_ | refine l_a8 rfl rfl rfl (by omega) rfl ?_ | refine l_au64 rfl rfl rfl (by omega) rfl ?_ | refine l_op 1 rfl rfl rfl rfl rfl ?_
        refine l_op 0 rfl rfl rfl rfl rfl ?_
        refine l_nil (WK.nx (by assumption) ?_)
        refine SeqK.nx (by assumption) ?_
        refine k_block (fun Q K => ?_)
        refine k_loop (α := Int) (fun q s => Facts E0 σ s [own none 0 0 1 []] ∧ at_ + 1 ≤ q ∧ q ≤ l ∧ (q - (at_ + 1)) % 2 = 0 ∧ NoZ (bs.drop (at_ + 1).toNat) (q - (at_ + 1))) (fun q => [(0, .slice a l c), (1, .int .i64 at_), (5, .slice none 0 0), (8, .int .u32 (beR bs at_ 1).1), (9, .int .i64 q)]) (fun q => (l - q).toNat) (at_ + 1) ⟨F.pick [0] (by decide), by omega, by omega, by omega, fun j hj => by omega⟩ (by repeat (first | exact trivial | refine And.intro rfl ?_)) ?_
        clear F
        rintro q env s Q K0 ⟨F, hq, hql, hq2, hnz⟩
        refine k_seq (fun Q K => ?_)
        refine k_seq (fun Q K => ?_)
        refine k_lin (fun W K => ?_)
        refine l_op 0 rfl rfl rfl rfl rfl ?_
        first | refine l_a64 rfl rfl rfl (by omega) rfl ?_ | refine l_a32 rfl rfl rfl (by omega) rfl ?_ | refine l_a8 rfl rfl rfl (by omega) rfl ?_ | refine l_au64 rfl rfl rfl (by omega) rfl ?_ | refine l_op 1 rfl rfl rfl rfl rfl ?_
        refine l_op 0 rfl rfl rfl rfl rfl ?_
        first | refine l_op 2 rfl rfl rfl rfl rfl ?_ | refine l_ln rfl rfl rfl rfl ?_
        refine l_cmp rfl rfl rfl rfl ?_
        refine l_nil (WK.nx (by assumption) ?_)
        refine SeqK.nx (by assumption) ?_
        refine l_cond rfl rfl (fun hc10 => ?_) (fun hc10 => ?_)
        · replace hc10 := of_decide_eq_true ((irr_eq _).symm.trans hc10)
          have g1 := getD_drop bs (at_ + 1).toNat (q - (at_ + 1)).toNat
          have g2 := getD_drop bs (at_ + 1).toNat ((q - (at_ + 1)).toNat + 1)
          have n1 : (at_ + 1).toNat + (q - (at_ + 1)).toNat = q.toNat := by omega
          have n2 : (at_ + 1).toNat + ((q - (at_ + 1)).toNat + 1) = (q + 1).toNat := by omega
          rw [n1] at g1
          rw [n2] at g2
          refine k_skip ?_
          refine SeqK.nx (by assumption) ?_
          refine k_seq (fun Q K => ?_)
          refine k_block (fun Q K => ?_)
          refine k_seq (fun Q K => ?_)
          refine k_lin (fun W K => ?_)
          refine l_op 0 rfl rfl rfl rfl rfl ?_
          refine l_op 0 rfl rfl rfl rfl rfl ?_
          first | refine l_ixi rfl rfl rfl rfl rfl rfl (F.old (by assumption)) (by omega) (fun m40 b40 hA40 => ?_) | (refine l_ixoi F 0 rfl rfl rfl rfl rfl rfl rfl (by omega) (fun m e ha hA40 => ?_); cases ha) | (refine l_ixoi F 1 rfl rfl rfl rfl rfl rfl rfl (by omega) (fun m e ha hA40 => ?_); cases ha) | (refine l_ixoi F 2 rfl rfl rfl rfl rfl rfl rfl (by omega) (fun m e ha hA40 => ?_); cases ha) | (refine l_ixoi F 3 rfl rfl rfl rfl rfl rfl rfl (by omega) (fun m e ha hA40 => ?_); cases ha)
          first | refine l_ld0 rfl rfl rfl rfl rfl (by assumption) ?_ | refine l_ldj rfl rfl rfl rfl rfl rfl (by assumption) rfl ?_ | refine l_ldc F 0 rfl rfl rfl rfl rfl rfl rfl ?_ | refine l_ldc F 1 rfl rfl rfl rfl rfl rfl rfl ?_ | refine l_ldc F 2 rfl rfl rfl rfl rfl rfl rfl ?_ | refine l_ldc F 3 rfl rfl rfl rfl rfl rfl rfl ?_ | refine l_lda rfl rfl rfl rfl rfl (by assumption) ?_ | refine l_ldca F 0 rfl rfl rfl rfl rfl rfl rfl ?_ | refine l_ldca F 1 rfl rfl rfl rfl rfl rfl rfl ?_ | refine l_ldca F 2 rfl rfl rfl rfl rfl rfl rfl ?_ | refine l_ldca F 3 rfl rfl rfl rfl rfl rfl rfl ?_ | refine l_ldo F (by assumption) rfl rfl rfl rfl rfl rfl ?_ | refine l_ldoa F (by assumption) rfl rfl rfl rfl rfl rfl ?_
          refine l_cmp rfl rfl rfl rfl ?_
          refine l_op 0 rfl rfl rfl rfl rfl ?_
          refine l_guard rfl rfl rfl (fun hc11 => ?_) (fun hc11 => ?_)
          · first | replace hc11 := eq_of_beq ((irr_eq _).symm.trans hc11) | simp only [irr_eq, beq_iff_eq, beq_eq_false_iff_ne, ne_eq, decide_eq_true_eq, decide_eq_false_iff_not] at hc11
            refine l_op 0 rfl rfl rfl rfl rfl ?_
            refine l_op 0 rfl rfl rfl rfl rfl ?_
            first | refine l_a64 rfl rfl rfl (by omega) rfl ?_ | refine l_a32 rfl rfl rfl (by omega) rfl ?_ | refine l_a8 rfl rfl rfl (by omega) rfl ?_ | refine l_au64 rfl rfl rfl (by omega) rfl ?_ | refine l_op 1 rfl rfl rfl rfl rfl ?_
            first | refine l_ixi rfl rfl rfl rfl rfl rfl (F.old (by assumption)) (by omega) (fun m47 b47 hA47 => ?_) | (refine l_ixoi F 0 rfl rfl rfl rfl rfl rfl rfl (by omega) (fun m e ha hA47 => ?_); cases ha) | (refine l_ixoi F 1 rfl rfl rfl rfl rfl rfl rfl (by omega) (fun m e ha hA47 => ?_); cases ha) | (refine l_ixoi F 2 rfl rfl rfl rfl rfl rfl rfl (by omega) (fun m e ha hA47 => ?_); cases ha) | (refine l_ixoi F 3 rfl rfl rfl rfl rfl rfl rfl (by omega) (fun m e ha hA47 => ?_); cases ha)
            first | refine l_ld0 rfl rfl rfl rfl rfl (by assumption) ?_ | refine l_ldj rfl rfl rfl rfl rfl rfl (by assumption) rfl ?_ | refine l_ldc F 0 rfl rfl rfl rfl rfl rfl rfl ?_ | refine l_ldc F 1 rfl rfl rfl rfl rfl rfl rfl ?_ | refine l_ldc F 2 rfl rfl rfl rfl rfl rfl rfl ?_ | refine l_ldc F 3 rfl rfl rfl rfl rfl rfl rfl ?_ | refine l_lda rfl rfl rfl rfl rfl (by assumption) ?_ | refine l_ldca F 0 rfl rfl rfl rfl rfl rfl rfl ?_ | refine l_ldca F 1 rfl rfl rfl rfl rfl rfl rfl ?_ | refine l_ldca F 2 rfl rfl rfl rfl rfl rfl rfl ?_ | refine l_ldca F 3 rfl rfl rfl rfl rfl rfl rfl ?_ | refine l_ldo F (by assumption) rfl rfl rfl rfl rfl rfl ?_ | refine l_ldoa F (by assumption) rfl rfl rfl rfl rfl rfl ?_
            refine l_cmp rfl rfl rfl rfl ?_
            refine l_op 2 rfl rfl rfl rfl rfl ?_
            refine l_nil (WK.nx (by assumption) ?_)
            refine SeqK.nx (by assumption) ?_
            refine l_cond rfl rfl (fun hc12 => ?_) (fun hc12 => ?_)
            · first | replace hc12 := eq_of_beq ((irr_eq _).symm.trans hc12) | simp only [irr_eq, beq_iff_eq, beq_eq_false_iff_ne, ne_eq, decide_eq_true_eq, decide_eq_false_iff_not] at hc12
              refine k_seq (fun Q K => ?_)
              refine k_lin (fun W K => ?_)
              refine l_op 0 rfl rfl rfl rfl rfl ?_
              refine l_op 0 rfl rfl rfl rfl rfl ?_
              first | refine l_a64 rfl rfl rfl (by omega) rfl ?_ | refine l_a32 rfl rfl rfl (by omega) rfl ?_ | refine l_a8 rfl rfl rfl (by omega) rfl ?_ | refine l_au64 rfl rfl rfl (by omega) rfl ?_ | refine l_op 1 rfl rfl rfl rfl rfl ?_
              refine l_op 0 rfl rfl rfl rfl rfl ?_
              first | refine l_a64 rfl rfl rfl (by omega) rfl ?_ | refine l_a32 rfl rfl rfl (by omega) rfl ?_ | refine l_a8 rfl rfl rfl (by omega) rfl ?_ | refine l_au64 rfl rfl rfl (by omega) rfl ?_ | refine l_op 1 rfl rfl rfl rfl rfl ?_
              first | refine l_sl rfl rfl rfl rfl rfl rfl rfl rfl ⟨rfl, _, _, rfl, by omega, rfl⟩ (F.old (by assumption)) (by omega) ?_ | refine l_sl rfl rfl rfl rfl rfl rfl rfl rfl ⟨rfl, _, _, rfl, by omega, rfl⟩ (F.has 0 rfl) (by omega) ?_ | refine l_sl rfl rfl rfl rfl rfl rfl rfl rfl ⟨rfl, _, _, rfl, by omega, rfl⟩ (F.has 1 rfl) (by omega) ?_ | refine l_sl rfl rfl rfl rfl rfl rfl rfl rfl ⟨rfl, _, _, rfl, by omega, rfl⟩ (F.has 2 rfl) (by omega) ?_ | refine l_sl rfl rfl rfl rfl rfl rfl rfl rfl ⟨rfl, _, _, rfl, by omega, rfl⟩ (F.has 3 rfl) (by omega) ?_
              have hpz := pr_z (d := bs.drop (at_ + 1).toNat) (i := (q - (at_ + 1)).toNat) (by rw [List.length_drop]; omega) (by omega) ⟨by rw [g1]; assumption, by rw [g2]; assumption⟩ (fun j hj hj2 => hnz j (by omega) hj2) _ 0 (Nat.le_refl _) (by omega) rfl
              rw [List.drop_zero, List.drop_zero, show (q - (at_ + 1)).toNat + 2 = (q + 2).toNat - (at_ + 1).toNat by omega] at hpz
              refine l_callp F rfl rfl (by kernel_rfl) rfl rfl (clone_call (Old.pure ((F.old h).part8 (lo := (at_ + 1).toNat) (hi := (q + 2).toNat) (by omega) (by omega))) (by omega)) (fun y s F _ => ?_)
              have hz : (locR ((bs.drop (at_ + 1).toNat).take ((q + 2).toNat - (at_ + 1).toNat))).2.2 ≠ 0 → pr 0 (bs.drop (at_ + 1).toNat) = 0 := fun hne => by
                rw [Ne, locR_e] at hne
                rw [List.length_take, List.length_drop] at hne
                omega
              have hok : (locR ((bs.drop (at_ + 1).toNat).take ((q + 2).toNat - (at_ + 1).toNat))).2.2 = 0 → pr 0 (bs.drop (at_ + 1).toNat) = ((q + 2).toNat - (at_ + 1).toNat : Nat) ∧ 0 < (q + 2).toNat - (at_ + 1).toNat := fun he => by
                rw [locR_e, List.length_take, List.length_drop] at he
                omega
              (try dsimp only [List.set_cons_zero, List.set_cons_succ, List.cons_append, List.nil_append, List.append_nil, pk, List.getElem?_cons_zero, List.getElem?_cons_succ] at F)
              refine l_op 0 rfl rfl rfl rfl rfl ?_
              refine l_nil (WK.nx (by assumption) ?_)
              refine SeqK.nx (by assumption) ?_
              refine k_exit ?_
              refine BlkK.ot (by assumption) rfl ?_
              refine SeqK.et (by assumption) ?_
              refine LoopK.et (by assumption) ?_
              refine BlkK.et (by assumption) ?_
              refine SeqK.nx (by assumption) ?_
              refine k_seq (fun Q K => ?_)
              refine k_seq (fun Q K => ?_)
              refine k_lin (fun W K => ?_)
              refine l_op 0 rfl rfl rfl rfl rfl ?_
              first
                | refine l_callp F rfl rfl (by kernel_rfl) rfl rfl (locals_call (bs := []) (Old.pure (F.has 0 rfl)) (fun i hi => by cases hi) (by omega)) (fun _ s F _ => ?_)
                | refine l_callp F rfl rfl (by kernel_rfl) rfl rfl (locals_call (Old.pure (F.has 1 rfl)) ((hB.drop _).take _) (by omega)) (fun _ s F _ => ?_)
              (try dsimp only [List.set_cons_zero, List.set_cons_succ, List.cons_append, List.nil_append, List.append_nil, pk, List.getElem?_cons_zero, List.getElem?_cons_succ] at F)
              refine l_op 0 rfl rfl rfl rfl rfl ?_
              refine l_op 2 rfl rfl rfl rfl rfl ?_
              refine l_op 2 rfl rfl rfl rfl rfl ?_
              refine l_op 2 rfl rfl rfl rfl rfl ?_
              refine l_op 0 rfl rfl rfl rfl rfl ?_
              refine l_op 0 rfl rfl rfl rfl rfl ?_
              refine l_op 0 rfl rfl rfl rfl rfl ?_
              refine l_nil (WK.nx (by assumption) ?_)
              refine SeqK.nx (by assumption) ?_
              refine k_seq (fun Q K => ?_)
              refine k_lin (fun W K => ?_)
              refine l_op 0 rfl rfl rfl rfl rfl ?_
              refine l_cmp rfl rfl rfl rfl ?_
              refine l_nil (WK.nx (by assumption) ?_)
              refine SeqK.nx (by assumption) ?_
              refine l_cond rfl rfl (fun hc13 => ?_) (fun hc13 => ?_)
              · first | replace hc13 := bne_iff_ne.1 ((irr_eq _).symm.trans hc13) | simp only [irr_eq, bne_iff_ne, bne_eq_false_iff_eq, ne_eq, decide_eq_true_eq, decide_eq_false_iff_not, Bool.not_eq_true', Bool.not_eq_false'] at hc13
                refine k_seq (fun Q K => ?_)
                refine k_lin (fun W K => ?_)
                refine l_op 0 rfl rfl rfl rfl rfl ?_
                refine l_op 0 rfl rfl rfl rfl rfl ?_
                refine l_op 0 rfl rfl rfl rfl rfl ?_
                refine l_op 0 rfl rfl rfl rfl rfl ?_
                refine l_nil (WK.nx (by assumption) ?_)
                refine SeqK.nx (by assumption) ?_
                refine k_ret ?_
                refine SeqK.rt (by assumption) ?_
                refine FunK.rt (by assumption) rfl ?_
                -- leaf 8
                first
                  | (have hr : headR bs at_ = (0, [], 0, 1) := if_pos (by omega)
                     rw [hr]; exact ⟨(none, 0), rfl, F.pick [0] (by decide), trivial⟩)
                  | (have hr : headR bs at_ = (0, [], 0, 90) := by
                       have := be1_no (by omega) hc2
                       unfold headR; rw [if_neg (by omega), if_pos this]
                     rw [hr]; exact ⟨(none, 0), rfl, F.pick [0] (by decide), trivial⟩)
                  | (have hr : headR bs at_ = (0, [], 0, 112) := by
                       unfold headR; rw [if_neg (by omega), if_neg (by omega), if_pos (by omega)]
                     rw [hr]; exact ⟨(none, 0), rfl, F.pick [0] (by decide), trivial⟩)
                  | (have hr : headR bs at_ = (0, [], 0, 112) := by
                       unfold headR; rw [if_neg (by omega), if_neg (by omega), if_neg (by omega), if_pos (hz (by assumption))]
                     rw [hr]; exact ⟨(none, 0), rfl, F.pick [0] (by decide), trivial⟩)
                  | (have hok' := hok (by assumption); omega)
                  | (obtain ⟨e1, e2⟩ := hok (by assumption)
                     have hr : headR bs at_ = ((beR bs at_ 1).1, (bs.drop (at_ + 1).toNat).take ((q + 2).toNat - (at_ + 1).toNat), 1 + (((q + 2).toNat - (at_ + 1).toNat : Nat) : Int), 0) := by
                       unfold headR; rw [if_neg (by omega), if_neg (by omega), if_neg (by omega), if_neg (by rw [e1]; omega), e1, Int.toNat_natCast, hv]
                     have hl' : ((bs.drop (at_ + 1).toNat).take ((q + 2).toNat - (at_ + 1).toNat)).length = (q + 2).toNat - (at_ + 1).toNat := by rw [List.length_take, List.length_drop]; omega
                     have F' := F.pick [1] (by decide)
                     rw [hr]
                     refine ⟨y, ?_, ?_, trivial⟩
                     · show _ = Value.tuple #[.int .i64 _, .slice y.1 (List.length _) y.2, _, _]
                       rw [hl']; rfl
                     · show Facts _ _ _ [own y.1 (List.length _) y.2 1 _]
                       rw [hl']; exact F')
              · first | replace hc13 := bne_eq_false_iff_eq.1 ((irr_eq _).symm.trans hc13) | simp only [irr_eq, bne_iff_ne, bne_eq_false_iff_eq, ne_eq, decide_eq_true_eq, decide_eq_false_iff_not, Bool.not_eq_true', Bool.not_eq_false'] at hc13
                refine k_skip ?_
                refine SeqK.nx (by assumption) ?_
                refine k_seq (fun Q K => ?_)
                refine k_lin (fun W K => ?_)
                refine l_op 0 rfl rfl rfl rfl rfl ?_
                first | refine l_c64 rfl rfl rfl (by omega) rfl ?_ | refine l_c32 rfl rfl rfl (by omega) rfl ?_ | refine l_c8 rfl rfl rfl (by omega) rfl ?_ | refine l_cu64 rfl rfl rfl (by omega) rfl ?_ | refine l_str rfl rfl rfl rfl rfl (F.old (by assumption)) ?_ | refine l_str rfl rfl rfl rfl rfl (F.has 0 rfl) ?_ | refine l_str rfl rfl rfl rfl rfl (F.has 1 rfl) ?_ | refine l_str rfl rfl rfl rfl rfl (F.has 2 rfl) ?_ | refine l_op 16 rfl rfl rfl rfl rfl ?_
                refine l_op 0 rfl rfl rfl rfl rfl ?_
                refine l_op 0 rfl rfl rfl rfl rfl ?_
                first | refine l_op 2 rfl rfl rfl rfl rfl ?_ | refine l_ln rfl rfl rfl rfl ?_
                first | refine l_a64 rfl rfl rfl (by omega) rfl ?_ | refine l_a32 rfl rfl rfl (by omega) rfl ?_ | refine l_a8 rfl rfl rfl (by omega) rfl ?_ | refine l_au64 rfl rfl rfl (by omega) rfl ?_ | refine l_op 1 rfl rfl rfl rfl rfl ?_
                refine l_op 0 rfl rfl rfl rfl rfl ?_
                refine l_op 0 rfl rfl rfl rfl rfl ?_
                refine l_op 0 rfl rfl rfl rfl rfl ?_
                refine l_op 0 rfl rfl rfl rfl rfl ?_
                refine l_nil (WK.nx (by assumption) ?_)
                refine SeqK.nx (by assumption) ?_
                refine k_ret ?_
                refine FunK.rt (by assumption) rfl ?_
                -- leaf 9
                first
                  | (have hr : headR bs at_ = (0, [], 0, 1) := if_pos (by omega)
                     rw [hr]; exact ⟨(none, 0), rfl, F.pick [0] (by decide), trivial⟩)
                  | (have hr : headR bs at_ = (0, [], 0, 90) := by
                       have := be1_no (by omega) hc2
                       unfold headR; rw [if_neg (by omega), if_pos this]
                     rw [hr]; exact ⟨(none, 0), rfl, F.pick [0] (by decide), trivial⟩)
                  | (have hr : headR bs at_ = (0, [], 0, 112) := by
                       unfold headR; rw [if_neg (by omega), if_neg (by omega), if_pos (by omega)]
                     rw [hr]; exact ⟨(none, 0), rfl, F.pick [0] (by decide), trivial⟩)
                  | (have hr : headR bs at_ = (0, [], 0, 112) := by
                       unfold headR; rw [if_neg (by omega), if_neg (by omega), if_neg (by omega), if_pos (hz (by assumption))]
                     rw [hr]; exact ⟨(none, 0), rfl, F.pick [0] (by decide), trivial⟩)
                  | (have hok' := hok (by assumption); omega)
                  | (obtain ⟨e1, e2⟩ := hok (by assumption)
                     have hr : headR bs at_ = ((beR bs at_ 1).1, (bs.drop (at_ + 1).toNat).take ((q + 2).toNat - (at_ + 1).toNat), 1 + (((q + 2).toNat - (at_ + 1).toNat : Nat) : Int), 0) := by
                       unfold headR; rw [if_neg (by omega), if_neg (by omega), if_neg (by omega), if_neg (by rw [e1]; omega), e1, Int.toNat_natCast, hv]
                     have hl' : ((bs.drop (at_ + 1).toNat).take ((q + 2).toNat - (at_ + 1).toNat)).length = (q + 2).toNat - (at_ + 1).toNat := by rw [List.length_take, List.length_drop]; omega
                     have F' := F.pick [1] (by decide)
                     rw [hr]
                     refine ⟨y, ?_, ?_, trivial⟩
                     · show _ = Value.tuple #[.int .i64 _, .slice y.1 (List.length _) y.2, _, _]
                       rw [hl']; rfl
                     · show Facts _ _ _ [own y.1 (List.length _) y.2 1 _]
                       rw [hl']; exact F')
            · first | replace hc12 := ne_of_beq_false ((irr_eq _).symm.trans hc12) | simp only [irr_eq, beq_iff_eq, beq_eq_false_iff_ne, ne_eq, decide_eq_true_eq, decide_eq_false_iff_not] at hc12
              refine k_skip ?_
              refine BlkK.nx (by assumption) ?_
              refine SeqK.nx (by assumption) ?_
              refine k_lin (fun W K => ?_)
              refine l_op 0 rfl rfl rfl rfl rfl ?_
              first | refine l_a64 rfl rfl rfl (by omega) rfl ?_ | refine l_a32 rfl rfl rfl (by omega) rfl ?_ | refine l_a8 rfl rfl rfl (by omega) rfl ?_ | refine l_au64 rfl rfl rfl (by omega) rfl ?_ | refine l_op 1 rfl rfl rfl rfl rfl ?_
              refine l_op 0 rfl rfl rfl rfl rfl ?_
              refine l_nil (WK.nx (by assumption) ?_)
              exact K0.nx (q + 2) (by repeat (first | exact trivial | refine And.intro rfl ?_)) ⟨F, by omega, by omega, by omega, fun j hj hj2 => by
                by_cases hjj : (j : Int) = q - (at_ + 1)
                · have e : j = (q - (at_ + 1)).toNat := by omega
                  rw [e, g1, g2]
                  omega
                · exact hnz j (by omega) hj2⟩ (by first | omega | (simp only; omega))
          · first | replace hc11 := ne_of_beq_false ((irr_eq _).symm.trans hc11) | simp only [irr_eq, beq_iff_eq, beq_eq_false_iff_ne, ne_eq, decide_eq_true_eq, decide_eq_false_iff_not] at hc11
            refine l_s rfl rfl ?_
            refine l_s rfl rfl ?_
            refine l_s rfl rfl ?_
            refine l_s rfl rfl ?_
            refine l_s rfl rfl ?_
            refine l_s rfl rfl ?_
            refine l_op 2 rfl rfl rfl rfl rfl ?_
            refine l_nil (WK.nx (by assumption) ?_)
            refine SeqK.nx (by assumption) ?_
            refine e_cond_f rfl rfl rfl ?_
            refine k_skip ?_
            refine BlkK.nx (by assumption) ?_
            refine SeqK.nx (by assumption) ?_
            refine k_lin (fun W K => ?_)
            refine l_op 0 rfl rfl rfl rfl rfl ?_
            first | refine l_a64 rfl rfl rfl (by omega) rfl ?_ | refine l_a32 rfl rfl rfl (by omega) rfl ?_ | refine l_a8 rfl rfl rfl (by omega) rfl ?_ | refine l_au64 rfl rfl rfl (by omega) rfl ?_ | refine l_op 1 rfl rfl rfl rfl rfl ?_
            refine l_op 0 rfl rfl rfl rfl rfl ?_
            refine l_nil (WK.nx (by assumption) ?_)
            exact K0.nx (q + 2) (by repeat (first | exact trivial | refine And.intro rfl ?_)) ⟨F, by omega, by omega, by omega, fun j hj hj2 => by
              by_cases hjj : (j : Int) = q - (at_ + 1)
              · have e : j = (q - (at_ + 1)).toNat := by omega
                rw [e, g1, g2]
                omega
              · exact hnz j (by omega) hj2⟩ (by first | omega | (simp only; omega))
        · replace hc10 := of_decide_eq_false ((irr_eq _).symm.trans hc10)
          have hz : (locR []).2.2 ≠ 0 → pr 0 (bs.drop (at_ + 1).toNat) = 0 := fun _ => by
            have := pr_nz (d := bs.drop (at_ + 1).toNat) (fun j hj hj2 => hnz j (by rw [List.length_drop] at hj; omega) hj2) _ 0 (Nat.le_refl _) rfl
            rwa [List.drop_zero] at this
          have hok : (locR []).2.2 = 0 → pr 0 (bs.drop (at_ + 1).toNat) = ((0 : Nat) : Int) ∧ 0 < 0 := fun he => by rw [locR_e] at he; exact (he.1 rfl).elim
          refine k_exit ?_
          refine SeqK.et (by assumption) ?_
          refine LoopK.et (by assumption) ?_
          refine BlkK.et (by assumption) ?_
          refine SeqK.nx (by assumption) ?_
          refine k_seq (fun Q K => ?_)
          refine k_seq (fun Q K => ?_)
          refine k_lin (fun W K => ?_)
          refine l_op 0 rfl rfl rfl rfl rfl ?_
          first
            | refine l_callp F rfl rfl (by kernel_rfl) rfl rfl (locals_call (bs := []) (Old.pure (F.has 0 rfl)) (fun i hi => by cases hi) (by omega)) (fun _ s F _ => ?_)
            | refine l_callp F rfl rfl (by kernel_rfl) rfl rfl (locals_call (Old.pure (F.has 1 rfl)) ((hB.drop _).take _) (by omega)) (fun _ s F _ => ?_)
          (try dsimp only [List.set_cons_zero, List.set_cons_succ, List.cons_append, List.nil_append, List.append_nil, pk, List.getElem?_cons_zero, List.getElem?_cons_succ] at F)
          refine l_op 0 rfl rfl rfl rfl rfl ?_
          refine l_op 2 rfl rfl rfl rfl rfl ?_
          refine l_op 2 rfl rfl rfl rfl rfl ?_
          refine l_op 2 rfl rfl rfl rfl rfl ?_
          refine l_op 0 rfl rfl rfl rfl rfl ?_
          refine l_op 0 rfl rfl rfl rfl rfl ?_
          refine l_op 0 rfl rfl rfl rfl rfl ?_
          refine l_nil (WK.nx (by assumption) ?_)
          refine SeqK.nx (by assumption) ?_
          refine k_seq (fun Q K => ?_)
          refine k_lin (fun W K => ?_)
          refine l_op 0 rfl rfl rfl rfl rfl ?_
          refine l_cmp rfl rfl rfl rfl ?_
          refine l_nil (WK.nx (by assumption) ?_)
          refine SeqK.nx (by assumption) ?_
          refine l_cond rfl rfl (fun hc14 => ?_) (fun hc14 => ?_)
          · first | replace hc14 := bne_iff_ne.1 ((irr_eq _).symm.trans hc14) | simp only [irr_eq, bne_iff_ne, bne_eq_false_iff_eq, ne_eq, decide_eq_true_eq, decide_eq_false_iff_not, Bool.not_eq_true', Bool.not_eq_false'] at hc14
            refine k_seq (fun Q K => ?_)
            refine k_lin (fun W K => ?_)
            refine l_op 0 rfl rfl rfl rfl rfl ?_
            refine l_op 0 rfl rfl rfl rfl rfl ?_
            refine l_op 0 rfl rfl rfl rfl rfl ?_
            refine l_op 0 rfl rfl rfl rfl rfl ?_
            refine l_nil (WK.nx (by assumption) ?_)
            refine SeqK.nx (by assumption) ?_
            refine k_ret ?_
            refine SeqK.rt (by assumption) ?_
            refine FunK.rt (by assumption) rfl ?_
            -- leaf 10
            first
              | (have hr : headR bs at_ = (0, [], 0, 1) := if_pos (by omega)
                 rw [hr]; exact ⟨(none, 0), rfl, F.pick [0] (by decide), trivial⟩)
              | (have hr : headR bs at_ = (0, [], 0, 90) := by
                   have := be1_no (by omega) hc2
                   unfold headR; rw [if_neg (by omega), if_pos this]
                 rw [hr]; exact ⟨(none, 0), rfl, F.pick [0] (by decide), trivial⟩)
              | (have hr : headR bs at_ = (0, [], 0, 112) := by
                   unfold headR; rw [if_neg (by omega), if_neg (by omega), if_pos (by omega)]
                 rw [hr]; exact ⟨(none, 0), rfl, F.pick [0] (by decide), trivial⟩)
              | (have hr : headR bs at_ = (0, [], 0, 112) := by
                   unfold headR; rw [if_neg (by omega), if_neg (by omega), if_neg (by omega), if_pos (hz (by assumption))]
                 rw [hr]; exact ⟨(none, 0), rfl, F.pick [0] (by decide), trivial⟩)
              | (have hok' := hok (by assumption); omega)
              | (obtain ⟨e1, e2⟩ := hok (by assumption)
                 have hr : headR bs at_ = ((beR bs at_ 1).1, (bs.drop (at_ + 1).toNat).take ((q + 2).toNat - (at_ + 1).toNat), 1 + (((q + 2).toNat - (at_ + 1).toNat : Nat) : Int), 0) := by
                   unfold headR; rw [if_neg (by omega), if_neg (by omega), if_neg (by omega), if_neg (by rw [e1]; omega), e1, Int.toNat_natCast, hv]
                 have hl' : ((bs.drop (at_ + 1).toNat).take ((q + 2).toNat - (at_ + 1).toNat)).length = (q + 2).toNat - (at_ + 1).toNat := by rw [List.length_take, List.length_drop]; omega
                 have F' := F.pick [1] (by decide)
                 rw [hr]
                 refine ⟨y, ?_, ?_, trivial⟩
                 · show _ = Value.tuple #[.int .i64 _, .slice y.1 (List.length _) y.2, _, _]
                   rw [hl']; rfl
                 · show Facts _ _ _ [own y.1 (List.length _) y.2 1 _]
                   rw [hl']; exact F')
          · first | replace hc14 := bne_eq_false_iff_eq.1 ((irr_eq _).symm.trans hc14) | simp only [irr_eq, bne_iff_ne, bne_eq_false_iff_eq, ne_eq, decide_eq_true_eq, decide_eq_false_iff_not, Bool.not_eq_true', Bool.not_eq_false'] at hc14
            refine k_skip ?_
            refine SeqK.nx (by assumption) ?_
            refine k_seq (fun Q K => ?_)
            refine k_lin (fun W K => ?_)
            refine l_op 0 rfl rfl rfl rfl rfl ?_
            first | refine l_c64 rfl rfl rfl (by omega) rfl ?_ | refine l_c32 rfl rfl rfl (by omega) rfl ?_ | refine l_c8 rfl rfl rfl (by omega) rfl ?_ | refine l_cu64 rfl rfl rfl (by omega) rfl ?_ | refine l_str rfl rfl rfl rfl rfl (F.old (by assumption)) ?_ | refine l_str rfl rfl rfl rfl rfl (F.has 0 rfl) ?_ | refine l_str rfl rfl rfl rfl rfl (F.has 1 rfl) ?_ | refine l_str rfl rfl rfl rfl rfl (F.has 2 rfl) ?_ | refine l_op 16 rfl rfl rfl rfl rfl ?_
            refine l_op 0 rfl rfl rfl rfl rfl ?_
            refine l_op 0 rfl rfl rfl rfl rfl ?_
            first | refine l_op 2 rfl rfl rfl rfl rfl ?_ | refine l_ln rfl rfl rfl rfl ?_
            first | refine l_a64 rfl rfl rfl (by omega) rfl ?_ | refine l_a32 rfl rfl rfl (by omega) rfl ?_ | refine l_a8 rfl rfl rfl (by omega) rfl ?_ | refine l_au64 rfl rfl rfl (by omega) rfl ?_ | refine l_op 1 rfl rfl rfl rfl rfl ?_
            refine l_op 0 rfl rfl rfl rfl rfl ?_
            refine l_op 0 rfl rfl rfl rfl rfl ?_
            refine l_op 0 rfl rfl rfl rfl rfl ?_
            refine l_op 0 rfl rfl rfl rfl rfl ?_
            refine l_nil (WK.nx (by assumption) ?_)
            refine SeqK.nx (by assumption) ?_
            refine k_ret ?_
            refine FunK.rt (by assumption) rfl ?_
            -- leaf 11
            first
              | (have hr : headR bs at_ = (0, [], 0, 1) := if_pos (by omega)
                 rw [hr]; exact ⟨(none, 0), rfl, F.pick [0] (by decide), trivial⟩)
              | (have hr : headR bs at_ = (0, [], 0, 90) := by
                   have := be1_no (by omega) hc2
                   unfold headR; rw [if_neg (by omega), if_pos this]
                 rw [hr]; exact ⟨(none, 0), rfl, F.pick [0] (by decide), trivial⟩)
              | (have hr : headR bs at_ = (0, [], 0, 112) := by
                   unfold headR; rw [if_neg (by omega), if_neg (by omega), if_pos (by omega)]
                 rw [hr]; exact ⟨(none, 0), rfl, F.pick [0] (by decide), trivial⟩)
              | (have hr : headR bs at_ = (0, [], 0, 112) := by
                   unfold headR; rw [if_neg (by omega), if_neg (by omega), if_neg (by omega), if_pos (hz (by assumption))]
                 rw [hr]; exact ⟨(none, 0), rfl, F.pick [0] (by decide), trivial⟩)
              | (have hok' := hok (by assumption); omega)
              | (obtain ⟨e1, e2⟩ := hok (by assumption)
                 have hr : headR bs at_ = ((beR bs at_ 1).1, (bs.drop (at_ + 1).toNat).take ((q + 2).toNat - (at_ + 1).toNat), 1 + (((q + 2).toNat - (at_ + 1).toNat : Nat) : Int), 0) := by
                   unfold headR; rw [if_neg (by omega), if_neg (by omega), if_neg (by omega), if_neg (by rw [e1]; omega), e1, Int.toNat_natCast, hv]
                 have hl' : ((bs.drop (at_ + 1).toNat).take ((q + 2).toNat - (at_ + 1).toNat)).length = (q + 2).toNat - (at_ + 1).toNat := by rw [List.length_take, List.length_drop]; omega
                 have F' := F.pick [1] (by decide)
                 rw [hr]
                 refine ⟨y, ?_, ?_, trivial⟩
                 · show _ = Value.tuple #[.int .i64 _, .slice y.1 (List.length _) y.2, _, _]
                   rw [hl']; rfl
                 · show Facts _ _ _ [own y.1 (List.length _) y.2 1 _]
                   rw [hl']; exact F')

end Go.Proofs.Ytkemnodaadlonaa
