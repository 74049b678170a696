/- How many bytes a format has, by the program. No statement of the seat is proved in this text. -/
import Derived.Test.YtocfmecenpeoiaaGreatWd
set_option linter.unusedVariables false
set_option linter.unusedSimpArgs false
set_option maxRecDepth 100000
set_option maxHeartbeats 4000000
namespace Go.Proofs.YtocfmecenpeoiaaGreat.Stk
open GAb Go

/-- A format's bytes, read from a place on; 0: there is none. -/
def pr : Nat → List Int → Int
  | i, x :: y :: r => if x = 0 ∧ y = 0 then i + 2 else if y = 0 ∨ (x ≠ 1 ∧ x ≠ 2 ∧ x ≠ 4) then 0 else pr (i + 2) r
  | _, _ => 0
theorem pr_at {b : List Int} {i : Nat} (h : i + 1 < b.length) : pr i (b.drop i) = if b.getD i 0 = 0 ∧ b.getD (i + 1) 0 = 0 then (i : Int) + 2 else if b.getD (i + 1) 0 = 0 ∨ (b.getD i 0 ≠ 1 ∧ b.getD i 0 ≠ 2 ∧ b.getD i 0 ≠ 4) then 0 else pr (i + 2) (b.drop (i + 2)) := by
  have e1 : b.drop i = b.getD i 0 :: b.getD (i + 1) 0 :: b.drop (i + 2) := by
    rw [List.drop_eq_getElem_cons (by omega), List.drop_eq_getElem_cons h]
    have h0 : i < b.length := by omega
    simp [List.getD, h, h0]
  rw [e1, pr]
theorem pr_end {b : List Int} {i : Nat} (h : b.length ≤ i + 1) : pr i (b.drop i) = 0 := by
  have : (b.drop i).length ≤ 1 := by simp; omega
  match hb : b.drop i, this with
  | [], _ => rfl
  | [_], _ => rfl

theorem pairs_call {σ : AState} {a : Option Addr} {l c : Nat} {bs : List Int} (h : Old E0 σ a l c 1 (u8l bs)) (hl : l ≤ 1000000) :
    SCall Tryz.prog E0 158 [.slice a l c] σ (Ret E0 σ (fun (_ : Unit) => .int .i64 (pr 0 bs)) (fun _ => []) fun _ => True) := by
  have hbl := h.len8
  refine k_fun Tryz.func158 rfl (m := 55) rfl fun B hD Q K => ?_
  have F := Facts.nil E0 σ
  refine k_seq fun Q K => k_lin fun W K => ?_
  refine l_op 0 rfl rfl rfl rfl rfl ?_
  refine l_nil (WK.nx ‹_› (SeqK.nx ‹_› ?_))
  refine k_seq fun Q K => k_seq fun Q K => k_lin fun W K => ?_
  refine l_op 0 rfl rfl rfl rfl rfl ?_
  refine l_nil (WK.nx ‹_› (SeqK.nx ‹_› ?_))
  refine k_block fun Q K => ?_
  refine k_loop (α := Int) (fun i s => Facts E0 σ s [] ∧ 0 ≤ i ∧ i ≤ l + 2 ∧ pr i.toNat (bs.drop i.toNat) = pr 0 bs) (fun i => [(0, .slice a l c), (3, .int .i64 i)]) (fun i => (l + 2 - i).toNat) 0 ⟨F, by omega, by omega, rfl⟩ (by repeat (first | exact trivial | refine And.intro rfl ?_)) ?_
  clear F
  rintro i env s Q K0 ⟨F, h0, hi, hq⟩
  have e1 : (i + 1).toNat = i.toNat + 1 := by omega
  have e2 : (i + 2).toNat = i.toNat + 2 := by omega
  refine k_seq fun Q K => k_seq fun Q K => k_lin fun W K => ?_
  refine l_op 0 rfl rfl rfl rfl rfl ?_
  refine l_a64 rfl rfl rfl (by omega) rfl ?_
  refine l_op 0 rfl rfl rfl rfl rfl ?_
  refine l_op 2 rfl rfl rfl rfl rfl ?_
  refine l_cmp rfl rfl rfl rfl ?_
  refine l_nil (WK.nx ‹_› (SeqK.nx ‹_› ?_))
  refine l_cond rfl rfl (fun hc1 => ?_) (fun hc1 => ?_)
  · replace hc1 := of_decide_eq_true ((irr_eq _).symm.trans hc1)
    rw [pr_at (by omega)] at hq
    rw [← e1, ← e2] at hq
    refine k_skip (SeqK.nx ‹_› ?_)
    refine k_seq fun Q K => k_block fun Q K => k_block fun Q K => k_seq fun Q K => k_lin fun W K => ?_
    iterate 2 refine l_op 0 rfl rfl rfl rfl rfl ?_
    first | refine l_ixi rfl rfl rfl rfl rfl rfl (F.old (by assumption)) (by omega) (fun m14 b14 hA14 => ?_) | (refine l_ixoi F 0 rfl rfl rfl rfl rfl rfl rfl (by omega) (fun m e ha hA14 => ?_); cases ha) | (refine l_ixoi F 1 rfl rfl rfl rfl rfl rfl rfl (by omega) (fun m e ha hA14 => ?_); cases ha) | (refine l_ixoi F 2 rfl rfl rfl rfl rfl rfl rfl (by omega) (fun m e ha hA14 => ?_); cases ha) | (refine l_ixoi F 3 rfl rfl rfl rfl rfl rfl rfl (by omega) (fun m e ha hA14 => ?_); cases ha)
    refine l_ld0 rfl rfl rfl rfl rfl (by assumption) ?_
    refine l_cmp rfl rfl rfl rfl ?_
    refine l_op 0 rfl rfl rfl rfl rfl ?_
    refine l_guard rfl rfl rfl (fun hc2 => ?_) (fun hc2 => ?_)
    · replace hc2 := eq_of_beq ((irr_eq _).symm.trans hc2)
      iterate 2 refine l_op 0 rfl rfl rfl rfl rfl ?_
      refine l_a64 rfl rfl rfl (by omega) rfl ?_
      first | refine l_ixi rfl rfl rfl rfl rfl rfl (F.old (by assumption)) (by omega) (fun m21 b21 hA21 => ?_) | (refine l_ixoi F 0 rfl rfl rfl rfl rfl rfl rfl (by omega) (fun m e ha hA21 => ?_); cases ha) | (refine l_ixoi F 1 rfl rfl rfl rfl rfl rfl rfl (by omega) (fun m e ha hA21 => ?_); cases ha) | (refine l_ixoi F 2 rfl rfl rfl rfl rfl rfl rfl (by omega) (fun m e ha hA21 => ?_); cases ha) | (refine l_ixoi F 3 rfl rfl rfl rfl rfl rfl rfl (by omega) (fun m e ha hA21 => ?_); cases ha)
      refine l_ld0 rfl rfl rfl rfl rfl (by assumption) ?_
      refine l_cmp rfl rfl rfl rfl ?_
      refine l_op 2 rfl rfl rfl rfl rfl ?_
      refine l_op 0 rfl rfl rfl rfl rfl ?_
      refine l_nil (WK.nx ‹_› (SeqK.nx ‹_› ?_))
      refine l_cond rfl rfl (fun hc3 => ?_) (fun hc3 => ?_)
      · replace hc3 := eq_of_beq ((irr_eq _).symm.trans hc3)
        refine k_seq fun Q K => k_lin fun W K => ?_
        refine l_op 0 rfl rfl rfl rfl rfl ?_
        refine l_a64 rfl rfl rfl (by omega) rfl ?_
        refine l_op 0 rfl rfl rfl rfl rfl ?_
        refine l_nil (WK.nx ‹_› (SeqK.nx ‹_› (k_ret (BlkK.rt ‹_› (BlkK.rt ‹_› (SeqK.rt ‹_› ?_))))))
        refine LoopK.rt (by assumption) ?_
        refine BlkK.rt ‹_› (SeqK.rt ‹_› ?_)
        refine FunK.rt (by assumption) rfl ?_
        -- leaf 1
        exact ⟨(), by first | (rw [← hq]; rfl) | (rw [if_pos (by omega)] at hq; rw [← hq]; simp only [one]; congr 1; omega) | (rw [if_neg (by omega), if_pos (by omega)] at hq; rw [← hq]; rfl), F, trivial⟩
      replace hc3 := ne_of_beq_false ((irr_eq _).symm.trans hc3)
      refine k_seq fun Q K => k_lin fun W K => ?_
      iterate 2 refine l_op 0 rfl rfl rfl rfl rfl ?_
      refine l_a64 rfl rfl rfl (by omega) rfl ?_
      first | refine l_ixi rfl rfl rfl rfl rfl rfl (F.old (by assumption)) (by omega) (fun m31 b31 hA31 => ?_) | (refine l_ixoi F 0 rfl rfl rfl rfl rfl rfl rfl (by omega) (fun m e ha hA31 => ?_); cases ha) | (refine l_ixoi F 1 rfl rfl rfl rfl rfl rfl rfl (by omega) (fun m e ha hA31 => ?_); cases ha) | (refine l_ixoi F 2 rfl rfl rfl rfl rfl rfl rfl (by omega) (fun m e ha hA31 => ?_); cases ha) | (refine l_ixoi F 3 rfl rfl rfl rfl rfl rfl rfl (by omega) (fun m e ha hA31 => ?_); cases ha)
      refine l_ld0 rfl rfl rfl rfl rfl (by assumption) ?_
      refine l_cmp rfl rfl rfl rfl ?_
      refine l_op 0 rfl rfl rfl rfl rfl ?_
      refine l_guard rfl rfl rfl (fun hc4 => ?_) (fun hc4 => ?_)
      · replace hc4 := eq_of_beq ((irr_eq _).symm.trans hc4)
        iterate 19 refine l_s rfl rfl ?_
        refine l_op 2 rfl rfl rfl rfl rfl ?_
        refine l_op 0 rfl rfl rfl rfl rfl ?_
        refine l_nil (WK.nx ‹_› (SeqK.nx ‹_› ?_))
        refine e_cond_t rfl rfl rfl ?_
        refine k_seq fun Q K => k_lin fun W K => ?_
        refine l_op 0 rfl rfl rfl rfl rfl ?_
        refine l_nil (WK.nx ‹_› (SeqK.nx ‹_› (k_ret (BlkK.rt ‹_› (BlkK.rt ‹_› (SeqK.rt ‹_› ?_))))))
        refine LoopK.rt (by assumption) ?_
        refine BlkK.rt ‹_› (SeqK.rt ‹_› ?_)
        refine FunK.rt (by assumption) rfl ?_
        -- leaf 2
        exact ⟨(), by first | (rw [← hq]; rfl) | (rw [if_pos (by omega)] at hq; rw [← hq]; simp only [one]; congr 1; omega) | (rw [if_neg (by omega), if_pos (by omega)] at hq; rw [← hq]; rfl), F, trivial⟩
      replace hc4 := ne_of_beq_false ((irr_eq _).symm.trans hc4)
      iterate 2 refine l_op 0 rfl rfl rfl rfl rfl ?_
      first | refine l_ixi rfl rfl rfl rfl rfl rfl (F.old (by assumption)) (by omega) (fun m37 b37 hA37 => ?_) | (refine l_ixoi F 0 rfl rfl rfl rfl rfl rfl rfl (by omega) (fun m e ha hA37 => ?_); cases ha) | (refine l_ixoi F 1 rfl rfl rfl rfl rfl rfl rfl (by omega) (fun m e ha hA37 => ?_); cases ha) | (refine l_ixoi F 2 rfl rfl rfl rfl rfl rfl rfl (by omega) (fun m e ha hA37 => ?_); cases ha) | (refine l_ixoi F 3 rfl rfl rfl rfl rfl rfl rfl (by omega) (fun m e ha hA37 => ?_); cases ha)
      refine l_ld0 rfl rfl rfl rfl rfl (by assumption) ?_
      refine l_cmp rfl rfl rfl rfl ?_
      refine l_op 0 rfl rfl rfl rfl rfl ?_
      refine l_guard rfl rfl rfl (fun hc5 => ?_) (fun hc5 => ?_)
      · replace hc5 := bne_iff_ne.1 ((irr_eq _).symm.trans hc5)
        iterate 2 refine l_op 0 rfl rfl rfl rfl rfl ?_
        first | refine l_ixi rfl rfl rfl rfl rfl rfl (F.old (by assumption)) (by omega) (fun m43 b43 hA43 => ?_) | (refine l_ixoi F 0 rfl rfl rfl rfl rfl rfl rfl (by omega) (fun m e ha hA43 => ?_); cases ha) | (refine l_ixoi F 1 rfl rfl rfl rfl rfl rfl rfl (by omega) (fun m e ha hA43 => ?_); cases ha) | (refine l_ixoi F 2 rfl rfl rfl rfl rfl rfl rfl (by omega) (fun m e ha hA43 => ?_); cases ha) | (refine l_ixoi F 3 rfl rfl rfl rfl rfl rfl rfl (by omega) (fun m e ha hA43 => ?_); cases ha)
        refine l_ld0 rfl rfl rfl rfl rfl (by assumption) ?_
        refine l_cmp rfl rfl rfl rfl ?_
        refine l_op 2 rfl rfl rfl rfl rfl ?_
        refine l_op 0 rfl rfl rfl rfl rfl ?_
        refine l_guard rfl rfl rfl (fun hc6 => ?_) (fun hc6 => ?_)
        · replace hc6 := bne_iff_ne.1 ((irr_eq _).symm.trans hc6)
          iterate 2 refine l_op 0 rfl rfl rfl rfl rfl ?_
          first | refine l_ixi rfl rfl rfl rfl rfl rfl (F.old (by assumption)) (by omega) (fun m50 b50 hA50 => ?_) | (refine l_ixoi F 0 rfl rfl rfl rfl rfl rfl rfl (by omega) (fun m e ha hA50 => ?_); cases ha) | (refine l_ixoi F 1 rfl rfl rfl rfl rfl rfl rfl (by omega) (fun m e ha hA50 => ?_); cases ha) | (refine l_ixoi F 2 rfl rfl rfl rfl rfl rfl rfl (by omega) (fun m e ha hA50 => ?_); cases ha) | (refine l_ixoi F 3 rfl rfl rfl rfl rfl rfl rfl (by omega) (fun m e ha hA50 => ?_); cases ha)
          refine l_ld0 rfl rfl rfl rfl rfl (by assumption) ?_
          refine l_cmp rfl rfl rfl rfl ?_
          iterate 2 refine l_op 2 rfl rfl rfl rfl rfl ?_
          refine l_op 0 rfl rfl rfl rfl rfl ?_
          refine l_nil (WK.nx ‹_› (SeqK.nx ‹_› ?_))
          refine l_cond rfl rfl (fun hc7 => ?_) (fun hc7 => ?_)
          · replace hc7 := bne_iff_ne.1 ((irr_eq _).symm.trans hc7)
            refine k_seq fun Q K => k_lin fun W K => ?_
            refine l_op 0 rfl rfl rfl rfl rfl ?_
            refine l_nil (WK.nx ‹_› (SeqK.nx ‹_› (k_ret (BlkK.rt ‹_› (BlkK.rt ‹_› (SeqK.rt ‹_› ?_))))))
            refine LoopK.rt (by assumption) ?_
            refine BlkK.rt ‹_› (SeqK.rt ‹_› ?_)
            refine FunK.rt (by assumption) rfl ?_
            -- leaf 3
            exact ⟨(), by first | (rw [← hq]; rfl) | (rw [if_pos (by omega)] at hq; rw [← hq]; simp only [one]; congr 1; omega) | (rw [if_neg (by omega), if_pos (by omega)] at hq; rw [← hq]; rfl), F, trivial⟩
          replace hc7 := bne_eq_false_iff_eq.1 ((irr_eq _).symm.trans hc7)
          refine k_skip (BlkK.nx ‹_› (BlkK.nx ‹_› (SeqK.nx ‹_› ?_)))
          refine k_lin fun W K => ?_
          refine l_op 0 rfl rfl rfl rfl rfl ?_
          refine l_a64 rfl rfl rfl (by omega) rfl ?_
          refine l_op 0 rfl rfl rfl rfl rfl ?_
          refine l_nil (WK.nx ‹_› ?_)
          rw [if_neg (by omega), if_neg (by omega)] at hq
          exact K0.nx (i + 2) (by repeat (first | exact trivial | refine And.intro rfl ?_)) ⟨F, by omega, by omega, hq⟩ (by omega)
        replace hc6 := bne_eq_false_iff_eq.1 ((irr_eq _).symm.trans hc6)
        iterate 5 refine l_s rfl rfl ?_
        iterate 2 refine l_op 2 rfl rfl rfl rfl rfl ?_
        refine l_op 0 rfl rfl rfl rfl rfl ?_
        refine l_nil (WK.nx ‹_› (SeqK.nx ‹_› ?_))
        refine e_cond_f rfl rfl rfl ?_
        refine k_skip (BlkK.nx ‹_› (BlkK.nx ‹_› (SeqK.nx ‹_› ?_)))
        refine k_lin fun W K => ?_
        refine l_op 0 rfl rfl rfl rfl rfl ?_
        refine l_a64 rfl rfl rfl (by omega) rfl ?_
        refine l_op 0 rfl rfl rfl rfl rfl ?_
        refine l_nil (WK.nx ‹_› ?_)
        rw [if_neg (by omega), if_neg (by omega)] at hq
        exact K0.nx (i + 2) (by repeat (first | exact trivial | refine And.intro rfl ?_)) ⟨F, by omega, by omega, hq⟩ (by omega)
      replace hc5 := bne_eq_false_iff_eq.1 ((irr_eq _).symm.trans hc5)
      iterate 5 refine l_s rfl rfl ?_
      refine l_op 2 rfl rfl rfl rfl rfl ?_
      refine l_op 0 rfl rfl rfl rfl rfl ?_
      iterate 5 refine l_s rfl rfl ?_
      iterate 2 refine l_op 2 rfl rfl rfl rfl rfl ?_
      refine l_op 0 rfl rfl rfl rfl rfl ?_
      refine l_nil (WK.nx ‹_› (SeqK.nx ‹_› ?_))
      refine e_cond_f rfl rfl rfl ?_
      refine k_skip (BlkK.nx ‹_› (BlkK.nx ‹_› (SeqK.nx ‹_› ?_)))
      refine k_lin fun W K => ?_
      refine l_op 0 rfl rfl rfl rfl rfl ?_
      refine l_a64 rfl rfl rfl (by omega) rfl ?_
      refine l_op 0 rfl rfl rfl rfl rfl ?_
      refine l_nil (WK.nx ‹_› ?_)
      rw [if_neg (by omega), if_neg (by omega)] at hq
      exact K0.nx (i + 2) (by repeat (first | exact trivial | refine And.intro rfl ?_)) ⟨F, by omega, by omega, hq⟩ (by omega)
    replace hc2 := ne_of_beq_false ((irr_eq _).symm.trans hc2)
    iterate 6 refine l_s rfl rfl ?_
    refine l_op 2 rfl rfl rfl rfl rfl ?_
    refine l_op 0 rfl rfl rfl rfl rfl ?_
    refine l_nil (WK.nx ‹_› (SeqK.nx ‹_› ?_))
    refine e_cond_f rfl rfl rfl ?_
    refine k_seq fun Q K => k_lin fun W K => ?_
    iterate 2 refine l_op 0 rfl rfl rfl rfl rfl ?_
    refine l_a64 rfl rfl rfl (by omega) rfl ?_
    first | refine l_ixi rfl rfl rfl rfl rfl rfl (F.old (by assumption)) (by omega) (fun m31 b31 hA31 => ?_) | (refine l_ixoi F 0 rfl rfl rfl rfl rfl rfl rfl (by omega) (fun m e ha hA31 => ?_); cases ha) | (refine l_ixoi F 1 rfl rfl rfl rfl rfl rfl rfl (by omega) (fun m e ha hA31 => ?_); cases ha) | (refine l_ixoi F 2 rfl rfl rfl rfl rfl rfl rfl (by omega) (fun m e ha hA31 => ?_); cases ha) | (refine l_ixoi F 3 rfl rfl rfl rfl rfl rfl rfl (by omega) (fun m e ha hA31 => ?_); cases ha)
    refine l_ld0 rfl rfl rfl rfl rfl (by assumption) ?_
    refine l_cmp rfl rfl rfl rfl ?_
    refine l_op 0 rfl rfl rfl rfl rfl ?_
    refine l_guard rfl rfl rfl (fun hc8 => ?_) (fun hc8 => ?_)
    · replace hc8 := eq_of_beq ((irr_eq _).symm.trans hc8)
      iterate 19 refine l_s rfl rfl ?_
      refine l_op 2 rfl rfl rfl rfl rfl ?_
      refine l_op 0 rfl rfl rfl rfl rfl ?_
      refine l_nil (WK.nx ‹_› (SeqK.nx ‹_› ?_))
      refine e_cond_t rfl rfl rfl ?_
      refine k_seq fun Q K => k_lin fun W K => ?_
      refine l_op 0 rfl rfl rfl rfl rfl ?_
      refine l_nil (WK.nx ‹_› (SeqK.nx ‹_› (k_ret (BlkK.rt ‹_› (BlkK.rt ‹_› (SeqK.rt ‹_› ?_))))))
      refine LoopK.rt (by assumption) ?_
      refine BlkK.rt ‹_› (SeqK.rt ‹_› ?_)
      refine FunK.rt (by assumption) rfl ?_
      -- leaf 4
      exact ⟨(), by first | (rw [← hq]; rfl) | (rw [if_pos (by omega)] at hq; rw [← hq]; simp only [one]; congr 1; omega) | (rw [if_neg (by omega), if_pos (by omega)] at hq; rw [← hq]; rfl), F, trivial⟩
    replace hc8 := ne_of_beq_false ((irr_eq _).symm.trans hc8)
    iterate 2 refine l_op 0 rfl rfl rfl rfl rfl ?_
    first | refine l_ixi rfl rfl rfl rfl rfl rfl (F.old (by assumption)) (by omega) (fun m37 b37 hA37 => ?_) | (refine l_ixoi F 0 rfl rfl rfl rfl rfl rfl rfl (by omega) (fun m e ha hA37 => ?_); cases ha) | (refine l_ixoi F 1 rfl rfl rfl rfl rfl rfl rfl (by omega) (fun m e ha hA37 => ?_); cases ha) | (refine l_ixoi F 2 rfl rfl rfl rfl rfl rfl rfl (by omega) (fun m e ha hA37 => ?_); cases ha) | (refine l_ixoi F 3 rfl rfl rfl rfl rfl rfl rfl (by omega) (fun m e ha hA37 => ?_); cases ha)
    refine l_ld0 rfl rfl rfl rfl rfl (by assumption) ?_
    refine l_cmp rfl rfl rfl rfl ?_
    refine l_op 0 rfl rfl rfl rfl rfl ?_
    refine l_guard rfl rfl rfl (fun hc9 => ?_) (fun hc9 => ?_)
    · replace hc9 := bne_iff_ne.1 ((irr_eq _).symm.trans hc9)
      iterate 2 refine l_op 0 rfl rfl rfl rfl rfl ?_
      first | refine l_ixi rfl rfl rfl rfl rfl rfl (F.old (by assumption)) (by omega) (fun m43 b43 hA43 => ?_) | (refine l_ixoi F 0 rfl rfl rfl rfl rfl rfl rfl (by omega) (fun m e ha hA43 => ?_); cases ha) | (refine l_ixoi F 1 rfl rfl rfl rfl rfl rfl rfl (by omega) (fun m e ha hA43 => ?_); cases ha) | (refine l_ixoi F 2 rfl rfl rfl rfl rfl rfl rfl (by omega) (fun m e ha hA43 => ?_); cases ha) | (refine l_ixoi F 3 rfl rfl rfl rfl rfl rfl rfl (by omega) (fun m e ha hA43 => ?_); cases ha)
      refine l_ld0 rfl rfl rfl rfl rfl (by assumption) ?_
      refine l_cmp rfl rfl rfl rfl ?_
      refine l_op 2 rfl rfl rfl rfl rfl ?_
      refine l_op 0 rfl rfl rfl rfl rfl ?_
      refine l_guard rfl rfl rfl (fun hc10 => ?_) (fun hc10 => ?_)
      · replace hc10 := bne_iff_ne.1 ((irr_eq _).symm.trans hc10)
        iterate 2 refine l_op 0 rfl rfl rfl rfl rfl ?_
        first | refine l_ixi rfl rfl rfl rfl rfl rfl (F.old (by assumption)) (by omega) (fun m50 b50 hA50 => ?_) | (refine l_ixoi F 0 rfl rfl rfl rfl rfl rfl rfl (by omega) (fun m e ha hA50 => ?_); cases ha) | (refine l_ixoi F 1 rfl rfl rfl rfl rfl rfl rfl (by omega) (fun m e ha hA50 => ?_); cases ha) | (refine l_ixoi F 2 rfl rfl rfl rfl rfl rfl rfl (by omega) (fun m e ha hA50 => ?_); cases ha) | (refine l_ixoi F 3 rfl rfl rfl rfl rfl rfl rfl (by omega) (fun m e ha hA50 => ?_); cases ha)
        refine l_ld0 rfl rfl rfl rfl rfl (by assumption) ?_
        refine l_cmp rfl rfl rfl rfl ?_
        iterate 2 refine l_op 2 rfl rfl rfl rfl rfl ?_
        refine l_op 0 rfl rfl rfl rfl rfl ?_
        refine l_nil (WK.nx ‹_› (SeqK.nx ‹_› ?_))
        refine l_cond rfl rfl (fun hc11 => ?_) (fun hc11 => ?_)
        · replace hc11 := bne_iff_ne.1 ((irr_eq _).symm.trans hc11)
          refine k_seq fun Q K => k_lin fun W K => ?_
          refine l_op 0 rfl rfl rfl rfl rfl ?_
          refine l_nil (WK.nx ‹_› (SeqK.nx ‹_› (k_ret (BlkK.rt ‹_› (BlkK.rt ‹_› (SeqK.rt ‹_› ?_))))))
          refine LoopK.rt (by assumption) ?_
          refine BlkK.rt ‹_› (SeqK.rt ‹_› ?_)
          refine FunK.rt (by assumption) rfl ?_
          -- leaf 5
          exact ⟨(), by first | (rw [← hq]; rfl) | (rw [if_pos (by omega)] at hq; rw [← hq]; simp only [one]; congr 1; omega) | (rw [if_neg (by omega), if_pos (by omega)] at hq; rw [← hq]; rfl), F, trivial⟩
        replace hc11 := bne_eq_false_iff_eq.1 ((irr_eq _).symm.trans hc11)
        refine k_skip (BlkK.nx ‹_› (BlkK.nx ‹_› (SeqK.nx ‹_› ?_)))
        refine k_lin fun W K => ?_
        refine l_op 0 rfl rfl rfl rfl rfl ?_
        refine l_a64 rfl rfl rfl (by omega) rfl ?_
        refine l_op 0 rfl rfl rfl rfl rfl ?_
        refine l_nil (WK.nx ‹_› ?_)
        rw [if_neg (by omega), if_neg (by omega)] at hq
        exact K0.nx (i + 2) (by repeat (first | exact trivial | refine And.intro rfl ?_)) ⟨F, by omega, by omega, hq⟩ (by omega)
      replace hc10 := bne_eq_false_iff_eq.1 ((irr_eq _).symm.trans hc10)
      iterate 5 refine l_s rfl rfl ?_
      iterate 2 refine l_op 2 rfl rfl rfl rfl rfl ?_
      refine l_op 0 rfl rfl rfl rfl rfl ?_
      refine l_nil (WK.nx ‹_› (SeqK.nx ‹_› ?_))
      refine e_cond_f rfl rfl rfl ?_
      refine k_skip (BlkK.nx ‹_› (BlkK.nx ‹_› (SeqK.nx ‹_› ?_)))
      refine k_lin fun W K => ?_
      refine l_op 0 rfl rfl rfl rfl rfl ?_
      refine l_a64 rfl rfl rfl (by omega) rfl ?_
      refine l_op 0 rfl rfl rfl rfl rfl ?_
      refine l_nil (WK.nx ‹_› ?_)
      rw [if_neg (by omega), if_neg (by omega)] at hq
      exact K0.nx (i + 2) (by repeat (first | exact trivial | refine And.intro rfl ?_)) ⟨F, by omega, by omega, hq⟩ (by omega)
    replace hc9 := bne_eq_false_iff_eq.1 ((irr_eq _).symm.trans hc9)
    iterate 5 refine l_s rfl rfl ?_
    refine l_op 2 rfl rfl rfl rfl rfl ?_
    refine l_op 0 rfl rfl rfl rfl rfl ?_
    iterate 5 refine l_s rfl rfl ?_
    iterate 2 refine l_op 2 rfl rfl rfl rfl rfl ?_
    refine l_op 0 rfl rfl rfl rfl rfl ?_
    refine l_nil (WK.nx ‹_› (SeqK.nx ‹_› ?_))
    refine e_cond_f rfl rfl rfl ?_
    refine k_skip (BlkK.nx ‹_› (BlkK.nx ‹_› (SeqK.nx ‹_› ?_)))
    refine k_lin fun W K => ?_
    refine l_op 0 rfl rfl rfl rfl rfl ?_
    refine l_a64 rfl rfl rfl (by omega) rfl ?_
    refine l_op 0 rfl rfl rfl rfl rfl ?_
    refine l_nil (WK.nx ‹_› ?_)
    rw [if_neg (by omega), if_neg (by omega)] at hq
    exact K0.nx (i + 2) (by repeat (first | exact trivial | refine And.intro rfl ?_)) ⟨F, by omega, by omega, hq⟩ (by omega)
  replace hc1 := of_decide_eq_false ((irr_eq _).symm.trans hc1)
  rw [pr_end (by omega)] at hq
  refine k_exit ?_
  refine SeqK.et (by assumption) ?_
  refine LoopK.et (by assumption) ?_
  refine BlkK.et (by assumption) ?_
  refine SeqK.nx ‹_› ?_
  refine k_seq fun Q K => k_lin fun W K => ?_
  refine l_op 0 rfl rfl rfl rfl rfl ?_
  refine l_nil (WK.nx ‹_› (SeqK.nx ‹_› (k_ret ?_)))
  refine FunK.rt (by assumption) rfl ?_
  -- leaf 6
  exact ⟨(), by first | (rw [← hq]; rfl) | (rw [if_pos (by omega)] at hq; rw [← hq]; simp only [one]; congr 1; omega) | (rw [if_neg (by omega), if_pos (by omega)] at hq; rw [← hq]; rfl), F, trivial⟩

end Go.Proofs.YtocfmecenpeoiaaGreat.Stk
