/- Numbers of bytes, the highest first, by the document. No statement of the seat is proved in this text. -/
import Derived.Test.YtocfmecenpeoiaaGreatLibWBe
set_option linter.unusedVariables false
set_option linter.unusedSimpArgs false
set_option maxRecDepth 100000
set_option maxHeartbeats 4000000
namespace Go.Proofs.YtocfmecenpeoiaaGreat
open GAb Go

theorem rbe_call {σ : AState} {a : Option Addr} {l c : Nat} {bs : List Int} {at_ n : Int} (h : Old E0 σ a l c 1 (u8l bs)) (hB : Bytes bs) (hl : l ≤ 2000000) :
    SCall Tryz.prog E0 132 [.slice a l c, .int .i64 at_, .int .i64 n] σ (Ret E0 σ (fun (_ : Unit) => beV bs at_ n) (fun _ => []) fun _ => True) := by
  have hbl := h.len8
  refine k_fun Tryz.func132 rfl (m := 47) rfl fun B hD Q K => ?_
  have F := Facts.nil E0 σ
  refine k_seq fun Q K => k_lin fun W K => ?_
  iterate 2 refine l_op 0 rfl rfl rfl rfl rfl ?_
  refine l_nil (WK.nx ‹_› (SeqK.nx ‹_› ?_))
  refine k_seq fun Q K => k_seq fun Q K => k_lin fun W K => ?_
  refine l_op 0 rfl rfl rfl rfl rfl ?_
  refine l_cmp rfl rfl rfl rfl ?_
  refine l_op 0 rfl rfl rfl rfl rfl ?_
  refine l_guard rfl rfl rfl (fun hc1 => ?_) (fun hc1 => ?_)
  · replace hc1 := bne_iff_ne.1 ((irr_eq _).symm.trans hc1)
    refine l_op 0 rfl rfl rfl rfl rfl ?_
    refine l_cmp rfl rfl rfl rfl ?_
    refine l_op 2 rfl rfl rfl rfl rfl ?_
    refine l_op 0 rfl rfl rfl rfl rfl ?_
    refine l_guard rfl rfl rfl (fun hc2 => ?_) (fun hc2 => ?_)
    · replace hc2 := bne_iff_ne.1 ((irr_eq _).symm.trans hc2)
      refine l_op 0 rfl rfl rfl rfl rfl ?_
      refine l_cmp rfl rfl rfl rfl ?_
      refine l_op 2 rfl rfl rfl rfl rfl ?_
      refine l_op 0 rfl rfl rfl rfl rfl ?_
      refine l_guard rfl rfl rfl (fun hc3 => ?_) (fun hc3 => ?_)
      · replace hc3 := bne_iff_ne.1 ((irr_eq _).symm.trans hc3)
        iterate 2 refine l_s rfl rfl ?_
        refine l_op 2 rfl rfl rfl rfl rfl ?_
        refine l_nil (WK.nx ‹_› (SeqK.nx ‹_› ?_))
        refine e_cond_t rfl rfl rfl ?_
        refine k_seq fun Q K => k_lin fun W K => ?_
        iterate 2 refine l_op 0 rfl rfl rfl rfl rfl ?_
        refine l_nil (WK.nx ‹_› (SeqK.nx ‹_› (k_ret (SeqK.rt ‹_› ?_))))
        refine FunK.rt (by assumption) rfl ?_
        -- leaf 1
        refine ⟨(), ?_, F, trivial⟩
        exact (beV_arg (by omega)).symm
      replace hc3 := bne_eq_false_iff_eq.1 ((irr_eq _).symm.trans hc3)
      refine l_op 0 rfl rfl rfl rfl rfl ?_
      refine l_cmp rfl rfl rfl rfl ?_
      refine l_op 2 rfl rfl rfl rfl rfl ?_
      refine l_nil (WK.nx ‹_› (SeqK.nx ‹_› ?_))
      refine l_cond rfl rfl (fun hc4 => ?_) (fun hc4 => ?_)
      · replace hc4 := of_decide_eq_true ((irr_eq _).symm.trans hc4)
        refine k_seq fun Q K => k_lin fun W K => ?_
        iterate 2 refine l_op 0 rfl rfl rfl rfl rfl ?_
        refine l_nil (WK.nx ‹_› (SeqK.nx ‹_› (k_ret (SeqK.rt ‹_› ?_))))
        refine FunK.rt (by assumption) rfl ?_
        -- leaf 2
        refine ⟨(), ?_, F, trivial⟩
        exact (beV_arg (by omega)).symm
      replace hc4 := of_decide_eq_false ((irr_eq _).symm.trans hc4)
      refine k_skip (SeqK.nx ‹_› ?_)
      refine k_seq fun Q K => k_lin fun W K => ?_
      refine l_op 0 rfl rfl rfl rfl rfl ?_
      refine l_nil (WK.nx ‹_› (SeqK.nx ‹_› ?_))
      refine k_seq fun Q K => k_seq fun Q K => k_lin fun W K => ?_
      refine l_op 0 rfl rfl rfl rfl rfl ?_
      refine l_nil (WK.nx ‹_› (SeqK.nx ‹_› ?_))
      refine k_block fun Q K => ?_
      refine k_loop (α := Int × Int) (fun ⟨i, x⟩ s => Facts E0 σ s [] ∧ 0 ≤ i ∧ i ≤ n ∧ x = be bs at_.toNat i.toNat ∧ at_ + i ≤ l ∨ i = 0 ∧ Facts E0 σ s [] ∧ x = 0) (fun ⟨i, x⟩ => [(0, .slice a l c), (1, .int .i64 at_), (2, .int .i64 n), (8, .int .i64 x), (9, .int .i64 i)]) (fun ⟨i, _⟩ => (n - i).toNat) (0, 0) (.inr ⟨rfl, F, rfl⟩) (by repeat (first | exact trivial | refine And.intro rfl ?_)) ?_
      clear F
      rintro ⟨i, x⟩ env s Q K0 hI
      have F : Facts E0 σ s [] := by rcases hI with h | h; exact h.1; exact h.2.1
      have h0 : 0 ≤ i ∧ i ≤ n := by rcases hI with h | h <;> omega
      have hx : x = be bs at_.toNat i.toNat := by
        rcases hI with h | h
        · exact h.2.2.2.1
        · rw [h.2.2, h.1]; rfl
      have hai : i ≠ 0 → at_ + i ≤ l := by rcases hI with h | h <;> omega
      clear hI
      refine k_seq fun Q K => k_seq fun Q K => k_lin fun W K => ?_
      iterate 2 refine l_op 0 rfl rfl rfl rfl rfl ?_
      refine l_cmp rfl rfl rfl rfl ?_
      refine l_nil (WK.nx ‹_› (SeqK.nx ‹_› ?_))
      refine l_cond rfl rfl (fun hc5 => ?_) (fun hc5 => ?_)
      · replace hc5 := of_decide_eq_true ((irr_eq _).symm.trans hc5)
        refine k_skip (SeqK.nx ‹_› ?_)
        refine k_seq fun Q K => k_block fun Q K => k_seq fun Q K => k_seq fun Q K => k_lin fun W K => ?_
        iterate 2 refine l_op 0 rfl rfl rfl rfl rfl ?_
        refine l_op 2 rfl rfl rfl rfl rfl ?_
        refine l_op 0 rfl rfl rfl rfl rfl ?_
        refine l_a64 rfl rfl rfl (by omega) rfl ?_
        refine l_cmp rfl rfl rfl rfl ?_
        refine l_nil (WK.nx ‹_› (SeqK.nx ‹_› ?_))
        refine l_cond rfl rfl (fun hc6 => ?_) (fun hc6 => ?_)
        · replace hc6 := of_decide_eq_true ((irr_eq _).symm.trans hc6)
          refine k_seq fun Q K => k_lin fun W K => ?_
          iterate 2 refine l_op 0 rfl rfl rfl rfl rfl ?_
          refine l_nil (WK.nx ‹_› (SeqK.nx ‹_› (k_ret (SeqK.rt ‹_› (BlkK.rt ‹_› (SeqK.rt ‹_› ?_))))))
          refine LoopK.rt (by assumption) ?_
          refine BlkK.rt ‹_› (SeqK.rt ‹_› ?_)
          refine FunK.rt (by assumption) rfl ?_
          -- leaf 3
          refine ⟨(), ?_, F, trivial⟩
          exact (beV_short (by omega) (by omega)).symm
        replace hc6 := of_decide_eq_false ((irr_eq _).symm.trans hc6)
        have e1 : (at_ + i).toNat = at_.toNat + i.toNat := by omega
        have hcb := hB.at (at_ + i).toNat
        have hlt := be_lt hB at_.toNat (k := i.toNat) (by omega)
        refine k_skip (SeqK.nx ‹_› ?_)
        refine k_lin fun W K => ?_
        refine l_op 0 rfl rfl rfl rfl rfl ?_
        refine l_a64 rfl rfl rfl (by omega) rfl ?_
        iterate 3 refine l_op 0 rfl rfl rfl rfl rfl ?_
        refine l_a64 rfl rfl rfl (by omega) rfl ?_
        first | refine l_ixi rfl rfl rfl rfl rfl rfl (F.old (by assumption)) (by omega) (fun m41 b41 hA41 => ?_) | (refine l_ixoi F 0 rfl rfl rfl rfl rfl rfl rfl (by omega) (fun m e ha hA41 => ?_); cases ha) | (refine l_ixoi F 1 rfl rfl rfl rfl rfl rfl rfl (by omega) (fun m e ha hA41 => ?_); cases ha) | (refine l_ixoi F 2 rfl rfl rfl rfl rfl rfl rfl (by omega) (fun m e ha hA41 => ?_); cases ha) | (refine l_ixoi F 3 rfl rfl rfl rfl rfl rfl rfl (by omega) (fun m e ha hA41 => ?_); cases ha)
        refine l_ld0 rfl rfl rfl rfl rfl (by assumption) ?_
        refine l_c64 rfl rfl rfl (by omega) rfl ?_
        refine l_a64 rfl rfl rfl (by omega) rfl ?_
        refine l_op 0 rfl rfl rfl rfl rfl ?_
        refine l_nil (WK.nx ‹_› (BlkK.nx ‹_› (SeqK.nx ‹_› ?_)))
        refine k_lin fun W K => ?_
        refine l_op 0 rfl rfl rfl rfl rfl ?_
        refine l_a64 rfl rfl rfl (by omega) rfl ?_
        refine l_op 0 rfl rfl rfl rfl rfl ?_
        refine l_nil (WK.nx ‹_› ?_)
        have e2 : (i + 1).toNat = i.toNat + 1 := by omega
        exact K0.nx (i + 1, _) (by repeat (first | exact trivial | refine And.intro rfl ?_)) (.inl ⟨F, by omega, by omega, by rw [e2, be, ← e1, hx], by omega⟩) (by first | omega | (simp only; omega))
      replace hc5 := of_decide_eq_false ((irr_eq _).symm.trans hc5)
      refine k_exit ?_
      refine SeqK.et (by assumption) ?_
      refine LoopK.et (by assumption) ?_
      refine BlkK.et (by assumption) ?_
      refine SeqK.nx ‹_› ?_
      refine k_seq fun Q K => k_lin fun W K => ?_
      refine l_op 0 rfl rfl rfl rfl rfl ?_
      refine l_op 16 rfl rfl rfl rfl rfl ?_
      iterate 2 refine l_op 0 rfl rfl rfl rfl rfl ?_
      refine l_nil (WK.nx ‹_› (SeqK.nx ‹_› (k_ret ?_)))
      refine FunK.rt (by assumption) rfl ?_
      -- leaf 4
      refine ⟨(), ?_, F, trivial⟩
      (refine Eq.trans ?_ (beV_ok (by omega) (by omega)).symm
       have : i = n := by omega
       have hb := be_lt4 hB at_.toNat (k := n.toNat) (by omega)
       have hw : IntKind.u32.wrap x = be bs at_.toNat n.toNat := by rw [hx, this, wrap32 (by omega) (by omega)]
       rw [← hw]; rfl)
    replace hc2 := bne_eq_false_iff_eq.1 ((irr_eq _).symm.trans hc2)
    iterate 2 refine l_s rfl rfl ?_
    refine l_op 2 rfl rfl rfl rfl rfl ?_
    iterate 2 refine l_op 0 rfl rfl rfl rfl rfl ?_
    refine l_cmp rfl rfl rfl rfl ?_
    refine l_op 2 rfl rfl rfl rfl rfl ?_
    refine l_nil (WK.nx ‹_› (SeqK.nx ‹_› ?_))
    refine l_cond rfl rfl (fun hc7 => ?_) (fun hc7 => ?_)
    · replace hc7 := of_decide_eq_true ((irr_eq _).symm.trans hc7)
      refine k_seq fun Q K => k_lin fun W K => ?_
      iterate 2 refine l_op 0 rfl rfl rfl rfl rfl ?_
      refine l_nil (WK.nx ‹_› (SeqK.nx ‹_› (k_ret (SeqK.rt ‹_› ?_))))
      refine FunK.rt (by assumption) rfl ?_
      -- leaf 5
      refine ⟨(), ?_, F, trivial⟩
      exact (beV_arg (by omega)).symm
    replace hc7 := of_decide_eq_false ((irr_eq _).symm.trans hc7)
    refine k_skip (SeqK.nx ‹_› ?_)
    refine k_seq fun Q K => k_lin fun W K => ?_
    refine l_op 0 rfl rfl rfl rfl rfl ?_
    refine l_nil (WK.nx ‹_› (SeqK.nx ‹_› ?_))
    refine k_seq fun Q K => k_seq fun Q K => k_lin fun W K => ?_
    refine l_op 0 rfl rfl rfl rfl rfl ?_
    refine l_nil (WK.nx ‹_› (SeqK.nx ‹_› ?_))
    refine k_block fun Q K => ?_
    refine k_loop (α := Int × Int) (fun ⟨i, x⟩ s => Facts E0 σ s [] ∧ 0 ≤ i ∧ i ≤ n ∧ x = be bs at_.toNat i.toNat ∧ at_ + i ≤ l ∨ i = 0 ∧ Facts E0 σ s [] ∧ x = 0) (fun ⟨i, x⟩ => [(0, .slice a l c), (1, .int .i64 at_), (2, .int .i64 n), (8, .int .i64 x), (9, .int .i64 i)]) (fun ⟨i, _⟩ => (n - i).toNat) (0, 0) (.inr ⟨rfl, F, rfl⟩) (by repeat (first | exact trivial | refine And.intro rfl ?_)) ?_
    clear F
    rintro ⟨i, x⟩ env s Q K0 hI
    have F : Facts E0 σ s [] := by rcases hI with h | h; exact h.1; exact h.2.1
    have h0 : 0 ≤ i ∧ i ≤ n := by rcases hI with h | h <;> omega
    have hx : x = be bs at_.toNat i.toNat := by
      rcases hI with h | h
      · exact h.2.2.2.1
      · rw [h.2.2, h.1]; rfl
    have hai : i ≠ 0 → at_ + i ≤ l := by rcases hI with h | h <;> omega
    clear hI
    refine k_seq fun Q K => k_seq fun Q K => k_lin fun W K => ?_
    iterate 2 refine l_op 0 rfl rfl rfl rfl rfl ?_
    refine l_cmp rfl rfl rfl rfl ?_
    refine l_nil (WK.nx ‹_› (SeqK.nx ‹_› ?_))
    refine l_cond rfl rfl (fun hc8 => ?_) (fun hc8 => ?_)
    · replace hc8 := of_decide_eq_true ((irr_eq _).symm.trans hc8)
      refine k_skip (SeqK.nx ‹_› ?_)
      refine k_seq fun Q K => k_block fun Q K => k_seq fun Q K => k_seq fun Q K => k_lin fun W K => ?_
      iterate 2 refine l_op 0 rfl rfl rfl rfl rfl ?_
      refine l_op 2 rfl rfl rfl rfl rfl ?_
      refine l_op 0 rfl rfl rfl rfl rfl ?_
      refine l_a64 rfl rfl rfl (by omega) rfl ?_
      refine l_cmp rfl rfl rfl rfl ?_
      refine l_nil (WK.nx ‹_› (SeqK.nx ‹_› ?_))
      refine l_cond rfl rfl (fun hc9 => ?_) (fun hc9 => ?_)
      · replace hc9 := of_decide_eq_true ((irr_eq _).symm.trans hc9)
        refine k_seq fun Q K => k_lin fun W K => ?_
        iterate 2 refine l_op 0 rfl rfl rfl rfl rfl ?_
        refine l_nil (WK.nx ‹_› (SeqK.nx ‹_› (k_ret (SeqK.rt ‹_› (BlkK.rt ‹_› (SeqK.rt ‹_› ?_))))))
        refine LoopK.rt (by assumption) ?_
        refine BlkK.rt ‹_› (SeqK.rt ‹_› ?_)
        refine FunK.rt (by assumption) rfl ?_
        -- leaf 6
        refine ⟨(), ?_, F, trivial⟩
        exact (beV_short (by omega) (by omega)).symm
      replace hc9 := of_decide_eq_false ((irr_eq _).symm.trans hc9)
      have e1 : (at_ + i).toNat = at_.toNat + i.toNat := by omega
      have hcb := hB.at (at_ + i).toNat
      have hlt := be_lt hB at_.toNat (k := i.toNat) (by omega)
      refine k_skip (SeqK.nx ‹_› ?_)
      refine k_lin fun W K => ?_
      refine l_op 0 rfl rfl rfl rfl rfl ?_
      refine l_a64 rfl rfl rfl (by omega) rfl ?_
      iterate 3 refine l_op 0 rfl rfl rfl rfl rfl ?_
      refine l_a64 rfl rfl rfl (by omega) rfl ?_
      first | refine l_ixi rfl rfl rfl rfl rfl rfl (F.old (by assumption)) (by omega) (fun m41 b41 hA41 => ?_) | (refine l_ixoi F 0 rfl rfl rfl rfl rfl rfl rfl (by omega) (fun m e ha hA41 => ?_); cases ha) | (refine l_ixoi F 1 rfl rfl rfl rfl rfl rfl rfl (by omega) (fun m e ha hA41 => ?_); cases ha) | (refine l_ixoi F 2 rfl rfl rfl rfl rfl rfl rfl (by omega) (fun m e ha hA41 => ?_); cases ha) | (refine l_ixoi F 3 rfl rfl rfl rfl rfl rfl rfl (by omega) (fun m e ha hA41 => ?_); cases ha)
      refine l_ld0 rfl rfl rfl rfl rfl (by assumption) ?_
      refine l_c64 rfl rfl rfl (by omega) rfl ?_
      refine l_a64 rfl rfl rfl (by omega) rfl ?_
      refine l_op 0 rfl rfl rfl rfl rfl ?_
      refine l_nil (WK.nx ‹_› (BlkK.nx ‹_› (SeqK.nx ‹_› ?_)))
      refine k_lin fun W K => ?_
      refine l_op 0 rfl rfl rfl rfl rfl ?_
      refine l_a64 rfl rfl rfl (by omega) rfl ?_
      refine l_op 0 rfl rfl rfl rfl rfl ?_
      refine l_nil (WK.nx ‹_› ?_)
      have e2 : (i + 1).toNat = i.toNat + 1 := by omega
      exact K0.nx (i + 1, _) (by repeat (first | exact trivial | refine And.intro rfl ?_)) (.inl ⟨F, by omega, by omega, by rw [e2, be, ← e1, hx], by omega⟩) (by first | omega | (simp only; omega))
    replace hc8 := of_decide_eq_false ((irr_eq _).symm.trans hc8)
    refine k_exit ?_
    refine SeqK.et (by assumption) ?_
    refine LoopK.et (by assumption) ?_
    refine BlkK.et (by assumption) ?_
    refine SeqK.nx ‹_› ?_
    refine k_seq fun Q K => k_lin fun W K => ?_
    refine l_op 0 rfl rfl rfl rfl rfl ?_
    refine l_op 16 rfl rfl rfl rfl rfl ?_
    iterate 2 refine l_op 0 rfl rfl rfl rfl rfl ?_
    refine l_nil (WK.nx ‹_› (SeqK.nx ‹_› (k_ret ?_)))
    refine FunK.rt (by assumption) rfl ?_
    -- leaf 7
    refine ⟨(), ?_, F, trivial⟩
    (refine Eq.trans ?_ (beV_ok (by omega) (by omega)).symm
     have : i = n := by omega
     have hb := be_lt4 hB at_.toNat (k := n.toNat) (by omega)
     have hw : IntKind.u32.wrap x = be bs at_.toNat n.toNat := by rw [hx, this, wrap32 (by omega) (by omega)]
     rw [← hw]; rfl)
  replace hc1 := bne_eq_false_iff_eq.1 ((irr_eq _).symm.trans hc1)
  iterate 2 refine l_s rfl rfl ?_
  refine l_op 2 rfl rfl rfl rfl rfl ?_
  refine l_op 0 rfl rfl rfl rfl rfl ?_
  iterate 2 refine l_s rfl rfl ?_
  refine l_op 2 rfl rfl rfl rfl rfl ?_
  iterate 2 refine l_op 0 rfl rfl rfl rfl rfl ?_
  refine l_cmp rfl rfl rfl rfl ?_
  refine l_op 2 rfl rfl rfl rfl rfl ?_
  refine l_nil (WK.nx ‹_› (SeqK.nx ‹_› ?_))
  refine l_cond rfl rfl (fun hc10 => ?_) (fun hc10 => ?_)
  · replace hc10 := of_decide_eq_true ((irr_eq _).symm.trans hc10)
    refine k_seq fun Q K => k_lin fun W K => ?_
    iterate 2 refine l_op 0 rfl rfl rfl rfl rfl ?_
    refine l_nil (WK.nx ‹_› (SeqK.nx ‹_› (k_ret (SeqK.rt ‹_› ?_))))
    refine FunK.rt (by assumption) rfl ?_
    -- leaf 8
    refine ⟨(), ?_, F, trivial⟩
    exact (beV_arg (by omega)).symm
  replace hc10 := of_decide_eq_false ((irr_eq _).symm.trans hc10)
  refine k_skip (SeqK.nx ‹_› ?_)
  refine k_seq fun Q K => k_lin fun W K => ?_
  refine l_op 0 rfl rfl rfl rfl rfl ?_
  refine l_nil (WK.nx ‹_› (SeqK.nx ‹_› ?_))
  refine k_seq fun Q K => k_seq fun Q K => k_lin fun W K => ?_
  refine l_op 0 rfl rfl rfl rfl rfl ?_
  refine l_nil (WK.nx ‹_› (SeqK.nx ‹_› ?_))
  refine k_block fun Q K => ?_
  refine k_loop (α := Int × Int) (fun ⟨i, x⟩ s => Facts E0 σ s [] ∧ 0 ≤ i ∧ i ≤ n ∧ x = be bs at_.toNat i.toNat ∧ at_ + i ≤ l ∨ i = 0 ∧ Facts E0 σ s [] ∧ x = 0) (fun ⟨i, x⟩ => [(0, .slice a l c), (1, .int .i64 at_), (2, .int .i64 n), (8, .int .i64 x), (9, .int .i64 i)]) (fun ⟨i, _⟩ => (n - i).toNat) (0, 0) (.inr ⟨rfl, F, rfl⟩) (by repeat (first | exact trivial | refine And.intro rfl ?_)) ?_
  clear F
  rintro ⟨i, x⟩ env s Q K0 hI
  have F : Facts E0 σ s [] := by rcases hI with h | h; exact h.1; exact h.2.1
  have h0 : 0 ≤ i ∧ i ≤ n := by rcases hI with h | h <;> omega
  have hx : x = be bs at_.toNat i.toNat := by
    rcases hI with h | h
    · exact h.2.2.2.1
    · rw [h.2.2, h.1]; rfl
  have hai : i ≠ 0 → at_ + i ≤ l := by rcases hI with h | h <;> omega
  clear hI
  refine k_seq fun Q K => k_seq fun Q K => k_lin fun W K => ?_
  iterate 2 refine l_op 0 rfl rfl rfl rfl rfl ?_
  refine l_cmp rfl rfl rfl rfl ?_
  refine l_nil (WK.nx ‹_› (SeqK.nx ‹_› ?_))
  refine l_cond rfl rfl (fun hc11 => ?_) (fun hc11 => ?_)
  · replace hc11 := of_decide_eq_true ((irr_eq _).symm.trans hc11)
    refine k_skip (SeqK.nx ‹_› ?_)
    refine k_seq fun Q K => k_block fun Q K => k_seq fun Q K => k_seq fun Q K => k_lin fun W K => ?_
    iterate 2 refine l_op 0 rfl rfl rfl rfl rfl ?_
    refine l_op 2 rfl rfl rfl rfl rfl ?_
    refine l_op 0 rfl rfl rfl rfl rfl ?_
    refine l_a64 rfl rfl rfl (by omega) rfl ?_
    refine l_cmp rfl rfl rfl rfl ?_
    refine l_nil (WK.nx ‹_› (SeqK.nx ‹_› ?_))
    refine l_cond rfl rfl (fun hc12 => ?_) (fun hc12 => ?_)
    · replace hc12 := of_decide_eq_true ((irr_eq _).symm.trans hc12)
      refine k_seq fun Q K => k_lin fun W K => ?_
      iterate 2 refine l_op 0 rfl rfl rfl rfl rfl ?_
      refine l_nil (WK.nx ‹_› (SeqK.nx ‹_› (k_ret (SeqK.rt ‹_› (BlkK.rt ‹_› (SeqK.rt ‹_› ?_))))))
      refine LoopK.rt (by assumption) ?_
      refine BlkK.rt ‹_› (SeqK.rt ‹_› ?_)
      refine FunK.rt (by assumption) rfl ?_
      -- leaf 9
      refine ⟨(), ?_, F, trivial⟩
      exact (beV_short (by omega) (by omega)).symm
    replace hc12 := of_decide_eq_false ((irr_eq _).symm.trans hc12)
    have e1 : (at_ + i).toNat = at_.toNat + i.toNat := by omega
    have hcb := hB.at (at_ + i).toNat
    have hlt := be_lt hB at_.toNat (k := i.toNat) (by omega)
    refine k_skip (SeqK.nx ‹_› ?_)
    refine k_lin fun W K => ?_
    refine l_op 0 rfl rfl rfl rfl rfl ?_
    refine l_a64 rfl rfl rfl (by omega) rfl ?_
    iterate 3 refine l_op 0 rfl rfl rfl rfl rfl ?_
    refine l_a64 rfl rfl rfl (by omega) rfl ?_
    first | refine l_ixi rfl rfl rfl rfl rfl rfl (F.old (by assumption)) (by omega) (fun m41 b41 hA41 => ?_) | (refine l_ixoi F 0 rfl rfl rfl rfl rfl rfl rfl (by omega) (fun m e ha hA41 => ?_); cases ha) | (refine l_ixoi F 1 rfl rfl rfl rfl rfl rfl rfl (by omega) (fun m e ha hA41 => ?_); cases ha) | (refine l_ixoi F 2 rfl rfl rfl rfl rfl rfl rfl (by omega) (fun m e ha hA41 => ?_); cases ha) | (refine l_ixoi F 3 rfl rfl rfl rfl rfl rfl rfl (by omega) (fun m e ha hA41 => ?_); cases ha)
    refine l_ld0 rfl rfl rfl rfl rfl (by assumption) ?_
    refine l_c64 rfl rfl rfl (by omega) rfl ?_
    refine l_a64 rfl rfl rfl (by omega) rfl ?_
    refine l_op 0 rfl rfl rfl rfl rfl ?_
    refine l_nil (WK.nx ‹_› (BlkK.nx ‹_› (SeqK.nx ‹_› ?_)))
    refine k_lin fun W K => ?_
    refine l_op 0 rfl rfl rfl rfl rfl ?_
    refine l_a64 rfl rfl rfl (by omega) rfl ?_
    refine l_op 0 rfl rfl rfl rfl rfl ?_
    refine l_nil (WK.nx ‹_› ?_)
    have e2 : (i + 1).toNat = i.toNat + 1 := by omega
    exact K0.nx (i + 1, _) (by repeat (first | exact trivial | refine And.intro rfl ?_)) (.inl ⟨F, by omega, by omega, by rw [e2, be, ← e1, hx], by omega⟩) (by first | omega | (simp only; omega))
  replace hc11 := of_decide_eq_false ((irr_eq _).symm.trans hc11)
  refine k_exit ?_
  refine SeqK.et (by assumption) ?_
  refine LoopK.et (by assumption) ?_
  refine BlkK.et (by assumption) ?_
  refine SeqK.nx ‹_› ?_
  refine k_seq fun Q K => k_lin fun W K => ?_
  refine l_op 0 rfl rfl rfl rfl rfl ?_
  refine l_op 16 rfl rfl rfl rfl rfl ?_
  iterate 2 refine l_op 0 rfl rfl rfl rfl rfl ?_
  refine l_nil (WK.nx ‹_› (SeqK.nx ‹_› (k_ret ?_)))
  refine FunK.rt (by assumption) rfl ?_
  -- leaf 10
  refine ⟨(), ?_, F, trivial⟩
  (refine Eq.trans ?_ (beV_ok (by omega) (by omega)).symm
   have : i = n := by omega
   have hb := be_lt4 hB at_.toNat (k := n.toNat) (by omega)
   have hw : IntKind.u32.wrap x = be bs at_.toNat n.toNat := by rw [hx, this, wrap32 (by omega) (by omega)]
   rw [← hw]; rfl)

end Go.Proofs.YtocfmecenpeoiaaGreat
