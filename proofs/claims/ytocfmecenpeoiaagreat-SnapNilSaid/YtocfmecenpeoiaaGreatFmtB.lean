/- Formats: where locals begin, how many bytes they have, by the document. No statement of the seat is proved in this text. -/
import Derived.Test.YtocfmecenpeoiaaGreatFmtA
set_option linter.unusedVariables false
set_option linter.unusedSimpArgs false
set_option maxRecDepth 100000
set_option maxHeartbeats 4000000
namespace Go.Proofs.YtocfmecenpeoiaaGreat.Stk
open GAb Go

theorem up_call {σ : AState} {x to : Int} (h0 : 0 ≤ x) (h1 : x ≤ 1000000000) (ht : to = 1 ∨ to = 2 ∨ to = 4) :
    SCall Tryz.prog E0 164 [.int .i64 x, .int .i64 to] σ (Ret E0 σ (fun (_ : Unit) => .int .i64 ((x + to - 1) / to * to)) (fun _ => []) fun _ => True) := by
  have hup : x ≤ (x + to - 1) / to * to ∧ (x + to - 1) / to * to ≤ x + 3 := by rcases ht with rfl | rfl | rfl <;> omega
  refine k_fun Tryz.func164 rfl (m := 12) rfl fun B hD Q K => ?_
  have F := Facts.nil E0 σ
  refine k_seq fun Q K => k_lin fun W K => ?_
  refine l_op 0 rfl rfl rfl rfl rfl ?_
  refine l_nil (WK.nx ‹_› (SeqK.nx ‹_› ?_))
  refine k_seq fun Q K => k_block fun Q K => ?_
  refine k_loop (α := Int) (fun i s => Facts E0 σ s [] ∧ x ≤ i ∧ i ≤ (x + to - 1) / to * to) (fun i => [(0, .int .i64 i), (1, .int .i64 to)]) (fun i => ((x + to - 1) / to * to - i).toNat) x ⟨F, by omega, by omega⟩ (by repeat (first | exact trivial | refine And.intro rfl ?_)) ?_
  clear F
  rintro i env s Q K0 ⟨F, h0', hi⟩
  refine k_seq fun Q K => k_seq fun Q K => k_lin fun W K => ?_
  iterate 2 refine l_op 0 rfl rfl rfl rfl rfl ?_
  refine l_remn rfl rfl rfl rfl rfl (by omega) rfl ?_
  refine l_cmp rfl rfl rfl rfl ?_
  refine l_nil (WK.nx ‹_› (SeqK.nx ‹_› ?_))
  refine l_cond rfl rfl (fun hc1 => ?_) (fun hc1 => ?_)
  · replace hc1 := bne_iff_ne.1 ((irr_eq _).symm.trans hc1)
    have hlt : i < (x + to - 1) / to * to := by
      rcases ht with rfl | rfl | rfl <;> omega
    refine k_skip (SeqK.nx ‹_› ?_)
    refine k_block fun Q K => k_lin fun W K => ?_
    refine l_op 0 rfl rfl rfl rfl rfl ?_
    refine l_a64 rfl rfl rfl (by omega) rfl ?_
    refine l_op 0 rfl rfl rfl rfl rfl ?_
    refine l_nil (WK.nx ‹_› (BlkK.nx ‹_› ?_))
    exact K0.nx (i + 1) (by repeat (first | exact trivial | refine And.intro rfl ?_)) ⟨F, by omega, by omega⟩ (by omega)
  replace hc1 := bne_eq_false_iff_eq.1 ((irr_eq _).symm.trans hc1)
  have he : i = (x + to - 1) / to * to := by
    rcases ht with rfl | rfl | rfl <;> omega
  refine k_exit ?_
  refine SeqK.et (by assumption) ?_
  refine LoopK.et (by assumption) ?_
  refine BlkK.et (by assumption) ?_
  refine SeqK.nx ‹_› ?_
  refine k_seq fun Q K => k_lin fun W K => ?_
  iterate 2 refine l_op 0 rfl rfl rfl rfl rfl ?_
  refine l_nil (WK.nx ‹_› (SeqK.nx ‹_› (k_ret ?_)))
  refine FunK.rt (by assumption) rfl ?_
  -- leaf 1
  exact ⟨(), by rw [← he]; rfl, F, trivial⟩

theorem slots_call {σ : AState} {a : Option Addr} {l c : Nat} {bs : List Int} (h : Old E0 σ a l c 1 (u8l bs)) (hl : l ≤ 20000) (hev : l % 2 = 0) (hv : ∀ i : Int, 0 ≤ i → i % 2 = 0 → i + 3 < l → (bs.getD i.toNat 0 = 1 ∨ bs.getD i.toNat 0 = 2 ∨ bs.getD i.toNat 0 = 4) ∧ 1 ≤ bs.getD (i + 1).toNat 0 ∧ bs.getD (i + 1).toNat 0 ≤ 255) :
    SCall Tryz.prog E0 163 [.slice a l c] σ (Ret E0 σ (fun (y : Option Addr × Nat × Nat × List Value) => .tuple #[.slice y.1 y.2.1 y.2.2.1, .int .i64 ((T bs (l - 2) + 4 - 1) / 4 * 4)]) (fun y => [own y.1 y.2.1 y.2.2.1 2 y.2.2.2]) fun _ => 0 ≤ T bs (l - 2) ∧ T bs (l - 2) ≤ 600 * l) := by
  have hbl := h.len8
  refine k_fun Tryz.func163 rfl (m := 52) rfl fun B hD Q K => ?_
  have F := (Facts.nil E0 σ).nilrow 2
  refine k_seq fun Q K => k_lin fun W K => ?_
  iterate 2 refine l_op 0 rfl rfl rfl rfl rfl ?_
  refine l_nil (WK.nx ‹_› (SeqK.nx ‹_› ?_))
  refine k_seq fun Q K => k_lin fun W K => ?_
  refine l_op 0 rfl rfl rfl rfl rfl ?_
  refine l_nil (WK.nx ‹_› (SeqK.nx ‹_› ?_))
  refine k_seq fun Q K => k_lin fun W K => ?_
  refine l_op 0 rfl rfl rfl rfl rfl ?_
  refine l_nil (WK.nx ‹_› (SeqK.nx ‹_› ?_))
  refine k_seq fun Q K => k_seq fun Q K => k_lin fun W K => ?_
  refine l_op 0 rfl rfl rfl rfl rfl ?_
  refine l_nil (WK.nx ‹_› (SeqK.nx ‹_› ?_))
  refine k_block fun Q K => ?_
  refine k_loop (α := Int × Int × Option Addr × Nat × Nat × List Value) (fun ⟨i, at_, x, k, e, vs⟩ s => Facts E0 σ s [own x k e 2 vs] ∧ 0 ≤ i ∧ i % 2 = 0 ∧ (i = 0 ∨ i + 2 ≤ l) ∧ at_ = T bs i ∧ 0 ≤ at_ ∧ at_ ≤ 600 * i ∧ k ≤ 256 * i) (fun ⟨i, at_, x, k, e, vs⟩ => [(0, .slice a l c), (4, .slice x k e), (5, .int .i64 at_), (6, .int .i64 i)]) (fun ⟨i, _⟩ => (l - i).toNat) (0, 0, none, 0, 0, []) ⟨F, by omega, by omega, by omega, rfl, by omega, by omega, by omega⟩ (by repeat (first | exact trivial | refine And.intro rfl ?_)) ?_
  clear F
  rintro ⟨i, at_, x, k, e, vs⟩ env s Q K0 ⟨F, h0, h2, hi, hat, h3, h4, h5⟩
  have e1 : (i + 1).toNat = i.toNat + 1 := by omega
  refine k_seq fun Q K => k_seq fun Q K => k_lin fun W K => ?_
  refine l_op 0 rfl rfl rfl rfl rfl ?_
  refine l_a64 rfl rfl rfl (by omega) rfl ?_
  refine l_op 0 rfl rfl rfl rfl rfl ?_
  refine l_op 2 rfl rfl rfl rfl rfl ?_
  refine l_cmp rfl rfl rfl rfl ?_
  refine l_nil (WK.nx ‹_› (SeqK.nx ‹_› ?_))
  refine l_cond rfl rfl (fun hc1 => ?_) (fun hc1 => ?_)
  · replace hc1 := of_decide_eq_true ((irr_eq _).symm.trans hc1)
    obtain ⟨hn, hk1, hk2⟩ := hv i h0 h2 (by omega)
    have hT := T_succ bs h0 h2
    refine k_skip (SeqK.nx ‹_› ?_)
    refine k_seq fun Q K => k_block fun Q K => k_seq fun Q K => k_lin fun W K => ?_
    refine l_op 0 rfl rfl rfl rfl rfl ?_
    refine l_nil (WK.nx ‹_› (SeqK.nx ‹_› ?_))
    refine k_block fun Q K => ?_
    refine k_loop (α := Int × Int × Option Addr × Nat × Nat × List Value) (fun ⟨j, a2, x, k', e, vs⟩ s => Facts E0 σ s [own x k' e 2 vs] ∧ 0 ≤ j ∧ j ≤ (bs.getD (i + 1).toNat 0) ∧ (j = 0 ∧ a2 = at_ ∨ 1 ≤ j ∧ a2 = (at_ + (bs.getD i.toNat 0) - 1) / (bs.getD i.toNat 0) * (bs.getD i.toNat 0) + (bs.getD i.toNat 0) * j) ∧ 0 ≤ a2 ∧ a2 ≤ at_ + 3 + 4 * j ∧ k' ≤ k + j) (fun ⟨j, a2, x, k', e, vs⟩ => [(0, .slice a l c), (4, .slice x k' e), (5, .int .i64 a2), (6, .int .i64 i), (7, .int .i64 j)]) (fun ⟨j, _⟩ => ((bs.getD (i + 1).toNat 0) - j).toNat) (0, at_, x, k, e, vs) ⟨F, by omega, by omega, by omega, by omega, by omega, by omega⟩ (by repeat (first | exact trivial | refine And.intro rfl ?_)) ?_
    clear F
    rintro ⟨j, a2, x', k', e', vs'⟩ env s Q K1 ⟨F, j0, jm, ja, ja0, ja1, jk⟩
    have hup := up_le (a := a2) hn
    refine k_seq fun Q K => k_seq fun Q K => k_lin fun W K => ?_
    iterate 3 refine l_op 0 rfl rfl rfl rfl rfl ?_
    refine l_a64 rfl rfl rfl (by omega) rfl ?_
    first | refine l_ixi rfl rfl rfl rfl rfl rfl (F.old (by assumption)) (by omega) (fun m19 b19 hA19 => ?_) | (refine l_ixoi F 0 rfl rfl rfl rfl rfl rfl rfl (by omega) (fun m e ha hA19 => ?_); cases ha) | (refine l_ixoi F 1 rfl rfl rfl rfl rfl rfl rfl (by omega) (fun m e ha hA19 => ?_); cases ha) | (refine l_ixoi F 2 rfl rfl rfl rfl rfl rfl rfl (by omega) (fun m e ha hA19 => ?_); cases ha) | (refine l_ixoi F 3 rfl rfl rfl rfl rfl rfl rfl (by omega) (fun m e ha hA19 => ?_); cases ha)
    refine l_ld0 rfl rfl rfl rfl rfl (by assumption) ?_
    refine l_c64 rfl rfl rfl (by omega) rfl ?_
    refine l_cmp rfl rfl rfl rfl ?_
    refine l_nil (WK.nx ‹_› (SeqK.nx ‹_› ?_))
    refine l_cond rfl rfl (fun hc2 => ?_) (fun hc2 => ?_)
    · replace hc2 := of_decide_eq_true ((irr_eq _).symm.trans hc2)
      refine k_skip (SeqK.nx ‹_› ?_)
      refine k_seq fun Q K => k_block fun Q K => k_seq fun Q K => k_lin fun W K => ?_
      iterate 3 refine l_op 0 rfl rfl rfl rfl rfl ?_
      first | refine l_ixi rfl rfl rfl rfl rfl rfl (F.old (by assumption)) (by omega) (fun m28 b28 hA28 => ?_) | (refine l_ixoi F 0 rfl rfl rfl rfl rfl rfl rfl (by omega) (fun m e ha hA28 => ?_); cases ha) | (refine l_ixoi F 1 rfl rfl rfl rfl rfl rfl rfl (by omega) (fun m e ha hA28 => ?_); cases ha) | (refine l_ixoi F 2 rfl rfl rfl rfl rfl rfl rfl (by omega) (fun m e ha hA28 => ?_); cases ha) | (refine l_ixoi F 3 rfl rfl rfl rfl rfl rfl rfl (by omega) (fun m e ha hA28 => ?_); cases ha)
      refine l_ld0 rfl rfl rfl rfl rfl (by assumption) ?_
      refine l_c64 rfl rfl rfl (by omega) rfl ?_
      refine l_callp F rfl rfl (by kernel_rfl) rfl rfl (up_call (by omega) (by omega) (by first | exact hn | exact .inr (.inr rfl))) (fun _ s F _ => ?_)
      (try dsimp only [n_1, n_2, n_3, n_4, List.append_nil, pk, n_5, n_6] at F)
      refine l_op 0 rfl rfl rfl rfl rfl ?_
      refine l_nil (WK.nx ‹_› (SeqK.nx ‹_› ?_))
      refine k_seq fun Q K => k_lin fun W K => ?_
      iterate 4 refine l_op 0 rfl rfl rfl rfl rfl ?_
      first | refine l_ixi rfl rfl rfl rfl rfl rfl (F.old (by assumption)) (by omega) (fun m36 b36 hA36 => ?_) | (refine l_ixoi F 0 rfl rfl rfl rfl rfl rfl rfl (by omega) (fun m e ha hA36 => ?_); cases ha) | (refine l_ixoi F 1 rfl rfl rfl rfl rfl rfl rfl (by omega) (fun m e ha hA36 => ?_); cases ha) | (refine l_ixoi F 2 rfl rfl rfl rfl rfl rfl rfl (by omega) (fun m e ha hA36 => ?_); cases ha) | (refine l_ixoi F 3 rfl rfl rfl rfl rfl rfl rfl (by omega) (fun m e ha hA36 => ?_); cases ha)
      refine l_ld0 rfl rfl rfl rfl rfl (by assumption) ?_
      refine l_c64 rfl rfl rfl (by omega) rfl ?_
      refine l_bld rfl rfl rfl rfl ?_
      refine l_lit F rfl rfl rfl rfl (fun q40 s F => ?_)
      (try dsimp only [n_1, n_2, n_3, n_4, List.append_nil, pk, n_5, n_6] at F)
      refine l_app F 0 rfl rfl rfl rfl rfl rfl rfl (F.has 1 rfl) rfl rfl (by omega) hD (fun x2 c2 s F => ?_)
      (try dsimp only [n_1, n_2, n_3, n_4, List.append_nil, pk, n_5, n_6] at F)
      refine l_op 0 rfl rfl rfl rfl rfl ?_
      refine l_nil (WK.nx ‹_› (SeqK.nx ‹_› ?_))
      refine k_lin fun W K => ?_
      iterate 3 refine l_op 0 rfl rfl rfl rfl rfl ?_
      first | refine l_ixi rfl rfl rfl rfl rfl rfl (F.old (by assumption)) (by omega) (fun m45 b45 hA45 => ?_) | (refine l_ixoi F 0 rfl rfl rfl rfl rfl rfl rfl (by omega) (fun m e ha hA45 => ?_); cases ha) | (refine l_ixoi F 1 rfl rfl rfl rfl rfl rfl rfl (by omega) (fun m e ha hA45 => ?_); cases ha) | (refine l_ixoi F 2 rfl rfl rfl rfl rfl rfl rfl (by omega) (fun m e ha hA45 => ?_); cases ha) | (refine l_ixoi F 3 rfl rfl rfl rfl rfl rfl rfl (by omega) (fun m e ha hA45 => ?_); cases ha)
      refine l_ld0 rfl rfl rfl rfl rfl (by assumption) ?_
      refine l_c64 rfl rfl rfl (by omega) rfl ?_
      refine l_a64 rfl rfl rfl (by omega) rfl ?_
      refine l_op 0 rfl rfl rfl rfl rfl ?_
      refine l_nil (WK.nx ‹_› (BlkK.nx ‹_› (SeqK.nx ‹_› ?_)))
      refine k_lin fun W K => ?_
      refine l_op 0 rfl rfl rfl rfl rfl ?_
      refine l_a64 rfl rfl rfl (by omega) rfl ?_
      refine l_op 0 rfl rfl rfl rfl rfl ?_
      refine l_nil (WK.nx ‹_› ?_)
      have hmod : a2 % (bs.getD i.toNat 0) = 0 ∨ j = 0 := by
        rcases ja with h | ⟨_, h⟩
        · exact .inr h.1
        · refine .inl ?_
          rw [h, Int.add_mul_emod_self_left]; exact up_mod hn
      have hnew : (a2 + (bs.getD i.toNat 0) - 1) / (bs.getD i.toNat 0) * (bs.getD i.toNat 0) + (bs.getD i.toNat 0) = (at_ + (bs.getD i.toNat 0) - 1) / (bs.getD i.toNat 0) * (bs.getD i.toNat 0) + (bs.getD i.toNat 0) * (j + 1) := by
        rw [Int.mul_add, Int.mul_one]
        rcases ja with ⟨h1, h2⟩ | ⟨h1, h2⟩
        · rw [h2, h1]; omega
        · rw [up_same hn (by rcases hmod with h | h; exact h; omega)]; omega
      have hm4 : (bs.getD i.toNat 0) * (j + 1) ≤ 4 * (j + 1) := by rcases hn with h | h | h <;> rw [h] <;> omega
      have hup2 := up_le (a := at_) hn
      refine K1.nx (j + 1, _, x2, _, c2, _) (by repeat (first | exact trivial | refine And.intro rfl ?_)) ⟨F.pick [0] (by decide), by omega, by omega, .inr ⟨by omega, ?_⟩, ?_, ?_, ?_⟩ (by first | omega | (simp only; omega)) <;> omega
    replace hc2 := of_decide_eq_false ((irr_eq _).symm.trans hc2)
    have hj : j = (bs.getD (i + 1).toNat 0) := by omega
    refine k_exit ?_
    refine SeqK.et (by assumption) ?_
    refine LoopK.et (by assumption) ?_
    refine BlkK.et (by assumption) ?_
    refine BlkK.nx ‹_› (SeqK.nx ‹_› ?_)
    refine k_lin fun W K => ?_
    refine l_op 0 rfl rfl rfl rfl rfl ?_
    refine l_a64 rfl rfl rfl (by omega) rfl ?_
    refine l_op 0 rfl rfl rfl rfl rfl ?_
    refine l_nil (WK.nx ‹_› ?_)
    have : a2 = T bs (i + 2) := by rw [hT, ← hat]; rcases ja with h | ⟨_, h⟩; omega; rw [h, hj]
    exact K0.nx (i + 2, a2, x', k', e', vs') (by repeat (first | exact trivial | refine And.intro rfl ?_)) ⟨F, by omega, by omega, by omega, this, by omega, by omega, by omega⟩ (by simp only; omega)
  replace hc1 := of_decide_eq_false ((irr_eq _).symm.trans hc1)
  refine k_exit ?_
  refine SeqK.et (by assumption) ?_
  refine LoopK.et (by assumption) ?_
  refine BlkK.et (by assumption) ?_
  refine SeqK.nx ‹_› ?_
  refine k_seq fun Q K => k_lin fun W K => ?_
  iterate 2 refine l_op 0 rfl rfl rfl rfl rfl ?_
  refine l_callp F rfl rfl (by kernel_rfl) rfl rfl (up_call (by omega) (by omega) (by first | exact hn | exact .inr (.inr rfl))) (fun _ s F _ => ?_)
  (try dsimp only [n_1, n_2, n_3, n_4, List.append_nil, pk, n_5, n_6] at F)
  iterate 2 refine l_op 0 rfl rfl rfl rfl rfl ?_
  refine l_nil (WK.nx ‹_› (SeqK.nx ‹_› (k_ret ?_)))
  refine FunK.rt (by assumption) rfl ?_
  -- leaf 1
  have hT2 : T bs (l - 2) = at_ := by
    rw [hat]
    rcases hi with rfl | hi
    · have : ((l : Int) - 2).toNat / 2 = 0 := by omega
      unfold T; rw [this]; rfl
    · congr 1; omega
  refine ⟨(x, k, e, vs), ?_, F.pick [0] (by decide), by omega, by omega⟩
  rw [hT2]; rfl

theorem rlocals_call {σ : AState} {a : Option Addr} {l c : Nat} {bs : List Int} (h : Old E0 σ a l c 1 (u8l bs)) (hB : Bytes bs) (hl : l ≤ 20000) :
    SCall Tryz.prog E0 110 [.slice a l c] σ (Ret E0 σ (fun (y : Unit) => locV bs) (fun y => []) fun _ => True) := by
  have hbl := h.len8
  refine k_fun Tryz.func110 rfl (m := 27) rfl fun B hD Q K => ?_
  have F := Facts.nil E0 σ
  refine k_seq fun Q K => k_lin fun W K => ?_
  iterate 3 refine l_op 0 rfl rfl rfl rfl rfl ?_
  refine l_nil (WK.nx ‹_› (SeqK.nx ‹_› ?_))
  refine k_seq fun Q K => k_seq fun Q K => k_lin fun W K => ?_
  refine l_op 0 rfl rfl rfl rfl rfl ?_
  refine l_op 2 rfl rfl rfl rfl rfl ?_
  refine l_cmp rfl rfl rfl rfl ?_
  refine l_op 0 rfl rfl rfl rfl rfl ?_
  refine l_guard rfl rfl rfl (fun hc1 => ?_) (fun hc1 => ?_)
  · replace hc1 := eq_of_beq ((irr_eq _).symm.trans hc1)
    iterate 5 refine l_s rfl rfl ?_
    refine l_op 2 rfl rfl rfl rfl rfl ?_
    refine l_nil (WK.nx ‹_› (SeqK.nx ‹_› ?_))
    refine e_cond_t rfl rfl rfl ?_
    refine k_seq fun Q K => k_lin fun W K => ?_
    iterate 3 refine l_op 0 rfl rfl rfl rfl rfl ?_
    refine l_nil (WK.nx ‹_› (SeqK.nx ‹_› (k_ret (SeqK.rt ‹_› ?_))))
    refine FunK.rt (by assumption) rfl ?_
    -- leaf 1
    refine ⟨(), ?_, F.pick [] (by decide), trivial⟩
    exact (locV_bad (by omega)).symm
  replace hc1 := ne_of_beq_false ((irr_eq _).symm.trans hc1)
  refine l_op 0 rfl rfl rfl rfl rfl ?_
  refine l_callp F rfl rfl (by kernel_rfl) rfl rfl (format_call (Old.pure (F.old h)) (by omega)) (fun _ s F _ => ?_)
  (try dsimp only [n_1, n_2, n_3, n_4, List.append_nil, pk, n_5, n_6] at F)
  refine l_op 0 rfl rfl rfl rfl rfl ?_
  refine l_op 2 rfl rfl rfl rfl rfl ?_
  refine l_cmp rfl rfl rfl rfl ?_
  refine l_op 2 rfl rfl rfl rfl rfl ?_
  refine l_nil (WK.nx ‹_› (SeqK.nx ‹_› ?_))
  refine l_cond rfl rfl (fun hc2 => ?_) (fun hc2 => ?_)
  · replace hc2 := bne_iff_ne.1 ((irr_eq _).symm.trans hc2)
    refine k_seq fun Q K => k_lin fun W K => ?_
    iterate 3 refine l_op 0 rfl rfl rfl rfl rfl ?_
    refine l_nil (WK.nx ‹_› (SeqK.nx ‹_› (k_ret (SeqK.rt ‹_› ?_))))
    refine FunK.rt (by assumption) rfl ?_
    -- leaf 2
    refine ⟨(), ?_, F.pick [] (by decide), trivial⟩
    exact (locV_bad (by omega)).symm
  replace hc2 := bne_eq_false_iff_eq.1 ((irr_eq _).symm.trans hc2)
  have hp0 : pr 0 bs ≠ 0 := by omega
  obtain ⟨hev, h2l, hv⟩ := fmt_valid hB (by omega) (by omega)
  have hv' : ∀ i : Int, 0 ≤ i → i % 2 = 0 → i + 3 < l → _ := fun i a b c => hv i a b (by omega)
  refine k_skip (SeqK.nx ‹_› ?_)
  refine k_seq fun Q K => k_lin fun W K => ?_
  refine l_op 0 rfl rfl rfl rfl rfl ?_
  refine l_callp F rfl rfl (by kernel_rfl) rfl rfl (slots_call (Old.pure (F.old h)) (by omega) (by omega) hv') (fun y s F hy => ?_)
  (try dsimp only [n_1, n_2, n_3, n_4, List.append_nil, pk, n_5, n_6] at F)
  refine l_op 0 rfl rfl rfl rfl rfl ?_
  iterate 2 refine l_op 2 rfl rfl rfl rfl rfl ?_
  iterate 2 refine l_op 0 rfl rfl rfl rfl rfl ?_
  refine l_nil (WK.nx ‹_› (SeqK.nx ‹_› ?_))
  refine k_seq fun Q K => k_lin fun W K => ?_
  refine l_op 0 rfl rfl rfl rfl rfl ?_
  refine l_op 2 rfl rfl rfl rfl rfl ?_
  refine l_callp F rfl rfl (by kernel_rfl) rfl rfl (up_call (by omega) (by omega) (by omega)) (fun _ s F _ => ?_)
  (try dsimp only [n_1, n_2, n_3, n_4, List.append_nil, pk, n_5, n_6] at F)
  refine l_a64 rfl rfl rfl (by omega) rfl ?_
  iterate 4 refine l_op 0 rfl rfl rfl rfl rfl ?_
  refine l_nil (WK.nx ‹_› (SeqK.nx ‹_› (k_ret ?_)))
  refine FunK.rt (by assumption) rfl ?_
  -- leaf 3
  refine ⟨(), ?_, F.pick [] (by decide), trivial⟩
  (refine Eq.trans ?_ (locV_ok (by omega)).symm
   have e1 : ((l : Int) + 4 - 1) = l + 3 := by omega
   have e2 : (T bs (l - 2) + 4 - 1) = T bs (l - 2) + 3 := by omega
   rw [hbl, ← e1, ← e2]; rfl)

end Go.Proofs.YtocfmecenpeoiaaGreat.Stk
