/- Words laid in bytes, by the document. No statement of the seat is proved in this text. -/
import Derived.Test.YtocfmecenpeoiaaGreatLibPut
set_option linter.unusedVariables false
set_option linter.unusedSimpArgs false
set_option maxRecDepth 100000
set_option maxHeartbeats 4000000
namespace Go.Proofs.YtocfmecenpeoiaaGreat
open GAb Go

/-- The divisors of the document's Put. -/
def pwR (k : Int) : Int := if k = 4 then 16777216 else if k = 3 then 65536 else if k = 2 then 256 else if k = 1 then 1 else 0
theorem rput_step {x n i : Int} (h : n = 1 ∨ n = 2 ∨ n = 4) (hi : 0 ≤ i ∧ i < n) (hx : U32 x) : (putR x n).take i.toNat ++ [x / pwR (n - i) % 256] = (putR x n).take (i.toNat + 1) := by
  obtain ⟨x0, x1⟩ := hx
  have hi4 : i = 0 ∨ i = 1 ∨ i = 2 ∨ i = 3 := by omega
  rcases h with rfl | rfl | rfl <;> rcases hi4 with rfl | rfl | rfl | rfl <;> first | (exfalso; omega) | (simp [putR, pwR]; done) | (simp [putR, pwR]; omega)
theorem pwR_div {n i : Int} (h : n = 1 ∨ n = 2 ∨ n = 4) (hi : 0 ≤ i ∧ i < n) : pwR (n - i) / 256 = pwR (n - (i + 1)) ∧ 0 < pwR (n - i) ∧ pwR (n - i) ≤ 16777216 := by
  have hi4 : i = 0 ∨ i = 1 ∨ i = 2 ∨ i = 3 := by omega
  rcases h with rfl | rfl | rfl <;> rcases hi4 with rfl | rfl | rfl | rfl <;> first | (exfalso; omega) | decide
theorem pwR_mul {i : Int} (hi : 1 ≤ i ∧ i < 4) : 256 * pwR i = pwR (i + 1) := by
  have hi4 : i = 1 ∨ i = 2 ∨ i = 3 := by omega
  rcases hi4 with rfl | rfl | rfl <;> decide
theorem rput_call {σ : AState} {x n : Int} (hx : U32 x) :
    SCall Tryz.prog E0 53 [.int .u32 x, .int .i64 n] σ (Ret E0 σ (fun (y : Option Addr × Nat) => .slice y.1 (putR x n).length y.2) (fun y => [own y.1 (putR x n).length y.2 1 (u8l (putR x n))]) fun _ => True) := by
  have hx' := hx
  obtain ⟨x0, x1⟩ := hx
  refine k_fun Tryz.func53 rfl (m := 43) rfl fun B hD Q K => ?_
  have F := (Facts.nil E0 σ).nilrow 1
  refine k_seq fun Q K => k_lin fun W K => ?_
  refine l_op 0 rfl rfl rfl rfl rfl ?_
  refine l_nil (WK.nx ‹_› (SeqK.nx ‹_› ?_))
  refine k_seq fun Q K => k_seq fun Q K => k_lin fun W K => ?_
  refine l_op 0 rfl rfl rfl rfl rfl ?_
  refine l_cmp rfl rfl rfl rfl ?_
  refine l_op 0 rfl rfl rfl rfl rfl ?_
  refine l_guard rfl rfl rfl (fun hc1 => ?_) (fun hc1 => ?_)
  · replace hc1 := bne_iff_ne.1 ((irr_eq _).symm.trans hc1)
    refine l_op 0 rfl rfl rfl rfl rfl ?_
    refine l_cmp rfl rfl rfl rfl ?_
    refine l_op 2 rfl rfl rfl rfl rfl ?_
    refine l_op 0 rfl rfl rfl rfl rfl ?_
    refine l_guard rfl rfl rfl (fun hc2 => ?_) (fun hc2 => ?_)
    · replace hc2 := bne_iff_ne.1 ((irr_eq _).symm.trans hc2)
      refine l_op 0 rfl rfl rfl rfl rfl ?_
      refine l_cmp rfl rfl rfl rfl ?_
      refine l_op 2 rfl rfl rfl rfl rfl ?_
      refine l_nil (WK.nx ‹_› (SeqK.nx ‹_› ?_))
      refine l_cond rfl rfl (fun hc3 => ?_) (fun hc3 => ?_)
      · replace hc3 := bne_iff_ne.1 ((irr_eq _).symm.trans hc3)
        refine k_seq fun Q K => k_lin fun W K => ?_
        refine l_op 0 rfl rfl rfl rfl rfl ?_
        refine l_nil (WK.nx ‹_› (SeqK.nx ‹_› (k_ret (SeqK.rt ‹_› ?_))))
        refine FunK.rt (by assumption) rfl ?_
        -- leaf 1
        (have hp := putR_none (x := x) (n := n) (by omega)
         rw [hp]
         exact ⟨(none, 0), rfl, F, trivial⟩)
      replace hc3 := bne_eq_false_iff_eq.1 ((irr_eq _).symm.trans hc3)
      refine k_skip (SeqK.nx ‹_› ?_)
      refine k_seq fun Q K => k_lin fun W K => ?_
      refine l_op 0 rfl rfl rfl rfl rfl ?_
      refine l_nil (WK.nx ‹_› (SeqK.nx ‹_› ?_))
      refine k_seq fun Q K => k_lin fun W K => ?_
      refine l_op 0 rfl rfl rfl rfl rfl ?_
      refine l_nil (WK.nx ‹_› (SeqK.nx ‹_› ?_))
      refine k_seq fun Q K => k_seq fun Q K => k_lin fun W K => ?_
      refine l_op 0 rfl rfl rfl rfl rfl ?_
      refine l_nil (WK.nx ‹_› (SeqK.nx ‹_› ?_))
      refine k_block fun Q K => ?_
      have hn : n = 1 ∨ n = 2 ∨ n = 4 := by omega
      refine k_loop (α := Int) (fun i s => Facts E0 σ s [own none 0 0 1 []] ∧ 1 ≤ i ∧ i ≤ n) (fun i => [(0, .int .u32 x), (1, .int .i64 n), (5, .slice none 0 0), (6, .int .i64 (pwR i)), (7, .int .i64 i)]) (fun i => (n - i).toNat) 1 ⟨F, by omega, by omega⟩ (by repeat (first | exact trivial | refine And.intro rfl ?_)) ?_
      clear F
      rintro i env s Q K0 ⟨F, i0, i1⟩
      refine k_seq fun Q K => k_seq fun Q K => k_lin fun W K => ?_
      iterate 2 refine l_op 0 rfl rfl rfl rfl rfl ?_
      refine l_cmp rfl rfl rfl rfl ?_
      refine l_nil (WK.nx ‹_› (SeqK.nx ‹_› ?_))
      refine l_cond rfl rfl (fun hc4 => ?_) (fun hc4 => ?_)
      · replace hc4 := of_decide_eq_true ((irr_eq _).symm.trans hc4)
        have hpm := pwR_mul (i := i) (by omega)
        have hpb := pwR_div (n := 4) (i := 4 - (i + 1)) (by omega) (by omega)
        rw [show (4 : Int) - (4 - (i + 1)) = i + 1 by omega] at hpb
        refine k_skip (SeqK.nx ‹_› ?_)
        refine k_seq fun Q K => k_block fun Q K => k_lin fun W K => ?_
        refine l_op 0 rfl rfl rfl rfl rfl ?_
        refine l_a64 rfl rfl rfl (by omega) rfl ?_
        refine l_op 0 rfl rfl rfl rfl rfl ?_
        refine l_nil (WK.nx ‹_› (BlkK.nx ‹_› (SeqK.nx ‹_› ?_)))
        refine k_lin fun W K => ?_
        refine l_op 0 rfl rfl rfl rfl rfl ?_
        refine l_a64 rfl rfl rfl (by omega) rfl ?_
        refine l_op 0 rfl rfl rfl rfl rfl ?_
        refine l_nil (WK.nx ‹_› ?_)
        exact K0.nx (i + 1) (by rw [← hpm]; exact (by repeat (first | exact trivial | refine And.intro rfl ?_))) ⟨F, by omega, by omega⟩ (by first | omega | (simp only; omega))
      replace hc4 := of_decide_eq_false ((irr_eq _).symm.trans hc4)
      have hin : i = n := by omega
      subst hin
      refine k_exit ?_
      refine SeqK.et (by assumption) ?_
      refine LoopK.et (by assumption) ?_
      refine BlkK.et (by assumption) ?_
      refine SeqK.nx ‹_› ?_
      refine k_seq fun Q K => k_seq fun Q K => k_lin fun W K => ?_
      refine l_op 0 rfl rfl rfl rfl rfl ?_
      refine l_nil (WK.nx ‹_› (SeqK.nx ‹_› ?_))
      refine k_block fun Q K => ?_
      refine k_loop (α := Int × Option Addr × Nat) (fun ⟨j, y, c⟩ s => Facts E0 σ s [own y j.toNat c 1 (u8l ((putR x i).take j.toNat))] ∧ 0 ≤ j ∧ j ≤ i) (fun ⟨j, y, c⟩ => [(0, .int .u32 x), (1, .int .i64 i), (5, .slice y j.toNat c), (6, .int .i64 (pwR (i - j))), (8, .int .i64 j)]) (fun ⟨j, _⟩ => (i - j).toNat) (0, none, 0) ⟨F, by omega, by omega⟩ (by dsimp only; rw [Int.sub_zero]; exact (by repeat (first | exact trivial | refine And.intro rfl ?_))) ?_
      clear F
      rintro ⟨j, y, c⟩ env s Q K0 ⟨F, j0, j1⟩
      refine k_seq fun Q K => k_seq fun Q K => k_lin fun W K => ?_
      iterate 2 refine l_op 0 rfl rfl rfl rfl rfl ?_
      refine l_cmp rfl rfl rfl rfl ?_
      refine l_nil (WK.nx ‹_› (SeqK.nx ‹_› ?_))
      refine l_cond rfl rfl (fun hc5 => ?_) (fun hc5 => ?_)
      · replace hc5 := of_decide_eq_true ((irr_eq _).symm.trans hc5)
        obtain ⟨pd, pp, pq⟩ := pwR_div (n := i) (i := j) hn (by omega)
        have hxd : 0 ≤ x / pwR (i - j) ∧ x / pwR (i - j) ≤ x := ⟨Int.ediv_nonneg x0 (by omega), Int.ediv_le_self _ x0⟩
        refine k_skip (SeqK.nx ‹_› ?_)
        refine k_seq fun Q K => k_block fun Q K => k_seq fun Q K => k_lin fun W K => ?_
        iterate 2 refine l_op 0 rfl rfl rfl rfl rfl ?_
        refine l_c64 rfl rfl rfl (by omega) rfl ?_
        refine l_op 0 rfl rfl rfl rfl rfl ?_
        refine l_quon rfl rfl rfl rfl rfl (by omega) rfl ?_
        refine l_remn rfl rfl rfl rfl rfl (by omega) rfl ?_
        refine l_c8 rfl rfl rfl (by omega) rfl ?_
        refine l_lit F rfl rfl rfl rfl (fun q38 s F => ?_)
        (try dsimp only [n_1, n_2, n_3, n_4, List.append_nil, pk, n_5, n_6] at F)
        refine l_appi F 0 rfl rfl rfl rfl rfl rfl rfl (ys := [x / pwR (i - j) % 256]) (F.has 1 rfl) rfl (by omega) hD (fun x2 c2 s F => ?_)
        (try dsimp only [n_1, n_2, n_3, n_4, List.append_nil, pk, n_5, n_6] at F)
        refine l_op 0 rfl rfl rfl rfl rfl ?_
        refine l_nil (WK.nx ‹_› (SeqK.nx ‹_› ?_))
        refine k_lin fun W K => ?_
        refine l_op 0 rfl rfl rfl rfl rfl ?_
        refine l_quon rfl rfl rfl rfl rfl (by omega) rfl ?_
        refine l_op 0 rfl rfl rfl rfl rfl ?_
        refine l_nil (WK.nx ‹_› (BlkK.nx ‹_› (SeqK.nx ‹_› ?_)))
        refine k_lin fun W K => ?_
        refine l_op 0 rfl rfl rfl rfl rfl ?_
        refine l_a64 rfl rfl rfl (by omega) rfl ?_
        refine l_op 0 rfl rfl rfl rfl rfl ?_
        refine l_nil (WK.nx ‹_› ?_)
        have e1 : (j + 1).toNat = j.toNat + 1 := by omega
        rw [rput_step hn (by omega) hx', ← e1] at F
        exact K0.nx (j + 1, x2, c2) (by dsimp only; rw [← pd, e1]; exact (by repeat (first | exact trivial | refine And.intro rfl ?_))) ⟨F.pick [0] (by decide), by omega, by omega⟩ (by first | omega | (simp only; omega))
      replace hc5 := of_decide_eq_false ((irr_eq _).symm.trans hc5)
      refine k_exit ?_
      refine SeqK.et (by assumption) ?_
      refine LoopK.et (by assumption) ?_
      refine BlkK.et (by assumption) ?_
      refine SeqK.nx ‹_› ?_
      refine k_seq fun Q K => k_lin fun W K => ?_
      iterate 2 refine l_op 0 rfl rfl rfl rfl rfl ?_
      refine l_nil (WK.nx ‹_› (SeqK.nx ‹_› (k_ret ?_)))
      refine FunK.rt (by assumption) rfl ?_
      -- leaf 2
      (have e1 : j.toNat = (putR x i).length := by have := putR_n (x := x) hn; omega
       rw [e1, List.take_length] at F
       exact ⟨(y, c), by rw [e1]; rfl, F, trivial⟩)
    replace hc2 := bne_eq_false_iff_eq.1 ((irr_eq _).symm.trans hc2)
    iterate 2 refine l_s rfl rfl ?_
    refine l_op 2 rfl rfl rfl rfl rfl ?_
    refine l_nil (WK.nx ‹_› (SeqK.nx ‹_› ?_))
    refine e_cond_f rfl rfl rfl ?_
    refine k_skip (SeqK.nx ‹_› ?_)
    refine k_seq fun Q K => k_lin fun W K => ?_
    refine l_op 0 rfl rfl rfl rfl rfl ?_
    refine l_nil (WK.nx ‹_› (SeqK.nx ‹_› ?_))
    refine k_seq fun Q K => k_lin fun W K => ?_
    refine l_op 0 rfl rfl rfl rfl rfl ?_
    refine l_nil (WK.nx ‹_› (SeqK.nx ‹_› ?_))
    refine k_seq fun Q K => k_seq fun Q K => k_lin fun W K => ?_
    refine l_op 0 rfl rfl rfl rfl rfl ?_
    refine l_nil (WK.nx ‹_› (SeqK.nx ‹_› ?_))
    refine k_block fun Q K => ?_
    have hn : n = 1 ∨ n = 2 ∨ n = 4 := by omega
    refine k_loop (α := Int) (fun i s => Facts E0 σ s [own none 0 0 1 []] ∧ 1 ≤ i ∧ i ≤ n) (fun i => [(0, .int .u32 x), (1, .int .i64 n), (5, .slice none 0 0), (6, .int .i64 (pwR i)), (7, .int .i64 i)]) (fun i => (n - i).toNat) 1 ⟨F, by omega, by omega⟩ (by repeat (first | exact trivial | refine And.intro rfl ?_)) ?_
    clear F
    rintro i env s Q K0 ⟨F, i0, i1⟩
    refine k_seq fun Q K => k_seq fun Q K => k_lin fun W K => ?_
    iterate 2 refine l_op 0 rfl rfl rfl rfl rfl ?_
    refine l_cmp rfl rfl rfl rfl ?_
    refine l_nil (WK.nx ‹_› (SeqK.nx ‹_› ?_))
    refine l_cond rfl rfl (fun hc6 => ?_) (fun hc6 => ?_)
    · replace hc6 := of_decide_eq_true ((irr_eq _).symm.trans hc6)
      have hpm := pwR_mul (i := i) (by omega)
      have hpb := pwR_div (n := 4) (i := 4 - (i + 1)) (by omega) (by omega)
      rw [show (4 : Int) - (4 - (i + 1)) = i + 1 by omega] at hpb
      refine k_skip (SeqK.nx ‹_› ?_)
      refine k_seq fun Q K => k_block fun Q K => k_lin fun W K => ?_
      refine l_op 0 rfl rfl rfl rfl rfl ?_
      refine l_a64 rfl rfl rfl (by omega) rfl ?_
      refine l_op 0 rfl rfl rfl rfl rfl ?_
      refine l_nil (WK.nx ‹_› (BlkK.nx ‹_› (SeqK.nx ‹_› ?_)))
      refine k_lin fun W K => ?_
      refine l_op 0 rfl rfl rfl rfl rfl ?_
      refine l_a64 rfl rfl rfl (by omega) rfl ?_
      refine l_op 0 rfl rfl rfl rfl rfl ?_
      refine l_nil (WK.nx ‹_› ?_)
      exact K0.nx (i + 1) (by rw [← hpm]; exact (by repeat (first | exact trivial | refine And.intro rfl ?_))) ⟨F, by omega, by omega⟩ (by first | omega | (simp only; omega))
    replace hc6 := of_decide_eq_false ((irr_eq _).symm.trans hc6)
    have hin : i = n := by omega
    subst hin
    refine k_exit ?_
    refine SeqK.et (by assumption) ?_
    refine LoopK.et (by assumption) ?_
    refine BlkK.et (by assumption) ?_
    refine SeqK.nx ‹_› ?_
    refine k_seq fun Q K => k_seq fun Q K => k_lin fun W K => ?_
    refine l_op 0 rfl rfl rfl rfl rfl ?_
    refine l_nil (WK.nx ‹_› (SeqK.nx ‹_› ?_))
    refine k_block fun Q K => ?_
    refine k_loop (α := Int × Option Addr × Nat) (fun ⟨j, y, c⟩ s => Facts E0 σ s [own y j.toNat c 1 (u8l ((putR x i).take j.toNat))] ∧ 0 ≤ j ∧ j ≤ i) (fun ⟨j, y, c⟩ => [(0, .int .u32 x), (1, .int .i64 i), (5, .slice y j.toNat c), (6, .int .i64 (pwR (i - j))), (8, .int .i64 j)]) (fun ⟨j, _⟩ => (i - j).toNat) (0, none, 0) ⟨F, by omega, by omega⟩ (by dsimp only; rw [Int.sub_zero]; exact (by repeat (first | exact trivial | refine And.intro rfl ?_))) ?_
    clear F
    rintro ⟨j, y, c⟩ env s Q K0 ⟨F, j0, j1⟩
    refine k_seq fun Q K => k_seq fun Q K => k_lin fun W K => ?_
    iterate 2 refine l_op 0 rfl rfl rfl rfl rfl ?_
    refine l_cmp rfl rfl rfl rfl ?_
    refine l_nil (WK.nx ‹_› (SeqK.nx ‹_› ?_))
    refine l_cond rfl rfl (fun hc7 => ?_) (fun hc7 => ?_)
    · replace hc7 := of_decide_eq_true ((irr_eq _).symm.trans hc7)
      obtain ⟨pd, pp, pq⟩ := pwR_div (n := i) (i := j) hn (by omega)
      have hxd : 0 ≤ x / pwR (i - j) ∧ x / pwR (i - j) ≤ x := ⟨Int.ediv_nonneg x0 (by omega), Int.ediv_le_self _ x0⟩
      refine k_skip (SeqK.nx ‹_› ?_)
      refine k_seq fun Q K => k_block fun Q K => k_seq fun Q K => k_lin fun W K => ?_
      iterate 2 refine l_op 0 rfl rfl rfl rfl rfl ?_
      refine l_c64 rfl rfl rfl (by omega) rfl ?_
      refine l_op 0 rfl rfl rfl rfl rfl ?_
      refine l_quon rfl rfl rfl rfl rfl (by omega) rfl ?_
      refine l_remn rfl rfl rfl rfl rfl (by omega) rfl ?_
      refine l_c8 rfl rfl rfl (by omega) rfl ?_
      refine l_lit F rfl rfl rfl rfl (fun q38 s F => ?_)
      (try dsimp only [n_1, n_2, n_3, n_4, List.append_nil, pk, n_5, n_6] at F)
      refine l_appi F 0 rfl rfl rfl rfl rfl rfl rfl (ys := [x / pwR (i - j) % 256]) (F.has 1 rfl) rfl (by omega) hD (fun x2 c2 s F => ?_)
      (try dsimp only [n_1, n_2, n_3, n_4, List.append_nil, pk, n_5, n_6] at F)
      refine l_op 0 rfl rfl rfl rfl rfl ?_
      refine l_nil (WK.nx ‹_› (SeqK.nx ‹_› ?_))
      refine k_lin fun W K => ?_
      refine l_op 0 rfl rfl rfl rfl rfl ?_
      refine l_quon rfl rfl rfl rfl rfl (by omega) rfl ?_
      refine l_op 0 rfl rfl rfl rfl rfl ?_
      refine l_nil (WK.nx ‹_› (BlkK.nx ‹_› (SeqK.nx ‹_› ?_)))
      refine k_lin fun W K => ?_
      refine l_op 0 rfl rfl rfl rfl rfl ?_
      refine l_a64 rfl rfl rfl (by omega) rfl ?_
      refine l_op 0 rfl rfl rfl rfl rfl ?_
      refine l_nil (WK.nx ‹_› ?_)
      have e1 : (j + 1).toNat = j.toNat + 1 := by omega
      rw [rput_step hn (by omega) hx', ← e1] at F
      exact K0.nx (j + 1, x2, c2) (by dsimp only; rw [← pd, e1]; exact (by repeat (first | exact trivial | refine And.intro rfl ?_))) ⟨F.pick [0] (by decide), by omega, by omega⟩ (by first | omega | (simp only; omega))
    replace hc7 := of_decide_eq_false ((irr_eq _).symm.trans hc7)
    refine k_exit ?_
    refine SeqK.et (by assumption) ?_
    refine LoopK.et (by assumption) ?_
    refine BlkK.et (by assumption) ?_
    refine SeqK.nx ‹_› ?_
    refine k_seq fun Q K => k_lin fun W K => ?_
    iterate 2 refine l_op 0 rfl rfl rfl rfl rfl ?_
    refine l_nil (WK.nx ‹_› (SeqK.nx ‹_› (k_ret ?_)))
    refine FunK.rt (by assumption) rfl ?_
    -- leaf 3
    (have e1 : j.toNat = (putR x i).length := by have := putR_n (x := x) hn; omega
     rw [e1, List.take_length] at F
     exact ⟨(y, c), by rw [e1]; rfl, F, trivial⟩)
  replace hc1 := bne_eq_false_iff_eq.1 ((irr_eq _).symm.trans hc1)
  iterate 2 refine l_s rfl rfl ?_
  refine l_op 2 rfl rfl rfl rfl rfl ?_
  refine l_op 0 rfl rfl rfl rfl rfl ?_
  iterate 2 refine l_s rfl rfl ?_
  refine l_op 2 rfl rfl rfl rfl rfl ?_
  refine l_nil (WK.nx ‹_› (SeqK.nx ‹_› ?_))
  refine e_cond_f rfl rfl rfl ?_
  refine k_skip (SeqK.nx ‹_› ?_)
  refine k_seq fun Q K => k_lin fun W K => ?_
  refine l_op 0 rfl rfl rfl rfl rfl ?_
  refine l_nil (WK.nx ‹_› (SeqK.nx ‹_› ?_))
  refine k_seq fun Q K => k_lin fun W K => ?_
  refine l_op 0 rfl rfl rfl rfl rfl ?_
  refine l_nil (WK.nx ‹_› (SeqK.nx ‹_› ?_))
  refine k_seq fun Q K => k_seq fun Q K => k_lin fun W K => ?_
  refine l_op 0 rfl rfl rfl rfl rfl ?_
  refine l_nil (WK.nx ‹_› (SeqK.nx ‹_› ?_))
  refine k_block fun Q K => ?_
  have hn : n = 1 ∨ n = 2 ∨ n = 4 := by omega
  refine k_loop (α := Int) (fun i s => Facts E0 σ s [own none 0 0 1 []] ∧ 1 ≤ i ∧ i ≤ n) (fun i => [(0, .int .u32 x), (1, .int .i64 n), (5, .slice none 0 0), (6, .int .i64 (pwR i)), (7, .int .i64 i)]) (fun i => (n - i).toNat) 1 ⟨F, by omega, by omega⟩ (by repeat (first | exact trivial | refine And.intro rfl ?_)) ?_
  clear F
  rintro i env s Q K0 ⟨F, i0, i1⟩
  refine k_seq fun Q K => k_seq fun Q K => k_lin fun W K => ?_
  iterate 2 refine l_op 0 rfl rfl rfl rfl rfl ?_
  refine l_cmp rfl rfl rfl rfl ?_
  refine l_nil (WK.nx ‹_› (SeqK.nx ‹_› ?_))
  refine l_cond rfl rfl (fun hc8 => ?_) (fun hc8 => ?_)
  · replace hc8 := of_decide_eq_true ((irr_eq _).symm.trans hc8)
    have hpm := pwR_mul (i := i) (by omega)
    have hpb := pwR_div (n := 4) (i := 4 - (i + 1)) (by omega) (by omega)
    rw [show (4 : Int) - (4 - (i + 1)) = i + 1 by omega] at hpb
    refine k_skip (SeqK.nx ‹_› ?_)
    refine k_seq fun Q K => k_block fun Q K => k_lin fun W K => ?_
    refine l_op 0 rfl rfl rfl rfl rfl ?_
    refine l_a64 rfl rfl rfl (by omega) rfl ?_
    refine l_op 0 rfl rfl rfl rfl rfl ?_
    refine l_nil (WK.nx ‹_› (BlkK.nx ‹_› (SeqK.nx ‹_› ?_)))
    refine k_lin fun W K => ?_
    refine l_op 0 rfl rfl rfl rfl rfl ?_
    refine l_a64 rfl rfl rfl (by omega) rfl ?_
    refine l_op 0 rfl rfl rfl rfl rfl ?_
    refine l_nil (WK.nx ‹_› ?_)
    exact K0.nx (i + 1) (by rw [← hpm]; exact (by repeat (first | exact trivial | refine And.intro rfl ?_))) ⟨F, by omega, by omega⟩ (by first | omega | (simp only; omega))
  replace hc8 := of_decide_eq_false ((irr_eq _).symm.trans hc8)
  have hin : i = n := by omega
  subst hin
  refine k_exit ?_
  refine SeqK.et (by assumption) ?_
  refine LoopK.et (by assumption) ?_
  refine BlkK.et (by assumption) ?_
  refine SeqK.nx ‹_› ?_
  refine k_seq fun Q K => k_seq fun Q K => k_lin fun W K => ?_
  refine l_op 0 rfl rfl rfl rfl rfl ?_
  refine l_nil (WK.nx ‹_› (SeqK.nx ‹_› ?_))
  refine k_block fun Q K => ?_
  refine k_loop (α := Int × Option Addr × Nat) (fun ⟨j, y, c⟩ s => Facts E0 σ s [own y j.toNat c 1 (u8l ((putR x i).take j.toNat))] ∧ 0 ≤ j ∧ j ≤ i) (fun ⟨j, y, c⟩ => [(0, .int .u32 x), (1, .int .i64 i), (5, .slice y j.toNat c), (6, .int .i64 (pwR (i - j))), (8, .int .i64 j)]) (fun ⟨j, _⟩ => (i - j).toNat) (0, none, 0) ⟨F, by omega, by omega⟩ (by dsimp only; rw [Int.sub_zero]; exact (by repeat (first | exact trivial | refine And.intro rfl ?_))) ?_
  clear F
  rintro ⟨j, y, c⟩ env s Q K0 ⟨F, j0, j1⟩
  refine k_seq fun Q K => k_seq fun Q K => k_lin fun W K => ?_
  iterate 2 refine l_op 0 rfl rfl rfl rfl rfl ?_
  refine l_cmp rfl rfl rfl rfl ?_
  refine l_nil (WK.nx ‹_› (SeqK.nx ‹_› ?_))
  refine l_cond rfl rfl (fun hc9 => ?_) (fun hc9 => ?_)
  · replace hc9 := of_decide_eq_true ((irr_eq _).symm.trans hc9)
    obtain ⟨pd, pp, pq⟩ := pwR_div (n := i) (i := j) hn (by omega)
    have hxd : 0 ≤ x / pwR (i - j) ∧ x / pwR (i - j) ≤ x := ⟨Int.ediv_nonneg x0 (by omega), Int.ediv_le_self _ x0⟩
    refine k_skip (SeqK.nx ‹_› ?_)
    refine k_seq fun Q K => k_block fun Q K => k_seq fun Q K => k_lin fun W K => ?_
    iterate 2 refine l_op 0 rfl rfl rfl rfl rfl ?_
    refine l_c64 rfl rfl rfl (by omega) rfl ?_
    refine l_op 0 rfl rfl rfl rfl rfl ?_
    refine l_quon rfl rfl rfl rfl rfl (by omega) rfl ?_
    refine l_remn rfl rfl rfl rfl rfl (by omega) rfl ?_
    refine l_c8 rfl rfl rfl (by omega) rfl ?_
    refine l_lit F rfl rfl rfl rfl (fun q38 s F => ?_)
    (try dsimp only [n_1, n_2, n_3, n_4, List.append_nil, pk, n_5, n_6] at F)
    refine l_appi F 0 rfl rfl rfl rfl rfl rfl rfl (ys := [x / pwR (i - j) % 256]) (F.has 1 rfl) rfl (by omega) hD (fun x2 c2 s F => ?_)
    (try dsimp only [n_1, n_2, n_3, n_4, List.append_nil, pk, n_5, n_6] at F)
    refine l_op 0 rfl rfl rfl rfl rfl ?_
    refine l_nil (WK.nx ‹_› (SeqK.nx ‹_› ?_))
    refine k_lin fun W K => ?_
    refine l_op 0 rfl rfl rfl rfl rfl ?_
    refine l_quon rfl rfl rfl rfl rfl (by omega) rfl ?_
    refine l_op 0 rfl rfl rfl rfl rfl ?_
    refine l_nil (WK.nx ‹_› (BlkK.nx ‹_› (SeqK.nx ‹_› ?_)))
    refine k_lin fun W K => ?_
    refine l_op 0 rfl rfl rfl rfl rfl ?_
    refine l_a64 rfl rfl rfl (by omega) rfl ?_
    refine l_op 0 rfl rfl rfl rfl rfl ?_
    refine l_nil (WK.nx ‹_› ?_)
    have e1 : (j + 1).toNat = j.toNat + 1 := by omega
    rw [rput_step hn (by omega) hx', ← e1] at F
    exact K0.nx (j + 1, x2, c2) (by dsimp only; rw [← pd, e1]; exact (by repeat (first | exact trivial | refine And.intro rfl ?_))) ⟨F.pick [0] (by decide), by omega, by omega⟩ (by first | omega | (simp only; omega))
  replace hc9 := of_decide_eq_false ((irr_eq _).symm.trans hc9)
  refine k_exit ?_
  refine SeqK.et (by assumption) ?_
  refine LoopK.et (by assumption) ?_
  refine BlkK.et (by assumption) ?_
  refine SeqK.nx ‹_› ?_
  refine k_seq fun Q K => k_lin fun W K => ?_
  iterate 2 refine l_op 0 rfl rfl rfl rfl rfl ?_
  refine l_nil (WK.nx ‹_› (SeqK.nx ‹_› (k_ret ?_)))
  refine FunK.rt (by assumption) rfl ?_
  -- leaf 4
  (have e1 : j.toNat = (putR x i).length := by have := putR_n (x := x) hn; omega
   rw [e1, List.take_length] at F
   exact ⟨(y, c), by rw [e1]; rfl, F, trivial⟩)

end Go.Proofs.YtocfmecenpeoiaaGreat
