/- Are two instructions alike; words laid by the document; instructions that come in. No statement of the seat is proved in this text. -/
import Derived.Test.YtkemnodaadlonaaCEnc
import Derived.Test.YtkemnodaadlonaaLive
set_option linter.unusedVariables false
set_option linter.unusedSimpArgs false
set_option maxRecDepth 100000
set_option maxHeartbeats 4000000
namespace Go.Proofs.Ytkemnodaadlonaa
open GAb Go

theorem sameI_call {σ : AState} {a b : Option Addr} {l1 l2 c1 c2 : Nat} {o1 o2 : Int} {xs ys : List (Int × Int)} (h1 : Old E0 σ a l1 c1 2 (rows eO xs)) (h2 : Old E0 σ b l2 c2 2 (rows eO ys)) (hn : xs.length ≤ 1000000) :
    SCall Try.prog E0 16 [.agg #[.int .u32 o1, .slice a l1 c1], .agg #[.int .u32 o2, .slice b l2 c2]] σ (Ret E0 σ (fun (_ : Unit) => .bool (irr (decide (o1 = o2 ∧ xs = ys)))) (fun _ => []) fun _ => True) := by
  obtain rfl : xs.length = l1 := h1.1.len eO_len (by decide)
  obtain rfl : ys.length = l2 := h2.1.len eO_len (by decide)
  refine k_fun Try.func16 rfl (m := 38) rfl fun B hD Q K => ?_
  have F := Facts.nil E0 σ
  refine k_seq (fun Q K => ?_)
  refine k_lin (fun W K => ?_)
  refine l_bx F rfl rfl rfl rfl rfl (fun q2 s F => ?_)
  (try dsimp only [n_1, n_2, n_3, n_4, List.append_nil, pk, n_5, n_6] at F)
  refine l_bx F rfl rfl rfl rfl rfl (fun q3 s F => ?_)
  (try dsimp only [n_1, n_2, n_3, n_4, List.append_nil, pk, n_5, n_6] at F)
  refine l_op 0 rfl rfl rfl rfl rfl ?_
  refine l_nil (WK.nx (by assumption) ?_)
  refine SeqK.nx (by assumption) ?_
  refine k_seq (fun Q K => ?_)
  refine k_seq (fun Q K => ?_)
  refine k_lin (fun W K => ?_)
  refine l_op 2 rfl rfl rfl rfl rfl ?_
  refine l_ldc F 0 rfl rfl rfl rfl rfl rfl rfl ?_
  refine l_op 2 rfl rfl rfl rfl rfl ?_
  refine l_ldc F 1 rfl rfl rfl rfl rfl rfl rfl ?_
  refine l_cmp rfl rfl rfl rfl ?_
  refine l_op 0 rfl rfl rfl rfl rfl ?_
  refine l_guard rfl rfl rfl (fun hc1 => ?_) (fun hc1 => ?_)
  · first | replace hc1 := bne_iff_ne.1 ((irr_eq _).symm.trans hc1) | simp only [irr_eq, bne_iff_ne, bne_eq_false_iff_eq, ne_eq, decide_eq_true_eq, decide_eq_false_iff_not, Bool.not_eq_true', Bool.not_eq_false'] at hc1
    have hne : ¬ (o1 = o2 ∧ xs = ys) := fun e => hc1 e.1
    refine l_s rfl rfl ?_
    refine l_s rfl rfl ?_
    refine l_s rfl rfl ?_
    refine l_s rfl rfl ?_
    refine l_s rfl rfl ?_
    refine l_s rfl rfl ?_
    refine l_s rfl rfl ?_
    refine l_op 2 rfl rfl rfl rfl rfl ?_
    refine l_nil (WK.nx (by assumption) ?_)
    refine SeqK.nx (by assumption) ?_
    first | refine e_cond_t rfl rfl rfl ?_ | refine e_cond_t rfl rfl (by rw [irr_eq]; first | exact beq_iff_eq.2 (by assumption) | exact decide_eq_true (by assumption) | exact bne_iff_ne.2 (by assumption)) ?_
    refine k_seq (fun Q K => ?_)
    refine k_lin (fun W K => ?_)
    refine l_op 0 rfl rfl rfl rfl rfl ?_
    refine l_nil (WK.nx (by assumption) ?_)
    refine SeqK.nx (by assumption) ?_
    refine k_ret ?_
    refine SeqK.rt (by assumption) ?_
    refine FunK.rt (by assumption) rfl ?_
    -- leaf 1
    refine ⟨(), ?_, F.pick [] (by decide), trivial⟩
    show Value.bool _ = Value.bool _
    rw [irr_eq]
    first
      | (rw [decide_eq_false hne]; done)
      | (rw [decide_eq_false (fun e => hne (by rw [e.2]))]; done)
      | (rw [decide_eq_false (fun e => by have := congrArg List.length e.2; omega)]; done)
      | (rw [decide_eq_true ⟨ho, by rw [List.take_of_length_le (by omega), List.take_of_length_le (by omega)] at hI; exact hI⟩])
  first | replace hc1 := bne_eq_false_iff_eq.1 ((irr_eq _).symm.trans hc1) | simp only [irr_eq, bne_iff_ne, bne_eq_false_iff_eq, ne_eq, decide_eq_true_eq, decide_eq_false_iff_not, Bool.not_eq_true', Bool.not_eq_false'] at hc1
  have ho : o1 = o2 := hc1
  refine l_op 2 rfl rfl rfl rfl rfl ?_
  refine l_ldc F 0 rfl rfl rfl rfl rfl rfl rfl ?_
  first | refine l_op 2 rfl rfl rfl rfl rfl ?_ | refine l_ln rfl rfl rfl rfl ?_
  refine l_op 2 rfl rfl rfl rfl rfl ?_
  refine l_ldc F 1 rfl rfl rfl rfl rfl rfl rfl ?_
  first | refine l_op 2 rfl rfl rfl rfl rfl ?_ | refine l_ln rfl rfl rfl rfl ?_
  refine l_cmp rfl rfl rfl rfl ?_
  refine l_op 2 rfl rfl rfl rfl rfl ?_
  refine l_nil (WK.nx (by assumption) ?_)
  refine SeqK.nx (by assumption) ?_
  refine l_cond rfl rfl (fun hc2 => ?_) (fun hc2 => ?_)
  · first | replace hc2 := bne_iff_ne.1 ((irr_eq _).symm.trans hc2) | simp only [irr_eq, bne_iff_ne, bne_eq_false_iff_eq, ne_eq, decide_eq_true_eq, decide_eq_false_iff_not, Bool.not_eq_true', Bool.not_eq_false'] at hc2
    first | skip | skip
    refine k_seq (fun Q K => ?_)
    refine k_lin (fun W K => ?_)
    refine l_op 0 rfl rfl rfl rfl rfl ?_
    refine l_nil (WK.nx (by assumption) ?_)
    refine SeqK.nx (by assumption) ?_
    refine k_ret ?_
    refine SeqK.rt (by assumption) ?_
    refine FunK.rt (by assumption) rfl ?_
    -- leaf 2
    refine ⟨(), ?_, F.pick [] (by decide), trivial⟩
    show Value.bool _ = Value.bool _
    rw [irr_eq]
    first
      | (rw [decide_eq_false hne]; done)
      | (rw [decide_eq_false (fun e => hne (by rw [e.2]))]; done)
      | (rw [decide_eq_false (fun e => by have := congrArg List.length e.2; omega)]; done)
      | (rw [decide_eq_true ⟨ho, by rw [List.take_of_length_le (by omega), List.take_of_length_le (by omega)] at hI; exact hI⟩])
  first | replace hc2 := bne_eq_false_iff_eq.1 ((irr_eq _).symm.trans hc2) | simp only [irr_eq, bne_iff_ne, bne_eq_false_iff_eq, ne_eq, decide_eq_true_eq, decide_eq_false_iff_not, Bool.not_eq_true', Bool.not_eq_false'] at hc2
  refine k_skip ?_
  refine SeqK.nx (by assumption) ?_
  refine k_seq (fun Q K => ?_)
  refine k_seq (fun Q K => ?_)
  refine k_lin (fun W K => ?_)
  refine l_op 0 rfl rfl rfl rfl rfl ?_
  refine l_nil (WK.nx (by assumption) ?_)
  refine SeqK.nx (by assumption) ?_
  refine k_block (fun Q K => ?_)
  refine k_loop (α := Int) (fun i s => Facts E0 σ s [cel q2 [.int .u32 o1, .slice a xs.length c1], cel q3 [.int .u32 o2, .slice b ys.length c2]] ∧ 0 ≤ i ∧ i ≤ xs.length ∧ xs.take i.toNat = ys.take i.toNat) (fun i => [(2, .pointer (some ⟨q2, 0, none⟩)), (3, .pointer (some ⟨q3, 0, none⟩)), (5, .int .i64 i)]) (fun i => (xs.length - i).toNat) 0 ⟨F.pick [0, 1] (by decide), by omega, by omega, by simp⟩ (by repeat (first | exact trivial | refine And.intro rfl ?_)) ?_
  clear F
  rintro i env s Q K0 ⟨F, i0, i1, hI⟩
  refine k_seq (fun Q K => ?_)
  refine k_seq (fun Q K => ?_)
  refine k_lin (fun W K => ?_)
  refine l_op 0 rfl rfl rfl rfl rfl ?_
  refine l_op 2 rfl rfl rfl rfl rfl ?_
  refine l_ldc F 0 rfl rfl rfl rfl rfl rfl rfl ?_
  first | refine l_op 2 rfl rfl rfl rfl rfl ?_ | refine l_ln rfl rfl rfl rfl ?_
  refine l_cmp rfl rfl rfl rfl ?_
  refine l_nil (WK.nx (by assumption) ?_)
  refine SeqK.nx (by assumption) ?_
  refine l_cond rfl rfl (fun hc3 => ?_) (fun hc3 => ?_)
  · replace hc3 := of_decide_eq_true ((irr_eq _).symm.trans hc3)
    refine k_skip ?_
    refine SeqK.nx (by assumption) ?_
    refine k_seq (fun Q K => ?_)
    refine k_block (fun Q K => ?_)
    refine k_seq (fun Q K => ?_)
    refine k_linm [0, 2, 5, 7, 1, 3, 4, 6, 8, 9, 10] mixed (by kernel_rfl) (fun W K => ?_)
    try have hpS := F.pns
    refine l_op 2 rfl rfl rfl rfl rfl ?_
    refine l_op 0 rfl rfl rfl rfl rfl ?_
    refine l_op 2 rfl rfl rfl rfl rfl ?_
    refine l_op 0 rfl rfl rfl rfl rfl ?_
    refine l_ldc F 0 rfl rfl rfl rfl rfl rfl rfl ?_
    first | have hpS := PnS.add hpS hS2 | have hpS := PnS.add hpS (OldC.sf (by assumption)) | skip
    refine l_ixrs (e := eO) F h1 ⟨eO_len, by decide⟩ rfl rfl rfl rfl rfl rfl (by omega) (fun m30 b30 hA30 hS30 => ?_)
    refine l_lda (ws := eO (xs.getD i.toNat default)) rfl rfl rfl rfl rfl hA30 ?_
    refine l_ldc F 1 rfl rfl rfl rfl rfl rfl rfl ?_
    first | have hpS := PnS.add hpS hS3 | have hpS := PnS.add hpS (OldC.sf (by assumption)) | skip
    refine l_ixrs (e := eO) F h2 ⟨eO_len, by decide⟩ rfl rfl rfl rfl rfl rfl (by omega) (fun m35 b35 hA35 hS35 => ?_)
    refine l_lda (ws := eO (ys.getD i.toNat default)) rfl rfl rfl rfl rfl hA35 ?_
    refine l_cm2 (ng := true) (a0 := (xs.getD i.toNat default).1) (a1 := (xs.getD i.toNat default).2) (b0 := (ys.getD i.toNat default).1) (b1 := (ys.getD i.toNat default).2) (by kernel_rfl) rfl rfl ?_
    refine l_nil (WK.nx (by assumption) ?_)
    refine SeqK.nx (by assumption) ?_
    refine l_cond rfl rfl (fun hc4 => ?_) (fun hc4 => ?_)
    · try simp only [irr_eq, beq_iff_eq, bne_iff_ne, beq_eq_false_iff_ne, bne_eq_false_iff_eq, ne_eq, decide_eq_true_eq, decide_eq_false_iff_not, Bool.not_eq_true', Bool.not_eq_false'] at hc4
      have hne : xs.getD i.toNat default ≠ ys.getD i.toNat default := fun e => by rw [e] at hc4; simp at hc4
      refine k_seq (fun Q K => ?_)
      refine k_lin (fun W K => ?_)
      refine l_op 0 rfl rfl rfl rfl rfl ?_
      refine l_nil (WK.nx (by assumption) ?_)
      refine SeqK.nx (by assumption) ?_
      refine k_ret ?_
      refine BlkK.rt (by assumption) ?_
      refine SeqK.rt (by assumption) ?_
      refine LoopK.rt (by assumption) ?_
      refine BlkK.rt (by assumption) ?_
      refine SeqK.rt (by assumption) ?_
      refine FunK.rt (by assumption) rfl ?_
      -- leaf 3
      refine ⟨(), ?_, F.pick [] (by decide), trivial⟩
      show Value.bool _ = Value.bool _
      rw [irr_eq]
      first
        | (rw [decide_eq_false hne]; done)
        | (rw [decide_eq_false (fun e => hne (by rw [e.2]))]; done)
        | (rw [decide_eq_false (fun e => by have := congrArg List.length e.2; omega)]; done)
        | (rw [decide_eq_true ⟨ho, by rw [List.take_of_length_le (by omega), List.take_of_length_le (by omega)] at hI; exact hI⟩])
    try simp only [irr_eq, beq_iff_eq, bne_iff_ne, beq_eq_false_iff_ne, bne_eq_false_iff_eq, ne_eq, decide_eq_true_eq, decide_eq_false_iff_not, Bool.not_eq_true', Bool.not_eq_false'] at hc4
    have heq : xs.getD i.toNat default = ys.getD i.toNat default := by
      simp only [if_true, Bool.not_eq_false', Bool.and_eq_true, beq_iff_eq] at hc4
      exact Prod.ext hc4.1 hc4.2
    refine k_skip ?_
    refine BlkK.nx (by assumption) ?_
    refine SeqK.nx (by assumption) ?_
    refine k_lin (fun W K => ?_)
    refine l_op 0 rfl rfl rfl rfl rfl ?_
    refine l_a64 rfl rfl rfl (by omega) rfl ?_
    refine l_op 0 rfl rfl rfl rfl rfl ?_
    refine l_nil (WK.nx (by assumption) ?_)
    have e1 : (i + 1).toNat = i.toNat + 1 := by omega
    have e2 : xs.take (i.toNat + 1) = ys.take (i.toNat + 1) := by
      rw [List.take_add_one, List.take_add_one, hI]
      have h3 : i.toNat < xs.length := by omega
      have h4 : i.toNat < ys.length := by omega
      simp only [List.getD, List.getElem?_eq_getElem h3, List.getElem?_eq_getElem h4, Option.getD_some] at heq
      rw [List.getElem?_eq_getElem h3, List.getElem?_eq_getElem h4, heq]
    exact K0.nx (i + 1) (by repeat (first | exact trivial | refine And.intro rfl ?_)) ⟨F, by omega, by omega, by rw [e1]; exact e2⟩ (by first | omega | (simp only; omega))
  replace hc3 := of_decide_eq_false ((irr_eq _).symm.trans hc3)
  refine k_exit ?_
  refine SeqK.et (by assumption) ?_
  refine LoopK.et (by assumption) ?_
  refine BlkK.et (by assumption) ?_
  refine SeqK.nx (by assumption) ?_
  refine k_seq (fun Q K => ?_)
  refine k_lin (fun W K => ?_)
  refine l_op 0 rfl rfl rfl rfl rfl ?_
  refine l_nil (WK.nx (by assumption) ?_)
  refine SeqK.nx (by assumption) ?_
  refine k_ret ?_
  refine FunK.rt (by assumption) rfl ?_
  -- leaf 4
  refine ⟨(), ?_, F.pick [] (by decide), trivial⟩
  show Value.bool _ = Value.bool _
  rw [irr_eq]
  first
    | (rw [decide_eq_false hne]; done)
    | (rw [decide_eq_false (fun e => hne (by rw [e.2]))]; done)
    | (rw [decide_eq_false (fun e => by have := congrArg List.length e.2; omega)]; done)
    | (rw [decide_eq_true ⟨ho, by rw [List.take_of_length_le (by omega), List.take_of_length_le (by omega)] at hI; exact hI⟩])
/-- The divisors of the document's Put. -/
def pwR (k : Int) : Int := if k = 4 then 16777216 else if k = 3 then 65536 else if k = 2 then 256 else if k = 1 then 1 else 0
theorem rput_step {x n i : Int} (h : n = 1 ∨ n = 2 ∨ n = 4) (hi : 0 ≤ i ∧ i < n) (hx : U32 x) : (putR x n).take i.toNat ++ [x / pwR (n - i) % 256] = (putR x n).take (i.toNat + 1) := by
  obtain ⟨x0, x1⟩ := hx
  have hi4 : i = 0 ∨ i = 1 ∨ i = 2 ∨ i = 3 := by omega
  rcases h with rfl | rfl | rfl <;> rcases hi4 with rfl | rfl | rfl | rfl <;> first | (exfalso; omega) | (simp [putR, pwR]; done) | (simp [putR, pwR]; omega)
theorem pwR_div {n i : Int} (h : n = 1 ∨ n = 2 ∨ n = 4) (hi : 0 ≤ i ∧ i < n) : pwR (n - i) / 256 = pwR (n - (i + 1)) ∧ 0 < pwR (n - i) ∧ pwR (n - i) ≤ 16777216 := by
  have hi4 : i = 0 ∨ i = 1 ∨ i = 2 ∨ i = 3 := by omega
  rcases h with rfl | rfl | rfl <;> rcases hi4 with rfl | rfl | rfl | rfl <;> first | (exfalso; omega) | decide
theorem pwR_mul {i : Int} (hi : 1 ≤ i ∧ i < 4) : 256 * pwR i = pwR (i + 1) := by
  have hi4 : i = 1 ∨ i = 2 ∨ i = 3 := by omega
  rcases hi4 with rfl | rfl | rfl <;> decide
theorem rput_call {σ : AState} {x n : Int} (hx : U32 x) :
    SCall Try.prog E0 33 [.int .u32 x, .int .i64 n] σ (Ret E0 σ (fun (y : Option Addr × Nat) => .slice y.1 (putR x n).length y.2) (fun y => [own y.1 (putR x n).length y.2 1 (u8l (putR x n))]) fun _ => True) := by
  have hx' := hx
  obtain ⟨x0, x1⟩ := hx
  refine k_fun Try.func33 rfl (m := 43) rfl fun B hD Q K => ?_
  have F := (Facts.nil E0 σ).nilrow 1
  refine k_seq (fun Q K => ?_)
  refine k_lin (fun W K => ?_)
  refine l_op 0 rfl rfl rfl rfl rfl ?_
  refine l_nil (WK.nx (by assumption) ?_)
  refine SeqK.nx (by assumption) ?_
  refine k_seq (fun Q K => ?_)
  refine k_seq (fun Q K => ?_)
  refine k_lin (fun W K => ?_)
  refine l_op 0 rfl rfl rfl rfl rfl ?_
  refine l_cmp rfl rfl rfl rfl ?_
  refine l_op 0 rfl rfl rfl rfl rfl ?_
  refine l_guard rfl rfl rfl (fun hc1 => ?_) (fun hc1 => ?_)
  · first | replace hc1 := bne_iff_ne.1 ((irr_eq _).symm.trans hc1) | simp only [irr_eq, bne_iff_ne, bne_eq_false_iff_eq, ne_eq, decide_eq_true_eq, decide_eq_false_iff_not, Bool.not_eq_true', Bool.not_eq_false'] at hc1
    refine l_op 0 rfl rfl rfl rfl rfl ?_
    refine l_cmp rfl rfl rfl rfl ?_
    refine l_op 2 rfl rfl rfl rfl rfl ?_
    refine l_op 0 rfl rfl rfl rfl rfl ?_
    refine l_guard rfl rfl rfl (fun hc2 => ?_) (fun hc2 => ?_)
    · first | replace hc2 := bne_iff_ne.1 ((irr_eq _).symm.trans hc2) | simp only [irr_eq, bne_iff_ne, bne_eq_false_iff_eq, ne_eq, decide_eq_true_eq, decide_eq_false_iff_not, Bool.not_eq_true', Bool.not_eq_false'] at hc2
      refine l_op 0 rfl rfl rfl rfl rfl ?_
      refine l_cmp rfl rfl rfl rfl ?_
      refine l_op 2 rfl rfl rfl rfl rfl ?_
      refine l_nil (WK.nx (by assumption) ?_)
      refine SeqK.nx (by assumption) ?_
      refine l_cond rfl rfl (fun hc3 => ?_) (fun hc3 => ?_)
      · first | replace hc3 := bne_iff_ne.1 ((irr_eq _).symm.trans hc3) | simp only [irr_eq, bne_iff_ne, bne_eq_false_iff_eq, ne_eq, decide_eq_true_eq, decide_eq_false_iff_not, Bool.not_eq_true', Bool.not_eq_false'] at hc3
        refine k_seq (fun Q K => ?_)
        refine k_lin (fun W K => ?_)
        refine l_op 0 rfl rfl rfl rfl rfl ?_
        refine l_nil (WK.nx (by assumption) ?_)
        refine SeqK.nx (by assumption) ?_
        refine k_ret ?_
        refine SeqK.rt (by assumption) ?_
        refine FunK.rt (by assumption) rfl ?_
        -- leaf 1
        first
          | (have hp := putR_none (x := x) (n := n) (by omega)
             rw [hp]
             exact ⟨(none, 0), rfl, F, trivial⟩)
          | (have e1 : j.toNat = (putR x i).length := by have := putR_n (x := x) hn; omega
             rw [e1, List.take_length] at F
             exact ⟨(y, c), by rw [e1]; rfl, F, trivial⟩)
      first | replace hc3 := bne_eq_false_iff_eq.1 ((irr_eq _).symm.trans hc3) | simp only [irr_eq, bne_iff_ne, bne_eq_false_iff_eq, ne_eq, decide_eq_true_eq, decide_eq_false_iff_not, Bool.not_eq_true', Bool.not_eq_false'] at hc3
      refine k_skip ?_
      refine SeqK.nx (by assumption) ?_
      refine k_seq (fun Q K => ?_)
      refine k_lin (fun W K => ?_)
      refine l_op 0 rfl rfl rfl rfl rfl ?_
      refine l_nil (WK.nx (by assumption) ?_)
      refine SeqK.nx (by assumption) ?_
      refine k_seq (fun Q K => ?_)
      refine k_lin (fun W K => ?_)
      refine l_op 0 rfl rfl rfl rfl rfl ?_
      refine l_nil (WK.nx (by assumption) ?_)
      refine SeqK.nx (by assumption) ?_
      refine k_seq (fun Q K => ?_)
      refine k_seq (fun Q K => ?_)
      refine k_lin (fun W K => ?_)
      refine l_op 0 rfl rfl rfl rfl rfl ?_
      refine l_nil (WK.nx (by assumption) ?_)
      refine SeqK.nx (by assumption) ?_
      refine k_block (fun Q K => ?_)
      have hn : n = 1 ∨ n = 2 ∨ n = 4 := by omega
      refine k_loop (α := Int) (fun i s => Facts E0 σ s [own none 0 0 1 []] ∧ 1 ≤ i ∧ i ≤ n) (fun i => [(0, .int .u32 x), (1, .int .i64 n), (5, .slice none 0 0), (6, .int .i64 (pwR i)), (7, .int .i64 i)]) (fun i => (n - i).toNat) 1 ⟨F, by omega, by omega⟩ (by repeat (first | exact trivial | refine And.intro rfl ?_)) ?_
      clear F
      rintro i env s Q K0 ⟨F, i0, i1⟩
      refine k_seq (fun Q K => ?_)
      refine k_seq (fun Q K => ?_)
      refine k_lin (fun W K => ?_)
      refine l_op 0 rfl rfl rfl rfl rfl ?_
      refine l_op 0 rfl rfl rfl rfl rfl ?_
      refine l_cmp rfl rfl rfl rfl ?_
      refine l_nil (WK.nx (by assumption) ?_)
      refine SeqK.nx (by assumption) ?_
      refine l_cond rfl rfl (fun hc4 => ?_) (fun hc4 => ?_)
      · replace hc4 := of_decide_eq_true ((irr_eq _).symm.trans hc4)
        have hpm := pwR_mul (i := i) (by omega)
        have hpb := pwR_div (n := 4) (i := 4 - (i + 1)) (by omega) (by omega)
        rw [show (4 : Int) - (4 - (i + 1)) = i + 1 by omega] at hpb
        refine k_skip ?_
        refine SeqK.nx (by assumption) ?_
        refine k_seq (fun Q K => ?_)
        refine k_block (fun Q K => ?_)
        refine k_lin (fun W K => ?_)
        refine l_op 0 rfl rfl rfl rfl rfl ?_
        refine l_a64 rfl rfl rfl (by omega) rfl ?_
        refine l_op 0 rfl rfl rfl rfl rfl ?_
        refine l_nil (WK.nx (by assumption) ?_)
        refine BlkK.nx (by assumption) ?_
        refine SeqK.nx (by assumption) ?_
        refine k_lin (fun W K => ?_)
        refine l_op 0 rfl rfl rfl rfl rfl ?_
        refine l_a64 rfl rfl rfl (by omega) rfl ?_
        refine l_op 0 rfl rfl rfl rfl rfl ?_
        refine l_nil (WK.nx (by assumption) ?_)
        exact K0.nx (i + 1) (by rw [← hpm]; exact (by repeat (first | exact trivial | refine And.intro rfl ?_))) ⟨F, by omega, by omega⟩ (by first | omega | (simp only; omega))
      replace hc4 := of_decide_eq_false ((irr_eq _).symm.trans hc4)
      have hin : i = n := by omega
      subst hin
      refine k_exit ?_
      refine SeqK.et (by assumption) ?_
      refine LoopK.et (by assumption) ?_
      refine BlkK.et (by assumption) ?_
      refine SeqK.nx (by assumption) ?_
      refine k_seq (fun Q K => ?_)
      refine k_seq (fun Q K => ?_)
      refine k_lin (fun W K => ?_)
      refine l_op 0 rfl rfl rfl rfl rfl ?_
      refine l_nil (WK.nx (by assumption) ?_)
      refine SeqK.nx (by assumption) ?_
      refine k_block (fun Q K => ?_)
      refine k_loop (α := Int × Option Addr × Nat) (fun ⟨j, y, c⟩ s => Facts E0 σ s [own y j.toNat c 1 (u8l ((putR x i).take j.toNat))] ∧ 0 ≤ j ∧ j ≤ i) (fun ⟨j, y, c⟩ => [(0, .int .u32 x), (1, .int .i64 i), (5, .slice y j.toNat c), (6, .int .i64 (pwR (i - j))), (8, .int .i64 j)]) (fun ⟨j, _⟩ => (i - j).toNat) (0, none, 0) ⟨F, by omega, by omega⟩ (by dsimp only; rw [Int.sub_zero]; exact (by repeat (first | exact trivial | refine And.intro rfl ?_))) ?_
      clear F
      rintro ⟨j, y, c⟩ env s Q K0 ⟨F, j0, j1⟩
      refine k_seq (fun Q K => ?_)
      refine k_seq (fun Q K => ?_)
      refine k_lin (fun W K => ?_)
      refine l_op 0 rfl rfl rfl rfl rfl ?_
      refine l_op 0 rfl rfl rfl rfl rfl ?_
      refine l_cmp rfl rfl rfl rfl ?_
      refine l_nil (WK.nx (by assumption) ?_)
      refine SeqK.nx (by assumption) ?_
      refine l_cond rfl rfl (fun hc5 => ?_) (fun hc5 => ?_)
      · replace hc5 := of_decide_eq_true ((irr_eq _).symm.trans hc5)
        obtain ⟨pd, pp, pq⟩ := pwR_div (n := i) (i := j) hn (by omega)
        have hxd : 0 ≤ x / pwR (i - j) ∧ x / pwR (i - j) ≤ x := ⟨Int.ediv_nonneg x0 (by omega), Int.ediv_le_self _ x0⟩
        refine k_skip ?_
        refine SeqK.nx (by assumption) ?_
        refine k_seq (fun Q K => ?_)
        refine k_block (fun Q K => ?_)
        refine k_seq (fun Q K => ?_)
        refine k_lin (fun W K => ?_)
        refine l_op 0 rfl rfl rfl rfl rfl ?_
        refine l_op 0 rfl rfl rfl rfl rfl ?_
        refine l_c64 rfl rfl rfl (by omega) rfl ?_
        refine l_op 0 rfl rfl rfl rfl rfl ?_
        first | refine l_quon rfl rfl rfl rfl rfl (by omega) rfl ?_ | refine l_quou64 rfl rfl rfl rfl rfl (by omega) rfl ?_ | refine l_quou32 rfl rfl rfl rfl rfl (by omega) rfl ?_ | refine l_quo rfl rfl rfl rfl rfl (by omega) rfl ?_
        first | refine l_remn rfl rfl rfl rfl rfl (by omega) rfl ?_ | refine l_rem rfl rfl rfl rfl rfl (by omega) rfl ?_
        refine l_c8 rfl rfl rfl (by omega) rfl ?_
        refine l_lit F rfl rfl rfl rfl (fun q38 s F => ?_)
        (try dsimp only [n_1, n_2, n_3, n_4, List.append_nil, pk, n_5, n_6] at F)
        refine l_appi F 0 rfl rfl rfl rfl rfl rfl rfl (ys := [x / pwR (i - j) % 256]) (F.has 1 rfl) rfl (by omega) hD (fun x2 c2 s F => ?_)
        (try dsimp only [n_1, n_2, n_3, n_4, List.append_nil, pk, n_5, n_6] at F)
        refine l_op 0 rfl rfl rfl rfl rfl ?_
        refine l_nil (WK.nx (by assumption) ?_)
        refine SeqK.nx (by assumption) ?_
        refine k_lin (fun W K => ?_)
        refine l_op 0 rfl rfl rfl rfl rfl ?_
        first | refine l_quon rfl rfl rfl rfl rfl (by omega) rfl ?_ | refine l_quou64 rfl rfl rfl rfl rfl (by omega) rfl ?_ | refine l_quou32 rfl rfl rfl rfl rfl (by omega) rfl ?_ | refine l_quo rfl rfl rfl rfl rfl (by omega) rfl ?_
        refine l_op 0 rfl rfl rfl rfl rfl ?_
        refine l_nil (WK.nx (by assumption) ?_)
        refine BlkK.nx (by assumption) ?_
        refine SeqK.nx (by assumption) ?_
        refine k_lin (fun W K => ?_)
        refine l_op 0 rfl rfl rfl rfl rfl ?_
        refine l_a64 rfl rfl rfl (by omega) rfl ?_
        refine l_op 0 rfl rfl rfl rfl rfl ?_
        refine l_nil (WK.nx (by assumption) ?_)
        have e1 : (j + 1).toNat = j.toNat + 1 := by omega
        rw [rput_step hn (by omega) hx', ← e1] at F
        exact K0.nx (j + 1, x2, c2) (by dsimp only; rw [← pd, e1]; exact (by repeat (first | exact trivial | refine And.intro rfl ?_))) ⟨F.pick [0] (by decide), by omega, by omega⟩ (by first | omega | (simp only; omega))
      replace hc5 := of_decide_eq_false ((irr_eq _).symm.trans hc5)
      refine k_exit ?_
      refine SeqK.et (by assumption) ?_
      refine LoopK.et (by assumption) ?_
      refine BlkK.et (by assumption) ?_
      refine SeqK.nx (by assumption) ?_
      refine k_seq (fun Q K => ?_)
      refine k_lin (fun W K => ?_)
      refine l_op 0 rfl rfl rfl rfl rfl ?_
      refine l_op 0 rfl rfl rfl rfl rfl ?_
      refine l_nil (WK.nx (by assumption) ?_)
      refine SeqK.nx (by assumption) ?_
      refine k_ret ?_
      refine FunK.rt (by assumption) rfl ?_
      -- leaf 2
      first
        | (have hp := putR_none (x := x) (n := n) (by omega)
           rw [hp]
           exact ⟨(none, 0), rfl, F, trivial⟩)
        | (have e1 : j.toNat = (putR x i).length := by have := putR_n (x := x) hn; omega
           rw [e1, List.take_length] at F
           exact ⟨(y, c), by rw [e1]; rfl, F, trivial⟩)
    first | replace hc2 := bne_eq_false_iff_eq.1 ((irr_eq _).symm.trans hc2) | simp only [irr_eq, bne_iff_ne, bne_eq_false_iff_eq, ne_eq, decide_eq_true_eq, decide_eq_false_iff_not, Bool.not_eq_true', Bool.not_eq_false'] at hc2
    refine l_s rfl rfl ?_
    refine l_s rfl rfl ?_
    refine l_op 2 rfl rfl rfl rfl rfl ?_
    refine l_nil (WK.nx (by assumption) ?_)
    refine SeqK.nx (by assumption) ?_
    first | refine e_cond_f rfl rfl rfl ?_ | refine e_cond_f rfl rfl (by rw [irr_eq]; first | exact beq_eq_false_iff_ne.2 (by assumption) | exact decide_eq_false (by assumption) | exact bne_eq_false_iff_eq.2 (by assumption)) ?_
    refine k_skip ?_
    refine SeqK.nx (by assumption) ?_
    refine k_seq (fun Q K => ?_)
    refine k_lin (fun W K => ?_)
    refine l_op 0 rfl rfl rfl rfl rfl ?_
    refine l_nil (WK.nx (by assumption) ?_)
    refine SeqK.nx (by assumption) ?_
    refine k_seq (fun Q K => ?_)
    refine k_lin (fun W K => ?_)
    refine l_op 0 rfl rfl rfl rfl rfl ?_
    refine l_nil (WK.nx (by assumption) ?_)
    refine SeqK.nx (by assumption) ?_
    refine k_seq (fun Q K => ?_)
    refine k_seq (fun Q K => ?_)
    refine k_lin (fun W K => ?_)
    refine l_op 0 rfl rfl rfl rfl rfl ?_
    refine l_nil (WK.nx (by assumption) ?_)
    refine SeqK.nx (by assumption) ?_
    refine k_block (fun Q K => ?_)
    have hn : n = 1 ∨ n = 2 ∨ n = 4 := by omega
    refine k_loop (α := Int) (fun i s => Facts E0 σ s [own none 0 0 1 []] ∧ 1 ≤ i ∧ i ≤ n) (fun i => [(0, .int .u32 x), (1, .int .i64 n), (5, .slice none 0 0), (6, .int .i64 (pwR i)), (7, .int .i64 i)]) (fun i => (n - i).toNat) 1 ⟨F, by omega, by omega⟩ (by repeat (first | exact trivial | refine And.intro rfl ?_)) ?_
    clear F
    rintro i env s Q K0 ⟨F, i0, i1⟩
    refine k_seq (fun Q K => ?_)
    refine k_seq (fun Q K => ?_)
    refine k_lin (fun W K => ?_)
    refine l_op 0 rfl rfl rfl rfl rfl ?_
    refine l_op 0 rfl rfl rfl rfl rfl ?_
    refine l_cmp rfl rfl rfl rfl ?_
    refine l_nil (WK.nx (by assumption) ?_)
    refine SeqK.nx (by assumption) ?_
    refine l_cond rfl rfl (fun hc6 => ?_) (fun hc6 => ?_)
    · replace hc6 := of_decide_eq_true ((irr_eq _).symm.trans hc6)
      have hpm := pwR_mul (i := i) (by omega)
      have hpb := pwR_div (n := 4) (i := 4 - (i + 1)) (by omega) (by omega)
      rw [show (4 : Int) - (4 - (i + 1)) = i + 1 by omega] at hpb
      refine k_skip ?_
      refine SeqK.nx (by assumption) ?_
      refine k_seq (fun Q K => ?_)
      refine k_block (fun Q K => ?_)
      refine k_lin (fun W K => ?_)
      refine l_op 0 rfl rfl rfl rfl rfl ?_
      refine l_a64 rfl rfl rfl (by omega) rfl ?_
      refine l_op 0 rfl rfl rfl rfl rfl ?_
      refine l_nil (WK.nx (by assumption) ?_)
      refine BlkK.nx (by assumption) ?_
      refine SeqK.nx (by assumption) ?_
      refine k_lin (fun W K => ?_)
      refine l_op 0 rfl rfl rfl rfl rfl ?_
      refine l_a64 rfl rfl rfl (by omega) rfl ?_
      refine l_op 0 rfl rfl rfl rfl rfl ?_
      refine l_nil (WK.nx (by assumption) ?_)
      exact K0.nx (i + 1) (by rw [← hpm]; exact (by repeat (first | exact trivial | refine And.intro rfl ?_))) ⟨F, by omega, by omega⟩ (by first | omega | (simp only; omega))
    replace hc6 := of_decide_eq_false ((irr_eq _).symm.trans hc6)
    have hin : i = n := by omega
    subst hin
    refine k_exit ?_
    refine SeqK.et (by assumption) ?_
    refine LoopK.et (by assumption) ?_
    refine BlkK.et (by assumption) ?_
    refine SeqK.nx (by assumption) ?_
    refine k_seq (fun Q K => ?_)
    refine k_seq (fun Q K => ?_)
    refine k_lin (fun W K => ?_)
    refine l_op 0 rfl rfl rfl rfl rfl ?_
    refine l_nil (WK.nx (by assumption) ?_)
    refine SeqK.nx (by assumption) ?_
    refine k_block (fun Q K => ?_)
    refine k_loop (α := Int × Option Addr × Nat) (fun ⟨j, y, c⟩ s => Facts E0 σ s [own y j.toNat c 1 (u8l ((putR x i).take j.toNat))] ∧ 0 ≤ j ∧ j ≤ i) (fun ⟨j, y, c⟩ => [(0, .int .u32 x), (1, .int .i64 i), (5, .slice y j.toNat c), (6, .int .i64 (pwR (i - j))), (8, .int .i64 j)]) (fun ⟨j, _⟩ => (i - j).toNat) (0, none, 0) ⟨F, by omega, by omega⟩ (by dsimp only; rw [Int.sub_zero]; exact (by repeat (first | exact trivial | refine And.intro rfl ?_))) ?_
    clear F
    rintro ⟨j, y, c⟩ env s Q K0 ⟨F, j0, j1⟩
    refine k_seq (fun Q K => ?_)
    refine k_seq (fun Q K => ?_)
    refine k_lin (fun W K => ?_)
    refine l_op 0 rfl rfl rfl rfl rfl ?_
    refine l_op 0 rfl rfl rfl rfl rfl ?_
    refine l_cmp rfl rfl rfl rfl ?_
    refine l_nil (WK.nx (by assumption) ?_)
    refine SeqK.nx (by assumption) ?_
    refine l_cond rfl rfl (fun hc7 => ?_) (fun hc7 => ?_)
    · replace hc7 := of_decide_eq_true ((irr_eq _).symm.trans hc7)
      obtain ⟨pd, pp, pq⟩ := pwR_div (n := i) (i := j) hn (by omega)
      have hxd : 0 ≤ x / pwR (i - j) ∧ x / pwR (i - j) ≤ x := ⟨Int.ediv_nonneg x0 (by omega), Int.ediv_le_self _ x0⟩
      refine k_skip ?_
      refine SeqK.nx (by assumption) ?_
      refine k_seq (fun Q K => ?_)
      refine k_block (fun Q K => ?_)
      refine k_seq (fun Q K => ?_)
      refine k_lin (fun W K => ?_)
      refine l_op 0 rfl rfl rfl rfl rfl ?_
      refine l_op 0 rfl rfl rfl rfl rfl ?_
      refine l_c64 rfl rfl rfl (by omega) rfl ?_
      refine l_op 0 rfl rfl rfl rfl rfl ?_
      first | refine l_quon rfl rfl rfl rfl rfl (by omega) rfl ?_ | refine l_quou64 rfl rfl rfl rfl rfl (by omega) rfl ?_ | refine l_quou32 rfl rfl rfl rfl rfl (by omega) rfl ?_ | refine l_quo rfl rfl rfl rfl rfl (by omega) rfl ?_
      first | refine l_remn rfl rfl rfl rfl rfl (by omega) rfl ?_ | refine l_rem rfl rfl rfl rfl rfl (by omega) rfl ?_
      refine l_c8 rfl rfl rfl (by omega) rfl ?_
      refine l_lit F rfl rfl rfl rfl (fun q38 s F => ?_)
      (try dsimp only [n_1, n_2, n_3, n_4, List.append_nil, pk, n_5, n_6] at F)
      refine l_appi F 0 rfl rfl rfl rfl rfl rfl rfl (ys := [x / pwR (i - j) % 256]) (F.has 1 rfl) rfl (by omega) hD (fun x2 c2 s F => ?_)
      (try dsimp only [n_1, n_2, n_3, n_4, List.append_nil, pk, n_5, n_6] at F)
      refine l_op 0 rfl rfl rfl rfl rfl ?_
      refine l_nil (WK.nx (by assumption) ?_)
      refine SeqK.nx (by assumption) ?_
      refine k_lin (fun W K => ?_)
      refine l_op 0 rfl rfl rfl rfl rfl ?_
      first | refine l_quon rfl rfl rfl rfl rfl (by omega) rfl ?_ | refine l_quou64 rfl rfl rfl rfl rfl (by omega) rfl ?_ | refine l_quou32 rfl rfl rfl rfl rfl (by omega) rfl ?_ | refine l_quo rfl rfl rfl rfl rfl (by omega) rfl ?_
      refine l_op 0 rfl rfl rfl rfl rfl ?_
      refine l_nil (WK.nx (by assumption) ?_)
      refine BlkK.nx (by assumption) ?_
      refine SeqK.nx (by assumption) ?_
      refine k_lin (fun W K => ?_)
      refine l_op 0 rfl rfl rfl rfl rfl ?_
      refine l_a64 rfl rfl rfl (by omega) rfl ?_
      refine l_op 0 rfl rfl rfl rfl rfl ?_
      refine l_nil (WK.nx (by assumption) ?_)
      have e1 : (j + 1).toNat = j.toNat + 1 := by omega
      rw [rput_step hn (by omega) hx', ← e1] at F
      exact K0.nx (j + 1, x2, c2) (by dsimp only; rw [← pd, e1]; exact (by repeat (first | exact trivial | refine And.intro rfl ?_))) ⟨F.pick [0] (by decide), by omega, by omega⟩ (by first | omega | (simp only; omega))
    replace hc7 := of_decide_eq_false ((irr_eq _).symm.trans hc7)
    refine k_exit ?_
    refine SeqK.et (by assumption) ?_
    refine LoopK.et (by assumption) ?_
    refine BlkK.et (by assumption) ?_
    refine SeqK.nx (by assumption) ?_
    refine k_seq (fun Q K => ?_)
    refine k_lin (fun W K => ?_)
    refine l_op 0 rfl rfl rfl rfl rfl ?_
    refine l_op 0 rfl rfl rfl rfl rfl ?_
    refine l_nil (WK.nx (by assumption) ?_)
    refine SeqK.nx (by assumption) ?_
    refine k_ret ?_
    refine FunK.rt (by assumption) rfl ?_
    -- leaf 3
    first
      | (have hp := putR_none (x := x) (n := n) (by omega)
         rw [hp]
         exact ⟨(none, 0), rfl, F, trivial⟩)
      | (have e1 : j.toNat = (putR x i).length := by have := putR_n (x := x) hn; omega
         rw [e1, List.take_length] at F
         exact ⟨(y, c), by rw [e1]; rfl, F, trivial⟩)
  first | replace hc1 := bne_eq_false_iff_eq.1 ((irr_eq _).symm.trans hc1) | simp only [irr_eq, bne_iff_ne, bne_eq_false_iff_eq, ne_eq, decide_eq_true_eq, decide_eq_false_iff_not, Bool.not_eq_true', Bool.not_eq_false'] at hc1
  refine l_s rfl rfl ?_
  refine l_s rfl rfl ?_
  refine l_op 2 rfl rfl rfl rfl rfl ?_
  refine l_op 0 rfl rfl rfl rfl rfl ?_
  refine l_s rfl rfl ?_
  refine l_s rfl rfl ?_
  refine l_op 2 rfl rfl rfl rfl rfl ?_
  refine l_nil (WK.nx (by assumption) ?_)
  refine SeqK.nx (by assumption) ?_
  first | refine e_cond_f rfl rfl rfl ?_ | refine e_cond_f rfl rfl (by rw [irr_eq]; first | exact beq_eq_false_iff_ne.2 (by assumption) | exact decide_eq_false (by assumption) | exact bne_eq_false_iff_eq.2 (by assumption)) ?_
  refine k_skip ?_
  refine SeqK.nx (by assumption) ?_
  refine k_seq (fun Q K => ?_)
  refine k_lin (fun W K => ?_)
  refine l_op 0 rfl rfl rfl rfl rfl ?_
  refine l_nil (WK.nx (by assumption) ?_)
  refine SeqK.nx (by assumption) ?_
  refine k_seq (fun Q K => ?_)
  refine k_lin (fun W K => ?_)
  refine l_op 0 rfl rfl rfl rfl rfl ?_
  refine l_nil (WK.nx (by assumption) ?_)
  refine SeqK.nx (by assumption) ?_
  refine k_seq (fun Q K => ?_)
  refine k_seq (fun Q K => ?_)
  refine k_lin (fun W K => ?_)
  refine l_op 0 rfl rfl rfl rfl rfl ?_
  refine l_nil (WK.nx (by assumption) ?_)
  refine SeqK.nx (by assumption) ?_
  refine k_block (fun Q K => ?_)
  have hn : n = 1 ∨ n = 2 ∨ n = 4 := by omega
  refine k_loop (α := Int) (fun i s => Facts E0 σ s [own none 0 0 1 []] ∧ 1 ≤ i ∧ i ≤ n) (fun i => [(0, .int .u32 x), (1, .int .i64 n), (5, .slice none 0 0), (6, .int .i64 (pwR i)), (7, .int .i64 i)]) (fun i => (n - i).toNat) 1 ⟨F, by omega, by omega⟩ (by repeat (first | exact trivial | refine And.intro rfl ?_)) ?_
  clear F
  rintro i env s Q K0 ⟨F, i0, i1⟩
  refine k_seq (fun Q K => ?_)
  refine k_seq (fun Q K => ?_)
  refine k_lin (fun W K => ?_)
  refine l_op 0 rfl rfl rfl rfl rfl ?_
  refine l_op 0 rfl rfl rfl rfl rfl ?_
  refine l_cmp rfl rfl rfl rfl ?_
  refine l_nil (WK.nx (by assumption) ?_)
  refine SeqK.nx (by assumption) ?_
  refine l_cond rfl rfl (fun hc8 => ?_) (fun hc8 => ?_)
  · replace hc8 := of_decide_eq_true ((irr_eq _).symm.trans hc8)
    have hpm := pwR_mul (i := i) (by omega)
    have hpb := pwR_div (n := 4) (i := 4 - (i + 1)) (by omega) (by omega)
    rw [show (4 : Int) - (4 - (i + 1)) = i + 1 by omega] at hpb
    refine k_skip ?_
    refine SeqK.nx (by assumption) ?_
    refine k_seq (fun Q K => ?_)
    refine k_block (fun Q K => ?_)
    refine k_lin (fun W K => ?_)
    refine l_op 0 rfl rfl rfl rfl rfl ?_
    refine l_a64 rfl rfl rfl (by omega) rfl ?_
    refine l_op 0 rfl rfl rfl rfl rfl ?_
    refine l_nil (WK.nx (by assumption) ?_)
    refine BlkK.nx (by assumption) ?_
    refine SeqK.nx (by assumption) ?_
    refine k_lin (fun W K => ?_)
    refine l_op 0 rfl rfl rfl rfl rfl ?_
    refine l_a64 rfl rfl rfl (by omega) rfl ?_
    refine l_op 0 rfl rfl rfl rfl rfl ?_
    refine l_nil (WK.nx (by assumption) ?_)
    exact K0.nx (i + 1) (by rw [← hpm]; exact (by repeat (first | exact trivial | refine And.intro rfl ?_))) ⟨F, by omega, by omega⟩ (by first | omega | (simp only; omega))
  replace hc8 := of_decide_eq_false ((irr_eq _).symm.trans hc8)
  have hin : i = n := by omega
  subst hin
  refine k_exit ?_
  refine SeqK.et (by assumption) ?_
  refine LoopK.et (by assumption) ?_
  refine BlkK.et (by assumption) ?_
  refine SeqK.nx (by assumption) ?_
  refine k_seq (fun Q K => ?_)
  refine k_seq (fun Q K => ?_)
  refine k_lin (fun W K => ?_)
  refine l_op 0 rfl rfl rfl rfl rfl ?_
  refine l_nil (WK.nx (by assumption) ?_)
  refine SeqK.nx (by assumption) ?_
  refine k_block (fun Q K => ?_)
  refine k_loop (α := Int × Option Addr × Nat) (fun ⟨j, y, c⟩ s => Facts E0 σ s [own y j.toNat c 1 (u8l ((putR x i).take j.toNat))] ∧ 0 ≤ j ∧ j ≤ i) (fun ⟨j, y, c⟩ => [(0, .int .u32 x), (1, .int .i64 i), (5, .slice y j.toNat c), (6, .int .i64 (pwR (i - j))), (8, .int .i64 j)]) (fun ⟨j, _⟩ => (i - j).toNat) (0, none, 0) ⟨F, by omega, by omega⟩ (by dsimp only; rw [Int.sub_zero]; exact (by repeat (first | exact trivial | refine And.intro rfl ?_))) ?_
  clear F
  rintro ⟨j, y, c⟩ env s Q K0 ⟨F, j0, j1⟩
  refine k_seq (fun Q K => ?_)
  refine k_seq (fun Q K => ?_)
  refine k_lin (fun W K => ?_)
  refine l_op 0 rfl rfl rfl rfl rfl ?_
  refine l_op 0 rfl rfl rfl rfl rfl ?_
  refine l_cmp rfl rfl rfl rfl ?_
  refine l_nil (WK.nx (by assumption) ?_)
  refine SeqK.nx (by assumption) ?_
  refine l_cond rfl rfl (fun hc9 => ?_) (fun hc9 => ?_)
  · replace hc9 := of_decide_eq_true ((irr_eq _).symm.trans hc9)
    obtain ⟨pd, pp, pq⟩ := pwR_div (n := i) (i := j) hn (by omega)
    have hxd : 0 ≤ x / pwR (i - j) ∧ x / pwR (i - j) ≤ x := ⟨Int.ediv_nonneg x0 (by omega), Int.ediv_le_self _ x0⟩
    refine k_skip ?_
    refine SeqK.nx (by assumption) ?_
    refine k_seq (fun Q K => ?_)
    refine k_block (fun Q K => ?_)
    refine k_seq (fun Q K => ?_)
    refine k_lin (fun W K => ?_)
    refine l_op 0 rfl rfl rfl rfl rfl ?_
    refine l_op 0 rfl rfl rfl rfl rfl ?_
    refine l_c64 rfl rfl rfl (by omega) rfl ?_
    refine l_op 0 rfl rfl rfl rfl rfl ?_
    first | refine l_quon rfl rfl rfl rfl rfl (by omega) rfl ?_ | refine l_quou64 rfl rfl rfl rfl rfl (by omega) rfl ?_ | refine l_quou32 rfl rfl rfl rfl rfl (by omega) rfl ?_ | refine l_quo rfl rfl rfl rfl rfl (by omega) rfl ?_
    first | refine l_remn rfl rfl rfl rfl rfl (by omega) rfl ?_ | refine l_rem rfl rfl rfl rfl rfl (by omega) rfl ?_
    refine l_c8 rfl rfl rfl (by omega) rfl ?_
    refine l_lit F rfl rfl rfl rfl (fun q38 s F => ?_)
    (try dsimp only [n_1, n_2, n_3, n_4, List.append_nil, pk, n_5, n_6] at F)
    refine l_appi F 0 rfl rfl rfl rfl rfl rfl rfl (ys := [x / pwR (i - j) % 256]) (F.has 1 rfl) rfl (by omega) hD (fun x2 c2 s F => ?_)
    (try dsimp only [n_1, n_2, n_3, n_4, List.append_nil, pk, n_5, n_6] at F)
    refine l_op 0 rfl rfl rfl rfl rfl ?_
    refine l_nil (WK.nx (by assumption) ?_)
    refine SeqK.nx (by assumption) ?_
    refine k_lin (fun W K => ?_)
    refine l_op 0 rfl rfl rfl rfl rfl ?_
    first | refine l_quon rfl rfl rfl rfl rfl (by omega) rfl ?_ | refine l_quou64 rfl rfl rfl rfl rfl (by omega) rfl ?_ | refine l_quou32 rfl rfl rfl rfl rfl (by omega) rfl ?_ | refine l_quo rfl rfl rfl rfl rfl (by omega) rfl ?_
    refine l_op 0 rfl rfl rfl rfl rfl ?_
    refine l_nil (WK.nx (by assumption) ?_)
    refine BlkK.nx (by assumption) ?_
    refine SeqK.nx (by assumption) ?_
    refine k_lin (fun W K => ?_)
    refine l_op 0 rfl rfl rfl rfl rfl ?_
    refine l_a64 rfl rfl rfl (by omega) rfl ?_
    refine l_op 0 rfl rfl rfl rfl rfl ?_
    refine l_nil (WK.nx (by assumption) ?_)
    have e1 : (j + 1).toNat = j.toNat + 1 := by omega
    rw [rput_step hn (by omega) hx', ← e1] at F
    exact K0.nx (j + 1, x2, c2) (by dsimp only; rw [← pd, e1]; exact (by repeat (first | exact trivial | refine And.intro rfl ?_))) ⟨F.pick [0] (by decide), by omega, by omega⟩ (by first | omega | (simp only; omega))
  replace hc9 := of_decide_eq_false ((irr_eq _).symm.trans hc9)
  refine k_exit ?_
  refine SeqK.et (by assumption) ?_
  refine LoopK.et (by assumption) ?_
  refine BlkK.et (by assumption) ?_
  refine SeqK.nx (by assumption) ?_
  refine k_seq (fun Q K => ?_)
  refine k_lin (fun W K => ?_)
  refine l_op 0 rfl rfl rfl rfl rfl ?_
  refine l_op 0 rfl rfl rfl rfl rfl ?_
  refine l_nil (WK.nx (by assumption) ?_)
  refine SeqK.nx (by assumption) ?_
  refine k_ret ?_
  refine FunK.rt (by assumption) rfl ?_
  -- leaf 4
  first
    | (have hp := putR_none (x := x) (n := n) (by omega)
       rw [hp]
       exact ⟨(none, 0), rfl, F, trivial⟩)
    | (have e1 : j.toNat = (putR x i).length := by have := putR_n (x := x) hn; omega
       rw [e1, List.take_length] at F
       exact ⟨(y, c), by rw [e1]; rfl, F, trivial⟩)

end Go.Proofs.Ytkemnodaadlonaa
