/- The small functions of instructions. No statement of the seat is proved in this text. -/
import Derived.Test.YtkemnodaadlonaaCPlain
import Derived.Test.YtkemnodaadlonaaCFind
import Derived.Test.YtkemnodaadlonaaLibBytes
import Derived.Test.YtkemnodaadlonaaAb32
set_option linter.unusedVariables false
set_option linter.unusedSimpArgs false
set_option maxRecDepth 100000
set_option maxHeartbeats 4000000
namespace Go.Proofs.Ytkemnodaadlonaa
open GAb Go

theorem size_call {σ : AState} {m : Int} :
    SCall Try.prog E0 36 [.int .i64 m] σ (Ret E0 σ (fun (_ : Unit) => .int .i64 (szm m)) (fun _ => []) fun _ => True) := by
  refine k_fun Try.func36 rfl (m := 12) rfl fun B hD Q K => ?_
  have F := Facts.nil E0 σ
  refine k_seq (fun Q K => ?_)
  refine k_lin (fun W K => ?_)
  refine l_op 0 rfl rfl rfl rfl rfl ?_
  refine l_nil (WK.nx (by assumption) ?_)
  refine SeqK.nx (by assumption) ?_
  refine k_seq (fun Q K => ?_)
  refine k_seq (fun Q K => ?_)
  refine k_lin (fun W K => ?_)
  refine l_op 0 rfl rfl rfl rfl rfl ?_
  refine l_cmp rfl rfl rfl rfl ?_
  refine l_op 0 rfl rfl rfl rfl rfl ?_
  refine l_guard rfl rfl rfl (fun hc1 => ?_) (fun hc1 => ?_)
  · replace hc1 := of_decide_eq_true ((irr_eq _).symm.trans hc1)
    refine l_s rfl rfl ?_
    refine l_s rfl rfl ?_
    refine l_op 2 rfl rfl rfl rfl rfl ?_
    refine l_nil (WK.nx (by assumption) ?_)
    refine SeqK.nx (by assumption) ?_
    first | refine e_cond_t rfl rfl rfl ?_ | refine e_cond_t rfl rfl (by rw [irr_eq]; first | exact beq_iff_eq.2 (by assumption) | exact decide_eq_true (by assumption) | exact bne_iff_ne.2 (by assumption)) ?_
    refine k_seq (fun Q K => ?_)
    refine k_lin (fun W K => ?_)
    refine l_op 0 rfl rfl rfl rfl rfl ?_
    refine l_nil (WK.nx (by assumption) ?_)
    refine SeqK.nx (by assumption) ?_
    refine k_ret ?_
    refine SeqK.rt (by assumption) ?_
    refine FunK.rt (by assumption) rfl ?_
    -- leaf 1
    refine ⟨(), ?_, F, trivial⟩
    show _ = Value.int .i64 (szm m)
    first
      | (rw [show szm m = -1 from if_pos (by omega)]; rfl)
      | (rw [show szm m = [(0 : Int), 1, 2, 4, -1, 1, 2, 4, 0, 1, 2, 4, -1, 1, 2, 4].getD m.toNat 0 from if_neg (by omega)]; rfl)
  replace hc1 := of_decide_eq_false ((irr_eq _).symm.trans hc1)
  refine l_op 0 rfl rfl rfl rfl rfl ?_
  refine l_cmp rfl rfl rfl rfl ?_
  refine l_op 2 rfl rfl rfl rfl rfl ?_
  refine l_nil (WK.nx (by assumption) ?_)
  refine SeqK.nx (by assumption) ?_
  refine l_cond rfl rfl (fun hc2 => ?_) (fun hc2 => ?_)
  · replace hc2 := of_decide_eq_true ((irr_eq _).symm.trans hc2)
    refine k_seq (fun Q K => ?_)
    refine k_lin (fun W K => ?_)
    refine l_op 0 rfl rfl rfl rfl rfl ?_
    refine l_nil (WK.nx (by assumption) ?_)
    refine SeqK.nx (by assumption) ?_
    refine k_ret ?_
    refine SeqK.rt (by assumption) ?_
    refine FunK.rt (by assumption) rfl ?_
    -- leaf 2
    refine ⟨(), ?_, F, trivial⟩
    show _ = Value.int .i64 (szm m)
    first
      | (rw [show szm m = -1 from if_pos (by omega)]; rfl)
      | (rw [show szm m = [(0 : Int), 1, 2, 4, -1, 1, 2, 4, 0, 1, 2, 4, -1, 1, 2, 4].getD m.toNat 0 from if_neg (by omega)]; rfl)
  replace hc2 := of_decide_eq_false ((irr_eq _).symm.trans hc2)
  refine k_skip ?_
  refine SeqK.nx (by assumption) ?_
  refine k_seq (fun Q K => ?_)
  refine k_lin (fun W K => ?_)
  refine l_bld (vs := [.int .i64 0, .int .i64 1, .int .i64 2, .int .i64 4, .int .i64 (-1), .int .i64 1, .int .i64 2, .int .i64 4, .int .i64 0, .int .i64 1, .int .i64 2, .int .i64 4, .int .i64 (-1), .int .i64 1, .int .i64 2, .int .i64 4]) rfl (by kernel_rfl) rfl rfl ?_
  refine l_op 0 rfl rfl rfl rfl rfl ?_
  refine l_ax (kk := .i64) (zs := [0, 1, 2, 4, -1, 1, 2, 4, 0, 1, 2, 4, -1, 1, 2, 4]) rfl rfl rfl rfl rfl rfl (by omega) ?_
  refine l_op 0 rfl rfl rfl rfl rfl ?_
  refine l_nil (WK.nx (by assumption) ?_)
  refine SeqK.nx (by assumption) ?_
  refine k_ret ?_
  refine FunK.rt (by assumption) rfl ?_
  -- leaf 3
  refine ⟨(), ?_, F, trivial⟩
  show _ = Value.int .i64 (szm m)
  first
    | (rw [show szm m = -1 from if_pos (by omega)]; rfl)
    | (rw [show szm m = [(0 : Int), 1, 2, 4, -1, 1, 2, 4, 0, 1, 2, 4, -1, 1, 2, 4].getD m.toNat 0 from if_neg (by omega)]; rfl)
theorem constant_call {σ : AState} {m : Int} :
    SCall Try.prog E0 38 [.int .i64 m] σ (Ret E0 σ (fun (_ : Unit) => .bool (irr (cst m))) (fun _ => []) fun _ => True) := by
  refine k_fun Try.func38 rfl (m := 9) rfl fun B hD Q K => ?_
  have F := Facts.nil E0 σ
  refine k_seq (fun Q K => ?_)
  refine k_lin (fun W K => ?_)
  refine l_op 0 rfl rfl rfl rfl rfl ?_
  refine l_nil (WK.nx (by assumption) ?_)
  refine SeqK.nx (by assumption) ?_
  refine k_seq (fun Q K => ?_)
  refine k_lin (fun W K => ?_)
  refine l_op 0 rfl rfl rfl rfl rfl ?_
  refine l_cmp rfl rfl rfl rfl ?_
  refine l_op 0 rfl rfl rfl rfl rfl ?_
  refine l_guard rfl rfl rfl (fun hc1 => ?_) (fun hc1 => ?_)
  · replace hc1 := of_decide_eq_true ((irr_eq _).symm.trans hc1)
    refine l_op 0 rfl rfl rfl rfl rfl ?_
    refine l_cmp rfl rfl rfl rfl ?_
    refine l_op 2 rfl rfl rfl rfl rfl ?_
    refine l_op 0 rfl rfl rfl rfl rfl ?_
    refine l_nil (WK.nx (by assumption) ?_)
    refine SeqK.nx (by assumption) ?_
    refine k_ret ?_
    refine FunK.rt (by assumption) rfl ?_
    -- leaf 1
    refine ⟨(), ?_, F, trivial⟩
    show _ = Value.bool (irr (cst m))
    unfold cst
    first
      | (rw [decide_eq_false (by omega), irr_eq]; rfl)
      | (have e : decide (m ≤ 3) = decide (1 ≤ m ∧ m ≤ 3) := decide_eq_decide.2 (by omega)
         rw [← e]; rfl)
  replace hc1 := of_decide_eq_false ((irr_eq _).symm.trans hc1)
  refine l_s rfl rfl ?_
  refine l_s rfl rfl ?_
  refine l_op 2 rfl rfl rfl rfl rfl ?_
  refine l_op 0 rfl rfl rfl rfl rfl ?_
  refine l_nil (WK.nx (by assumption) ?_)
  refine SeqK.nx (by assumption) ?_
  refine k_ret ?_
  refine FunK.rt (by assumption) rfl ?_
  -- leaf 2
  refine ⟨(), ?_, F, trivial⟩
  show _ = Value.bool (irr (cst m))
  unfold cst
  first
    | (rw [decide_eq_false (by omega), irr_eq]; rfl)
    | (have e : decide (m ≤ 3) = decide (1 ≤ m ∧ m ≤ 3) := decide_eq_decide.2 (by omega)
       rw [← e]; rfl)
theorem may_call {σ : AState} {c m : Int} :
    SCall Try.prog E0 35 [.int .u8 c, .int .i64 m] σ (Ret E0 σ (fun (_ : Unit) => .bool (irr (mayR c m))) (fun _ => []) fun _ => True) := by
  refine k_fun Try.func35 rfl (m := 17) rfl fun B hD Q K => ?_
  have F := Facts.nil E0 σ
  refine k_seq (fun Q K => ?_)
  refine k_lin (fun W K => ?_)
  refine l_op 0 rfl rfl rfl rfl rfl ?_
  refine l_nil (WK.nx (by assumption) ?_)
  refine SeqK.nx (by assumption) ?_
  refine k_seq (fun Q K => ?_)
  refine k_lin (fun W K => ?_)
  refine l_op 0 rfl rfl rfl rfl rfl ?_
  refine l_callp F rfl rfl (by kernel_rfl) rfl rfl size_call (fun _ s F _ => ?_)
  (try dsimp only [n_1, n_2, n_3, n_4, List.append_nil, pk, n_5, n_6] at F)
  refine l_cmp rfl rfl rfl rfl ?_
  refine l_op 0 rfl rfl rfl rfl rfl ?_
  refine l_guard rfl rfl rfl (fun hc1 => ?_) (fun hc1 => ?_)
  · replace hc1 := of_decide_eq_true ((irr_eq _).symm.trans hc1)
    refine l_op 0 rfl rfl rfl rfl rfl ?_
    refine l_cmp rfl rfl rfl rfl ?_
    refine l_op 0 rfl rfl rfl rfl rfl ?_
    refine l_guard rfl rfl rfl (fun hc2 => ?_) (fun hc2 => ?_)
    · first | replace hc2 := eq_of_beq ((irr_eq _).symm.trans hc2) | simp only [irr_eq, beq_iff_eq, beq_eq_false_iff_ne, ne_eq, decide_eq_true_eq, decide_eq_false_iff_not] at hc2
      refine l_s rfl rfl ?_
      refine l_s rfl rfl ?_
      refine l_s rfl rfl ?_
      refine l_op 2 rfl rfl rfl rfl rfl ?_
      refine l_op 2 rfl rfl rfl rfl rfl ?_
      refine l_op 0 rfl rfl rfl rfl rfl ?_
      refine l_nil (WK.nx (by assumption) ?_)
      refine SeqK.nx (by assumption) ?_
      refine k_ret ?_
      refine FunK.rt (by assumption) rfl ?_
      -- leaf 1
      refine ⟨(), ?_, F.pick [] (by decide), trivial⟩
      show Value.bool _ = Value.bool (irr (mayR c m))
      unfold mayR
      rw [irr_eq]
      first
        | (rw [decide_eq_false (by omega)]; done)
        | (rw [decide_eq_true ⟨by omega, .inl (by omega)⟩]; done)
        | (cases hcm : cst m
           · rw [decide_eq_true ⟨by omega, .inr rfl⟩, irr_eq]; rfl
           · rw [decide_eq_false (fun h => h.2.elim hc2 (fun h => by cases h)), irr_eq]; rfl)
    first | replace hc2 := ne_of_beq_false ((irr_eq _).symm.trans hc2) | simp only [irr_eq, beq_iff_eq, beq_eq_false_iff_ne, ne_eq, decide_eq_true_eq, decide_eq_false_iff_not] at hc2
    refine l_op 0 rfl rfl rfl rfl rfl ?_
    refine l_callp F rfl rfl (by kernel_rfl) rfl rfl constant_call (fun _ s F _ => ?_)
    (try dsimp only [n_1, n_2, n_3, n_4, List.append_nil, pk, n_5, n_6] at F)
    refine l_op 2 rfl rfl rfl rfl rfl ?_
    refine l_op 2 rfl rfl rfl rfl rfl ?_
    refine l_op 2 rfl rfl rfl rfl rfl ?_
    refine l_op 0 rfl rfl rfl rfl rfl ?_
    refine l_nil (WK.nx (by assumption) ?_)
    refine SeqK.nx (by assumption) ?_
    refine k_ret ?_
    refine FunK.rt (by assumption) rfl ?_
    -- leaf 2
    refine ⟨(), ?_, F.pick [] (by decide), trivial⟩
    show Value.bool _ = Value.bool (irr (mayR c m))
    unfold mayR
    rw [irr_eq]
    first
      | (rw [decide_eq_false (by omega)]; done)
      | (rw [decide_eq_true ⟨by omega, .inl (by omega)⟩]; done)
      | (cases hcm : cst m
         · rw [decide_eq_true ⟨by omega, .inr rfl⟩, irr_eq]; rfl
         · rw [decide_eq_false (fun h => h.2.elim hc2 (fun h => by cases h)), irr_eq]; rfl)
  replace hc1 := of_decide_eq_false ((irr_eq _).symm.trans hc1)
  refine l_s rfl rfl ?_
  refine l_s rfl rfl ?_
  refine l_s rfl rfl ?_
  refine l_s rfl rfl ?_
  refine l_s rfl rfl ?_
  refine l_s rfl rfl ?_
  refine l_s rfl rfl ?_
  refine l_op 2 rfl rfl rfl rfl rfl ?_
  refine l_op 0 rfl rfl rfl rfl rfl ?_
  refine l_nil (WK.nx (by assumption) ?_)
  refine SeqK.nx (by assumption) ?_
  refine k_ret ?_
  refine FunK.rt (by assumption) rfl ?_
  -- leaf 3
  refine ⟨(), ?_, F.pick [] (by decide), trivial⟩
  show Value.bool _ = Value.bool (irr (mayR c m))
  unfold mayR
  rw [irr_eq]
  first
    | (rw [decide_eq_false (by omega)]; done)
    | (rw [decide_eq_true ⟨by omega, .inl (by omega)⟩]; done)
    | (cases hcm : cst m
       · rw [decide_eq_true ⟨by omega, .inr rfl⟩, irr_eq]; rfl
       · rw [decide_eq_false (fun h => h.2.elim hc2 (fun h => by cases h)), irr_eq]; rfl)
theorem ext8 {x : Int} (h0 : 0 ≤ x) (h1 : x ≤ 4294967295) : IntKind.u32.wrap (IntKind.i32.wrap (IntKind.i8.wrap x)) = extR x 1 := by
  unfold extR
  rw [if_pos rfl]
  simp only [IntKind.wrap, IntKind.bits, IntKind.signed]
  simp
  split <;> (repeat' split) <;> omega
theorem ext16 {x : Int} (h0 : 0 ≤ x) (h1 : x ≤ 4294967295) : IntKind.u32.wrap (IntKind.i32.wrap (IntKind.i16.wrap x)) = extR x 2 := by
  unfold extR
  rw [if_neg (by decide), if_pos rfl]
  simp only [IntKind.wrap, IntKind.bits, IntKind.signed]
  simp
  split <;> (repeat' split) <;> omega
theorem extend_call {σ : AState} {x k : Int} (hx : U32 x) :
    SCall Try.prog E0 39 [.int .u32 x, .int .i64 k] σ (Ret E0 σ (fun (_ : Unit) => .int .u32 (extR x k)) (fun _ => []) fun _ => True) := by
  obtain ⟨x0, x1⟩ := hx
  refine k_fun Try.func39 rfl (m := 19) rfl fun B hD Q K => ?_
  have F := Facts.nil E0 σ
  refine k_seq (fun Q K => ?_)
  refine k_lin (fun W K => ?_)
  refine l_op 0 rfl rfl rfl rfl rfl ?_
  refine l_nil (WK.nx (by assumption) ?_)
  refine SeqK.nx (by assumption) ?_
  refine k_seq (fun Q K => ?_)
  refine k_seq (fun Q K => ?_)
  refine k_lin (fun W K => ?_)
  refine l_op 0 rfl rfl rfl rfl rfl ?_
  refine l_nil (WK.nx (by assumption) ?_)
  refine SeqK.nx (by assumption) ?_
  refine k_block (fun Q K => ?_)
  refine k_seq (fun Q K => ?_)
  refine k_lin (fun W K => ?_)
  refine l_cmp rfl rfl rfl rfl ?_
  refine l_op 0 rfl rfl rfl rfl rfl ?_
  refine l_nil (WK.nx (by assumption) ?_)
  refine SeqK.nx (by assumption) ?_
  refine l_cond rfl rfl (fun hc1 => ?_) (fun hc1 => ?_)
  · first | replace hc1 := eq_of_beq ((irr_eq _).symm.trans hc1) | simp only [irr_eq, beq_iff_eq, beq_eq_false_iff_ne, ne_eq, decide_eq_true_eq, decide_eq_false_iff_not] at hc1
    refine k_seq (fun Q K => ?_)
    refine k_lin (fun W K => ?_)
    refine l_op 0 rfl rfl rfl rfl rfl ?_
    refine l_op 16 rfl rfl rfl rfl rfl ?_
    refine l_op 16 rfl rfl rfl rfl rfl ?_
    refine l_op 16 rfl rfl rfl rfl rfl ?_
    refine l_op 0 rfl rfl rfl rfl rfl ?_
    refine l_nil (WK.nx (by assumption) ?_)
    refine SeqK.nx (by assumption) ?_
    refine k_ret ?_
    refine BlkK.rt (by assumption) ?_
    refine SeqK.rt (by assumption) ?_
    refine FunK.rt (by assumption) rfl ?_
    -- leaf 1
    refine ⟨(), ?_, F.pick [] (by decide), trivial⟩
    show Value.int .u32 _ = Value.int .u32 (extR x k)
    first
      | (rw [show k = 1 by omega, ← ext8 x0 x1]; done)
      | (rw [show k = 2 by omega, ← ext16 x0 x1]; done)
      | (unfold extR; rw [if_neg (by omega), if_neg (by omega)]; done)
  first | replace hc1 := ne_of_beq_false ((irr_eq _).symm.trans hc1) | simp only [irr_eq, beq_iff_eq, beq_eq_false_iff_ne, ne_eq, decide_eq_true_eq, decide_eq_false_iff_not] at hc1
  refine k_seq (fun Q K => ?_)
  refine k_lin (fun W K => ?_)
  refine l_cmp rfl rfl rfl rfl ?_
  refine l_op 0 rfl rfl rfl rfl rfl ?_
  refine l_nil (WK.nx (by assumption) ?_)
  refine SeqK.nx (by assumption) ?_
  refine l_cond rfl rfl (fun hc2 => ?_) (fun hc2 => ?_)
  · first | replace hc2 := eq_of_beq ((irr_eq _).symm.trans hc2) | simp only [irr_eq, beq_iff_eq, beq_eq_false_iff_ne, ne_eq, decide_eq_true_eq, decide_eq_false_iff_not] at hc2
    refine k_seq (fun Q K => ?_)
    refine k_lin (fun W K => ?_)
    refine l_op 0 rfl rfl rfl rfl rfl ?_
    refine l_op 16 rfl rfl rfl rfl rfl ?_
    refine l_op 16 rfl rfl rfl rfl rfl ?_
    refine l_op 16 rfl rfl rfl rfl rfl ?_
    refine l_op 0 rfl rfl rfl rfl rfl ?_
    refine l_nil (WK.nx (by assumption) ?_)
    refine SeqK.nx (by assumption) ?_
    refine k_ret ?_
    refine BlkK.rt (by assumption) ?_
    refine SeqK.rt (by assumption) ?_
    refine FunK.rt (by assumption) rfl ?_
    -- leaf 2
    refine ⟨(), ?_, F.pick [] (by decide), trivial⟩
    show Value.int .u32 _ = Value.int .u32 (extR x k)
    first
      | (rw [show k = 1 by omega, ← ext8 x0 x1]; done)
      | (rw [show k = 2 by omega, ← ext16 x0 x1]; done)
      | (unfold extR; rw [if_neg (by omega), if_neg (by omega)]; done)
  first | replace hc2 := ne_of_beq_false ((irr_eq _).symm.trans hc2) | simp only [irr_eq, beq_iff_eq, beq_eq_false_iff_ne, ne_eq, decide_eq_true_eq, decide_eq_false_iff_not] at hc2
  refine k_skip ?_
  refine BlkK.nx (by assumption) ?_
  refine SeqK.nx (by assumption) ?_
  refine k_seq (fun Q K => ?_)
  refine k_lin (fun W K => ?_)
  refine l_op 0 rfl rfl rfl rfl rfl ?_
  refine l_op 0 rfl rfl rfl rfl rfl ?_
  refine l_nil (WK.nx (by assumption) ?_)
  refine SeqK.nx (by assumption) ?_
  refine k_ret ?_
  refine FunK.rt (by assumption) rfl ?_
  -- leaf 3
  refine ⟨(), ?_, F.pick [] (by decide), trivial⟩
  show Value.int .u32 _ = Value.int .u32 (extR x k)
  first
    | (rw [show k = 1 by omega, ← ext8 x0 x1]; done)
    | (rw [show k = 2 by omega, ← ext16 x0 x1]; done)
    | (unfold extR; rw [if_neg (by omega), if_neg (by omega)]; done)
/-- How a number with its bytes is told. -/
def numV (r : Option (Int × Int)) : Value := match r with
  | some (op, n) => .tuple #[.int .u32 op, .int .i64 n, .int .i64 0]
  | none => .tuple #[.int .u32 0, .int .i64 0, .int .i64 90]
theorem ben_ok {bs : List Int} {at_ n : Int} (h0 : 0 ≤ at_) (hn : n = 1 ∨ n = 2 ∨ n = 4) (h : (beR bs at_ n).2 = 0) : at_ + n ≤ bs.length ∧ (beR bs at_ n).1 = be bs at_.toNat n.toNat := by
  unfold beR at h ⊢
  rw [if_neg (by omega)] at h ⊢
  split at h
  · cases h
  · rename_i h2
    rw [if_neg h2]
    exact ⟨by omega, rfl⟩
theorem ben_no {bs : List Int} {at_ n : Int} (h0 : 0 ≤ at_) (hn : n = 1 ∨ n = 2 ∨ n = 4) (h : (beR bs at_ n).2 ≠ 0) : at_ + n > bs.length := by
  unfold beR at h
  rw [if_neg (by omega)] at h
  split at h
  · assumption
  · exact (h rfl).elim
theorem be2_lo {bs : List Int} (hB : Bytes bs) (i : Nat) : 256 * bs.getD i 0 ≤ be bs i 2 ∧ be bs i 2 ≤ 65535 := by
  have h0 := hB.at i
  have h1 := hB.at (i + 1)
  simp only [be, Nat.add_zero]
  omega
theorem be4_lo {bs : List Int} (hB : Bytes bs) (i : Nat) : 16777216 * bs.getD i 0 ≤ be bs i 4 ∧ be bs i 4 ≤ 4294967295 := by
  have h0 := hB.at i
  have h1 := hB.at (i + 1)
  have h2 := hB.at (i + 2)
  have h3 := hB.at (i + 3)
  simp only [be, Nat.add_zero]
  omega
theorem number_call {σ : AState} {a : Option Addr} {l c : Nat} {bs : List Int} {at_ : Int} (h : Old E0 σ a l c 1 (u8l bs)) (hB : Bytes bs) (hl : l ≤ 2000000) (h0 : 0 ≤ at_) :
    SCall Try.prog E0 34 [.slice a l c, .int .i64 at_] σ (Ret E0 σ (fun (_ : Unit) => numV (numR bs at_)) (fun _ => []) fun _ => True) := by
  have hbl := h.len8
  refine k_fun Try.func34 rfl (m := 36) rfl fun B hD Q K => ?_
  have F := Facts.nil E0 σ
  refine k_seq (fun Q K => ?_)
  refine k_lin (fun W K => ?_)
  refine l_op 0 rfl rfl rfl rfl rfl ?_
  refine l_op 0 rfl rfl rfl rfl rfl ?_
  refine l_op 0 rfl rfl rfl rfl rfl ?_
  refine l_nil (WK.nx (by assumption) ?_)
  refine SeqK.nx (by assumption) ?_
  refine k_seq (fun Q K => ?_)
  refine k_lin (fun W K => ?_)
  refine l_op 0 rfl rfl rfl rfl rfl ?_
  refine l_op 0 rfl rfl rfl rfl rfl ?_
  refine l_callp F rfl rfl (by kernel_rfl) rfl rfl (wbe_call (Old.pure (F.old h)) hB (by omega)) (fun _ s F _ => ?_)
  (try dsimp only [n_1, n_2, n_3, n_4, List.append_nil, pk, n_5, n_6] at F)
  refine l_op 0 rfl rfl rfl rfl rfl ?_
  refine l_op 2 rfl rfl rfl rfl rfl ?_
  refine l_op 2 rfl rfl rfl rfl rfl ?_
  refine l_op 0 rfl rfl rfl rfl rfl ?_
  refine l_op 0 rfl rfl rfl rfl rfl ?_
  refine l_nil (WK.nx (by assumption) ?_)
  refine SeqK.nx (by assumption) ?_
  refine k_seq (fun Q K => ?_)
  refine k_seq (fun Q K => ?_)
  refine k_lin (fun W K => ?_)
  refine l_op 0 rfl rfl rfl rfl rfl ?_
  refine l_cmp rfl rfl rfl rfl ?_
  refine l_nil (WK.nx (by assumption) ?_)
  refine SeqK.nx (by assumption) ?_
  refine l_cond rfl rfl (fun hc1 => ?_) (fun hc1 => ?_)
  · first | replace hc1 := bne_iff_ne.1 ((irr_eq _).symm.trans hc1) | simp only [irr_eq, bne_iff_ne, bne_eq_false_iff_eq, ne_eq, decide_eq_true_eq, decide_eq_false_iff_not, Bool.not_eq_true', Bool.not_eq_false'] at hc1
    have hshort := ben_no h0 (by omega) hc1
    refine k_seq (fun Q K => ?_)
    refine k_lin (fun W K => ?_)
    refine l_op 0 rfl rfl rfl rfl rfl ?_
    refine l_op 0 rfl rfl rfl rfl rfl ?_
    refine l_op 0 rfl rfl rfl rfl rfl ?_
    refine l_nil (WK.nx (by assumption) ?_)
    refine SeqK.nx (by assumption) ?_
    refine k_ret ?_
    refine SeqK.rt (by assumption) ?_
    refine FunK.rt (by assumption) rfl ?_
    -- leaf 1
    refine ⟨(), ?_, F.pick [] (by decide), trivial⟩
    show _ = numV (numR bs at_)
    have g2 := be2_lo hB at_.toNat
    have g4 := be4_lo hB at_.toNat
    unfold numR
    (repeat' split) <;> first
      | (exfalso; omega)
      | rfl
      | (rw [hv2]; exact congrArg (fun x => Value.tuple #[.int .u32 x, .int .i64 4, .int .i64 0]) (wrap32 (x := be bs at_.toNat 4 - 3221225472) (by omega) (by omega)))
      | (rw [hv2]; exact congrArg (fun x => Value.tuple #[.int .u32 x, .int .i64 2, .int .i64 0]) (wrap32 (x := be bs at_.toNat 2 - 32768) (by omega) (by omega)))
      | (rw [hv2]; exact congrArg (fun x => Value.tuple #[.int .u32 x, .int .i64 1, .int .i64 0]) (Int.sub_zero _))
  first | replace hc1 := bne_eq_false_iff_eq.1 ((irr_eq _).symm.trans hc1) | simp only [irr_eq, bne_iff_ne, bne_eq_false_iff_eq, ne_eq, decide_eq_true_eq, decide_eq_false_iff_not, Bool.not_eq_true', Bool.not_eq_false'] at hc1
  obtain ⟨hlen, hv⟩ := ben_ok h0 (by omega) hc1
  have hat := hB.at at_.toNat
  have hb1 : be bs at_.toNat (1 : Int).toNat = bs.getD at_.toNat 0 := by simp [be]
  rw [hb1] at hv
  refine k_skip ?_
  refine SeqK.nx (by assumption) ?_
  refine k_seq (fun Q K => ?_)
  refine k_lin (fun W K => ?_)
  refine l_op 0 rfl rfl rfl rfl rfl ?_
  refine l_op 0 rfl rfl rfl rfl rfl ?_
  refine l_nil (WK.nx (by assumption) ?_)
  refine SeqK.nx (by assumption) ?_
  refine k_seq (fun Q K => ?_)
  refine k_block (fun Q K => ?_)
  refine k_seq (fun Q K => ?_)
  refine k_lin (fun W K => ?_)
  refine l_op 0 rfl rfl rfl rfl rfl ?_
  refine l_cmp rfl rfl rfl rfl ?_
  refine l_op 0 rfl rfl rfl rfl rfl ?_
  refine l_nil (WK.nx (by assumption) ?_)
  refine SeqK.nx (by assumption) ?_
  refine l_cond rfl rfl (fun hc2 => ?_) (fun hc2 => ?_)
  · replace hc2 := of_decide_eq_true ((irr_eq _).symm.trans hc2)
    refine k_lin (fun W K => ?_)
    refine l_op 0 rfl rfl rfl rfl rfl ?_
    refine l_op 0 rfl rfl rfl rfl rfl ?_
    refine l_nil (WK.nx (by assumption) ?_)
    refine BlkK.nx (by assumption) ?_
    refine SeqK.nx (by assumption) ?_
    refine k_seq (fun Q K => ?_)
    refine k_lin (fun W K => ?_)
    refine l_op 0 rfl rfl rfl rfl rfl ?_
    refine l_op 0 rfl rfl rfl rfl rfl ?_
    refine l_op 0 rfl rfl rfl rfl rfl ?_
    refine l_callp F rfl rfl (by kernel_rfl) rfl rfl (wbe_call (Old.pure (F.old h)) hB (by omega)) (fun _ s F _ => ?_)
    (try dsimp only [n_1, n_2, n_3, n_4, List.append_nil, pk, n_5, n_6] at F)
    refine l_op 0 rfl rfl rfl rfl rfl ?_
    refine l_op 2 rfl rfl rfl rfl rfl ?_
    refine l_op 2 rfl rfl rfl rfl rfl ?_
    refine l_op 0 rfl rfl rfl rfl rfl ?_
    refine l_op 0 rfl rfl rfl rfl rfl ?_
    refine l_nil (WK.nx (by assumption) ?_)
    refine SeqK.nx (by assumption) ?_
    refine k_seq (fun Q K => ?_)
    refine k_seq (fun Q K => ?_)
    refine k_lin (fun W K => ?_)
    refine l_op 0 rfl rfl rfl rfl rfl ?_
    refine l_cmp rfl rfl rfl rfl ?_
    refine l_nil (WK.nx (by assumption) ?_)
    refine SeqK.nx (by assumption) ?_
    refine l_cond rfl rfl (fun hc3 => ?_) (fun hc3 => ?_)
    · first | replace hc3 := bne_iff_ne.1 ((irr_eq _).symm.trans hc3) | simp only [irr_eq, bne_iff_ne, bne_eq_false_iff_eq, ne_eq, decide_eq_true_eq, decide_eq_false_iff_not, Bool.not_eq_true', Bool.not_eq_false'] at hc3
      have hshort := ben_no h0 (by omega) hc3
      refine k_seq (fun Q K => ?_)
      refine k_lin (fun W K => ?_)
      refine l_op 0 rfl rfl rfl rfl rfl ?_
      refine l_op 0 rfl rfl rfl rfl rfl ?_
      refine l_op 0 rfl rfl rfl rfl rfl ?_
      refine l_nil (WK.nx (by assumption) ?_)
      refine SeqK.nx (by assumption) ?_
      refine k_ret ?_
      refine SeqK.rt (by assumption) ?_
      refine FunK.rt (by assumption) rfl ?_
      -- leaf 2
      refine ⟨(), ?_, F.pick [] (by decide), trivial⟩
      show _ = numV (numR bs at_)
      have g2 := be2_lo hB at_.toNat
      have g4 := be4_lo hB at_.toNat
      unfold numR
      (repeat' split) <;> first
        | (exfalso; omega)
        | rfl
        | (rw [hv2]; exact congrArg (fun x => Value.tuple #[.int .u32 x, .int .i64 4, .int .i64 0]) (wrap32 (x := be bs at_.toNat 4 - 3221225472) (by omega) (by omega)))
        | (rw [hv2]; exact congrArg (fun x => Value.tuple #[.int .u32 x, .int .i64 2, .int .i64 0]) (wrap32 (x := be bs at_.toNat 2 - 32768) (by omega) (by omega)))
        | (rw [hv2]; exact congrArg (fun x => Value.tuple #[.int .u32 x, .int .i64 1, .int .i64 0]) (Int.sub_zero _))
    first | replace hc3 := bne_eq_false_iff_eq.1 ((irr_eq _).symm.trans hc3) | simp only [irr_eq, bne_iff_ne, bne_eq_false_iff_eq, ne_eq, decide_eq_true_eq, decide_eq_false_iff_not, Bool.not_eq_true', Bool.not_eq_false'] at hc3
    obtain ⟨hlen2, hv2⟩ := ben_ok h0 (by omega) hc3
    refine k_skip ?_
    refine SeqK.nx (by assumption) ?_
    refine k_seq (fun Q K => ?_)
    refine k_lin (fun W K => ?_)
    refine l_op 0 rfl rfl rfl rfl rfl ?_
    refine l_op 0 rfl rfl rfl rfl rfl ?_
    refine l_op 1 rfl rfl rfl rfl rfl ?_
    refine l_op 0 rfl rfl rfl rfl rfl ?_
    refine l_op 0 rfl rfl rfl rfl rfl ?_
    refine l_op 0 rfl rfl rfl rfl rfl ?_
    refine l_op 0 rfl rfl rfl rfl rfl ?_
    refine l_nil (WK.nx (by assumption) ?_)
    refine SeqK.nx (by assumption) ?_
    refine k_ret ?_
    refine FunK.rt (by assumption) rfl ?_
    -- leaf 3
    refine ⟨(), ?_, F.pick [] (by decide), trivial⟩
    show _ = numV (numR bs at_)
    have g2 := be2_lo hB at_.toNat
    have g4 := be4_lo hB at_.toNat
    unfold numR
    (repeat' split) <;> first
      | (exfalso; omega)
      | rfl
      | (rw [hv2]; exact congrArg (fun x => Value.tuple #[.int .u32 x, .int .i64 4, .int .i64 0]) (wrap32 (x := be bs at_.toNat 4 - 3221225472) (by omega) (by omega)))
      | (rw [hv2]; exact congrArg (fun x => Value.tuple #[.int .u32 x, .int .i64 2, .int .i64 0]) (wrap32 (x := be bs at_.toNat 2 - 32768) (by omega) (by omega)))
      | (rw [hv2]; exact congrArg (fun x => Value.tuple #[.int .u32 x, .int .i64 1, .int .i64 0]) (Int.sub_zero _))
  replace hc2 := of_decide_eq_false ((irr_eq _).symm.trans hc2)
  refine k_seq (fun Q K => ?_)
  refine k_lin (fun W K => ?_)
  refine l_op 0 rfl rfl rfl rfl rfl ?_
  refine l_cmp rfl rfl rfl rfl ?_
  refine l_op 0 rfl rfl rfl rfl rfl ?_
  refine l_nil (WK.nx (by assumption) ?_)
  refine SeqK.nx (by assumption) ?_
  refine l_cond rfl rfl (fun hc4 => ?_) (fun hc4 => ?_)
  · replace hc4 := of_decide_eq_true ((irr_eq _).symm.trans hc4)
    refine k_lin (fun W K => ?_)
    refine l_op 0 rfl rfl rfl rfl rfl ?_
    refine l_op 0 rfl rfl rfl rfl rfl ?_
    refine l_nil (WK.nx (by assumption) ?_)
    refine BlkK.nx (by assumption) ?_
    refine SeqK.nx (by assumption) ?_
    refine k_seq (fun Q K => ?_)
    refine k_lin (fun W K => ?_)
    refine l_op 0 rfl rfl rfl rfl rfl ?_
    refine l_op 0 rfl rfl rfl rfl rfl ?_
    refine l_op 0 rfl rfl rfl rfl rfl ?_
    refine l_callp F rfl rfl (by kernel_rfl) rfl rfl (wbe_call (Old.pure (F.old h)) hB (by omega)) (fun _ s F _ => ?_)
    (try dsimp only [n_1, n_2, n_3, n_4, List.append_nil, pk, n_5, n_6] at F)
    refine l_op 0 rfl rfl rfl rfl rfl ?_
    refine l_op 2 rfl rfl rfl rfl rfl ?_
    refine l_op 2 rfl rfl rfl rfl rfl ?_
    refine l_op 0 rfl rfl rfl rfl rfl ?_
    refine l_op 0 rfl rfl rfl rfl rfl ?_
    refine l_nil (WK.nx (by assumption) ?_)
    refine SeqK.nx (by assumption) ?_
    refine k_seq (fun Q K => ?_)
    refine k_seq (fun Q K => ?_)
    refine k_lin (fun W K => ?_)
    refine l_op 0 rfl rfl rfl rfl rfl ?_
    refine l_cmp rfl rfl rfl rfl ?_
    refine l_nil (WK.nx (by assumption) ?_)
    refine SeqK.nx (by assumption) ?_
    refine l_cond rfl rfl (fun hc5 => ?_) (fun hc5 => ?_)
    · first | replace hc5 := bne_iff_ne.1 ((irr_eq _).symm.trans hc5) | simp only [irr_eq, bne_iff_ne, bne_eq_false_iff_eq, ne_eq, decide_eq_true_eq, decide_eq_false_iff_not, Bool.not_eq_true', Bool.not_eq_false'] at hc5
      have hshort := ben_no h0 (by omega) hc5
      refine k_seq (fun Q K => ?_)
      refine k_lin (fun W K => ?_)
      refine l_op 0 rfl rfl rfl rfl rfl ?_
      refine l_op 0 rfl rfl rfl rfl rfl ?_
      refine l_op 0 rfl rfl rfl rfl rfl ?_
      refine l_nil (WK.nx (by assumption) ?_)
      refine SeqK.nx (by assumption) ?_
      refine k_ret ?_
      refine SeqK.rt (by assumption) ?_
      refine FunK.rt (by assumption) rfl ?_
      -- leaf 4
      refine ⟨(), ?_, F.pick [] (by decide), trivial⟩
      show _ = numV (numR bs at_)
      have g2 := be2_lo hB at_.toNat
      have g4 := be4_lo hB at_.toNat
      unfold numR
      (repeat' split) <;> first
        | (exfalso; omega)
        | rfl
        | (rw [hv2]; exact congrArg (fun x => Value.tuple #[.int .u32 x, .int .i64 4, .int .i64 0]) (wrap32 (x := be bs at_.toNat 4 - 3221225472) (by omega) (by omega)))
        | (rw [hv2]; exact congrArg (fun x => Value.tuple #[.int .u32 x, .int .i64 2, .int .i64 0]) (wrap32 (x := be bs at_.toNat 2 - 32768) (by omega) (by omega)))
        | (rw [hv2]; exact congrArg (fun x => Value.tuple #[.int .u32 x, .int .i64 1, .int .i64 0]) (Int.sub_zero _))
    first | replace hc5 := bne_eq_false_iff_eq.1 ((irr_eq _).symm.trans hc5) | simp only [irr_eq, bne_iff_ne, bne_eq_false_iff_eq, ne_eq, decide_eq_true_eq, decide_eq_false_iff_not, Bool.not_eq_true', Bool.not_eq_false'] at hc5
    obtain ⟨hlen2, hv2⟩ := ben_ok h0 (by omega) hc5
    refine k_skip ?_
    refine SeqK.nx (by assumption) ?_
    refine k_seq (fun Q K => ?_)
    refine k_lin (fun W K => ?_)
    refine l_op 0 rfl rfl rfl rfl rfl ?_
    refine l_op 0 rfl rfl rfl rfl rfl ?_
    refine l_op 1 rfl rfl rfl rfl rfl ?_
    refine l_op 0 rfl rfl rfl rfl rfl ?_
    refine l_op 0 rfl rfl rfl rfl rfl ?_
    refine l_op 0 rfl rfl rfl rfl rfl ?_
    refine l_op 0 rfl rfl rfl rfl rfl ?_
    refine l_nil (WK.nx (by assumption) ?_)
    refine SeqK.nx (by assumption) ?_
    refine k_ret ?_
    refine FunK.rt (by assumption) rfl ?_
    -- leaf 5
    refine ⟨(), ?_, F.pick [] (by decide), trivial⟩
    show _ = numV (numR bs at_)
    have g2 := be2_lo hB at_.toNat
    have g4 := be4_lo hB at_.toNat
    unfold numR
    (repeat' split) <;> first
      | (exfalso; omega)
      | rfl
      | (rw [hv2]; exact congrArg (fun x => Value.tuple #[.int .u32 x, .int .i64 4, .int .i64 0]) (wrap32 (x := be bs at_.toNat 4 - 3221225472) (by omega) (by omega)))
      | (rw [hv2]; exact congrArg (fun x => Value.tuple #[.int .u32 x, .int .i64 2, .int .i64 0]) (wrap32 (x := be bs at_.toNat 2 - 32768) (by omega) (by omega)))
      | (rw [hv2]; exact congrArg (fun x => Value.tuple #[.int .u32 x, .int .i64 1, .int .i64 0]) (Int.sub_zero _))
  replace hc4 := of_decide_eq_false ((irr_eq _).symm.trans hc4)
  refine k_skip ?_
  refine BlkK.nx (by assumption) ?_
  refine SeqK.nx (by assumption) ?_
  refine k_seq (fun Q K => ?_)
  refine k_lin (fun W K => ?_)
  refine l_op 0 rfl rfl rfl rfl rfl ?_
  refine l_op 0 rfl rfl rfl rfl rfl ?_
  refine l_op 0 rfl rfl rfl rfl rfl ?_
  refine l_callp F rfl rfl (by kernel_rfl) rfl rfl (wbe_call (Old.pure (F.old h)) hB (by omega)) (fun _ s F _ => ?_)
  (try dsimp only [n_1, n_2, n_3, n_4, List.append_nil, pk, n_5, n_6] at F)
  refine l_op 0 rfl rfl rfl rfl rfl ?_
  refine l_op 2 rfl rfl rfl rfl rfl ?_
  refine l_op 2 rfl rfl rfl rfl rfl ?_
  refine l_op 0 rfl rfl rfl rfl rfl ?_
  refine l_op 0 rfl rfl rfl rfl rfl ?_
  refine l_nil (WK.nx (by assumption) ?_)
  refine SeqK.nx (by assumption) ?_
  refine k_seq (fun Q K => ?_)
  refine k_seq (fun Q K => ?_)
  refine k_lin (fun W K => ?_)
  refine l_op 0 rfl rfl rfl rfl rfl ?_
  refine l_cmp rfl rfl rfl rfl ?_
  refine l_nil (WK.nx (by assumption) ?_)
  refine SeqK.nx (by assumption) ?_
  refine l_cond rfl rfl (fun hc6 => ?_) (fun hc6 => ?_)
  · first | replace hc6 := bne_iff_ne.1 ((irr_eq _).symm.trans hc6) | simp only [irr_eq, bne_iff_ne, bne_eq_false_iff_eq, ne_eq, decide_eq_true_eq, decide_eq_false_iff_not, Bool.not_eq_true', Bool.not_eq_false'] at hc6
    have hshort := ben_no h0 (by omega) hc6
    refine k_seq (fun Q K => ?_)
    refine k_lin (fun W K => ?_)
    refine l_op 0 rfl rfl rfl rfl rfl ?_
    refine l_op 0 rfl rfl rfl rfl rfl ?_
    refine l_op 0 rfl rfl rfl rfl rfl ?_
    refine l_nil (WK.nx (by assumption) ?_)
    refine SeqK.nx (by assumption) ?_
    refine k_ret ?_
    refine SeqK.rt (by assumption) ?_
    refine FunK.rt (by assumption) rfl ?_
    -- leaf 6
    refine ⟨(), ?_, F.pick [] (by decide), trivial⟩
    show _ = numV (numR bs at_)
    have g2 := be2_lo hB at_.toNat
    have g4 := be4_lo hB at_.toNat
    unfold numR
    (repeat' split) <;> first
      | (exfalso; omega)
      | rfl
      | (rw [hv2]; exact congrArg (fun x => Value.tuple #[.int .u32 x, .int .i64 4, .int .i64 0]) (wrap32 (x := be bs at_.toNat 4 - 3221225472) (by omega) (by omega)))
      | (rw [hv2]; exact congrArg (fun x => Value.tuple #[.int .u32 x, .int .i64 2, .int .i64 0]) (wrap32 (x := be bs at_.toNat 2 - 32768) (by omega) (by omega)))
      | (rw [hv2]; exact congrArg (fun x => Value.tuple #[.int .u32 x, .int .i64 1, .int .i64 0]) (Int.sub_zero _))
  first | replace hc6 := bne_eq_false_iff_eq.1 ((irr_eq _).symm.trans hc6) | simp only [irr_eq, bne_iff_ne, bne_eq_false_iff_eq, ne_eq, decide_eq_true_eq, decide_eq_false_iff_not, Bool.not_eq_true', Bool.not_eq_false'] at hc6
  obtain ⟨hlen2, hv2⟩ := ben_ok h0 (by omega) hc6
  refine k_skip ?_
  refine SeqK.nx (by assumption) ?_
  refine k_seq (fun Q K => ?_)
  refine k_lin (fun W K => ?_)
  refine l_op 0 rfl rfl rfl rfl rfl ?_
  refine l_op 0 rfl rfl rfl rfl rfl ?_
  refine l_a32 rfl rfl rfl (by omega) rfl ?_
  refine l_op 0 rfl rfl rfl rfl rfl ?_
  refine l_op 0 rfl rfl rfl rfl rfl ?_
  refine l_op 0 rfl rfl rfl rfl rfl ?_
  refine l_op 0 rfl rfl rfl rfl rfl ?_
  refine l_nil (WK.nx (by assumption) ?_)
  refine SeqK.nx (by assumption) ?_
  refine k_ret ?_
  refine FunK.rt (by assumption) rfl ?_
  -- leaf 7
  refine ⟨(), ?_, F.pick [] (by decide), trivial⟩
  show _ = numV (numR bs at_)
  have g2 := be2_lo hB at_.toNat
  have g4 := be4_lo hB at_.toNat
  unfold numR
  (repeat' split) <;> first
    | (exfalso; omega)
    | rfl
    | (rw [hv2]; exact congrArg (fun x => Value.tuple #[.int .u32 x, .int .i64 4, .int .i64 0]) (wrap32 (x := be bs at_.toNat 4 - 3221225472) (by omega) (by omega)))
    | (rw [hv2]; exact congrArg (fun x => Value.tuple #[.int .u32 x, .int .i64 2, .int .i64 0]) (wrap32 (x := be bs at_.toNat 2 - 32768) (by omega) (by omega)))
    | (rw [hv2]; exact congrArg (fun x => Value.tuple #[.int .u32 x, .int .i64 1, .int .i64 0]) (Int.sub_zero _))

end Go.Proofs.Ytkemnodaadlonaa
