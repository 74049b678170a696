/- The small functions of the heap. No statement of the seat is proved in this text. -/
import Derived.Test.YtocfmecenpeoiaaGreatInsert
import Derived.Test.YtocfmecenpeoiaaGreatLibPut
set_option linter.unusedVariables false
set_option linter.unusedSimpArgs false
set_option maxRecDepth 100000
set_option maxHeartbeats 4000000
namespace Go.Proofs.YtocfmecenpeoiaaGreat
open GAb Go

/-- A heap: its cells, its blocks. -/
abbrev hC (m : Nat) (a : Option Addr) (c : Nat) (most st en : Int) (bl : List (Int × Int)) : List Value := [.int .u32 most, .int .u32 st, .int .u32 en, .slice a bl.length c]
abbrev hF (m : Nat) (a : Option Addr) (c : Nat) (most st en : Int) (bl : List (Int × Int)) : List Fact := [cel m (hC m a c most st en bl), own a bl.length c 2 (rows eB bl)]
def BlkOK (bl : List (Int × Int)) : Prop := ∀ x ∈ bl, U32 x.1 ∧ U32 x.2
theorem BlkOK.at {bl : List (Int × Int)} (h : BlkOK bl) (i : Nat) : U32 (bl.getD i default).1 ∧ U32 (bl.getD i default).2 := by
  by_cases hi : i < bl.length
  · simp only [List.getD, List.getElem?_eq_getElem hi, Option.getD_some]
    exact h _ (List.getElem_mem hi)
  · simp only [List.getD, List.getElem?_eq_none (by omega : bl.length ≤ i), Option.getD_none]
    exact ⟨⟨Int.le_refl _, by decide⟩, ⟨Int.le_refl _, by decide⟩⟩
theorem nil_has {σ : AState} {l c es : Nat} {vs : List Value} (h : Has σ none l c es vs) : l = 0 ∧ c = 0 ∧ vs = [] := by
  obtain ⟨zs, h1, h2⟩ := h
  rcases h1 with ⟨_, rfl, rfl, rfl⟩ | ⟨n, o, e, h, _⟩
  · exact ⟨rfl, rfl, by rw [← h2]; simp⟩
  · cases h

theorem new_call {σ : AState} {most : Int} : SCall Tryz.prog E0 103 [.int .u32 most] σ (Ret E0 σ (fun (m : Nat) => .pointer (some ⟨m, 0, none⟩)) (fun m => hF m none 0 most 0 0 []) fun _ => True) := by
  refine k_fun Tryz.func103 rfl (m := 6) rfl fun B hD Q K => ?_
  have F := Facts.nil E0 σ
  refine k_seq fun Q K => k_lin fun W K => ?_
  refine l_op 0 rfl rfl rfl rfl rfl ?_
  refine l_nil (WK.nx ‹_› (SeqK.nx ‹_› ?_))
  refine k_seq fun Q K => k_lin fun W K => ?_
  refine l_op 0 rfl rfl rfl rfl rfl ?_
  refine l_bld rfl rfl rfl rfl ?_
  refine l_bx F rfl rfl rfl rfl rfl (fun q5 s F => ?_)
  (try dsimp only [n_1, n_2, n_3, n_4, List.append_nil, pk, n_5, n_6] at F)
  refine l_op 0 rfl rfl rfl rfl rfl ?_
  refine l_nil (WK.nx ‹_› (SeqK.nx ‹_› (k_ret ?_)))
  refine FunK.rt (by assumption) rfl ?_
  -- leaf 1
  exact ⟨q5, rfl, F.nilrow 2, trivial⟩

theorem paged_call {σ : AState} {x : Int} (hx : U32 x) : SCall Tryz.prog E0 149 [.int .u32 x] σ (Ret E0 σ (fun (_ : Unit) => .bool (irr (x % 256 == 0))) (fun _ => []) fun _ => True) := by
  obtain ⟨h0, h1⟩ := hx
  refine k_fun Tryz.func149 rfl (m := 6) rfl fun B hD Q K => ?_
  have F := Facts.nil E0 σ
  refine k_seq fun Q K => k_lin fun W K => ?_
  refine l_op 0 rfl rfl rfl rfl rfl ?_
  refine l_nil (WK.nx ‹_› (SeqK.nx ‹_› ?_))
  refine k_seq fun Q K => k_lin fun W K => ?_
  refine l_op 0 rfl rfl rfl rfl rfl ?_
  refine l_remn rfl rfl rfl rfl rfl (by omega) rfl ?_
  refine l_cmp rfl rfl rfl rfl ?_
  refine l_op 0 rfl rfl rfl rfl rfl ?_
  refine l_nil (WK.nx ‹_› (SeqK.nx ‹_› (k_ret ?_)))
  refine FunK.rt (by assumption) rfl ?_
  -- leaf 1
  exact ⟨(), rfl, F, trivial⟩

def alignR (x : Int) : Int × Bool := if (x + 255) / 256 * 256 > 4294967295 then (0, false) else ((x + 255) / 256 * 256, true)
theorem align_call {σ : AState} {x : Int} (hx : U32 x) : SCall Tryz.prog E0 151 [.int .u32 x, .int .u32 256] σ (Ret E0 σ (fun (_ : Unit) => .tuple #[.int .u32 (alignR x).1, .bool (alignR x).2]) (fun _ => []) fun _ => True) := by
  obtain ⟨h0, h1⟩ := hx
  refine k_fun Tryz.func151 rfl (m := 25) rfl fun B hD Q K => ?_
  have F := Facts.nil E0 σ
  refine k_seq fun Q K => k_lin fun W K => ?_
  iterate 2 refine l_op 0 rfl rfl rfl rfl rfl ?_
  refine l_nil (WK.nx ‹_› (SeqK.nx ‹_› ?_))
  refine k_seq fun Q K => k_seq fun Q K => k_lin fun W K => ?_
  refine l_op 0 rfl rfl rfl rfl rfl ?_
  refine l_cmp rfl rfl rfl rfl ?_
  refine l_nil (WK.nx ‹_› (SeqK.nx ‹_› ?_))
  refine l_cond rfl rfl (fun hc1 => ?_) (fun hc1 => ?_)
  · replace hc1 := eq_of_beq ((irr_eq _).symm.trans hc1)
    refine k_seq fun Q K => k_lin fun W K => ?_
    iterate 2 refine l_op 0 rfl rfl rfl rfl rfl ?_
    refine l_nil (WK.nx ‹_› (SeqK.nx ‹_› (k_ret (SeqK.rt ‹_› ?_))))
    refine FunK.rt (by assumption) rfl ?_
    -- leaf 1
    refine ⟨(), ?_, F, trivial⟩
    omega
  replace hc1 := ne_of_beq_false ((irr_eq _).symm.trans hc1)
  refine k_skip (SeqK.nx ‹_› ?_)
  refine k_seq fun Q K => k_lin fun W K => ?_
  refine l_op 0 rfl rfl rfl rfl rfl ?_
  refine l_cu64 rfl rfl rfl (by omega) rfl ?_
  refine l_op 0 rfl rfl rfl rfl rfl ?_
  refine l_cu64 rfl rfl rfl (by omega) rfl ?_
  iterate 2 refine l_au64 rfl rfl rfl (by omega) rfl ?_
  refine l_op 0 rfl rfl rfl rfl rfl ?_
  refine l_cu64 rfl rfl rfl (by omega) rfl ?_
  refine l_quou64 rfl rfl rfl rfl rfl (by omega) rfl ?_
  refine l_op 0 rfl rfl rfl rfl rfl ?_
  refine l_cu64 rfl rfl rfl (by omega) rfl ?_
  refine l_au64 rfl rfl rfl (by omega) rfl ?_
  refine l_op 0 rfl rfl rfl rfl rfl ?_
  refine l_nil (WK.nx ‹_› (SeqK.nx ‹_› ?_))
  refine k_seq fun Q K => k_seq fun Q K => k_lin fun W K => ?_
  refine l_op 0 rfl rfl rfl rfl rfl ?_
  refine l_cmp rfl rfl rfl rfl ?_
  refine l_nil (WK.nx ‹_› (SeqK.nx ‹_› ?_))
  refine l_cond rfl rfl (fun hc2 => ?_) (fun hc2 => ?_)
  · replace hc2 := of_decide_eq_true ((irr_eq _).symm.trans hc2)
    refine k_seq fun Q K => k_lin fun W K => ?_
    iterate 2 refine l_op 0 rfl rfl rfl rfl rfl ?_
    refine l_nil (WK.nx ‹_› (SeqK.nx ‹_› (k_ret (SeqK.rt ‹_› ?_))))
    refine FunK.rt (by assumption) rfl ?_
    -- leaf 2
    refine ⟨(), ?_, F, trivial⟩
    (have e : alignR x = (0, false) := if_pos (by omega)
     rw [e]; rfl)
  replace hc2 := of_decide_eq_false ((irr_eq _).symm.trans hc2)
  refine k_skip (SeqK.nx ‹_› ?_)
  refine k_seq fun Q K => k_lin fun W K => ?_
  refine l_op 0 rfl rfl rfl rfl rfl ?_
  refine l_c32 rfl rfl rfl (by omega) rfl ?_
  iterate 2 refine l_op 0 rfl rfl rfl rfl rfl ?_
  refine l_nil (WK.nx ‹_› (SeqK.nx ‹_› (k_ret ?_)))
  refine FunK.rt (by assumption) rfl ?_
  -- leaf 3
  refine ⟨(), ?_, F, trivial⟩
  (have e : alignR x = ((x + 255) / 256 * 256, true) := if_neg (by omega)
   have e1 : x + 256 - 1 = x + 255 := by omega
   rw [e, ← e1]; rfl)

theorem cloneB_call {σ : AState} {a : Option Addr} {l c : Nat} {bl : List (Int × Int)} (h1 : Old E0 σ a l c 2 (rows eB bl)) (hl : l ≤ 1000000000) :
    SCall Tryz.prog E0 78 [.slice a l c] σ (Ret E0 σ (fun (y : Option Addr × Nat) => .slice y.1 l y.2) (fun y => [own y.1 l y.2 2 (rows eB bl)]) fun y => Ex y.1) := by
  have hxl : bl.length = l := h1.1.len eB_len (by decide)
  have F := Facts.nil E0 σ
  cases a with
  | none =>
    obtain ⟨rfl, rfl, hxs⟩ := nil_has h1.1
    obtain rfl : bl = [] := List.eq_nil_of_length_eq_zero hxl
    refine k_fun Tryz.func78 rfl (m := 8) rfl fun B hD Q K => ?_
    refine k_seq fun Q K => k_lin fun W K => ?_
    refine l_op 0 rfl rfl rfl rfl rfl ?_
    refine l_nil (WK.nx ‹_› (SeqK.nx ‹_› ?_))
    refine k_seq fun Q K => k_seq fun Q K => k_lin fun W K => ?_
    refine l_op 0 rfl rfl rfl rfl rfl ?_
    refine l_cmp rfl rfl rfl rfl ?_
    refine l_nil (WK.nx ‹_› (SeqK.nx ‹_› ?_))
    refine l_cond rfl rfl (fun hc1 => ?_) (fun hc1 => ?_)
    · simp only [irr_eq, beq_iff_eq, beq_eq_false_iff_ne, ne_eq, decide_eq_true_eq, decide_eq_false_iff_not] at hc1
      refine k_seq fun Q K => k_lin fun W K => ?_
      refine l_op 0 rfl rfl rfl rfl rfl ?_
      refine l_nil (WK.nx ‹_› (SeqK.nx ‹_› (k_ret (SeqK.rt ‹_› ?_))))
      refine FunK.rt (by assumption) rfl ?_
      -- leaf 1
      exact ⟨(none, 0), rfl, F.nilrow 2, .inl rfl⟩
    exact absurd ((irr_eq _).symm.trans hc1) (by decide)
  | some p =>
    refine k_fun Tryz.func78 rfl (m := 8) rfl fun B hD Q K => ?_
    refine k_seq fun Q K => k_lin fun W K => ?_
    refine l_op 0 rfl rfl rfl rfl rfl ?_
    refine l_nil (WK.nx ‹_› (SeqK.nx ‹_› ?_))
    refine k_seq fun Q K => k_seq fun Q K => k_lin fun W K => ?_
    refine l_op 0 rfl rfl rfl rfl rfl ?_
    refine l_cmp rfl rfl rfl rfl ?_
    refine l_nil (WK.nx ‹_› (SeqK.nx ‹_› ?_))
    refine l_cond rfl rfl (fun hc1 => ?_) (fun hc1 => ?_)
    · exact absurd ((irr_eq _).symm.trans hc1) (by decide)
    simp only [irr_eq, beq_iff_eq, beq_eq_false_iff_ne, ne_eq, decide_eq_true_eq, decide_eq_false_iff_not] at hc1
    refine k_skip (SeqK.nx ‹_› ?_)
    refine k_seq fun Q K => k_lin fun W K => ?_
    refine l_lit F rfl rfl rfl rfl (fun q5 s F => ?_)
    (try dsimp only [n_1, n_2, n_3, n_4, List.append_nil, pk, n_5, n_6] at F)
    refine l_op 0 rfl rfl rfl rfl rfl ?_
    refine l_appx (es := 2) F 0 rfl rfl rfl rfl rfl rfl rfl (.inr ⟨_, rfl⟩) rfl rfl (F.old h1) (eB_one bl) rfl (by omega) hD (fun x2 c2 s hx2 F => ?_)
    (try dsimp only [n_1, n_2, n_3, n_4, List.append_nil, pk, n_5, n_6] at F)
    rw [Nat.zero_add] at F
    refine l_op 0 rfl rfl rfl rfl rfl ?_
    refine l_nil (WK.nx ‹_› (SeqK.nx ‹_› (k_ret ?_)))
    refine FunK.rt (by assumption) rfl ?_
    -- leaf 1
    exact ⟨(x2, c2), congrArg (fun k => Value.slice x2 k c2) (Nat.zero_add l), F, hx2⟩

theorem active_call {σ : AState} {m c : Nat} {a : Option Addr} {most st en : Int} {bl : List (Int × Int)} (hc : OldC E0 σ m (hC m a c most st en bl)) : SCall Tryz.prog E0 139 [.pointer (some ⟨m, 0, none⟩)] σ (Ret E0 σ (fun (_ : Unit) => .bool (irr (decide ((bl.length : Int) > 0)))) (fun _ => []) fun _ => True) := by
  refine k_fun Tryz.func139 rfl (m := 13) rfl fun B hD Q K => ?_
  have F := Facts.nil E0 σ
  refine k_seq fun Q K => k_lin fun W K => ?_
  refine l_op 0 rfl rfl rfl rfl rfl ?_
  refine l_nil (WK.nx ‹_› (SeqK.nx ‹_› ?_))
  refine k_seq fun Q K => k_lin fun W K => ?_
  refine l_op 0 rfl rfl rfl rfl rfl ?_
  refine l_cmp rfl rfl rfl rfl ?_
  refine l_op 0 rfl rfl rfl rfl rfl ?_
  refine l_guard rfl rfl rfl (fun hc1 => ?_) (fun hc1 => ?_)
  · simp only [irr_eq, bne_iff_ne, bne_eq_false_iff_eq, ne_eq, decide_eq_true_eq, decide_eq_false_iff_not, Bool.not_eq_true', Bool.not_eq_false'] at hc1
    refine l_op 0 rfl rfl rfl rfl rfl ?_
    iterate 2 refine l_op 2 rfl rfl rfl rfl rfl ?_
    refine l_ldo F (by assumption) rfl rfl rfl rfl rfl rfl ?_
    refine l_op 2 rfl rfl rfl rfl rfl ?_
    refine l_cmp rfl rfl rfl rfl ?_
    refine l_op 2 rfl rfl rfl rfl rfl ?_
    refine l_op 0 rfl rfl rfl rfl rfl ?_
    refine l_nil (WK.nx ‹_› (SeqK.nx ‹_› (k_ret ?_)))
    refine FunK.rt (by assumption) rfl ?_
    -- leaf 1
    exact ⟨(), rfl, F, trivial⟩
  exact absurd ((irr_eq _).symm.trans hc1) (by decide)
theorem start_call {σ : AState} {m c : Nat} {a : Option Addr} {most st en : Int} {bl : List (Int × Int)} (hc : OldC E0 σ m (hC m a c most st en bl)) : SCall Tryz.prog E0 95 [.pointer (some ⟨m, 0, none⟩)] σ (Ret E0 σ (fun (_ : Unit) => .int .u32 st) (fun _ => []) fun _ => True) := by
  refine k_fun Tryz.func95 rfl (m := 9) rfl fun B hD Q K => ?_
  have F := Facts.nil E0 σ
  refine k_seq fun Q K => k_lin fun W K => ?_
  refine l_op 0 rfl rfl rfl rfl rfl ?_
  refine l_nil (WK.nx ‹_› (SeqK.nx ‹_› ?_))
  refine k_seq fun Q K => k_seq fun Q K => k_lin fun W K => ?_
  refine l_op 0 rfl rfl rfl rfl rfl ?_
  refine l_cmp rfl rfl rfl rfl ?_
  refine l_nil (WK.nx ‹_› (SeqK.nx ‹_› ?_))
  refine l_cond rfl rfl (fun hc1 => ?_) (fun hc1 => ?_)
  · exact absurd ((irr_eq _).symm.trans hc1) (by decide)
  simp only [irr_eq, beq_iff_eq, beq_eq_false_iff_ne, ne_eq, decide_eq_true_eq, decide_eq_false_iff_not] at hc1
  refine k_skip (SeqK.nx ‹_› ?_)
  refine k_seq fun Q K => k_lin fun W K => ?_
  refine l_op 0 rfl rfl rfl rfl rfl ?_
  iterate 2 refine l_op 2 rfl rfl rfl rfl rfl ?_
  refine l_ldo F (by assumption) rfl rfl rfl rfl rfl rfl ?_
  refine l_op 0 rfl rfl rfl rfl rfl ?_
  refine l_nil (WK.nx ‹_› (SeqK.nx ‹_› (k_ret ?_)))
  refine FunK.rt (by assumption) rfl ?_
  -- leaf 1
  exact ⟨(), rfl, F, trivial⟩
theorem end_call {σ : AState} {m c : Nat} {a : Option Addr} {most st en : Int} {bl : List (Int × Int)} (hc : OldC E0 σ m (hC m a c most st en bl)) : SCall Tryz.prog E0 101 [.pointer (some ⟨m, 0, none⟩)] σ (Ret E0 σ (fun (_ : Unit) => .int .u32 en) (fun _ => []) fun _ => True) := by
  refine k_fun Tryz.func101 rfl (m := 9) rfl fun B hD Q K => ?_
  have F := Facts.nil E0 σ
  refine k_seq fun Q K => k_lin fun W K => ?_
  refine l_op 0 rfl rfl rfl rfl rfl ?_
  refine l_nil (WK.nx ‹_› (SeqK.nx ‹_› ?_))
  refine k_seq fun Q K => k_seq fun Q K => k_lin fun W K => ?_
  refine l_op 0 rfl rfl rfl rfl rfl ?_
  refine l_cmp rfl rfl rfl rfl ?_
  refine l_nil (WK.nx ‹_› (SeqK.nx ‹_› ?_))
  refine l_cond rfl rfl (fun hc1 => ?_) (fun hc1 => ?_)
  · exact absurd ((irr_eq _).symm.trans hc1) (by decide)
  simp only [irr_eq, beq_iff_eq, beq_eq_false_iff_ne, ne_eq, decide_eq_true_eq, decide_eq_false_iff_not] at hc1
  refine k_skip (SeqK.nx ‹_› ?_)
  refine k_seq fun Q K => k_lin fun W K => ?_
  refine l_op 0 rfl rfl rfl rfl rfl ?_
  iterate 2 refine l_op 2 rfl rfl rfl rfl rfl ?_
  refine l_ldo F (by assumption) rfl rfl rfl rfl rfl rfl ?_
  refine l_op 0 rfl rfl rfl rfl rfl ?_
  refine l_nil (WK.nx ‹_› (SeqK.nx ‹_› (k_ret ?_)))
  refine FunK.rt (by assumption) rfl ?_
  -- leaf 1
  exact ⟨(), rfl, F, trivial⟩
theorem blocks_call {σ : AState} {m c : Nat} {a : Option Addr} {most st en : Int} {bl : List (Int × Int)} (hc : OldC E0 σ m (hC m a c most st en bl)) (hl : Old E0 σ a bl.length c 2 (rows eB bl)) (hn : bl.length ≤ 1000000) : SCall Tryz.prog E0 96 [.pointer (some ⟨m, 0, none⟩)] σ (Ret E0 σ (fun (y : Option Addr × Nat) => .slice y.1 bl.length y.2) (fun y => [own y.1 bl.length y.2 2 (rows eB bl)]) fun y => Ex y.1) := by
  refine k_fun Tryz.func96 rfl (m := 10) rfl fun B hD Q K => ?_
  have F := Facts.nil E0 σ
  refine k_seq fun Q K => k_lin fun W K => ?_
  refine l_op 0 rfl rfl rfl rfl rfl ?_
  refine l_nil (WK.nx ‹_› (SeqK.nx ‹_› ?_))
  refine k_seq fun Q K => k_seq fun Q K => k_lin fun W K => ?_
  refine l_op 0 rfl rfl rfl rfl rfl ?_
  refine l_cmp rfl rfl rfl rfl ?_
  refine l_nil (WK.nx ‹_› (SeqK.nx ‹_› ?_))
  refine l_cond rfl rfl (fun hc1 => ?_) (fun hc1 => ?_)
  · exact absurd ((irr_eq _).symm.trans hc1) (by decide)
  simp only [irr_eq, beq_iff_eq, beq_eq_false_iff_ne, ne_eq, decide_eq_true_eq, decide_eq_false_iff_not] at hc1
  refine k_skip (SeqK.nx ‹_› ?_)
  refine k_seq fun Q K => k_lin fun W K => ?_
  refine l_op 0 rfl rfl rfl rfl rfl ?_
  iterate 2 refine l_op 2 rfl rfl rfl rfl rfl ?_
  refine l_ldo F (by assumption) rfl rfl rfl rfl rfl rfl ?_
  refine l_callp F rfl rfl (by kernel_rfl) rfl rfl (cloneB_call (Old.pure (F.old hl)) (by omega)) (fun y s F hy => ?_)
  (try dsimp only [n_1, n_2, n_3, n_4, List.append_nil, pk, n_5, n_6] at F)
  refine l_op 0 rfl rfl rfl rfl rfl ?_
  refine l_nil (WK.nx ‹_› (SeqK.nx ‹_› (k_ret ?_)))
  refine FunK.rt (by assumption) rfl ?_
  -- leaf 1
  exact ⟨y, rfl, F, hy⟩

/-- The least place with so many free bytes, and among which blocks it is. -/
def placeR (n : Int) : Int → List (Int × Int) → Int × Int
  | at_, [] => (at_, 0)
  | at_, b :: bl => if at_ + n ≤ b.1 then (at_, 0) else ((placeR n (b.1 + b.2) bl).1, (placeR n (b.1 + b.2) bl).2 + 1)
theorem placeR_drop {n at_ : Int} {bl : List (Int × Int)} {i : Nat} (hi : i < bl.length) : placeR n at_ (bl.drop i) = if at_ + n ≤ (bl.getD i default).1 then (at_, 0) else ((placeR n ((bl.getD i default).1 + (bl.getD i default).2) (bl.drop (i + 1))).1, (placeR n ((bl.getD i default).1 + (bl.getD i default).2) (bl.drop (i + 1))).2 + 1) := by
  rw [List.drop_eq_getElem_cons hi, placeR]
  simp only [List.getD, List.getElem?_eq_getElem hi, Option.getD_some]
theorem place_call {σ : AState} {m c : Nat} {a : Option Addr} {most st en n at_ : Int} {bl : List (Int × Int)} (hc : OldC E0 σ m (hC m a c most st en bl)) (hl : Old E0 σ a bl.length c 2 (rows eB bl)) (hB : BlkOK bl) (hn : bl.length ≤ 1000000) (hu : U32 n) (ha : U32 at_) :
    SCall Tryz.prog E0 150 [.pointer (some ⟨m, 0, none⟩), .int .u64 n, .int .u32 at_] σ (Ret E0 σ (fun (_ : Unit) => .tuple #[.int .u64 (placeR n at_ bl).1, .int .i64 (placeR n at_ bl).2]) (fun _ => []) fun _ => True) := by
  obtain ⟨n0, n1⟩ := hu
  obtain ⟨a0, a1⟩ := ha
  refine k_fun Tryz.func150 rfl (m := 46) rfl fun B hD Q K => ?_
  have F := Facts.nil E0 σ
  refine k_seq fun Q K => k_lin fun W K => ?_
  iterate 2 refine l_op 0 rfl rfl rfl rfl rfl ?_
  refine l_nil (WK.nx ‹_› (SeqK.nx ‹_› ?_))
  refine k_seq fun Q K => k_lin fun W K => ?_
  refine l_op 0 rfl rfl rfl rfl rfl ?_
  refine l_cu64 rfl rfl rfl (by omega) rfl ?_
  refine l_op 0 rfl rfl rfl rfl rfl ?_
  refine l_nil (WK.nx ‹_› (SeqK.nx ‹_› ?_))
  refine k_seq fun Q K => k_seq fun Q K => k_lin fun W K => ?_
  refine l_op 0 rfl rfl rfl rfl rfl ?_
  iterate 2 refine l_op 2 rfl rfl rfl rfl rfl ?_
  refine l_ldo F (by assumption) rfl rfl rfl rfl rfl rfl ?_
  refine l_op 2 rfl rfl rfl rfl rfl ?_
  refine l_op 0 rfl rfl rfl rfl rfl ?_
  refine l_nil (WK.nx ‹_› (SeqK.nx ‹_› ?_))
  refine k_block fun Q K => ?_
  refine k_loop (α := Int × Int) (fun ⟨i, p⟩ s => Facts E0 σ s [] ∧ 0 ≤ i ∧ i ≤ bl.length ∧ 0 ≤ p ∧ p ≤ 8589934590 ∧ placeR n at_ bl = ((placeR n p (bl.drop i.toNat)).1, (placeR n p (bl.drop i.toNat)).2 + i)) (fun ⟨i, p⟩ => [(0, .pointer (some ⟨m, 0, none⟩)), (1, .int .u64 n), (8, .int .u64 p), (16, .slice a bl.length c), (17, .int .i64 bl.length), (18, .int .i64 i)]) (fun ⟨i, _⟩ => (bl.length - i).toNat) (0, at_) ⟨F, by omega, by omega, by omega, by omega, by simp⟩ (by repeat (first | exact trivial | refine And.intro rfl ?_)) ?_
  clear F
  rintro ⟨i, p⟩ env s Q K0 ⟨F, i0, i1, p0, p1, hpl⟩
  obtain ⟨⟨b0, b1⟩, ⟨b2, b3⟩⟩ := hB.at i.toNat
  refine k_seq fun Q K => k_lin fun W K => ?_
  refine l_cmp rfl rfl rfl rfl ?_
  refine l_nil (WK.nx ‹_› (SeqK.nx ‹_› ?_))
  refine k_seq fun Q K => ?_
  refine l_cond rfl rfl (fun hc1 => ?_) (fun hc1 => ?_)
  · replace hc1 := of_decide_eq_true ((irr_eq _).symm.trans hc1)
    refine k_skip (SeqK.nx ‹_› ?_)
    refine k_seq fun Q K => k_block fun Q K => k_seq fun Q K => k_lin fun W K => ?_
    refine l_op 0 rfl rfl rfl rfl rfl ?_
    refine l_ixr (e := eB) rfl rfl rfl rfl rfl rfl (F.old (by assumption)) ⟨eB_len, by decide⟩ (by omega) (fun m21 b21 hA21 => ?_)
    refine l_lda rfl rfl rfl rfl rfl (by assumption) ?_
    refine l_al F rfl rfl rfl rfl (fun q10 s F => ?_)
    (try dsimp only [n_1, n_2, n_3, n_4, List.append_nil, pk, n_5, n_6] at F)
    refine l_op 0 rfl rfl rfl rfl rfl ?_
    refine l_stca F 0 rfl rfl rfl rfl rfl rfl rfl rfl rfl rfl hD rfl (fun s F => ?_)
    (try dsimp only [n_1, n_2, n_3, n_4, List.append_nil, pk, n_5, n_6] at F)
    refine l_nil (WK.nx ‹_› (SeqK.nx ‹_› ?_))
    refine k_seq fun Q K => k_seq fun Q K => k_lin fun W K => ?_
    iterate 2 refine l_op 0 rfl rfl rfl rfl rfl ?_
    refine l_au64 rfl rfl rfl (by omega) rfl ?_
    refine l_op 2 rfl rfl rfl rfl rfl ?_
    refine l_ldc F 0 rfl rfl rfl rfl rfl rfl rfl ?_
    refine l_cu64 rfl rfl rfl (by omega) rfl ?_
    refine l_cmp rfl rfl rfl rfl ?_
    refine l_nil (WK.nx ‹_› (SeqK.nx ‹_› ?_))
    refine l_cond rfl rfl (fun hc2 => ?_) (fun hc2 => ?_)
    · replace hc2 := of_decide_eq_true ((irr_eq _).symm.trans hc2)
      rw [placeR_drop (by omega), if_pos (by omega)] at hpl
      refine k_seq fun Q K => k_lin fun W K => ?_
      iterate 4 refine l_op 0 rfl rfl rfl rfl rfl ?_
      refine l_nil (WK.nx ‹_› (SeqK.nx ‹_› (k_ret (SeqK.rt ‹_› (BlkK.rt ‹_› (SeqK.rt ‹_› ?_))))))
      refine LoopK.rt (by assumption) ?_
      refine BlkK.rt ‹_› (SeqK.rt ‹_› ?_)
      refine FunK.rt (by assumption) rfl ?_
      -- leaf 1
      refine ⟨(), ?_, F.pick [] (by decide), trivial⟩
      show _ = Value.tuple #[.int .u64 (placeR n at_ bl).1, .int .i64 (placeR n at_ bl).2]
      (rw [hpl, show ((p, (0 : Int)).2 + i : Int) = i by simp]; rfl)
    replace hc2 := of_decide_eq_false ((irr_eq _).symm.trans hc2)
    rw [placeR_drop (by omega), if_neg (by omega)] at hpl
    refine k_skip (SeqK.nx ‹_› ?_)
    refine k_lin fun W K => ?_
    refine l_op 2 rfl rfl rfl rfl rfl ?_
    refine l_ldc F 0 rfl rfl rfl rfl rfl rfl rfl ?_
    refine l_cu64 rfl rfl rfl (by omega) rfl ?_
    refine l_op 2 rfl rfl rfl rfl rfl ?_
    refine l_ldc F 0 rfl rfl rfl rfl rfl rfl rfl ?_
    refine l_cu64 rfl rfl rfl (by omega) rfl ?_
    refine l_au64 rfl rfl rfl (by omega) rfl ?_
    refine l_op 0 rfl rfl rfl rfl rfl ?_
    refine l_nil (WK.nx ‹_› (BlkK.nx ‹_› (SeqK.nx ‹_› ?_)))
    refine k_lin fun W K => ?_
    refine l_a64 rfl rfl rfl (by omega) rfl ?_
    refine l_op 0 rfl rfl rfl rfl rfl ?_
    refine l_nil (WK.nx ‹_› ?_)
    have e1 : (i + 1).toNat = i.toNat + 1 := by omega
    have F' := F.pick [] (by decide)
    exact K0.nx (i + 1, _) (by repeat (first | exact trivial | refine And.intro rfl ?_)) ⟨F', by omega, by omega, by omega, by omega, by rw [hpl, e1, Int.add_assoc, Int.add_comm 1 i]⟩ (by first | omega | (simp only; omega))
  replace hc1 := of_decide_eq_false ((irr_eq _).symm.trans hc1)
  rw [List.drop_of_length_le (by omega)] at hpl
  refine k_exit ?_
  refine SeqK.et (by assumption) ?_
  refine LoopK.et (by assumption) ?_
  refine BlkK.et (by assumption) ?_
  refine SeqK.nx ‹_› ?_
  refine k_seq fun Q K => ?_
  refine k_linm [0, 1, 2, 3, 6, 4, 5, 7] mixed (by kernel_rfl) (fun W K => ?_)
  try have hpS := F.pns
  iterate 2 refine l_op 0 rfl rfl rfl rfl rfl ?_
  iterate 2 refine l_op 2 rfl rfl rfl rfl rfl ?_
  refine l_op 0 rfl rfl rfl rfl rfl ?_
  refine l_ldo F (by assumption) rfl rfl rfl rfl rfl rfl ?_
  have hpS := PnS.add hpS (OldC.sf (by assumption))
  refine l_op 2 rfl rfl rfl rfl rfl ?_
  refine l_op 0 rfl rfl rfl rfl rfl ?_
  refine l_nil (WK.nx ‹_› (SeqK.nx ‹_› (k_ret ?_)))
  refine FunK.rt (by assumption) rfl ?_
  -- leaf 2
  refine ⟨(), ?_, F.pick [] (by decide), trivial⟩
  show _ = Value.tuple #[.int .u64 (placeR n at_ bl).1, .int .i64 (placeR n at_ bl).2]
  (rw [hpl, show ((placeR n p []).2 + i : Int) = bl.length by simp only [placeR]; omega]; rfl)

end Go.Proofs.YtocfmecenpeoiaaGreat
