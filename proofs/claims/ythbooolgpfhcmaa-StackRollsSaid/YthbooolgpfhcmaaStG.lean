/- Numbers on a stack are looked at and rolled, by the program. No statement of the seat is proved in this text. -/
import Derived.Test.YthbooolgpfhcmaaStF
set_option linter.unusedVariables false
set_option linter.unusedSimpArgs false
set_option maxRecDepth 100000
set_option maxHeartbeats 4000000
namespace Go.Proofs.Ythbooolgpfhcmaa
open GAb Go

theorem splice_mid {A B C Z : List Int} (h : B.length = C.length) : splice (u8l (A ++ (B ++ Z))) A.length (u8l C) = u8l (A ++ (C ++ Z)) := by
  unfold splice u8l
  simp only [List.map_append, List.length_map]
  rw [List.take_append_of_le_length (by simp), List.take_of_length_le (by simp), ← h]
  congr 1
  congr 1
  rw [← List.append_assoc, List.drop_append_of_le_length (by simp)]
  simp
theorem own_some {O : Nat → Prop} {σ0 σ : AState} {L : List Fact} (F : Facts O σ0 σ L) (k : Nat) {a : Option Addr} {l c es : Nat} {vs : List Value} (hL : L[k]? = some (own a l c es vs)) (hl : 0 < l * es) : ∃ m e, a = some ⟨m, 0, e⟩ := by
  have hO : Own 0 σ a l c es vs := F.ho _ (List.mem_of_getElem? hL)
  obtain ⟨hH, ⟨h, h2⟩ | ⟨n', e2, cs, h, _⟩⟩ := hO
  · exfalso
    have hz := (F.has k hL).size
    subst h
    simp_all
  · exact ⟨_, _, h⟩
/-- A word as an integer. -/
def si (k : Int) : Int := if k ≥ 2147483648 then k - 4294967296 else k
theorem si_bd {k : Int} (h : U32 k) : -2147483648 ≤ si k ∧ si k ≤ 2147483647 := by
  obtain ⟨h1, h2⟩ := h
  unfold si
  split <;> omega
theorem rint_call {σ : AState} {k : Int} (h : U32 k) :
    SCall Try.prog E0 29 [.int .u32 k] σ (Ret E0 σ (fun (_ : Unit) => .int .i64 (si k)) (fun _ => []) fun _ => True) := by
  obtain ⟨h1, h2⟩ := h
  refine k_fun Try.func29 rfl (m := 10) rfl fun B hD Q K => ?_
  have F := Facts.nil E0 σ
  refine k_seq (fun Q K => ?_)
  refine k_lin (fun W K => ?_)
  refine l_op 0 rfl rfl rfl rfl rfl ?_
  refine l_nil (WK.nx (by assumption) ?_)
  refine SeqK.nx (by assumption) ?_
  refine k_seq (fun Q K => ?_)
  refine k_seq (fun Q K => ?_)
  refine k_lin (fun W K => ?_)
  refine l_op 0 rfl rfl rfl rfl rfl ?_
  refine l_cmp rfl rfl rfl rfl ?_
  refine l_nil (WK.nx (by assumption) ?_)
  refine SeqK.nx (by assumption) ?_
  refine l_cond rfl rfl (fun hc1 => ?_) (fun hc1 => ?_)
  · replace hc1 := of_decide_eq_true ((irr_eq _).symm.trans hc1)
    refine k_seq (fun Q K => ?_)
    refine k_lin (fun W K => ?_)
    refine l_op 0 rfl rfl rfl rfl rfl ?_
    (first | refine l_c64 rfl rfl rfl (by omega) rfl ?_ | refine l_c32 rfl rfl rfl (by omega) rfl ?_ | refine l_c8 rfl rfl rfl (by omega) rfl ?_ | refine l_cu64 rfl rfl rfl (by omega) rfl ?_ | refine l_str rfl rfl rfl rfl rfl (F.old (by assumption)) ?_ | refine l_str rfl rfl rfl rfl rfl (F.has 0 rfl) ?_ | refine l_str rfl rfl rfl rfl rfl (F.has 1 rfl) ?_ | refine l_str rfl rfl rfl rfl rfl (F.has 2 rfl) ?_ | refine l_op 16 rfl rfl rfl rfl rfl ?_)
    (first | refine l_a64 rfl rfl rfl (by omega) rfl ?_ | refine l_a32 rfl rfl rfl (by omega) rfl ?_ | refine l_a8 rfl rfl rfl (by omega) rfl ?_ | refine l_au64 rfl rfl rfl (by omega) rfl ?_ | refine l_op 1 rfl rfl rfl rfl rfl ?_)
    refine l_op 0 rfl rfl rfl rfl rfl ?_
    refine l_nil (WK.nx (by assumption) ?_)
    refine SeqK.nx (by assumption) ?_
    refine k_ret ?_
    refine SeqK.rt (by assumption) ?_
    refine FunK.rt (by assumption) rfl ?_
    -- leaf 1
    first
    | (have e : si k = k - 4294967296 := if_pos (by omega)
       exact ⟨(), congrArg (Value.int .i64) e.symm, F, trivial⟩)
    | (have e : si k = k := if_neg (by omega)
       exact ⟨(), congrArg (Value.int .i64) e.symm, F, trivial⟩)
  replace hc1 := of_decide_eq_false ((irr_eq _).symm.trans hc1)
  refine k_skip ?_
  refine SeqK.nx (by assumption) ?_
  refine k_seq (fun Q K => ?_)
  refine k_lin (fun W K => ?_)
  refine l_op 0 rfl rfl rfl rfl rfl ?_
  (first | refine l_c64 rfl rfl rfl (by omega) rfl ?_ | refine l_c32 rfl rfl rfl (by omega) rfl ?_ | refine l_c8 rfl rfl rfl (by omega) rfl ?_ | refine l_cu64 rfl rfl rfl (by omega) rfl ?_ | refine l_str rfl rfl rfl rfl rfl (F.old (by assumption)) ?_ | refine l_str rfl rfl rfl rfl rfl (F.has 0 rfl) ?_ | refine l_str rfl rfl rfl rfl rfl (F.has 1 rfl) ?_ | refine l_str rfl rfl rfl rfl rfl (F.has 2 rfl) ?_ | refine l_op 16 rfl rfl rfl rfl rfl ?_)
  refine l_op 0 rfl rfl rfl rfl rfl ?_
  refine l_nil (WK.nx (by assumption) ?_)
  refine SeqK.nx (by assumption) ?_
  refine k_ret ?_
  refine FunK.rt (by assumption) rfl ?_
  -- leaf 2
  first
  | (have e : si k = k - 4294967296 := if_pos (by omega)
     exact ⟨(), congrArg (Value.int .i64) e.symm, F, trivial⟩)
  | (have e : si k = k := if_neg (by omega)
     exact ⟨(), congrArg (Value.int .i64) e.symm, F, trivial⟩)
def holdsE (on : Bool) (bs : List Int) (n : Nat) (fp k : Int) : Int := if on = false then 102 else if countR on bs n fp < k then 101 else 0
theorem holds_call {σ : AState} {m n c : Nat} {a : Option Addr} {size fp k : Int} {on : Bool} {bs : List Int} (hc : OldC E0 σ m (sC a n c size fp on)) (hl : Old E0 σ a n c 1 (u8l bs)) (hB : Bytes bs) (hn : n ≤ 1000000) (hns : n ≤ size) (hf : 0 ≤ fp ∧ fp ≤ 4294967295) (hon : on = true → fp + at4 bs fp ≤ n) (hk : 0 ≤ k ∧ k ≤ 4294967296) :
    SCall Try.prog E0 60 [.pointer (some ⟨m, 0, none⟩), .int .u64 k] σ (Ret E0 σ (fun (_ : Unit) => .int .i64 (holdsE on bs n fp k)) (fun _ => []) fun _ => True) := by
  have hr := ready0 (on := on) hns
  refine k_fun Try.func60 rfl (m := 16) rfl fun B hD Q K => ?_
  have F := Facts.nil E0 σ
  refine k_seq (fun Q K => ?_)
  refine k_lin (fun W K => ?_)
  refine l_op 0 rfl rfl rfl rfl rfl ?_
  refine l_nil (WK.nx (by assumption) ?_)
  refine SeqK.nx (by assumption) ?_
  refine k_seq (fun Q K => ?_)
  refine k_seq (fun Q K => ?_)
  refine k_lin (fun W K => ?_)
  refine l_op 0 rfl rfl rfl rfl rfl ?_
  refine l_callp F rfl rfl (by kernel_rfl) rfl rfl (ready_call (F.oldc0 hc) (Old.pure (F.old hl)) (by omega) (by omega)) (fun _ s F _ => ?_)
  (try dsimp only [n_1, n_2, n_3, n_4, List.append_nil, pk, n_5, n_6] at F)
  refine l_op 0 rfl rfl rfl rfl rfl ?_
  refine l_nil (WK.nx (by assumption) ?_)
  refine SeqK.nx (by assumption) ?_
  refine k_seq (fun Q K => ?_)
  refine k_lin (fun W K => ?_)
  refine l_op 0 rfl rfl rfl rfl rfl ?_
  refine l_cmp rfl rfl rfl rfl ?_
  refine l_nil (WK.nx (by assumption) ?_)
  refine SeqK.nx (by assumption) ?_
  refine l_cond rfl rfl (fun hc1 => ?_) (fun hc1 => ?_)
  · first | replace hc1 := bne_iff_ne.1 ((irr_eq _).symm.trans hc1) | simp only [irr_eq, bne_iff_ne, bne_eq_false_iff_eq, ne_eq, decide_eq_true_eq, decide_eq_false_iff_not, Bool.not_eq_true', Bool.not_eq_false'] at hc1
    refine k_seq (fun Q K => ?_)
    refine k_lin (fun W K => ?_)
    refine l_op 0 rfl rfl rfl rfl rfl ?_
    refine l_op 0 rfl rfl rfl rfl rfl ?_
    refine l_nil (WK.nx (by assumption) ?_)
    refine SeqK.nx (by assumption) ?_
    refine k_ret ?_
    refine SeqK.rt (by assumption) ?_
    refine FunK.rt (by assumption) rfl ?_
    -- leaf 1
    first
    | (have hof : on = false := by rcases hr with h | h; exact h.2; omega
       have e : holdsE on bs n fp k = readyR on n 0 size := by
         unfold holdsE; rw [if_pos hof]; rcases hr with h | h; omega; omega
       exact ⟨(), congrArg (Value.int .i64) e.symm, F, trivial⟩)
    | (have e : holdsE on bs n fp k = 101 := by
         unfold holdsE; rw [if_neg (by rw [hon1]; decide), if_pos (by omega)]
       exact ⟨(), congrArg (Value.int .i64) e.symm, F, trivial⟩)
    | (have e : holdsE on bs n fp k = 0 := by
         unfold holdsE; rw [if_neg (by rw [hon1]; decide), if_neg (by omega)]
       exact ⟨(), congrArg (Value.int .i64) e.symm, F, trivial⟩)
  first | replace hc1 := bne_eq_false_iff_eq.1 ((irr_eq _).symm.trans hc1) | simp only [irr_eq, bne_iff_ne, bne_eq_false_iff_eq, ne_eq, decide_eq_true_eq, decide_eq_false_iff_not, Bool.not_eq_true', Bool.not_eq_false'] at hc1
  have hb1 := at4_bd hB fp
  have hon1 : on = true := by rcases hr with h | h; omega; exact h.2
  have hcd := hon hon1
  have hcr : countR on bs n fp = (n - (fp + at4 bs fp)) / 4 := by rw [hon1]; rfl
  refine k_skip ?_
  refine SeqK.nx (by assumption) ?_
  refine k_seq (fun Q K => ?_)
  refine k_seq (fun Q K => ?_)
  refine k_lin (fun W K => ?_)
  refine l_op 0 rfl rfl rfl rfl rfl ?_
  refine l_callp F rfl rfl (by kernel_rfl) rfl rfl (count_call (F.oldc0 hc) (Old.pure (F.old hl)) hB (by omega) hf hon) (fun _ s F _ => ?_)
  (try dsimp only [n_1, n_2, n_3, n_4, List.append_nil, pk, n_5, n_6] at F)
  refine l_cu64 (z := countR on bs n fp) rfl rfl rfl (by omega) rfl ?_
  refine l_op 0 rfl rfl rfl rfl rfl ?_
  refine l_cmp rfl rfl rfl rfl ?_
  refine l_nil (WK.nx (by assumption) ?_)
  refine SeqK.nx (by assumption) ?_
  refine l_cond rfl rfl (fun hc2 => ?_) (fun hc2 => ?_)
  · replace hc2 := of_decide_eq_true ((irr_eq _).symm.trans hc2)
    refine k_seq (fun Q K => ?_)
    refine k_lin (fun W K => ?_)
    refine l_op 0 rfl rfl rfl rfl rfl ?_
    refine l_nil (WK.nx (by assumption) ?_)
    refine SeqK.nx (by assumption) ?_
    refine k_ret ?_
    refine SeqK.rt (by assumption) ?_
    refine FunK.rt (by assumption) rfl ?_
    -- leaf 2
    first
    | (have hof : on = false := by rcases hr with h | h; exact h.2; omega
       have e : holdsE on bs n fp k = readyR on n 0 size := by
         unfold holdsE; rw [if_pos hof]; rcases hr with h | h; omega; omega
       exact ⟨(), congrArg (Value.int .i64) e.symm, F, trivial⟩)
    | (have e : holdsE on bs n fp k = 101 := by
         unfold holdsE; rw [if_neg (by rw [hon1]; decide), if_pos (by omega)]
       exact ⟨(), congrArg (Value.int .i64) e.symm, F, trivial⟩)
    | (have e : holdsE on bs n fp k = 0 := by
         unfold holdsE; rw [if_neg (by rw [hon1]; decide), if_neg (by omega)]
       exact ⟨(), congrArg (Value.int .i64) e.symm, F, trivial⟩)
  replace hc2 := of_decide_eq_false ((irr_eq _).symm.trans hc2)
  refine k_skip ?_
  refine SeqK.nx (by assumption) ?_
  refine k_seq (fun Q K => ?_)
  refine k_lin (fun W K => ?_)
  refine l_op 0 rfl rfl rfl rfl rfl ?_
  refine l_nil (WK.nx (by assumption) ?_)
  refine SeqK.nx (by assumption) ?_
  refine k_ret ?_
  refine FunK.rt (by assumption) rfl ?_
  -- leaf 3
  first
  | (have hof : on = false := by rcases hr with h | h; exact h.2; omega
     have e : holdsE on bs n fp k = readyR on n 0 size := by
       unfold holdsE; rw [if_pos hof]; rcases hr with h | h; omega; omega
     exact ⟨(), congrArg (Value.int .i64) e.symm, F, trivial⟩)
  | (have e : holdsE on bs n fp k = 101 := by
       unfold holdsE; rw [if_neg (by rw [hon1]; decide), if_pos (by omega)]
     exact ⟨(), congrArg (Value.int .i64) e.symm, F, trivial⟩)
  | (have e : holdsE on bs n fp k = 0 := by
       unfold holdsE; rw [if_neg (by rw [hon1]; decide), if_neg (by omega)]
     exact ⟨(), congrArg (Value.int .i64) e.symm, F, trivial⟩)
def peekR (on : Bool) (bs : List Int) (n : Nat) (fp i : Int) : Int := if holdsE on bs n fp (i + 1) = 0 then at4 bs (n - 4 - 4 * i) else 0
theorem holdsE_ok {on : Bool} {bs : List Int} {n : Nat} {fp k : Int} (h : holdsE on bs n fp k = 0) : on = true ∧ k ≤ (n - (fp + at4 bs fp)) / 4 := by
  unfold holdsE at h
  split at h
  · cases h
  · rename_i h1
    have h1 : on = true := by simpa using h1
    subst h1
    split at h
    · cases h
    · rename_i h2; exact ⟨rfl, by have : countR true bs n fp = (n - (fp + at4 bs fp)) / 4 := rfl; omega⟩
theorem peek_call {σ : AState} {m n c : Nat} {a : Option Addr} {size fp i : Int} {on : Bool} {bs : List Int} (hc : OldC E0 σ m (sC a n c size fp on)) (hl : Old E0 σ a n c 1 (u8l bs)) (hB : Bytes bs) (hn : n ≤ 1000000) (hns : n ≤ size) (hf : 0 ≤ fp ∧ fp ≤ 4294967295) (hon : on = true → fp + at4 bs fp ≤ n) (hi : U32 i) :
    SCall Try.prog E0 28 [.pointer (some ⟨m, 0, none⟩), .int .u32 i] σ (Ret E0 σ (fun (_ : Unit) => .tuple #[.int .u32 (peekR on bs n fp i), .int .i64 (holdsE on bs n fp (i + 1))]) (fun _ => []) fun _ => True) := by
  have hbl := hl.len8
  obtain ⟨i0, i1⟩ := hi
  have hb := at4_bd hB fp
  refine k_fun Try.func28 rfl (m := 32) rfl fun B hD Q K => ?_
  have F := Facts.nil E0 σ
  refine k_seq (fun Q K => ?_)
  refine k_lin (fun W K => ?_)
  refine l_op 0 rfl rfl rfl rfl rfl ?_
  refine l_op 0 rfl rfl rfl rfl rfl ?_
  refine l_nil (WK.nx (by assumption) ?_)
  refine SeqK.nx (by assumption) ?_
  refine k_seq (fun Q K => ?_)
  refine k_seq (fun Q K => ?_)
  refine k_lin (fun W K => ?_)
  refine l_op 0 rfl rfl rfl rfl rfl ?_
  refine l_op 0 rfl rfl rfl rfl rfl ?_
  (first | refine l_c64 rfl rfl rfl (by omega) rfl ?_ | refine l_c32 rfl rfl rfl (by omega) rfl ?_ | refine l_c8 rfl rfl rfl (by omega) rfl ?_ | refine l_cu64 rfl rfl rfl (by omega) rfl ?_ | refine l_str rfl rfl rfl rfl rfl (F.old (by assumption)) ?_ | refine l_str rfl rfl rfl rfl rfl (F.has 0 rfl) ?_ | refine l_str rfl rfl rfl rfl rfl (F.has 1 rfl) ?_ | refine l_str rfl rfl rfl rfl rfl (F.has 2 rfl) ?_ | refine l_op 16 rfl rfl rfl rfl rfl ?_)
  (first | refine l_a64 rfl rfl rfl (by omega) rfl ?_ | refine l_a32 rfl rfl rfl (by omega) rfl ?_ | refine l_a8 rfl rfl rfl (by omega) rfl ?_ | refine l_au64 rfl rfl rfl (by omega) rfl ?_ | refine l_op 1 rfl rfl rfl rfl rfl ?_)
  refine l_callp F rfl rfl (by kernel_rfl) rfl rfl (holds_call (k := i + 1) (F.oldc0 hc) (Old.pure (F.old hl)) hB (by omega) hns hf hon (by omega)) (fun _ s F _ => ?_)
  (try dsimp only [n_1, n_2, n_3, n_4, List.append_nil, pk, n_5, n_6] at F)
  refine l_op 0 rfl rfl rfl rfl rfl ?_
  refine l_nil (WK.nx (by assumption) ?_)
  refine SeqK.nx (by assumption) ?_
  refine k_seq (fun Q K => ?_)
  refine k_lin (fun W K => ?_)
  refine l_op 0 rfl rfl rfl rfl rfl ?_
  refine l_cmp rfl rfl rfl rfl ?_
  refine l_nil (WK.nx (by assumption) ?_)
  refine SeqK.nx (by assumption) ?_
  refine l_cond rfl rfl (fun hc1 => ?_) (fun hc1 => ?_)
  · first | replace hc1 := bne_iff_ne.1 ((irr_eq _).symm.trans hc1) | simp only [irr_eq, bne_iff_ne, bne_eq_false_iff_eq, ne_eq, decide_eq_true_eq, decide_eq_false_iff_not, Bool.not_eq_true', Bool.not_eq_false'] at hc1
    refine k_seq (fun Q K => ?_)
    refine k_lin (fun W K => ?_)
    refine l_op 0 rfl rfl rfl rfl rfl ?_
    refine l_op 0 rfl rfl rfl rfl rfl ?_
    refine l_op 0 rfl rfl rfl rfl rfl ?_
    refine l_nil (WK.nx (by assumption) ?_)
    refine SeqK.nx (by assumption) ?_
    refine k_ret ?_
    refine SeqK.rt (by assumption) ?_
    refine FunK.rt (by assumption) rfl ?_
    -- leaf 1
    first
    | (have e : peekR on bs n fp i = 0 := if_neg (by assumption)
       rw [e]
       exact ⟨(), rfl, F, trivial⟩)
    | (have he : holdsE on bs n fp (i + 1) = 0 := by omega
       have e : peekR on bs n fp i = at4 bs (n - 4 - 4 * i) := if_pos he
       have e2 : (beR bs (n - 4 - 4 * i) 4).2 = 0 := by
         unfold beR; rw [if_neg (by omega), if_neg (by omega)]
       rw [e, he]
       exact ⟨(), by rw [← e2]; rfl, F, trivial⟩)
  first | replace hc1 := bne_eq_false_iff_eq.1 ((irr_eq _).symm.trans hc1) | simp only [irr_eq, bne_iff_ne, bne_eq_false_iff_eq, ne_eq, decide_eq_true_eq, decide_eq_false_iff_not, Bool.not_eq_true', Bool.not_eq_false'] at hc1
  obtain ⟨hon1, hcnt⟩ := holdsE_ok (on := on) (bs := bs) (n := n) (fp := fp) (k := i + 1) (by omega)
  refine k_skip ?_
  refine SeqK.nx (by assumption) ?_
  refine k_seq (fun Q K => ?_)
  refine k_linm [0, 1, 2, 4, 5, 6, 10, 3, 7, 8, 9, 11, 12, 13, 14, 15, 16, 17, 18] mixed (by kernel_rfl) (fun W K => ?_)
  try have hpS := F.pns
  refine l_op 0 rfl rfl rfl rfl rfl ?_
  refine l_op 2 rfl rfl rfl rfl rfl ?_
  refine l_op 2 rfl rfl rfl rfl rfl ?_
  refine l_op 0 rfl rfl rfl rfl rfl ?_
  refine l_op 2 rfl rfl rfl rfl rfl ?_
  refine l_op 2 rfl rfl rfl rfl rfl ?_
  refine l_op 0 rfl rfl rfl rfl rfl ?_
  (first | refine l_ld0 rfl rfl rfl rfl rfl (by assumption) ?_ | refine l_ldj rfl rfl rfl rfl rfl rfl (by assumption) rfl ?_ | refine l_ldc F 0 rfl rfl rfl rfl rfl rfl rfl ?_ | refine l_ldc F 1 rfl rfl rfl rfl rfl rfl rfl ?_ | refine l_ldc F 2 rfl rfl rfl rfl rfl rfl rfl ?_ | refine l_ldc F 3 rfl rfl rfl rfl rfl rfl rfl ?_ | refine l_ldc F 4 rfl rfl rfl rfl rfl rfl rfl ?_ | refine l_ldc F 5 rfl rfl rfl rfl rfl rfl rfl ?_ | refine l_ldc F 6 rfl rfl rfl rfl rfl rfl rfl ?_ | refine l_ldc F 7 rfl rfl rfl rfl rfl rfl rfl ?_ | refine l_ldc F 8 rfl rfl rfl rfl rfl rfl rfl ?_ | refine l_ldc F 9 rfl rfl rfl rfl rfl rfl rfl ?_ | refine l_lda rfl rfl rfl rfl rfl (by assumption) ?_ | refine l_ldca F 0 rfl rfl rfl rfl rfl rfl rfl ?_ | refine l_ldca F 1 rfl rfl rfl rfl rfl rfl rfl ?_ | refine l_ldca F 2 rfl rfl rfl rfl rfl rfl rfl ?_ | refine l_ldca F 3 rfl rfl rfl rfl rfl rfl rfl ?_ | refine l_ldca F 4 rfl rfl rfl rfl rfl rfl rfl ?_ | refine l_ldca F 5 rfl rfl rfl rfl rfl rfl rfl ?_ | refine l_ldca F 6 rfl rfl rfl rfl rfl rfl rfl ?_ | refine l_ldca F 7 rfl rfl rfl rfl rfl rfl rfl ?_ | refine l_ldca F 8 rfl rfl rfl rfl rfl rfl rfl ?_ | refine l_ldca F 9 rfl rfl rfl rfl rfl rfl rfl ?_ | refine l_ldo F (by assumption) rfl rfl rfl rfl rfl rfl ?_ | refine l_ldoa F (by assumption) rfl rfl rfl rfl rfl rfl ?_)
  first | have hpS := PnS.add hpS hS16 | have hpS := PnS.add hpS (OldC.sf (by assumption)) | skip
  (first | refine l_ld0 rfl rfl rfl rfl rfl (by assumption) ?_ | refine l_ldj rfl rfl rfl rfl rfl rfl (by assumption) rfl ?_ | refine l_ldc F 0 rfl rfl rfl rfl rfl rfl rfl ?_ | refine l_ldc F 1 rfl rfl rfl rfl rfl rfl rfl ?_ | refine l_ldc F 2 rfl rfl rfl rfl rfl rfl rfl ?_ | refine l_ldc F 3 rfl rfl rfl rfl rfl rfl rfl ?_ | refine l_ldc F 4 rfl rfl rfl rfl rfl rfl rfl ?_ | refine l_ldc F 5 rfl rfl rfl rfl rfl rfl rfl ?_ | refine l_ldc F 6 rfl rfl rfl rfl rfl rfl rfl ?_ | refine l_ldc F 7 rfl rfl rfl rfl rfl rfl rfl ?_ | refine l_ldc F 8 rfl rfl rfl rfl rfl rfl rfl ?_ | refine l_ldc F 9 rfl rfl rfl rfl rfl rfl rfl ?_ | refine l_lda rfl rfl rfl rfl rfl (by assumption) ?_ | refine l_ldca F 0 rfl rfl rfl rfl rfl rfl rfl ?_ | refine l_ldca F 1 rfl rfl rfl rfl rfl rfl rfl ?_ | refine l_ldca F 2 rfl rfl rfl rfl rfl rfl rfl ?_ | refine l_ldca F 3 rfl rfl rfl rfl rfl rfl rfl ?_ | refine l_ldca F 4 rfl rfl rfl rfl rfl rfl rfl ?_ | refine l_ldca F 5 rfl rfl rfl rfl rfl rfl rfl ?_ | refine l_ldca F 6 rfl rfl rfl rfl rfl rfl rfl ?_ | refine l_ldca F 7 rfl rfl rfl rfl rfl rfl rfl ?_ | refine l_ldca F 8 rfl rfl rfl rfl rfl rfl rfl ?_ | refine l_ldca F 9 rfl rfl rfl rfl rfl rfl rfl ?_ | refine l_ldo F (by assumption) rfl rfl rfl rfl rfl rfl ?_ | refine l_ldoa F (by assumption) rfl rfl rfl rfl rfl rfl ?_)
  first | have hpS := PnS.add hpS hS20 | have hpS := PnS.add hpS (OldC.sf (by assumption)) | skip
  first | refine l_op 2 rfl rfl rfl rfl rfl ?_ | refine l_ln rfl rfl rfl rfl ?_
  (first | refine l_a64 rfl rfl rfl (by omega) rfl ?_ | refine l_a32 rfl rfl rfl (by omega) rfl ?_ | refine l_a8 rfl rfl rfl (by omega) rfl ?_ | refine l_au64 rfl rfl rfl (by omega) rfl ?_ | refine l_op 1 rfl rfl rfl rfl rfl ?_)
  (first | refine l_c64 rfl rfl rfl (by omega) rfl ?_ | refine l_c32 rfl rfl rfl (by omega) rfl ?_ | refine l_c8 rfl rfl rfl (by omega) rfl ?_ | refine l_cu64 rfl rfl rfl (by omega) rfl ?_ | refine l_str rfl rfl rfl rfl rfl (F.old (by assumption)) ?_ | refine l_str rfl rfl rfl rfl rfl (F.has 0 rfl) ?_ | refine l_str rfl rfl rfl rfl rfl (F.has 1 rfl) ?_ | refine l_str rfl rfl rfl rfl rfl (F.has 2 rfl) ?_ | refine l_op 16 rfl rfl rfl rfl rfl ?_)
  (first | refine l_a64 rfl rfl rfl (by omega) rfl ?_ | refine l_a32 rfl rfl rfl (by omega) rfl ?_ | refine l_a8 rfl rfl rfl (by omega) rfl ?_ | refine l_au64 rfl rfl rfl (by omega) rfl ?_ | refine l_op 1 rfl rfl rfl rfl rfl ?_)
  (first | refine l_a64 rfl rfl rfl (by omega) rfl ?_ | refine l_a32 rfl rfl rfl (by omega) rfl ?_ | refine l_a8 rfl rfl rfl (by omega) rfl ?_ | refine l_au64 rfl rfl rfl (by omega) rfl ?_ | refine l_op 1 rfl rfl rfl rfl rfl ?_)
  refine l_callp F rfl rfl (by kernel_rfl) rfl rfl (wbe_call (at_ := n - 4 - 4 * i) (n := 4) (Old.pure (F.old hl)) hB (by omega)) (fun _ s F _ => ?_)
  (try dsimp only [n_1, n_2, n_3, n_4, List.append_nil, pk, n_5, n_6] at F)
  refine l_op 2 rfl rfl rfl rfl rfl ?_
  refine l_op 2 rfl rfl rfl rfl rfl ?_
  refine l_op 0 rfl rfl rfl rfl rfl ?_
  refine l_op 0 rfl rfl rfl rfl rfl ?_
  refine l_nil (WK.nx (by assumption) ?_)
  refine SeqK.nx (by assumption) ?_
  refine k_ret ?_
  refine FunK.rt (by assumption) rfl ?_
  -- leaf 2
  first
  | (have e : peekR on bs n fp i = 0 := if_neg (by assumption)
     rw [e]
     exact ⟨(), rfl, F, trivial⟩)
  | (have he : holdsE on bs n fp (i + 1) = 0 := by omega
     have e : peekR on bs n fp i = at4 bs (n - 4 - 4 * i) := if_pos he
     have e2 : (beR bs (n - 4 - 4 * i) 4).2 = 0 := by
       unfold beR; rw [if_neg (by omega), if_neg (by omega)]
     rw [e, he]
     exact ⟨(), by rw [← e2]; rfl, F, trivial⟩)

/-- How far a roll goes. -/
def rollN (cnt k : Int) : Int := if (si k).tmod cnt < 0 then (si k).tmod cnt + cnt else (si k).tmod cnt
theorem rollN_bd {cnt k : Int} (h : 0 < cnt) : 0 ≤ rollN cnt k ∧ rollN cnt k < cnt := by
  have h1 := Int.tmod_lt_of_pos (si k) h
  have h2 := Int.lt_tmod_of_pos (si k) h
  unfold rollN
  split <;> omega
theorem roll_splice {bs : List Int} {lo l4 n : Nat} (hn : bs.length = n) (h1 : lo + l4 ≤ n) :
    splice (splice (u8l bs) (lo + l4) (u8l ((bs.drop lo).take (n - lo - l4)))) lo (u8l ((bs.drop lo).drop (n - lo - l4))) = u8l (bs.take lo ++ (bs.drop (n - l4) ++ (bs.drop lo).take (n - lo - l4))) := by
  have e1 : splice (u8l ((bs.take lo ++ (bs.drop lo).take l4) ++ ((bs.drop lo).drop l4 ++ []))) (bs.take lo ++ (bs.drop lo).take l4).length (u8l ((bs.drop lo).take (n - lo - l4))) = u8l ((bs.take lo ++ (bs.drop lo).take l4) ++ ((bs.drop lo).take (n - lo - l4) ++ [])) :=
    splice_mid (by simp only [List.length_take, List.length_drop]; omega)
  have e2 : splice (u8l (bs.take lo ++ ((bs.drop lo).take l4 ++ (bs.drop lo).take (n - lo - l4)))) (bs.take lo).length (u8l ((bs.drop lo).drop (n - lo - l4))) = u8l (bs.take lo ++ ((bs.drop lo).drop (n - lo - l4) ++ (bs.drop lo).take (n - lo - l4))) :=
    splice_mid (by simp only [List.length_take, List.length_drop]; omega)
  have e3 : (bs.take lo ++ (bs.drop lo).take l4) ++ ((bs.drop lo).drop l4 ++ []) = bs := by
    rw [List.append_nil, List.append_assoc, List.take_append_drop, List.take_append_drop]
  have e4 : (bs.take lo ++ (bs.drop lo).take l4).length = lo + l4 := by simp only [List.length_append, List.length_take, List.length_drop]; omega
  have e5 : (bs.take lo).length = lo := by rw [List.length_take]; omega
  rw [e3, e4] at e1
  rw [e5] at e2
  rw [e1, List.append_nil, List.append_assoc, e2, List.drop_drop, show lo + (n - lo - l4) = n - l4 by omega]
/-- The bytes behind a roll. -/
def rollB (bs : List Int) (n : Nat) (cnt by_ : Int) : List Int :=
  bs.take (n - 4 * cnt).toNat ++ (bs.drop (n - 4 * by_).toNat ++ (bs.drop (n - 4 * cnt).toNat).take (4 * cnt - 4 * by_).toNat)
def rollA (on : Bool) (bs : List Int) (n : Nat) (fp cnt k : Int) : List Int := if holdsE on bs n fp cnt = 0 ∧ cnt ≠ 0 then rollB bs n cnt (rollN cnt k) else bs
theorem roll_call {O : Nat → Prop} {σ : AState} {m n c : Nat} {a : Option Addr} {size fp cnt k : Int} {on : Bool} {bs : List Int} (F : Facts O σ σ [cel m (sC a n c size fp on), own a n c 1 (u8l bs)]) (hB : Bytes bs) (hn : n ≤ 1000000) (hns : n ≤ size) (hf : 0 ≤ fp ∧ fp ≤ 4294967295) (hon : on = true → fp + at4 bs fp ≤ n) (hcnt : U32 cnt) (hk : U32 k) :
    SCall Try.prog O 27 [.pointer (some ⟨m, 0, none⟩), .int .u32 cnt, .int .u32 k] σ (Ret O σ (fun (_ : Unit) => .int .i64 (holdsE on bs n fp cnt)) (fun _ => [cel m (sC a n c size fp on), own a n c 1 (u8l (rollA on bs n fp cnt k))]) fun _ => True) := by
  have hbl := F.len8 1 rfl
  obtain ⟨c0, c1⟩ := hcnt
  obtain ⟨k0, k1⟩ := hk
  have hsi := si_bd (k := k) ⟨k0, k1⟩
  have hb := at4_bd hB fp
  have hw : IntKind.i32.wrap k = si k := by
    have e : k % 2 ^ IntKind.i32.bits = k := Int.emod_eq_of_lt k0 (by show k < 4294967296; omega)
    unfold si IntKind.wrap
    simp only [e]
    by_cases h : k ≥ 2147483648
    · rw [if_pos (by simpa [IntKind.signed, IntKind.bits] using h), if_pos h]; rfl
    · rw [if_neg (by simpa [IntKind.signed, IntKind.bits] using h), if_neg h]
  refine k_fun Try.func27 rfl (m := 65) rfl fun B hD Q K => ?_
  refine k_seq (fun Q K => ?_)
  refine k_lin (fun W K => ?_)
  refine l_op 0 rfl rfl rfl rfl rfl ?_
  refine l_nil (WK.nx (by assumption) ?_)
  refine SeqK.nx (by assumption) ?_
  refine k_seq (fun Q K => ?_)
  refine k_seq (fun Q K => ?_)
  refine k_lin (fun W K => ?_)
  refine l_op 0 rfl rfl rfl rfl rfl ?_
  refine l_op 0 rfl rfl rfl rfl rfl ?_
  (first | refine l_c64 rfl rfl rfl (by omega) rfl ?_ | refine l_c32 rfl rfl rfl (by omega) rfl ?_ | refine l_c8 rfl rfl rfl (by omega) rfl ?_ | refine l_cu64 rfl rfl rfl (by omega) rfl ?_ | refine l_str rfl rfl rfl rfl rfl (F.old (by assumption)) ?_ | refine l_str rfl rfl rfl rfl rfl (F.has 0 rfl) ?_ | refine l_str rfl rfl rfl rfl rfl (F.has 1 rfl) ?_ | refine l_str rfl rfl rfl rfl rfl (F.has 2 rfl) ?_ | refine l_op 16 rfl rfl rfl rfl rfl ?_)
  refine l_callp F rfl rfl (by kernel_rfl) rfl rfl (holds_call (k := cnt) (F.cel0 0 rfl) (Old.pure (F.has 1 rfl)) hB (by omega) hns hf hon (by omega)) (fun _ s F _ => ?_)
  (try dsimp only [n_1, n_2, n_3, n_4, List.append_nil, pk, n_5, n_6] at F)
  refine l_op 0 rfl rfl rfl rfl rfl ?_
  refine l_nil (WK.nx (by assumption) ?_)
  refine SeqK.nx (by assumption) ?_
  refine k_seq (fun Q K => ?_)
  refine k_lin (fun W K => ?_)
  refine l_op 0 rfl rfl rfl rfl rfl ?_
  refine l_cmp rfl rfl rfl rfl ?_
  refine l_op 0 rfl rfl rfl rfl rfl ?_
  refine l_guard rfl rfl rfl (fun hc1 => ?_) (fun hc1 => ?_)
  · first | replace hc1 := bne_iff_ne.1 ((irr_eq _).symm.trans hc1) | simp only [irr_eq, bne_iff_ne, bne_eq_false_iff_eq, ne_eq, decide_eq_true_eq, decide_eq_false_iff_not, Bool.not_eq_true', Bool.not_eq_false'] at hc1
    refine l_s rfl rfl ?_
    refine l_s rfl rfl ?_
    refine l_op 2 rfl rfl rfl rfl rfl ?_
    refine l_nil (WK.nx (by assumption) ?_)
    refine SeqK.nx (by assumption) ?_
    first | refine e_cond_t rfl rfl rfl ?_ | refine e_cond_t rfl rfl (by rw [irr_eq]; first | exact beq_iff_eq.2 (by assumption) | exact decide_eq_true (by assumption) | exact bne_iff_ne.2 (by assumption)) ?_
    refine k_seq (fun Q K => ?_)
    refine k_lin (fun W K => ?_)
    refine l_op 0 rfl rfl rfl rfl rfl ?_
    refine l_op 0 rfl rfl rfl rfl rfl ?_
    refine l_nil (WK.nx (by assumption) ?_)
    refine SeqK.nx (by assumption) ?_
    refine k_ret ?_
    refine SeqK.rt (by assumption) ?_
    refine FunK.rt (by assumption) rfl ?_
    -- leaf 1
    first
    | (have e : rollA on bs n fp cnt k = bs := if_neg (by omega)
       exact ⟨(), rfl, by show Facts O σ s [_, own a n c 1 (u8l (rollA on bs n fp cnt k))]; rw [e]; exact F, trivial⟩)
    | (have he : holdsE on bs n fp cnt = 0 := by omega
       have e : rollA on bs n fp cnt k = rollB bs n cnt by_ := by unfold rollA; rw [if_pos ⟨he, by omega⟩, hby]
       have f1 : min (n - lo) (n - lo - l4) * 1 = n - lo - l4 := by omega
       have f2 : min (n - lo - (n - lo - l4)) (n - lo) * 1 = l4 := by omega
       have f3 : (u8l ((bs.drop lo).drop (n - lo - l4))).take l4 = u8l ((bs.drop lo).drop (n - lo - l4)) := List.take_of_length_le (by rw [List.length_map, List.length_drop, List.length_drop]; omega)
       have f4 : (u8l (bs.drop lo)).take (n - lo - l4) = u8l ((bs.drop lo).take (n - lo - l4)) := List.map_take.symm
       have f5 : rollB bs n cnt by_ = bs.take lo ++ (bs.drop (n - l4) ++ (bs.drop lo).take (n - lo - l4)) := by
         unfold rollB
         rw [hlo, show ((n : Int) - 4 * by_).toNat = n - l4 by omega, show (4 * cnt - 4 * by_).toNat = n - lo - l4 by omega]
       rw [f1, f2, f3, f4, show 0 + lo * 1 + l4 * 1 = lo + l4 by omega, show 0 + lo * 1 = lo by omega, roll_splice hbl (by omega), ← f5, ← e] at F
       exact ⟨(), congrArg (Value.int .i64) he.symm, F.pick [0, 1] (by decide), trivial⟩)
  first | replace hc1 := bne_eq_false_iff_eq.1 ((irr_eq _).symm.trans hc1) | simp only [irr_eq, bne_iff_ne, bne_eq_false_iff_eq, ne_eq, decide_eq_true_eq, decide_eq_false_iff_not, Bool.not_eq_true', Bool.not_eq_false'] at hc1
  refine l_op 0 rfl rfl rfl rfl rfl ?_
  refine l_cmp rfl rfl rfl rfl ?_
  refine l_op 2 rfl rfl rfl rfl rfl ?_
  refine l_nil (WK.nx (by assumption) ?_)
  refine SeqK.nx (by assumption) ?_
  refine l_cond rfl rfl (fun hc2 => ?_) (fun hc2 => ?_)
  · first | replace hc2 := eq_of_beq ((irr_eq _).symm.trans hc2) | simp only [irr_eq, beq_iff_eq, beq_eq_false_iff_ne, ne_eq, decide_eq_true_eq, decide_eq_false_iff_not] at hc2
    refine k_seq (fun Q K => ?_)
    refine k_lin (fun W K => ?_)
    refine l_op 0 rfl rfl rfl rfl rfl ?_
    refine l_op 0 rfl rfl rfl rfl rfl ?_
    refine l_nil (WK.nx (by assumption) ?_)
    refine SeqK.nx (by assumption) ?_
    refine k_ret ?_
    refine SeqK.rt (by assumption) ?_
    refine FunK.rt (by assumption) rfl ?_
    -- leaf 2
    first
    | (have e : rollA on bs n fp cnt k = bs := if_neg (by omega)
       exact ⟨(), rfl, by show Facts O σ s [_, own a n c 1 (u8l (rollA on bs n fp cnt k))]; rw [e]; exact F, trivial⟩)
    | (have he : holdsE on bs n fp cnt = 0 := by omega
       have e : rollA on bs n fp cnt k = rollB bs n cnt by_ := by unfold rollA; rw [if_pos ⟨he, by omega⟩, hby]
       have f1 : min (n - lo) (n - lo - l4) * 1 = n - lo - l4 := by omega
       have f2 : min (n - lo - (n - lo - l4)) (n - lo) * 1 = l4 := by omega
       have f3 : (u8l ((bs.drop lo).drop (n - lo - l4))).take l4 = u8l ((bs.drop lo).drop (n - lo - l4)) := List.take_of_length_le (by rw [List.length_map, List.length_drop, List.length_drop]; omega)
       have f4 : (u8l (bs.drop lo)).take (n - lo - l4) = u8l ((bs.drop lo).take (n - lo - l4)) := List.map_take.symm
       have f5 : rollB bs n cnt by_ = bs.take lo ++ (bs.drop (n - l4) ++ (bs.drop lo).take (n - lo - l4)) := by
         unfold rollB
         rw [hlo, show ((n : Int) - 4 * by_).toNat = n - l4 by omega, show (4 * cnt - 4 * by_).toNat = n - lo - l4 by omega]
       rw [f1, f2, f3, f4, show 0 + lo * 1 + l4 * 1 = lo + l4 by omega, show 0 + lo * 1 = lo by omega, roll_splice hbl (by omega), ← f5, ← e] at F
       exact ⟨(), congrArg (Value.int .i64) he.symm, F.pick [0, 1] (by decide), trivial⟩)
  first | replace hc2 := ne_of_beq_false ((irr_eq _).symm.trans hc2) | simp only [irr_eq, beq_iff_eq, beq_eq_false_iff_ne, ne_eq, decide_eq_true_eq, decide_eq_false_iff_not] at hc2
  obtain ⟨hon1, hle⟩ := holdsE_ok (on := on) (bs := bs) (n := n) (fp := fp) (k := cnt) (by omega)
  have hrb := rollN_bd (cnt := cnt) (k := k) (by omega)
  obtain ⟨m2, e2, rfl⟩ := own_some F 1 rfl (by omega)
  refine k_skip ?_
  refine SeqK.nx (by assumption) ?_
  refine k_seq (fun Q K => ?_)
  refine k_lin (fun W K => ?_)
  refine l_op 0 rfl rfl rfl rfl rfl ?_
  refine l_op 16 rfl rfl rfl rfl rfl ?_
  rw [hw]
  (first | refine l_c64 rfl rfl rfl (by omega) rfl ?_ | refine l_c32 rfl rfl rfl (by omega) rfl ?_ | refine l_c8 rfl rfl rfl (by omega) rfl ?_ | refine l_cu64 rfl rfl rfl (by omega) rfl ?_ | refine l_str rfl rfl rfl rfl rfl (F.old (by assumption)) ?_ | refine l_str rfl rfl rfl rfl rfl (F.has 0 rfl) ?_ | refine l_str rfl rfl rfl rfl rfl (F.has 1 rfl) ?_ | refine l_str rfl rfl rfl rfl rfl (F.has 2 rfl) ?_ | refine l_op 16 rfl rfl rfl rfl rfl ?_)
  refine l_op 0 rfl rfl rfl rfl rfl ?_
  (first | refine l_c64 rfl rfl rfl (by omega) rfl ?_ | refine l_c32 rfl rfl rfl (by omega) rfl ?_ | refine l_c8 rfl rfl rfl (by omega) rfl ?_ | refine l_cu64 rfl rfl rfl (by omega) rfl ?_ | refine l_str rfl rfl rfl rfl rfl (F.old (by assumption)) ?_ | refine l_str rfl rfl rfl rfl rfl (F.has 0 rfl) ?_ | refine l_str rfl rfl rfl rfl rfl (F.has 1 rfl) ?_ | refine l_str rfl rfl rfl rfl rfl (F.has 2 rfl) ?_ | refine l_op 16 rfl rfl rfl rfl rfl ?_)
  first | refine l_remn rfl rfl rfl rfl rfl (by omega) rfl ?_ | refine l_rem rfl rfl rfl rfl rfl (by omega) rfl ?_
  refine l_op 0 rfl rfl rfl rfl rfl ?_
  refine l_nil (WK.nx (by assumption) ?_)
  refine SeqK.nx (by assumption) ?_
  refine k_seq (fun Q K => ?_)
  refine k_seq (fun Q K => ?_)
  refine k_lin (fun W K => ?_)
  refine l_op 0 rfl rfl rfl rfl rfl ?_
  refine l_cmp rfl rfl rfl rfl ?_
  refine l_nil (WK.nx (by assumption) ?_)
  refine SeqK.nx (by assumption) ?_
  refine l_cond rfl rfl (fun hc3 => ?_) (fun hc3 => ?_)
  · replace hc3 := of_decide_eq_true ((irr_eq _).symm.trans hc3)
    have hrn : rollN cnt k = (si k).tmod cnt + cnt := if_pos (by assumption)
    refine k_lin (fun W K => ?_)
    refine l_op 0 rfl rfl rfl rfl rfl ?_
    refine l_op 0 rfl rfl rfl rfl rfl ?_
    (first | refine l_c64 rfl rfl rfl (by omega) rfl ?_ | refine l_c32 rfl rfl rfl (by omega) rfl ?_ | refine l_c8 rfl rfl rfl (by omega) rfl ?_ | refine l_cu64 rfl rfl rfl (by omega) rfl ?_ | refine l_str rfl rfl rfl rfl rfl (F.old (by assumption)) ?_ | refine l_str rfl rfl rfl rfl rfl (F.has 0 rfl) ?_ | refine l_str rfl rfl rfl rfl rfl (F.has 1 rfl) ?_ | refine l_str rfl rfl rfl rfl rfl (F.has 2 rfl) ?_ | refine l_op 16 rfl rfl rfl rfl rfl ?_)
    (first | refine l_a64 rfl rfl rfl (by omega) rfl ?_ | refine l_a32 rfl rfl rfl (by omega) rfl ?_ | refine l_a8 rfl rfl rfl (by omega) rfl ?_ | refine l_au64 rfl rfl rfl (by omega) rfl ?_ | refine l_op 1 rfl rfl rfl rfl rfl ?_)
    refine l_op 0 rfl rfl rfl rfl rfl ?_
    refine l_nil (WK.nx (by assumption) ?_)
    refine SeqK.nx (by assumption) ?_
    refine k_seq (fun Q K => ?_)
    refine k_linm [0, 1, 2, 4, 5, 6, 9, 3, 7, 8, 10, 11, 12, 13, 14] mixed (by kernel_rfl) (fun W K => ?_)
    try have hpS := F.pns
    refine l_op 0 rfl rfl rfl rfl rfl ?_
    refine l_op 2 rfl rfl rfl rfl rfl ?_
    refine l_op 2 rfl rfl rfl rfl rfl ?_
    refine l_op 0 rfl rfl rfl rfl rfl ?_
    refine l_op 2 rfl rfl rfl rfl rfl ?_
    refine l_op 2 rfl rfl rfl rfl rfl ?_
    refine l_op 0 rfl rfl rfl rfl rfl ?_
    rw [← hrn]
    clear hrn
    obtain ⟨by_, hby⟩ : ∃ by_, rollN cnt k = by_ := ⟨_, rfl⟩
    rw [hby] at hrb ⊢
    (first | refine l_ld0 rfl rfl rfl rfl rfl (by assumption) ?_ | refine l_ldj rfl rfl rfl rfl rfl rfl (by assumption) rfl ?_ | refine l_ldc F 0 rfl rfl rfl rfl rfl rfl rfl ?_ | refine l_ldc F 1 rfl rfl rfl rfl rfl rfl rfl ?_ | refine l_ldc F 2 rfl rfl rfl rfl rfl rfl rfl ?_ | refine l_ldc F 3 rfl rfl rfl rfl rfl rfl rfl ?_ | refine l_ldc F 4 rfl rfl rfl rfl rfl rfl rfl ?_ | refine l_ldc F 5 rfl rfl rfl rfl rfl rfl rfl ?_ | refine l_ldc F 6 rfl rfl rfl rfl rfl rfl rfl ?_ | refine l_ldc F 7 rfl rfl rfl rfl rfl rfl rfl ?_ | refine l_ldc F 8 rfl rfl rfl rfl rfl rfl rfl ?_ | refine l_ldc F 9 rfl rfl rfl rfl rfl rfl rfl ?_ | refine l_lda rfl rfl rfl rfl rfl (by assumption) ?_ | refine l_ldca F 0 rfl rfl rfl rfl rfl rfl rfl ?_ | refine l_ldca F 1 rfl rfl rfl rfl rfl rfl rfl ?_ | refine l_ldca F 2 rfl rfl rfl rfl rfl rfl rfl ?_ | refine l_ldca F 3 rfl rfl rfl rfl rfl rfl rfl ?_ | refine l_ldca F 4 rfl rfl rfl rfl rfl rfl rfl ?_ | refine l_ldca F 5 rfl rfl rfl rfl rfl rfl rfl ?_ | refine l_ldca F 6 rfl rfl rfl rfl rfl rfl rfl ?_ | refine l_ldca F 7 rfl rfl rfl rfl rfl rfl rfl ?_ | refine l_ldca F 8 rfl rfl rfl rfl rfl rfl rfl ?_ | refine l_ldca F 9 rfl rfl rfl rfl rfl rfl rfl ?_ | refine l_ldo F (by assumption) rfl rfl rfl rfl rfl rfl ?_ | refine l_ldoa F (by assumption) rfl rfl rfl rfl rfl rfl ?_)
    (first | refine l_ld0 rfl rfl rfl rfl rfl (by assumption) ?_ | refine l_ldj rfl rfl rfl rfl rfl rfl (by assumption) rfl ?_ | refine l_ldc F 0 rfl rfl rfl rfl rfl rfl rfl ?_ | refine l_ldc F 1 rfl rfl rfl rfl rfl rfl rfl ?_ | refine l_ldc F 2 rfl rfl rfl rfl rfl rfl rfl ?_ | refine l_ldc F 3 rfl rfl rfl rfl rfl rfl rfl ?_ | refine l_ldc F 4 rfl rfl rfl rfl rfl rfl rfl ?_ | refine l_ldc F 5 rfl rfl rfl rfl rfl rfl rfl ?_ | refine l_ldc F 6 rfl rfl rfl rfl rfl rfl rfl ?_ | refine l_ldc F 7 rfl rfl rfl rfl rfl rfl rfl ?_ | refine l_ldc F 8 rfl rfl rfl rfl rfl rfl rfl ?_ | refine l_ldc F 9 rfl rfl rfl rfl rfl rfl rfl ?_ | refine l_lda rfl rfl rfl rfl rfl (by assumption) ?_ | refine l_ldca F 0 rfl rfl rfl rfl rfl rfl rfl ?_ | refine l_ldca F 1 rfl rfl rfl rfl rfl rfl rfl ?_ | refine l_ldca F 2 rfl rfl rfl rfl rfl rfl rfl ?_ | refine l_ldca F 3 rfl rfl rfl rfl rfl rfl rfl ?_ | refine l_ldca F 4 rfl rfl rfl rfl rfl rfl rfl ?_ | refine l_ldca F 5 rfl rfl rfl rfl rfl rfl rfl ?_ | refine l_ldca F 6 rfl rfl rfl rfl rfl rfl rfl ?_ | refine l_ldca F 7 rfl rfl rfl rfl rfl rfl rfl ?_ | refine l_ldca F 8 rfl rfl rfl rfl rfl rfl rfl ?_ | refine l_ldca F 9 rfl rfl rfl rfl rfl rfl rfl ?_ | refine l_ldo F (by assumption) rfl rfl rfl rfl rfl rfl ?_ | refine l_ldoa F (by assumption) rfl rfl rfl rfl rfl rfl ?_)
    first | have hpS := PnS.add hpS hS39 | have hpS := PnS.add hpS (OldC.sf (by assumption)) | skip
    first | refine l_op 2 rfl rfl rfl rfl rfl ?_ | refine l_ln rfl rfl rfl rfl ?_
    (first | refine l_c64 rfl rfl rfl (by omega) rfl ?_ | refine l_c32 rfl rfl rfl (by omega) rfl ?_ | refine l_c8 rfl rfl rfl (by omega) rfl ?_ | refine l_cu64 rfl rfl rfl (by omega) rfl ?_ | refine l_str rfl rfl rfl rfl rfl (F.old (by assumption)) ?_ | refine l_str rfl rfl rfl rfl rfl (F.has 0 rfl) ?_ | refine l_str rfl rfl rfl rfl rfl (F.has 1 rfl) ?_ | refine l_str rfl rfl rfl rfl rfl (F.has 2 rfl) ?_ | refine l_op 16 rfl rfl rfl rfl rfl ?_)
    (first | refine l_a64 rfl rfl rfl (by omega) rfl ?_ | refine l_a32 rfl rfl rfl (by omega) rfl ?_ | refine l_a8 rfl rfl rfl (by omega) rfl ?_ | refine l_au64 rfl rfl rfl (by omega) rfl ?_ | refine l_op 1 rfl rfl rfl rfl rfl ?_)
    (first | refine l_a64 rfl rfl rfl (by omega) rfl ?_ | refine l_a32 rfl rfl rfl (by omega) rfl ?_ | refine l_a8 rfl rfl rfl (by omega) rfl ?_ | refine l_au64 rfl rfl rfl (by omega) rfl ?_ | refine l_op 1 rfl rfl rfl rfl rfl ?_)
    refine l_sl (es := 1) rfl rfl rfl rfl rfl rfl rfl rfl rfl (F.has 1 rfl) (by omega) ?_
    refine l_op 0 rfl rfl rfl rfl rfl ?_
    refine l_nil (WK.nx (by assumption) ?_)
    refine SeqK.nx (by assumption) ?_
    refine k_seq (fun Q K => ?_)
    refine k_lin (fun W K => ?_)
    refine l_op 0 rfl rfl rfl rfl rfl ?_
    obtain ⟨lo, hlo⟩ : ∃ lo, (↑n - 4 * cnt).toNat = lo := ⟨_, rfl⟩
    rw [hlo]
    have hW := (F.has 1 rfl).part (lo := lo) (hi := n) (by omega) (Nat.le_refl _)
    have e0 : ((u8l bs).drop (lo * 1)).take ((n - lo) * 1) = u8l (bs.drop lo) := by
      rw [Nat.mul_one, Nat.mul_one, ← List.map_drop, List.take_of_length_le (by rw [List.length_map, List.length_drop]; omega)]
    rw [e0] at hW
    refine l_callp F rfl rfl (by kernel_rfl) rfl rfl (clone_call (xs := bs.drop lo) (Old.pure hW) (by omega)) (fun y s F _ => ?_)
    (try dsimp only [n_1, n_2, n_3, n_4, List.append_nil, pk, n_5, n_6] at F)
    refine l_op 0 rfl rfl rfl rfl rfl ?_
    refine l_nil (WK.nx (by assumption) ?_)
    refine SeqK.nx (by assumption) ?_
    refine k_seq (fun Q K => ?_)
    refine k_lin (fun W K => ?_)
    refine l_op 0 rfl rfl rfl rfl rfl ?_
    refine l_op 0 rfl rfl rfl rfl rfl ?_
    (first | refine l_a64 rfl rfl rfl (by omega) rfl ?_ | refine l_a32 rfl rfl rfl (by omega) rfl ?_ | refine l_a8 rfl rfl rfl (by omega) rfl ?_ | refine l_au64 rfl rfl rfl (by omega) rfl ?_ | refine l_op 1 rfl rfl rfl rfl rfl ?_)
    obtain ⟨l4, hl4⟩ : ∃ l4, (4 * by_).toNat = l4 := ⟨_, rfl⟩
    have hW2 := (F.has 1 rfl).part (lo := lo) (hi := n) (by omega) (Nat.le_refl _)
    refine l_sl (es := 1) (l := l4) rfl rfl rfl rfl rfl rfl rfl hl4 rfl hW2 (by omega) ?_
    refine l_op 0 rfl rfl rfl rfl rfl ?_
    refine l_cpo (es := 1) (j := 0 + lo * 1 + l4 * 1) F 1 rfl rfl rfl rfl rfl rfl rfl (F.has 2 rfl) (by rw [List.all_eq_true]; exact fun v hv => List.all_eq_true.1 (ints_one _) v (List.mem_of_mem_take hv)) (by omega) hD (fun s F => ?_)
    (try dsimp only [n_1, n_2, n_3, n_4, List.append_nil, pk, n_5, n_6] at F)
    refine l_nil (WK.nx (by assumption) ?_)
    refine SeqK.nx (by assumption) ?_
    refine k_seq (fun Q K => ?_)
    refine k_lin (fun W K => ?_)
    refine l_op 0 rfl rfl rfl rfl rfl ?_
    refine l_op 0 rfl rfl rfl rfl rfl ?_
    refine l_op 0 rfl rfl rfl rfl rfl ?_
    first | refine l_op 2 rfl rfl rfl rfl rfl ?_ | refine l_ln rfl rfl rfl rfl ?_
    refine l_op 0 rfl rfl rfl rfl rfl ?_
    (first | refine l_a64 rfl rfl rfl (by omega) rfl ?_ | refine l_a32 rfl rfl rfl (by omega) rfl ?_ | refine l_a8 rfl rfl rfl (by omega) rfl ?_ | refine l_au64 rfl rfl rfl (by omega) rfl ?_ | refine l_op 1 rfl rfl rfl rfl rfl ?_)
    (first | refine l_a64 rfl rfl rfl (by omega) rfl ?_ | refine l_a32 rfl rfl rfl (by omega) rfl ?_ | refine l_a8 rfl rfl rfl (by omega) rfl ?_ | refine l_au64 rfl rfl rfl (by omega) rfl ?_ | refine l_op 1 rfl rfl rfl rfl rfl ?_)
    refine l_sl (es := 1) (l := n - lo - l4) rfl rfl rfl rfl rfl rfl rfl (by omega) rfl (F.has 2 rfl) (by omega) ?_
    have hW3 := (F.has 2 rfl).part (lo := n - lo - l4) (hi := n - lo) (by omega) (Nat.le_refl _)
    have e9 : ((u8l (bs.drop lo)).drop ((n - lo - l4) * 1)).take ((n - lo - (n - lo - l4)) * 1) = u8l ((bs.drop lo).drop (n - lo - l4)) := by
      rw [Nat.mul_one, Nat.mul_one, ← List.map_drop, List.take_of_length_le (by rw [List.length_map, List.length_drop, List.length_drop]; omega)]
    rw [e9] at hW3
    refine l_cpo (es := 1) (j := 0 + lo * 1) F 1 rfl rfl rfl rfl rfl rfl rfl hW3 (by rw [List.all_eq_true]; exact fun v hv => List.all_eq_true.1 (ints_one _) v (List.mem_of_mem_take hv)) (by omega) hD (fun s F => ?_)
    (try dsimp only [n_1, n_2, n_3, n_4, List.append_nil, pk, n_5, n_6] at F)
    refine l_nil (WK.nx (by assumption) ?_)
    refine SeqK.nx (by assumption) ?_
    refine k_seq (fun Q K => ?_)
    refine k_lin (fun W K => ?_)
    refine l_op 0 rfl rfl rfl rfl rfl ?_
    refine l_nil (WK.nx (by assumption) ?_)
    refine SeqK.nx (by assumption) ?_
    refine k_ret ?_
    refine FunK.rt (by assumption) rfl ?_
    -- leaf 3
    first
    | (have e : rollA on bs n fp cnt k = bs := if_neg (by omega)
       exact ⟨(), rfl, by show Facts O σ s [_, own a n c 1 (u8l (rollA on bs n fp cnt k))]; rw [e]; exact F, trivial⟩)
    | (have he : holdsE on bs n fp cnt = 0 := by omega
       have e : rollA on bs n fp cnt k = rollB bs n cnt by_ := by unfold rollA; rw [if_pos ⟨he, by omega⟩, hby]
       have f1 : min (n - lo) (n - lo - l4) * 1 = n - lo - l4 := by omega
       have f2 : min (n - lo - (n - lo - l4)) (n - lo) * 1 = l4 := by omega
       have f3 : (u8l ((bs.drop lo).drop (n - lo - l4))).take l4 = u8l ((bs.drop lo).drop (n - lo - l4)) := List.take_of_length_le (by rw [List.length_map, List.length_drop, List.length_drop]; omega)
       have f4 : (u8l (bs.drop lo)).take (n - lo - l4) = u8l ((bs.drop lo).take (n - lo - l4)) := List.map_take.symm
       have f5 : rollB bs n cnt by_ = bs.take lo ++ (bs.drop (n - l4) ++ (bs.drop lo).take (n - lo - l4)) := by
         unfold rollB
         rw [hlo, show ((n : Int) - 4 * by_).toNat = n - l4 by omega, show (4 * cnt - 4 * by_).toNat = n - lo - l4 by omega]
       rw [f1, f2, f3, f4, show 0 + lo * 1 + l4 * 1 = lo + l4 by omega, show 0 + lo * 1 = lo by omega, roll_splice hbl (by omega), ← f5, ← e] at F
       exact ⟨(), congrArg (Value.int .i64) he.symm, F.pick [0, 1] (by decide), trivial⟩)
  replace hc3 := of_decide_eq_false ((irr_eq _).symm.trans hc3)
  have hrn : rollN cnt k = (si k).tmod cnt := if_neg (by assumption)
  refine k_skip ?_
  refine SeqK.nx (by assumption) ?_
  refine k_seq (fun Q K => ?_)
  refine k_linm [0, 1, 2, 4, 5, 6, 9, 3, 7, 8, 10, 11, 12, 13, 14] mixed (by kernel_rfl) (fun W K => ?_)
  try have hpS := F.pns
  refine l_op 0 rfl rfl rfl rfl rfl ?_
  refine l_op 2 rfl rfl rfl rfl rfl ?_
  refine l_op 2 rfl rfl rfl rfl rfl ?_
  refine l_op 0 rfl rfl rfl rfl rfl ?_
  refine l_op 2 rfl rfl rfl rfl rfl ?_
  refine l_op 2 rfl rfl rfl rfl rfl ?_
  refine l_op 0 rfl rfl rfl rfl rfl ?_
  rw [← hrn]
  clear hrn
  obtain ⟨by_, hby⟩ : ∃ by_, rollN cnt k = by_ := ⟨_, rfl⟩
  rw [hby] at hrb ⊢
  (first | refine l_ld0 rfl rfl rfl rfl rfl (by assumption) ?_ | refine l_ldj rfl rfl rfl rfl rfl rfl (by assumption) rfl ?_ | refine l_ldc F 0 rfl rfl rfl rfl rfl rfl rfl ?_ | refine l_ldc F 1 rfl rfl rfl rfl rfl rfl rfl ?_ | refine l_ldc F 2 rfl rfl rfl rfl rfl rfl rfl ?_ | refine l_ldc F 3 rfl rfl rfl rfl rfl rfl rfl ?_ | refine l_ldc F 4 rfl rfl rfl rfl rfl rfl rfl ?_ | refine l_ldc F 5 rfl rfl rfl rfl rfl rfl rfl ?_ | refine l_ldc F 6 rfl rfl rfl rfl rfl rfl rfl ?_ | refine l_ldc F 7 rfl rfl rfl rfl rfl rfl rfl ?_ | refine l_ldc F 8 rfl rfl rfl rfl rfl rfl rfl ?_ | refine l_ldc F 9 rfl rfl rfl rfl rfl rfl rfl ?_ | refine l_lda rfl rfl rfl rfl rfl (by assumption) ?_ | refine l_ldca F 0 rfl rfl rfl rfl rfl rfl rfl ?_ | refine l_ldca F 1 rfl rfl rfl rfl rfl rfl rfl ?_ | refine l_ldca F 2 rfl rfl rfl rfl rfl rfl rfl ?_ | refine l_ldca F 3 rfl rfl rfl rfl rfl rfl rfl ?_ | refine l_ldca F 4 rfl rfl rfl rfl rfl rfl rfl ?_ | refine l_ldca F 5 rfl rfl rfl rfl rfl rfl rfl ?_ | refine l_ldca F 6 rfl rfl rfl rfl rfl rfl rfl ?_ | refine l_ldca F 7 rfl rfl rfl rfl rfl rfl rfl ?_ | refine l_ldca F 8 rfl rfl rfl rfl rfl rfl rfl ?_ | refine l_ldca F 9 rfl rfl rfl rfl rfl rfl rfl ?_ | refine l_ldo F (by assumption) rfl rfl rfl rfl rfl rfl ?_ | refine l_ldoa F (by assumption) rfl rfl rfl rfl rfl rfl ?_)
  (first | refine l_ld0 rfl rfl rfl rfl rfl (by assumption) ?_ | refine l_ldj rfl rfl rfl rfl rfl rfl (by assumption) rfl ?_ | refine l_ldc F 0 rfl rfl rfl rfl rfl rfl rfl ?_ | refine l_ldc F 1 rfl rfl rfl rfl rfl rfl rfl ?_ | refine l_ldc F 2 rfl rfl rfl rfl rfl rfl rfl ?_ | refine l_ldc F 3 rfl rfl rfl rfl rfl rfl rfl ?_ | refine l_ldc F 4 rfl rfl rfl rfl rfl rfl rfl ?_ | refine l_ldc F 5 rfl rfl rfl rfl rfl rfl rfl ?_ | refine l_ldc F 6 rfl rfl rfl rfl rfl rfl rfl ?_ | refine l_ldc F 7 rfl rfl rfl rfl rfl rfl rfl ?_ | refine l_ldc F 8 rfl rfl rfl rfl rfl rfl rfl ?_ | refine l_ldc F 9 rfl rfl rfl rfl rfl rfl rfl ?_ | refine l_lda rfl rfl rfl rfl rfl (by assumption) ?_ | refine l_ldca F 0 rfl rfl rfl rfl rfl rfl rfl ?_ | refine l_ldca F 1 rfl rfl rfl rfl rfl rfl rfl ?_ | refine l_ldca F 2 rfl rfl rfl rfl rfl rfl rfl ?_ | refine l_ldca F 3 rfl rfl rfl rfl rfl rfl rfl ?_ | refine l_ldca F 4 rfl rfl rfl rfl rfl rfl rfl ?_ | refine l_ldca F 5 rfl rfl rfl rfl rfl rfl rfl ?_ | refine l_ldca F 6 rfl rfl rfl rfl rfl rfl rfl ?_ | refine l_ldca F 7 rfl rfl rfl rfl rfl rfl rfl ?_ | refine l_ldca F 8 rfl rfl rfl rfl rfl rfl rfl ?_ | refine l_ldca F 9 rfl rfl rfl rfl rfl rfl rfl ?_ | refine l_ldo F (by assumption) rfl rfl rfl rfl rfl rfl ?_ | refine l_ldoa F (by assumption) rfl rfl rfl rfl rfl rfl ?_)
  first | have hpS := PnS.add hpS hS39 | have hpS := PnS.add hpS (OldC.sf (by assumption)) | skip
  first | refine l_op 2 rfl rfl rfl rfl rfl ?_ | refine l_ln rfl rfl rfl rfl ?_
  (first | refine l_c64 rfl rfl rfl (by omega) rfl ?_ | refine l_c32 rfl rfl rfl (by omega) rfl ?_ | refine l_c8 rfl rfl rfl (by omega) rfl ?_ | refine l_cu64 rfl rfl rfl (by omega) rfl ?_ | refine l_str rfl rfl rfl rfl rfl (F.old (by assumption)) ?_ | refine l_str rfl rfl rfl rfl rfl (F.has 0 rfl) ?_ | refine l_str rfl rfl rfl rfl rfl (F.has 1 rfl) ?_ | refine l_str rfl rfl rfl rfl rfl (F.has 2 rfl) ?_ | refine l_op 16 rfl rfl rfl rfl rfl ?_)
  (first | refine l_a64 rfl rfl rfl (by omega) rfl ?_ | refine l_a32 rfl rfl rfl (by omega) rfl ?_ | refine l_a8 rfl rfl rfl (by omega) rfl ?_ | refine l_au64 rfl rfl rfl (by omega) rfl ?_ | refine l_op 1 rfl rfl rfl rfl rfl ?_)
  (first | refine l_a64 rfl rfl rfl (by omega) rfl ?_ | refine l_a32 rfl rfl rfl (by omega) rfl ?_ | refine l_a8 rfl rfl rfl (by omega) rfl ?_ | refine l_au64 rfl rfl rfl (by omega) rfl ?_ | refine l_op 1 rfl rfl rfl rfl rfl ?_)
  refine l_sl (es := 1) rfl rfl rfl rfl rfl rfl rfl rfl rfl (F.has 1 rfl) (by omega) ?_
  refine l_op 0 rfl rfl rfl rfl rfl ?_
  refine l_nil (WK.nx (by assumption) ?_)
  refine SeqK.nx (by assumption) ?_
  refine k_seq (fun Q K => ?_)
  refine k_lin (fun W K => ?_)
  refine l_op 0 rfl rfl rfl rfl rfl ?_
  obtain ⟨lo, hlo⟩ : ∃ lo, (↑n - 4 * cnt).toNat = lo := ⟨_, rfl⟩
  rw [hlo]
  have hW := (F.has 1 rfl).part (lo := lo) (hi := n) (by omega) (Nat.le_refl _)
  have e0 : ((u8l bs).drop (lo * 1)).take ((n - lo) * 1) = u8l (bs.drop lo) := by
    rw [Nat.mul_one, Nat.mul_one, ← List.map_drop, List.take_of_length_le (by rw [List.length_map, List.length_drop]; omega)]
  rw [e0] at hW
  refine l_callp F rfl rfl (by kernel_rfl) rfl rfl (clone_call (xs := bs.drop lo) (Old.pure hW) (by omega)) (fun y s F _ => ?_)
  (try dsimp only [n_1, n_2, n_3, n_4, List.append_nil, pk, n_5, n_6] at F)
  refine l_op 0 rfl rfl rfl rfl rfl ?_
  refine l_nil (WK.nx (by assumption) ?_)
  refine SeqK.nx (by assumption) ?_
  refine k_seq (fun Q K => ?_)
  refine k_lin (fun W K => ?_)
  refine l_op 0 rfl rfl rfl rfl rfl ?_
  refine l_op 0 rfl rfl rfl rfl rfl ?_
  (first | refine l_a64 rfl rfl rfl (by omega) rfl ?_ | refine l_a32 rfl rfl rfl (by omega) rfl ?_ | refine l_a8 rfl rfl rfl (by omega) rfl ?_ | refine l_au64 rfl rfl rfl (by omega) rfl ?_ | refine l_op 1 rfl rfl rfl rfl rfl ?_)
  obtain ⟨l4, hl4⟩ : ∃ l4, (4 * by_).toNat = l4 := ⟨_, rfl⟩
  have hW2 := (F.has 1 rfl).part (lo := lo) (hi := n) (by omega) (Nat.le_refl _)
  refine l_sl (es := 1) (l := l4) rfl rfl rfl rfl rfl rfl rfl hl4 rfl hW2 (by omega) ?_
  refine l_op 0 rfl rfl rfl rfl rfl ?_
  refine l_cpo (es := 1) (j := 0 + lo * 1 + l4 * 1) F 1 rfl rfl rfl rfl rfl rfl rfl (F.has 2 rfl) (by rw [List.all_eq_true]; exact fun v hv => List.all_eq_true.1 (ints_one _) v (List.mem_of_mem_take hv)) (by omega) hD (fun s F => ?_)
  (try dsimp only [n_1, n_2, n_3, n_4, List.append_nil, pk, n_5, n_6] at F)
  refine l_nil (WK.nx (by assumption) ?_)
  refine SeqK.nx (by assumption) ?_
  refine k_seq (fun Q K => ?_)
  refine k_lin (fun W K => ?_)
  refine l_op 0 rfl rfl rfl rfl rfl ?_
  refine l_op 0 rfl rfl rfl rfl rfl ?_
  refine l_op 0 rfl rfl rfl rfl rfl ?_
  first | refine l_op 2 rfl rfl rfl rfl rfl ?_ | refine l_ln rfl rfl rfl rfl ?_
  refine l_op 0 rfl rfl rfl rfl rfl ?_
  (first | refine l_a64 rfl rfl rfl (by omega) rfl ?_ | refine l_a32 rfl rfl rfl (by omega) rfl ?_ | refine l_a8 rfl rfl rfl (by omega) rfl ?_ | refine l_au64 rfl rfl rfl (by omega) rfl ?_ | refine l_op 1 rfl rfl rfl rfl rfl ?_)
  (first | refine l_a64 rfl rfl rfl (by omega) rfl ?_ | refine l_a32 rfl rfl rfl (by omega) rfl ?_ | refine l_a8 rfl rfl rfl (by omega) rfl ?_ | refine l_au64 rfl rfl rfl (by omega) rfl ?_ | refine l_op 1 rfl rfl rfl rfl rfl ?_)
  refine l_sl (es := 1) (l := n - lo - l4) rfl rfl rfl rfl rfl rfl rfl (by omega) rfl (F.has 2 rfl) (by omega) ?_
  have hW3 := (F.has 2 rfl).part (lo := n - lo - l4) (hi := n - lo) (by omega) (Nat.le_refl _)
  have e9 : ((u8l (bs.drop lo)).drop ((n - lo - l4) * 1)).take ((n - lo - (n - lo - l4)) * 1) = u8l ((bs.drop lo).drop (n - lo - l4)) := by
    rw [Nat.mul_one, Nat.mul_one, ← List.map_drop, List.take_of_length_le (by rw [List.length_map, List.length_drop, List.length_drop]; omega)]
  rw [e9] at hW3
  refine l_cpo (es := 1) (j := 0 + lo * 1) F 1 rfl rfl rfl rfl rfl rfl rfl hW3 (by rw [List.all_eq_true]; exact fun v hv => List.all_eq_true.1 (ints_one _) v (List.mem_of_mem_take hv)) (by omega) hD (fun s F => ?_)
  (try dsimp only [n_1, n_2, n_3, n_4, List.append_nil, pk, n_5, n_6] at F)
  refine l_nil (WK.nx (by assumption) ?_)
  refine SeqK.nx (by assumption) ?_
  refine k_seq (fun Q K => ?_)
  refine k_lin (fun W K => ?_)
  refine l_op 0 rfl rfl rfl rfl rfl ?_
  refine l_nil (WK.nx (by assumption) ?_)
  refine SeqK.nx (by assumption) ?_
  refine k_ret ?_
  refine FunK.rt (by assumption) rfl ?_
  -- leaf 4
  first
  | (have e : rollA on bs n fp cnt k = bs := if_neg (by omega)
     exact ⟨(), rfl, by show Facts O σ s [_, own a n c 1 (u8l (rollA on bs n fp cnt k))]; rw [e]; exact F, trivial⟩)
  | (have he : holdsE on bs n fp cnt = 0 := by omega
     have e : rollA on bs n fp cnt k = rollB bs n cnt by_ := by unfold rollA; rw [if_pos ⟨he, by omega⟩, hby]
     have f1 : min (n - lo) (n - lo - l4) * 1 = n - lo - l4 := by omega
     have f2 : min (n - lo - (n - lo - l4)) (n - lo) * 1 = l4 := by omega
     have f3 : (u8l ((bs.drop lo).drop (n - lo - l4))).take l4 = u8l ((bs.drop lo).drop (n - lo - l4)) := List.take_of_length_le (by rw [List.length_map, List.length_drop, List.length_drop]; omega)
     have f4 : (u8l (bs.drop lo)).take (n - lo - l4) = u8l ((bs.drop lo).take (n - lo - l4)) := List.map_take.symm
     have f5 : rollB bs n cnt by_ = bs.take lo ++ (bs.drop (n - l4) ++ (bs.drop lo).take (n - lo - l4)) := by
       unfold rollB
       rw [hlo, show ((n : Int) - 4 * by_).toNat = n - l4 by omega, show (4 * cnt - 4 * by_).toNat = n - lo - l4 by omega]
     rw [f1, f2, f3, f4, show 0 + lo * 1 + l4 * 1 = lo + l4 by omega, show 0 + lo * 1 = lo by omega, roll_splice hbl (by omega), ← f5, ← e] at F
     exact ⟨(), congrArg (Value.int .i64) he.symm, F.pick [0, 1] (by decide), trivial⟩)

end Go.Proofs.Ythbooolgpfhcmaa
