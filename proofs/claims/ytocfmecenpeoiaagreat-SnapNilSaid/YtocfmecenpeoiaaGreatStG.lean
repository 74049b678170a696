/- Numbers on a stack are looked at and rolled, by the program. No statement of the seat is proved in this text. -/
import Derived.Test.YtocfmecenpeoiaaGreatStF
set_option linter.unusedVariables false
set_option linter.unusedSimpArgs false
set_option maxRecDepth 100000
set_option maxHeartbeats 4000000
namespace Go.Proofs.YtocfmecenpeoiaaGreat.Stk
open GAb Go

theorem splice_mid {A B C Z : List Int} (h : B.length = C.length) : splice (u8l (A ++ (B ++ Z))) A.length (u8l C) = u8l (A ++ (C ++ Z)) := by
  unfold splice u8l
  simp only [List.map_append, List.length_map]
  rw [List.take_append_of_le_length (by simp), List.take_of_length_le (by simp), ← h]
  congr 1
  congr 1
  rw [← List.append_assoc, List.drop_append_of_le_length (by simp)]
  simp
theorem own_some {O : Nat → Prop} {σ0 σ : AState} {L : List Fact} (F : Facts O σ0 σ L) (k : Nat) {a : Option Addr} {l c es : Nat} {vs : List Value} (hL : L[k]? = some (own a l c es vs)) (hl : 0 < l * es) : ∃ m e, a = some ⟨m, 0, e⟩ := by
  have hO : Own 0 σ a l c es vs := F.ho _ (List.mem_of_getElem? hL)
  obtain ⟨hH, ⟨h, h2⟩ | ⟨n', e2, cs, h, _⟩⟩ := hO
  · exfalso
    have hz := (F.has k hL).size
    subst h
    simp_all
  · exact ⟨_, _, h⟩
/-- A word as an integer. -/
def si (k : Int) : Int := if k ≥ 2147483648 then k - 4294967296 else k
theorem si_bd {k : Int} (h : U32 k) : -2147483648 ≤ si k ∧ si k ≤ 2147483647 := by
  obtain ⟨h1, h2⟩ := h
  unfold si
  split <;> omega
def holdsE (on : Bool) (bs : List Int) (n : Nat) (fp k : Int) : Int := if on = false then 102 else if countR on bs n fp < k then 101 else 0
theorem holds_call {σ : AState} {m n c : Nat} {a : Option Addr} {size fp k : Int} {on : Bool} {bs : List Int} (hc : OldC E0 σ m (sC a n c size fp on)) (hl : Old E0 σ a n c 1 (u8l bs)) (hB : Bytes bs) (hn : n ≤ 1000000) (hns : n ≤ size) (hf : 0 ≤ fp ∧ fp ≤ 4294967295) (hon : on = true → fp + at4 bs fp ≤ n) (hk : 0 ≤ k ∧ k ≤ 4294967296) :
    SCall Tryz.prog E0 173 [.pointer (some ⟨m, 0, none⟩), .int .u64 k] σ (Ret E0 σ (fun (_ : Unit) => .int .i64 (holdsE on bs n fp k)) (fun _ => []) fun _ => True) := by
  have hr := ready0 (on := on) hns
  refine k_fun Tryz.func173 rfl (m := 16) rfl fun B hD Q K => ?_
  have F := Facts.nil E0 σ
  refine k_seq fun Q K => k_lin fun W K => ?_
  refine l_op 0 rfl rfl rfl rfl rfl ?_
  refine l_nil (WK.nx ‹_› (SeqK.nx ‹_› ?_))
  refine k_seq fun Q K => k_seq fun Q K => k_lin fun W K => ?_
  refine l_op 0 rfl rfl rfl rfl rfl ?_
  refine l_callp F rfl rfl (by kernel_rfl) rfl rfl (ready_call (F.oldc0 hc) (Old.pure (F.old hl)) (by omega) (by omega)) (fun _ s F _ => ?_)
  (try dsimp only [n_1, n_2, n_3, n_4, List.append_nil, pk, n_5, n_6] at F)
  refine l_op 0 rfl rfl rfl rfl rfl ?_
  refine l_nil (WK.nx ‹_› (SeqK.nx ‹_› ?_))
  refine k_seq fun Q K => k_lin fun W K => ?_
  refine l_op 0 rfl rfl rfl rfl rfl ?_
  refine l_cmp rfl rfl rfl rfl ?_
  refine l_nil (WK.nx ‹_› (SeqK.nx ‹_› ?_))
  refine l_cond rfl rfl (fun hc1 => ?_) (fun hc1 => ?_)
  · replace hc1 := bne_iff_ne.1 ((irr_eq _).symm.trans hc1)
    refine k_seq fun Q K => k_lin fun W K => ?_
    iterate 2 refine l_op 0 rfl rfl rfl rfl rfl ?_
    refine l_nil (WK.nx ‹_› (SeqK.nx ‹_› (k_ret (SeqK.rt ‹_› ?_))))
    refine FunK.rt (by assumption) rfl ?_
    -- leaf 1
    (have hof : on = false := by rcases hr with h | h; exact h.2; omega
     have e : holdsE on bs n fp k = readyR on n 0 size := by
       unfold holdsE; rw [if_pos hof]; rcases hr with h | h; omega; omega
     exact ⟨(), congrArg (Value.int .i64) e.symm, F, trivial⟩)
  replace hc1 := bne_eq_false_iff_eq.1 ((irr_eq _).symm.trans hc1)
  have hb1 := at4_bd hB fp
  have hon1 : on = true := by rcases hr with h | h; omega; exact h.2
  have hcd := hon hon1
  have hcr : countR on bs n fp = (n - (fp + at4 bs fp)) / 4 := by rw [hon1]; rfl
  refine k_skip (SeqK.nx ‹_› ?_)
  refine k_seq fun Q K => k_seq fun Q K => k_lin fun W K => ?_
  refine l_op 0 rfl rfl rfl rfl rfl ?_
  refine l_callp F rfl rfl (by kernel_rfl) rfl rfl (count_call (F.oldc0 hc) (Old.pure (F.old hl)) hB (by omega) hf hon) (fun _ s F _ => ?_)
  (try dsimp only [n_1, n_2, n_3, n_4, List.append_nil, pk, n_5, n_6] at F)
  refine l_cu64 (z := countR on bs n fp) rfl rfl rfl (by omega) rfl ?_
  refine l_op 0 rfl rfl rfl rfl rfl ?_
  refine l_cmp rfl rfl rfl rfl ?_
  refine l_nil (WK.nx ‹_› (SeqK.nx ‹_› ?_))
  refine l_cond rfl rfl (fun hc2 => ?_) (fun hc2 => ?_)
  · replace hc2 := of_decide_eq_true ((irr_eq _).symm.trans hc2)
    refine k_seq fun Q K => k_lin fun W K => ?_
    refine l_op 0 rfl rfl rfl rfl rfl ?_
    refine l_nil (WK.nx ‹_› (SeqK.nx ‹_› (k_ret (SeqK.rt ‹_› ?_))))
    refine FunK.rt (by assumption) rfl ?_
    -- leaf 2
    (have e : holdsE on bs n fp k = 101 := by
       unfold holdsE; rw [if_neg (by rw [hon1]; decide), if_pos (by omega)]
     exact ⟨(), congrArg (Value.int .i64) e.symm, F, trivial⟩)
  replace hc2 := of_decide_eq_false ((irr_eq _).symm.trans hc2)
  refine k_skip (SeqK.nx ‹_› ?_)
  refine k_seq fun Q K => k_lin fun W K => ?_
  refine l_op 0 rfl rfl rfl rfl rfl ?_
  refine l_nil (WK.nx ‹_› (SeqK.nx ‹_› (k_ret ?_)))
  refine FunK.rt (by assumption) rfl ?_
  -- leaf 3
  (have e : holdsE on bs n fp k = 0 := by
     unfold holdsE; rw [if_neg (by rw [hon1]; decide), if_neg (by omega)]
   exact ⟨(), congrArg (Value.int .i64) e.symm, F, trivial⟩)
def peekR (on : Bool) (bs : List Int) (n : Nat) (fp i : Int) : Int := if holdsE on bs n fp (i + 1) = 0 then at4 bs (n - 4 - 4 * i) else 0
theorem holdsE_ok {on : Bool} {bs : List Int} {n : Nat} {fp k : Int} (h : holdsE on bs n fp k = 0) : on = true ∧ k ≤ (n - (fp + at4 bs fp)) / 4 := by
  unfold holdsE at h
  split at h
  · cases h
  · rename_i h1
    have h1 : on = true := by simpa using h1
    subst h1
    split at h
    · cases h
    · rename_i h2; exact ⟨rfl, by have : countR true bs n fp = (n - (fp + at4 bs fp)) / 4 := rfl; omega⟩
theorem peek_call {σ : AState} {m n c : Nat} {a : Option Addr} {size fp i : Int} {on : Bool} {bs : List Int} (hc : OldC E0 σ m (sC a n c size fp on)) (hl : Old E0 σ a n c 1 (u8l bs)) (hB : Bytes bs) (hn : n ≤ 1000000) (hns : n ≤ size) (hf : 0 ≤ fp ∧ fp ≤ 4294967295) (hon : on = true → fp + at4 bs fp ≤ n) (hi : U32 i) :
    SCall Tryz.prog E0 144 [.pointer (some ⟨m, 0, none⟩), .int .u32 i] σ (Ret E0 σ (fun (_ : Unit) => .tuple #[.int .u32 (peekR on bs n fp i), .int .i64 (holdsE on bs n fp (i + 1))]) (fun _ => []) fun _ => True) := by
  have hbl := hl.len8
  obtain ⟨i0, i1⟩ := hi
  have hb := at4_bd hB fp
  refine k_fun Tryz.func144 rfl (m := 32) rfl fun B hD Q K => ?_
  have F := Facts.nil E0 σ
  refine k_seq fun Q K => k_lin fun W K => ?_
  iterate 2 refine l_op 0 rfl rfl rfl rfl rfl ?_
  refine l_nil (WK.nx ‹_› (SeqK.nx ‹_› ?_))
  refine k_seq fun Q K => k_seq fun Q K => k_lin fun W K => ?_
  iterate 2 refine l_op 0 rfl rfl rfl rfl rfl ?_
  refine l_cu64 rfl rfl rfl (by omega) rfl ?_
  refine l_au64 rfl rfl rfl (by omega) rfl ?_
  refine l_callp F rfl rfl (by kernel_rfl) rfl rfl (holds_call (k := i + 1) (F.oldc0 hc) (Old.pure (F.old hl)) hB (by omega) hns hf hon (by omega)) (fun _ s F _ => ?_)
  (try dsimp only [n_1, n_2, n_3, n_4, List.append_nil, pk, n_5, n_6] at F)
  refine l_op 0 rfl rfl rfl rfl rfl ?_
  refine l_nil (WK.nx ‹_› (SeqK.nx ‹_› ?_))
  refine k_seq fun Q K => k_lin fun W K => ?_
  refine l_op 0 rfl rfl rfl rfl rfl ?_
  refine l_cmp rfl rfl rfl rfl ?_
  refine l_nil (WK.nx ‹_› (SeqK.nx ‹_› ?_))
  refine l_cond rfl rfl (fun hc1 => ?_) (fun hc1 => ?_)
  · replace hc1 := bne_iff_ne.1 ((irr_eq _).symm.trans hc1)
    refine k_seq fun Q K => k_lin fun W K => ?_
    iterate 3 refine l_op 0 rfl rfl rfl rfl rfl ?_
    refine l_nil (WK.nx ‹_› (SeqK.nx ‹_› (k_ret (SeqK.rt ‹_› ?_))))
    refine FunK.rt (by assumption) rfl ?_
    -- leaf 1
    (have e : peekR on bs n fp i = 0 := if_neg (by assumption)
     rw [e]
     exact ⟨(), rfl, F, trivial⟩)
  replace hc1 := bne_eq_false_iff_eq.1 ((irr_eq _).symm.trans hc1)
  obtain ⟨hon1, hcnt⟩ := holdsE_ok (on := on) (bs := bs) (n := n) (fp := fp) (k := i + 1) (by omega)
  refine k_skip (SeqK.nx ‹_› ?_)
  refine k_seq fun Q K => ?_
  refine k_linm [0, 1, 2, 4, 5, 6, 10, 3, 7, 8, 9, 11, 12, 13, 14, 15, 16, 17, 18] mixed (by kernel_rfl) (fun W K => ?_)
  try have hpS := F.pns
  refine l_op 0 rfl rfl rfl rfl rfl ?_
  iterate 2 refine l_op 2 rfl rfl rfl rfl rfl ?_
  refine l_op 0 rfl rfl rfl rfl rfl ?_
  iterate 2 refine l_op 2 rfl rfl rfl rfl rfl ?_
  refine l_op 0 rfl rfl rfl rfl rfl ?_
  refine l_ldo F (by assumption) rfl rfl rfl rfl rfl rfl ?_
  have hpS := PnS.add hpS (OldC.sf (by assumption))
  refine l_ldo F (by assumption) rfl rfl rfl rfl rfl rfl ?_
  have hpS := PnS.add hpS (OldC.sf (by assumption))
  refine l_op 2 rfl rfl rfl rfl rfl ?_
  refine l_a64 rfl rfl rfl (by omega) rfl ?_
  refine l_c64 rfl rfl rfl (by omega) rfl ?_
  iterate 2 refine l_a64 rfl rfl rfl (by omega) rfl ?_
  refine l_callp F rfl rfl (by kernel_rfl) rfl rfl (wbe_call (at_ := n - 4 - 4 * i) (n := 4) (Old.pure (F.old hl)) hB (by omega)) (fun _ s F _ => ?_)
  (try dsimp only [n_1, n_2, n_3, n_4, List.append_nil, pk, n_5, n_6] at F)
  iterate 2 refine l_op 2 rfl rfl rfl rfl rfl ?_
  iterate 2 refine l_op 0 rfl rfl rfl rfl rfl ?_
  refine l_nil (WK.nx ‹_› (SeqK.nx ‹_› (k_ret ?_)))
  refine FunK.rt (by assumption) rfl ?_
  -- leaf 2
  (have he : holdsE on bs n fp (i + 1) = 0 := by omega
   have e : peekR on bs n fp i = at4 bs (n - 4 - 4 * i) := if_pos he
   have e2 : (beR bs (n - 4 - 4 * i) 4).2 = 0 := by
     unfold beR; rw [if_neg (by omega), if_neg (by omega)]
   rw [e, he]
   exact ⟨(), by rw [← e2]; rfl, F, trivial⟩)

/-- How far a roll goes. -/
def rollN (cnt k : Int) : Int := if (si k).tmod cnt < 0 then (si k).tmod cnt + cnt else (si k).tmod cnt
theorem rollN_bd {cnt k : Int} (h : 0 < cnt) : 0 ≤ rollN cnt k ∧ rollN cnt k < cnt := by
  have h1 := Int.tmod_lt_of_pos (si k) h
  have h2 := Int.lt_tmod_of_pos (si k) h
  unfold rollN
  split <;> omega
theorem roll_splice {bs : List Int} {lo l4 n : Nat} (hn : bs.length = n) (h1 : lo + l4 ≤ n) :
    splice (splice (u8l bs) (lo + l4) (u8l ((bs.drop lo).take (n - lo - l4)))) lo (u8l ((bs.drop lo).drop (n - lo - l4))) = u8l (bs.take lo ++ (bs.drop (n - l4) ++ (bs.drop lo).take (n - lo - l4))) := by
  have e1 : splice (u8l ((bs.take lo ++ (bs.drop lo).take l4) ++ ((bs.drop lo).drop l4 ++ []))) (bs.take lo ++ (bs.drop lo).take l4).length (u8l ((bs.drop lo).take (n - lo - l4))) = u8l ((bs.take lo ++ (bs.drop lo).take l4) ++ ((bs.drop lo).take (n - lo - l4) ++ [])) :=
    splice_mid (by simp only [List.length_take, List.length_drop]; omega)
  have e2 : splice (u8l (bs.take lo ++ ((bs.drop lo).take l4 ++ (bs.drop lo).take (n - lo - l4)))) (bs.take lo).length (u8l ((bs.drop lo).drop (n - lo - l4))) = u8l (bs.take lo ++ ((bs.drop lo).drop (n - lo - l4) ++ (bs.drop lo).take (n - lo - l4))) :=
    splice_mid (by simp only [List.length_take, List.length_drop]; omega)
  have e3 : (bs.take lo ++ (bs.drop lo).take l4) ++ ((bs.drop lo).drop l4 ++ []) = bs := by
    rw [List.append_nil, List.append_assoc, List.take_append_drop, List.take_append_drop]
  have e4 : (bs.take lo ++ (bs.drop lo).take l4).length = lo + l4 := by simp only [List.length_append, List.length_take, List.length_drop]; omega
  have e5 : (bs.take lo).length = lo := by rw [List.length_take]; omega
  rw [e3, e4] at e1
  rw [e5] at e2
  rw [e1, List.append_nil, List.append_assoc, e2, List.drop_drop, show lo + (n - lo - l4) = n - l4 by omega]
/-- The bytes behind a roll. -/
def rollB (bs : List Int) (n : Nat) (cnt by_ : Int) : List Int :=
  bs.take (n - 4 * cnt).toNat ++ (bs.drop (n - 4 * by_).toNat ++ (bs.drop (n - 4 * cnt).toNat).take (4 * cnt - 4 * by_).toNat)
def rollA (on : Bool) (bs : List Int) (n : Nat) (fp cnt k : Int) : List Int := if holdsE on bs n fp cnt = 0 ∧ cnt ≠ 0 then rollB bs n cnt (rollN cnt k) else bs
end Go.Proofs.YtocfmecenpeoiaaGreat.Stk
