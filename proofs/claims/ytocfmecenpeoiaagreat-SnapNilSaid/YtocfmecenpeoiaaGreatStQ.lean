/- A value, a stub come and go, by the program. No statement of the seat is proved in this text. -/
import Derived.Test.YtocfmecenpeoiaaGreatStP
set_option linter.unusedVariables false
set_option linter.unusedSimpArgs false
set_option maxRecDepth 100000
set_option maxHeartbeats 4000000
namespace Go.Proofs.YtocfmecenpeoiaaGreat.Stk
open GAb Go

/-- Where a stack is, what lies on it. -/
abbrev stP (m : Nat) (a : Option Addr) (n c : Nat) (size fp : Int) (on : Bool) (bs : List Int) : List Fact := [cel m (sC a n c size fp on), own a n c 1 (u8l bs)]
theorem pop_call {O : Nat → Prop} {σ : AState} {m n c : Nat} {a : Option Addr} {size fp : Int} {on : Bool} {bs : List Int} (F : Facts O σ σ (stP m a n c size fp on bs)) (hB : Bytes bs) (hn : n ≤ 1000000) (hns : n ≤ size) (hf : 0 ≤ fp ∧ fp ≤ 4294967295) (hon : on = true → fp + at4 bs fp ≤ n) :
    SCall Tryz.prog O 93 [.pointer (some ⟨m, 0, none⟩)] σ (Ret O σ (fun (k : Nat) => .tuple #[.int .u32 (peekR on bs n fp 0), .int .i64 (holdsE on bs n fp 1)]) (fun k => stP m a k c size fp on (bs.take k)) fun k => k = if holdsE on bs n fp 1 = 0 then n - 4 else n) := by
  have hbl := F.len8 1 rfl
  have hb := at4_bd hB fp
  refine k_fun Tryz.func93 rfl (m := 29) rfl fun B hD Q K => ?_
  refine k_seq fun Q K => k_lin fun W K => ?_
  iterate 2 refine l_op 0 rfl rfl rfl rfl rfl ?_
  refine l_nil (WK.nx ‹_› (SeqK.nx ‹_› ?_))
  refine k_seq fun Q K => k_lin fun W K => ?_
  refine l_op 0 rfl rfl rfl rfl rfl ?_
  refine l_callp F rfl rfl (by kernel_rfl) rfl rfl (peek_call (i := 0) (F.cel0 0 rfl) (Old.pure (F.has 1 rfl)) hB (by omega) hns hf hon ⟨by omega, by omega⟩) (fun _ s F _ => ?_)
  (try dsimp only [n_1, n_2, n_3, n_4, List.append_nil, pk, n_5, n_6] at F)
  refine l_op 0 rfl rfl rfl rfl rfl ?_
  iterate 2 refine l_op 2 rfl rfl rfl rfl rfl ?_
  iterate 2 refine l_op 0 rfl rfl rfl rfl rfl ?_
  refine l_nil (WK.nx ‹_› (SeqK.nx ‹_› ?_))
  refine k_seq fun Q K => k_seq fun Q K => k_lin fun W K => ?_
  refine l_op 0 rfl rfl rfl rfl rfl ?_
  refine l_cmp rfl rfl rfl rfl ?_
  refine l_nil (WK.nx ‹_› (SeqK.nx ‹_› ?_))
  refine l_cond rfl rfl (fun hc1 => ?_) (fun hc1 => ?_)
  · replace hc1 := eq_of_beq ((irr_eq _).symm.trans hc1)
    obtain ⟨hon1, hcnt⟩ := holdsE_ok (on := on) (bs := bs) (n := n) (fp := fp) (k := 1) (by assumption)
    refine k_linm [0, 1, 2, 3, 5, 6, 7, 4, 8, 9, 10, 11, 12, 13, 14] mixed (by kernel_rfl) (fun W K => ?_)
    try have hpS := F.pns
    iterate 2 refine l_op 0 rfl rfl rfl rfl rfl ?_
    iterate 2 refine l_op 2 rfl rfl rfl rfl rfl ?_
    refine l_op 0 rfl rfl rfl rfl rfl ?_
    iterate 2 refine l_op 2 rfl rfl rfl rfl rfl ?_
    refine l_ldc F 0 rfl rfl rfl rfl rfl rfl rfl ?_
    skip
    refine l_ldc F 0 rfl rfl rfl rfl rfl rfl rfl ?_
    skip
    refine l_op 2 rfl rfl rfl rfl rfl ?_
    refine l_a64 rfl rfl rfl (by omega) rfl ?_
    refine l_slh rfl rfl rfl rfl rfl ⟨rfl, _, _, rfl, by omega, rfl⟩ (F.has 1 rfl) (by omega) ?_
    iterate 2 refine l_op 2 rfl rfl rfl rfl rfl ?_
    refine l_rs (by kernel_rfl) ?_
    refine l_stc F 0 rfl rfl rfl rfl rfl rfl rfl rfl rfl hD (fun s F => ?_)
    (try dsimp only [n_1, n_2, n_3, n_4, List.append_nil, pk, n_5, n_6] at F)
    refine l_nil (WK.nx ‹_› (SeqK.nx ‹_› ?_))
    refine k_seq fun Q K => k_lin fun W K => ?_
    iterate 4 refine l_op 0 rfl rfl rfl rfl rfl ?_
    refine l_nil (WK.nx ‹_› (SeqK.nx ‹_› (k_ret ?_)))
    refine FunK.rt (by assumption) rfl ?_
    -- leaf 1
    (have h0 : holdsE on bs n fp 1 = 0 := by assumption
     have F2 := Facts.upto (F := F) 1 rfl (h := n - 4) (by omega)
     rw [Nat.mul_one, ← List.map_take] at F2
     have e1 : ((n : Int) - 4).toNat = n - 4 := by omega
     rw [e1] at F2
     exact ⟨n - 4, rfl, F2.pick [0, 1] (by decide), by rw [if_pos h0]⟩)
  replace hc1 := ne_of_beq_false ((irr_eq _).symm.trans hc1)
  refine k_skip (SeqK.nx ‹_› ?_)
  refine k_seq fun Q K => k_lin fun W K => ?_
  iterate 4 refine l_op 0 rfl rfl rfl rfl rfl ?_
  refine l_nil (WK.nx ‹_› (SeqK.nx ‹_› (k_ret ?_)))
  refine FunK.rt (by assumption) rfl ?_
  -- leaf 2
  (have h0 : holdsE on bs n fp 1 ≠ 0 := by assumption
   exact ⟨n, rfl, by show Facts O σ s [_, own a n c 1 (u8l (bs.take n))]; rw [List.take_of_length_le (by omega)]; exact F, by rw [if_neg h0]⟩)
theorem stub_call {O : Nat → Prop} {σ : AState} {m n c : Nat} {a : Option Addr} {size fp k1 k2 k3 : Int} {on : Bool} {bs : List Int} (F : Facts O σ σ (stP m a n c size fp on bs)) (h1 : U32 k1) (h2 : U32 k2) (h3 : U32 k3) (hn : n ≤ 100000) (hf : U32 fp) :
    SCall Tryz.prog O 80 [.pointer (some ⟨m, 0, none⟩), .int .u32 k1, .int .u32 k2, .int .u32 k3] σ (Ret O σ (fun (y : Option Addr × Nat × Nat) => .int .i64 (readyR on n 16 size)) (fun y => stP m y.1 y.2.1 y.2.2 size fp on (if readyR on n 16 size = 0 then bs ++ putsR [k1, k2, k3, fp] else bs)) fun y => y.2.1 = if readyR on n 16 size = 0 then n + 16 else n) := by
  obtain ⟨f0, f1⟩ := hf
  refine k_fun Tryz.func80 rfl (m := 26) rfl fun B hD Q K => ?_
  refine k_seq fun Q K => k_lin fun W K => ?_
  refine l_op 0 rfl rfl rfl rfl rfl ?_
  refine l_nil (WK.nx ‹_› (SeqK.nx ‹_› ?_))
  refine k_seq fun Q K => k_seq fun Q K => k_lin fun W K => ?_
  refine l_op 0 rfl rfl rfl rfl rfl ?_
  refine l_callp F rfl rfl (by kernel_rfl) rfl rfl (ready_call (F.cel0 0 rfl) (Old.pure (F.has 1 rfl)) (by omega) (by omega)) (fun _ s F _ => ?_)
  (try dsimp only [n_1, n_2, n_3, n_4, List.append_nil, pk, n_5, n_6] at F)
  refine l_op 0 rfl rfl rfl rfl rfl ?_
  refine l_nil (WK.nx ‹_› (SeqK.nx ‹_› ?_))
  refine k_seq fun Q K => k_lin fun W K => ?_
  refine l_op 0 rfl rfl rfl rfl rfl ?_
  refine l_cmp rfl rfl rfl rfl ?_
  refine l_nil (WK.nx ‹_› (SeqK.nx ‹_› ?_))
  refine l_cond rfl rfl (fun hc1 => ?_) (fun hc1 => ?_)
  · replace hc1 := bne_iff_ne.1 ((irr_eq _).symm.trans hc1)
    refine k_seq fun Q K => k_lin fun W K => ?_
    iterate 2 refine l_op 0 rfl rfl rfl rfl rfl ?_
    refine l_nil (WK.nx ‹_› (SeqK.nx ‹_› (k_ret (SeqK.rt ‹_› ?_))))
    refine FunK.rt (by assumption) rfl ?_
    -- leaf 1
    (have h0 : readyR on n 16 size ≠ 0 := by omega
     refine ⟨(a, n, c), rfl, ?_, by rw [if_neg h0]⟩
     rw [if_neg h0]; exact F)
  replace hc1 := bne_eq_false_iff_eq.1 ((irr_eq _).symm.trans hc1)
  refine k_skip (SeqK.nx ‹_› ?_)
  refine k_seq fun Q K => k_lin fun W K => ?_
  iterate 5 refine l_op 0 rfl rfl rfl rfl rfl ?_
  iterate 2 refine l_op 2 rfl rfl rfl rfl rfl ?_
  refine l_ldc F 0 rfl rfl rfl rfl rfl rfl rfl ?_
  refine l_c32 rfl rfl rfl (by omega) rfl ?_
  refine l_lit F rfl rfl rfl rfl (fun q24 s F => ?_)
  (try dsimp only [n_1, n_2, n_3, n_4, List.append_nil, pk, n_5, n_6] at F)
  refine l_call F [0, 1] [2] (by decide) rfl rfl (by kernel_rfl) rfl rfl (put_call (vs := [k1, k2, k3, fp]) (F.sub [0, 1] (by decide)) (F.oldK [0, 1] 2 rfl (by decide)) (words4r h1 h2 h3 ⟨f0, f1⟩) (by omega)) hD (fun y s F _ => ?_)
  (try dsimp only [n_1, n_2, n_3, n_4, List.append_nil, pk, n_5, n_6] at F)
  (try dsimp only [n_1, n_2, n_3, n_4, List.append_nil, pk, n_5, n_6] at F)
  refine l_nil (WK.nx ‹_› (SeqK.nx ‹_› ?_))
  refine k_seq fun Q K => k_lin fun W K => ?_
  refine l_op 0 rfl rfl rfl rfl rfl ?_
  refine l_nil (WK.nx ‹_› (SeqK.nx ‹_› (k_ret ?_)))
  refine FunK.rt (by assumption) rfl ?_
  -- leaf 2
  (have h0 : readyR on n 16 size = 0 := by omega
   refine ⟨(y.1, n + 16, y.2), by rw [h0]; rfl, ?_, by rw [if_pos h0]⟩
   rw [if_pos h0]
   exact F.pick [1, 2] (by decide))


end Go.Proofs.YtocfmecenpeoiaaGreat.Stk
