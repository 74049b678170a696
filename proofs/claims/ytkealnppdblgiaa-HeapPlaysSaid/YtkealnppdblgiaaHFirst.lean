/- A block touches none that was there. No statement of the seat is proved in this text. -/
import Derived.Test.YtkealnppdblgiaaHeap4
import Derived.Test.YtkealnppdblgiaaHFull
import Derived.Test.YtkealnppdblgiaaHNil
set_option linter.unusedVariables false
set_option linter.unusedSimpArgs false
set_option maxRecDepth 100000
set_option maxHeartbeats 4000000
namespace Go.Proofs.Ytkealnppdblgiaa
open GAb Go

theorem rightL_low {en : Int} : ∀ {xs : List (Int × Int)} {p q : Int}, q ≤ p → rightL en p xs = true → rightL en q xs = true
  | [], p, q, h, k => by simp only [rightL, decide_eq_true_eq] at *; omega
  | b :: bl, p, q, h, k => by
    simp only [rightL] at *
    split at k
    · cases k
    · rw [if_neg (by omega)]; exact k
theorem rightL_le {en : Int} : ∀ {xs : List (Int × Int)} {p : Int}, BlkOK xs → rightL en p xs = true → p ≤ en
  | [], p, _, k => by simpa only [rightL, decide_eq_true_eq] using k
  | b :: bl, p, hB, k => by
    obtain ⟨⟨a1, a2⟩, ⟨a3, a4⟩⟩ := hB b (by simp)
    simp only [rightL] at k
    split at k
    · cases k
    · have := rightL_le (fun x hx => hB x (by simp [hx])) k; omega
theorem rightL_at {en p : Int} {xs : List (Int × Int)} {i : Nat} (hB : BlkOK xs) (hi : i < xs.length) (h : rightL en p (xs.drop i) = true) :
    (xs.getD i default).2 ≠ 0 ∧ p ≤ (xs.getD i default).1 ∧ (xs.getD i default).1 + (xs.getD i default).2 ≤ en ∧ rightL en ((xs.getD i default).1 + (xs.getD i default).2) (xs.drop (i + 1)) = true := by
  rw [rightL_drop hi] at h
  split at h
  · cases h
  · have := rightL_le (fun x hx => hB x (List.mem_of_mem_drop hx)) h
    exact ⟨by omega, by omega, by omega, h⟩
theorem placeR_in {en n : Int} : ∀ {xs : List (Int × Int)} {p : Int}, BlkOK xs → rightL en p xs = true → p ≤ (placeR n p xs).1 ∧ (placeR n p xs).1 ≤ en
  | [], p, _, k => by simp only [rightL, decide_eq_true_eq] at k; simp [placeR]; omega
  | b :: bl, p, hB, k => by
    obtain ⟨⟨a1, a2⟩, ⟨a3, a4⟩⟩ := hB b (by simp)
    have hle := rightL_le hB k
    simp only [rightL] at k
    split at k
    · cases k
    · have := placeR_in (n := n) (fun x hx => hB x (by simp [hx])) k
      rw [placeR]
      split
      · simp; omega
      · simp only; omega
theorem rightR_on {most st en : Int} {xs : List (Int × Int)} (hx : (xs.length : Int) ≠ 0) (h : rightR most st en xs = true) : 0 ≠ st ∧ st % 256 = 0 ∧ en % 256 = 0 ∧ en ≤ most ∧ rightL en st xs = true := by
  unfold rightR at h
  rw [if_neg hx] at h
  split at h
  · cases h
  · exact ⟨by omega, by omega, by omega, by omega, h⟩
def FInv (n p f : Int) (l : List (Int × Int)) : Prop := ((placeR n f l).1 = p ∧ rightL 65536 f l = true) ∨ (f = p ∧ rightL 65536 (p + n) l = true)
theorem first_step {xs : List (Int × Int)} {n p f : Int} {i : Nat} (hB : BlkOK xs) (hi : i < xs.length) (hn : 0 ≤ n) (hI : FInv n p f (xs.drop i)) :
    (xs.getD i default).2 ≠ 0 ∧ f ≤ (xs.getD i default).1 ∧ (xs.getD i default).1 + (xs.getD i default).2 ≤ 65536 ∧
      (((xs.getD i default).1 + (xs.getD i default).2 ≤ p ∧ (xs.getD i default).1 < f + n ∧ FInv n p ((xs.getD i default).1 + (xs.getD i default).2) (xs.drop (i + 1))) ∨ (p + n ≤ (xs.getD i default).1 ∧ f = p ∧ FInv n p f (xs.drop (i + 1)))) := by
  obtain ⟨⟨_, _⟩, ⟨b2, _⟩⟩ := hB.at i
  rcases hI with ⟨h1, h2⟩ | ⟨h1, h2⟩
  · obtain ⟨q1, q2, q3, q4⟩ := rightL_at hB hi h2
    refine ⟨q1, q2, q3, ?_⟩
    rw [placeR_drop hi] at h1
    split at h1
    · dsimp only at h1
      exact .inr ⟨by omega, h1, .inr ⟨h1, rightL_low (by omega) q4⟩⟩
    · dsimp only at h1
      have := placeR_in (n := n) (fun x hx => hB x (List.mem_of_mem_drop hx)) q4
      exact .inl ⟨by omega, by omega, .inl ⟨h1, q4⟩⟩
  · obtain ⟨q1, q2, q3, q4⟩ := rightL_at hB hi h2
    exact ⟨q1, by omega, q3, .inr ⟨by omega, h1, .inr ⟨h1, rightL_low (by omega) q4⟩⟩⟩
theorem old_blocks {σ : AState} {a : Option Addr} {l c : Nat} {zs : List (Int × Int)} (h : Row σ a l c 2 (rows eB zs)) : Old E0 σ a l c 2 (rows eB (zs.take l)) := by
  refine Old.pure ⟨_, h, ?_⟩
  rw [rows_take eB_len]
theorem BlkOK.take {zs : List (Int × Int)} (h : BlkOK zs) (l : Nat) : BlkOK (zs.take l) := fun x hx => h x (List.mem_of_mem_take hx)

theorem first_law {σ : AState} {a : Option Addr} {l c : Nat} {xs : List (Int × Int)} {n : Int} (h : Old E0 σ a l c 2 (rows eB xs)) (hB : BlkOK xs) (hn : 0 ≤ n ∧ n ≤ 65535) :
    SCall Try.prog E0 5 [.slice a l c, .int .u16 n] σ (fun v _ => v = .bool true) := by
  obtain rfl : xs.length = l := h.1.len eB_len (by decide)
  obtain ⟨n0, n1⟩ := hn
  have hEx0 : Ex none := .inl rfl
  by_cases hl : (xs.length : Int) > 300
  · refine k_fun Try.func5 rfl (m := 117) rfl fun B hD Q K => ?_
    have F := Facts.nil E0 σ
    refine k_seq (fun Q K => ?_)
    refine k_lin (fun W K => ?_)
    refine l_op 0 rfl rfl rfl rfl rfl ?_
    refine l_nil (WK.nx (by assumption) ?_)
    refine SeqK.nx (by assumption) ?_
    refine k_seq (fun Q K => ?_)
    refine k_seq (fun Q K => ?_)
    refine k_lin (fun W K => ?_)
    refine l_op 0 rfl rfl rfl rfl rfl ?_
    first | refine l_op 2 rfl rfl rfl rfl rfl ?_ | refine l_ln rfl rfl rfl rfl ?_
    refine l_cmp rfl rfl rfl rfl ?_
    refine l_nil (WK.nx (by assumption) ?_)
    refine SeqK.nx (by assumption) ?_
    refine l_cond rfl rfl (fun hc1 => ?_) (fun hc1 => ?_)
    · replace hc1 := of_decide_eq_true ((irr_eq _).symm.trans hc1)
      refine k_seq (fun Q K => ?_)
      refine k_lin (fun W K => ?_)
      refine l_callp F rfl rfl (by kernel_rfl) rfl rfl live_call (fun _ s F _ => ?_)
      (try dsimp only [n_1, n_2, n_3, n_4, List.append_nil, pk, n_5, n_6] at F)
      refine l_op 0 rfl rfl rfl rfl rfl ?_
      refine l_nil (WK.nx (by assumption) ?_)
      refine SeqK.nx (by assumption) ?_
      refine k_ret ?_
      refine SeqK.rt (by assumption) ?_
      refine FunK.rt (by assumption) rfl ?_
      -- leaf 1
      exact rfl
    replace hc1 := of_decide_eq_false ((irr_eq _).symm.trans hc1)
    omega
  by_cases hr : (loadR 1048576 0 0 [] 256 65536 xs).ret = 0 ∧ (xs.length : Int) ≠ 0
  · obtain ⟨hr, hx⟩ := hr
    have hrr : rightR 1048576 256 65536 xs = true := by
      unfold loadR at hr
      rw [if_neg (by omega)] at hr
      split at hr
      · cases hr
      · simp_all
    obtain ⟨_, _, _, _, hrl⟩ := rightR_on hx hrr
    have hlo : loadR 1048576 0 0 [] 256 65536 xs = ⟨0, true, 256, 65536, xs⟩ := by
      unfold loadR; rw [if_neg (by omega), if_neg (by simp [hrr])]
    have hp := placeR_in (n := n) hB hrl
    obtain ⟨r, hm, hm1⟩ : ∃ r, mallocR 1048576 256 65536 xs n 0 = r ∧ ((n = 0 ∧ r.ret = 0 ∧ r.ok = false) ∨ (n ≠ 0 ∧ r.ret = (placeR n 256 xs).1 ∧ r.ok = true)) := by
      by_cases h0 : n = 0
      · exact ⟨_, mallocR_none (.inl h0), .inl ⟨h0, rfl, rfl⟩⟩
      · rw [mallocR_on h0 (by intro h; rw [h] at hx; exact hx rfl) (by omega)]
        by_cases h1 : (placeR n 256 xs).1 + n ≤ 65536
        · exact ⟨_, mallocA_in rfl h1, .inr ⟨h0, rfl, rfl⟩⟩
        · exact ⟨_, mallocA_top rfl (by omega) (by omega) (by omega), .inr ⟨h0, rfl, rfl⟩⟩
    generalize hpe : (placeR n 256 xs).1 = p at *
    obtain ⟨p0, p1⟩ := hp
    refine k_fun Try.func5 rfl (m := 117) rfl fun B hD Q K => ?_
    have F := Facts.nil E0 σ
    refine k_seq (fun Q K => ?_)
    refine k_lin (fun W K => ?_)
    refine l_op 0 rfl rfl rfl rfl rfl ?_
    refine l_nil (WK.nx (by assumption) ?_)
    refine SeqK.nx (by assumption) ?_
    refine k_seq (fun Q K => ?_)
    refine k_seq (fun Q K => ?_)
    refine k_lin (fun W K => ?_)
    refine l_op 0 rfl rfl rfl rfl rfl ?_
    first | refine l_op 2 rfl rfl rfl rfl rfl ?_ | refine l_ln rfl rfl rfl rfl ?_
    refine l_cmp rfl rfl rfl rfl ?_
    refine l_nil (WK.nx (by assumption) ?_)
    refine SeqK.nx (by assumption) ?_
    refine l_cond rfl rfl (fun hc1 => ?_) (fun hc1 => ?_)
    · replace hc1 := of_decide_eq_true ((irr_eq _).symm.trans hc1)
      omega
    replace hc1 := of_decide_eq_false ((irr_eq _).symm.trans hc1)
    refine k_skip ?_
    refine SeqK.nx (by assumption) ?_
    refine k_seq (fun Q K => ?_)
    refine k_lin (fun W K => ?_)
    refine l_callp F rfl rfl (by kernel_rfl) rfl rfl (new_call (most := 1048576)) (fun m s F _ => ?_)
    (try dsimp only [n_1, n_2, n_3, n_4, List.append_nil, pk, n_5, n_6] at F)
    refine l_op 0 rfl rfl rfl rfl rfl ?_
    refine l_nil (WK.nx (by assumption) ?_)
    refine SeqK.nx (by assumption) ?_
    refine k_seq (fun Q K => ?_)
    refine k_seq (fun Q K => ?_)
    refine k_lin (fun W K => ?_)
    refine l_op 0 rfl rfl rfl rfl rfl ?_
    refine l_cmp rfl rfl rfl rfl ?_
    refine l_nil (WK.nx (by assumption) ?_)
    refine SeqK.nx (by assumption) ?_
    refine l_cond rfl rfl (fun hc2 => ?_) (fun hc2 => ?_)
    · exact absurd ((irr_eq _).symm.trans hc2) (by decide)
    first | replace hc2 := ne_of_beq_false ((irr_eq _).symm.trans hc2) | simp only [irr_eq, beq_iff_eq, beq_eq_false_iff_ne, ne_eq, decide_eq_true_eq, decide_eq_false_iff_not] at hc2
    refine k_skip ?_
    refine SeqK.nx (by assumption) ?_
    refine k_seq (fun Q K => ?_)
    refine k_seq (fun Q K => ?_)
    refine k_lin (fun W K => ?_)
    refine l_op 0 rfl rfl rfl rfl rfl ?_
    refine l_op 0 rfl rfl rfl rfl rfl ?_
    refine l_call F [0, 1] [] (by decide) rfl rfl (by kernel_rfl) rfl rfl (load_call (F.sub [0, 1] (by decide)) hEx0 (F.oldO h [0, 1]) hB (by decide) (by decide)) hD (fun y1 s F hy1 => ?_)
    (try dsimp only [n_1, n_2, n_3, n_4, List.append_nil, pk, n_5, n_6] at F)
    rw [hlo] at F
    refine l_callp F rfl rfl (by kernel_rfl) rfl rfl num_call (fun _ s F _ => ?_)
    (try dsimp only [n_1, n_2, n_3, n_4, List.append_nil, pk, n_5, n_6] at F)
    refine l_cmp rfl rfl rfl rfl ?_
    refine l_op 0 rfl rfl rfl rfl rfl ?_
    refine l_guard rfl rfl rfl (fun hc3 => ?_) (fun hc3 => ?_)
    · first | replace hc3 := bne_iff_ne.1 ((irr_eq _).symm.trans hc3) | simp only [irr_eq, bne_iff_ne, bne_eq_false_iff_eq, ne_eq, decide_eq_true_eq, decide_eq_false_iff_not, Bool.not_eq_true', Bool.not_eq_false'] at hc3
      omega
    first | replace hc3 := bne_eq_false_iff_eq.1 ((irr_eq _).symm.trans hc3) | simp only [irr_eq, bne_iff_ne, bne_eq_false_iff_eq, ne_eq, decide_eq_true_eq, decide_eq_false_iff_not, Bool.not_eq_true', Bool.not_eq_false'] at hc3
    refine l_op 0 rfl rfl rfl rfl rfl ?_
    first | refine l_op 2 rfl rfl rfl rfl rfl ?_ | refine l_ln rfl rfl rfl rfl ?_
    refine l_cmp rfl rfl rfl rfl ?_
    refine l_op 2 rfl rfl rfl rfl rfl ?_
    refine l_nil (WK.nx (by assumption) ?_)
    refine SeqK.nx (by assumption) ?_
    refine l_cond rfl rfl (fun hc4 => ?_) (fun hc4 => ?_)
    · first | replace hc4 := eq_of_beq ((irr_eq _).symm.trans hc4) | simp only [irr_eq, beq_iff_eq, beq_eq_false_iff_ne, ne_eq, decide_eq_true_eq, decide_eq_false_iff_not] at hc4
      omega
    first | replace hc4 := ne_of_beq_false ((irr_eq _).symm.trans hc4) | simp only [irr_eq, beq_iff_eq, beq_eq_false_iff_ne, ne_eq, decide_eq_true_eq, decide_eq_false_iff_not] at hc4
    refine k_skip ?_
    refine SeqK.nx (by assumption) ?_
    refine k_seq (fun Q K => ?_)
    refine k_lin (fun W K => ?_)
    refine l_op 0 rfl rfl rfl rfl rfl ?_
    refine l_op 0 rfl rfl rfl rfl rfl ?_
    refine l_c32 rfl rfl rfl (by omega) rfl ?_
    refine l_call F [0, 1] [] (by decide) rfl rfl (by kernel_rfl) rfl rfl (malloc_callR hm (F.sub [0, 1] (by decide)) hy1 hB (by omega) (by decide) (by decide) (by decide) ⟨by omega, by omega⟩ (by decide)) hD (fun y2 s F hy2 => ?_)
    (try dsimp only [n_1, n_2, n_3, n_4, List.append_nil, pk, n_5, n_6] at F)
    refine l_op 0 rfl rfl rfl rfl rfl ?_
    refine l_op 2 rfl rfl rfl rfl rfl ?_
    refine l_op 2 rfl rfl rfl rfl rfl ?_
    refine l_op 0 rfl rfl rfl rfl rfl ?_
    refine l_op 0 rfl rfl rfl rfl rfl ?_
    refine l_nil (WK.nx (by assumption) ?_)
    refine SeqK.nx (by assumption) ?_
    refine k_seq (fun Q K => ?_)
    refine k_seq (fun Q K => ?_)
    refine k_lin (fun W K => ?_)
    refine l_op 0 rfl rfl rfl rfl rfl ?_
    refine l_cmp rfl rfl rfl rfl ?_
    refine l_nil (WK.nx (by assumption) ?_)
    refine SeqK.nx (by assumption) ?_
    refine l_cond rfl rfl (fun hc5 => ?_) (fun hc5 => ?_)
    · first | replace hc5 := eq_of_beq ((irr_eq _).symm.trans hc5) | simp only [irr_eq, beq_iff_eq, beq_eq_false_iff_ne, ne_eq, decide_eq_true_eq, decide_eq_false_iff_not] at hc5
      refine k_seq (fun Q K => ?_)
      refine k_lin (fun W K => ?_)
      refine l_op 0 rfl rfl rfl rfl rfl ?_
      refine l_op 2 rfl rfl rfl rfl rfl ?_
      refine l_op 0 rfl rfl rfl rfl rfl ?_
      refine l_guard rfl rfl rfl (fun hc6 => ?_) (fun hc6 => ?_)
      · try simp only [irr_eq, beq_iff_eq, bne_iff_ne, beq_eq_false_iff_ne, bne_eq_false_iff_eq, ne_eq, decide_eq_true_eq, decide_eq_false_iff_not, Bool.not_eq_true', Bool.not_eq_false'] at hc6
        refine l_op 0 rfl rfl rfl rfl rfl ?_
        refine l_cmp rfl rfl rfl rfl ?_
        refine l_op 2 rfl rfl rfl rfl rfl ?_
        refine l_op 0 rfl rfl rfl rfl rfl ?_
        refine l_guard rfl rfl rfl (fun hc7 => ?_) (fun hc7 => ?_)
        · first | replace hc7 := eq_of_beq ((irr_eq _).symm.trans hc7) | simp only [irr_eq, beq_iff_eq, beq_eq_false_iff_ne, ne_eq, decide_eq_true_eq, decide_eq_false_iff_not] at hc7
          refine l_callp F rfl rfl (by kernel_rfl) rfl rfl live_call (fun _ s F _ => ?_)
          (try dsimp only [n_1, n_2, n_3, n_4, List.append_nil, pk, n_5, n_6] at F)
          refine l_op 2 rfl rfl rfl rfl rfl ?_
          refine l_op 0 rfl rfl rfl rfl rfl ?_
          refine l_nil (WK.nx (by assumption) ?_)
          refine SeqK.nx (by assumption) ?_
          refine k_ret ?_
          refine SeqK.rt (by assumption) ?_
          refine FunK.rt (by assumption) rfl ?_
          -- leaf 1
          exact rfl
        first | replace hc7 := ne_of_beq_false ((irr_eq _).symm.trans hc7) | simp only [irr_eq, beq_iff_eq, beq_eq_false_iff_ne, ne_eq, decide_eq_true_eq, decide_eq_false_iff_not] at hc7
        rcases hm1 with ⟨a1, a2, a3⟩ | ⟨a1, a2, a3⟩
        · exact absurd a2 hc7
        · exact absurd hc5 a1
      try simp only [irr_eq, beq_iff_eq, bne_iff_ne, beq_eq_false_iff_ne, bne_eq_false_iff_eq, ne_eq, decide_eq_true_eq, decide_eq_false_iff_not, Bool.not_eq_true', Bool.not_eq_false'] at hc6
      rcases hm1 with ⟨a1, a2, a3⟩ | ⟨a1, a2, a3⟩
      · exact absurd (a3.symm.trans hc6) (by decide)
      · exact absurd hc5 a1
    first | replace hc5 := ne_of_beq_false ((irr_eq _).symm.trans hc5) | simp only [irr_eq, beq_iff_eq, beq_eq_false_iff_ne, ne_eq, decide_eq_true_eq, decide_eq_false_iff_not] at hc5
    refine k_skip ?_
    refine SeqK.nx (by assumption) ?_
    refine k_seq (fun Q K => ?_)
    refine k_seq (fun Q K => ?_)
    refine k_lin (fun W K => ?_)
    refine l_op 0 rfl rfl rfl rfl rfl ?_
    refine l_op 2 rfl rfl rfl rfl rfl ?_
    refine l_op 0 rfl rfl rfl rfl rfl ?_
    refine l_guard rfl rfl rfl (fun hc8 => ?_) (fun hc8 => ?_)
    · try simp only [irr_eq, beq_iff_eq, bne_iff_ne, beq_eq_false_iff_ne, bne_eq_false_iff_eq, ne_eq, decide_eq_true_eq, decide_eq_false_iff_not, Bool.not_eq_true', Bool.not_eq_false'] at hc8
      rcases hm1 with ⟨a1, a2, a3⟩ | ⟨a1, a2, a3⟩
      · exact absurd a1 hc5
      · exact absurd (a3.symm.trans hc8) (by decide)
    try simp only [irr_eq, beq_iff_eq, bne_iff_ne, beq_eq_false_iff_ne, bne_eq_false_iff_eq, ne_eq, decide_eq_true_eq, decide_eq_false_iff_not, Bool.not_eq_true', Bool.not_eq_false'] at hc8
    refine l_op 0 rfl rfl rfl rfl rfl ?_
    refine l_cmp rfl rfl rfl rfl ?_
    refine l_op 2 rfl rfl rfl rfl rfl ?_
    refine l_nil (WK.nx (by assumption) ?_)
    refine SeqK.nx (by assumption) ?_
    refine l_cond rfl rfl (fun hc9 => ?_) (fun hc9 => ?_)
    · replace hc9 := of_decide_eq_true ((irr_eq _).symm.trans hc9)
      rcases hm1 with ⟨a1, a2, a3⟩ | ⟨a1, a2, a3⟩
      · exact absurd a1 hc5
      · omega
    replace hc9 := of_decide_eq_false ((irr_eq _).symm.trans hc9)
    refine k_skip ?_
    refine SeqK.nx (by assumption) ?_
    refine k_seq (fun Q K => ?_)
    refine k_lin (fun W K => ?_)
    refine l_op 0 rfl rfl rfl rfl rfl ?_
    refine l_nil (WK.nx (by assumption) ?_)
    refine SeqK.nx (by assumption) ?_
    refine k_seq (fun Q K => ?_)
    refine k_seq (fun Q K => ?_)
    refine k_lin (fun W K => ?_)
    refine l_op 0 rfl rfl rfl rfl rfl ?_
    refine l_nil (WK.nx (by assumption) ?_)
    refine SeqK.nx (by assumption) ?_
    refine k_block (fun Q K => ?_)
    rcases hm1 with ⟨a1, a2, a3⟩ | ⟨a1, a2, a3⟩
    · exact absurd a1 hc5
    refine k_loop (α := Int × Int) (fun ⟨i, f⟩ s => Facts E0 σ s [] ∧ 0 ≤ i ∧ i ≤ xs.length ∧ 256 ≤ f ∧ f ≤ 65536 ∧ FInv n p f (xs.drop i.toNat)) (fun ⟨i, f⟩ => [(0, .slice a xs.length c), (1, .int .u16 n), (6, .int .u32 r.ret), (8, .int .u32 f), (9, .int .i64 i)]) (fun ⟨i, _⟩ => (xs.length - i).toNat) (0, 256) ⟨F.pick [] (by decide), by omega, by omega, by omega, by omega, .inl ⟨hpe, hrl⟩⟩ (by repeat (first | exact trivial | refine And.intro rfl ?_)) ?_
    clear F
    rintro ⟨i, f⟩ env s Q K0 ⟨F, i0, i1, f0, f1, hI⟩
    obtain ⟨⟨b0, b1⟩, ⟨b2, b3⟩⟩ := hB.at i.toNat
    refine k_seq (fun Q K => ?_)
    refine k_seq (fun Q K => ?_)
    refine k_lin (fun W K => ?_)
    refine l_op 0 rfl rfl rfl rfl rfl ?_
    refine l_op 0 rfl rfl rfl rfl rfl ?_
    first | refine l_op 2 rfl rfl rfl rfl rfl ?_ | refine l_ln rfl rfl rfl rfl ?_
    refine l_cmp rfl rfl rfl rfl ?_
    refine l_nil (WK.nx (by assumption) ?_)
    refine SeqK.nx (by assumption) ?_
    refine l_cond rfl rfl (fun hc10 => ?_) (fun hc10 => ?_)
    · replace hc10 := of_decide_eq_true ((irr_eq _).symm.trans hc10)
      obtain ⟨g1, g2, g3, hd⟩ := first_step hB (by omega) n0 hI
      refine k_skip ?_
      refine SeqK.nx (by assumption) ?_
      refine k_seq (fun Q K => ?_)
      refine k_block (fun Q K => ?_)
      refine k_seq (fun Q K => ?_)
      refine k_seq (fun Q K => ?_)
      refine k_linm [0, 1, 2, 3, 4, 6, 7, 8, 9, 5, 10, 11, 12, 13, 14, 15, 16, 17, 19, 20, 18, 21, 22, 23, 24] mixed (by kernel_rfl) (fun W K => ?_)
      try have hpS := F.pns
      refine l_op 0 rfl rfl rfl rfl rfl ?_
      refine l_op 0 rfl rfl rfl rfl rfl ?_
      refine l_op 0 rfl rfl rfl rfl rfl ?_
      first | refine l_ixrs (e := eB) F (by assumption) rfl rfl rfl rfl rfl rfl ⟨eB_len, by decide⟩ (by omega) (fun m61 b61 hA61 hS61 => ?_) | refine l_ixr (e := eB) rfl rfl rfl rfl rfl rfl (F.old (by assumption)) ⟨eB_len, by decide⟩ (by omega) (fun m61 b61 hA61 => ?_)
      refine l_op 2 rfl rfl rfl rfl rfl ?_
      refine l_op 0 rfl rfl rfl rfl rfl ?_
      refine l_op 0 rfl rfl rfl rfl rfl ?_
      first | refine l_ixrs (e := eB) F (by assumption) rfl rfl rfl rfl rfl rfl ⟨eB_len, by decide⟩ (by omega) (fun m66 b66 hA66 hS66 => ?_) | refine l_ixr (e := eB) rfl rfl rfl rfl rfl rfl (F.old (by assumption)) ⟨eB_len, by decide⟩ (by omega) (fun m66 b66 hA66 => ?_)
      refine l_op 2 rfl rfl rfl rfl rfl ?_
      refine l_ld0 rfl rfl rfl rfl rfl (by assumption) ?_
      first | have hpS := PnS.add hpS hS61 | have hpS := PnS.add hpS (OldC.sf (by assumption)) | skip
      refine l_ldj rfl rfl rfl rfl rfl rfl (by assumption) rfl ?_
      first | have hpS := PnS.add hpS hS66 | have hpS := PnS.add hpS (OldC.sf (by assumption)) | skip
      refine l_a32 rfl rfl rfl (by omega) rfl ?_
      refine l_cmp rfl rfl rfl rfl ?_
      refine l_op 0 rfl rfl rfl rfl rfl ?_
      refine l_guard rfl rfl rfl (fun hc11 => ?_) (fun hc11 => ?_)
      · replace hc11 := of_decide_eq_true ((irr_eq _).symm.trans hc11)
        refine l_op 0 rfl rfl rfl rfl rfl ?_
        refine l_op 0 rfl rfl rfl rfl rfl ?_
        first | refine l_ixrs (e := eB) F (by assumption) rfl rfl rfl rfl rfl rfl ⟨eB_len, by decide⟩ (by omega) (fun m74 b74 hA74 hS74 => ?_) | refine l_ixr (e := eB) rfl rfl rfl rfl rfl rfl (F.old (by assumption)) ⟨eB_len, by decide⟩ (by omega) (fun m74 b74 hA74 => ?_)
        refine l_op 2 rfl rfl rfl rfl rfl ?_
        refine l_op 0 rfl rfl rfl rfl rfl ?_
        refine l_op 0 rfl rfl rfl rfl rfl ?_
        refine l_ld0 rfl rfl rfl rfl rfl (by assumption) ?_
        first | have hpS := PnS.add hpS hS74 | have hpS := PnS.add hpS (OldC.sf (by assumption)) | skip
        refine l_c32 rfl rfl rfl (by omega) rfl ?_
        refine l_a32 rfl rfl rfl (by omega) rfl ?_
        refine l_cmp rfl rfl rfl rfl ?_
        refine l_op 2 rfl rfl rfl rfl rfl ?_
        refine l_nil (WK.nx (by assumption) ?_)
        refine SeqK.nx (by assumption) ?_
        refine l_cond rfl rfl (fun hc12 => ?_) (fun hc12 => ?_)
        · replace hc12 := of_decide_eq_true ((irr_eq _).symm.trans hc12)
          omega
        replace hc12 := of_decide_eq_false ((irr_eq _).symm.trans hc12)
        refine k_skip ?_
        refine SeqK.nx (by assumption) ?_
        refine k_seq (fun Q K => ?_)
        refine k_lin (fun W K => ?_)
        refine l_op 0 rfl rfl rfl rfl rfl ?_
        refine l_op 0 rfl rfl rfl rfl rfl ?_
        first | refine l_ixrs (e := eB) F (by assumption) rfl rfl rfl rfl rfl rfl ⟨eB_len, by decide⟩ (by omega) (fun m85 b85 hA85 hS85 => ?_) | refine l_ixr (e := eB) rfl rfl rfl rfl rfl rfl (F.old (by assumption)) ⟨eB_len, by decide⟩ (by omega) (fun m85 b85 hA85 => ?_)
        refine l_op 2 rfl rfl rfl rfl rfl ?_
        refine l_ld0 rfl rfl rfl rfl rfl (by assumption) ?_
        refine l_op 0 rfl rfl rfl rfl rfl ?_
        refine l_cmp rfl rfl rfl rfl ?_
        refine l_nil (WK.nx (by assumption) ?_)
        refine SeqK.nx (by assumption) ?_
        refine l_cond rfl rfl (fun hc13 => ?_) (fun hc13 => ?_)
        · replace hc13 := of_decide_eq_true ((irr_eq _).symm.trans hc13)
          refine k_seq (fun Q K => ?_)
          refine k_seq (fun Q K => ?_)
          refine k_lin (fun W K => ?_)
          refine l_op 0 rfl rfl rfl rfl rfl ?_
          refine l_op 0 rfl rfl rfl rfl rfl ?_
          first | refine l_ixrs (e := eB) F (by assumption) rfl rfl rfl rfl rfl rfl ⟨eB_len, by decide⟩ (by omega) (fun m92 b92 hA92 hS92 => ?_) | refine l_ixr (e := eB) rfl rfl rfl rfl rfl rfl (F.old (by assumption)) ⟨eB_len, by decide⟩ (by omega) (fun m92 b92 hA92 => ?_)
          refine l_op 2 rfl rfl rfl rfl rfl ?_
          refine l_ld0 rfl rfl rfl rfl rfl (by assumption) ?_
          refine l_op 0 rfl rfl rfl rfl rfl ?_
          refine l_a32 rfl rfl rfl (by omega) rfl ?_
          refine l_op 0 rfl rfl rfl rfl rfl ?_
          refine l_c32 rfl rfl rfl (by omega) rfl ?_
          refine l_cmp rfl rfl rfl rfl ?_
          refine l_nil (WK.nx (by assumption) ?_)
          refine SeqK.nx (by assumption) ?_
          refine l_cond rfl rfl (fun hc14 => ?_) (fun hc14 => ?_)
          · replace hc14 := of_decide_eq_true ((irr_eq _).symm.trans hc14)
            omega
          replace hc14 := of_decide_eq_false ((irr_eq _).symm.trans hc14)
          refine k_skip ?_
          refine SeqK.nx (by assumption) ?_
          refine k_linm [0, 1, 2, 3, 5, 6, 7, 8, 4, 9, 10, 11] mixed (by kernel_rfl) (fun W K => ?_)
          try have hpS := F.pns
          refine l_op 0 rfl rfl rfl rfl rfl ?_
          refine l_op 0 rfl rfl rfl rfl rfl ?_
          first | refine l_ixrs (e := eB) F (by assumption) rfl rfl rfl rfl rfl rfl ⟨eB_len, by decide⟩ (by omega) (fun m102 b102 hA102 hS102 => ?_) | refine l_ixr (e := eB) rfl rfl rfl rfl rfl rfl (F.old (by assumption)) ⟨eB_len, by decide⟩ (by omega) (fun m102 b102 hA102 => ?_)
          refine l_op 2 rfl rfl rfl rfl rfl ?_
          refine l_op 0 rfl rfl rfl rfl rfl ?_
          refine l_op 0 rfl rfl rfl rfl rfl ?_
          first | refine l_ixrs (e := eB) F (by assumption) rfl rfl rfl rfl rfl rfl ⟨eB_len, by decide⟩ (by omega) (fun m107 b107 hA107 hS107 => ?_) | refine l_ixr (e := eB) rfl rfl rfl rfl rfl rfl (F.old (by assumption)) ⟨eB_len, by decide⟩ (by omega) (fun m107 b107 hA107 => ?_)
          refine l_op 2 rfl rfl rfl rfl rfl ?_
          refine l_ld0 rfl rfl rfl rfl rfl (by assumption) ?_
          first | have hpS := PnS.add hpS hS102 | have hpS := PnS.add hpS (OldC.sf (by assumption)) | skip
          refine l_ldj rfl rfl rfl rfl rfl rfl (by assumption) rfl ?_
          first | have hpS := PnS.add hpS hS107 | have hpS := PnS.add hpS (OldC.sf (by assumption)) | skip
          refine l_a32 rfl rfl rfl (by omega) rfl ?_
          refine l_op 0 rfl rfl rfl rfl rfl ?_
          refine l_nil (WK.nx (by assumption) ?_)
          refine BlkK.nx (by assumption) ?_
          refine SeqK.nx (by assumption) ?_
          refine k_lin (fun W K => ?_)
          refine l_op 0 rfl rfl rfl rfl rfl ?_
          refine l_a64 rfl rfl rfl (by omega) rfl ?_
          refine l_op 0 rfl rfl rfl rfl rfl ?_
          refine l_nil (WK.nx (by assumption) ?_)
          have e1 : (i + 1).toNat = i.toNat + 1 := by omega
          have F' := F.pick [] (by decide)
          exact K0.nx (i + 1, _) (by repeat (first | exact trivial | refine And.intro rfl ?_)) ⟨F', by omega, by omega, by omega, by omega, by rw [e1]; rcases hd with ⟨d1, d2, d3⟩ | ⟨d1, d2, d3⟩ <;> first | exact d3 | (exfalso; omega)⟩ (by first | omega | (simp only; omega))
        replace hc13 := of_decide_eq_false ((irr_eq _).symm.trans hc13)
        refine k_skip ?_
        refine BlkK.nx (by assumption) ?_
        refine SeqK.nx (by assumption) ?_
        refine k_lin (fun W K => ?_)
        refine l_op 0 rfl rfl rfl rfl rfl ?_
        refine l_a64 rfl rfl rfl (by omega) rfl ?_
        refine l_op 0 rfl rfl rfl rfl rfl ?_
        refine l_nil (WK.nx (by assumption) ?_)
        have e1 : (i + 1).toNat = i.toNat + 1 := by omega
        have F' := F.pick [] (by decide)
        exact K0.nx (i + 1, _) (by repeat (first | exact trivial | refine And.intro rfl ?_)) ⟨F', by omega, by omega, by omega, by omega, by rw [e1]; rcases hd with ⟨d1, d2, d3⟩ | ⟨d1, d2, d3⟩ <;> first | exact d3 | (exfalso; omega)⟩ (by first | omega | (simp only; omega))
      replace hc11 := of_decide_eq_false ((irr_eq _).symm.trans hc11)
      refine l_s rfl rfl ?_
      refine l_s rfl rfl ?_
      refine l_s rfl rfl ?_
      refine l_s rfl rfl ?_
      refine l_s rfl rfl ?_
      refine l_s rfl rfl ?_
      refine l_s rfl rfl ?_
      refine l_s rfl rfl ?_
      refine l_s rfl rfl ?_
      refine l_s rfl rfl ?_
      refine l_op 2 rfl rfl rfl rfl rfl ?_
      refine l_nil (WK.nx (by assumption) ?_)
      refine SeqK.nx (by assumption) ?_
      first | refine e_cond_f rfl rfl rfl ?_ | refine e_cond_f rfl rfl (by rw [irr_eq]; first | exact beq_eq_false_iff_ne.2 (by assumption) | exact decide_eq_false (by assumption) | exact bne_eq_false_iff_eq.2 (by assumption)) ?_
      refine k_skip ?_
      refine SeqK.nx (by assumption) ?_
      refine k_seq (fun Q K => ?_)
      refine k_lin (fun W K => ?_)
      refine l_op 0 rfl rfl rfl rfl rfl ?_
      refine l_op 0 rfl rfl rfl rfl rfl ?_
      first | refine l_ixrs (e := eB) F (by assumption) rfl rfl rfl rfl rfl rfl ⟨eB_len, by decide⟩ (by omega) (fun m85 b85 hA85 hS85 => ?_) | refine l_ixr (e := eB) rfl rfl rfl rfl rfl rfl (F.old (by assumption)) ⟨eB_len, by decide⟩ (by omega) (fun m85 b85 hA85 => ?_)
      refine l_op 2 rfl rfl rfl rfl rfl ?_
      refine l_ld0 rfl rfl rfl rfl rfl (by assumption) ?_
      refine l_op 0 rfl rfl rfl rfl rfl ?_
      refine l_cmp rfl rfl rfl rfl ?_
      refine l_nil (WK.nx (by assumption) ?_)
      refine SeqK.nx (by assumption) ?_
      refine l_cond rfl rfl (fun hc15 => ?_) (fun hc15 => ?_)
      · replace hc15 := of_decide_eq_true ((irr_eq _).symm.trans hc15)
        refine k_seq (fun Q K => ?_)
        refine k_seq (fun Q K => ?_)
        refine k_lin (fun W K => ?_)
        refine l_op 0 rfl rfl rfl rfl rfl ?_
        refine l_op 0 rfl rfl rfl rfl rfl ?_
        first | refine l_ixrs (e := eB) F (by assumption) rfl rfl rfl rfl rfl rfl ⟨eB_len, by decide⟩ (by omega) (fun m92 b92 hA92 hS92 => ?_) | refine l_ixr (e := eB) rfl rfl rfl rfl rfl rfl (F.old (by assumption)) ⟨eB_len, by decide⟩ (by omega) (fun m92 b92 hA92 => ?_)
        refine l_op 2 rfl rfl rfl rfl rfl ?_
        refine l_ld0 rfl rfl rfl rfl rfl (by assumption) ?_
        refine l_op 0 rfl rfl rfl rfl rfl ?_
        refine l_a32 rfl rfl rfl (by omega) rfl ?_
        refine l_op 0 rfl rfl rfl rfl rfl ?_
        refine l_c32 rfl rfl rfl (by omega) rfl ?_
        refine l_cmp rfl rfl rfl rfl ?_
        refine l_nil (WK.nx (by assumption) ?_)
        refine SeqK.nx (by assumption) ?_
        refine l_cond rfl rfl (fun hc16 => ?_) (fun hc16 => ?_)
        · replace hc16 := of_decide_eq_true ((irr_eq _).symm.trans hc16)
          omega
        replace hc16 := of_decide_eq_false ((irr_eq _).symm.trans hc16)
        refine k_skip ?_
        refine SeqK.nx (by assumption) ?_
        refine k_linm [0, 1, 2, 3, 5, 6, 7, 8, 4, 9, 10, 11] mixed (by kernel_rfl) (fun W K => ?_)
        try have hpS := F.pns
        refine l_op 0 rfl rfl rfl rfl rfl ?_
        refine l_op 0 rfl rfl rfl rfl rfl ?_
        first | refine l_ixrs (e := eB) F (by assumption) rfl rfl rfl rfl rfl rfl ⟨eB_len, by decide⟩ (by omega) (fun m102 b102 hA102 hS102 => ?_) | refine l_ixr (e := eB) rfl rfl rfl rfl rfl rfl (F.old (by assumption)) ⟨eB_len, by decide⟩ (by omega) (fun m102 b102 hA102 => ?_)
        refine l_op 2 rfl rfl rfl rfl rfl ?_
        refine l_op 0 rfl rfl rfl rfl rfl ?_
        refine l_op 0 rfl rfl rfl rfl rfl ?_
        first | refine l_ixrs (e := eB) F (by assumption) rfl rfl rfl rfl rfl rfl ⟨eB_len, by decide⟩ (by omega) (fun m107 b107 hA107 hS107 => ?_) | refine l_ixr (e := eB) rfl rfl rfl rfl rfl rfl (F.old (by assumption)) ⟨eB_len, by decide⟩ (by omega) (fun m107 b107 hA107 => ?_)
        refine l_op 2 rfl rfl rfl rfl rfl ?_
        refine l_ld0 rfl rfl rfl rfl rfl (by assumption) ?_
        first | have hpS := PnS.add hpS hS102 | have hpS := PnS.add hpS (OldC.sf (by assumption)) | skip
        refine l_ldj rfl rfl rfl rfl rfl rfl (by assumption) rfl ?_
        first | have hpS := PnS.add hpS hS107 | have hpS := PnS.add hpS (OldC.sf (by assumption)) | skip
        refine l_a32 rfl rfl rfl (by omega) rfl ?_
        refine l_op 0 rfl rfl rfl rfl rfl ?_
        refine l_nil (WK.nx (by assumption) ?_)
        refine BlkK.nx (by assumption) ?_
        refine SeqK.nx (by assumption) ?_
        refine k_lin (fun W K => ?_)
        refine l_op 0 rfl rfl rfl rfl rfl ?_
        refine l_a64 rfl rfl rfl (by omega) rfl ?_
        refine l_op 0 rfl rfl rfl rfl rfl ?_
        refine l_nil (WK.nx (by assumption) ?_)
        have e1 : (i + 1).toNat = i.toNat + 1 := by omega
        have F' := F.pick [] (by decide)
        exact K0.nx (i + 1, _) (by repeat (first | exact trivial | refine And.intro rfl ?_)) ⟨F', by omega, by omega, by omega, by omega, by rw [e1]; rcases hd with ⟨d1, d2, d3⟩ | ⟨d1, d2, d3⟩ <;> first | exact d3 | (exfalso; omega)⟩ (by first | omega | (simp only; omega))
      replace hc15 := of_decide_eq_false ((irr_eq _).symm.trans hc15)
      refine k_skip ?_
      refine BlkK.nx (by assumption) ?_
      refine SeqK.nx (by assumption) ?_
      refine k_lin (fun W K => ?_)
      refine l_op 0 rfl rfl rfl rfl rfl ?_
      refine l_a64 rfl rfl rfl (by omega) rfl ?_
      refine l_op 0 rfl rfl rfl rfl rfl ?_
      refine l_nil (WK.nx (by assumption) ?_)
      have e1 : (i + 1).toNat = i.toNat + 1 := by omega
      have F' := F.pick [] (by decide)
      exact K0.nx (i + 1, _) (by repeat (first | exact trivial | refine And.intro rfl ?_)) ⟨F', by omega, by omega, by omega, by omega, by rw [e1]; rcases hd with ⟨d1, d2, d3⟩ | ⟨d1, d2, d3⟩ <;> first | exact d3 | (exfalso; omega)⟩ (by first | omega | (simp only; omega))
    replace hc10 := of_decide_eq_false ((irr_eq _).symm.trans hc10)
    rw [List.drop_of_length_le (by omega)] at hI
    have hfp : f = p := by
      rcases hI with ⟨h, _⟩ | ⟨h, _⟩
      · exact h
      · exact h
    refine k_exit ?_
    refine SeqK.et (by assumption) ?_
    refine LoopK.et (by assumption) ?_
    refine BlkK.et (by assumption) ?_
    refine SeqK.nx (by assumption) ?_
    refine k_seq (fun Q K => ?_)
    refine k_lin (fun W K => ?_)
    refine l_op 0 rfl rfl rfl rfl rfl ?_
    refine l_op 0 rfl rfl rfl rfl rfl ?_
    refine l_cmp rfl rfl rfl rfl ?_
    refine l_op 0 rfl rfl rfl rfl rfl ?_
    refine l_guard rfl rfl rfl (fun hc17 => ?_) (fun hc17 => ?_)
    · first | replace hc17 := eq_of_beq ((irr_eq _).symm.trans hc17) | simp only [irr_eq, beq_iff_eq, beq_eq_false_iff_ne, ne_eq, decide_eq_true_eq, decide_eq_false_iff_not] at hc17
      refine l_callp F rfl rfl (by kernel_rfl) rfl rfl live_call (fun _ s F _ => ?_)
      (try dsimp only [n_1, n_2, n_3, n_4, List.append_nil, pk, n_5, n_6] at F)
      refine l_op 2 rfl rfl rfl rfl rfl ?_
      refine l_op 0 rfl rfl rfl rfl rfl ?_
      refine l_nil (WK.nx (by assumption) ?_)
      refine SeqK.nx (by assumption) ?_
      refine k_ret ?_
      refine FunK.rt (by assumption) rfl ?_
      -- leaf 2
      exact rfl
    first | replace hc17 := ne_of_beq_false ((irr_eq _).symm.trans hc17) | simp only [irr_eq, beq_iff_eq, beq_eq_false_iff_ne, ne_eq, decide_eq_true_eq, decide_eq_false_iff_not] at hc17
    omega
  · refine k_fun Try.func5 rfl (m := 117) rfl fun B hD Q K => ?_
    have F := Facts.nil E0 σ
    refine k_seq (fun Q K => ?_)
    refine k_lin (fun W K => ?_)
    refine l_op 0 rfl rfl rfl rfl rfl ?_
    refine l_nil (WK.nx (by assumption) ?_)
    refine SeqK.nx (by assumption) ?_
    refine k_seq (fun Q K => ?_)
    refine k_seq (fun Q K => ?_)
    refine k_lin (fun W K => ?_)
    refine l_op 0 rfl rfl rfl rfl rfl ?_
    first | refine l_op 2 rfl rfl rfl rfl rfl ?_ | refine l_ln rfl rfl rfl rfl ?_
    refine l_cmp rfl rfl rfl rfl ?_
    refine l_nil (WK.nx (by assumption) ?_)
    refine SeqK.nx (by assumption) ?_
    refine l_cond rfl rfl (fun hc1 => ?_) (fun hc1 => ?_)
    · replace hc1 := of_decide_eq_true ((irr_eq _).symm.trans hc1)
      omega
    replace hc1 := of_decide_eq_false ((irr_eq _).symm.trans hc1)
    refine k_skip ?_
    refine SeqK.nx (by assumption) ?_
    refine k_seq (fun Q K => ?_)
    refine k_lin (fun W K => ?_)
    refine l_callp F rfl rfl (by kernel_rfl) rfl rfl (new_call (most := 1048576)) (fun m s F _ => ?_)
    (try dsimp only [n_1, n_2, n_3, n_4, List.append_nil, pk, n_5, n_6] at F)
    refine l_op 0 rfl rfl rfl rfl rfl ?_
    refine l_nil (WK.nx (by assumption) ?_)
    refine SeqK.nx (by assumption) ?_
    refine k_seq (fun Q K => ?_)
    refine k_seq (fun Q K => ?_)
    refine k_lin (fun W K => ?_)
    refine l_op 0 rfl rfl rfl rfl rfl ?_
    refine l_cmp rfl rfl rfl rfl ?_
    refine l_nil (WK.nx (by assumption) ?_)
    refine SeqK.nx (by assumption) ?_
    refine l_cond rfl rfl (fun hc2 => ?_) (fun hc2 => ?_)
    · exact absurd ((irr_eq _).symm.trans hc2) (by decide)
    first | replace hc2 := ne_of_beq_false ((irr_eq _).symm.trans hc2) | simp only [irr_eq, beq_iff_eq, beq_eq_false_iff_ne, ne_eq, decide_eq_true_eq, decide_eq_false_iff_not] at hc2
    refine k_skip ?_
    refine SeqK.nx (by assumption) ?_
    refine k_seq (fun Q K => ?_)
    refine k_seq (fun Q K => ?_)
    refine k_lin (fun W K => ?_)
    refine l_op 0 rfl rfl rfl rfl rfl ?_
    refine l_op 0 rfl rfl rfl rfl rfl ?_
    refine l_call F [0, 1] [] (by decide) rfl rfl (by kernel_rfl) rfl rfl (load_call (F.sub [0, 1] (by decide)) hEx0 (F.oldO h [0, 1]) hB (by decide) (by decide)) hD (fun y1 s F hy1 => ?_)
    (try dsimp only [n_1, n_2, n_3, n_4, List.append_nil, pk, n_5, n_6] at F)
    refine l_callp F rfl rfl (by kernel_rfl) rfl rfl num_call (fun _ s F _ => ?_)
    (try dsimp only [n_1, n_2, n_3, n_4, List.append_nil, pk, n_5, n_6] at F)
    refine l_cmp rfl rfl rfl rfl ?_
    refine l_op 0 rfl rfl rfl rfl rfl ?_
    refine l_guard rfl rfl rfl (fun hc3 => ?_) (fun hc3 => ?_)
    · first | replace hc3 := bne_iff_ne.1 ((irr_eq _).symm.trans hc3) | simp only [irr_eq, bne_iff_ne, bne_eq_false_iff_eq, ne_eq, decide_eq_true_eq, decide_eq_false_iff_not, Bool.not_eq_true', Bool.not_eq_false'] at hc3
      refine l_s rfl rfl ?_
      refine l_s rfl rfl ?_
      refine l_s rfl rfl ?_
      refine l_op 2 rfl rfl rfl rfl rfl ?_
      refine l_nil (WK.nx (by assumption) ?_)
      refine SeqK.nx (by assumption) ?_
      first | refine e_cond_t rfl rfl rfl ?_ | refine e_cond_t rfl rfl (by rw [irr_eq]; first | exact beq_iff_eq.2 (by assumption) | exact decide_eq_true (by assumption) | exact bne_iff_ne.2 (by assumption)) ?_
      refine k_seq (fun Q K => ?_)
      refine k_lin (fun W K => ?_)
      refine l_callp F rfl rfl (by kernel_rfl) rfl rfl live_call (fun _ s F _ => ?_)
      (try dsimp only [n_1, n_2, n_3, n_4, List.append_nil, pk, n_5, n_6] at F)
      refine l_op 0 rfl rfl rfl rfl rfl ?_
      refine l_nil (WK.nx (by assumption) ?_)
      refine SeqK.nx (by assumption) ?_
      refine k_ret ?_
      refine SeqK.rt (by assumption) ?_
      refine FunK.rt (by assumption) rfl ?_
      -- leaf 1
      exact rfl
    first | replace hc3 := bne_eq_false_iff_eq.1 ((irr_eq _).symm.trans hc3) | simp only [irr_eq, bne_iff_ne, bne_eq_false_iff_eq, ne_eq, decide_eq_true_eq, decide_eq_false_iff_not, Bool.not_eq_true', Bool.not_eq_false'] at hc3
    refine l_op 0 rfl rfl rfl rfl rfl ?_
    first | refine l_op 2 rfl rfl rfl rfl rfl ?_ | refine l_ln rfl rfl rfl rfl ?_
    refine l_cmp rfl rfl rfl rfl ?_
    refine l_op 2 rfl rfl rfl rfl rfl ?_
    refine l_nil (WK.nx (by assumption) ?_)
    refine SeqK.nx (by assumption) ?_
    refine l_cond rfl rfl (fun hc4 => ?_) (fun hc4 => ?_)
    · first | replace hc4 := eq_of_beq ((irr_eq _).symm.trans hc4) | simp only [irr_eq, beq_iff_eq, beq_eq_false_iff_ne, ne_eq, decide_eq_true_eq, decide_eq_false_iff_not] at hc4
      refine k_seq (fun Q K => ?_)
      refine k_lin (fun W K => ?_)
      refine l_callp F rfl rfl (by kernel_rfl) rfl rfl live_call (fun _ s F _ => ?_)
      (try dsimp only [n_1, n_2, n_3, n_4, List.append_nil, pk, n_5, n_6] at F)
      refine l_op 0 rfl rfl rfl rfl rfl ?_
      refine l_nil (WK.nx (by assumption) ?_)
      refine SeqK.nx (by assumption) ?_
      refine k_ret ?_
      refine SeqK.rt (by assumption) ?_
      refine FunK.rt (by assumption) rfl ?_
      -- leaf 2
      exact rfl
    first | replace hc4 := ne_of_beq_false ((irr_eq _).symm.trans hc4) | simp only [irr_eq, beq_iff_eq, beq_eq_false_iff_ne, ne_eq, decide_eq_true_eq, decide_eq_false_iff_not] at hc4
    omega

end Go.Proofs.Ytkealnppdblgiaa
