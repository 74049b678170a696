/- A stack with a frame, by the program and by the document's answer. No statement of the seat is proved in this text. -/
import Derived.Test.YtocfmecenpeoiaaGreatStG
import Derived.Test.YtocfmecenpeoiaaGreatLibRPut
set_option linter.unusedVariables false
set_option linter.unusedSimpArgs false
set_option maxRecDepth 100000
set_option maxHeartbeats 4000000
namespace Go.Proofs.YtocfmecenpeoiaaGreat.Stk
open GAb Go

theorem rlay_call {O : Nat → Prop} {σ : AState} {m n c l d : Nat} {a x : Option Addr} {size fp : Int} {on : Bool} {bs vs : List Int} (F : Facts O σ σ [cel m (sC a n c size fp on), own a n c 1 (u8l bs)]) (hx : Old O σ x l d 1 (u32l vs)) (hU : Words vs) (hn : n + 4 * l ≤ 1000000) :
    SCall Tryz.prog O 112 [.pointer (some ⟨m, 0, none⟩), .slice x l d] σ (Ret O σ (fun (y : Option Addr × Nat) => .tuple #[]) (fun y => [cel m (sC y.1 (n + 4 * l) y.2 size fp on), own y.1 (n + 4 * l) y.2 1 (u8l (bs ++ putsR vs))]) fun _ => True) := by
  have hvl : vs.length = l := by simpa using hx.1.size
  refine k_fun Tryz.func112 rfl (m := 29) rfl fun B hD Q K => ?_
  refine k_seq fun Q K => k_lin fun W K => ?_
  refine l_lit F rfl rfl rfl rfl (fun q6 s F => ?_)
  (try dsimp only [n_1, n_2, n_3, n_4, List.append_nil, pk, n_5, n_6] at F)
  refine l_op 0 rfl rfl rfl rfl rfl ?_
  iterate 2 refine l_op 2 rfl rfl rfl rfl rfl ?_
  refine l_ldc F 0 rfl rfl rfl rfl rfl rfl rfl ?_
  refine l_app (es := 1) (len := 0) (vs := []) F 2 rfl rfl rfl rfl rfl rfl rfl (F.has 1 rfl) (ints_one _) rfl (by omega) hD (fun x1 c1 s F => ?_)
  (try dsimp only [n_1, n_2, n_3, n_4, List.append_nil, pk, n_5, n_6] at F)
  rw [show 0 + n = n from Nat.zero_add n] at F ⊢
  refine l_op 0 rfl rfl rfl rfl rfl ?_
  refine l_nil (WK.nx ‹_› (SeqK.nx ‹_› ?_))
  refine k_seq fun Q K => k_seq fun Q K => k_lin fun W K => ?_
  refine l_op 0 rfl rfl rfl rfl rfl ?_
  refine l_nil (WK.nx ‹_› (SeqK.nx ‹_› ?_))
  refine k_block fun Q K => ?_
  refine k_loop (α := Int × Option Addr × Nat × Nat) (fun ⟨i, a', n', c'⟩ s => Facts O σ s [cel m (sC a n c size fp on), own a' n' c' 1 (u8l (bs ++ putsR (vs.take i.toNat)))] ∧ 0 ≤ i ∧ i ≤ l ∧ (n' : Int) = n + 4 * i) (fun ⟨i, a', n', c'⟩ => [(0, .pointer (some ⟨m, 0, none⟩)), (1, .slice x l d), (4, .slice a' n' c'), (5, .int .i64 i)]) (fun ⟨i, _⟩ => (l - i).toNat) (0, x1, n, c1) ⟨by have F1 : Facts O σ s [cel m (sC a n c size fp on), own x1 n c1 1 (u8l bs)] := F.pick [0, 2] (by decide); simpa [putsR] using F1, by omega, by omega, by omega⟩ (by repeat (first | exact trivial | refine And.intro rfl ?_)) ?_
  clear F
  rintro ⟨i, a', n', c'⟩ env s Q K0 ⟨F, i0, i1, hn'⟩
  refine k_seq fun Q K => k_seq fun Q K => k_lin fun W K => ?_
  iterate 2 refine l_op 0 rfl rfl rfl rfl rfl ?_
  refine l_op 2 rfl rfl rfl rfl rfl ?_
  refine l_cmp rfl rfl rfl rfl ?_
  refine l_nil (WK.nx ‹_› (SeqK.nx ‹_› ?_))
  refine l_cond rfl rfl (fun hc1 => ?_) (fun hc1 => ?_)
  · replace hc1 := of_decide_eq_true ((irr_eq _).symm.trans hc1)
    have hU1 := hU.at i.toNat
    have hl4 : ((putR (vs.getD i.toNat 0) 4).length : Int) = 4 := putR_len (by omega)
    refine k_skip (SeqK.nx ‹_› ?_)
    refine k_seq fun Q K => k_block fun Q K => k_lin fun W K => ?_
    iterate 3 refine l_op 0 rfl rfl rfl rfl rfl ?_
    first | refine l_ixi rfl rfl rfl rfl rfl rfl (F.old (by assumption)) (by omega) (fun m21 b21 hA21 => ?_) | (refine l_ixoi F 0 rfl rfl rfl rfl rfl rfl rfl (by omega) (fun m e ha hA21 => ?_); cases ha) | (refine l_ixoi F 1 rfl rfl rfl rfl rfl rfl rfl (by omega) (fun m e ha hA21 => ?_); cases ha) | (refine l_ixoi F 2 rfl rfl rfl rfl rfl rfl rfl (by omega) (fun m e ha hA21 => ?_); cases ha) | (refine l_ixoi F 3 rfl rfl rfl rfl rfl rfl rfl (by omega) (fun m e ha hA21 => ?_); cases ha)
    refine l_ld0 rfl rfl rfl rfl rfl (by assumption) ?_
    refine l_callp F rfl rfl (by kernel_rfl) rfl rfl (rput_call (n := 4) hU1) (fun y s F _ => ?_)
    (try dsimp only [n_1, n_2, n_3, n_4, List.append_nil, pk, n_5, n_6] at F)
    refine l_app (es := 1) F 1 rfl rfl rfl rfl rfl rfl rfl (F.has 2 rfl) (ints_one _) rfl (by omega) hD (fun x2 c2 s F => ?_)
    (try dsimp only [n_1, n_2, n_3, n_4, List.append_nil, pk, n_5, n_6] at F)
    refine l_op 0 rfl rfl rfl rfl rfl ?_
    refine l_nil (WK.nx ‹_› (BlkK.nx ‹_› (SeqK.nx ‹_› ?_)))
    refine k_lin fun W K => ?_
    refine l_op 0 rfl rfl rfl rfl rfl ?_
    refine l_a64 rfl rfl rfl (by omega) rfl ?_
    refine l_op 0 rfl rfl rfl rfl rfl ?_
    refine l_nil (WK.nx ‹_› ?_)
    have e1 : (i + 1).toNat = i.toNat + 1 := by omega
    have e2 : u8l (bs ++ putsR (vs.take i.toNat)) ++ u8l (putR (vs.getD i.toNat 0) 4) = u8l (bs ++ putsR (vs.take (i + 1).toNat)) := by
      rw [e1, putsR_take (by omega), ← List.append_assoc, ← List.map_append]
    rw [e2] at F
    exact K0.nx (i + 1, x2, n' + (putR (vs.getD i.toNat 0) 4).length, c2) (by repeat (first | exact trivial | refine And.intro rfl ?_)) ⟨F.pick [0, 1] (by decide), by omega, by omega, by omega⟩ (by first | omega | (simp only; omega))
  replace hc1 := of_decide_eq_false ((irr_eq _).symm.trans hc1)
  refine k_exit ?_
  refine SeqK.et (by assumption) ?_
  refine LoopK.et (by assumption) ?_
  refine BlkK.et (by assumption) ?_
  refine SeqK.nx ‹_› ?_
  refine k_lin fun W K => ?_
  iterate 2 refine l_op 0 rfl rfl rfl rfl rfl ?_
  iterate 2 refine l_op 2 rfl rfl rfl rfl rfl ?_
  refine l_stc F 0 rfl rfl rfl rfl rfl rfl rfl rfl rfl hD (fun s F => ?_)
  (try dsimp only [n_1, n_2, n_3, n_4, List.append_nil, pk, n_5, n_6] at F)
  refine l_nil (WK.nx ‹_› ?_)
  refine FunK.nx (by assumption) rfl ?_
  -- leaf 1
  obtain rfl : i = l := by omega
  obtain rfl : n' = n + 4 * l := by omega
  rw [List.take_of_length_le (by omega)] at F
  exact ⟨(a', c'), rfl, F, trivial⟩
theorem rvalues0_call {σ : AState} {m n c : Nat} {a : Option Addr} {size fp : Int} (hc : OldC E0 σ m (sC a n c size fp false)) :
    SCall Tryz.prog E0 111 [.pointer (some ⟨m, 0, none⟩)] σ (Ret E0 σ (fun (_ : Unit) => .slice none 0 0) (fun _ => []) fun _ => True) := by
  refine k_fun Tryz.func111 rfl (m := 39) rfl fun B hD Q K => ?_
  have F := Facts.nil E0 σ
  refine k_seq fun Q K => k_lin fun W K => ?_
  refine l_op 0 rfl rfl rfl rfl rfl ?_
  refine l_nil (WK.nx ‹_› (SeqK.nx ‹_› ?_))
  refine k_seq fun Q K => k_lin fun W K => ?_
  refine l_op 0 rfl rfl rfl rfl rfl ?_
  refine l_nil (WK.nx ‹_› (SeqK.nx ‹_› ?_))
  refine k_seq fun Q K => k_seq fun Q K => k_lin fun W K => ?_
  refine l_op 0 rfl rfl rfl rfl rfl ?_
  iterate 2 refine l_op 2 rfl rfl rfl rfl rfl ?_
  refine l_ldo F (by assumption) rfl rfl rfl rfl rfl rfl ?_
  refine l_op 2 rfl rfl rfl rfl rfl ?_
  refine l_nil (WK.nx ‹_› (SeqK.nx ‹_› ?_))
  refine l_cond rfl rfl (fun hc1 => ?_) (fun hc1 => ?_)
  · try simp only [i_1, i_2, i_3, i_4, i_5, ne_eq, i_6, i_7, i_8, i_9] at hc1
    refine k_seq fun Q K => k_lin fun W K => ?_
    iterate 2 refine l_op 0 rfl rfl rfl rfl rfl ?_
    refine l_nil (WK.nx ‹_› (SeqK.nx ‹_› (k_ret (SeqK.rt ‹_› ?_))))
    refine FunK.rt (by assumption) rfl ?_
    -- leaf 1
    exact ⟨(), rfl, F, trivial⟩
  try simp only [i_1, i_2, i_3, i_4, i_5, ne_eq, i_6, i_7, i_8, i_9] at hc1
  exfalso; simp_all

theorem two_app {O : Nat → Prop} {σ0 σ : AState} {f : Fact} {a : Option Addr} {l c : Nat} {xs ys : List Int} (F : Facts O σ0 σ [f, own a l c 1 (u8l xs ++ u8l ys)]) : Facts O σ0 σ [f, own a l c 1 (u8l (xs ++ ys))] := by
  rw [← List.map_append] at F; exact F
theorem renter0_call {O : Nat → Prop} {σ : AState} {m n c l d : Nat} {a x : Option Addr} {size fp : Int} {bs p : List Int} (F : Facts O σ σ [cel m (sC a n c size fp false), own a n c 1 (u8l bs)]) (hx : Old O σ x l d 1 (u8l p)) (hB : Bytes bs) (hBp : Bytes p) (hn : n ≤ 100000) (hs : size ≤ 65536) (hl : l ≤ 20000) :
    SCall Tryz.prog O 49 [.pointer (some ⟨m, 0, none⟩), .slice x l d] σ (Ret O σ (fun (y : Int × StZ) => .int .i64 y.1) (fun y => zF m size y.2) fun _ => True) := by
  have hbl := F.len8 1 rfl
  have hpl : p.length = l := by simpa using hx.1.size
  obtain ⟨b1, b2, b3, b4, b5, b6⟩ := locR_bd hBp (by omega)
  refine k_fun Tryz.func49 rfl (m := 109) rfl fun B hD Q K => ?_
  refine k_seq fun Q K => k_lin fun W K => ?_
  refine l_op 0 rfl rfl rfl rfl rfl ?_
  refine l_nil (WK.nx ‹_› (SeqK.nx ‹_› ?_))
  refine k_seq fun Q K => k_lin fun W K => ?_
  refine l_op 0 rfl rfl rfl rfl rfl ?_
  refine l_callp F rfl rfl (by kernel_rfl) rfl rfl (rlocals_call (Old.pure (F.old hx)) hBp (by omega)) (fun y s F _ => ?_)
  (try dsimp only [n_1, n_2, n_3, n_4, List.append_nil, pk, n_5, n_6] at F)
  refine l_op 0 rfl rfl rfl rfl rfl ?_
  iterate 3 refine l_op 2 rfl rfl rfl rfl rfl ?_
  iterate 3 refine l_op 0 rfl rfl rfl rfl rfl ?_
  refine l_nil (WK.nx ‹_› (SeqK.nx ‹_› ?_))
  refine k_seq fun Q K => k_seq fun Q K => k_lin fun W K => ?_
  refine l_op 0 rfl rfl rfl rfl rfl ?_
  refine l_cmp rfl rfl rfl rfl ?_
  refine l_nil (WK.nx ‹_› (SeqK.nx ‹_› ?_))
  refine l_cond rfl rfl (fun hc1 => ?_) (fun hc1 => ?_)
  · replace hc1 := bne_iff_ne.1 ((irr_eq _).symm.trans hc1)
    refine k_seq fun Q K => k_lin fun W K => ?_
    iterate 2 refine l_op 0 rfl rfl rfl rfl rfl ?_
    refine l_nil (WK.nx ‹_› (SeqK.nx ‹_› (k_ret (SeqK.rt ‹_› ?_))))
    refine FunK.rt (by assumption) rfl ?_
    -- leaf 1
    exact ⟨(_, ⟨a, n, c, fp, false, bs⟩), rfl, F, trivial⟩
  replace hc1 := bne_eq_false_iff_eq.1 ((irr_eq _).symm.trans hc1)
  refine k_skip (SeqK.nx ‹_› ?_)
  refine k_seq fun Q K => k_lin fun W K => ?_
  refine l_op 0 rfl rfl rfl rfl rfl ?_
  refine l_callp F rfl rfl (by kernel_rfl) rfl rfl (rvalues0_call (F.cel0 0 rfl)) (fun _ s F _ => ?_)
  (try dsimp only [n_1, n_2, n_3, n_4, List.append_nil, pk, n_5, n_6] at F)
  refine l_op 0 rfl rfl rfl rfl rfl ?_
  refine l_nil (WK.nx ‹_› (SeqK.nx ‹_› ?_))
  refine k_seq fun Q K => k_seq fun Q K => ?_
  refine k_linm [0, 1, 2, 3, 4, 5, 6, 7, 8, 9, 10, 11, 12, 13, 16, 17, 18, 14, 15, 19, 20, 21, 22] mixed (by kernel_rfl) (fun W K => ?_)
  try have hpS := F.pns
  refine l_op 0 rfl rfl rfl rfl rfl ?_
  iterate 2 refine l_op 2 rfl rfl rfl rfl rfl ?_
  refine l_ldc F 0 rfl rfl rfl rfl rfl rfl rfl ?_
  skip
  refine l_op 0 rfl rfl rfl rfl rfl ?_
  refine l_guard rfl rfl rfl (fun hc2 => ?_) (fun hc2 => ?_)
  · cases hc2
  try simp only [i_1, i_2, i_3, i_4, i_5, ne_eq, i_6, i_7, i_8, i_9] at hc2
  iterate 17 refine l_s rfl rfl ?_
  refine l_op 2 rfl rfl rfl rfl rfl ?_
  refine l_nil (WK.nx ‹_› (SeqK.nx ‹_› ?_))
  refine e_cond_f rfl rfl rfl ?_
  refine k_skip (SeqK.nx ‹_› ?_)
  refine k_seq fun Q K => k_seq fun Q K => ?_
  refine k_linm [0, 1, 2, 5, 7, 9, 10, 11, 3, 4, 6, 8, 12, 13] mixed (by kernel_rfl) (fun W K => ?_)
  try have hpS := F.pns
  refine l_op 0 rfl rfl rfl rfl rfl ?_
  iterate 2 refine l_op 2 rfl rfl rfl rfl rfl ?_
  iterate 3 refine l_op 0 rfl rfl rfl rfl rfl ?_
  iterate 2 refine l_op 2 rfl rfl rfl rfl rfl ?_
  refine l_ldc F 0 rfl rfl rfl rfl rfl rfl rfl ?_
  skip
  refine l_op 2 rfl rfl rfl rfl rfl ?_
  iterate 2 refine l_a64 rfl rfl rfl (by omega) rfl ?_
  refine l_ldc F 0 rfl rfl rfl rfl rfl rfl rfl ?_
  skip
  refine l_cmp rfl rfl rfl rfl ?_
  refine l_nil (WK.nx ‹_› (SeqK.nx ‹_› ?_))
  refine l_cond rfl rfl (fun hc3 => ?_) (fun hc3 => ?_)
  · replace hc3 := of_decide_eq_true ((irr_eq _).symm.trans hc3)
    refine k_seq fun Q K => k_lin fun W K => ?_
    refine l_op 0 rfl rfl rfl rfl rfl ?_
    refine l_nil (WK.nx ‹_› (SeqK.nx ‹_› (k_ret (SeqK.rt ‹_› ?_))))
    refine FunK.rt (by assumption) rfl ?_
    -- leaf 2
    exact ⟨(_, ⟨a, n, c, fp, false, bs⟩), rfl, F, trivial⟩
  replace hc3 := of_decide_eq_false ((irr_eq _).symm.trans hc3)
  refine k_skip (SeqK.nx ‹_› ?_)
  refine k_seq fun Q K => k_lin fun W K => ?_
  iterate 3 refine l_op 0 rfl rfl rfl rfl rfl ?_
  iterate 2 refine l_op 2 rfl rfl rfl rfl rfl ?_
  refine l_ldc F 0 rfl rfl rfl rfl rfl rfl rfl ?_
  iterate 3 refine l_op 2 rfl rfl rfl rfl rfl ?_
  refine l_stc F 0 rfl rfl rfl rfl rfl rfl rfl rfl rfl hD (fun s F => ?_)
  (try dsimp only [n_1, n_2, n_3, n_4, List.append_nil, pk, n_5, n_6] at F)
  iterate 2 refine l_op 2 rfl rfl rfl rfl rfl ?_
  refine l_stc F 0 rfl rfl rfl rfl rfl rfl rfl rfl rfl hD (fun s F => ?_)
  (try dsimp only [n_1, n_2, n_3, n_4, List.append_nil, pk, n_5, n_6] at F)
  refine l_nil (WK.nx ‹_› (SeqK.nx ‹_› ?_))
  refine k_seq fun Q K => k_lin fun W K => ?_
  iterate 3 refine l_op 0 rfl rfl rfl rfl rfl ?_
  refine l_a64 rfl rfl rfl (by omega) rfl ?_
  refine l_c32 rfl rfl rfl (by omega) rfl ?_
  refine l_op 0 rfl rfl rfl rfl rfl ?_
  refine l_c32 rfl rfl rfl (by omega) rfl ?_
  refine l_lit F rfl rfl rfl rfl (fun q75 s F => ?_)
  (try dsimp only [n_1, n_2, n_3, n_4, List.append_nil, pk, n_5, n_6] at F)
  have hlo := locR_ok (p := p) (by omega)
  refine l_call F [0, 1] [2] (by decide) rfl rfl (by kernel_rfl) rfl rfl (rlay_call (vs := [(locR p).1 + (locR p).2.1, (locR p).1]) (F.sub [0, 1] (by decide)) (F.oldK [0, 1] 2 rfl (by decide)) (words2 ⟨by omega, by omega⟩ ⟨by omega, by omega⟩) (by omega)) hD (fun y s F _ => ?_)
  (try dsimp only [n_1, n_2, n_3, n_4, List.append_nil, pk, n_5, n_6] at F)
  (try dsimp only [n_1, n_2, n_3, n_4, List.append_nil, pk, n_5, n_6] at F)
  refine l_nil (WK.nx ‹_› (SeqK.nx ‹_› ?_))
  refine k_seq fun Q K => k_lin fun W K => ?_
  iterate 2 refine l_op 0 rfl rfl rfl rfl rfl ?_
  iterate 2 refine l_op 2 rfl rfl rfl rfl rfl ?_
  refine l_ldc F 1 rfl rfl rfl rfl rfl rfl rfl ?_
  refine l_op 0 rfl rfl rfl rfl rfl ?_
  refine l_app (es := 1) F 2 rfl rfl rfl rfl rfl rfl rfl (F.old hx) (ints_one _) rfl (by omega) hD (fun x2 c2 s F => ?_)
  (try dsimp only [n_1, n_2, n_3, n_4, List.append_nil, pk, n_5, n_6] at F)
  iterate 2 refine l_op 2 rfl rfl rfl rfl rfl ?_
  refine l_stc F 1 rfl rfl rfl rfl rfl rfl rfl rfl rfl hD (fun s F => ?_)
  (try dsimp only [n_1, n_2, n_3, n_4, List.append_nil, pk, n_5, n_6] at F)
  refine l_nil (WK.nx ‹_› (SeqK.nx ‹_› ?_))
  refine k_seq fun Q K => k_block fun Q K => ?_
  refine k_loop (α := Option Addr × Nat × Nat × List Int) (fun ⟨a', n', c', bs'⟩ s => Facts O σ s [cel m (sC a' n' c' size n true), own a' n' c' 1 (u8l bs')] ∧ n' ≤ 200000) (fun _ => [(0, .pointer (some ⟨m, 0, none⟩)), (5, .int .i64 (locR p).1), (6, .int .i64 (locR p).2.1)]) (fun ⟨_, n', _, _⟩ => (n + (locR p).1 + (locR p).2.1 - n').toNat) (x2, n + 4 * 2 + l, c2, bs ++ putsR [(locR p).1 + (locR p).2.1, (locR p).1] ++ p) ⟨two_app (F.pick [1, 2] (by decide)), by omega⟩ (by repeat (first | exact trivial | refine And.intro rfl ?_)) ?_
  clear F
  rintro ⟨a', n', c', bs'⟩ env s Q K0 ⟨F, hn'⟩
  refine k_seq fun Q K => k_seq fun Q K => ?_
  refine k_linm [0, 1, 2, 5, 6, 7, 9, 11, 3, 4, 8, 10, 12, 13] mixed (by kernel_rfl) (fun W K => ?_)
  try have hpS := F.pns
  refine l_op 0 rfl rfl rfl rfl rfl ?_
  iterate 2 refine l_op 2 rfl rfl rfl rfl rfl ?_
  refine l_op 0 rfl rfl rfl rfl rfl ?_
  iterate 2 refine l_op 2 rfl rfl rfl rfl rfl ?_
  iterate 2 refine l_op 0 rfl rfl rfl rfl rfl ?_
  refine l_ldc F 0 rfl rfl rfl rfl rfl rfl rfl ?_
  skip
  refine l_op 2 rfl rfl rfl rfl rfl ?_
  refine l_ldc F 0 rfl rfl rfl rfl rfl rfl rfl ?_
  skip
  iterate 2 refine l_a64 rfl rfl rfl (by omega) rfl ?_
  refine l_cmp rfl rfl rfl rfl ?_
  refine l_nil (WK.nx ‹_› (SeqK.nx ‹_› ?_))
  refine l_cond rfl rfl (fun hc4 => ?_) (fun hc4 => ?_)
  · replace hc4 := of_decide_eq_true ((irr_eq _).symm.trans hc4)
    refine k_skip (SeqK.nx ‹_› ?_)
    refine k_block fun Q K => k_lin fun W K => ?_
    iterate 2 refine l_op 0 rfl rfl rfl rfl rfl ?_
    iterate 2 refine l_op 2 rfl rfl rfl rfl rfl ?_
    refine l_ldc F 0 rfl rfl rfl rfl rfl rfl rfl ?_
    refine l_lit F rfl rfl rfl rfl (fun q105 s F => ?_)
    (try dsimp only [n_1, n_2, n_3, n_4, List.append_nil, pk, n_5, n_6] at F)
    refine l_app (es := 1) F 1 rfl rfl rfl rfl rfl rfl rfl (F.has 2 rfl) (ints_one (kk := .u8) [0]) rfl (by omega) hD (fun x3 c3 s F => ?_)
    (try dsimp only [n_1, n_2, n_3, n_4, List.append_nil, pk, n_5, n_6] at F)
    iterate 2 refine l_op 2 rfl rfl rfl rfl rfl ?_
    refine l_stc F 0 rfl rfl rfl rfl rfl rfl rfl rfl rfl hD (fun s F => ?_)
    (try dsimp only [n_1, n_2, n_3, n_4, List.append_nil, pk, n_5, n_6] at F)
    refine l_nil (WK.nx ‹_› (BlkK.nx ‹_› ?_))
    exact K0.nx (x3, n' + 1, c3, bs' ++ [0]) (by repeat (first | exact trivial | refine And.intro rfl ?_)) ⟨two_app (F.pick [0, 1] (by decide)), by omega⟩ (by first | omega | (simp only; omega))
  replace hc4 := of_decide_eq_false ((irr_eq _).symm.trans hc4)
  refine k_exit ?_
  refine SeqK.et (by assumption) ?_
  refine LoopK.et (by assumption) ?_
  refine BlkK.et (by assumption) ?_
  refine SeqK.nx ‹_› ?_
  refine k_seq fun Q K => k_lin fun W K => ?_
  refine l_op 0 rfl rfl rfl rfl rfl ?_
  refine l_nil (WK.nx ‹_› (SeqK.nx ‹_› (k_ret ?_)))
  refine FunK.rt (by assumption) rfl ?_
  -- leaf 3
  exact ⟨(_, ⟨a', n', c', n, true, bs'⟩), rfl, F, trivial⟩

end Go.Proofs.YtocfmecenpeoiaaGreat.Stk
