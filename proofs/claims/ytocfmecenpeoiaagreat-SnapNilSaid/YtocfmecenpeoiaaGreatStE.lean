/- Numbers are put on a stack and looked at, by the program. No statement of the seat is proved in this text. -/
import Derived.Test.YtocfmecenpeoiaaGreatStD
set_option linter.unusedVariables false
set_option linter.unusedSimpArgs false
set_option maxRecDepth 100000
set_option maxHeartbeats 4000000
namespace Go.Proofs.YtocfmecenpeoiaaGreat.Stk
open GAb Go

abbrev u32l (zs : List Int) : List Value := zs.map (.int .u32)
def Words (vs : List Int) : Prop := ∀ i, i < vs.length → U32 (vs.getD i 0)
theorem Words.at {vs : List Int} (h : Words vs) (i : Nat) : U32 (vs.getD i 0) := by
  by_cases hi : i < vs.length
  · exact h i hi
  · simp [List.getD, List.getElem?_eq_none (by omega : vs.length ≤ i), U32]
def putsR (vs : List Int) : List Int := vs.flatMap fun x => putR x 4
theorem putsR_len : ∀ vs : List Int, (putsR vs).length = 4 * vs.length
  | [] => rfl
  | v :: vs => by
    have h := putsR_len vs
    simp only [putsR, List.flatMap_cons, List.length_append, List.length_cons] at h ⊢
    rw [h]
    show 4 + _ = _
    omega
theorem putsR_app (xs ys : List Int) : putsR (xs ++ ys) = putsR xs ++ putsR ys := by simp [putsR]
theorem putsR_take {vs : List Int} {i : Nat} (h : i < vs.length) : putsR (vs.take (i + 1)) = putsR (vs.take i) ++ putR (vs.getD i 0) 4 := by
  rw [List.take_succ_eq_append_getElem h, putsR_app]
  simp [putsR, List.getD, h]
theorem putR_bytes (x : Int) : Bytes (putR x 4) := by
  intro i hi
  have h4 : i < 4 := hi
  have : i = 0 ∨ i = 1 ∨ i = 2 ∨ i = 3 := by omega
  rcases this with rfl | rfl | rfl | rfl <;> simp [putR] <;> omega
theorem Bytes.app {xs ys : List Int} (h1 : Bytes xs) (h2 : Bytes ys) : Bytes (xs ++ ys) := by
  intro i hi
  by_cases h : i < xs.length
  · have := h1.at i
    simpa [List.getD, List.getElem?_append_left h] using this
  · have := h2.at (i - xs.length)
    simpa [List.getD, List.getElem?_append_right (by omega : xs.length ≤ i)] using this
theorem putsR_bytes : ∀ vs : List Int, Bytes (putsR vs)
  | [] => fun i hi => by cases hi
  | v :: vs => by
    show Bytes (putR v 4 ++ putsR vs)
    exact Bytes.app (putR_bytes v) (putsR_bytes vs)

theorem put_call {O : Nat → Prop} {σ : AState} {m n c l d : Nat} {a x : Option Addr} {size fp : Int} {on : Bool} {bs vs : List Int} (F : Facts O σ σ [cel m (sC a n c size fp on), own a n c 1 (u8l bs)]) (hx : Old O σ x l d 1 (u32l vs)) (hU : Words vs) (hn : n + 4 * l ≤ 1000000) :
    SCall Tryz.prog O 109 [.pointer (some ⟨m, 0, none⟩), .slice x l d] σ (Ret O σ (fun (y : Option Addr × Nat) => .tuple #[]) (fun y => [cel m (sC y.1 (n + 4 * l) y.2 size fp on), own y.1 (n + 4 * l) y.2 1 (u8l (bs ++ putsR vs))]) fun _ => True) := by
  have hvl : vs.length = l := by simpa using hx.1.size
  refine k_fun Tryz.func109 rfl (m := 23) rfl fun B hD Q K => ?_
  refine k_seq fun Q K => k_lin fun W K => ?_
  refine l_op 0 rfl rfl rfl rfl rfl ?_
  refine l_op 2 rfl rfl rfl rfl rfl ?_
  refine l_op 0 rfl rfl rfl rfl rfl ?_
  refine l_nil (WK.nx ‹_› (SeqK.nx ‹_› ?_))
  refine k_block fun Q K => ?_
  refine k_loop (α := Int × Option Addr × Nat × Nat) (fun ⟨i, a', n', c'⟩ s => Facts O σ s [cel m (sC a' n' c' size fp on), own a' n' c' 1 (u8l (bs ++ putsR (vs.take i.toNat)))] ∧ 0 ≤ i ∧ i ≤ l ∧ (n' : Int) = n + 4 * i) (fun ⟨i, a', n', c'⟩ => [(0, .pointer (some ⟨m, 0, none⟩)), (6, .slice x l d), (7, .int .i64 l), (8, .int .i64 i)]) (fun ⟨i, _⟩ => (l - i).toNat) (0, a, n, c) ⟨by simpa [putsR] using F, by omega, by omega, by omega⟩ (by repeat (first | exact trivial | refine And.intro rfl ?_)) ?_
  clear F
  rintro ⟨i, a', n', c'⟩ env s Q K0 ⟨F, i0, i1, hn'⟩
  refine k_seq fun Q K => k_lin fun W K => ?_
  refine l_cmp rfl rfl rfl rfl ?_
  refine l_nil (WK.nx ‹_› (SeqK.nx ‹_› ?_))
  refine k_seq fun Q K => ?_
  refine l_cond rfl rfl (fun hc1 => ?_) (fun hc1 => ?_)
  · replace hc1 := of_decide_eq_true ((irr_eq _).symm.trans hc1)
    have hU1 := hU.at i.toNat
    have hl4 : ((putR (vs.getD i.toNat 0) 4).length : Int) = 4 := putR_len (by omega)
    refine k_skip (SeqK.nx ‹_› ?_)
    refine k_seq fun Q K => k_block fun Q K => k_seq fun Q K => k_lin fun W K => ?_
    first | refine l_ixi rfl rfl rfl rfl rfl rfl (F.old (by assumption)) (by omega) (fun m10 b10 hA10 => ?_) | (refine l_ixoi F 0 rfl rfl rfl rfl rfl rfl rfl (by omega) (fun m e ha hA10 => ?_); cases ha) | (refine l_ixoi F 1 rfl rfl rfl rfl rfl rfl rfl (by omega) (fun m e ha hA10 => ?_); cases ha) | (refine l_ixoi F 2 rfl rfl rfl rfl rfl rfl rfl (by omega) (fun m e ha hA10 => ?_); cases ha) | (refine l_ixoi F 3 rfl rfl rfl rfl rfl rfl rfl (by omega) (fun m e ha hA10 => ?_); cases ha)
    refine l_ld0 rfl rfl rfl rfl rfl (by assumption) ?_
    refine l_op 0 rfl rfl rfl rfl rfl ?_
    refine l_nil (WK.nx ‹_› (SeqK.nx ‹_› ?_))
    refine k_linm [0, 1, 2, 3, 5, 4, 6, 7, 8, 9, 10] mixed (by kernel_rfl) (fun W K => ?_)
    try have hpS := F.pns
    iterate 2 refine l_op 0 rfl rfl rfl rfl rfl ?_
    iterate 2 refine l_op 2 rfl rfl rfl rfl rfl ?_
    refine l_op 0 rfl rfl rfl rfl rfl ?_
    refine l_ldc F 0 rfl rfl rfl rfl rfl rfl rfl ?_
    skip
    have hpA := PnA.cel F 0 rfl pna_nil
    refine l_callp F rfl rfl (by kernel_rfl) rfl rfl (wput_call (n := 4) hU1) (fun y s F _ => ?_)
    (try dsimp only [n_1, n_2, n_3, n_4, List.append_nil, pk, n_5, n_6] at F)
    (try dsimp only [n_1, n_2, n_3, n_4, List.append_nil, pk, n_5, n_6] at F)
    refine l_app (es := 1) F 1 rfl rfl rfl rfl rfl rfl rfl (F.has 2 rfl) (ints_one _) rfl (by omega) hD (fun x2 c2 s F => ?_) (.inl (PnA.celE F 0 1 rfl rfl (by decide) pna_nil))
    (try dsimp only [n_1, n_2, n_3, n_4, List.append_nil, pk, n_5, n_6] at F)
    iterate 2 refine l_op 2 rfl rfl rfl rfl rfl ?_
    refine l_rs (by kernel_rfl) ?_
    refine l_stc F 0 rfl rfl rfl rfl rfl rfl rfl rfl rfl hD (fun s F => ?_)
    (try dsimp only [n_1, n_2, n_3, n_4, List.append_nil, pk, n_5, n_6] at F)
    refine l_nil (WK.nx ‹_› (BlkK.nx ‹_› (SeqK.nx ‹_› ?_)))
    refine k_lin fun W K => ?_
    refine l_a64 rfl rfl rfl (by omega) rfl ?_
    refine l_op 0 rfl rfl rfl rfl rfl ?_
    refine l_nil (WK.nx ‹_› ?_)
    have e1 : (i + 1).toNat = i.toNat + 1 := by omega
    have e2 : u8l (bs ++ putsR (vs.take i.toNat)) ++ u8l (putR (vs.getD i.toNat 0) 4) = u8l (bs ++ putsR (vs.take (i + 1).toNat)) := by
      rw [e1, putsR_take (by omega), ← List.append_assoc, ← List.map_append]
    have e3 : ((putR (vs.getD i.toNat 0) 4).length : Int) = 4 := putR_len (by omega)
    rw [e2] at F
    exact K0.nx (i + 1, x2, n' + (putR (vs.getD i.toNat 0) 4).length, c2) (by repeat (first | exact trivial | refine And.intro rfl ?_)) ⟨F.pick [0, 1] (by decide), by omega, by omega, by omega⟩ (by first | omega | (simp only; omega))
  replace hc1 := of_decide_eq_false ((irr_eq _).symm.trans hc1)
  refine k_exit ?_
  refine SeqK.et (by assumption) ?_
  refine LoopK.et (by assumption) ?_
  refine BlkK.et (by assumption) ?_
  refine FunK.nx (by assumption) rfl ?_
  -- leaf 1
  obtain rfl : i = l := by omega
  obtain rfl : n' = n + 4 * l := by omega
  rw [List.take_of_length_le (by omega)] at F
  exact ⟨(a', c'), rfl, F, trivial⟩

/-- A push: the error, how many bytes, the bytes. -/
theorem push_call {O : Nat → Prop} {σ : AState} {m n c : Nat} {a : Option Addr} {size fp x : Int} {on : Bool} {bs : List Int} (F : Facts O σ σ [cel m (sC a n c size fp on), own a n c 1 (u8l bs)]) (hx : U32 x) (hn : n ≤ 100000) :
    SCall Tryz.prog O 91 [.pointer (some ⟨m, 0, none⟩), .int .u32 x] σ (Ret O σ (fun (y : Option Addr × Nat × Nat) => .int .i64 (readyR on n 4 size)) (fun y => [cel m (sC y.1 y.2.1 y.2.2 size fp on), own y.1 y.2.1 y.2.2 1 (u8l (if readyR on n 4 size = 0 then bs ++ putR x 4 else bs))]) fun y => y.2.1 = if readyR on n 4 size = 0 then n + 4 else n) := by
  refine k_fun Tryz.func91 rfl (m := 15) rfl fun B hD Q K => ?_
  refine k_seq fun Q K => k_lin fun W K => ?_
  refine l_op 0 rfl rfl rfl rfl rfl ?_
  refine l_nil (WK.nx ‹_› (SeqK.nx ‹_› ?_))
  refine k_seq fun Q K => k_seq fun Q K => k_lin fun W K => ?_
  refine l_op 0 rfl rfl rfl rfl rfl ?_
  refine l_callp F rfl rfl (by kernel_rfl) rfl rfl (ready_call (F.cel0 0 rfl) (Old.pure (F.has 1 rfl)) (by omega) (by omega)) (fun _ s F _ => ?_)
  (try dsimp only [n_1, n_2, n_3, n_4, List.append_nil, pk, n_5, n_6] at F)
  refine l_op 0 rfl rfl rfl rfl rfl ?_
  refine l_nil (WK.nx ‹_› (SeqK.nx ‹_› ?_))
  refine k_seq fun Q K => k_lin fun W K => ?_
  refine l_op 0 rfl rfl rfl rfl rfl ?_
  refine l_cmp rfl rfl rfl rfl ?_
  refine l_nil (WK.nx ‹_› (SeqK.nx ‹_› ?_))
  refine l_cond rfl rfl (fun hc1 => ?_) (fun hc1 => ?_)
  · replace hc1 := bne_iff_ne.1 ((irr_eq _).symm.trans hc1)
    refine k_seq fun Q K => k_lin fun W K => ?_
    iterate 2 refine l_op 0 rfl rfl rfl rfl rfl ?_
    refine l_nil (WK.nx ‹_› (SeqK.nx ‹_› (k_ret (SeqK.rt ‹_› ?_))))
    refine FunK.rt (by assumption) rfl ?_
    -- leaf 1
    (have h0 : readyR on n 4 size ≠ 0 := by omega
     refine ⟨(a, n, c), rfl, ?_, by rw [if_neg h0]⟩
     rw [if_neg h0]; exact F)
  replace hc1 := bne_eq_false_iff_eq.1 ((irr_eq _).symm.trans hc1)
  refine k_skip (SeqK.nx ‹_› ?_)
  refine k_seq fun Q K => k_lin fun W K => ?_
  iterate 2 refine l_op 0 rfl rfl rfl rfl rfl ?_
  refine l_lit F rfl rfl rfl rfl (fun q13 s F => ?_)
  (try dsimp only [n_1, n_2, n_3, n_4, List.append_nil, pk, n_5, n_6] at F)
  refine l_call F [0, 1] [2] (by decide) rfl rfl (by kernel_rfl) rfl rfl (put_call (vs := [x]) (F.sub [0, 1] (by decide)) (F.oldK [0, 1] 2 rfl (by decide)) (fun i hi => by obtain rfl : i = 0 := (by simpa using hi); exact hx) (by omega)) hD (fun y s F _ => ?_)
  (try dsimp only [n_1, n_2, n_3, n_4, List.append_nil, pk, n_5, n_6] at F)
  (try dsimp only [n_1, n_2, n_3, n_4, List.append_nil, pk, n_5, n_6] at F)
  refine l_nil (WK.nx ‹_› (SeqK.nx ‹_› ?_))
  refine k_seq fun Q K => k_lin fun W K => ?_
  refine l_op 0 rfl rfl rfl rfl rfl ?_
  refine l_nil (WK.nx ‹_› (SeqK.nx ‹_› (k_ret ?_)))
  refine FunK.rt (by assumption) rfl ?_
  -- leaf 2
  (have h0 : readyR on n 4 size = 0 := by omega
   refine ⟨(y.1, n + 4, y.2), by rw [h0]; rfl, ?_, by rw [if_pos h0]⟩
   rw [if_pos h0]
   have e : putsR [x] = putR x 4 := by simp [putsR]
   rw [e] at F
   exact F.pick [1, 2] (by decide))

end Go.Proofs.YtocfmecenpeoiaaGreat.Stk
