/- The document's stack: its values, what is pushed, popped, called. No statement of the seat is proved in this text. -/
import Derived.Test.YtocfmecenpeoiaaGreatStM
import Derived.Test.YtocfmecenpeoiaaGreatStH
import Derived.Test.YtocfmecenpeoiaaGreatAb34
set_option linter.unusedVariables false
set_option linter.unusedSimpArgs false
set_option maxRecDepth 100000
set_option maxHeartbeats 4000000
namespace Go.Proofs.YtocfmecenpeoiaaGreat.Stk
open GAb Go

theorem words_mem {vs : List Int} : Words vs ↔ ∀ x ∈ vs, U32 x := by
  constructor
  · intro h x hx
    obtain ⟨i, hi, rfl⟩ := List.mem_iff_getElem.1 hx
    have := h i hi
    simpa [List.getD, hi] using this
  · intro h i hi
    simpa [List.getD, hi] using h _ (List.getElem_mem hi)
/-- The words that lie from a place on. -/
def wordsR (bs : List Int) (p : Int) (k : Nat) : List Int := (List.range k).map fun (i : Nat) => at4 bs (p + 4 * (i : Int))
theorem wordsR_len (bs : List Int) (p : Int) (k : Nat) : (wordsR bs p k).length = k := by simp [wordsR]
theorem wordsR_succ (bs : List Int) (p : Int) (k : Nat) : wordsR bs p (k + 1) = wordsR bs p k ++ [at4 bs (p + 4 * (k : Int))] := by
  simp [wordsR, List.range_succ]
theorem wordsR_at {bs : List Int} {p : Int} {k i : Nat} (h : i < k) : (wordsR bs p k).getD i 0 = at4 bs (p + 4 * (i : Int)) := by
  simp [wordsR, List.getD, h]
theorem wordsR_words {bs : List Int} (hB : Bytes bs) (p : Int) (k : Nat) : Words (wordsR bs p k) := words_mem.2 fun x hx => by
  obtain ⟨i, _, rfl⟩ := List.mem_map.1 hx
  exact at4_bd hB _
theorem wordsR_take (bs : List Int) (p : Int) {k j : Nat} (h : j ≤ k) : (wordsR bs p k).take j = wordsR bs p j := by
  unfold wordsR
  rw [← List.map_take, List.take_range, Nat.min_eq_left h]
/-- A word is laid as it lay. -/
theorem putR_at4 {bs : List Int} (hB : Bytes bs) {p : Nat} (h : p + 4 ≤ bs.length) : putR (at4 bs p) 4 = (bs.drop p).take 4 := by
  have e : (bs.drop p).take 4 = [bs.getD p 0, bs.getD (p + 1) 0, bs.getD (p + 2) 0, bs.getD (p + 3) 0] := by
    rw [List.drop_eq_getElem_cons (by omega), List.drop_eq_getElem_cons (by omega : p + 1 < bs.length), List.drop_eq_getElem_cons (by omega : p + 1 + 1 < bs.length), List.drop_eq_getElem_cons (by omega : p + 1 + 1 + 1 < bs.length)]
    simp only [List.take_succ_cons, List.take_zero, List.getD, List.getElem?_eq_getElem (show p < bs.length by omega), List.getElem?_eq_getElem (show p + 1 < bs.length by omega), List.getElem?_eq_getElem (show p + 2 < bs.length by omega), List.getElem?_eq_getElem (show p + 3 < bs.length by omega), Option.getD_some]
  rw [e]
  have b0 := hB.at p
  have b1 := hB.at (p + 1)
  have b2 := hB.at (p + 2)
  have b3 := hB.at (p + 3)
  have ea : at4 bs p = 256 * (256 * (256 * (256 * 0 + bs.getD p 0) + bs.getD (p + 1) 0) + bs.getD (p + 2) 0) + bs.getD (p + 3) 0 := by
    unfold at4 beR
    rw [if_neg (by omega), if_neg (by omega)]
    rfl
  generalize at4 bs p = w at ea ⊢
  generalize bs.getD p 0 = x0 at *
  generalize bs.getD (p + 1) 0 = x1 at *
  generalize bs.getD (p + 2) 0 = x2 at *
  generalize bs.getD (p + 3) 0 = x3 at *
  show [w / 16777216 % 256, w / 65536 % 256, w / 256 % 256, w % 256] = _
  have h0 : w / 16777216 % 256 = x0 := by omega
  have h1 : w / 65536 % 256 = x1 := by omega
  have h2 : w / 256 % 256 = x2 := by omega
  have h3 : w % 256 = x3 := by omega
  rw [h0, h1, h2, h3]
theorem putsR_words {bs : List Int} (hB : Bytes bs) {p : Nat} : ∀ k : Nat, p + 4 * k ≤ bs.length → putsR (wordsR bs p k) = (bs.drop p).take (4 * k)
  | 0, _ => by simp [wordsR, putsR]
  | k + 1, h => by
    rw [wordsR_succ, putsR_app, putsR_words hB k (by omega)]
    have e : (p : Int) + 4 * (k : Int) = ((p + 4 * k : Nat) : Int) := by omega
    have e2 : putsR [at4 bs ((p + 4 * k : Nat) : Int)] = putR (at4 bs ((p + 4 * k : Nat) : Int)) 4 := by unfold putsR; rw [List.flatMap_cons, List.flatMap_nil, List.append_nil]
    rw [e, e2, putR_at4 hB (by omega), show 4 * (k + 1) = 4 * k + 4 by omega, List.take_add, List.drop_drop]
/-- How many values there are. -/
def valN (on : Bool) (bs : List Int) (n : Nat) (fp : Int) : Nat := if on = true then ((n - (fp + at4 bs fp)) / 4).toNat else 0
def valW (on : Bool) (bs : List Int) (n : Nat) (fp : Int) : List Int := if on = true then wordsR bs (fp + at4 bs fp) ((n - (fp + at4 bs fp)) / 4).toNat else []
theorem valW_len (on : Bool) (bs : List Int) (n : Nat) (fp : Int) : (valW on bs n fp).length = valN on bs n fp := by
  unfold valW valN
  split
  · exact wordsR_len ..
  · rfl
theorem rvalues_call {σ : AState} {m n c : Nat} {a : Option Addr} {size fp : Int} {on : Bool} {bs : List Int} (hc : OldC E0 σ m (sC a n c size fp on)) (hl : Old E0 σ a n c 1 (u8l bs)) (ok : SOK size bs n fp on) :
    SCall Tryz.prog E0 111 [.pointer (some ⟨m, 0, none⟩)] σ (Ret E0 σ (fun (y : Option Addr × Nat) => .slice y.1 (valN on bs n fp) y.2) (fun y => [own y.1 (valN on bs n fp) y.2 1 (u32l (valW on bs n fp))]) fun _ => True) := by
  have hlen := ok.len
  have hfit := ok.fit
  have hal := ok.al
  have hB := ok.byt
  refine k_fun Tryz.func111 rfl (m := 39) rfl fun B hD Q K => ?_
  have F := Facts.nil E0 σ
  refine k_seq fun Q K => k_lin fun W K => ?_
  refine l_op 0 rfl rfl rfl rfl rfl ?_
  refine l_nil (WK.nx ‹_› (SeqK.nx ‹_› ?_))
  refine k_seq fun Q K => k_lin fun W K => ?_
  refine l_op 0 rfl rfl rfl rfl rfl ?_
  refine l_nil (WK.nx ‹_› (SeqK.nx ‹_› ?_))
  refine k_seq fun Q K => k_seq fun Q K => k_lin fun W K => ?_
  refine l_op 0 rfl rfl rfl rfl rfl ?_
  iterate 2 refine l_op 2 rfl rfl rfl rfl rfl ?_
  refine l_ldo F (by assumption) rfl rfl rfl rfl rfl rfl ?_
  refine l_op 2 rfl rfl rfl rfl rfl ?_
  refine l_nil (WK.nx ‹_› (SeqK.nx ‹_› ?_))
  refine l_cond rfl rfl (fun hc1 => ?_) (fun hc1 => ?_)
  · try simp only [i_1, i_2, i_3, i_4, i_5, ne_eq, i_6, i_7, i_8, i_9] at hc1
    have hoff : on = false := by cases on <;> simp_all
    subst hoff
    refine k_seq fun Q K => k_lin fun W K => ?_
    iterate 2 refine l_op 0 rfl rfl rfl rfl rfl ?_
    refine l_nil (WK.nx ‹_› (SeqK.nx ‹_› (k_ret (SeqK.rt ‹_› ?_))))
    refine FunK.rt (by assumption) rfl ?_
    -- leaf 1
    exact ⟨(none, 0), rfl, F.nilrow 1, trivial⟩
  try simp only [i_1, i_2, i_3, i_4, i_5, ne_eq, i_6, i_7, i_8, i_9] at hc1
  have hon : on = true := by cases on <;> simp_all
  subst hon
  obtain ⟨b0, b1, b2, b3, b4, b5, b6⟩ := ok.bd
  refine k_skip (SeqK.nx ‹_› ?_)
  refine k_seq fun Q K => k_seq fun Q K => ?_
  refine k_linm [0, 1, 2, 4, 5, 6, 7, 3, 8, 9, 10, 11] mixed (by kernel_rfl) (fun W K => ?_)
  try have hpS := F.pns
  refine l_op 0 rfl rfl rfl rfl rfl ?_
  iterate 2 refine l_op 2 rfl rfl rfl rfl rfl ?_
  iterate 2 refine l_op 0 rfl rfl rfl rfl rfl ?_
  iterate 2 refine l_op 2 rfl rfl rfl rfl rfl ?_
  refine l_ldo F (by assumption) rfl rfl rfl rfl rfl rfl ?_
  have hpS := PnS.add hpS (OldC.sf (by assumption))
  refine l_ldo F (by assumption) rfl rfl rfl rfl rfl rfl ?_
  have hpS := PnS.add hpS (OldC.sf (by assumption))
  refine l_callp F rfl rfl (by kernel_rfl) rfl rfl (rat_call (p := fp) (F.oldc0 hc) (Old.pure (F.old hl)) hB (by omega)) (fun _ s F _ => ?_)
  (try dsimp only [n_1, n_2, n_3, n_4, List.append_nil, pk, n_5, n_6] at F)
  refine l_a64 rfl rfl rfl (by omega) rfl ?_
  refine l_op 0 rfl rfl rfl rfl rfl ?_
  refine l_nil (WK.nx ‹_› (SeqK.nx ‹_› ?_))
  refine k_block fun Q K => ?_
  have c0 : 0 ≤ fp + at4 bs fp := by omega
  have c4 : (fp + at4 bs fp) % 4 = 0 := by omega
  generalize hp0 : fp + at4 bs fp = p0 at b1 c0 c4 ⊢
  have F0 := F.nilrow 1
  refine k_loop (α := Nat × Int × Option Addr × Nat) (fun ⟨i, p, a', c'⟩ s => Facts E0 σ s [own a' i c' 1 (u32l (wordsR bs p0 i))] ∧ p = p0 + 4 * (i : Int) ∧ p ≤ n) (fun ⟨i, p, a', c'⟩ => [(0, .pointer (some ⟨m, 0, none⟩)), (3, .slice a' i c'), (4, .int .i64 p)]) (fun ⟨i, _⟩ => n - i) (0, p0, none, 0) ⟨F0, by omega, by omega⟩ (by repeat (first | exact trivial | refine And.intro rfl ?_)) ?_
  clear F F0
  rintro ⟨i, p, a', c'⟩ env s Q K0 ⟨F, hp, i1⟩
  have hbp := at4_bd hB p
  refine k_seq fun Q K => k_seq fun Q K => k_lin fun W K => ?_
  iterate 2 refine l_op 0 rfl rfl rfl rfl rfl ?_
  iterate 2 refine l_op 2 rfl rfl rfl rfl rfl ?_
  refine l_ldo F (by assumption) rfl rfl rfl rfl rfl rfl ?_
  refine l_op 2 rfl rfl rfl rfl rfl ?_
  refine l_cmp rfl rfl rfl rfl ?_
  refine l_nil (WK.nx ‹_› (SeqK.nx ‹_› ?_))
  refine l_cond rfl rfl (fun hc2 => ?_) (fun hc2 => ?_)
  · replace hc2 := of_decide_eq_true ((irr_eq _).symm.trans hc2)
    refine k_skip (SeqK.nx ‹_› ?_)
    refine k_seq fun Q K => k_block fun Q K => k_lin fun W K => ?_
    iterate 3 refine l_op 0 rfl rfl rfl rfl rfl ?_
    refine l_callp F rfl rfl (by kernel_rfl) rfl rfl (rat_call (p := p) (F.oldc0 hc) (Old.pure (F.old hl)) hB (by omega)) (fun _ s F _ => ?_)
    (try dsimp only [n_1, n_2, n_3, n_4, List.append_nil, pk, n_5, n_6] at F)
    refine l_c32 rfl rfl rfl (by omega) rfl ?_
    refine l_lit F rfl rfl rfl rfl (fun q36 s F => ?_)
    (try dsimp only [n_1, n_2, n_3, n_4, List.append_nil, pk, n_5, n_6] at F)
    refine l_app (es := 1) F 0 rfl rfl rfl rfl rfl rfl rfl (F.has 1 rfl) rfl rfl (by omega) hD (fun x2 c2 s F => ?_)
    (try dsimp only [n_1, n_2, n_3, n_4, List.append_nil, pk, n_5, n_6] at F)
    refine l_op 0 rfl rfl rfl rfl rfl ?_
    refine l_nil (WK.nx ‹_› (BlkK.nx ‹_› (SeqK.nx ‹_› ?_)))
    refine k_lin fun W K => ?_
    refine l_op 0 rfl rfl rfl rfl rfl ?_
    refine l_a64 rfl rfl rfl (by omega) rfl ?_
    refine l_op 0 rfl rfl rfl rfl rfl ?_
    refine l_nil (WK.nx ‹_› ?_)
    have e2 : u32l (wordsR bs p0 i) ++ [Value.int IntKind.u32 (at4 bs p)] = u32l (wordsR bs p0 (i + 1)) := by
      rw [wordsR_succ, ← hp]
      show _ = List.map _ _
      rw [List.map_append]
      rfl
    rw [e2] at F
    exact K0.nx (i + 1, p + 4, x2, c2) (by repeat (first | exact trivial | refine And.intro rfl ?_)) ⟨F.pick [0] (by decide), by omega, by omega⟩ (by first | omega | (simp only; omega))
  replace hc2 := of_decide_eq_false ((irr_eq _).symm.trans hc2)
  refine k_exit ?_
  refine SeqK.et (by assumption) ?_
  refine LoopK.et (by assumption) ?_
  refine BlkK.et (by assumption) ?_
  refine SeqK.nx ‹_› ?_
  refine k_seq fun Q K => k_lin fun W K => ?_
  iterate 2 refine l_op 0 rfl rfl rfl rfl rfl ?_
  refine l_nil (WK.nx ‹_› (SeqK.nx ‹_› (k_ret ?_)))
  refine FunK.rt (by assumption) rfl ?_
  -- leaf 2
  (have e : ((n - (fp + at4 bs fp)) / 4).toNat = i := by omega
   have e1 : valN true bs n fp = i := by unfold valN; rw [if_pos rfl, e]
   have e2 : valW true bs n fp = wordsR bs p0 i := by unfold valW; rw [if_pos rfl, e, hp0]
   rw [e1, e2]
   exact ⟨(a', c'), rfl, F, trivial⟩)

theorem valN_bd {size : Int} {on : Bool} {bs : List Int} {n : Nat} {fp : Int} (ok : SOK size bs n fp on) : valN on bs n fp ≤ n ∧ (on = true → fp + at4 bs fp + 4 * (valN on bs n fp : Int) = n) ∧ countR on bs n fp = valN on bs n fp := by
  have hal := ok.al
  cases on with
  | false => exact ⟨Nat.zero_le _, (fun h => by cases h), rfl⟩
  | true =>
    obtain ⟨b0, b1, b2, b3, b4, b5, b6⟩ := ok.bd
    have e : valN true bs n fp = ((n - (fp + at4 bs fp)) / 4).toNat := if_pos rfl
    have e2 : countR true bs n fp = (n - (fp + at4 bs fp)) / 4 := rfl
    rw [e, e2]
    exact ⟨by omega, fun _ => by omega, by omega⟩
theorem rpeek_call {σ : AState} {m n c : Nat} {a : Option Addr} {size fp i : Int} {on : Bool} {bs : List Int} (hc : OldC E0 σ m (sC a n c size fp on)) (hl : Old E0 σ a n c 1 (u8l bs)) (ok : SOK size bs n fp on) (hi : U32 i) :
    SCall Tryz.prog E0 145 [.pointer (some ⟨m, 0, none⟩), .int .u32 i] σ (Ret E0 σ (fun (_ : Unit) => .tuple #[.int .u32 (peekR on bs n fp i), .int .i64 (holdsE on bs n fp (i + 1))]) (fun _ => []) fun _ => True) := by
  have hfit := ok.fit
  obtain ⟨i0, i1⟩ := hi
  obtain ⟨v1, v2, v3⟩ := valN_bd ok
  refine k_fun Tryz.func145 rfl (m := 28) rfl fun B hD Q K => ?_
  have F := Facts.nil E0 σ
  refine k_seq fun Q K => k_lin fun W K => ?_
  iterate 2 refine l_op 0 rfl rfl rfl rfl rfl ?_
  refine l_nil (WK.nx ‹_› (SeqK.nx ‹_› ?_))
  refine k_seq fun Q K => k_seq fun Q K => k_lin fun W K => ?_
  refine l_op 0 rfl rfl rfl rfl rfl ?_
  iterate 2 refine l_op 2 rfl rfl rfl rfl rfl ?_
  refine l_ldo F (by assumption) rfl rfl rfl rfl rfl rfl ?_
  refine l_op 2 rfl rfl rfl rfl rfl ?_
  refine l_nil (WK.nx ‹_› (SeqK.nx ‹_› ?_))
  refine l_cond rfl rfl (fun hc1 => ?_) (fun hc1 => ?_)
  · try simp only [i_1, i_2, i_3, i_4, i_5, ne_eq, i_6, i_7, i_8, i_9] at hc1
    have hoff : on = false := by cases on <;> simp_all
    subst hoff
    refine k_seq fun Q K => k_lin fun W K => ?_
    iterate 2 refine l_op 0 rfl rfl rfl rfl rfl ?_
    refine l_nil (WK.nx ‹_› (SeqK.nx ‹_› (k_ret (SeqK.rt ‹_› ?_))))
    refine FunK.rt (by assumption) rfl ?_
    -- leaf 1
    (have e1 : holdsE false bs n fp (i + 1) = 102 := if_pos rfl
     have e2 : peekR false bs n fp i = 0 := if_neg (by rw [e1]; decide)
     rw [e1, e2]; exact ⟨(), rfl, F, trivial⟩)
  try simp only [i_1, i_2, i_3, i_4, i_5, ne_eq, i_6, i_7, i_8, i_9] at hc1
  have hon : on = true := by cases on <;> simp_all
  subst hon
  refine k_skip (SeqK.nx ‹_› ?_)
  refine k_seq fun Q K => k_lin fun W K => ?_
  refine l_op 0 rfl rfl rfl rfl rfl ?_
  refine l_callp F rfl rfl (by kernel_rfl) rfl rfl (rvalues_call (F.oldc0 hc) (Old.pure (F.old hl)) ok) (fun y s F _ => ?_)
  (try dsimp only [n_1, n_2, n_3, n_4, List.append_nil, pk, n_5, n_6] at F)
  refine l_op 0 rfl rfl rfl rfl rfl ?_
  refine l_nil (WK.nx ‹_› (SeqK.nx ‹_› ?_))
  refine k_seq fun Q K => k_seq fun Q K => k_lin fun W K => ?_
  refine l_op 0 rfl rfl rfl rfl rfl ?_
  refine l_c64 rfl rfl rfl (by omega) rfl ?_
  refine l_op 0 rfl rfl rfl rfl rfl ?_
  refine l_op 2 rfl rfl rfl rfl rfl ?_
  refine l_cmp rfl rfl rfl rfl ?_
  refine l_nil (WK.nx ‹_› (SeqK.nx ‹_› ?_))
  refine l_cond rfl rfl (fun hc2 => ?_) (fun hc2 => ?_)
  · replace hc2 := of_decide_eq_true ((irr_eq _).symm.trans hc2)
    refine k_seq fun Q K => k_lin fun W K => ?_
    iterate 2 refine l_op 0 rfl rfl rfl rfl rfl ?_
    refine l_nil (WK.nx ‹_› (SeqK.nx ‹_› (k_ret (SeqK.rt ‹_› ?_))))
    refine FunK.rt (by assumption) rfl ?_
    -- leaf 2
    (have e1 : holdsE true bs n fp (i + 1) = 101 := by unfold holdsE; rw [if_neg (by decide), if_pos (by omega)]
     have e2 : peekR true bs n fp i = 0 := if_neg (by rw [e1]; decide)
     rw [e1, e2]; exact ⟨(), rfl, F.pick [] (by decide), trivial⟩)
  replace hc2 := of_decide_eq_false ((irr_eq _).symm.trans hc2)
  refine k_skip (SeqK.nx ‹_› ?_)
  refine k_seq fun Q K => k_lin fun W K => ?_
  iterate 2 refine l_op 0 rfl rfl rfl rfl rfl ?_
  refine l_op 2 rfl rfl rfl rfl rfl ?_
  refine l_a64 rfl rfl rfl (by omega) rfl ?_
  refine l_op 0 rfl rfl rfl rfl rfl ?_
  refine l_c64 rfl rfl rfl (by omega) rfl ?_
  refine l_a64 rfl rfl rfl (by omega) rfl ?_
  refine l_ixoi F 0 rfl rfl rfl rfl rfl rfl rfl (by omega) (fun m26 e26 ha26 hA26 => ?_)
  refine l_ld0 rfl rfl rfl rfl rfl (by assumption) ?_
  iterate 2 refine l_op 0 rfl rfl rfl rfl rfl ?_
  refine l_nil (WK.nx ‹_› (SeqK.nx ‹_› (k_ret ?_)))
  refine FunK.rt (by assumption) rfl ?_
  -- leaf 3
  (have e1 : holdsE true bs n fp (i + 1) = 0 := by unfold holdsE; rw [if_neg (by decide), if_neg (by omega)]
   have e2 : peekR true bs n fp i = (valW true bs n fp).getD ((valN true bs n fp : Int) - 1 - i).toNat 0 := by
     have h2 := v2 rfl
     have hv : valW true bs n fp = wordsR bs (fp + at4 bs fp) (valN true bs n fp) := rfl
     have hk : ((valN true bs n fp : Int) - 1 - i).toNat < valN true bs n fp := by omega
     rw [hv, wordsR_at hk]
     have e3 : peekR true bs n fp i = at4 bs (n - 4 - 4 * i) := if_pos e1
     rw [e3]
     congr 1
     omega
   rw [e1, e2]; exact ⟨(), rfl, F.pick [] (by decide), trivial⟩)
theorem rbecome_call {O : Nat → Prop} {σ : AState} {m n c l d : Nat} {a x : Option Addr} {size fp : Int} {bs vs : List Int} (F : Facts O σ σ [cel m (sC a n c size fp true), own a n c 1 (u8l bs)]) (ok : SOK size bs n fp true) (hx : Old O σ x l d 1 (u32l vs)) (hU : Words vs) (hl : l ≤ 100000) {b : Nat} (hb : (b : Int) = fp + at4 bs fp) :
    SCall Tryz.prog O 146 [.pointer (some ⟨m, 0, none⟩), .slice x l d] σ (Ret O σ (fun (y : Option Addr × Nat) => .tuple #[]) (fun y => [cel m (sC y.1 (b + 4 * l) y.2 size fp true), own y.1 (b + 4 * l) y.2 1 (u8l (bs.take b ++ putsR vs))]) fun _ => True) := by
  have hfit := ok.fit
  have hlen := ok.len
  obtain ⟨b0, b1, b2, b3, b4, b5, b6⟩ := ok.bd
  refine k_fun Tryz.func146 rfl (m := 28) rfl fun B hD Q K => ?_
  refine k_seq fun Q K => ?_
  refine k_lalt [0, 2, 3, 4, 5, 6, 7, 8, 9, 10, 11, 12, 13, 14] [(1, [15, 16, 17, 18, 19, 20, 21]), (15, [16, 17, 1, 18, 19, 20, 21])] mixed (by kernel_rfl) (fun W K => ?_)
  try have hpS := F.pns
  iterate 2 refine l_op 0 rfl rfl rfl rfl rfl ?_
  iterate 2 refine l_op 2 rfl rfl rfl rfl rfl ?_
  refine l_ldc F 0 rfl rfl rfl rfl rfl rfl rfl ?_
  skip
  refine l_op 0 rfl rfl rfl rfl rfl ?_
  iterate 2 refine l_op 2 rfl rfl rfl rfl rfl ?_
  refine l_ldc F 0 rfl rfl rfl rfl rfl rfl rfl ?_
  skip
  iterate 2 refine l_op 0 rfl rfl rfl rfl rfl ?_
  iterate 2 refine l_op 2 rfl rfl rfl rfl rfl ?_
  refine l_ldc F 0 rfl rfl rfl rfl rfl rfl rfl ?_
  skip
  refine l_nil (alt_two ?_ ?_)
  · have hpA := PnA.cel F 0 rfl (PnA.cel F 0 rfl (PnA.cel F 0 rfl pna_nil))
    refine l_lit F rfl rfl rfl rfl (fun q5 s F => ?_)
    (try dsimp only [n_1, n_2, n_3, n_4, List.append_nil, pk, n_5, n_6] at F)
    have hpA := PnA.cel F 0 rfl (PnA.cel F 0 rfl (PnA.cel F 0 rfl pna_nil))
    refine l_callp F rfl rfl (by kernel_rfl) rfl rfl (rat_call (p := fp) (F.cel0 0 rfl) (Old.pure (F.has 1 rfl)) ok.byt (by omega)) (fun _ s F _ => ?_)
    (try dsimp only [n_1, n_2, n_3, n_4, List.append_nil, pk, n_5, n_6] at F)
    refine l_a64 rfl rfl rfl (by omega) rfl ?_
    refine l_slh (es := 1) (h := b) rfl rfl rfl rfl rfl ⟨rfl, _, _, rfl, by omega, by omega⟩ (F.has 1 rfl) (by omega) ?_
    refine l_rs (by kernel_rfl) ?_
    refine l_app (es := 1) (len := 0) (vs := []) F 2 rfl rfl rfl rfl rfl rfl rfl ((F.has 1 rfl).upto8 (hi := b) (by omega)) (ints_one _) rfl (by omega) hD (fun x1 c1 s F => ?_)
    (try dsimp only [n_1, n_2, n_3, n_4, List.append_nil, pk, n_5, n_6] at F)
    rw [show 0 + b = b from Nat.zero_add b] at F ⊢
    iterate 2 refine l_op 2 rfl rfl rfl rfl rfl ?_
    refine l_stc F 0 rfl rfl rfl rfl rfl rfl rfl rfl rfl hD (fun s F => ?_)
    (try dsimp only [n_1, n_2, n_3, n_4, List.append_nil, pk, n_5, n_6] at F)
    refine l_nil (WK.nx ‹_› (SeqK.nx ‹_› ?_))
    refine k_lin fun W K => ?_
    iterate 2 refine l_op 0 rfl rfl rfl rfl rfl ?_
    refine l_call F [0, 2] [] (by decide) rfl rfl (by kernel_rfl) rfl rfl (rlay_call (vs := vs) (F.sub [0, 2] (by decide)) (F.oldO hx [0, 2]) hU (by omega)) hD (fun y s F _ => ?_)
    (try dsimp only [n_1, n_2, n_3, n_4, List.append_nil, pk, n_5, n_6] at F)
    refine l_nil (WK.nx ‹_› ?_)
    refine FunK.nx (by assumption) rfl ?_
    -- leaf 1
    first
    | exact ⟨y, rfl, F, trivial⟩
  have hpA := PnA.cel F 0 rfl (PnA.cel F 0 rfl (PnA.cel F 0 rfl pna_nil))
  refine l_callp F rfl rfl (by kernel_rfl) rfl rfl (rat_call (p := fp) (F.cel0 0 rfl) (Old.pure (F.has 1 rfl)) ok.byt (by omega)) (fun _ s F _ => ?_)
  (try dsimp only [n_1, n_2, n_3, n_4, List.append_nil, pk, n_5, n_6] at F)
  refine l_a64 rfl rfl rfl (by omega) rfl ?_
  refine l_slh (es := 1) (h := b) rfl rfl rfl rfl rfl ⟨rfl, _, _, rfl, by omega, by omega⟩ (F.has 1 rfl) (by omega) ?_
  have hpA := PnA.cel F 0 rfl (PnA.cel F 0 rfl (PnA.cel F 0 rfl pna_nil))
  refine l_lit F rfl rfl rfl rfl (fun q5 s F => ?_)
  (try dsimp only [n_1, n_2, n_3, n_4, List.append_nil, pk, n_5, n_6] at F)
  refine l_rs (by kernel_rfl) ?_
  refine l_app (es := 1) (len := 0) (vs := []) F 2 rfl rfl rfl rfl rfl rfl rfl ((F.has 1 rfl).upto8 (hi := b) (by omega)) (ints_one _) rfl (by omega) hD (fun x1 c1 s F => ?_)
  (try dsimp only [n_1, n_2, n_3, n_4, List.append_nil, pk, n_5, n_6] at F)
  rw [show 0 + b = b from Nat.zero_add b] at F ⊢
  iterate 2 refine l_op 2 rfl rfl rfl rfl rfl ?_
  refine l_stc F 0 rfl rfl rfl rfl rfl rfl rfl rfl rfl hD (fun s F => ?_)
  (try dsimp only [n_1, n_2, n_3, n_4, List.append_nil, pk, n_5, n_6] at F)
  refine l_nil (WK.nx ‹_› (SeqK.nx ‹_› ?_))
  refine k_lin fun W K => ?_
  iterate 2 refine l_op 0 rfl rfl rfl rfl rfl ?_
  refine l_call F [0, 2] [] (by decide) rfl rfl (by kernel_rfl) rfl rfl (rlay_call (vs := vs) (F.sub [0, 2] (by decide)) (F.oldO hx [0, 2]) hU (by omega)) hD (fun y s F _ => ?_)
  (try dsimp only [n_1, n_2, n_3, n_4, List.append_nil, pk, n_5, n_6] at F)
  refine l_nil (WK.nx ‹_› ?_)
  refine FunK.nx (by assumption) rfl ?_
  -- leaf 2
  first
  | exact ⟨y, rfl, F, trivial⟩

/-- What is laid behind what stays is what lay there. -/
theorem take_words {bs : List Int} (hB : Bytes bs) {b k : Nat} (h : b + 4 * k ≤ bs.length) : bs.take b ++ putsR (wordsR bs b k) = bs.take (b + 4 * k) := by
  rw [putsR_words hB k h, List.take_add]
theorem rpop_call {O : Nat → Prop} {σ : AState} {m n c : Nat} {a : Option Addr} {size fp : Int} {on : Bool} {bs : List Int} (F : Facts O σ σ [cel m (sC a n c size fp on), own a n c 1 (u8l bs)]) (ok : SOK size bs n fp on) :
    SCall Tryz.prog O 94 [.pointer (some ⟨m, 0, none⟩)] σ (Ret O σ (fun (y : Option Addr × Nat × Nat) => .tuple #[.int .u32 (peekR on bs n fp 0), .int .i64 (holdsE on bs n fp 1)]) (fun y => [cel m (sC y.1 y.2.1 y.2.2 size fp on), own y.1 y.2.1 y.2.2 1 (u8l (bs.take y.2.1))]) fun y => y.2.1 = if holdsE on bs n fp 1 = 0 then n - 4 else n) := by
  have hfit := ok.fit
  have hlen := ok.len
  obtain ⟨v1, v2, v3⟩ := valN_bd ok
  refine k_fun Tryz.func94 rfl (m := 25) rfl fun B hD Q K => ?_
  refine k_seq fun Q K => k_lin fun W K => ?_
  iterate 2 refine l_op 0 rfl rfl rfl rfl rfl ?_
  refine l_nil (WK.nx ‹_› (SeqK.nx ‹_› ?_))
  refine k_seq fun Q K => k_lin fun W K => ?_
  refine l_op 0 rfl rfl rfl rfl rfl ?_
  refine l_callp F rfl rfl (by kernel_rfl) rfl rfl (rpeek_call (i := 0) (F.cel0 0 rfl) (Old.pure (F.has 1 rfl)) ok ⟨by omega, by omega⟩) (fun _ s F _ => ?_)
  (try dsimp only [n_1, n_2, n_3, n_4, List.append_nil, pk, n_5, n_6] at F)
  refine l_op 0 rfl rfl rfl rfl rfl ?_
  iterate 2 refine l_op 2 rfl rfl rfl rfl rfl ?_
  iterate 2 refine l_op 0 rfl rfl rfl rfl rfl ?_
  refine l_nil (WK.nx ‹_› (SeqK.nx ‹_› ?_))
  refine k_seq fun Q K => k_seq fun Q K => k_lin fun W K => ?_
  refine l_op 0 rfl rfl rfl rfl rfl ?_
  refine l_cmp rfl rfl rfl rfl ?_
  refine l_nil (WK.nx ‹_› (SeqK.nx ‹_› ?_))
  refine l_cond rfl rfl (fun hc1 => ?_) (fun hc1 => ?_)
  · replace hc1 := eq_of_beq ((irr_eq _).symm.trans hc1)
    have h0 : holdsE on bs n fp 1 = 0 := by assumption
    obtain ⟨hon1, hcnt⟩ := holdsE_ok (on := on) (bs := bs) (n := n) (fp := fp) (k := 1) h0
    subst hon1
    have h2 := v2 rfl
    obtain ⟨b0, b1, b2, b3, b4, b5, b6⟩ := ok.bd
    obtain ⟨b, hb⟩ : ∃ b : Nat, (b : Int) = fp + at4 bs fp := ⟨(fp + at4 bs fp).toNat, by omega⟩
    have hvn : 0 < valN true bs n fp := by omega
    refine k_seq fun Q K => k_lin fun W K => ?_
    refine l_op 0 rfl rfl rfl rfl rfl ?_
    refine l_callp F rfl rfl (by kernel_rfl) rfl rfl (rvalues_call (F.cel0 0 rfl) (Old.pure (F.has 1 rfl)) ok) (fun y s F _ => ?_)
    (try dsimp only [n_1, n_2, n_3, n_4, List.append_nil, pk, n_5, n_6] at F)
    refine l_op 0 rfl rfl rfl rfl rfl ?_
    refine l_nil (WK.nx ‹_› (SeqK.nx ‹_› ?_))
    refine k_lin fun W K => ?_
    iterate 3 refine l_op 0 rfl rfl rfl rfl rfl ?_
    refine l_op 2 rfl rfl rfl rfl rfl ?_
    refine l_a64 rfl rfl rfl (by omega) rfl ?_
    refine l_slh (es := 1) (h := valN true bs n fp - 1) rfl rfl rfl rfl rfl ⟨rfl, _, _, rfl, by omega, by omega⟩ (F.has 2 rfl) (by omega) ?_
    have hW : wordsR bs (fp + at4 bs fp) (valN true bs n fp - 1) = (valW true bs n fp).take (valN true bs n fp - 1) := (wordsR_take _ _ (by omega)).symm
    have hold : Old (fpOf (pk [cel m (sC a n c size fp true), own a n c 1 (u8l bs), own y.1 (valN true bs n fp) y.2 1 (u32l (valW true bs n fp))] [0, 1])) s y.1 (valN true bs n fp - 1) y.2 1 (u32l (wordsR bs (fp + at4 bs fp) (valN true bs n fp - 1))) := by
      have := (F.oldK [0, 1] 2 rfl (by decide)).upto8 (hi := valN true bs n fp - 1) (by omega)
      rw [hW]; exact this
    refine l_call F [0, 1] [] (by decide) rfl rfl (by kernel_rfl) rfl rfl (rbecome_call (b := b) (vs := wordsR bs (fp + at4 bs fp) (valN true bs n fp - 1)) (F.sub [0, 1] (by decide)) ok hold (wordsR_words ok.byt _ _) (by omega) hb) hD (fun yb s F _ => ?_)
    (try dsimp only [n_1, n_2, n_3, n_4, List.append_nil, pk, n_5, n_6] at F)
    refine l_nil (WK.nx ‹_› (SeqK.nx ‹_› ?_))
    refine k_seq fun Q K => k_lin fun W K => ?_
    iterate 4 refine l_op 0 rfl rfl rfl rfl rfl ?_
    refine l_nil (WK.nx ‹_› (SeqK.nx ‹_› (k_ret ?_)))
    refine FunK.rt (by assumption) rfl ?_
    -- leaf 1
    (have e1 : b + 4 * (valN true bs n fp - 1) = n - 4 := by omega
     have e2 := take_words ok.byt (b := b) (k := valN true bs n fp - 1) (by omega)
     rw [hb] at e2
     rw [e2, e1] at F
     exact ⟨(yb.1, n - 4, yb.2), rfl, F, by rw [if_pos h0]⟩)
  replace hc1 := ne_of_beq_false ((irr_eq _).symm.trans hc1)
  refine k_skip (SeqK.nx ‹_› ?_)
  refine k_seq fun Q K => k_lin fun W K => ?_
  iterate 4 refine l_op 0 rfl rfl rfl rfl rfl ?_
  refine l_nil (WK.nx ‹_› (SeqK.nx ‹_› (k_ret ?_)))
  refine FunK.rt (by assumption) rfl ?_
  -- leaf 2
  (have h0 : holdsE on bs n fp 1 ≠ 0 := by assumption
   exact ⟨(a, n, c), rfl, by show Facts O σ s [_, own a n c 1 (u8l (bs.take n))]; rw [List.take_of_length_le (by omega)]; exact F, by rw [if_neg h0]⟩)
theorem rpush_call {O : Nat → Prop} {σ : AState} {m n c : Nat} {a : Option Addr} {size fp x : Int} {on : Bool} {bs : List Int} (F : Facts O σ σ [cel m (sC a n c size fp on), own a n c 1 (u8l bs)]) (hx : U32 x) (hn : n ≤ 100000) :
    SCall Tryz.prog O 92 [.pointer (some ⟨m, 0, none⟩), .int .u32 x] σ (Ret O σ (fun (y : Option Addr × Nat × Nat) => .int .i64 (readyR on n 4 size)) (fun y => [cel m (sC y.1 y.2.1 y.2.2 size fp on), own y.1 y.2.1 y.2.2 1 (u8l (if readyR on n 4 size = 0 then bs ++ putR x 4 else bs))]) fun y => y.2.1 = if readyR on n 4 size = 0 then n + 4 else n) := by
  refine k_fun Tryz.func92 rfl (m := 25) rfl fun B hD Q K => ?_
  refine k_seq fun Q K => k_lin fun W K => ?_
  refine l_op 0 rfl rfl rfl rfl rfl ?_
  refine l_nil (WK.nx ‹_› (SeqK.nx ‹_› ?_))
  refine k_seq fun Q K => k_seq fun Q K => k_lin fun W K => ?_
  refine l_op 0 rfl rfl rfl rfl rfl ?_
  iterate 2 refine l_op 2 rfl rfl rfl rfl rfl ?_
  refine l_ldc F 0 rfl rfl rfl rfl rfl rfl rfl ?_
  refine l_op 2 rfl rfl rfl rfl rfl ?_
  refine l_nil (WK.nx ‹_› (SeqK.nx ‹_› ?_))
  refine l_cond rfl rfl (fun hc1 => ?_) (fun hc1 => ?_)
  · try simp only [i_1, i_2, i_3, i_4, i_5, ne_eq, i_6, i_7, i_8, i_9] at hc1
    have hoff : on = false := by cases on <;> simp_all
    subst hoff
    refine k_seq fun Q K => k_lin fun W K => ?_
    refine l_op 0 rfl rfl rfl rfl rfl ?_
    refine l_nil (WK.nx ‹_› (SeqK.nx ‹_› (k_ret (SeqK.rt ‹_› ?_))))
    refine FunK.rt (by assumption) rfl ?_
    -- leaf 1
    (have h0 : readyR false n 4 size = 102 := rfl
     refine ⟨(a, n, c), rfl, ?_, by rw [if_neg (by omega)]⟩
     rw [if_neg (by omega)]; exact F)
  try simp only [i_1, i_2, i_3, i_4, i_5, ne_eq, i_6, i_7, i_8, i_9] at hc1
  have hon : on = true := by cases on <;> simp_all
  subst hon
  refine k_skip (SeqK.nx ‹_› ?_)
  refine k_seq fun Q K => k_seq fun Q K => ?_
  refine k_linm [0, 1, 2, 6, 7, 8, 3, 4, 5, 9, 10] mixed (by kernel_rfl) (fun W K => ?_)
  try have hpS := F.pns
  refine l_op 0 rfl rfl rfl rfl rfl ?_
  iterate 2 refine l_op 2 rfl rfl rfl rfl rfl ?_
  refine l_op 0 rfl rfl rfl rfl rfl ?_
  iterate 2 refine l_op 2 rfl rfl rfl rfl rfl ?_
  refine l_ldc F 0 rfl rfl rfl rfl rfl rfl rfl ?_
  skip
  refine l_op 2 rfl rfl rfl rfl rfl ?_
  refine l_a64 rfl rfl rfl (by omega) rfl ?_
  refine l_ldc F 0 rfl rfl rfl rfl rfl rfl rfl ?_
  skip
  refine l_cmp rfl rfl rfl rfl ?_
  refine l_nil (WK.nx ‹_› (SeqK.nx ‹_› ?_))
  refine l_cond rfl rfl (fun hc2 => ?_) (fun hc2 => ?_)
  · replace hc2 := of_decide_eq_true ((irr_eq _).symm.trans hc2)
    refine k_seq fun Q K => k_lin fun W K => ?_
    refine l_op 0 rfl rfl rfl rfl rfl ?_
    refine l_nil (WK.nx ‹_› (SeqK.nx ‹_› (k_ret (SeqK.rt ‹_› ?_))))
    refine FunK.rt (by assumption) rfl ?_
    -- leaf 2
    (have h0 : readyR true n 4 size = 100 := by unfold readyR; rw [if_neg (by decide), if_pos (by omega)]
     refine ⟨(a, n, c), by rw [h0]; rfl, ?_, by rw [if_neg (by omega)]⟩
     rw [if_neg (by omega)]; exact F)
  replace hc2 := of_decide_eq_false ((irr_eq _).symm.trans hc2)
  refine k_skip (SeqK.nx ‹_› ?_)
  refine k_seq fun Q K => k_lin fun W K => ?_
  iterate 2 refine l_op 0 rfl rfl rfl rfl rfl ?_
  refine l_lit F rfl rfl rfl rfl (fun q23 s F => ?_)
  (try dsimp only [n_1, n_2, n_3, n_4, List.append_nil, pk, n_5, n_6] at F)
  refine l_call F [0, 1] [2] (by decide) rfl rfl (by kernel_rfl) rfl rfl (rlay_call (vs := [x]) (F.sub [0, 1] (by decide)) (F.oldK [0, 1] 2 rfl (by decide)) (words1 hx) (by omega)) hD (fun y s F _ => ?_)
  (try dsimp only [n_1, n_2, n_3, n_4, List.append_nil, pk, n_5, n_6] at F)
  (try dsimp only [n_1, n_2, n_3, n_4, List.append_nil, pk, n_5, n_6] at F)
  refine l_nil (WK.nx ‹_› (SeqK.nx ‹_› ?_))
  refine k_seq fun Q K => k_lin fun W K => ?_
  refine l_op 0 rfl rfl rfl rfl rfl ?_
  refine l_nil (WK.nx ‹_› (SeqK.nx ‹_› (k_ret ?_)))
  refine FunK.rt (by assumption) rfl ?_
  -- leaf 3
  (have h0 : readyR true n 4 size = 0 := by unfold readyR; rw [if_neg (by decide), if_neg (by omega)]
   refine ⟨(y.1, n + 4, y.2), by rw [h0]; rfl, ?_, by rw [if_pos h0]⟩
   rw [if_pos h0]
   have e : putsR [x] = putR x 4 := by simp [putsR]
   rw [← e]
   exact F.pick [1, 2] (by decide))
theorem words4r {a b c d : Int} (ha : U32 a) (hb : U32 b) (hc : U32 c) (hd : U32 d) : Words [a, b, c, d] := words_mem.2 fun x hx => by
  simp only [List.mem_cons, List.not_mem_nil, or_false] at hx
  rcases hx with rfl | rfl | rfl | rfl <;> assumption
theorem rstub_call {O : Nat → Prop} {σ : AState} {m n c : Nat} {a : Option Addr} {size fp k1 k2 k3 : Int} {on : Bool} {bs : List Int} (F : Facts O σ σ [cel m (sC a n c size fp on), own a n c 1 (u8l bs)]) (h1 : U32 k1) (h2 : U32 k2) (h3 : U32 k3) (hn : n ≤ 100000) (hf : U32 fp) :
    SCall Tryz.prog O 81 [.pointer (some ⟨m, 0, none⟩), .int .u32 k1, .int .u32 k2, .int .u32 k3] σ (Ret O σ (fun (y : Option Addr × Nat × Nat) => .int .i64 (readyR on n 16 size)) (fun y => [cel m (sC y.1 y.2.1 y.2.2 size fp on), own y.1 y.2.1 y.2.2 1 (u8l (if readyR on n 16 size = 0 then bs ++ putsR [k1, k2, k3, fp] else bs))]) fun y => y.2.1 = if readyR on n 16 size = 0 then n + 16 else n) := by
  have hf' := hf
  obtain ⟨f0, f1⟩ := hf
  refine k_fun Tryz.func81 rfl (m := 36) rfl fun B hD Q K => ?_
  refine k_seq fun Q K => k_lin fun W K => ?_
  refine l_op 0 rfl rfl rfl rfl rfl ?_
  refine l_nil (WK.nx ‹_› (SeqK.nx ‹_› ?_))
  refine k_seq fun Q K => k_seq fun Q K => k_lin fun W K => ?_
  refine l_op 0 rfl rfl rfl rfl rfl ?_
  iterate 2 refine l_op 2 rfl rfl rfl rfl rfl ?_
  refine l_ldc F 0 rfl rfl rfl rfl rfl rfl rfl ?_
  refine l_op 2 rfl rfl rfl rfl rfl ?_
  refine l_nil (WK.nx ‹_› (SeqK.nx ‹_› ?_))
  refine l_cond rfl rfl (fun hc1 => ?_) (fun hc1 => ?_)
  · try simp only [i_1, i_2, i_3, i_4, i_5, ne_eq, i_6, i_7, i_8, i_9] at hc1
    have hoff : on = false := by cases on <;> simp_all
    subst hoff
    refine k_seq fun Q K => k_lin fun W K => ?_
    refine l_op 0 rfl rfl rfl rfl rfl ?_
    refine l_nil (WK.nx ‹_› (SeqK.nx ‹_› (k_ret (SeqK.rt ‹_› ?_))))
    refine FunK.rt (by assumption) rfl ?_
    -- leaf 1
    (have h0 : readyR false n 16 size = 102 := rfl
     refine ⟨(a, n, c), rfl, ?_, by rw [if_neg (by omega)]⟩
     rw [if_neg (by omega)]; exact F)
  try simp only [i_1, i_2, i_3, i_4, i_5, ne_eq, i_6, i_7, i_8, i_9] at hc1
  have hon : on = true := by cases on <;> simp_all
  subst hon
  refine k_skip (SeqK.nx ‹_› ?_)
  refine k_seq fun Q K => k_seq fun Q K => ?_
  refine k_linm [0, 1, 2, 6, 7, 8, 3, 4, 5, 9, 10] mixed (by kernel_rfl) (fun W K => ?_)
  try have hpS := F.pns
  refine l_op 0 rfl rfl rfl rfl rfl ?_
  iterate 2 refine l_op 2 rfl rfl rfl rfl rfl ?_
  refine l_op 0 rfl rfl rfl rfl rfl ?_
  iterate 2 refine l_op 2 rfl rfl rfl rfl rfl ?_
  refine l_ldc F 0 rfl rfl rfl rfl rfl rfl rfl ?_
  skip
  refine l_op 2 rfl rfl rfl rfl rfl ?_
  refine l_a64 rfl rfl rfl (by omega) rfl ?_
  refine l_ldc F 0 rfl rfl rfl rfl rfl rfl rfl ?_
  skip
  refine l_cmp rfl rfl rfl rfl ?_
  refine l_nil (WK.nx ‹_› (SeqK.nx ‹_› ?_))
  refine l_cond rfl rfl (fun hc2 => ?_) (fun hc2 => ?_)
  · replace hc2 := of_decide_eq_true ((irr_eq _).symm.trans hc2)
    refine k_seq fun Q K => k_lin fun W K => ?_
    refine l_op 0 rfl rfl rfl rfl rfl ?_
    refine l_nil (WK.nx ‹_› (SeqK.nx ‹_› (k_ret (SeqK.rt ‹_› ?_))))
    refine FunK.rt (by assumption) rfl ?_
    -- leaf 2
    (have h0 : readyR true n 16 size = 100 := by unfold readyR; rw [if_neg (by decide), if_pos (by omega)]
     refine ⟨(a, n, c), by rw [h0]; rfl, ?_, by rw [if_neg (by omega)]⟩
     rw [if_neg (by omega)]; exact F)
  replace hc2 := of_decide_eq_false ((irr_eq _).symm.trans hc2)
  refine k_skip (SeqK.nx ‹_› ?_)
  refine k_seq fun Q K => k_lin fun W K => ?_
  iterate 5 refine l_op 0 rfl rfl rfl rfl rfl ?_
  iterate 2 refine l_op 2 rfl rfl rfl rfl rfl ?_
  refine l_ldc F 0 rfl rfl rfl rfl rfl rfl rfl ?_
  refine l_c32 rfl rfl rfl (by omega) rfl ?_
  refine l_lit F rfl rfl rfl rfl (fun q34 s F => ?_)
  (try dsimp only [n_1, n_2, n_3, n_4, List.append_nil, pk, n_5, n_6] at F)
  refine l_call F [0, 1] [2] (by decide) rfl rfl (by kernel_rfl) rfl rfl (rlay_call (vs := [k1, k2, k3, fp]) (F.sub [0, 1] (by decide)) (F.oldK [0, 1] 2 rfl (by decide)) (words4r h1 h2 h3 hf') (by omega)) hD (fun y s F _ => ?_)
  (try dsimp only [n_1, n_2, n_3, n_4, List.append_nil, pk, n_5, n_6] at F)
  (try dsimp only [n_1, n_2, n_3, n_4, List.append_nil, pk, n_5, n_6] at F)
  refine l_nil (WK.nx ‹_› (SeqK.nx ‹_› ?_))
  refine k_seq fun Q K => k_lin fun W K => ?_
  refine l_op 0 rfl rfl rfl rfl rfl ?_
  refine l_nil (WK.nx ‹_› (SeqK.nx ‹_› (k_ret ?_)))
  refine FunK.rt (by assumption) rfl ?_
  -- leaf 3
  (have h0 : readyR true n 16 size = 0 := by unfold readyR; rw [if_neg (by decide), if_neg (by omega)]
   refine ⟨(y.1, n + 16, y.2), by rw [h0]; rfl, ?_, by rw [if_pos h0]⟩
   rw [if_pos h0]
   exact F.pick [1, 2] (by decide))

theorem two_appS {O : Nat → Prop} {σ0 σ : AState} {f : Fact} {a : Option Addr} {l c : Nat} {xs ys : List Int} (F : Facts O σ0 σ [f, own a l c 1 (u8l xs ++ u8l ys)]) : Facts O σ0 σ [f, own a l c 1 (u8l (xs ++ ys))] := by
  rw [← List.map_append] at F; exact F
theorem renter_call {O : Nat → Prop} {σ : AState} {m n c l d : Nat} {a x : Option Addr} {size fp : Int} {on : Bool} {bs p : List Int} (F : Facts O σ σ [cel m (sC a n c size fp on), own a n c 1 (u8l bs)]) (hx : Old O σ x l d 1 (u8l p)) (ok : SOK size bs n fp on) (hBp : Bytes p) (hl : l ≤ 20000) :
    SCall Tryz.prog O 49 [.pointer (some ⟨m, 0, none⟩), .slice x l d] σ (Ret O σ (fun (z : StZ) => .int .i64 (entE on bs n fp size p)) (fun z => zF m size z) fun z => EntR on bs n fp size p z) := by
  have hfit := ok.fit
  have hlen := ok.len
  have hbl := F.len8 1 rfl
  have hpl : p.length = l := by simpa using hx.1.size
  obtain ⟨b1, b2, b3, b4, b5, b6⟩ := locR_bd hBp (by omega)
  obtain ⟨v1, v2, v3⟩ := valN_bd ok
  have hb := at4_bd ok.byt ((n : Int) - 4)
  refine k_fun Tryz.func49 rfl (m := 109) rfl fun B hD Q K => ?_
  refine k_seq fun Q K => k_lin fun W K => ?_
  refine l_op 0 rfl rfl rfl rfl rfl ?_
  refine l_nil (WK.nx ‹_› (SeqK.nx ‹_› ?_))
  refine k_seq fun Q K => k_lin fun W K => ?_
  refine l_op 0 rfl rfl rfl rfl rfl ?_
  refine l_callp F rfl rfl (by kernel_rfl) rfl rfl (rlocals_call (Old.pure (F.old hx)) hBp (by omega)) (fun y s F _ => ?_)
  (try dsimp only [n_1, n_2, n_3, n_4, List.append_nil, pk, n_5, n_6] at F)
  refine l_op 0 rfl rfl rfl rfl rfl ?_
  iterate 3 refine l_op 2 rfl rfl rfl rfl rfl ?_
  iterate 3 refine l_op 0 rfl rfl rfl rfl rfl ?_
  refine l_nil (WK.nx ‹_› (SeqK.nx ‹_› ?_))
  refine k_seq fun Q K => k_seq fun Q K => k_lin fun W K => ?_
  refine l_op 0 rfl rfl rfl rfl rfl ?_
  refine l_cmp rfl rfl rfl rfl ?_
  refine l_nil (WK.nx ‹_› (SeqK.nx ‹_› ?_))
  refine l_cond rfl rfl (fun hc1 => ?_) (fun hc1 => ?_)
  · replace hc1 := bne_iff_ne.1 ((irr_eq _).symm.trans hc1)
    refine k_seq fun Q K => k_lin fun W K => ?_
    iterate 2 refine l_op 0 rfl rfl rfl rfl rfl ?_
    refine l_nil (WK.nx ‹_› (SeqK.nx ‹_› (k_ret (SeqK.rt ‹_› ?_))))
    refine FunK.rt (by assumption) rfl ?_
    -- leaf 1
    (have he : entE on bs n fp size p = (locR p).2.2 := if_pos (by assumption)
     exact ⟨⟨a, n, c, fp, on, bs⟩, congrArg (Value.int .i64) he.symm, F, ⟨fun _ => ⟨rfl, rfl, rfl, rfl⟩, fun h0 => by omega⟩⟩)
  replace hc1 := bne_eq_false_iff_eq.1 ((irr_eq _).symm.trans hc1)
  refine k_skip (SeqK.nx ‹_› ?_)
  refine k_seq fun Q K => k_lin fun W K => ?_
  refine l_op 0 rfl rfl rfl rfl rfl ?_
  refine l_callp F rfl rfl (by kernel_rfl) rfl rfl (rvalues_call (F.cel0 0 rfl) (Old.pure (F.has 1 rfl)) ok) (fun yv s F _ => ?_)
  (try dsimp only [n_1, n_2, n_3, n_4, List.append_nil, pk, n_5, n_6] at F)
  refine l_op 0 rfl rfl rfl rfl rfl ?_
  refine l_nil (WK.nx ‹_› (SeqK.nx ‹_› ?_))
  refine k_seq fun Q K => k_seq fun Q K => ?_
  refine k_linm [0, 1, 2, 3, 4, 5, 6, 7, 8, 9, 10, 11, 12, 13, 16, 17, 18, 14, 15, 19, 20, 21, 22] mixed (by kernel_rfl) (fun W K => ?_)
  try have hpS := F.pns
  refine l_op 0 rfl rfl rfl rfl rfl ?_
  iterate 2 refine l_op 2 rfl rfl rfl rfl rfl ?_
  refine l_ldc F 0 rfl rfl rfl rfl rfl rfl rfl ?_
  skip
  refine l_op 0 rfl rfl rfl rfl rfl ?_
  refine l_guard rfl rfl rfl (fun hc2 => ?_) (fun hc2 => ?_)
  · try simp only [i_1, i_2, i_3, i_4, i_5, ne_eq, i_6, i_7, i_8, i_9] at hc2
    have hon : on = true := by simpa using hc2
    subst hon
    refine l_op 0 rfl rfl rfl rfl rfl ?_
    refine l_op 2 rfl rfl rfl rfl rfl ?_
    refine l_cmp rfl rfl rfl rfl ?_
    refine l_op 0 rfl rfl rfl rfl rfl ?_
    refine l_guard rfl rfl rfl (fun hc3 => ?_) (fun hc3 => ?_)
    · replace hc3 := of_decide_eq_true ((irr_eq _).symm.trans hc3)
      iterate 12 refine l_s rfl rfl ?_
      iterate 2 refine l_op 2 rfl rfl rfl rfl rfl ?_
      refine l_nil (WK.nx ‹_› (SeqK.nx ‹_› ?_))
      refine e_cond_t rfl rfl rfl ?_
      refine k_seq fun Q K => k_lin fun W K => ?_
      refine l_op 0 rfl rfl rfl rfl rfl ?_
      refine l_nil (WK.nx ‹_› (SeqK.nx ‹_› (k_ret (SeqK.rt ‹_› ?_))))
      refine FunK.rt (by assumption) rfl ?_
      -- leaf 2
      (have he : entE true bs n fp size p = 102 := by
         unfold entE
         rw [if_neg (by omega), if_pos ⟨rfl, by omega⟩]
       exact ⟨⟨a, n, c, fp, true, bs⟩, congrArg (Value.int .i64) he.symm, F.pick [0, 1] (by decide), ⟨fun _ => ⟨rfl, rfl, rfl, rfl⟩, fun h0 => by omega⟩⟩)
    replace hc3 := of_decide_eq_false ((irr_eq _).symm.trans hc3)
    iterate 2 refine l_op 0 rfl rfl rfl rfl rfl ?_
    refine l_op 2 rfl rfl rfl rfl rfl ?_
    refine l_a64 rfl rfl rfl (by omega) rfl ?_
    have h2 := v2 rfl
    have hlast : (valW true bs n fp).getD ((valN true bs n fp : Int) - 1).toNat 0 = at4 bs (n - 4) := by
      have hv : valW true bs n fp = wordsR bs (fp + at4 bs fp) (valN true bs n fp) := rfl
      rw [hv, wordsR_at (by omega)]
      congr 1
      omega
    refine l_ixoi F 2 rfl rfl rfl rfl rfl rfl rfl (by omega) (fun m33 e33 ha33 hA33 => ?_)
    rw [hlast] at hA33
    refine l_op 0 rfl rfl rfl rfl rfl ?_
    iterate 2 refine l_op 2 rfl rfl rfl rfl rfl ?_
    refine l_ld0 rfl rfl rfl rfl rfl (by assumption) ?_
    skip
    refine l_c64 rfl rfl rfl (by omega) rfl ?_
    refine l_ldc F 0 rfl rfl rfl rfl rfl rfl rfl ?_
    skip
    refine l_cmp rfl rfl rfl rfl ?_
    iterate 2 refine l_op 2 rfl rfl rfl rfl rfl ?_
    refine l_nil (WK.nx ‹_› (SeqK.nx ‹_› ?_))
    refine l_cond rfl rfl (fun hc4 => ?_) (fun hc4 => ?_)
    · replace hc4 := bne_iff_ne.1 ((irr_eq _).symm.trans hc4)
      refine k_seq fun Q K => k_lin fun W K => ?_
      refine l_op 0 rfl rfl rfl rfl rfl ?_
      refine l_nil (WK.nx ‹_› (SeqK.nx ‹_› (k_ret (SeqK.rt ‹_› ?_))))
      refine FunK.rt (by assumption) rfl ?_
      -- leaf 3
      (have he : entE true bs n fp size p = 102 := by
         unfold entE
         rw [if_neg (by omega), if_pos ⟨rfl, by omega⟩]
       exact ⟨⟨a, n, c, fp, true, bs⟩, congrArg (Value.int .i64) he.symm, F.pick [0, 1] (by decide), ⟨fun _ => ⟨rfl, rfl, rfl, rfl⟩, fun h0 => by omega⟩⟩)
    replace hc4 := bne_eq_false_iff_eq.1 ((irr_eq _).symm.trans hc4)
    refine k_skip (SeqK.nx ‹_› ?_)
    refine k_seq fun Q K => k_seq fun Q K => ?_
    refine k_linm [0, 1, 2, 5, 7, 9, 10, 11, 3, 4, 6, 8, 12, 13] mixed (by kernel_rfl) (fun W K => ?_)
    try have hpS := F.pns
    refine l_op 0 rfl rfl rfl rfl rfl ?_
    iterate 2 refine l_op 2 rfl rfl rfl rfl rfl ?_
    iterate 3 refine l_op 0 rfl rfl rfl rfl rfl ?_
    iterate 2 refine l_op 2 rfl rfl rfl rfl rfl ?_
    refine l_ldc F 0 rfl rfl rfl rfl rfl rfl rfl ?_
    skip
    refine l_op 2 rfl rfl rfl rfl rfl ?_
    iterate 2 refine l_a64 rfl rfl rfl (by omega) rfl ?_
    refine l_ldc F 0 rfl rfl rfl rfl rfl rfl rfl ?_
    skip
    refine l_cmp rfl rfl rfl rfl ?_
    refine l_nil (WK.nx ‹_› (SeqK.nx ‹_› ?_))
    refine l_cond rfl rfl (fun hc5 => ?_) (fun hc5 => ?_)
    · replace hc5 := of_decide_eq_true ((irr_eq _).symm.trans hc5)
      refine k_seq fun Q K => k_lin fun W K => ?_
      refine l_op 0 rfl rfl rfl rfl rfl ?_
      refine l_nil (WK.nx ‹_› (SeqK.nx ‹_› (k_ret (SeqK.rt ‹_› ?_))))
      refine FunK.rt (by assumption) rfl ?_
      -- leaf 4
      (have he : entE true bs n fp size p = 100 := by
         unfold entE
         rw [if_neg (by omega), if_neg (fun h => by have := h.2; omega), if_pos (by omega)]
       exact ⟨⟨a, n, c, fp, true, bs⟩, congrArg (Value.int .i64) he.symm, F.pick [0, 1] (by decide), ⟨fun _ => ⟨rfl, rfl, rfl, rfl⟩, fun h0 => by omega⟩⟩)
    replace hc5 := of_decide_eq_false ((irr_eq _).symm.trans hc5)
    refine k_skip (SeqK.nx ‹_› ?_)
    refine k_seq fun Q K => k_lin fun W K => ?_
    iterate 3 refine l_op 0 rfl rfl rfl rfl rfl ?_
    iterate 2 refine l_op 2 rfl rfl rfl rfl rfl ?_
    refine l_ldc F 0 rfl rfl rfl rfl rfl rfl rfl ?_
    iterate 3 refine l_op 2 rfl rfl rfl rfl rfl ?_
    refine l_stc F 0 rfl rfl rfl rfl rfl rfl rfl rfl rfl hD (fun s F => ?_)
    (try dsimp only [n_1, n_2, n_3, n_4, List.append_nil, pk, n_5, n_6] at F)
    iterate 2 refine l_op 2 rfl rfl rfl rfl rfl ?_
    refine l_stc F 0 rfl rfl rfl rfl rfl rfl rfl rfl rfl hD (fun s F => ?_)
    (try dsimp only [n_1, n_2, n_3, n_4, List.append_nil, pk, n_5, n_6] at F)
    refine l_nil (WK.nx ‹_› (SeqK.nx ‹_› ?_))
    refine k_seq fun Q K => k_lin fun W K => ?_
    iterate 3 refine l_op 0 rfl rfl rfl rfl rfl ?_
    refine l_a64 rfl rfl rfl (by omega) rfl ?_
    refine l_c32 rfl rfl rfl (by omega) rfl ?_
    refine l_op 0 rfl rfl rfl rfl rfl ?_
    refine l_c32 rfl rfl rfl (by omega) rfl ?_
    refine l_lit F rfl rfl rfl rfl (fun q75 s F => ?_)
    (try dsimp only [n_1, n_2, n_3, n_4, List.append_nil, pk, n_5, n_6] at F)
    have hlo := locR_ok (p := p) (by omega)
    refine l_call F [0, 1] [] (by decide) rfl rfl (by kernel_rfl) rfl rfl (rlay_call (vs := [(locR p).1 + (locR p).2.1, (locR p).1]) (F.sub [0, 1] (by decide)) (F.oldK [0, 1] 3 rfl (by decide)) (words2 ⟨by omega, by omega⟩ ⟨by omega, by omega⟩) (by omega)) hD (fun y s F _ => ?_)
    (try dsimp only [n_1, n_2, n_3, n_4, List.append_nil, pk, n_5, n_6] at F)
    (try dsimp only [n_1, n_2, n_3, n_4, List.append_nil, pk, n_5, n_6] at F)
    refine l_nil (WK.nx ‹_› (SeqK.nx ‹_› ?_))
    refine k_seq fun Q K => k_lin fun W K => ?_
    iterate 2 refine l_op 0 rfl rfl rfl rfl rfl ?_
    iterate 2 refine l_op 2 rfl rfl rfl rfl rfl ?_
    refine l_ldc F 0 rfl rfl rfl rfl rfl rfl rfl ?_
    refine l_op 0 rfl rfl rfl rfl rfl ?_
    refine l_app (es := 1) F 1 rfl rfl rfl rfl rfl rfl rfl (F.old hx) (ints_one _) rfl (by omega) hD (fun x2 c2 s F => ?_)
    (try dsimp only [n_1, n_2, n_3, n_4, List.append_nil, pk, n_5, n_6] at F)
    iterate 2 refine l_op 2 rfl rfl rfl rfl rfl ?_
    refine l_stc F 0 rfl rfl rfl rfl rfl rfl rfl rfl rfl hD (fun s F => ?_)
    (try dsimp only [n_1, n_2, n_3, n_4, List.append_nil, pk, n_5, n_6] at F)
    refine l_nil (WK.nx ‹_› (SeqK.nx ‹_› ?_))
    refine k_seq fun Q K => k_block fun Q K => ?_
    have e0 : u8l (bs ++ putsR [(locR p).1 + (locR p).2.1, (locR p).1]) ++ u8l p = u8l (bs ++ putsR [(locR p).1 + (locR p).2.1, (locR p).1] ++ p ++ List.replicate 0 0) := by
      rw [List.replicate_zero, List.append_nil]
      exact List.map_append.symm
    rw [e0] at F
    refine k_loop (α := Nat × Option Addr × Nat × Nat) (fun ⟨j, a', n', c'⟩ s => Facts O σ s [cel m (sC a' n' c' size n true), own a' n' c' 1 (u8l (bs ++ putsR [(locR p).1 + (locR p).2.1, (locR p).1] ++ p ++ List.replicate j 0))] ∧ n' = n + 4 * 2 + l + j ∧ (n' : Int) ≤ n + (locR p).1 + (locR p).2.1) (fun _ => [(0, .pointer (some ⟨m, 0, none⟩)), (5, .int .i64 (locR p).1), (6, .int .i64 (locR p).2.1)]) (fun ⟨j, _, n', _⟩ => (n + (locR p).1 + (locR p).2.1 - n').toNat) (0, x2, n + 4 * 2 + l, c2) ⟨F, by omega, by omega⟩ (by repeat (first | exact trivial | refine And.intro rfl ?_)) ?_
    clear F
    rintro ⟨j, a', n', c'⟩ env s Q K0 ⟨F, hn', hle⟩
    refine k_seq fun Q K => k_seq fun Q K => ?_
    refine k_linm [0, 1, 2, 5, 6, 7, 9, 11, 3, 4, 8, 10, 12, 13] mixed (by kernel_rfl) (fun W K => ?_)
    try have hpS := F.pns
    refine l_op 0 rfl rfl rfl rfl rfl ?_
    iterate 2 refine l_op 2 rfl rfl rfl rfl rfl ?_
    refine l_op 0 rfl rfl rfl rfl rfl ?_
    iterate 2 refine l_op 2 rfl rfl rfl rfl rfl ?_
    iterate 2 refine l_op 0 rfl rfl rfl rfl rfl ?_
    refine l_ldc F 0 rfl rfl rfl rfl rfl rfl rfl ?_
    skip
    refine l_op 2 rfl rfl rfl rfl rfl ?_
    refine l_ldc F 0 rfl rfl rfl rfl rfl rfl rfl ?_
    skip
    iterate 2 refine l_a64 rfl rfl rfl (by omega) rfl ?_
    refine l_cmp rfl rfl rfl rfl ?_
    refine l_nil (WK.nx ‹_› (SeqK.nx ‹_› ?_))
    refine l_cond rfl rfl (fun hc6 => ?_) (fun hc6 => ?_)
    · replace hc6 := of_decide_eq_true ((irr_eq _).symm.trans hc6)
      refine k_skip (SeqK.nx ‹_› ?_)
      refine k_block fun Q K => k_lin fun W K => ?_
      iterate 2 refine l_op 0 rfl rfl rfl rfl rfl ?_
      iterate 2 refine l_op 2 rfl rfl rfl rfl rfl ?_
      refine l_ldc F 0 rfl rfl rfl rfl rfl rfl rfl ?_
      refine l_lit F rfl rfl rfl rfl (fun q105 s F => ?_)
      (try dsimp only [n_1, n_2, n_3, n_4, List.append_nil, pk, n_5, n_6] at F)
      refine l_app (es := 1) F 1 rfl rfl rfl rfl rfl rfl rfl (F.has 2 rfl) (ints_one (kk := .u8) [0]) rfl (by omega) hD (fun x3 c3 s F => ?_)
      (try dsimp only [n_1, n_2, n_3, n_4, List.append_nil, pk, n_5, n_6] at F)
      iterate 2 refine l_op 2 rfl rfl rfl rfl rfl ?_
      refine l_stc F 0 rfl rfl rfl rfl rfl rfl rfl rfl rfl hD (fun s F => ?_)
      (try dsimp only [n_1, n_2, n_3, n_4, List.append_nil, pk, n_5, n_6] at F)
      refine l_nil (WK.nx ‹_› (BlkK.nx ‹_› ?_))
      have e2 : u8l (bs ++ putsR [(locR p).1 + (locR p).2.1, (locR p).1] ++ p ++ List.replicate j 0) ++ u8l [0] = u8l (bs ++ putsR [(locR p).1 + (locR p).2.1, (locR p).1] ++ p ++ List.replicate (j + 1) 0) := by
        rw [List.replicate_succ', ← List.append_assoc]
        exact List.map_append.symm
      have F2 : Facts O σ s [cel m (sC x3 (n' + 1) c3 size n true), own x3 (n' + 1) c3 1 (u8l (bs ++ putsR [(locR p).1 + (locR p).2.1, (locR p).1] ++ p ++ List.replicate j 0) ++ u8l [0])] := F.pick [0, 1] (by decide)
      rw [e2] at F2
      exact K0.nx (j + 1, x3, n' + 1, c3) (by repeat (first | exact trivial | refine And.intro rfl ?_)) ⟨F2, by omega, by omega⟩ (by first | omega | (simp only; omega))
    replace hc6 := of_decide_eq_false ((irr_eq _).symm.trans hc6)
    refine k_exit ?_
    refine SeqK.et (by assumption) ?_
    refine LoopK.et (by assumption) ?_
    refine BlkK.et (by assumption) ?_
    refine SeqK.nx ‹_› ?_
    refine k_seq fun Q K => k_lin fun W K => ?_
    refine l_op 0 rfl rfl rfl rfl rfl ?_
    refine l_nil (WK.nx ‹_› (SeqK.nx ‹_› (k_ret ?_)))
    refine FunK.rt (by assumption) rfl ?_
    -- leaf 5
    (have he : entE true bs n fp size p = 0 := by
       unfold entE
       rw [if_neg (by omega), if_neg (fun h => by have := h.2; omega), if_neg (by omega)]
     have hel := entB_len (p := p) (by omega) hBp (by omega)
     have hj : ((locR p).1 - 8 - p.length + (locR p).2.1).toNat = j := by omega
     have e1 : bs ++ putsR [(locR p).1 + (locR p).2.1, (locR p).1] ++ p ++ List.replicate j 0 = bs ++ entB p := by
       simp only [entB, putsR, List.flatMap_cons, List.flatMap_nil, List.append_nil, List.append_assoc, hj]
     have e2 : n' = (bs ++ entB p).length := by rw [List.length_append]; omega
     rw [e1] at F
     exact ⟨⟨a', n', c', n, true, bs ++ entB p⟩, congrArg (Value.int .i64) he.symm, F, ⟨fun h0 => absurd he h0, fun _ => ⟨e2, rfl, rfl, rfl⟩⟩⟩)
  try simp only [i_1, i_2, i_3, i_4, i_5, ne_eq, i_6, i_7, i_8, i_9] at hc2
  have hoff : on = false := by simpa using hc2
  subst hoff
  iterate 17 refine l_s rfl rfl ?_
  refine l_op 2 rfl rfl rfl rfl rfl ?_
  refine l_nil (WK.nx ‹_› (SeqK.nx ‹_› ?_))
  refine e_cond_f rfl rfl rfl ?_
  refine k_skip (SeqK.nx ‹_› ?_)
  refine k_seq fun Q K => k_seq fun Q K => ?_
  refine k_linm [0, 1, 2, 5, 7, 9, 10, 11, 3, 4, 6, 8, 12, 13] mixed (by kernel_rfl) (fun W K => ?_)
  try have hpS := F.pns
  refine l_op 0 rfl rfl rfl rfl rfl ?_
  iterate 2 refine l_op 2 rfl rfl rfl rfl rfl ?_
  iterate 3 refine l_op 0 rfl rfl rfl rfl rfl ?_
  iterate 2 refine l_op 2 rfl rfl rfl rfl rfl ?_
  refine l_ldc F 0 rfl rfl rfl rfl rfl rfl rfl ?_
  skip
  refine l_op 2 rfl rfl rfl rfl rfl ?_
  iterate 2 refine l_a64 rfl rfl rfl (by omega) rfl ?_
  refine l_ldc F 0 rfl rfl rfl rfl rfl rfl rfl ?_
  skip
  refine l_cmp rfl rfl rfl rfl ?_
  refine l_nil (WK.nx ‹_› (SeqK.nx ‹_› ?_))
  refine l_cond rfl rfl (fun hc7 => ?_) (fun hc7 => ?_)
  · replace hc7 := of_decide_eq_true ((irr_eq _).symm.trans hc7)
    refine k_seq fun Q K => k_lin fun W K => ?_
    refine l_op 0 rfl rfl rfl rfl rfl ?_
    refine l_nil (WK.nx ‹_› (SeqK.nx ‹_› (k_ret (SeqK.rt ‹_› ?_))))
    refine FunK.rt (by assumption) rfl ?_
    -- leaf 6
    (have he : entE false bs n fp size p = 100 := by
       unfold entE
       rw [if_neg (by omega), if_neg (fun h => by cases h.1), if_pos (by omega)]
     exact ⟨⟨a, n, c, fp, false, bs⟩, congrArg (Value.int .i64) he.symm, F.pick [0, 1] (by decide), ⟨fun _ => ⟨rfl, rfl, rfl, rfl⟩, fun h0 => by omega⟩⟩)
  replace hc7 := of_decide_eq_false ((irr_eq _).symm.trans hc7)
  refine k_skip (SeqK.nx ‹_› ?_)
  refine k_seq fun Q K => k_lin fun W K => ?_
  iterate 3 refine l_op 0 rfl rfl rfl rfl rfl ?_
  iterate 2 refine l_op 2 rfl rfl rfl rfl rfl ?_
  refine l_ldc F 0 rfl rfl rfl rfl rfl rfl rfl ?_
  iterate 3 refine l_op 2 rfl rfl rfl rfl rfl ?_
  refine l_stc F 0 rfl rfl rfl rfl rfl rfl rfl rfl rfl hD (fun s F => ?_)
  (try dsimp only [n_1, n_2, n_3, n_4, List.append_nil, pk, n_5, n_6] at F)
  iterate 2 refine l_op 2 rfl rfl rfl rfl rfl ?_
  refine l_stc F 0 rfl rfl rfl rfl rfl rfl rfl rfl rfl hD (fun s F => ?_)
  (try dsimp only [n_1, n_2, n_3, n_4, List.append_nil, pk, n_5, n_6] at F)
  refine l_nil (WK.nx ‹_› (SeqK.nx ‹_› ?_))
  refine k_seq fun Q K => k_lin fun W K => ?_
  iterate 3 refine l_op 0 rfl rfl rfl rfl rfl ?_
  refine l_a64 rfl rfl rfl (by omega) rfl ?_
  refine l_c32 rfl rfl rfl (by omega) rfl ?_
  refine l_op 0 rfl rfl rfl rfl rfl ?_
  refine l_c32 rfl rfl rfl (by omega) rfl ?_
  refine l_lit F rfl rfl rfl rfl (fun q75 s F => ?_)
  (try dsimp only [n_1, n_2, n_3, n_4, List.append_nil, pk, n_5, n_6] at F)
  have hlo := locR_ok (p := p) (by omega)
  refine l_call F [0, 1] [] (by decide) rfl rfl (by kernel_rfl) rfl rfl (rlay_call (vs := [(locR p).1 + (locR p).2.1, (locR p).1]) (F.sub [0, 1] (by decide)) (F.oldK [0, 1] 3 rfl (by decide)) (words2 ⟨by omega, by omega⟩ ⟨by omega, by omega⟩) (by omega)) hD (fun y s F _ => ?_)
  (try dsimp only [n_1, n_2, n_3, n_4, List.append_nil, pk, n_5, n_6] at F)
  (try dsimp only [n_1, n_2, n_3, n_4, List.append_nil, pk, n_5, n_6] at F)
  refine l_nil (WK.nx ‹_› (SeqK.nx ‹_› ?_))
  refine k_seq fun Q K => k_lin fun W K => ?_
  iterate 2 refine l_op 0 rfl rfl rfl rfl rfl ?_
  iterate 2 refine l_op 2 rfl rfl rfl rfl rfl ?_
  refine l_ldc F 0 rfl rfl rfl rfl rfl rfl rfl ?_
  refine l_op 0 rfl rfl rfl rfl rfl ?_
  refine l_app (es := 1) F 1 rfl rfl rfl rfl rfl rfl rfl (F.old hx) (ints_one _) rfl (by omega) hD (fun x2 c2 s F => ?_)
  (try dsimp only [n_1, n_2, n_3, n_4, List.append_nil, pk, n_5, n_6] at F)
  iterate 2 refine l_op 2 rfl rfl rfl rfl rfl ?_
  refine l_stc F 0 rfl rfl rfl rfl rfl rfl rfl rfl rfl hD (fun s F => ?_)
  (try dsimp only [n_1, n_2, n_3, n_4, List.append_nil, pk, n_5, n_6] at F)
  refine l_nil (WK.nx ‹_› (SeqK.nx ‹_› ?_))
  refine k_seq fun Q K => k_block fun Q K => ?_
  have e0 : u8l (bs ++ putsR [(locR p).1 + (locR p).2.1, (locR p).1]) ++ u8l p = u8l (bs ++ putsR [(locR p).1 + (locR p).2.1, (locR p).1] ++ p ++ List.replicate 0 0) := by
    rw [List.replicate_zero, List.append_nil]
    exact List.map_append.symm
  rw [e0] at F
  refine k_loop (α := Nat × Option Addr × Nat × Nat) (fun ⟨j, a', n', c'⟩ s => Facts O σ s [cel m (sC a' n' c' size n true), own a' n' c' 1 (u8l (bs ++ putsR [(locR p).1 + (locR p).2.1, (locR p).1] ++ p ++ List.replicate j 0))] ∧ n' = n + 4 * 2 + l + j ∧ (n' : Int) ≤ n + (locR p).1 + (locR p).2.1) (fun _ => [(0, .pointer (some ⟨m, 0, none⟩)), (5, .int .i64 (locR p).1), (6, .int .i64 (locR p).2.1)]) (fun ⟨j, _, n', _⟩ => (n + (locR p).1 + (locR p).2.1 - n').toNat) (0, x2, n + 4 * 2 + l, c2) ⟨F, by omega, by omega⟩ (by repeat (first | exact trivial | refine And.intro rfl ?_)) ?_
  clear F
  rintro ⟨j, a', n', c'⟩ env s Q K0 ⟨F, hn', hle⟩
  refine k_seq fun Q K => k_seq fun Q K => ?_
  refine k_linm [0, 1, 2, 5, 6, 7, 9, 11, 3, 4, 8, 10, 12, 13] mixed (by kernel_rfl) (fun W K => ?_)
  try have hpS := F.pns
  refine l_op 0 rfl rfl rfl rfl rfl ?_
  iterate 2 refine l_op 2 rfl rfl rfl rfl rfl ?_
  refine l_op 0 rfl rfl rfl rfl rfl ?_
  iterate 2 refine l_op 2 rfl rfl rfl rfl rfl ?_
  iterate 2 refine l_op 0 rfl rfl rfl rfl rfl ?_
  refine l_ldc F 0 rfl rfl rfl rfl rfl rfl rfl ?_
  skip
  refine l_op 2 rfl rfl rfl rfl rfl ?_
  refine l_ldc F 0 rfl rfl rfl rfl rfl rfl rfl ?_
  skip
  iterate 2 refine l_a64 rfl rfl rfl (by omega) rfl ?_
  refine l_cmp rfl rfl rfl rfl ?_
  refine l_nil (WK.nx ‹_› (SeqK.nx ‹_› ?_))
  refine l_cond rfl rfl (fun hc8 => ?_) (fun hc8 => ?_)
  · replace hc8 := of_decide_eq_true ((irr_eq _).symm.trans hc8)
    refine k_skip (SeqK.nx ‹_› ?_)
    refine k_block fun Q K => k_lin fun W K => ?_
    iterate 2 refine l_op 0 rfl rfl rfl rfl rfl ?_
    iterate 2 refine l_op 2 rfl rfl rfl rfl rfl ?_
    refine l_ldc F 0 rfl rfl rfl rfl rfl rfl rfl ?_
    refine l_lit F rfl rfl rfl rfl (fun q105 s F => ?_)
    (try dsimp only [n_1, n_2, n_3, n_4, List.append_nil, pk, n_5, n_6] at F)
    refine l_app (es := 1) F 1 rfl rfl rfl rfl rfl rfl rfl (F.has 2 rfl) (ints_one (kk := .u8) [0]) rfl (by omega) hD (fun x3 c3 s F => ?_)
    (try dsimp only [n_1, n_2, n_3, n_4, List.append_nil, pk, n_5, n_6] at F)
    iterate 2 refine l_op 2 rfl rfl rfl rfl rfl ?_
    refine l_stc F 0 rfl rfl rfl rfl rfl rfl rfl rfl rfl hD (fun s F => ?_)
    (try dsimp only [n_1, n_2, n_3, n_4, List.append_nil, pk, n_5, n_6] at F)
    refine l_nil (WK.nx ‹_› (BlkK.nx ‹_› ?_))
    have e2 : u8l (bs ++ putsR [(locR p).1 + (locR p).2.1, (locR p).1] ++ p ++ List.replicate j 0) ++ u8l [0] = u8l (bs ++ putsR [(locR p).1 + (locR p).2.1, (locR p).1] ++ p ++ List.replicate (j + 1) 0) := by
      rw [List.replicate_succ', ← List.append_assoc]
      exact List.map_append.symm
    have F2 : Facts O σ s [cel m (sC x3 (n' + 1) c3 size n true), own x3 (n' + 1) c3 1 (u8l (bs ++ putsR [(locR p).1 + (locR p).2.1, (locR p).1] ++ p ++ List.replicate j 0) ++ u8l [0])] := F.pick [0, 1] (by decide)
    rw [e2] at F2
    exact K0.nx (j + 1, x3, n' + 1, c3) (by repeat (first | exact trivial | refine And.intro rfl ?_)) ⟨F2, by omega, by omega⟩ (by first | omega | (simp only; omega))
  replace hc8 := of_decide_eq_false ((irr_eq _).symm.trans hc8)
  refine k_exit ?_
  refine SeqK.et (by assumption) ?_
  refine LoopK.et (by assumption) ?_
  refine BlkK.et (by assumption) ?_
  refine SeqK.nx ‹_› ?_
  refine k_seq fun Q K => k_lin fun W K => ?_
  refine l_op 0 rfl rfl rfl rfl rfl ?_
  refine l_nil (WK.nx ‹_› (SeqK.nx ‹_› (k_ret ?_)))
  refine FunK.rt (by assumption) rfl ?_
  -- leaf 7
  (have he : entE false bs n fp size p = 0 := by
     unfold entE
     rw [if_neg (by omega), if_neg (fun h => by cases h.1), if_neg (by omega)]
   have hel := entB_len (p := p) (by omega) hBp (by omega)
   have hj : ((locR p).1 - 8 - p.length + (locR p).2.1).toNat = j := by omega
   have e1 : bs ++ putsR [(locR p).1 + (locR p).2.1, (locR p).1] ++ p ++ List.replicate j 0 = bs ++ entB p := by
     simp only [entB, putsR, List.flatMap_cons, List.flatMap_nil, List.append_nil, List.append_assoc, hj]
   have e2 : n' = (bs ++ entB p).length := by rw [List.length_append]; omega
   rw [e1] at F
   exact ⟨⟨a', n', c', n, true, bs ++ entB p⟩, congrArg (Value.int .i64) he.symm, F, ⟨fun h0 => absurd he h0, fun _ => ⟨e2, rfl, rfl, rfl⟩⟩⟩)

end Go.Proofs.YtocfmecenpeoiaaGreat.Stk
