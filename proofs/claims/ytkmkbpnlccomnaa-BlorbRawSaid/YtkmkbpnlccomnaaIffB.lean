/- A form is built, by the program. No statement of the seat is proved in this text. -/
import Derived.Test.YtkmkbpnlccomnaaIffA
set_option linter.unusedVariables false
set_option linter.unusedSimpArgs false
set_option maxRecDepth 100000
set_option maxHeartbeats 4000000
namespace Go.Proofs.Ytkmkbpnlccomnaa
open GAb Go

def sizeK : List CK → Int
  | [] => 0
  | t :: ts => 8 + t.l + (t.l : Int) % 2 + sizeK ts
theorem sizeK_take {ts : List CK} {i : Nat} (h : i < ts.length) : sizeK (ts.take (i + 1)) = sizeK (ts.take i) + (8 + (ts.getD i default).l + ((ts.getD i default).l : Int) % 2) := by
  induction ts generalizing i with
  | nil => cases h
  | cons t ts ih =>
    cases i with
    | zero => simp [sizeK]
    | succ i =>
      simp only [List.take_succ_cons, sizeK, List.getD_cons_succ]
      rw [ih (by simp at h; omega)]
      omega
theorem sizeK_bd : ∀ ts : List CK, 0 ≤ sizeK ts ∧ sizeK ts ≤ sumK ts + 9 * ts.length
  | [] => by simp [sizeK, sumK]
  | t :: ts => by have := sizeK_bd ts; simp only [sizeK, sumK, List.length_cons]; omega
theorem sumK_le (ts : List CK) (i : Nat) : sumK (ts.take i) ≤ sumK ts := by
  induction ts generalizing i with
  | nil => simp [sumK]
  | cons t ts ih =>
    cases i with
    | zero => have := sumK_nn (t :: ts); simpa [sumK] using this
    | succ i => have := ih i; simp only [List.take_succ_cons, sumK]; omega
/-- A chunk's bytes. -/
def bldC (t : CK) : List Int := ltr t.id ++ (putR t.l 4 ++ (t.d ++ if (t.l : Int) % 2 = 1 then [0] else []))
def bldR (kind : ByteArray) (ts : List CK) : List Int := [70, 79, 82, 77] ++ putR (sizeK ts + 4) 4 ++ ltr kind ++ ts.flatMap bldC
def IdsOK (ts : List CK) : Prop := ∀ t ∈ ts, idR (ltr t.id) = true
theorem ids_take {ts : List CK} {i : Nat} (h : IdsOK (ts.take i)) (hi : i < ts.length) (h2 : idR (ltr (ts.getD i default).id) = true) : IdsOK (ts.take (i + 1)) := by
  intro t ht
  rw [List.take_succ_eq_append_getElem hi] at ht
  rcases List.mem_append.1 ht with ht | ht
  · exact h t ht
  · rw [List.mem_singleton.1 ht]
    simpa [List.getD, hi] using h2
theorem bld_odd {ts : List CK} {i : Nat} (hi : i < ts.length) (ho : ((ts.getD i default).l : Int) % 2 = 1) (H : List Int) : H ++ (ts.take (i + 1)).flatMap bldC = H ++ (ts.take i).flatMap bldC ++ ltr (ts.getD i default).id ++ putR (ts.getD i default).l 4 ++ (ts.getD i default).d ++ [0] := by
  have : ts.take (i + 1) = ts.take i ++ [ts.getD i default] := by
    rw [List.take_succ_eq_append_getElem hi]; simp [List.getD, hi]
  rw [this, List.flatMap_append]
  simp only [List.flatMap_cons, List.flatMap_nil, bldC, if_pos ho, List.append_assoc, List.append_nil]
theorem bld_even {ts : List CK} {i : Nat} (hi : i < ts.length) (ho : ¬ ((ts.getD i default).l : Int) % 2 = 1) (H : List Int) : H ++ (ts.take (i + 1)).flatMap bldC = H ++ (ts.take i).flatMap bldC ++ ltr (ts.getD i default).id ++ putR (ts.getD i default).l 4 ++ (ts.getD i default).d := by
  have : ts.take (i + 1) = ts.take i ++ [ts.getD i default] := by
    rw [List.take_succ_eq_append_getElem hi]; simp [List.getD, hi]
  rw [this, List.flatMap_append]
  simp only [List.flatMap_cons, List.flatMap_nil, bldC, if_neg ho, List.append_assoc, List.append_nil]
/-- What a Build tells. -/
def BldP (kind : ByteArray) (ts : List CK) (e : Int) (n : Nat) (bs : List Int) : Prop :=
  e = 1 ∧ n = 0 ∧ ¬ (idR (ltr kind) = true ∧ IdsOK ts) ∨ idR (ltr kind) = true ∧ IdsOK ts ∧ (e = 4 ∧ n = 0 ∧ 1024 < ts.length ∨ ts.length ≤ 1024 ∧ (e = 3 ∧ n = 0 ∧ 4194304 < 12 + sizeK ts ∨ e = 0 ∧ 12 + sizeK ts ≤ 4194304 ∧ bs = bldR kind ts))

theorem build_call {σ : AState} {a : Option Addr} {l c : Nat} {ts : List CK} {kind : ByteArray} (h : OldK E0 σ a l c ts) (hl : l ≤ 2000) (hs : sumK ts ≤ 1000000) (hk : kind.size ≤ 65536) :
    SCall Try.prog E0 39 [.string kind, .slice a l c] σ (Ret E0 σ (fun (y : Int × Option Addr × Nat × Nat × List Int) => .tuple #[.slice y.2.1 y.2.2.1 y.2.2.2.1, .int .i64 y.1]) (fun y => [own y.2.1 y.2.2.1 y.2.2.2.1 1 (u8l y.2.2.2.2)]) fun y => BldP kind ts y.1 y.2.2.1 y.2.2.2.2) := by
  have htl := h.len
  have ho := h.old
  have hkl := ltr_length kind
  refine k_fun Try.func39 rfl (m := 79) rfl fun B hD Q K => ?_
  have F := Facts.nil E0 σ
  refine k_seq (fun Q K => ?_)
  refine k_lin (fun W K => ?_)
  refine l_op 0 rfl rfl rfl rfl rfl ?_
  refine l_op 0 rfl rfl rfl rfl rfl ?_
  refine l_nil (WK.nx (by assumption) ?_)
  refine SeqK.nx (by assumption) ?_
  refine k_seq (fun Q K => ?_)
  refine k_seq (fun Q K => ?_)
  refine k_lin (fun W K => ?_)
  refine l_op 0 rfl rfl rfl rfl rfl ?_
  refine l_callp F rfl rfl (by kernel_rfl) rfl rfl (id_call (by omega)) (fun _ s F _ => ?_)
  refine l_op 2 rfl rfl rfl rfl rfl ?_
  refine l_nil (WK.nx (by assumption) ?_)
  refine SeqK.nx (by assumption) ?_
  refine l_cond rfl rfl (fun hc1 => ?_) (fun hc1 => ?_)
  · try simp only [irr_eq, beq_iff_eq, bne_iff_ne, beq_eq_false_iff_ne, bne_eq_false_iff_eq, ne_eq, decide_eq_true_eq, decide_eq_false_iff_not, Bool.not_eq_true', Bool.not_eq_false'] at hc1
    refine k_seq (fun Q K => ?_)
    refine k_lin (fun W K => ?_)
    refine l_op 0 rfl rfl rfl rfl rfl ?_
    refine l_op 0 rfl rfl rfl rfl rfl ?_
    refine l_nil (WK.nx (by assumption) ?_)
    refine SeqK.nx (by assumption) ?_
    refine k_ret ?_
    refine SeqK.rt (by assumption) ?_
    refine FunK.rt (by assumption) rfl ?_
    -- leaf 1
    first
    | exact ⟨(1, none, 0, 0, []), rfl, (F.pick [] (by decide)).nilrow 1, .inl ⟨rfl, rfl, fun hh => absurd (hc1.symm.trans hh.1) (by decide)⟩⟩
    | exact ⟨(1, none, 0, 0, []), rfl, (F.pick [] (by decide)).nilrow 1, .inl ⟨rfl, rfl, fun hh => absurd (hc3.symm.trans (hh.2 _ hmem)) (by decide)⟩⟩
    | exact ⟨(4, none, 0, 0, []), rfl, (F.pick [] (by decide)).nilrow 1, .inr ⟨hc1, hid, .inl ⟨rfl, rfl, by omega⟩⟩⟩
    | exact ⟨(3, none, 0, 0, []), rfl, (F.pick [] (by decide)).nilrow 1, .inr ⟨hc1, hid, .inr ⟨by omega, .inl ⟨rfl, rfl, by omega⟩⟩⟩⟩
    | (have hall2 : ts.take i.toNat = ts := List.take_of_length_le (by omega)
       rw [hall2] at F
       refine ⟨(0, x, m, d, _), rfl, F, .inr ⟨hc1, hid, .inr ⟨by omega, .inr ⟨rfl, by omega, ?_⟩⟩⟩⟩
       unfold bldR
       rw [show sizeK ts + 4 = n - 8 by omega])
  try simp only [irr_eq, beq_iff_eq, bne_iff_ne, beq_eq_false_iff_ne, bne_eq_false_iff_eq, ne_eq, decide_eq_true_eq, decide_eq_false_iff_not, Bool.not_eq_true', Bool.not_eq_false'] at hc1
  refine k_skip ?_
  refine SeqK.nx (by assumption) ?_
  refine k_seq (fun Q K => ?_)
  refine k_lin (fun W K => ?_)
  refine l_op 0 rfl rfl rfl rfl rfl ?_
  refine l_nil (WK.nx (by assumption) ?_)
  refine SeqK.nx (by assumption) ?_
  refine k_seq (fun Q K => ?_)
  refine k_seq (fun Q K => ?_)
  refine k_lin (fun W K => ?_)
  refine l_op 0 rfl rfl rfl rfl rfl ?_
  first | refine l_op 2 rfl rfl rfl rfl rfl ?_ | refine l_ln rfl rfl rfl rfl ?_
  refine l_op 0 rfl rfl rfl rfl rfl ?_
  refine l_nil (WK.nx (by assumption) ?_)
  refine SeqK.nx (by assumption) ?_
  refine k_block (fun Q K => ?_)
  refine k_loop (α := Int × Int) (fun ⟨i, n⟩ s => Facts E0 σ s [] ∧ 0 ≤ i ∧ i ≤ l ∧ n = 12 + sizeK (ts.take i.toNat) ∧ IdsOK (ts.take i.toNat)) (fun ⟨i, n⟩ => [(0, .string kind), (1, .slice a l c), (6, .int .i64 n), (15, .slice a l c), (16, .int .i64 l), (17, .int .i64 i)]) (fun ⟨i, _⟩ => (l - i).toNat) (0, 12) ⟨F, by omega, by omega, rfl, fun t ht => by cases ht⟩ (by repeat (first | exact trivial | refine And.intro rfl ?_)) ?_
  clear F
  rintro ⟨i, n⟩ env s Q K0 ⟨F, i0, i1, hn, hid⟩
  have hz := sizeK_bd (ts.take i.toNat)
  have hz2 := sumK_le ts i.toNat
  have hz3 : (ts.take i.toNat).length ≤ 2000 := by rw [List.length_take]; omega
  refine k_seq (fun Q K => ?_)
  refine k_lin (fun W K => ?_)
  refine l_cmp rfl rfl rfl rfl ?_
  refine l_nil (WK.nx (by assumption) ?_)
  refine SeqK.nx (by assumption) ?_
  refine k_seq (fun Q K => ?_)
  refine l_cond rfl rfl (fun hc2 => ?_) (fun hc2 => ?_)
  · replace hc2 := of_decide_eq_true ((irr_eq _).symm.trans hc2)
    have hst := sizeK_take (ts := ts) (i := i.toNat) (by omega)
    have e1 : (i + 1).toNat = i.toNat + 1 := by omega
    have hmem := OldK.mem (ts := ts) (i := i.toNat) (by omega)
    have hm := sumK_mem hmem
    refine k_skip ?_
    refine SeqK.nx (by assumption) ?_
    refine k_seq (fun Q K => ?_)
    refine k_block (fun Q K => ?_)
    refine k_seq (fun Q K => ?_)
    refine k_lin (fun W K => ?_)
    first | refine l_ixrs (e := eK) F ho ⟨eK_len, by decide⟩ rfl rfl rfl rfl rfl rfl (by omega) (fun m19 b19 hA19 hS19 => ?_) | refine l_ixr (e := eK) rfl rfl rfl rfl rfl rfl (F.old ho) ⟨eK_len, by decide⟩ (by omega) (fun m19 b19 hA19 => ?_)
    refine l_lda rfl rfl rfl rfl rfl (by assumption) ?_
    refine l_al F rfl rfl rfl rfl (fun q8 s F => ?_)
    (try dsimp only [n_1, n_2, n_3, n_4, List.append_nil, pk, n_5, n_6] at F)
    refine l_stca F 0 rfl rfl rfl rfl rfl rfl rfl rfl rfl rfl hD rfl (fun s F => ?_)
    (try dsimp only [n_1, n_2, n_3, n_4, List.append_nil, pk, n_5, n_6] at F)
    refine l_nil (WK.nx (by assumption) ?_)
    refine SeqK.nx (by assumption) ?_
    refine k_seq (fun Q K => ?_)
    refine k_seq (fun Q K => ?_)
    refine k_lin (fun W K => ?_)
    refine l_op 2 rfl rfl rfl rfl rfl ?_
    refine l_ldc F 0 rfl rfl rfl rfl rfl rfl rfl ?_
    refine l_callp F rfl rfl (by kernel_rfl) rfl rfl (id_call (by omega)) (fun _ s F _ => ?_)
    refine l_op 2 rfl rfl rfl rfl rfl ?_
    refine l_nil (WK.nx (by assumption) ?_)
    refine SeqK.nx (by assumption) ?_
    refine l_cond rfl rfl (fun hc3 => ?_) (fun hc3 => ?_)
    · try simp only [irr_eq, beq_iff_eq, bne_iff_ne, beq_eq_false_iff_ne, bne_eq_false_iff_eq, ne_eq, decide_eq_true_eq, decide_eq_false_iff_not, Bool.not_eq_true', Bool.not_eq_false'] at hc3
      refine k_seq (fun Q K => ?_)
      refine k_lin (fun W K => ?_)
      refine l_op 0 rfl rfl rfl rfl rfl ?_
      refine l_op 0 rfl rfl rfl rfl rfl ?_
      refine l_nil (WK.nx (by assumption) ?_)
      refine SeqK.nx (by assumption) ?_
      refine k_ret ?_
      refine SeqK.rt (by assumption) ?_
      refine BlkK.rt (by assumption) ?_
      refine SeqK.rt (by assumption) ?_
      refine LoopK.rt (by assumption) ?_
      refine BlkK.rt (by assumption) ?_
      refine SeqK.rt (by assumption) ?_
      refine FunK.rt (by assumption) rfl ?_
      -- leaf 2
      first
      | exact ⟨(1, none, 0, 0, []), rfl, (F.pick [] (by decide)).nilrow 1, .inl ⟨rfl, rfl, fun hh => absurd (hc1.symm.trans hh.1) (by decide)⟩⟩
      | exact ⟨(1, none, 0, 0, []), rfl, (F.pick [] (by decide)).nilrow 1, .inl ⟨rfl, rfl, fun hh => absurd (hc3.symm.trans (hh.2 _ hmem)) (by decide)⟩⟩
      | exact ⟨(4, none, 0, 0, []), rfl, (F.pick [] (by decide)).nilrow 1, .inr ⟨hc1, hid, .inl ⟨rfl, rfl, by omega⟩⟩⟩
      | exact ⟨(3, none, 0, 0, []), rfl, (F.pick [] (by decide)).nilrow 1, .inr ⟨hc1, hid, .inr ⟨by omega, .inl ⟨rfl, rfl, by omega⟩⟩⟩⟩
      | (have hall2 : ts.take i.toNat = ts := List.take_of_length_le (by omega)
         rw [hall2] at F
         refine ⟨(0, x, m, d, _), rfl, F, .inr ⟨hc1, hid, .inr ⟨by omega, .inr ⟨rfl, by omega, ?_⟩⟩⟩⟩
         unfold bldR
         rw [show sizeK ts + 4 = n - 8 by omega])
    try simp only [irr_eq, beq_iff_eq, bne_iff_ne, beq_eq_false_iff_ne, bne_eq_false_iff_eq, ne_eq, decide_eq_true_eq, decide_eq_false_iff_not, Bool.not_eq_true', Bool.not_eq_false'] at hc3
    refine k_skip ?_
    refine SeqK.nx (by assumption) ?_
    refine k_lin (fun W K => ?_)
    refine l_op 0 rfl rfl rfl rfl rfl ?_
    refine l_ldca F 0 rfl rfl rfl rfl rfl rfl rfl ?_
    refine l_callp F rfl rfl (by kernel_rfl) rfl rfl (size_call (t := ts.getD i.toNat default) (by omega)) (fun _ s F _ => ?_)
    (try dsimp only [n_1, n_2, n_3, n_4, List.append_nil, pk, n_5, n_6] at F)
    refine l_a64 rfl rfl rfl (by omega) rfl ?_
    refine l_op 0 rfl rfl rfl rfl rfl ?_
    refine l_nil (WK.nx (by assumption) ?_)
    refine BlkK.nx (by assumption) ?_
    refine SeqK.nx (by assumption) ?_
    refine k_lin (fun W K => ?_)
    refine l_a64 rfl rfl rfl (by omega) rfl ?_
    refine l_op 0 rfl rfl rfl rfl rfl ?_
    refine l_nil (WK.nx (by assumption) ?_)
    exact K0.nx (i + 1, _) (by repeat (first | exact trivial | refine And.intro rfl ?_)) ⟨F.pick [] (by decide), by omega, by omega, by rw [e1, hst, hn]; omega, by
      rw [e1]; exact ids_take hid (by omega) (by simpa only [irr_eq, Bool.not_eq_false] using hc3)⟩ (by first | omega | (simp only; omega))
  replace hc2 := of_decide_eq_false ((irr_eq _).symm.trans hc2)
  have hall : ts.take i.toNat = ts := List.take_of_length_le (by omega)
  rw [hall] at hn hid
  have hzt := sizeK_bd ts
  refine k_exit ?_
  refine SeqK.et (by assumption) ?_
  refine LoopK.et (by assumption) ?_
  refine BlkK.et (by assumption) ?_
  refine SeqK.nx (by assumption) ?_
  refine k_seq (fun Q K => ?_)
  refine k_seq (fun Q K => ?_)
  refine k_lin (fun W K => ?_)
  refine l_op 0 rfl rfl rfl rfl rfl ?_
  first | refine l_op 2 rfl rfl rfl rfl rfl ?_ | refine l_ln rfl rfl rfl rfl ?_
  refine l_cmp rfl rfl rfl rfl ?_
  refine l_nil (WK.nx (by assumption) ?_)
  refine SeqK.nx (by assumption) ?_
  refine l_cond rfl rfl (fun hc4 => ?_) (fun hc4 => ?_)
  · replace hc4 := of_decide_eq_true ((irr_eq _).symm.trans hc4)
    refine k_seq (fun Q K => ?_)
    refine k_lin (fun W K => ?_)
    refine l_op 0 rfl rfl rfl rfl rfl ?_
    refine l_op 0 rfl rfl rfl rfl rfl ?_
    refine l_nil (WK.nx (by assumption) ?_)
    refine SeqK.nx (by assumption) ?_
    refine k_ret ?_
    refine SeqK.rt (by assumption) ?_
    refine FunK.rt (by assumption) rfl ?_
    -- leaf 3
    first
    | exact ⟨(1, none, 0, 0, []), rfl, (F.pick [] (by decide)).nilrow 1, .inl ⟨rfl, rfl, fun hh => absurd (hc1.symm.trans hh.1) (by decide)⟩⟩
    | exact ⟨(1, none, 0, 0, []), rfl, (F.pick [] (by decide)).nilrow 1, .inl ⟨rfl, rfl, fun hh => absurd (hc3.symm.trans (hh.2 _ hmem)) (by decide)⟩⟩
    | exact ⟨(4, none, 0, 0, []), rfl, (F.pick [] (by decide)).nilrow 1, .inr ⟨hc1, hid, .inl ⟨rfl, rfl, by omega⟩⟩⟩
    | exact ⟨(3, none, 0, 0, []), rfl, (F.pick [] (by decide)).nilrow 1, .inr ⟨hc1, hid, .inr ⟨by omega, .inl ⟨rfl, rfl, by omega⟩⟩⟩⟩
    | (have hall2 : ts.take i.toNat = ts := List.take_of_length_le (by omega)
       rw [hall2] at F
       refine ⟨(0, x, m, d, _), rfl, F, .inr ⟨hc1, hid, .inr ⟨by omega, .inr ⟨rfl, by omega, ?_⟩⟩⟩⟩
       unfold bldR
       rw [show sizeK ts + 4 = n - 8 by omega])
  replace hc4 := of_decide_eq_false ((irr_eq _).symm.trans hc4)
  refine k_skip ?_
  refine SeqK.nx (by assumption) ?_
  refine k_seq (fun Q K => ?_)
  refine k_seq (fun Q K => ?_)
  refine k_lin (fun W K => ?_)
  refine l_op 0 rfl rfl rfl rfl rfl ?_
  refine l_cmp rfl rfl rfl rfl ?_
  refine l_nil (WK.nx (by assumption) ?_)
  refine SeqK.nx (by assumption) ?_
  refine l_cond rfl rfl (fun hc5 => ?_) (fun hc5 => ?_)
  · replace hc5 := of_decide_eq_true ((irr_eq _).symm.trans hc5)
    refine k_seq (fun Q K => ?_)
    refine k_lin (fun W K => ?_)
    refine l_op 0 rfl rfl rfl rfl rfl ?_
    refine l_op 0 rfl rfl rfl rfl rfl ?_
    refine l_nil (WK.nx (by assumption) ?_)
    refine SeqK.nx (by assumption) ?_
    refine k_ret ?_
    refine SeqK.rt (by assumption) ?_
    refine FunK.rt (by assumption) rfl ?_
    -- leaf 4
    first
    | exact ⟨(1, none, 0, 0, []), rfl, (F.pick [] (by decide)).nilrow 1, .inl ⟨rfl, rfl, fun hh => absurd (hc1.symm.trans hh.1) (by decide)⟩⟩
    | exact ⟨(1, none, 0, 0, []), rfl, (F.pick [] (by decide)).nilrow 1, .inl ⟨rfl, rfl, fun hh => absurd (hc3.symm.trans (hh.2 _ hmem)) (by decide)⟩⟩
    | exact ⟨(4, none, 0, 0, []), rfl, (F.pick [] (by decide)).nilrow 1, .inr ⟨hc1, hid, .inl ⟨rfl, rfl, by omega⟩⟩⟩
    | exact ⟨(3, none, 0, 0, []), rfl, (F.pick [] (by decide)).nilrow 1, .inr ⟨hc1, hid, .inr ⟨by omega, .inl ⟨rfl, rfl, by omega⟩⟩⟩⟩
    | (have hall2 : ts.take i.toNat = ts := List.take_of_length_le (by omega)
       rw [hall2] at F
       refine ⟨(0, x, m, d, _), rfl, F, .inr ⟨hc1, hid, .inr ⟨by omega, .inr ⟨rfl, by omega, ?_⟩⟩⟩⟩
       unfold bldR
       rw [show sizeK ts + 4 = n - 8 by omega])
  replace hc5 := of_decide_eq_false ((irr_eq _).symm.trans hc5)
  refine k_skip ?_
  refine SeqK.nx (by assumption) ?_
  refine k_seq (fun Q K => ?_)
  refine k_lin (fun W K => ?_)
  refine l_op 0 rfl rfl rfl rfl rfl ?_
  refine l_mk F rfl rfl rfl rfl rfl rfl rfl (by omega) (fun q36 s F => ?_)
  (try dsimp only [n_1, n_2, n_3, n_4, List.append_nil, pk, n_5, n_6] at F)
  refine l_op 0 rfl rfl rfl rfl rfl ?_
  refine l_nil (WK.nx (by assumption) ?_)
  refine SeqK.nx (by assumption) ?_
  refine k_seq (fun Q K => ?_)
  refine k_lin (fun W K => ?_)
  refine l_op 0 rfl rfl rfl rfl rfl ?_
  have F0 : Facts E0 σ s [own (some ⟨q36, 0, some 0⟩) 0 n.toNat 1 (u8l [])] := F
  refine l_apps (xs := []) F0 0 rfl rfl rfl rfl rfl rfl rfl rfl (by rw [show ({ data := #[70, 79, 82, 77] } : ByteArray).size = 4 from rfl]; omega) hD (fun a1 c1 s F => ?_)
  (try dsimp only [n_1, n_2, n_3, n_4, List.append_nil, pk, n_5, n_6] at F)
  have F1 : Facts E0 σ s [own a1 4 c1 1 (u8l [70, 79, 82, 77])] := F
  clear F
  have F := F1
  refine l_op 0 rfl rfl rfl rfl rfl ?_
  refine l_nil (WK.nx (by assumption) ?_)
  refine SeqK.nx (by assumption) ?_
  refine k_seq (fun Q K => ?_)
  refine k_lin (fun W K => ?_)
  refine l_op 0 rfl rfl rfl rfl rfl ?_
  refine l_op 0 rfl rfl rfl rfl rfl ?_
  refine l_a64 rfl rfl rfl (by omega) rfl ?_
  refine l_c32 rfl rfl rfl (by omega) rfl ?_
  refine l_callp F rfl rfl (by kernel_rfl) rfl rfl (wput_call (x := n - 8) (n := 4) ⟨by omega, by omega⟩) (fun y1 s F _ => ?_)
  (try dsimp only [n_1, n_2, n_3, n_4, List.append_nil, pk, n_5, n_6] at F)
  have hsz : ({ data := #[70, 79, 82, 77] } : ByteArray).size = 4 := rfl
  have hp4 : (putR (n - 8) 4).length = 4 := rfl
  refine l_appi F 0 rfl rfl rfl rfl rfl rfl rfl (F.has 1 rfl) rfl (by omega) hD (fun a2 c2 s F => ?_)
  (try dsimp only [n_1, n_2, n_3, n_4, List.append_nil, pk, n_5, n_6] at F)
  refine l_op 0 rfl rfl rfl rfl rfl ?_
  refine l_nil (WK.nx (by assumption) ?_)
  refine SeqK.nx (by assumption) ?_
  refine k_seq (fun Q K => ?_)
  refine k_lin (fun W K => ?_)
  refine l_op 0 rfl rfl rfl rfl rfl ?_
  refine l_op 0 rfl rfl rfl rfl rfl ?_
  refine l_apps F 0 rfl rfl rfl rfl rfl rfl rfl rfl (by omega) hD (fun a3 c3 s F => ?_)
  (try dsimp only [n_1, n_2, n_3, n_4, List.append_nil, pk, n_5, n_6] at F)
  refine l_op 0 rfl rfl rfl rfl rfl ?_
  refine l_nil (WK.nx (by assumption) ?_)
  refine SeqK.nx (by assumption) ?_
  refine k_seq (fun Q K => ?_)
  refine k_seq (fun Q K => ?_)
  refine k_lin (fun W K => ?_)
  refine l_op 0 rfl rfl rfl rfl rfl ?_
  first | refine l_op 2 rfl rfl rfl rfl rfl ?_ | refine l_ln rfl rfl rfl rfl ?_
  refine l_op 0 rfl rfl rfl rfl rfl ?_
  refine l_nil (WK.nx (by assumption) ?_)
  refine SeqK.nx (by assumption) ?_
  refine k_block (fun Q K => ?_)
  have F2 : Facts E0 σ s [own a3 (4 + 4 + kind.size) c3 1 (u8l ([70, 79, 82, 77] ++ putR (n - 8) 4 ++ ltr kind))] := F.pick [0] (by decide)
  clear F
  have F := F2
  clear F2
  have hid4 : kind.size = 4 := by
    have := (idR_iff.1 hc1).1; omega
  refine k_loop (α := Int × Option Addr × Nat × Nat) (fun ⟨i, x, m, d⟩ s => Facts E0 σ s [own x m d 1 (u8l ([70, 79, 82, 77] ++ putR (n - 8) 4 ++ ltr kind ++ (ts.take i.toNat).flatMap bldC))] ∧ 0 ≤ i ∧ i ≤ l ∧ (m : Int) = 12 + sizeK (ts.take i.toNat)) (fun ⟨i, x, m, d⟩ => [(9, .slice x m d), (48, .slice a l c), (49, .int .i64 l), (50, .int .i64 i)]) (fun ⟨i, _⟩ => (l - i).toNat) (0, a3, 4 + 4 + kind.size, c3) ⟨by simpa using F, by omega, by omega, by rw [hid4]; simp [sizeK]⟩ (by repeat (first | exact trivial | refine And.intro rfl ?_)) ?_
  clear F
  rintro ⟨i, x, m, d⟩ env s Q K0 ⟨F, i0, i1, hm⟩
  have hz := sizeK_bd (ts.take i.toNat)
  have hz2 := sumK_le ts i.toNat
  have hz3 : (ts.take i.toNat).length ≤ 2000 := by rw [List.length_take]; omega
  refine k_seq (fun Q K => ?_)
  refine k_lin (fun W K => ?_)
  refine l_cmp rfl rfl rfl rfl ?_
  refine l_nil (WK.nx (by assumption) ?_)
  refine SeqK.nx (by assumption) ?_
  refine k_seq (fun Q K => ?_)
  refine l_cond rfl rfl (fun hc6 => ?_) (fun hc6 => ?_)
  · replace hc6 := of_decide_eq_true ((irr_eq _).symm.trans hc6)
    have hst := sizeK_take (ts := ts) (i := i.toNat) (by omega)
    have e1 : (i + 1).toNat = i.toNat + 1 := by omega
    have hmem := OldK.mem (ts := ts) (i := i.toNat) (by omega)
    have hm2 := sumK_mem hmem
    have hidt := hid _ hmem
    have hid5 := (idR_iff.1 hidt).1
    rw [ltr_length] at hid5
    have htd := h.dat _ hmem
    have htdl := htd.len8
    refine k_skip ?_
    refine SeqK.nx (by assumption) ?_
    refine k_seq (fun Q K => ?_)
    refine k_block (fun Q K => ?_)
    refine k_seq (fun Q K => ?_)
    refine k_lin (fun W K => ?_)
    first | refine l_ixrs (e := eK) F ho ⟨eK_len, by decide⟩ rfl rfl rfl rfl rfl rfl (by omega) (fun m52 b52 hA52 hS52 => ?_) | refine l_ixr (e := eK) rfl rfl rfl rfl rfl rfl (F.old ho) ⟨eK_len, by decide⟩ (by omega) (fun m52 b52 hA52 => ?_)
    refine l_lda rfl rfl rfl rfl rfl (by assumption) ?_
    refine l_al F rfl rfl rfl rfl (fun q11 s F => ?_)
    (try dsimp only [n_1, n_2, n_3, n_4, List.append_nil, pk, n_5, n_6] at F)
    refine l_stca F 1 rfl rfl rfl rfl rfl rfl rfl rfl rfl rfl hD rfl (fun s F => ?_)
    (try dsimp only [n_1, n_2, n_3, n_4, List.append_nil, pk, n_5, n_6] at F)
    refine l_nil (WK.nx (by assumption) ?_)
    refine SeqK.nx (by assumption) ?_
    refine k_seq (fun Q K => ?_)
    refine k_lin (fun W K => ?_)
    refine l_op 0 rfl rfl rfl rfl rfl ?_
    refine l_op 2 rfl rfl rfl rfl rfl ?_
    refine l_ldc F 1 rfl rfl rfl rfl rfl rfl rfl ?_
    refine l_apps F 0 rfl rfl rfl rfl rfl rfl rfl rfl (by omega) hD (fun a4 c4 s F => ?_)
    (try dsimp only [n_1, n_2, n_3, n_4, List.append_nil, pk, n_5, n_6] at F)
    refine l_op 0 rfl rfl rfl rfl rfl ?_
    refine l_nil (WK.nx (by assumption) ?_)
    refine SeqK.nx (by assumption) ?_
    refine k_seq (fun Q K => ?_)
    refine k_lin (fun W K => ?_)
    refine l_op 0 rfl rfl rfl rfl rfl ?_
    refine l_op 2 rfl rfl rfl rfl rfl ?_
    refine l_ldc F 1 rfl rfl rfl rfl rfl rfl rfl ?_
    first | refine l_op 2 rfl rfl rfl rfl rfl ?_ | refine l_ln rfl rfl rfl rfl ?_
    refine l_c32 rfl rfl rfl (by omega) rfl ?_
    refine l_callp F rfl rfl (by kernel_rfl) rfl rfl (wput_call (x := (ts.getD i.toNat default).l) (n := 4) ⟨by omega, by omega⟩) (fun y2 s F _ => ?_)
    (try dsimp only [n_1, n_2, n_3, n_4, List.append_nil, pk, n_5, n_6] at F)
    have hp5 : (putR ((ts.getD i.toNat default).l : Int) 4).length = 4 := rfl
    refine l_appi F 0 rfl rfl rfl rfl rfl rfl rfl (F.has 2 rfl) rfl (by omega) hD (fun a5 c5 s F => ?_)
    (try dsimp only [n_1, n_2, n_3, n_4, List.append_nil, pk, n_5, n_6] at F)
    refine l_op 0 rfl rfl rfl rfl rfl ?_
    refine l_nil (WK.nx (by assumption) ?_)
    refine SeqK.nx (by assumption) ?_
    refine k_seq (fun Q K => ?_)
    refine k_lin (fun W K => ?_)
    refine l_op 0 rfl rfl rfl rfl rfl ?_
    refine l_op 2 rfl rfl rfl rfl rfl ?_
    refine l_ldc F 1 rfl rfl rfl rfl rfl rfl rfl ?_
    refine l_appi F 0 rfl rfl rfl rfl rfl rfl rfl (F.old htd) rfl (by omega) hD (fun a6 c6 s F => ?_)
    (try dsimp only [n_1, n_2, n_3, n_4, List.append_nil, pk, n_5, n_6] at F)
    refine l_op 0 rfl rfl rfl rfl rfl ?_
    refine l_nil (WK.nx (by assumption) ?_)
    refine SeqK.nx (by assumption) ?_
    refine k_seq (fun Q K => ?_)
    refine k_lin (fun W K => ?_)
    refine l_op 2 rfl rfl rfl rfl rfl ?_
    refine l_ldc F 1 rfl rfl rfl rfl rfl rfl rfl ?_
    first | refine l_op 2 rfl rfl rfl rfl rfl ?_ | refine l_ln rfl rfl rfl rfl ?_
    first | refine l_remn rfl rfl rfl rfl rfl (by omega) rfl ?_ | refine l_rem rfl rfl rfl rfl rfl (by omega) rfl ?_
    refine l_cmp rfl rfl rfl rfl ?_
    refine l_nil (WK.nx (by assumption) ?_)
    refine SeqK.nx (by assumption) ?_
    refine l_cond rfl rfl (fun hc7 => ?_) (fun hc7 => ?_)
    · first | replace hc7 := eq_of_beq ((irr_eq _).symm.trans hc7) | simp only [irr_eq, beq_iff_eq, beq_eq_false_iff_ne, ne_eq, decide_eq_true_eq, decide_eq_false_iff_not] at hc7
      refine k_lin (fun W K => ?_)
      refine l_op 0 rfl rfl rfl rfl rfl ?_
      refine l_lit F rfl rfl rfl rfl (fun q75 s F => ?_)
      (try dsimp only [n_1, n_2, n_3, n_4, List.append_nil, pk, n_5, n_6] at F)
      refine l_appi F 0 rfl rfl rfl rfl rfl rfl rfl (ys := [0]) (F.has 3 rfl) rfl (by omega) hD (fun a7 c7 s F => ?_)
      (try dsimp only [n_1, n_2, n_3, n_4, List.append_nil, pk, n_5, n_6] at F)
      refine l_op 0 rfl rfl rfl rfl rfl ?_
      refine l_nil (WK.nx (by assumption) ?_)
      refine BlkK.nx (by assumption) ?_
      refine SeqK.nx (by assumption) ?_
      refine k_lin (fun W K => ?_)
      refine l_a64 rfl rfl rfl (by omega) rfl ?_
      refine l_op 0 rfl rfl rfl rfl rfl ?_
      refine l_nil (WK.nx (by assumption) ?_)
      first
        | (have hodd : ((ts.getD i.toNat default).l : Int) % 2 = 1 := by omega
           have F9 := F.pick [0] (by decide)
           refine K0.nx (i + 1, a7, _, c7) (by repeat (first | exact trivial | refine And.intro rfl ?_)) ⟨?_, by omega, by omega, ?_⟩ (by first | omega | (simp only; omega))
           · rw [e1, bld_odd (by omega) hodd]; exact F9
           · rw [e1, hst, hp5, hid5]; omega)
        | (have hev : ¬ ((ts.getD i.toNat default).l : Int) % 2 = 1 := by omega
           have F9 := F.pick [0] (by decide)
           refine K0.nx (i + 1, a6, _, c6) (by repeat (first | exact trivial | refine And.intro rfl ?_)) ⟨?_, by omega, by omega, ?_⟩ (by first | omega | (simp only; omega))
           · rw [e1, bld_even (by omega) hev]; exact F9
           · rw [e1, hst, hp5, hid5]; omega)
    first | replace hc7 := ne_of_beq_false ((irr_eq _).symm.trans hc7) | simp only [irr_eq, beq_iff_eq, beq_eq_false_iff_ne, ne_eq, decide_eq_true_eq, decide_eq_false_iff_not] at hc7
    refine k_skip ?_
    refine BlkK.nx (by assumption) ?_
    refine SeqK.nx (by assumption) ?_
    refine k_lin (fun W K => ?_)
    refine l_a64 rfl rfl rfl (by omega) rfl ?_
    refine l_op 0 rfl rfl rfl rfl rfl ?_
    refine l_nil (WK.nx (by assumption) ?_)
    first
      | (have hodd : ((ts.getD i.toNat default).l : Int) % 2 = 1 := by omega
         have F9 := F.pick [0] (by decide)
         refine K0.nx (i + 1, a7, _, c7) (by repeat (first | exact trivial | refine And.intro rfl ?_)) ⟨?_, by omega, by omega, ?_⟩ (by first | omega | (simp only; omega))
         · rw [e1, bld_odd (by omega) hodd]; exact F9
         · rw [e1, hst, hp5, hid5]; omega)
      | (have hev : ¬ ((ts.getD i.toNat default).l : Int) % 2 = 1 := by omega
         have F9 := F.pick [0] (by decide)
         refine K0.nx (i + 1, a6, _, c6) (by repeat (first | exact trivial | refine And.intro rfl ?_)) ⟨?_, by omega, by omega, ?_⟩ (by first | omega | (simp only; omega))
         · rw [e1, bld_even (by omega) hev]; exact F9
         · rw [e1, hst, hp5, hid5]; omega)
  replace hc6 := of_decide_eq_false ((irr_eq _).symm.trans hc6)
  refine k_exit ?_
  refine SeqK.et (by assumption) ?_
  refine LoopK.et (by assumption) ?_
  refine BlkK.et (by assumption) ?_
  refine SeqK.nx (by assumption) ?_
  refine k_seq (fun Q K => ?_)
  refine k_lin (fun W K => ?_)
  refine l_op 0 rfl rfl rfl rfl rfl ?_
  refine l_op 0 rfl rfl rfl rfl rfl ?_
  refine l_op 0 rfl rfl rfl rfl rfl ?_
  refine l_nil (WK.nx (by assumption) ?_)
  refine SeqK.nx (by assumption) ?_
  refine k_ret ?_
  refine FunK.rt (by assumption) rfl ?_
  -- leaf 5
  first
  | exact ⟨(1, none, 0, 0, []), rfl, (F.pick [] (by decide)).nilrow 1, .inl ⟨rfl, rfl, fun hh => absurd (hc1.symm.trans hh.1) (by decide)⟩⟩
  | exact ⟨(1, none, 0, 0, []), rfl, (F.pick [] (by decide)).nilrow 1, .inl ⟨rfl, rfl, fun hh => absurd (hc3.symm.trans (hh.2 _ hmem)) (by decide)⟩⟩
  | exact ⟨(4, none, 0, 0, []), rfl, (F.pick [] (by decide)).nilrow 1, .inr ⟨hc1, hid, .inl ⟨rfl, rfl, by omega⟩⟩⟩
  | exact ⟨(3, none, 0, 0, []), rfl, (F.pick [] (by decide)).nilrow 1, .inr ⟨hc1, hid, .inr ⟨by omega, .inl ⟨rfl, rfl, by omega⟩⟩⟩⟩
  | (have hall2 : ts.take i.toNat = ts := List.take_of_length_le (by omega)
     rw [hall2] at F
     refine ⟨(0, x, m, d, _), rfl, F, .inr ⟨hc1, hid, .inr ⟨by omega, .inr ⟨rfl, by omega, ?_⟩⟩⟩⟩
     unfold bldR
     rw [show sizeK ts + 4 = n - 8 by omega])

end Go.Proofs.Ytkmkbpnlccomnaa
