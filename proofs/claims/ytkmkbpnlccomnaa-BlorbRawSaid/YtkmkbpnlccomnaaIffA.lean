/- Chunks as they come in; four letters; how many bytes a chunk takes; are chunks too many. No statement of the seat is proved in this text. -/
import Derived.Test.YtkmkbpnlccomnaaLibPut
import Derived.Test.YtkmkbpnlccomnaaLibBytes
import Derived.Test.YtkmkbpnlccomnaaAb32
set_option linter.unusedVariables false
set_option linter.unusedSimpArgs false
set_option maxRecDepth 100000
set_option maxHeartbeats 4000000
namespace Go.Proofs.Ytkmkbpnlccomnaa
open GAb Go

structure CK where
  id : ByteArray
  x : Option Addr
  l : Nat
  c : Nat
  d : List Int
  deriving Inhabited
abbrev eK (t : CK) : List Value := [.string t.id, .slice t.x t.l t.c]
theorem eK_len (t : CK) : (eK t).length = 2 := rfl
/-- Chunks that are only read. -/
structure OldK (O : Nat → Prop) (σ : AState) (a : Option Addr) (l c : Nat) (ts : List CK) : Prop where
  old : Old O σ a l c 2 (rows eK ts)
  dat : ∀ t ∈ ts, Old O σ t.x t.l t.c 1 (u8l t.d)
  byt : ∀ t ∈ ts, Bytes t.d
  bd : ∀ t ∈ ts, (t.l : Int) ≤ 140737488351232 ∧ (t.id.size : Int) ≤ 140737488351232
theorem OldK.len {O : Nat → Prop} {σ : AState} {a : Option Addr} {l c : Nat} {ts : List CK} (h : OldK O σ a l c ts) : ts.length = l := h.old.1.len eK_len (by decide)
theorem OldK.mem {ts : List CK} {i : Nat} (hi : i < ts.length) : ts.getD i default ∈ ts := by
  simp only [List.getD, List.getElem?_eq_getElem hi, Option.getD_some]; exact List.getElem_mem hi
theorem OldK.at {O : Nat → Prop} {σ : AState} {a : Option Addr} {l c : Nat} {ts : List CK} (h : OldK O σ a l c ts) {i : Nat} (hi : i < ts.length) : Old O σ (ts.getD i default).x (ts.getD i default).l (ts.getD i default).c 1 (u8l (ts.getD i default).d) := h.dat _ (OldK.mem hi)
theorem OldK.to {O : Nat → Prop} {σ s : AState} {L : List Fact} {a : Option Addr} {l c : Nat} {ts : List CK} (h : OldK O σ a l c ts) (F : Facts O σ s L) : OldK E0 s a l c ts :=
  ⟨Old.pure (F.old h.old), fun t ht => Old.pure (F.old (h.dat t ht)), h.byt, h.bd⟩

/-- Four letters. -/
def idR (s : List Int) : Bool := decide (s.length = 4 ∧ ∀ j : Fin 4, 32 ≤ s.getD j 0 ∧ s.getD j 0 ≤ 126)
theorem idR_iff {s : List Int} : idR s = true ↔ s.length = 4 ∧ ∀ j : Nat, j < 4 → 32 ≤ s.getD j 0 ∧ s.getD j 0 ≤ 126 := by
  unfold idR
  rw [decide_eq_true_iff]
  exact ⟨fun h => ⟨h.1, fun j hj => h.2 ⟨j, hj⟩⟩, fun h => ⟨h.1, fun j => h.2 j.1 j.2⟩⟩
theorem id_call {σ : AState} {s : ByteArray} (hs : s.size ≤ 1000000000) : SCall Try.prog E0 34 [.string s] σ (Ret E0 σ (fun (_ : Unit) => .bool (irr (idR (ltr s)))) (fun _ => []) fun _ => True) := by
  have hsl := ltr_length s
  refine k_fun Try.func34 rfl (m := 21) rfl fun B hD Q K => ?_
  have F := Facts.nil E0 σ
  refine k_seq (fun Q K => ?_)
  refine k_lin (fun W K => ?_)
  refine l_op 0 rfl rfl rfl rfl rfl ?_
  refine l_nil (WK.nx (by assumption) ?_)
  refine SeqK.nx (by assumption) ?_
  refine k_seq (fun Q K => ?_)
  refine k_seq (fun Q K => ?_)
  refine k_lin (fun W K => ?_)
  refine l_op 0 rfl rfl rfl rfl rfl ?_
  first | refine l_op 2 rfl rfl rfl rfl rfl ?_ | refine l_ln rfl rfl rfl rfl ?_
  refine l_cmp rfl rfl rfl rfl ?_
  refine l_nil (WK.nx (by assumption) ?_)
  refine SeqK.nx (by assumption) ?_
  refine l_cond rfl rfl (fun hc1 => ?_) (fun hc1 => ?_)
  · first | replace hc1 := bne_iff_ne.1 ((irr_eq _).symm.trans hc1) | simp only [irr_eq, bne_iff_ne, bne_eq_false_iff_eq, ne_eq, decide_eq_true_eq, decide_eq_false_iff_not, Bool.not_eq_true', Bool.not_eq_false'] at hc1
    refine k_seq (fun Q K => ?_)
    refine k_lin (fun W K => ?_)
    refine l_op 0 rfl rfl rfl rfl rfl ?_
    refine l_nil (WK.nx (by assumption) ?_)
    refine SeqK.nx (by assumption) ?_
    refine k_ret ?_
    refine SeqK.rt (by assumption) ?_
    refine FunK.rt (by assumption) rfl ?_
    -- leaf 1
    refine ⟨(), ?_, F, trivial⟩
    show Value.bool _ = Value.bool (irr (idR (ltr s)))
    rw [irr_eq]
    refine congrArg Value.bool ?_
    first
      | (have : idR (ltr s) = true := idR_iff.2 ⟨by omega, fun j hj4 => hj j (by omega)⟩
         rw [this]; done)
      | (have : idR (ltr s) = false := by
           rw [← Bool.not_eq_true]
           intro h
           obtain ⟨h1, h2⟩ := idR_iff.1 h
           first | omega | (have := h2 i.toNat (by omega); omega)
         rw [this]; done)
  first | replace hc1 := bne_eq_false_iff_eq.1 ((irr_eq _).symm.trans hc1) | simp only [irr_eq, bne_iff_ne, bne_eq_false_iff_eq, ne_eq, decide_eq_true_eq, decide_eq_false_iff_not, Bool.not_eq_true', Bool.not_eq_false'] at hc1
  refine k_skip ?_
  refine SeqK.nx (by assumption) ?_
  refine k_seq (fun Q K => ?_)
  refine k_seq (fun Q K => ?_)
  refine k_lin (fun W K => ?_)
  refine l_op 0 rfl rfl rfl rfl rfl ?_
  refine l_nil (WK.nx (by assumption) ?_)
  refine SeqK.nx (by assumption) ?_
  refine k_block (fun Q K => ?_)
  refine k_loop (α := Int) (fun i s' => Facts E0 σ s' [] ∧ 0 ≤ i ∧ i ≤ 4 ∧ ∀ j : Nat, (j : Int) < i → 32 ≤ (ltr s).getD j 0 ∧ (ltr s).getD j 0 ≤ 126) (fun i => [(0, .string s), (7, .int .i64 i)]) (fun i => (4 - i).toNat) 0 ⟨F, by omega, by omega, fun j hj => by omega⟩ (by repeat (first | exact trivial | refine And.intro rfl ?_)) ?_
  clear F
  rintro i env s' Q K0 ⟨F, i0, i1, hj⟩
  have hbd := ltr_bd s i.toNat
  refine k_seq (fun Q K => ?_)
  refine k_lin (fun W K => ?_)
  refine l_cmp rfl rfl rfl rfl ?_
  refine l_nil (WK.nx (by assumption) ?_)
  refine SeqK.nx (by assumption) ?_
  refine k_seq (fun Q K => ?_)
  refine l_cond rfl rfl (fun hc2 => ?_) (fun hc2 => ?_)
  · replace hc2 := of_decide_eq_true ((irr_eq _).symm.trans hc2)
    refine k_skip ?_
    refine SeqK.nx (by assumption) ?_
    refine k_seq (fun Q K => ?_)
    refine k_block (fun Q K => ?_)
    refine k_seq (fun Q K => ?_)
    refine k_lin (fun W K => ?_)
    refine l_op 0 rfl rfl rfl rfl rfl ?_
    refine l_op 0 rfl rfl rfl rfl rfl ?_
    refine l_nil (WK.nx (by assumption) ?_)
    refine SeqK.nx (by assumption) ?_
    refine k_seq (fun Q K => ?_)
    refine k_lin (fun W K => ?_)
    refine l_op 0 rfl rfl rfl rfl rfl ?_
    refine l_op 0 rfl rfl rfl rfl rfl ?_
    refine l_sx rfl rfl rfl rfl rfl (by omega) ?_
    refine l_cmp rfl rfl rfl rfl ?_
    refine l_op 0 rfl rfl rfl rfl rfl ?_
    refine l_guard rfl rfl rfl (fun hc3 => ?_) (fun hc3 => ?_)
    · replace hc3 := of_decide_eq_true ((irr_eq _).symm.trans hc3)
      refine l_s rfl rfl ?_
      refine l_s rfl rfl ?_
      refine l_s rfl rfl ?_
      refine l_s rfl rfl ?_
      refine l_op 2 rfl rfl rfl rfl rfl ?_
      refine l_nil (WK.nx (by assumption) ?_)
      refine SeqK.nx (by assumption) ?_
      first | refine e_cond_t rfl rfl rfl ?_ | refine e_cond_t rfl rfl (by rw [irr_eq]; first | exact beq_iff_eq.2 (by assumption) | exact decide_eq_true (by assumption) | exact bne_iff_ne.2 (by assumption)) ?_
      refine k_seq (fun Q K => ?_)
      refine k_lin (fun W K => ?_)
      refine l_op 0 rfl rfl rfl rfl rfl ?_
      refine l_nil (WK.nx (by assumption) ?_)
      refine SeqK.nx (by assumption) ?_
      refine k_ret ?_
      refine BlkK.rt (by assumption) ?_
      refine SeqK.rt (by assumption) ?_
      refine LoopK.rt (by assumption) ?_
      refine BlkK.rt (by assumption) ?_
      refine SeqK.rt (by assumption) ?_
      refine FunK.rt (by assumption) rfl ?_
      -- leaf 2
      refine ⟨(), ?_, F, trivial⟩
      show Value.bool _ = Value.bool (irr (idR (ltr s)))
      rw [irr_eq]
      refine congrArg Value.bool ?_
      first
        | (have : idR (ltr s) = true := idR_iff.2 ⟨by omega, fun j hj4 => hj j (by omega)⟩
           rw [this]; done)
        | (have : idR (ltr s) = false := by
             rw [← Bool.not_eq_true]
             intro h
             obtain ⟨h1, h2⟩ := idR_iff.1 h
             first | omega | (have := h2 i.toNat (by omega); omega)
           rw [this]; done)
    replace hc3 := of_decide_eq_false ((irr_eq _).symm.trans hc3)
    refine l_op 0 rfl rfl rfl rfl rfl ?_
    refine l_op 0 rfl rfl rfl rfl rfl ?_
    refine l_sx rfl rfl rfl rfl rfl (by omega) ?_
    refine l_cmp rfl rfl rfl rfl ?_
    refine l_op 2 rfl rfl rfl rfl rfl ?_
    refine l_nil (WK.nx (by assumption) ?_)
    refine SeqK.nx (by assumption) ?_
    refine l_cond rfl rfl (fun hc4 => ?_) (fun hc4 => ?_)
    · replace hc4 := of_decide_eq_true ((irr_eq _).symm.trans hc4)
      refine k_seq (fun Q K => ?_)
      refine k_lin (fun W K => ?_)
      refine l_op 0 rfl rfl rfl rfl rfl ?_
      refine l_nil (WK.nx (by assumption) ?_)
      refine SeqK.nx (by assumption) ?_
      refine k_ret ?_
      refine BlkK.rt (by assumption) ?_
      refine SeqK.rt (by assumption) ?_
      refine LoopK.rt (by assumption) ?_
      refine BlkK.rt (by assumption) ?_
      refine SeqK.rt (by assumption) ?_
      refine FunK.rt (by assumption) rfl ?_
      -- leaf 3
      refine ⟨(), ?_, F, trivial⟩
      show Value.bool _ = Value.bool (irr (idR (ltr s)))
      rw [irr_eq]
      refine congrArg Value.bool ?_
      first
        | (have : idR (ltr s) = true := idR_iff.2 ⟨by omega, fun j hj4 => hj j (by omega)⟩
           rw [this]; done)
        | (have : idR (ltr s) = false := by
             rw [← Bool.not_eq_true]
             intro h
             obtain ⟨h1, h2⟩ := idR_iff.1 h
             first | omega | (have := h2 i.toNat (by omega); omega)
           rw [this]; done)
    replace hc4 := of_decide_eq_false ((irr_eq _).symm.trans hc4)
    refine k_skip ?_
    refine BlkK.nx (by assumption) ?_
    refine SeqK.nx (by assumption) ?_
    refine k_lin (fun W K => ?_)
    refine l_a64 rfl rfl rfl (by omega) rfl ?_
    refine l_op 0 rfl rfl rfl rfl rfl ?_
    refine l_nil (WK.nx (by assumption) ?_)
    exact K0.nx (i + 1) (by repeat (first | exact trivial | refine And.intro rfl ?_)) ⟨F, by omega, by omega, fun j hji => by
      by_cases e : j = i.toNat
      · subst e; omega
      · exact hj j (by omega)⟩ (by first | omega | (simp only; omega))
  replace hc2 := of_decide_eq_false ((irr_eq _).symm.trans hc2)
  refine k_exit ?_
  refine SeqK.et (by assumption) ?_
  refine LoopK.et (by assumption) ?_
  refine BlkK.et (by assumption) ?_
  refine SeqK.nx (by assumption) ?_
  refine k_seq (fun Q K => ?_)
  refine k_lin (fun W K => ?_)
  refine l_op 0 rfl rfl rfl rfl rfl ?_
  refine l_nil (WK.nx (by assumption) ?_)
  refine SeqK.nx (by assumption) ?_
  refine k_ret ?_
  refine FunK.rt (by assumption) rfl ?_
  -- leaf 4
  refine ⟨(), ?_, F, trivial⟩
  show Value.bool _ = Value.bool (irr (idR (ltr s)))
  rw [irr_eq]
  refine congrArg Value.bool ?_
  first
    | (have : idR (ltr s) = true := idR_iff.2 ⟨by omega, fun j hj4 => hj j (by omega)⟩
       rw [this]; done)
    | (have : idR (ltr s) = false := by
         rw [← Bool.not_eq_true]
         intro h
         obtain ⟨h1, h2⟩ := idR_iff.1 h
         first | omega | (have := h2 i.toNat (by omega); omega)
       rw [this]; done)

theorem size_call {σ : AState} {t : CK} (hl : t.l ≤ 100000000) : SCall Try.prog E0 43 [.agg #[.string t.id, .slice t.x t.l t.c]] σ (Ret E0 σ (fun (_ : Unit) => .int .i64 (8 + t.l + (t.l : Int) % 2)) (fun _ => []) fun _ => True) := by
  obtain ⟨id, x, l, c, d⟩ := t
  dsimp only at hl ⊢
  refine k_fun Try.func43 rfl (m := 12) rfl fun B hD Q K => ?_
  have F := Facts.nil E0 σ
  refine k_seq (fun Q K => ?_)
  refine k_lin (fun W K => ?_)
  refine l_bx F rfl rfl rfl rfl rfl (fun q1 s F => ?_)
  (try dsimp only [n_1, n_2, n_3, n_4, List.append_nil, pk, n_5, n_6] at F)
  refine l_op 0 rfl rfl rfl rfl rfl ?_
  refine l_nil (WK.nx (by assumption) ?_)
  refine SeqK.nx (by assumption) ?_
  refine k_seq (fun Q K => ?_)
  refine k_lin (fun W K => ?_)
  refine l_op 2 rfl rfl rfl rfl rfl ?_
  refine l_ldc F 0 rfl rfl rfl rfl rfl rfl rfl ?_
  first | refine l_op 2 rfl rfl rfl rfl rfl ?_ | refine l_ln rfl rfl rfl rfl ?_
  refine l_a64 rfl rfl rfl (by omega) rfl ?_
  refine l_op 2 rfl rfl rfl rfl rfl ?_
  refine l_ldc F 0 rfl rfl rfl rfl rfl rfl rfl ?_
  first | refine l_op 2 rfl rfl rfl rfl rfl ?_ | refine l_ln rfl rfl rfl rfl ?_
  first | refine l_remn rfl rfl rfl rfl rfl (by omega) rfl ?_ | refine l_rem rfl rfl rfl rfl rfl (by omega) rfl ?_
  refine l_a64 rfl rfl rfl (by omega) rfl ?_
  refine l_op 0 rfl rfl rfl rfl rfl ?_
  refine l_nil (WK.nx (by assumption) ?_)
  refine SeqK.nx (by assumption) ?_
  refine k_ret ?_
  refine FunK.rt (by assumption) rfl ?_
  -- leaf 1
  exact ⟨(), rfl, F.pick [] (by decide), trivial⟩

def sumK : List CK → Int
  | [] => 0
  | t :: ts => t.l + t.id.size + sumK ts
theorem sumK_take {ts : List CK} {i : Nat} (h : i < ts.length) : sumK (ts.take (i + 1)) = sumK (ts.take i) + (ts.getD i default).l + (ts.getD i default).id.size := by
  induction ts generalizing i with
  | nil => cases h
  | cons t ts ih =>
    cases i with
    | zero => simp [sumK]
    | succ i =>
      simp only [List.take_succ_cons, sumK, List.getD_cons_succ]
      rw [ih (by simp at h; omega)]
      omega
theorem sumK_nn : ∀ ts : List CK, 0 ≤ sumK ts
  | [] => by simp [sumK]
  | t :: ts => by have := sumK_nn ts; simp only [sumK]; omega
theorem sumK_mem : ∀ {ts : List CK} {t : CK}, t ∈ ts → (t.l : Int) + t.id.size ≤ sumK ts
  | t' :: ts, t, h => by
    have := sumK_nn ts
    simp only [sumK]
    rcases List.mem_cons.1 h with rfl | h
    · omega
    · have := sumK_mem h; omega
end Go.Proofs.Ytkmkbpnlccomnaa
