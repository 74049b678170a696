/- A form is built, by the document. No statement of the seat is proved in this text. -/
import Derived.Test.YtkmkbpnlccomnaaBlH
import Derived.Test.YtkmkbpnlccomnaaLibRPut
set_option linter.unusedVariables false
set_option linter.unusedSimpArgs false
set_option maxRecDepth 100000
set_option maxHeartbeats 8000000
namespace Go.Proofs.Ytkmkbpnlccomnaa
open GAb Go

theorem take_oneK {ts : List CK} {i : Nat} (hi : i < ts.length) : ts.take (i + 1) = ts.take i ++ [ts.getD i default] := by
  rw [List.take_succ_eq_append_getElem hi]; simp [List.getD, hi]
theorem ids_one {ts : List CK} {i : Nat} (hi : i < ts.length) : IdsOK (ts.take (i + 1)) ↔ IdsOK (ts.take i) ∧ idR (ltr (ts.getD i default).id) = true := by
  rw [take_oneK hi]
  constructor
  · intro h
    exact ⟨fun t ht => h t (List.mem_append_left _ ht), h _ (List.mem_append_right _ (List.mem_singleton.2 rfl))⟩
  · rintro ⟨h1, h2⟩ t ht
    rcases List.mem_append.1 ht with ht | ht
    · exact h1 t ht
    · rw [List.mem_singleton.1 ht]; exact h2
theorem bld_bad {kind : ByteArray} {ts : List CK} {σ s : AState} (F : Facts E0 σ s []) {e : Int} (h : BldP kind ts e 0 []) : Ret E0 σ (fun (y : Int × Option Addr × Nat × Nat × List Int) => .tuple #[.slice y.2.1 y.2.2.1 y.2.2.2.1, .int .i64 y.1]) (fun y => [own y.2.1 y.2.2.1 y.2.2.2.1 1 (u8l y.2.2.2.2)]) (fun y => BldP kind ts y.1 y.2.2.1 y.2.2.2.2) (one [.slice none 0 0, .int .i64 e]) s :=
  ⟨(e, none, 0, 0, []), rfl, F.nilrow 1, h⟩
theorem rbuild_call {σ : AState} {a : Option Addr} {l c : Nat} {ts : List CK} {kind : ByteArray} (h : OldK E0 σ a l c ts) (hl : l ≤ 2000) (hs : sumK ts ≤ 1000000) (hk : kind.size ≤ 65536) :
    SCall Try.prog E0 29 [.string kind, .slice a l c] σ (Ret E0 σ (fun (y : Int × Option Addr × Nat × Nat × List Int) => .tuple #[.slice y.2.1 y.2.2.1 y.2.2.2.1, .int .i64 y.1]) (fun y => [own y.2.1 y.2.2.1 y.2.2.2.1 1 (u8l y.2.2.2.2)]) fun y => BldP kind ts y.1 y.2.2.1 y.2.2.2.2) := by
  have htl := h.len
  have ho := h.old
  have hkl := ltr_length kind
  have hzt := sizeK_bd ts
  have hdl : ∀ t ∈ ts, t.d.length = t.l := fun t ht => (h.dat t ht).len8
  have hzl := sizeK_lenP hdl
  refine k_fun Try.func29 rfl (m := 92) rfl fun B hD Q K => ?_
  have F := Facts.nil E0 σ
  refine k_seq (fun Q K => ?_)
  refine k_lin (fun W K => ?_)
  refine l_op 0 rfl rfl rfl rfl rfl ?_
  refine l_op 0 rfl rfl rfl rfl rfl ?_
  refine l_nil (WK.nx (by assumption) ?_)
  refine SeqK.nx (by assumption) ?_
  refine k_seq (fun Q K => ?_)
  refine k_lin (fun W K => ?_)
  refine l_op 0 rfl rfl rfl rfl rfl ?_
  refine l_callp F rfl rfl (by kernel_rfl) rfl rfl (rid_call (by omega)) (fun _ s F _ => ?_)
  (try dsimp only [n_1, n_2, n_3, n_4, List.append_nil, pk, n_5, n_6] at F)
  refine l_op 0 rfl rfl rfl rfl rfl ?_
  refine l_nil (WK.nx (by assumption) ?_)
  refine SeqK.nx (by assumption) ?_
  refine k_seq (fun Q K => ?_)
  refine k_seq (fun Q K => ?_)
  refine k_lin (fun W K => ?_)
  refine l_op 0 rfl rfl rfl rfl rfl ?_
  refine l_nil (WK.nx (by assumption) ?_)
  refine SeqK.nx (by assumption) ?_
  refine k_block (fun Q K => ?_)
  refine k_loop (α := Int × Bool) (fun ⟨i, v⟩ s => Facts E0 σ s [] ∧ 0 ≤ i ∧ i ≤ l ∧ (v = true ↔ idR (ltr kind) = true ∧ IdsOK (ts.take i.toNat))) (fun ⟨i, v⟩ => [(0, .string kind), (1, .slice a l c), (6, .bool v), (7, .int .i64 i)]) (fun ⟨i, v⟩ => (l - i).toNat) (0, irr (idR (ltr kind))) ⟨F, by omega, by omega, by rw [irr_eq]; exact ⟨fun q => ⟨q, fun t ht => by cases ht⟩, fun q => q.1⟩⟩ (by repeat (first | exact trivial | refine And.intro rfl ?_)) ?_
  clear F
  rintro ⟨i, v⟩ env s Q K0 ⟨F, i0, i1, hv⟩
  refine k_seq (fun Q K => ?_)
  refine k_seq (fun Q K => ?_)
  refine k_lin (fun W K => ?_)
  refine l_op 0 rfl rfl rfl rfl rfl ?_
  refine l_op 0 rfl rfl rfl rfl rfl ?_
  first | refine l_op 2 rfl rfl rfl rfl rfl ?_ | refine l_ln rfl rfl rfl rfl ?_
  refine l_cmp rfl rfl rfl rfl ?_
  refine l_nil (WK.nx (by assumption) ?_)
  refine SeqK.nx (by assumption) ?_
  refine l_cond rfl rfl (fun hc1 => ?_) (fun hc1 => ?_)
  · replace hc1 := of_decide_eq_true ((irr_eq _).symm.trans hc1)
    have e1 : (i + 1).toNat = i.toNat + 1 := by omega
    have hone := ids_one (ts := ts) (i := i.toNat) (by omega)
    have hmem := OldK.mem (ts := ts) (i := i.toNat) (by omega)
    have hsm := sumK_mem hmem
    refine k_skip ?_
    refine SeqK.nx (by assumption) ?_
    refine k_seq (fun Q K => ?_)
    refine k_block (fun Q K => ?_)
    refine k_lin (fun W K => ?_)
    refine l_op 0 rfl rfl rfl rfl rfl ?_
    refine l_op 0 rfl rfl rfl rfl rfl ?_
    refine l_guard rfl rfl rfl (fun hc2 => ?_) (fun hc2 => ?_)
    · try simp only [irr_eq, beq_iff_eq, bne_iff_ne, beq_eq_false_iff_ne, bne_eq_false_iff_eq, ne_eq, decide_eq_true_eq, decide_eq_false_iff_not, Bool.not_eq_true', Bool.not_eq_false'] at hc2
      refine l_op 0 rfl rfl rfl rfl rfl ?_
      refine l_op 0 rfl rfl rfl rfl rfl ?_
      refine l_ixr (e := eK) rfl rfl rfl rfl rfl rfl (F.old ho) ⟨eK_len, by decide⟩ (by omega) (fun m22 b22 hA22 => ?_)
      refine l_op 2 rfl rfl rfl rfl rfl ?_
      refine l_ld0 rfl rfl rfl rfl rfl (by assumption) ?_
      refine l_callp F rfl rfl (by kernel_rfl) rfl rfl (rid_call (by omega)) (fun _ s F _ => ?_)
      (try dsimp only [n_1, n_2, n_3, n_4, List.append_nil, pk, n_5, n_6] at F)
      refine l_op 2 rfl rfl rfl rfl rfl ?_
      refine l_op 0 rfl rfl rfl rfl rfl ?_
      refine l_nil (WK.nx (by assumption) ?_)
      refine BlkK.nx (by assumption) ?_
      refine SeqK.nx (by assumption) ?_
      refine k_lin (fun W K => ?_)
      refine l_op 0 rfl rfl rfl rfl rfl ?_
      refine l_a64 rfl rfl rfl (by omega) rfl ?_
      refine l_op 0 rfl rfl rfl rfl rfl ?_
      refine l_nil (WK.nx (by assumption) ?_)
      first
        | (exact K0.nx (i + 1, irr (idR (ltr (ts.getD i.toNat default).id))) (by repeat (first | exact trivial | refine And.intro rfl ?_)) ⟨F, by omega, by omega, by
            rw [irr_eq, e1, hone]
            exact ⟨fun q => ⟨(hv.1 (by assumption)).1, (hv.1 (by assumption)).2, q⟩, fun q => q.2.2⟩⟩ (by first | omega | (simp only; omega)))
        | (exact K0.nx (i + 1, false) (by repeat (first | exact trivial | refine And.intro rfl ?_)) ⟨F, by omega, by omega, by
            rw [e1, hone]
            exact ⟨(fun q => by cases q), fun q => absurd (hv.2 ⟨q.1, q.2.1⟩) (by simp_all)⟩⟩ (by first | omega | (simp only; omega)))
    try simp only [irr_eq, beq_iff_eq, bne_iff_ne, beq_eq_false_iff_ne, bne_eq_false_iff_eq, ne_eq, decide_eq_true_eq, decide_eq_false_iff_not, Bool.not_eq_true', Bool.not_eq_false'] at hc2
    refine l_s rfl rfl ?_
    refine l_s rfl rfl ?_
    refine l_s rfl rfl ?_
    refine l_s rfl rfl ?_
    refine l_s rfl rfl ?_
    refine l_s rfl rfl ?_
    refine l_op 2 rfl rfl rfl rfl rfl ?_
    refine l_op 0 rfl rfl rfl rfl rfl ?_
    refine l_nil (WK.nx (by assumption) ?_)
    refine BlkK.nx (by assumption) ?_
    refine SeqK.nx (by assumption) ?_
    refine k_lin (fun W K => ?_)
    refine l_op 0 rfl rfl rfl rfl rfl ?_
    refine l_a64 rfl rfl rfl (by omega) rfl ?_
    refine l_op 0 rfl rfl rfl rfl rfl ?_
    refine l_nil (WK.nx (by assumption) ?_)
    first
      | (exact K0.nx (i + 1, irr (idR (ltr (ts.getD i.toNat default).id))) (by repeat (first | exact trivial | refine And.intro rfl ?_)) ⟨F, by omega, by omega, by
          rw [irr_eq, e1, hone]
          exact ⟨fun q => ⟨(hv.1 (by assumption)).1, (hv.1 (by assumption)).2, q⟩, fun q => q.2.2⟩⟩ (by first | omega | (simp only; omega)))
      | (exact K0.nx (i + 1, false) (by repeat (first | exact trivial | refine And.intro rfl ?_)) ⟨F, by omega, by omega, by
          rw [e1, hone]
          exact ⟨(fun q => by cases q), fun q => absurd (hv.2 ⟨q.1, q.2.1⟩) (by simp_all)⟩⟩ (by first | omega | (simp only; omega)))
  replace hc1 := of_decide_eq_false ((irr_eq _).symm.trans hc1)
  rw [List.take_of_length_le (by omega)] at hv
  refine k_exit ?_
  refine SeqK.et (by assumption) ?_
  refine LoopK.et (by assumption) ?_
  refine BlkK.et (by assumption) ?_
  refine SeqK.nx (by assumption) ?_
  refine k_seq (fun Q K => ?_)
  refine k_block (fun Q K => ?_)
  refine k_seq (fun Q K => ?_)
  refine k_lin (fun W K => ?_)
  refine l_op 0 rfl rfl rfl rfl rfl ?_
  refine l_op 2 rfl rfl rfl rfl rfl ?_
  refine l_op 0 rfl rfl rfl rfl rfl ?_
  refine l_nil (WK.nx (by assumption) ?_)
  refine SeqK.nx (by assumption) ?_
  refine l_cond rfl rfl (fun hc3 => ?_) (fun hc3 => ?_)
  · try simp only [irr_eq, beq_iff_eq, bne_iff_ne, beq_eq_false_iff_ne, bne_eq_false_iff_eq, ne_eq, decide_eq_true_eq, decide_eq_false_iff_not, Bool.not_eq_true', Bool.not_eq_false'] at hc3
    have hno : ¬ (idR (ltr kind) = true ∧ IdsOK ts) := fun q => by rw [hv.2 q] at hc3; cases hc3
    refine k_seq (fun Q K => ?_)
    refine k_lin (fun W K => ?_)
    refine l_op 0 rfl rfl rfl rfl rfl ?_
    refine l_op 0 rfl rfl rfl rfl rfl ?_
    refine l_nil (WK.nx (by assumption) ?_)
    refine SeqK.nx (by assumption) ?_
    refine k_ret ?_
    refine BlkK.rt (by assumption) ?_
    refine SeqK.rt (by assumption) ?_
    refine FunK.rt (by assumption) rfl ?_
    -- leaf 1
    first
    | exact bld_bad (F.pick [] (by decide)) (.inl ⟨rfl, rfl, hno⟩)
    | exact bld_bad (F.pick [] (by decide)) (.inr ⟨hk1, hid, .inl ⟨rfl, rfl, by omega⟩⟩)
    | exact bld_bad (F.pick [] (by decide)) (.inr ⟨hk1, hid, .inr ⟨by omega, .inl ⟨rfl, rfl, by omega⟩⟩⟩)
    | (rw [List.take_of_length_le (by omega)] at F
       refine ⟨(0, x, m, d, _), rfl, F, .inr ⟨hk1, hid, .inr ⟨by omega, .inr ⟨rfl, by omega, ?_⟩⟩⟩⟩
       unfold bldR
       rw [hzl])
  try simp only [irr_eq, beq_iff_eq, bne_iff_ne, beq_eq_false_iff_ne, bne_eq_false_iff_eq, ne_eq, decide_eq_true_eq, decide_eq_false_iff_not, Bool.not_eq_true', Bool.not_eq_false'] at hc3
  obtain ⟨hk1, hid⟩ := hv.1 (by simpa using hc3)
  have hl3 : ∀ t ∈ ts, t.l ≤ 2000000 := fun t ht => by have := sumK_mem ht; omega
  refine k_seq (fun Q K => ?_)
  refine k_lin (fun W K => ?_)
  refine l_op 0 rfl rfl rfl rfl rfl ?_
  first | refine l_op 2 rfl rfl rfl rfl rfl ?_ | refine l_ln rfl rfl rfl rfl ?_
  refine l_cmp rfl rfl rfl rfl ?_
  refine l_op 0 rfl rfl rfl rfl rfl ?_
  refine l_nil (WK.nx (by assumption) ?_)
  refine SeqK.nx (by assumption) ?_
  refine l_cond rfl rfl (fun hc4 => ?_) (fun hc4 => ?_)
  · replace hc4 := of_decide_eq_true ((irr_eq _).symm.trans hc4)
    refine k_seq (fun Q K => ?_)
    refine k_lin (fun W K => ?_)
    refine l_op 0 rfl rfl rfl rfl rfl ?_
    refine l_op 0 rfl rfl rfl rfl rfl ?_
    refine l_nil (WK.nx (by assumption) ?_)
    refine SeqK.nx (by assumption) ?_
    refine k_ret ?_
    refine BlkK.rt (by assumption) ?_
    refine SeqK.rt (by assumption) ?_
    refine FunK.rt (by assumption) rfl ?_
    -- leaf 2
    first
    | exact bld_bad (F.pick [] (by decide)) (.inl ⟨rfl, rfl, hno⟩)
    | exact bld_bad (F.pick [] (by decide)) (.inr ⟨hk1, hid, .inl ⟨rfl, rfl, by omega⟩⟩)
    | exact bld_bad (F.pick [] (by decide)) (.inr ⟨hk1, hid, .inr ⟨by omega, .inl ⟨rfl, rfl, by omega⟩⟩⟩)
    | (rw [List.take_of_length_le (by omega)] at F
       refine ⟨(0, x, m, d, _), rfl, F, .inr ⟨hk1, hid, .inr ⟨by omega, .inr ⟨rfl, by omega, ?_⟩⟩⟩⟩
       unfold bldR
       rw [hzl])
  replace hc4 := of_decide_eq_false ((irr_eq _).symm.trans hc4)
  refine k_seq (fun Q K => ?_)
  refine k_lin (fun W K => ?_)
  refine l_op 0 rfl rfl rfl rfl rfl ?_
  refine l_callp F rfl rfl (by kernel_rfl) rfl rfl (rlength_call (h.to F) hl3 (by omega)) (fun _ s F _ => ?_)
  (try dsimp only [n_1, n_2, n_3, n_4, List.append_nil, pk, n_5, n_6] at F)
  refine l_a64 rfl rfl rfl (by omega) rfl ?_
  refine l_cmp rfl rfl rfl rfl ?_
  refine l_op 0 rfl rfl rfl rfl rfl ?_
  refine l_nil (WK.nx (by assumption) ?_)
  refine SeqK.nx (by assumption) ?_
  refine l_cond rfl rfl (fun hc5 => ?_) (fun hc5 => ?_)
  · replace hc5 := of_decide_eq_true ((irr_eq _).symm.trans hc5)
    refine k_seq (fun Q K => ?_)
    refine k_lin (fun W K => ?_)
    refine l_op 0 rfl rfl rfl rfl rfl ?_
    refine l_op 0 rfl rfl rfl rfl rfl ?_
    refine l_nil (WK.nx (by assumption) ?_)
    refine SeqK.nx (by assumption) ?_
    refine k_ret ?_
    refine BlkK.rt (by assumption) ?_
    refine SeqK.rt (by assumption) ?_
    refine FunK.rt (by assumption) rfl ?_
    -- leaf 3
    first
    | exact bld_bad (F.pick [] (by decide)) (.inl ⟨rfl, rfl, hno⟩)
    | exact bld_bad (F.pick [] (by decide)) (.inr ⟨hk1, hid, .inl ⟨rfl, rfl, by omega⟩⟩)
    | exact bld_bad (F.pick [] (by decide)) (.inr ⟨hk1, hid, .inr ⟨by omega, .inl ⟨rfl, rfl, by omega⟩⟩⟩)
    | (rw [List.take_of_length_le (by omega)] at F
       refine ⟨(0, x, m, d, _), rfl, F, .inr ⟨hk1, hid, .inr ⟨by omega, .inr ⟨rfl, by omega, ?_⟩⟩⟩⟩
       unfold bldR
       rw [hzl])
  replace hc5 := of_decide_eq_false ((irr_eq _).symm.trans hc5)
  refine k_skip ?_
  refine BlkK.nx (by assumption) ?_
  refine SeqK.nx (by assumption) ?_
  refine k_seq (fun Q K => ?_)
  refine k_lin (fun W K => ?_)
  refine l_lit F rfl rfl rfl rfl (fun q39 s F => ?_)
  (try dsimp only [n_1, n_2, n_3, n_4, List.append_nil, pk, n_5, n_6] at F)
  have F0 : Facts E0 σ s [own (some ⟨q39, 0, some 0⟩) 4 4 1 (u8l [70, 79, 82, 77])] := F
  clear F
  have F := F0
  clear F0
  refine l_cvs F 0 rfl rfl rfl rfl rfl hD ?_
  refine l_op 0 rfl rfl rfl rfl rfl ?_
  refine l_callp F rfl rfl (by kernel_rfl) rfl rfl (rlength_call (h.to F) hl3 (by omega)) (fun _ s F _ => ?_)
  (try dsimp only [n_1, n_2, n_3, n_4, List.append_nil, pk, n_5, n_6] at F)
  refine l_a64 rfl rfl rfl (by omega) rfl ?_
  refine l_c32 rfl rfl rfl (by omega) rfl ?_
  refine l_callp F rfl rfl (by kernel_rfl) rfl rfl (rput_call (x := lenP (ts.map plK) + 4) (n := 4) ⟨by omega, by omega⟩) (fun y1 s F _ => ?_)
  (try dsimp only [n_1, n_2, n_3, n_4, List.append_nil, pk, n_5, n_6] at F)
  have hp4 : (putR (lenP (ts.map plK) + 4) 4).length = 4 := rfl
  refine l_appi (xs := [70, 79, 82, 77]) F 0 rfl rfl rfl rfl rfl rfl rfl (F.has 1 rfl) rfl (by omega) hD (fun a2 c2 s F => ?_)
  (try dsimp only [n_1, n_2, n_3, n_4, List.append_nil, pk, n_5, n_6] at F)
  refine l_op 0 rfl rfl rfl rfl rfl ?_
  refine l_nil (WK.nx (by assumption) ?_)
  refine SeqK.nx (by assumption) ?_
  refine k_seq (fun Q K => ?_)
  refine k_lin (fun W K => ?_)
  refine l_op 0 rfl rfl rfl rfl rfl ?_
  refine l_op 0 rfl rfl rfl rfl rfl ?_
  refine l_apps F 0 rfl rfl rfl rfl rfl rfl rfl rfl (by omega) hD (fun a3 c3 s F => ?_)
  (try dsimp only [n_1, n_2, n_3, n_4, List.append_nil, pk, n_5, n_6] at F)
  refine l_op 0 rfl rfl rfl rfl rfl ?_
  refine l_nil (WK.nx (by assumption) ?_)
  refine SeqK.nx (by assumption) ?_
  refine k_seq (fun Q K => ?_)
  refine k_seq (fun Q K => ?_)
  refine k_lin (fun W K => ?_)
  refine l_op 0 rfl rfl rfl rfl rfl ?_
  refine l_nil (WK.nx (by assumption) ?_)
  refine SeqK.nx (by assumption) ?_
  refine k_block (fun Q K => ?_)
  have hid4 : kind.size = 4 := by
    have := (idR_iff.1 hk1).1; omega
  have F2 : Facts E0 σ s [own a3 (4 + 4 + kind.size) c3 1 (u8l ([70, 79, 82, 77] ++ putR (lenP (ts.map plK) + 4) 4 ++ ltr kind))] := F.pick [0] (by decide)
  clear F
  have F := F2
  clear F2
  refine k_loop (α := Int × Option Addr × Nat × Nat) (fun ⟨i, x, m, d⟩ s => Facts E0 σ s [own x m d 1 (u8l ([70, 79, 82, 77] ++ putR (lenP (ts.map plK) + 4) 4 ++ ltr kind ++ (ts.take i.toNat).flatMap bldC))] ∧ 0 ≤ i ∧ i ≤ l ∧ (m : Int) = 12 + sizeK (ts.take i.toNat)) (fun ⟨i, x, m, d⟩ => [(1, .slice a l c), (8, .slice x m d), (9, .int .i64 i)]) (fun ⟨i, _⟩ => (l - i).toNat) (0, a3, 4 + 4 + kind.size, c3) ⟨by simpa using F, by omega, by omega, by rw [hid4]; simp [sizeK]⟩ (by repeat (first | exact trivial | refine And.intro rfl ?_)) ?_
  clear F
  rintro ⟨i, x, m, d⟩ env s Q K1 ⟨F, i0, i1, hm⟩
  have hz := sizeK_bd (ts.take i.toNat)
  have hz2 := sumK_le ts i.toNat
  have hz3 : (ts.take i.toNat).length ≤ 2000 := by rw [List.length_take]; omega
  refine k_seq (fun Q K => ?_)
  refine k_seq (fun Q K => ?_)
  refine k_lin (fun W K => ?_)
  refine l_op 0 rfl rfl rfl rfl rfl ?_
  refine l_op 0 rfl rfl rfl rfl rfl ?_
  first | refine l_op 2 rfl rfl rfl rfl rfl ?_ | refine l_ln rfl rfl rfl rfl ?_
  refine l_cmp rfl rfl rfl rfl ?_
  refine l_nil (WK.nx (by assumption) ?_)
  refine SeqK.nx (by assumption) ?_
  refine l_cond rfl rfl (fun hc6 => ?_) (fun hc6 => ?_)
  · replace hc6 := of_decide_eq_true ((irr_eq _).symm.trans hc6)
    have hst := sizeK_take (ts := ts) (i := i.toNat) (by omega)
    have e1 : (i + 1).toNat = i.toNat + 1 := by omega
    have hmem := OldK.mem (ts := ts) (i := i.toNat) (by omega)
    have hm2 := sumK_mem hmem
    have hidt := hid _ hmem
    have hid5 := (idR_iff.1 hidt).1
    rw [ltr_length] at hid5
    have htd := h.dat _ hmem
    have htdl := htd.len8
    refine k_skip ?_
    refine SeqK.nx (by assumption) ?_
    refine k_seq (fun Q K => ?_)
    refine k_block (fun Q K => ?_)
    refine k_seq (fun Q K => ?_)
    refine k_lin (fun W K => ?_)
    refine l_op 0 rfl rfl rfl rfl rfl ?_
    refine l_op 0 rfl rfl rfl rfl rfl ?_
    refine l_op 0 rfl rfl rfl rfl rfl ?_
    refine l_ixr (e := eK) rfl rfl rfl rfl rfl rfl (F.old ho) ⟨eK_len, by decide⟩ (by omega) (fun m59 b59 hA59 => ?_)
    refine l_op 2 rfl rfl rfl rfl rfl ?_
    refine l_ld0 rfl rfl rfl rfl rfl (by assumption) ?_
    refine l_apps F 0 rfl rfl rfl rfl rfl rfl rfl rfl (by omega) hD (fun a4 c4 s F => ?_)
    (try dsimp only [n_1, n_2, n_3, n_4, List.append_nil, pk, n_5, n_6] at F)
    refine l_op 0 rfl rfl rfl rfl rfl ?_
    refine l_nil (WK.nx (by assumption) ?_)
    refine SeqK.nx (by assumption) ?_
    refine k_seq (fun Q K => ?_)
    refine k_lin (fun W K => ?_)
    refine l_op 0 rfl rfl rfl rfl rfl ?_
    refine l_op 0 rfl rfl rfl rfl rfl ?_
    refine l_op 0 rfl rfl rfl rfl rfl ?_
    refine l_ixr (e := eK) rfl rfl rfl rfl rfl rfl (F.old ho) ⟨eK_len, by decide⟩ (by omega) (fun m66 b66 hA66 => ?_)
    refine l_op 2 rfl rfl rfl rfl rfl ?_
    refine l_ldj rfl rfl rfl rfl rfl rfl (by assumption) rfl ?_
    first | refine l_op 2 rfl rfl rfl rfl rfl ?_ | refine l_ln rfl rfl rfl rfl ?_
    refine l_c32 rfl rfl rfl (by omega) rfl ?_
    refine l_callp F rfl rfl (by kernel_rfl) rfl rfl (rput_call (x := (ts.getD i.toNat default).l) (n := 4) ⟨by omega, by omega⟩) (fun y2 s F _ => ?_)
    (try dsimp only [n_1, n_2, n_3, n_4, List.append_nil, pk, n_5, n_6] at F)
    have hp5 : (putR ((ts.getD i.toNat default).l : Int) 4).length = 4 := rfl
    refine l_appi F 0 rfl rfl rfl rfl rfl rfl rfl (F.has 1 rfl) rfl (by omega) hD (fun a5 c5 s F => ?_)
    (try dsimp only [n_1, n_2, n_3, n_4, List.append_nil, pk, n_5, n_6] at F)
    refine l_op 0 rfl rfl rfl rfl rfl ?_
    refine l_nil (WK.nx (by assumption) ?_)
    refine SeqK.nx (by assumption) ?_
    refine k_seq (fun Q K => ?_)
    refine k_lin (fun W K => ?_)
    refine l_op 0 rfl rfl rfl rfl rfl ?_
    refine l_op 0 rfl rfl rfl rfl rfl ?_
    refine l_op 0 rfl rfl rfl rfl rfl ?_
    refine l_ixr (e := eK) rfl rfl rfl rfl rfl rfl (F.old ho) ⟨eK_len, by decide⟩ (by omega) (fun m76 b76 hA76 => ?_)
    refine l_op 2 rfl rfl rfl rfl rfl ?_
    refine l_ldj rfl rfl rfl rfl rfl rfl (by assumption) rfl ?_
    refine l_appi F 0 rfl rfl rfl rfl rfl rfl rfl (F.old htd) rfl (by omega) hD (fun a6 c6 s F => ?_)
    (try dsimp only [n_1, n_2, n_3, n_4, List.append_nil, pk, n_5, n_6] at F)
    refine l_op 0 rfl rfl rfl rfl rfl ?_
    refine l_nil (WK.nx (by assumption) ?_)
    refine SeqK.nx (by assumption) ?_
    refine k_seq (fun Q K => ?_)
    refine k_lin (fun W K => ?_)
    refine l_op 0 rfl rfl rfl rfl rfl ?_
    refine l_op 0 rfl rfl rfl rfl rfl ?_
    refine l_ixr (e := eK) rfl rfl rfl rfl rfl rfl (F.old ho) ⟨eK_len, by decide⟩ (by omega) (fun m82 b82 hA82 => ?_)
    refine l_op 2 rfl rfl rfl rfl rfl ?_
    refine l_ldj rfl rfl rfl rfl rfl rfl (by assumption) rfl ?_
    first | refine l_op 2 rfl rfl rfl rfl rfl ?_ | refine l_ln rfl rfl rfl rfl ?_
    first | refine l_remn rfl rfl rfl rfl rfl (by omega) rfl ?_ | refine l_rem rfl rfl rfl rfl rfl (by omega) rfl ?_
    refine l_cmp rfl rfl rfl rfl ?_
    refine l_nil (WK.nx (by assumption) ?_)
    refine SeqK.nx (by assumption) ?_
    refine l_cond rfl rfl (fun hc7 => ?_) (fun hc7 => ?_)
    · first | replace hc7 := eq_of_beq ((irr_eq _).symm.trans hc7) | simp only [irr_eq, beq_iff_eq, beq_eq_false_iff_ne, ne_eq, decide_eq_true_eq, decide_eq_false_iff_not] at hc7
      have hodd : ((ts.getD i.toNat default).l : Int) % 2 = 1 := by omega
      refine k_lin (fun W K => ?_)
      refine l_op 0 rfl rfl rfl rfl rfl ?_
      refine l_lit F rfl rfl rfl rfl (fun q89 s F => ?_)
      (try dsimp only [n_1, n_2, n_3, n_4, List.append_nil, pk, n_5, n_6] at F)
      refine l_appi F 0 rfl rfl rfl rfl rfl rfl rfl (ys := [0]) (F.has 2 rfl) rfl (by omega) hD (fun a7 c7 s F => ?_)
      (try dsimp only [n_1, n_2, n_3, n_4, List.append_nil, pk, n_5, n_6] at F)
      refine l_op 0 rfl rfl rfl rfl rfl ?_
      refine l_nil (WK.nx (by assumption) ?_)
      refine BlkK.nx (by assumption) ?_
      refine SeqK.nx (by assumption) ?_
      refine k_lin (fun W K => ?_)
      refine l_op 0 rfl rfl rfl rfl rfl ?_
      refine l_a64 rfl rfl rfl (by omega) rfl ?_
      refine l_op 0 rfl rfl rfl rfl rfl ?_
      refine l_nil (WK.nx (by assumption) ?_)
      have F9 := F.pick [0] (by decide)
      first
        | (refine K1.nx (i + 1, a7, _, c7) (by repeat (first | exact trivial | refine And.intro rfl ?_)) ⟨?_, by omega, by omega, ?_⟩ (by first | omega | (simp only; omega))
           · rw [e1, bld_odd (by omega) hodd]; exact F9
           · rw [e1, hst, hp5, hid5]; omega)
        | (refine K1.nx (i + 1, a6, _, c6) (by repeat (first | exact trivial | refine And.intro rfl ?_)) ⟨?_, by omega, by omega, ?_⟩ (by first | omega | (simp only; omega))
           · rw [e1, bld_even (by omega) hev]; exact F9
           · rw [e1, hst, hp5, hid5]; omega)
    first | replace hc7 := ne_of_beq_false ((irr_eq _).symm.trans hc7) | simp only [irr_eq, beq_iff_eq, beq_eq_false_iff_ne, ne_eq, decide_eq_true_eq, decide_eq_false_iff_not] at hc7
    have hev : ¬ ((ts.getD i.toNat default).l : Int) % 2 = 1 := by omega
    refine k_skip ?_
    refine BlkK.nx (by assumption) ?_
    refine SeqK.nx (by assumption) ?_
    refine k_lin (fun W K => ?_)
    refine l_op 0 rfl rfl rfl rfl rfl ?_
    refine l_a64 rfl rfl rfl (by omega) rfl ?_
    refine l_op 0 rfl rfl rfl rfl rfl ?_
    refine l_nil (WK.nx (by assumption) ?_)
    have F9 := F.pick [0] (by decide)
    first
      | (refine K1.nx (i + 1, a7, _, c7) (by repeat (first | exact trivial | refine And.intro rfl ?_)) ⟨?_, by omega, by omega, ?_⟩ (by first | omega | (simp only; omega))
         · rw [e1, bld_odd (by omega) hodd]; exact F9
         · rw [e1, hst, hp5, hid5]; omega)
      | (refine K1.nx (i + 1, a6, _, c6) (by repeat (first | exact trivial | refine And.intro rfl ?_)) ⟨?_, by omega, by omega, ?_⟩ (by first | omega | (simp only; omega))
         · rw [e1, bld_even (by omega) hev]; exact F9
         · rw [e1, hst, hp5, hid5]; omega)
  replace hc6 := of_decide_eq_false ((irr_eq _).symm.trans hc6)
  refine k_exit ?_
  refine SeqK.et (by assumption) ?_
  refine LoopK.et (by assumption) ?_
  refine BlkK.et (by assumption) ?_
  refine SeqK.nx (by assumption) ?_
  refine k_seq (fun Q K => ?_)
  refine k_lin (fun W K => ?_)
  refine l_op 0 rfl rfl rfl rfl rfl ?_
  refine l_op 0 rfl rfl rfl rfl rfl ?_
  refine l_op 0 rfl rfl rfl rfl rfl ?_
  refine l_nil (WK.nx (by assumption) ?_)
  refine SeqK.nx (by assumption) ?_
  refine k_ret ?_
  refine FunK.rt (by assumption) rfl ?_
  -- leaf 4
  first
  | exact bld_bad (F.pick [] (by decide)) (.inl ⟨rfl, rfl, hno⟩)
  | exact bld_bad (F.pick [] (by decide)) (.inr ⟨hk1, hid, .inl ⟨rfl, rfl, by omega⟩⟩)
  | exact bld_bad (F.pick [] (by decide)) (.inr ⟨hk1, hid, .inr ⟨by omega, .inl ⟨rfl, rfl, by omega⟩⟩⟩)
  | (rw [List.take_of_length_le (by omega)] at F
     refine ⟨(0, x, m, d, _), rfl, F, .inr ⟨hk1, hid, .inr ⟨by omega, .inr ⟨rfl, by omega, ?_⟩⟩⟩⟩
     unfold bldR
     rw [hzl])

end Go.Proofs.Ytkmkbpnlccomnaa
