/- Resources are laid, by the document. No statement of the seat is proved in this text. -/
import Derived.Test.YtkmkbpnlccomnaaBlI
set_option linter.unusedVariables false
set_option linter.unusedSimpArgs false
set_option maxRecDepth 100000
set_option maxHeartbeats 8000000
namespace Go.Proofs.Ytkmkbpnlccomnaa
open GAb Go

theorem idsR_one {ts : List RS} {i : Nat} (hi : i < ts.length) : IdsR (ts.take (i + 1)) ↔ IdsR (ts.take i) ∧ idR (ltr (ts.getD i default).us) = true ∧ idR (ltr (ts.getD i default).id) = true := by
  rw [take_oneR hi]
  constructor
  · intro h
    exact ⟨fun t ht => h t (List.mem_append_left _ ht), h _ (List.mem_append_right _ (List.mem_singleton.2 rfl))⟩
  · rintro ⟨h1, h2⟩ t ht
    rcases List.mem_append.1 ht with ht | ht
    · exact h1 t ht
    · rw [List.mem_singleton.1 ht]; exact h2
theorem dupN_step {ts : List RS} {i : Nat} (h : ¬ DupN ts i) (hn : ∀ j, j < i → ¬ ((ts.getD j default).us = (ts.getD i default).us ∧ (ts.getD j default).nm = (ts.getD i default).nm)) : ¬ DupN ts (i + 1) := by
  rintro ⟨a, b, h1, h2, h3, h4⟩
  by_cases hb : b = i
  · subst hb
    exact hn a h1 ⟨h3, h4⟩
  · exact h ⟨a, b, h1, by omega, h3, h4⟩
/-- A row of one's own of chunks that resources hold. -/
theorem oldK_toK {σ s : AState} {L : List Fact} {a x : Option Addr} {l c m d : Nat} {ts us : List RS} (h : OldR E0 σ a l c ts) (F : Facts E0 σ s L) (j : Nat) (hj : L[j]? = some (own x m d 2 (rows eK (us.map toK)))) (hu : ∀ t ∈ us, t ∈ ts) : OldK E0 s x m d (us.map toK) := by
  refine ⟨Old.pure (F.has j hj), fun t ht => ?_, fun t ht => ?_, fun t ht => ?_⟩ <;> obtain ⟨r, hr, rfl⟩ := List.mem_map.1 ht
  · exact Old.pure (F.old (h.dat r (hu r hr)))
  · exact h.byt r (hu r hr)
  · have := h.bd r (hu r hr)
    exact ⟨this.1, this.2.1⟩
theorem rlay_call {σ : AState} {a : Option Addr} {l c : Nat} {ts : List RS} (h : OldR E0 σ a l c ts) (hl : l ≤ 2000) (hs : sumR ts ≤ 900000) :
    SCall Try.prog E0 20 [.slice a l c] σ (Ret E0 σ (fun (y : Int × Option Addr × Nat × Nat × List Int) => .tuple #[.slice y.2.1 y.2.2.1 y.2.2.2.1, .int .i64 y.1]) (fun y => [own y.2.1 y.2.2.1 y.2.2.2.1 1 (u8l y.2.2.2.2)]) fun y => LayP ts y.1 y.2.2.1 y.2.2.2.2) := by
  have htl := h.len
  have ho := h.old
  have hdl : ∀ t ∈ ts, t.d.length = t.l := fun t ht => (h.dat t ht).len8
  refine k_fun Try.func20 rfl (m := 130) rfl fun B hD Q K => ?_
  have F := Facts.nil E0 σ
  refine k_seq (fun Q K => ?_)
  refine k_lin (fun W K => ?_)
  refine l_op 0 rfl rfl rfl rfl rfl ?_
  refine l_op 0 rfl rfl rfl rfl rfl ?_
  refine l_nil (WK.nx (by assumption) ?_)
  refine SeqK.nx (by assumption) ?_
  refine k_seq (fun Q K => ?_)
  refine k_lin (fun W K => ?_)
  refine l_op 0 rfl rfl rfl rfl rfl ?_
  refine l_nil (WK.nx (by assumption) ?_)
  refine SeqK.nx (by assumption) ?_
  refine k_seq (fun Q K => ?_)
  refine k_seq (fun Q K => ?_)
  refine k_lin (fun W K => ?_)
  refine l_op 0 rfl rfl rfl rfl rfl ?_
  refine l_nil (WK.nx (by assumption) ?_)
  refine SeqK.nx (by assumption) ?_
  refine k_block (fun Q K => ?_)
  refine k_loop (α := Int × Bool) (fun ⟨i, v⟩ s => Facts E0 σ s [] ∧ 0 ≤ i ∧ i ≤ l ∧ (v = true ↔ IdsR (ts.take i.toNat))) (fun ⟨i, v⟩ => [(0, .slice a l c), (4, .bool v), (5, .int .i64 i)]) (fun ⟨i, v⟩ => (l - i).toNat) (0, true) ⟨F, by omega, by omega, ⟨(fun _ t ht => by cases ht), fun _ => rfl⟩⟩ (by repeat (first | exact trivial | refine And.intro rfl ?_)) ?_
  clear F
  rintro ⟨i, v⟩ env s Q K0 ⟨F, i0, i1, hv⟩
  refine k_seq (fun Q K => ?_)
  refine k_seq (fun Q K => ?_)
  refine k_lin (fun W K => ?_)
  refine l_op 0 rfl rfl rfl rfl rfl ?_
  refine l_op 0 rfl rfl rfl rfl rfl ?_
  first | refine l_op 2 rfl rfl rfl rfl rfl ?_ | refine l_ln rfl rfl rfl rfl ?_
  refine l_cmp rfl rfl rfl rfl ?_
  refine l_nil (WK.nx (by assumption) ?_)
  refine SeqK.nx (by assumption) ?_
  refine l_cond rfl rfl (fun hc1 => ?_) (fun hc1 => ?_)
  · replace hc1 := of_decide_eq_true ((irr_eq _).symm.trans hc1)
    have e1 : (i + 1).toNat = i.toNat + 1 := by omega
    have hone := idsR_one (ts := ts) (i := i.toNat) (by omega)
    have hmem := memR (ts := ts) (i := i.toNat) (by omega)
    have hsm := sumR_mem hmem
    refine k_skip ?_
    refine SeqK.nx (by assumption) ?_
    refine k_seq (fun Q K => ?_)
    refine k_block (fun Q K => ?_)
    refine k_lin (fun W K => ?_)
    refine l_op 0 rfl rfl rfl rfl rfl ?_
    refine l_op 0 rfl rfl rfl rfl rfl ?_
    refine l_guard rfl rfl rfl (fun hc2 => ?_) (fun hc2 => ?_)
    · try simp only [irr_eq, beq_iff_eq, bne_iff_ne, beq_eq_false_iff_ne, bne_eq_false_iff_eq, ne_eq, decide_eq_true_eq, decide_eq_false_iff_not, Bool.not_eq_true', Bool.not_eq_false'] at hc2
      refine l_op 0 rfl rfl rfl rfl rfl ?_
      refine l_op 0 rfl rfl rfl rfl rfl ?_
      first | refine l_ixrs (e := eR) F ho ⟨eR_len, by decide⟩ rfl rfl rfl rfl rfl rfl (by omega) (fun m21 b21 hA21 hS21 => ?_) | refine l_ixr (e := eR) rfl rfl rfl rfl rfl rfl (F.old ho) ⟨eR_len, by decide⟩ (by omega) (fun m21 b21 hA21 => ?_)
      refine l_op 2 rfl rfl rfl rfl rfl ?_
      refine l_ld0 rfl rfl rfl rfl rfl (by assumption) ?_
      refine l_callp F rfl rfl (by kernel_rfl) rfl rfl (rid_call (by omega)) (fun _ s F _ => ?_)
      (try dsimp only [n_1, n_2, n_3, n_4, List.append_nil, pk, n_5, n_6] at F)
      refine l_op 2 rfl rfl rfl rfl rfl ?_
      refine l_op 0 rfl rfl rfl rfl rfl ?_
      refine l_guard rfl rfl rfl (fun hc3 => ?_) (fun hc3 => ?_)
      · try simp only [irr_eq, beq_iff_eq, bne_iff_ne, beq_eq_false_iff_ne, bne_eq_false_iff_eq, ne_eq, decide_eq_true_eq, decide_eq_false_iff_not, Bool.not_eq_true', Bool.not_eq_false'] at hc3
        refine l_op 0 rfl rfl rfl rfl rfl ?_
        refine l_op 0 rfl rfl rfl rfl rfl ?_
        first | refine l_ixrs (e := eR) F ho ⟨eR_len, by decide⟩ rfl rfl rfl rfl rfl rfl (by omega) (fun m29 b29 hA29 hS29 => ?_) | refine l_ixr (e := eR) rfl rfl rfl rfl rfl rfl (F.old ho) ⟨eR_len, by decide⟩ (by omega) (fun m29 b29 hA29 => ?_)
        refine l_op 2 rfl rfl rfl rfl rfl ?_
        refine l_ldj rfl rfl rfl rfl rfl rfl (by assumption) rfl ?_
        refine l_callp F rfl rfl (by kernel_rfl) rfl rfl (rid_call (by omega)) (fun _ s F _ => ?_)
        (try dsimp only [n_1, n_2, n_3, n_4, List.append_nil, pk, n_5, n_6] at F)
        refine l_op 2 rfl rfl rfl rfl rfl ?_
        refine l_op 0 rfl rfl rfl rfl rfl ?_
        refine l_nil (WK.nx (by assumption) ?_)
        refine BlkK.nx (by assumption) ?_
        refine SeqK.nx (by assumption) ?_
        refine k_lin (fun W K => ?_)
        refine l_op 0 rfl rfl rfl rfl rfl ?_
        refine l_a64 rfl rfl rfl (by omega) rfl ?_
        refine l_op 0 rfl rfl rfl rfl rfl ?_
        refine l_nil (WK.nx (by assumption) ?_)
        first
          | (exact K0.nx (i + 1, irr (idR (ltr (ts.getD i.toNat default).id))) (by repeat (first | exact trivial | refine And.intro rfl ?_)) ⟨F, by omega, by omega, by
              rw [irr_eq, e1, hone]
              exact ⟨fun q => ⟨hv.1 (by assumption), by assumption, q⟩, fun q => q.2.2⟩⟩ (by first | omega | (simp only; omega)))
          | (exact K0.nx (i + 1, false) (by repeat (first | exact trivial | refine And.intro rfl ?_)) ⟨F, by omega, by omega, by
              rw [e1, hone]
              exact ⟨(fun q => by cases q), fun q => absurd q.2.1 (by simp_all)⟩⟩ (by first | omega | (simp only; omega)))
          | (exact K0.nx (i + 1, false) (by repeat (first | exact trivial | refine And.intro rfl ?_)) ⟨F, by omega, by omega, by
              rw [e1, hone]
              exact ⟨(fun q => by cases q), fun q => absurd (hv.2 q.1) (by simp_all)⟩⟩ (by first | omega | (simp only; omega)))
      try simp only [irr_eq, beq_iff_eq, bne_iff_ne, beq_eq_false_iff_ne, bne_eq_false_iff_eq, ne_eq, decide_eq_true_eq, decide_eq_false_iff_not, Bool.not_eq_true', Bool.not_eq_false'] at hc3
      refine l_s rfl rfl ?_
      refine l_s rfl rfl ?_
      refine l_s rfl rfl ?_
      refine l_s rfl rfl ?_
      refine l_s rfl rfl ?_
      refine l_s rfl rfl ?_
      refine l_op 2 rfl rfl rfl rfl rfl ?_
      refine l_op 0 rfl rfl rfl rfl rfl ?_
      refine l_nil (WK.nx (by assumption) ?_)
      refine BlkK.nx (by assumption) ?_
      refine SeqK.nx (by assumption) ?_
      refine k_lin (fun W K => ?_)
      refine l_op 0 rfl rfl rfl rfl rfl ?_
      refine l_a64 rfl rfl rfl (by omega) rfl ?_
      refine l_op 0 rfl rfl rfl rfl rfl ?_
      refine l_nil (WK.nx (by assumption) ?_)
      first
        | (exact K0.nx (i + 1, irr (idR (ltr (ts.getD i.toNat default).id))) (by repeat (first | exact trivial | refine And.intro rfl ?_)) ⟨F, by omega, by omega, by
            rw [irr_eq, e1, hone]
            exact ⟨fun q => ⟨hv.1 (by assumption), by assumption, q⟩, fun q => q.2.2⟩⟩ (by first | omega | (simp only; omega)))
        | (exact K0.nx (i + 1, false) (by repeat (first | exact trivial | refine And.intro rfl ?_)) ⟨F, by omega, by omega, by
            rw [e1, hone]
            exact ⟨(fun q => by cases q), fun q => absurd q.2.1 (by simp_all)⟩⟩ (by first | omega | (simp only; omega)))
        | (exact K0.nx (i + 1, false) (by repeat (first | exact trivial | refine And.intro rfl ?_)) ⟨F, by omega, by omega, by
            rw [e1, hone]
            exact ⟨(fun q => by cases q), fun q => absurd (hv.2 q.1) (by simp_all)⟩⟩ (by first | omega | (simp only; omega)))
    try simp only [irr_eq, beq_iff_eq, bne_iff_ne, beq_eq_false_iff_ne, bne_eq_false_iff_eq, ne_eq, decide_eq_true_eq, decide_eq_false_iff_not, Bool.not_eq_true', Bool.not_eq_false'] at hc2
    refine l_s rfl rfl ?_
    refine l_s rfl rfl ?_
    refine l_s rfl rfl ?_
    refine l_s rfl rfl ?_
    refine l_s rfl rfl ?_
    refine l_s rfl rfl ?_
    refine l_op 2 rfl rfl rfl rfl rfl ?_
    refine l_op 0 rfl rfl rfl rfl rfl ?_
    refine l_s rfl rfl ?_
    refine l_s rfl rfl ?_
    refine l_s rfl rfl ?_
    refine l_s rfl rfl ?_
    refine l_s rfl rfl ?_
    refine l_s rfl rfl ?_
    refine l_op 2 rfl rfl rfl rfl rfl ?_
    refine l_op 0 rfl rfl rfl rfl rfl ?_
    refine l_nil (WK.nx (by assumption) ?_)
    refine BlkK.nx (by assumption) ?_
    refine SeqK.nx (by assumption) ?_
    refine k_lin (fun W K => ?_)
    refine l_op 0 rfl rfl rfl rfl rfl ?_
    refine l_a64 rfl rfl rfl (by omega) rfl ?_
    refine l_op 0 rfl rfl rfl rfl rfl ?_
    refine l_nil (WK.nx (by assumption) ?_)
    first
      | (exact K0.nx (i + 1, irr (idR (ltr (ts.getD i.toNat default).id))) (by repeat (first | exact trivial | refine And.intro rfl ?_)) ⟨F, by omega, by omega, by
          rw [irr_eq, e1, hone]
          exact ⟨fun q => ⟨hv.1 (by assumption), by assumption, q⟩, fun q => q.2.2⟩⟩ (by first | omega | (simp only; omega)))
      | (exact K0.nx (i + 1, false) (by repeat (first | exact trivial | refine And.intro rfl ?_)) ⟨F, by omega, by omega, by
          rw [e1, hone]
          exact ⟨(fun q => by cases q), fun q => absurd q.2.1 (by simp_all)⟩⟩ (by first | omega | (simp only; omega)))
      | (exact K0.nx (i + 1, false) (by repeat (first | exact trivial | refine And.intro rfl ?_)) ⟨F, by omega, by omega, by
          rw [e1, hone]
          exact ⟨(fun q => by cases q), fun q => absurd (hv.2 q.1) (by simp_all)⟩⟩ (by first | omega | (simp only; omega)))
  replace hc1 := of_decide_eq_false ((irr_eq _).symm.trans hc1)
  rw [List.take_of_length_le (by omega)] at hv
  refine k_exit ?_
  refine SeqK.et (by assumption) ?_
  refine LoopK.et (by assumption) ?_
  refine BlkK.et (by assumption) ?_
  refine SeqK.nx (by assumption) ?_
  refine k_seq (fun Q K => ?_)
  refine k_seq (fun Q K => ?_)
  refine k_lin (fun W K => ?_)
  refine l_op 0 rfl rfl rfl rfl rfl ?_
  refine l_op 2 rfl rfl rfl rfl rfl ?_
  refine l_nil (WK.nx (by assumption) ?_)
  refine SeqK.nx (by assumption) ?_
  refine l_cond rfl rfl (fun hc4 => ?_) (fun hc4 => ?_)
  · try simp only [irr_eq, beq_iff_eq, bne_iff_ne, beq_eq_false_iff_ne, bne_eq_false_iff_eq, ne_eq, decide_eq_true_eq, decide_eq_false_iff_not, Bool.not_eq_true', Bool.not_eq_false'] at hc4
    have hno : ¬ IdsR ts := fun q => by rw [hv.2 q] at hc4; cases hc4
    refine k_seq (fun Q K => ?_)
    refine k_lin (fun W K => ?_)
    refine l_op 0 rfl rfl rfl rfl rfl ?_
    refine l_op 0 rfl rfl rfl rfl rfl ?_
    refine l_nil (WK.nx (by assumption) ?_)
    refine SeqK.nx (by assumption) ?_
    refine k_ret ?_
    refine SeqK.rt (by assumption) ?_
    refine FunK.rt (by assumption) rfl ?_
    -- leaf 1
    first
    | (exact lay_bad (F.pick [] (by decide)) (.inl ⟨rfl, rfl, hno⟩))
    | (exact lay_bad (F.pick [] (by decide)) (.inr ⟨hall, .inl ⟨rfl, rfl, by omega⟩⟩))
    | (exact lay_bad (F.pick [] (by decide)) (.inr ⟨hall, .inr ⟨by omega, .inl ⟨rfl, rfl, hdup⟩⟩⟩))
    | (refine ⟨yb, rfl, F.pick [3] (by decide), .inr ⟨hall, .inr ⟨by omega, .inr ⟨hnd2, ?_⟩⟩⟩⟩
       rw [hmi] at hyb
       exact bldP_head hyb)
  try simp only [irr_eq, beq_iff_eq, bne_iff_ne, beq_eq_false_iff_ne, bne_eq_false_iff_eq, ne_eq, decide_eq_true_eq, decide_eq_false_iff_not, Bool.not_eq_true', Bool.not_eq_false'] at hc4
  have hall := hv.1 (by simpa using hc4)
  refine k_skip ?_
  refine SeqK.nx (by assumption) ?_
  refine k_seq (fun Q K => ?_)
  refine k_seq (fun Q K => ?_)
  refine k_lin (fun W K => ?_)
  refine l_op 0 rfl rfl rfl rfl rfl ?_
  first | refine l_op 2 rfl rfl rfl rfl rfl ?_ | refine l_ln rfl rfl rfl rfl ?_
  refine l_cmp rfl rfl rfl rfl ?_
  refine l_nil (WK.nx (by assumption) ?_)
  refine SeqK.nx (by assumption) ?_
  refine l_cond rfl rfl (fun hc5 => ?_) (fun hc5 => ?_)
  · replace hc5 := of_decide_eq_true ((irr_eq _).symm.trans hc5)
    refine k_seq (fun Q K => ?_)
    refine k_lin (fun W K => ?_)
    refine l_op 0 rfl rfl rfl rfl rfl ?_
    refine l_op 0 rfl rfl rfl rfl rfl ?_
    refine l_nil (WK.nx (by assumption) ?_)
    refine SeqK.nx (by assumption) ?_
    refine k_ret ?_
    refine SeqK.rt (by assumption) ?_
    refine FunK.rt (by assumption) rfl ?_
    -- leaf 2
    first
    | (exact lay_bad (F.pick [] (by decide)) (.inl ⟨rfl, rfl, hno⟩))
    | (exact lay_bad (F.pick [] (by decide)) (.inr ⟨hall, .inl ⟨rfl, rfl, by omega⟩⟩))
    | (exact lay_bad (F.pick [] (by decide)) (.inr ⟨hall, .inr ⟨by omega, .inl ⟨rfl, rfl, hdup⟩⟩⟩))
    | (refine ⟨yb, rfl, F.pick [3] (by decide), .inr ⟨hall, .inr ⟨by omega, .inr ⟨hnd2, ?_⟩⟩⟩⟩
       rw [hmi] at hyb
       exact bldP_head hyb)
  replace hc5 := of_decide_eq_false ((irr_eq _).symm.trans hc5)
  refine k_skip ?_
  refine SeqK.nx (by assumption) ?_
  refine k_seq (fun Q K => ?_)
  refine k_lin (fun W K => ?_)
  refine l_op 0 rfl rfl rfl rfl rfl ?_
  first | refine l_op 2 rfl rfl rfl rfl rfl ?_ | refine l_ln rfl rfl rfl rfl ?_
  refine l_a64 rfl rfl rfl (by omega) rfl ?_
  refine l_a64 rfl rfl rfl (by omega) rfl ?_
  refine l_op 0 rfl rfl rfl rfl rfl ?_
  refine l_nil (WK.nx (by assumption) ?_)
  refine SeqK.nx (by assumption) ?_
  refine k_seq (fun Q K => ?_)
  refine k_lin (fun W K => ?_)
  refine l_op 0 rfl rfl rfl rfl rfl ?_
  first | refine l_op 2 rfl rfl rfl rfl rfl ?_ | refine l_ln rfl rfl rfl rfl ?_
  refine l_c32 rfl rfl rfl (by omega) rfl ?_
  refine l_callp F rfl rfl (by kernel_rfl) rfl rfl (rput_call (x := (l : Int)) (n := 4) ⟨by omega, by omega⟩) (fun y s F _ => ?_)
  (try dsimp only [n_1, n_2, n_3, n_4, List.append_nil, pk, n_5, n_6] at F)
  refine l_op 0 rfl rfl rfl rfl rfl ?_
  refine l_nil (WK.nx (by assumption) ?_)
  refine SeqK.nx (by assumption) ?_
  refine k_seq (fun Q K => ?_)
  refine k_lin (fun W K => ?_)
  refine l_op 0 rfl rfl rfl rfl rfl ?_
  refine l_nil (WK.nx (by assumption) ?_)
  refine SeqK.nx (by assumption) ?_
  refine k_seq (fun Q K => ?_)
  refine k_seq (fun Q K => ?_)
  refine k_lin (fun W K => ?_)
  refine l_op 0 rfl rfl rfl rfl rfl ?_
  refine l_nil (WK.nx (by assumption) ?_)
  refine SeqK.nx (by assumption) ?_
  refine k_block (fun Q K => ?_)
  have F0 : Facts E0 σ s [own y.1 4 y.2 1 (u8l (putR (l : Int) 4 ++ entsD ts 0)), own none 0 0 2 (rows eK ((ts.take 0).map toK))] := by
    rw [show entsD ts 0 = [] from rfl, List.append_nil]
    exact F.nilrow 2
  clear F
  refine k_loop (α := Int × Option Addr × Nat × Nat × Option Addr × Nat × Nat) (fun ⟨i, x', m', d', x, m, d⟩ s => Facts E0 σ s [own x' m' d' 1 (u8l (putR (l : Int) 4 ++ entsD ts i.toNat)), own x m d 2 (rows eK ((ts.take i.toNat).map toK))] ∧ 0 ≤ i ∧ i ≤ l ∧ (m' : Int) = 4 + 12 * i ∧ (m : Int) = i ∧ ¬ DupN ts i.toNat) (fun ⟨i, x', m', d', x, m, d⟩ => [(0, .slice a l c), (6, .int .i64 (plcR ts i.toNat)), (7, .slice x' m' d'), (8, .slice x m d), (9, .int .i64 i)]) (fun ⟨i, _⟩ => (l - i).toNat) (0, y.1, 4, y.2, none, 0, 0) ⟨F0, by omega, by omega, by omega, by omega, fun ⟨a, b, h1, h2, _⟩ => by simp at h2⟩ (by dsimp only; rw [show plcR ts (Int.toNat 0) = 24 + 12 * (l : Int) by simp [plcR, sizeK, htl]]; exact (by repeat (first | exact trivial | refine And.intro rfl ?_))) ?_
  clear F0
  rintro ⟨i, x', m', d', x, m, d⟩ env s Q K1 ⟨F, i0, i1, hm', hm, hnd⟩
  have hpb := plcR_bd (ts := ts) i.toNat hs (by omega)
  refine k_seq (fun Q K => ?_)
  refine k_seq (fun Q K => ?_)
  refine k_lin (fun W K => ?_)
  refine l_op 0 rfl rfl rfl rfl rfl ?_
  refine l_op 0 rfl rfl rfl rfl rfl ?_
  first | refine l_op 2 rfl rfl rfl rfl rfl ?_ | refine l_ln rfl rfl rfl rfl ?_
  refine l_cmp rfl rfl rfl rfl ?_
  refine l_nil (WK.nx (by assumption) ?_)
  refine SeqK.nx (by assumption) ?_
  refine l_cond rfl rfl (fun hc6 => ?_) (fun hc6 => ?_)
  · replace hc6 := of_decide_eq_true ((irr_eq _).symm.trans hc6)
    have hmem := memR (ts := ts) (i := i.toNat) (by omega)
    have hsm := sumR_mem hmem
    have hu4 := (idR_iff.1 (hall _ hmem).1).1
    rw [ltr_length] at hu4
    have hnm := h.nmb _ hmem
    refine k_skip ?_
    refine SeqK.nx (by assumption) ?_
    refine k_seq (fun Q K => ?_)
    refine k_block (fun Q K => ?_)
    refine k_seq (fun Q K => ?_)
    refine k_seq (fun Q K => ?_)
    refine k_lin (fun W K => ?_)
    refine l_op 0 rfl rfl rfl rfl rfl ?_
    refine l_nil (WK.nx (by assumption) ?_)
    refine SeqK.nx (by assumption) ?_
    refine k_block (fun Q K => ?_)
    refine k_loop (α := Int) (fun k s => Facts E0 σ s [own x' m' d' 1 (u8l (putR (l : Int) 4 ++ entsD ts i.toNat)), own x m d 2 (rows eK ((ts.take i.toNat).map toK))] ∧ 0 ≤ k ∧ k ≤ i ∧ ∀ j : Nat, (j : Int) < k → ¬ ((ts.getD j default).us = (ts.getD i.toNat default).us ∧ (ts.getD j default).nm = (ts.getD i.toNat default).nm)) (fun k => [(0, .slice a l c), (6, .int .i64 (plcR ts i.toNat)), (7, .slice x' m' d'), (8, .slice x m d), (9, .int .i64 i), (10, .int .i64 k)]) (fun k => (i - k).toNat) 0 ⟨F, by omega, by omega, fun j hj => by omega⟩ (by repeat (first | exact trivial | refine And.intro rfl ?_)) ?_
    clear F
    rintro k env s Q K2 ⟨F, k0, k1, hj⟩
    refine k_seq (fun Q K => ?_)
    refine k_seq (fun Q K => ?_)
    refine k_lin (fun W K => ?_)
    refine l_op 0 rfl rfl rfl rfl rfl ?_
    refine l_op 0 rfl rfl rfl rfl rfl ?_
    refine l_cmp rfl rfl rfl rfl ?_
    refine l_nil (WK.nx (by assumption) ?_)
    refine SeqK.nx (by assumption) ?_
    refine l_cond rfl rfl (fun hc7 => ?_) (fun hc7 => ?_)
    · replace hc7 := of_decide_eq_true ((irr_eq _).symm.trans hc7)
      refine k_skip ?_
      refine SeqK.nx (by assumption) ?_
      refine k_seq (fun Q K => ?_)
      refine k_block (fun Q K => ?_)
      refine k_seq (fun Q K => ?_)
      refine k_linm [0, 1, 2, 3, 5, 6, 7, 8, 4, 9, 10, 11, 12, 13, 14, 15, 17, 18, 19, 20, 16, 21, 22, 23] mixed (by kernel_rfl) (fun W K => ?_)
      try have hpS := F.pns
      refine l_op 0 rfl rfl rfl rfl rfl ?_
      refine l_op 0 rfl rfl rfl rfl rfl ?_
      first | refine l_ixrs (e := eR) F ho ⟨eR_len, by decide⟩ rfl rfl rfl rfl rfl rfl (by omega) (fun m60 b60 hA60 hS60 => ?_) | refine l_ixr (e := eR) rfl rfl rfl rfl rfl rfl (F.old ho) ⟨eR_len, by decide⟩ (by omega) (fun m60 b60 hA60 => ?_)
      refine l_op 2 rfl rfl rfl rfl rfl ?_
      refine l_op 0 rfl rfl rfl rfl rfl ?_
      refine l_op 0 rfl rfl rfl rfl rfl ?_
      first | refine l_ixrs (e := eR) F ho ⟨eR_len, by decide⟩ rfl rfl rfl rfl rfl rfl (by omega) (fun m65 b65 hA65 hS65 => ?_) | refine l_ixr (e := eR) rfl rfl rfl rfl rfl rfl (F.old ho) ⟨eR_len, by decide⟩ (by omega) (fun m65 b65 hA65 => ?_)
      refine l_op 2 rfl rfl rfl rfl rfl ?_
      refine l_ld0 rfl rfl rfl rfl rfl (by assumption) ?_
      first | have hpS := PnS.add hpS hS60 | have hpS := PnS.add hpS (OldC.sf (by assumption)) | skip
      refine l_ld0 rfl rfl rfl rfl rfl (by assumption) ?_
      first | have hpS := PnS.add hpS hS65 | have hpS := PnS.add hpS (OldC.sf (by assumption)) | skip
      refine l_cmp rfl rfl rfl rfl ?_
      refine l_op 0 rfl rfl rfl rfl rfl ?_
      refine l_guard rfl rfl rfl (fun hc8 => ?_) (fun hc8 => ?_)
      · first | replace hc8 := eq_of_beq ((irr_eq _).symm.trans hc8) | simp only [irr_eq, beq_iff_eq, beq_eq_false_iff_ne, ne_eq, decide_eq_true_eq, decide_eq_false_iff_not] at hc8
        refine l_op 0 rfl rfl rfl rfl rfl ?_
        refine l_op 0 rfl rfl rfl rfl rfl ?_
        first | refine l_ixrs (e := eR) F ho ⟨eR_len, by decide⟩ rfl rfl rfl rfl rfl rfl (by omega) (fun m72 b72 hA72 hS72 => ?_) | refine l_ixr (e := eR) rfl rfl rfl rfl rfl rfl (F.old ho) ⟨eR_len, by decide⟩ (by omega) (fun m72 b72 hA72 => ?_)
        refine l_op 2 rfl rfl rfl rfl rfl ?_
        refine l_op 0 rfl rfl rfl rfl rfl ?_
        refine l_op 0 rfl rfl rfl rfl rfl ?_
        first | refine l_ixrs (e := eR) F ho ⟨eR_len, by decide⟩ rfl rfl rfl rfl rfl rfl (by omega) (fun m77 b77 hA77 hS77 => ?_) | refine l_ixr (e := eR) rfl rfl rfl rfl rfl rfl (F.old ho) ⟨eR_len, by decide⟩ (by omega) (fun m77 b77 hA77 => ?_)
        refine l_op 2 rfl rfl rfl rfl rfl ?_
        refine l_ldj rfl rfl rfl rfl rfl rfl (by assumption) rfl ?_
        first | have hpS := PnS.add hpS hS72 | have hpS := PnS.add hpS (OldC.sf (by assumption)) | skip
        refine l_ldj rfl rfl rfl rfl rfl rfl (by assumption) rfl ?_
        first | have hpS := PnS.add hpS hS77 | have hpS := PnS.add hpS (OldC.sf (by assumption)) | skip
        refine l_cmp rfl rfl rfl rfl ?_
        refine l_op 2 rfl rfl rfl rfl rfl ?_
        refine l_nil (WK.nx (by assumption) ?_)
        refine SeqK.nx (by assumption) ?_
        refine l_cond rfl rfl (fun hc9 => ?_) (fun hc9 => ?_)
        · first | replace hc9 := eq_of_beq ((irr_eq _).symm.trans hc9) | simp only [irr_eq, beq_iff_eq, beq_eq_false_iff_ne, ne_eq, decide_eq_true_eq, decide_eq_false_iff_not] at hc9
          have hdup : DupN ts ts.length := ⟨k.toNat, i.toNat, by omega, by omega, ltr_inj (sbeq_iff.1 (beq_iff_eq.2 (by assumption))), by assumption⟩
          refine k_seq (fun Q K => ?_)
          refine k_lin (fun W K => ?_)
          refine l_op 0 rfl rfl rfl rfl rfl ?_
          refine l_op 0 rfl rfl rfl rfl rfl ?_
          refine l_nil (WK.nx (by assumption) ?_)
          refine SeqK.nx (by assumption) ?_
          refine k_ret ?_
          refine BlkK.rt (by assumption) ?_
          refine SeqK.rt (by assumption) ?_
          refine LoopK.rt (by assumption) ?_
          refine BlkK.rt (by assumption) ?_
          refine SeqK.rt (by assumption) ?_
          refine BlkK.rt (by assumption) ?_
          refine SeqK.rt (by assumption) ?_
          refine LoopK.rt (by assumption) ?_
          refine BlkK.rt (by assumption) ?_
          refine SeqK.rt (by assumption) ?_
          refine FunK.rt (by assumption) rfl ?_
          -- leaf 3
          first
          | (exact lay_bad (F.pick [] (by decide)) (.inl ⟨rfl, rfl, hno⟩))
          | (exact lay_bad (F.pick [] (by decide)) (.inr ⟨hall, .inl ⟨rfl, rfl, by omega⟩⟩))
          | (exact lay_bad (F.pick [] (by decide)) (.inr ⟨hall, .inr ⟨by omega, .inl ⟨rfl, rfl, hdup⟩⟩⟩))
          | (refine ⟨yb, rfl, F.pick [3] (by decide), .inr ⟨hall, .inr ⟨by omega, .inr ⟨hnd2, ?_⟩⟩⟩⟩
             rw [hmi] at hyb
             exact bldP_head hyb)
        first | replace hc9 := ne_of_beq_false ((irr_eq _).symm.trans hc9) | simp only [irr_eq, beq_iff_eq, beq_eq_false_iff_ne, ne_eq, decide_eq_true_eq, decide_eq_false_iff_not] at hc9
        refine k_skip ?_
        refine BlkK.nx (by assumption) ?_
        refine SeqK.nx (by assumption) ?_
        refine k_lin (fun W K => ?_)
        refine l_op 0 rfl rfl rfl rfl rfl ?_
        refine l_a64 rfl rfl rfl (by omega) rfl ?_
        refine l_op 0 rfl rfl rfl rfl rfl ?_
        refine l_nil (WK.nx (by assumption) ?_)
        refine K2.nx (k + 1) (by repeat (first | exact trivial | refine And.intro rfl ?_)) ⟨F, by omega, by omega, fun j hjk => ?_⟩ (by first | omega | (simp only; omega))
        by_cases e : (j : Int) = k
        · rw [show j = k.toNat by omega]
          rintro ⟨z1, z2⟩
          first
            | exact (by assumption : (ts.getD k.toNat default).us.toList ≠ (ts.getD i.toNat default).us.toList) (by rw [z1])
            | exact (by assumption : (ts.getD k.toNat default).nm ≠ (ts.getD i.toNat default).nm) z2
        · exact hj j (by omega)
      first | replace hc8 := ne_of_beq_false ((irr_eq _).symm.trans hc8) | simp only [irr_eq, beq_iff_eq, beq_eq_false_iff_ne, ne_eq, decide_eq_true_eq, decide_eq_false_iff_not] at hc8
      refine l_s rfl rfl ?_
      refine l_s rfl rfl ?_
      refine l_s rfl rfl ?_
      refine l_s rfl rfl ?_
      refine l_s rfl rfl ?_
      refine l_s rfl rfl ?_
      refine l_s rfl rfl ?_
      refine l_s rfl rfl ?_
      refine l_s rfl rfl ?_
      refine l_s rfl rfl ?_
      refine l_s rfl rfl ?_
      refine l_op 2 rfl rfl rfl rfl rfl ?_
      refine l_nil (WK.nx (by assumption) ?_)
      refine SeqK.nx (by assumption) ?_
      first | refine e_cond_f rfl rfl rfl ?_ | refine e_cond_f rfl rfl (by rw [irr_eq]; first | exact beq_eq_false_iff_ne.2 (by assumption) | exact decide_eq_false (by assumption) | exact bne_eq_false_iff_eq.2 (by assumption)) ?_
      refine k_skip ?_
      refine BlkK.nx (by assumption) ?_
      refine SeqK.nx (by assumption) ?_
      refine k_lin (fun W K => ?_)
      refine l_op 0 rfl rfl rfl rfl rfl ?_
      refine l_a64 rfl rfl rfl (by omega) rfl ?_
      refine l_op 0 rfl rfl rfl rfl rfl ?_
      refine l_nil (WK.nx (by assumption) ?_)
      refine K2.nx (k + 1) (by repeat (first | exact trivial | refine And.intro rfl ?_)) ⟨F, by omega, by omega, fun j hjk => ?_⟩ (by first | omega | (simp only; omega))
      by_cases e : (j : Int) = k
      · rw [show j = k.toNat by omega]
        rintro ⟨z1, z2⟩
        first
          | exact (by assumption : (ts.getD k.toNat default).us.toList ≠ (ts.getD i.toNat default).us.toList) (by rw [z1])
          | exact (by assumption : (ts.getD k.toNat default).nm ≠ (ts.getD i.toNat default).nm) z2
      · exact hj j (by omega)
    replace hc7 := of_decide_eq_false ((irr_eq _).symm.trans hc7)
    have hnd3 := dupN_step (ts := ts) (i := i.toNat) hnd (fun j hji => hj j (by omega))
    refine k_exit ?_
    refine SeqK.et (by assumption) ?_
    refine LoopK.et (by assumption) ?_
    refine BlkK.et (by assumption) ?_
    refine SeqK.nx (by assumption) ?_
    refine k_seq (fun Q K => ?_)
    refine k_lin (fun W K => ?_)
    refine l_op 0 rfl rfl rfl rfl rfl ?_
    refine l_op 0 rfl rfl rfl rfl rfl ?_
    refine l_op 0 rfl rfl rfl rfl rfl ?_
    first | refine l_ixrs (e := eR) F ho ⟨eR_len, by decide⟩ rfl rfl rfl rfl rfl rfl (by omega) (fun m85 b85 hA85 hS85 => ?_) | refine l_ixr (e := eR) rfl rfl rfl rfl rfl rfl (F.old ho) ⟨eR_len, by decide⟩ (by omega) (fun m85 b85 hA85 => ?_)
    refine l_op 2 rfl rfl rfl rfl rfl ?_
    refine l_ld0 rfl rfl rfl rfl rfl (by assumption) ?_
    refine l_apps F 0 rfl rfl rfl rfl rfl rfl rfl rfl (by omega) hD (fun a4 c4 s F => ?_)
    (try dsimp only [n_1, n_2, n_3, n_4, List.append_nil, pk, n_5, n_6] at F)
    refine l_op 0 rfl rfl rfl rfl rfl ?_
    refine l_nil (WK.nx (by assumption) ?_)
    refine SeqK.nx (by assumption) ?_
    refine k_seq (fun Q K => ?_)
    refine k_lin (fun W K => ?_)
    refine l_op 0 rfl rfl rfl rfl rfl ?_
    refine l_op 0 rfl rfl rfl rfl rfl ?_
    refine l_op 0 rfl rfl rfl rfl rfl ?_
    first | refine l_ixrs (e := eR) F ho ⟨eR_len, by decide⟩ rfl rfl rfl rfl rfl rfl (by omega) (fun m92 b92 hA92 hS92 => ?_) | refine l_ixr (e := eR) rfl rfl rfl rfl rfl rfl (F.old ho) ⟨eR_len, by decide⟩ (by omega) (fun m92 b92 hA92 => ?_)
    refine l_op 2 rfl rfl rfl rfl rfl ?_
    refine l_ldj rfl rfl rfl rfl rfl rfl (by assumption) rfl ?_
    refine l_callp F rfl rfl (by kernel_rfl) rfl rfl (rput_call (x := (ts.getD i.toNat default).nm) (n := 4) hnm) (fun y2 s F _ => ?_)
    (try dsimp only [n_1, n_2, n_3, n_4, List.append_nil, pk, n_5, n_6] at F)
    have hp5 : (putR (ts.getD i.toNat default).nm 4).length = 4 := rfl
    refine l_appi F 0 rfl rfl rfl rfl rfl rfl rfl (F.has 2 rfl) rfl (by omega) hD (fun a5 c5 s F => ?_)
    (try dsimp only [n_1, n_2, n_3, n_4, List.append_nil, pk, n_5, n_6] at F)
    refine l_op 0 rfl rfl rfl rfl rfl ?_
    refine l_nil (WK.nx (by assumption) ?_)
    refine SeqK.nx (by assumption) ?_
    refine k_seq (fun Q K => ?_)
    refine k_lin (fun W K => ?_)
    refine l_op 0 rfl rfl rfl rfl rfl ?_
    refine l_op 0 rfl rfl rfl rfl rfl ?_
    refine l_c32 rfl rfl rfl (by omega) rfl ?_
    refine l_callp F rfl rfl (by kernel_rfl) rfl rfl (rput_call (x := plcR ts i.toNat) (n := 4) ⟨by omega, by omega⟩) (fun y3 s F _ => ?_)
    (try dsimp only [n_1, n_2, n_3, n_4, List.append_nil, pk, n_5, n_6] at F)
    have hp6 : (putR (plcR ts i.toNat) 4).length = 4 := rfl
    refine l_appi F 0 rfl rfl rfl rfl rfl rfl rfl (F.has 3 rfl) rfl (by omega) hD (fun a6 c6 s F => ?_)
    (try dsimp only [n_1, n_2, n_3, n_4, List.append_nil, pk, n_5, n_6] at F)
    refine l_op 0 rfl rfl rfl rfl rfl ?_
    refine l_nil (WK.nx (by assumption) ?_)
    refine SeqK.nx (by assumption) ?_
    refine k_seq (fun Q K => ?_)
    refine k_linm [0, 1, 2, 3, 4, 6, 7, 8, 9, 5, 10, 11, 12, 13, 14] mixed (by kernel_rfl) (fun W K => ?_)
    try have hpS := F.pns
    refine l_op 0 rfl rfl rfl rfl rfl ?_
    refine l_op 0 rfl rfl rfl rfl rfl ?_
    refine l_op 0 rfl rfl rfl rfl rfl ?_
    first | refine l_ixrs (e := eR) F ho ⟨eR_len, by decide⟩ rfl rfl rfl rfl rfl rfl (by omega) (fun m105 b105 hA105 hS105 => ?_) | refine l_ixr (e := eR) rfl rfl rfl rfl rfl rfl (F.old ho) ⟨eR_len, by decide⟩ (by omega) (fun m105 b105 hA105 => ?_)
    refine l_op 2 rfl rfl rfl rfl rfl ?_
    refine l_op 0 rfl rfl rfl rfl rfl ?_
    refine l_op 0 rfl rfl rfl rfl rfl ?_
    first | refine l_ixrs (e := eR) F ho ⟨eR_len, by decide⟩ rfl rfl rfl rfl rfl rfl (by omega) (fun m110 b110 hA110 hS110 => ?_) | refine l_ixr (e := eR) rfl rfl rfl rfl rfl rfl (F.old ho) ⟨eR_len, by decide⟩ (by omega) (fun m110 b110 hA110 => ?_)
    refine l_op 2 rfl rfl rfl rfl rfl ?_
    refine l_ldj rfl rfl rfl rfl rfl rfl (by assumption) rfl ?_
    first | have hpS := PnS.add hpS hS105 | have hpS := PnS.add hpS (OldC.sf (by assumption)) | skip
    refine l_ldj rfl rfl rfl rfl rfl rfl (by assumption) rfl ?_
    first | have hpS := PnS.add hpS hS110 | have hpS := PnS.add hpS (OldC.sf (by assumption)) | skip
    refine l_bld rfl rfl rfl rfl ?_
    refine l_lit F rfl rfl rfl rfl (fun q114 s F => ?_)
    (try dsimp only [n_1, n_2, n_3, n_4, List.append_nil, pk, n_5, n_6] at F)
    refine l_app (es := 2) F 1 rfl rfl rfl rfl rfl rfl rfl (F.has 4 rfl) rfl rfl (by omega) hD (fun x2 c2 s F => ?_)
    (try dsimp only [n_1, n_2, n_3, n_4, List.append_nil, pk, n_5, n_6] at F)
    have F9 : Facts E0 σ s [own a6 (m' + (ts.getD i.toNat default).us.size + (putR (ts.getD i.toNat default).nm 4).length + (putR (plcR ts i.toNat) 4).length) c6 1 (u8l (putR (l : Int) 4 ++ entsD ts (i.toNat + 1))), own x2 (m + 1) c2 2 (rows eK ((ts.take (i.toNat + 1)).map toK))] := by
      have := F.pick [0, 1] (by decide)
      rw [take_oneR (by omega), List.map_append, rows_append, entsD_succ]
      have e9 : putR (l : Int) 4 ++ (entsD ts i.toNat ++ entD ts i.toNat) = putR (l : Int) 4 ++ entsD ts i.toNat ++ ltr (ts.getD i.toNat default).us ++ putR (ts.getD i.toNat default).nm 4 ++ putR (plcR ts i.toNat) 4 := by
        unfold entD; simp only [List.append_assoc]
      rw [e9]
      exact this
    clear F
    have F := F9
    clear F9
    refine l_op 0 rfl rfl rfl rfl rfl ?_
    refine l_nil (WK.nx (by assumption) ?_)
    refine SeqK.nx (by assumption) ?_
    refine k_lin (fun W K => ?_)
    refine l_op 0 rfl rfl rfl rfl rfl ?_
    refine l_op 0 rfl rfl rfl rfl rfl ?_
    refine l_op 0 rfl rfl rfl rfl rfl ?_
    refine l_sl (es := 2) rfl rfl rfl rfl rfl rfl rfl rfl rfl (F.has 1 rfl) (by omega) ?_
    have hK := (oldK_toK h F 1 rfl (fun t ht => List.mem_of_mem_take ht)).part (lo := i.toNat) (hi := m + 1) (by omega) (Nat.le_refl _)
    have hcut : (List.drop i.toNat ((ts.take (i.toNat + 1)).map toK)).take (m + 1 - i.toNat) = [toK (ts.getD i.toNat default)] := by
      rw [take_oneR (by omega), List.map_append, List.drop_append_of_le_length (by rw [List.length_map, List.length_take]; omega), List.drop_of_length_le (by rw [List.length_map, List.length_take]; omega)]
      rw [List.take_of_length_le (by simp; omega)]
      rfl
    rw [hcut] at hK
    have hst : plcR ts (i.toNat + 1) = plcR ts i.toNat + lenP ([toK (ts.getD i.toNat default)].map plK) := by
      unfold plcR
      rw [sizeK_take (by rw [List.length_map]; omega)]
      have : ((ts.map toK).getD i.toNat default) = toK (ts.getD i.toNat default) := by simp [List.getD, show i.toNat < ts.length by omega]
      rw [this]
      simp only [List.map_cons, List.map_nil, lenP, hdl _ hmem]
      omega
    have hpb2 := plcR_bd (ts := ts) (i.toNat + 1) hs (by omega)
    refine l_callp F rfl rfl (by kernel_rfl) rfl rfl (rlength_call hK (fun t ht => by rw [List.mem_singleton.1 ht]; show (ts.getD i.toNat default).l ≤ _; omega) (by omega)) (fun _ s F _ => ?_)
    (try dsimp only [n_1, n_2, n_3, n_4, List.append_nil, pk, n_5, n_6] at F)
    refine l_a64 rfl rfl rfl (by omega) rfl ?_
    refine l_op 0 rfl rfl rfl rfl rfl ?_
    refine l_nil (WK.nx (by assumption) ?_)
    refine BlkK.nx (by assumption) ?_
    refine SeqK.nx (by assumption) ?_
    refine k_lin (fun W K => ?_)
    refine l_op 0 rfl rfl rfl rfl rfl ?_
    refine l_a64 rfl rfl rfl (by omega) rfl ?_
    refine l_op 0 rfl rfl rfl rfl rfl ?_
    refine l_nil (WK.nx (by assumption) ?_)
    have e1 : (i + 1).toNat = i.toNat + 1 := by omega
    refine K1.nx (i + 1, a6, _, c6, x2, m + 1, c2) (by dsimp only; rw [e1, hst]; exact (by repeat (first | exact trivial | refine And.intro rfl ?_))) ⟨by rw [e1]; exact F, by omega, by omega, ?_, by omega, by rw [e1]; exact hnd3⟩ (by first | omega | (simp only; omega))
    rw [hp5, hp6, hu4]; omega
  replace hc6 := of_decide_eq_false ((irr_eq _).symm.trans hc6)
  have hnd2 : ¬ DupN ts ts.length := by rw [show ts.length = i.toNat by omega]; exact hnd
  have hiD : putR (l : Int) 4 ++ entsD ts i.toNat = idxD ts := by unfold idxD; rw [show i.toNat = ts.length by omega, htl]
  have hmi : m' = (idxD ts).length := by rw [idxD_len hall]; omega
  rw [hiD, List.take_of_length_le (by omega)] at F
  refine k_exit ?_
  refine SeqK.et (by assumption) ?_
  refine LoopK.et (by assumption) ?_
  refine BlkK.et (by assumption) ?_
  refine SeqK.nx (by assumption) ?_
  refine k_seq (fun Q K => ?_)
  refine k_lin (fun W K => ?_)
  refine l_op 0 rfl rfl rfl rfl rfl ?_
  refine l_bld rfl rfl rfl rfl ?_
  refine l_lit F rfl rfl rfl rfl (fun q124 s F => ?_)
  (try dsimp only [n_1, n_2, n_3, n_4, List.append_nil, pk, n_5, n_6] at F)
  refine l_op 0 rfl rfl rfl rfl rfl ?_
  refine l_app (es := 2) (vs := [.string ridxBA, .slice x' m' d']) F 2 rfl rfl rfl rfl rfl rfl rfl (F.has 1 rfl) (eK_one _) rfl (by omega) hD (fun x3 c3 s F => ?_)
  (try dsimp only [n_1, n_2, n_3, n_4, List.append_nil, pk, n_5, n_6] at F)
  refine l_callp F rfl rfl (by kernel_rfl) rfl rfl (rbuild_call (kind := kindBA) (oldK_lay h F 0 2 rfl rfl (bytes_idxD ts) ⟨by omega, by decide⟩) (by omega) (by have := sumK_toK ts; show (m' : Int) + 4 + sumK (ts.map toK) ≤ _; omega) (by decide)) (fun yb s F hyb => ?_)
  (try dsimp only [n_1, n_2, n_3, n_4, List.append_nil, pk, n_5, n_6] at F)
  refine l_op 2 rfl rfl rfl rfl rfl ?_
  refine l_op 2 rfl rfl rfl rfl rfl ?_
  refine l_op 0 rfl rfl rfl rfl rfl ?_
  refine l_op 0 rfl rfl rfl rfl rfl ?_
  refine l_nil (WK.nx (by assumption) ?_)
  refine SeqK.nx (by assumption) ?_
  refine k_ret ?_
  refine FunK.rt (by assumption) rfl ?_
  -- leaf 4
  first
  | (exact lay_bad (F.pick [] (by decide)) (.inl ⟨rfl, rfl, hno⟩))
  | (exact lay_bad (F.pick [] (by decide)) (.inr ⟨hall, .inl ⟨rfl, rfl, by omega⟩⟩))
  | (exact lay_bad (F.pick [] (by decide)) (.inr ⟨hall, .inr ⟨by omega, .inl ⟨rfl, rfl, hdup⟩⟩⟩))
  | (refine ⟨yb, rfl, F.pick [3] (by decide), .inr ⟨hall, .inr ⟨by omega, .inr ⟨hnd2, ?_⟩⟩⟩⟩
     rw [hmi] at hyb
     exact bldP_head hyb)

end Go.Proofs.Ytkmkbpnlccomnaa
