/- The laws of what is laid and read back, and of a container that is cut. No statement of the seat is proved in this text. -/
import Derived.Test.YtkmkbpnlccomnaaBlP
set_option linter.unusedVariables false
set_option linter.unusedSimpArgs false
set_option maxRecDepth 100000
set_option maxHeartbeats 8000000
namespace Go.Proofs.Ytkmkbpnlccomnaa
open GAb Go

theorem bytes_layB {ts : List RS} (h : ∀ t ∈ ts, Bytes t.d) : Bytes (layB ts) := by
  refine bytes_bldR fun t ht => ?_
  rcases List.mem_cons.1 ht with rfl | ht
  · exact bytes_idxD ts
  · obtain ⟨r, hr, rfl⟩ := List.mem_map.1 ht
    exact h r hr
/-- What a Lay tells. -/
theorem lay_told {ts : List RS} {e : Int} {n : Nat} {bs : List Int} (h : LayP ts e n bs) (hd : ∀ t ∈ ts, t.d.length = t.l) (hs : sumR ts ≤ 900000) (hu : ∀ t ∈ ts, U32 t.nm) :
    e ≠ 0 ∧ n = 0 ∧ 0 < ts.length ∨ e = 0 ∧ Good ts ∧ bs = layB ts := by
  have nz : ∀ {t}, t ∈ ts → 0 < ts.length := fun ht => List.length_pos_of_mem ht
  rcases h with ⟨h1, h2, h3⟩ | ⟨h1, ⟨h2, h3, h4⟩ | ⟨h2, ⟨h3, h4, h5⟩ | ⟨h3, h4⟩⟩⟩
  · refine .inl ⟨by omega, h2, ?_⟩
    cases ts with
    | nil => exact absurd (fun t ht => by cases ht) h3
    | cons t ts => exact Nat.succ_pos _
  · exact .inl ⟨by omega, h3, by omega⟩
  · obtain ⟨i, j, _, hj, _⟩ := h5
    exact .inl ⟨by omega, h4, by omega⟩
  · have hk : idR (ltr kindBA) = true := by decide
    have hi : IdsOK (cksR ts) := fun t ht => by
      rcases List.mem_cons.1 ht with rfl | ht
      · show idR (ltr ridxBA) = true
        decide
      · obtain ⟨r, hr, rfl⟩ := List.mem_map.1 ht
        exact (h1 r hr).2
    rcases h4 with ⟨a1, a2, a3⟩ | ⟨a1, a2, ⟨a3, a4, a5⟩ | ⟨a3, ⟨a4, a5, a6⟩ | ⟨a4, a5, a6⟩⟩⟩
    · exact absurd ⟨hk, hi⟩ a3
    · refine .inl ⟨by omega, a4, ?_⟩
      unfold cksR at a5
      rw [List.length_cons, List.length_map] at a5
      omega
    · refine .inl ⟨by omega, a5, ?_⟩
      rcases Nat.eq_zero_or_pos ts.length with q | q
      · have := List.eq_nil_of_length_eq_zero q
        subst this
        exact absurd a6 (by decide)
      · exact q
    · exact .inr ⟨a4, ⟨h1, h2, h3, hd, fun t ht => by have := sumR_mem ht; omega, hu, a5, hs⟩, a6⟩

theorem lay_small {ts : List RS} (g : Good ts) : 0 ≤ sizeK (cksR ts) ∧ sizeK (cksR ts) ≤ 20000 + sumR ts := by
  have h1 := sizeK_bd (cksR ts)
  have h2 : sumK (cksR ts) ≤ (idxD ts).length + 4 + sumR ts := by
    unfold cksR
    have := sumK_toK ts
    simp only [sumK]
    show ((idxD ts).length : Int) + (ridxBA.size : Int) + sumK (ts.map toK) ≤ _
    have : ridxBA.size = 4 := rfl
    omega
  have h3 := idxD_len g.ids
  have h4 := g.len
  have h5 : (cksR ts).length = ts.length + 1 := by unfold cksR; simp
  omega
theorem back6_law {σ : AState} {a : Option Addr} {l c : Nat} {ts : List RS} (h : OldR E0 σ a l c ts) :
    SCall Try.prog E0 6 [.slice a l c] σ (fun v _ => v = .bool true) := by
  have htl := h.len
  refine k_fun Try.func6 rfl (m := 53) rfl fun B hD Q K => ?_
  have F := Facts.nil E0 σ
  refine k_seq (fun Q K => ?_)
  refine k_lin (fun W K => ?_)
  refine l_op 0 rfl rfl rfl rfl rfl ?_
  refine l_nil (WK.nx (by assumption) ?_)
  refine SeqK.nx (by assumption) ?_
  refine k_seq (fun Q K => ?_)
  refine k_seq (fun Q K => ?_)
  refine k_lin (fun W K => ?_)
  refine l_op 0 rfl rfl rfl rfl rfl ?_
  refine l_callp F rfl rfl (by kernel_rfl) rfl rfl (huge6_call h (by omega)) (fun hu s F hhu => ?_)
  w_nf
  refine l_nil (WK.nx (by assumption) ?_)
  refine SeqK.nx (by assumption) ?_
  refine l_cond rfl rfl (fun hc1 => ?_) (fun hc1 => ?_)
  · try simp only [irr_eq, beq_iff_eq, bne_iff_ne, beq_eq_false_iff_ne, bne_eq_false_iff_eq, ne_eq, decide_eq_true_eq, decide_eq_false_iff_not, Bool.not_eq_true', Bool.not_eq_false'] at hc1
    refine k_seq (fun Q K => ?_)
    refine k_lin (fun W K => ?_)
    refine l_callp F rfl rfl (by kernel_rfl) rfl rfl live6_call (fun _ s F _ => ?_)
    w_nf
    refine l_op 0 rfl rfl rfl rfl rfl ?_
    refine l_nil (WK.nx (by assumption) ?_)
    refine SeqK.nx (by assumption) ?_
    refine k_ret ?_
    refine SeqK.rt (by assumption) ?_
    refine FunK.rt (by assumption) rfl ?_
    -- leaf 1
    first
    | rfl
    | (simp_all; done)
    | (trace_state; sorry)
  try simp only [irr_eq, beq_iff_eq, bne_iff_ne, beq_eq_false_iff_ne, bne_eq_false_iff_eq, ne_eq, decide_eq_true_eq, decide_eq_false_iff_not, Bool.not_eq_true', Bool.not_eq_false'] at hc1
  obtain ⟨hb1, hb2⟩ := hhu hc1
  refine k_skip ?_
  refine SeqK.nx (by assumption) ?_
  refine k_seq (fun Q K => ?_)
  refine k_lin (fun W K => ?_)
  refine l_op 0 rfl rfl rfl rfl rfl ?_
  refine l_callp F rfl rfl (by kernel_rfl) rfl rfl (lay_call (h.to F) (by omega) (by omega)) (fun y s F hy => ?_)
  w_nf
  obtain ⟨e, x, n, d, bs⟩ := y
  dsimp only at F hy ⊢
  have htold := lay_told hy (fun t ht => (h.dat t ht).len8) (by omega) h.nmb
  w_nf
  refine l_op 0 rfl rfl rfl rfl rfl ?_
  refine l_op 2 rfl rfl rfl rfl rfl ?_
  refine l_op 2 rfl rfl rfl rfl rfl ?_
  refine l_op 0 rfl rfl rfl rfl rfl ?_
  refine l_op 0 rfl rfl rfl rfl rfl ?_
  refine l_nil (WK.nx (by assumption) ?_)
  refine SeqK.nx (by assumption) ?_
  refine k_seq (fun Q K => ?_)
  refine k_seq (fun Q K => ?_)
  refine k_lin (fun W K => ?_)
  refine l_op 0 rfl rfl rfl rfl rfl ?_
  refine l_callv rfl rfl (by kernel_rfl) rfl rfl num6_call ?_
  w_nf
  refine l_cmp rfl rfl rfl rfl ?_
  refine l_nil (WK.nx (by assumption) ?_)
  refine SeqK.nx (by assumption) ?_
  refine l_cond rfl rfl (fun hc2 => ?_) (fun hc2 => ?_)
  · first | replace hc2 := bne_iff_ne.1 ((irr_eq _).symm.trans hc2) | simp only [irr_eq, bne_iff_ne, bne_eq_false_iff_eq, ne_eq, decide_eq_true_eq, decide_eq_false_iff_not, Bool.not_eq_true', Bool.not_eq_false'] at hc2
    obtain ⟨_, rfl, hpos⟩ : e ≠ 0 ∧ n = 0 ∧ 0 < ts.length := by
      rcases htold with q | ⟨q, _⟩
      · exact q
      · exact absurd q hc2
    refine k_seq (fun Q K => ?_)
    refine k_lin (fun W K => ?_)
    refine l_op 0 rfl rfl rfl rfl rfl ?_
    first | refine l_op 2 rfl rfl rfl rfl rfl ?_ | refine l_ln rfl rfl rfl rfl ?_
    refine l_cmp rfl rfl rfl rfl ?_
    refine l_op 0 rfl rfl rfl rfl rfl ?_
    refine l_guard rfl rfl rfl (fun hc3 => ?_) (fun hc3 => ?_)
    · first | replace hc3 := eq_of_beq ((irr_eq _).symm.trans hc3) | simp only [irr_eq, beq_iff_eq, beq_eq_false_iff_ne, ne_eq, decide_eq_true_eq, decide_eq_false_iff_not] at hc3
      refine l_op 0 rfl rfl rfl rfl rfl ?_
      first | refine l_op 2 rfl rfl rfl rfl rfl ?_ | refine l_ln rfl rfl rfl rfl ?_
      refine l_cmp rfl rfl rfl rfl ?_
      refine l_op 2 rfl rfl rfl rfl rfl ?_
      refine l_op 0 rfl rfl rfl rfl rfl ?_
      refine l_guard rfl rfl rfl (fun hc4 => ?_) (fun hc4 => ?_)
      · replace hc4 := of_decide_eq_true ((irr_eq _).symm.trans hc4)
        refine l_callp F rfl rfl (by kernel_rfl) rfl rfl live6_call (fun _ s F _ => ?_)
        w_nf
        refine l_op 2 rfl rfl rfl rfl rfl ?_
        refine l_op 0 rfl rfl rfl rfl rfl ?_
        refine l_nil (WK.nx (by assumption) ?_)
        refine SeqK.nx (by assumption) ?_
        refine k_ret ?_
        refine SeqK.rt (by assumption) ?_
        refine FunK.rt (by assumption) rfl ?_
        -- leaf 2
        first
        | rfl
        | (simp_all; done)
        | (trace_state; sorry)
      replace hc4 := of_decide_eq_false ((irr_eq _).symm.trans hc4)
      exfalso; omega
    first | replace hc3 := ne_of_beq_false ((irr_eq _).symm.trans hc3) | simp only [irr_eq, beq_iff_eq, beq_eq_false_iff_ne, ne_eq, decide_eq_true_eq, decide_eq_false_iff_not] at hc3
    exact absurd rfl hc3
  first | replace hc2 := bne_eq_false_iff_eq.1 ((irr_eq _).symm.trans hc2) | simp only [irr_eq, bne_iff_ne, bne_eq_false_iff_eq, ne_eq, decide_eq_true_eq, decide_eq_false_iff_not, Bool.not_eq_true', Bool.not_eq_false'] at hc2
  obtain ⟨g, hbs⟩ : Good ts ∧ bs = layB ts := by
    rcases htold with ⟨q, _⟩ | ⟨_, q⟩
    · exact absurd (by omega) q
    · exact q
  have hn := F.len8 0 rfl
  have hL := lay_len g
  have hz := g.sz
  rw [← hbs] at hL
  have hcap : n ≤ d := by obtain ⟨_, hR, _⟩ := F.has 0 rfl; exact hR.size.2
  have h0 := lay_small g
  have hbk := lay_read g
  rw [← hbs] at hbk
  refine k_skip ?_
  refine SeqK.nx (by assumption) ?_
  refine k_seq (fun Q K => ?_)
  refine k_lin (fun W K => ?_)
  refine l_op 0 rfl rfl rfl rfl rfl ?_
  refine l_callp F rfl rfl (by kernel_rfl) rfl rfl (read_call (bs := bs) (Old.pure (F.has 0 rfl)) (by rw [hbs]; exact bytes_layB h.byt) (by omega) (.inr (by omega))) (fun y s F hy2 => ?_)
  w_nf
  obtain ⟨x1, n1, d1, rs⟩ := y
  obtain ⟨w1, w2⟩ := hy2
  dsimp only [reaV, reaF] at F w1 w2 ⊢
  rw [hbk] at w1 ⊢
  dsimp only at w1 ⊢
  w_nf
  refine l_op 0 rfl rfl rfl rfl rfl ?_
  refine l_op 2 rfl rfl rfl rfl rfl ?_
  refine l_op 2 rfl rfl rfl rfl rfl ?_
  refine l_op 2 rfl rfl rfl rfl rfl ?_
  refine l_op 0 rfl rfl rfl rfl rfl ?_
  refine l_op 0 rfl rfl rfl rfl rfl ?_
  refine l_op 0 rfl rfl rfl rfl rfl ?_
  refine l_nil (WK.nx (by assumption) ?_)
  refine SeqK.nx (by assumption) ?_
  refine k_seq (fun Q K => ?_)
  refine k_lin (fun W K => ?_)
  refine l_op 0 rfl rfl rfl rfl rfl ?_
  refine l_op 0 rfl rfl rfl rfl rfl ?_
  refine l_callp F rfl rfl (by kernel_rfl) rfl rfl (same6_call (h.to F) (Facts.oldR F 1 2 rfl rfl w2) (by omega)) (fun z s F hz => ?_)
  obtain rfl : z = true := hz.2 w1.symm
  w_nf
  refine l_op 0 rfl rfl rfl rfl rfl ?_
  refine l_guard rfl rfl rfl (fun hc5 => ?_) (fun hc5 => ?_)
  · try simp only [irr_eq, beq_iff_eq, bne_iff_ne, beq_eq_false_iff_ne, bne_eq_false_iff_eq, ne_eq, decide_eq_true_eq, decide_eq_false_iff_not, Bool.not_eq_true', Bool.not_eq_false'] at hc5
    refine l_op 0 rfl rfl rfl rfl rfl ?_
    refine l_callv rfl rfl (by kernel_rfl) rfl rfl num6_call ?_
    w_nf
    refine l_cmp rfl rfl rfl rfl ?_
    refine l_op 2 rfl rfl rfl rfl rfl ?_
    refine l_op 0 rfl rfl rfl rfl rfl ?_
    refine l_guard rfl rfl rfl (fun hc6 => ?_) (fun hc6 => ?_)
    · first | replace hc6 := eq_of_beq ((irr_eq _).symm.trans hc6) | simp only [irr_eq, beq_iff_eq, beq_eq_false_iff_ne, ne_eq, decide_eq_true_eq, decide_eq_false_iff_not] at hc6
      refine l_op 0 rfl rfl rfl rfl rfl ?_
      refine l_op 0 rfl rfl rfl rfl rfl ?_
      first | refine l_op 2 rfl rfl rfl rfl rfl ?_ | refine l_ln rfl rfl rfl rfl ?_
      refine l_cmp rfl rfl rfl rfl ?_
      refine l_op 2 rfl rfl rfl rfl rfl ?_
      refine l_op 0 rfl rfl rfl rfl rfl ?_
      refine l_guard rfl rfl rfl (fun hc7 => ?_) (fun hc7 => ?_)
      · first | replace hc7 := eq_of_beq ((irr_eq _).symm.trans hc7) | simp only [irr_eq, beq_iff_eq, beq_eq_false_iff_ne, ne_eq, decide_eq_true_eq, decide_eq_false_iff_not] at hc7
        refine l_callp F rfl rfl (by kernel_rfl) rfl rfl live6_call (fun _ s F _ => ?_)
        w_nf
        refine l_op 2 rfl rfl rfl rfl rfl ?_
        refine l_op 0 rfl rfl rfl rfl rfl ?_
        refine l_nil (WK.nx (by assumption) ?_)
        refine SeqK.nx (by assumption) ?_
        refine k_ret ?_
        refine FunK.rt (by assumption) rfl ?_
        -- leaf 3
        first
        | rfl
        | (simp_all; done)
        | (trace_state; sorry)
      first | replace hc7 := ne_of_beq_false ((irr_eq _).symm.trans hc7) | simp only [irr_eq, beq_iff_eq, beq_eq_false_iff_ne, ne_eq, decide_eq_true_eq, decide_eq_false_iff_not] at hc7
      refine l_s rfl rfl ?_
      refine l_op 2 rfl rfl rfl rfl rfl ?_
      refine l_op 0 rfl rfl rfl rfl rfl ?_
      refine l_nil (WK.nx (by assumption) ?_)
      refine SeqK.nx (by assumption) ?_
      refine k_ret ?_
      refine FunK.rt (by assumption) rfl ?_
      -- leaf 4
      first
      | rfl
      | (simp_all; done)
      | (trace_state; sorry)
    first | replace hc6 := ne_of_beq_false ((irr_eq _).symm.trans hc6) | simp only [irr_eq, beq_iff_eq, beq_eq_false_iff_ne, ne_eq, decide_eq_true_eq, decide_eq_false_iff_not] at hc6
    refine l_s rfl rfl ?_
    refine l_s rfl rfl ?_
    refine l_s rfl rfl ?_
    refine l_s rfl rfl ?_
    refine l_op 2 rfl rfl rfl rfl rfl ?_
    refine l_op 0 rfl rfl rfl rfl rfl ?_
    refine l_s rfl rfl ?_
    refine l_op 2 rfl rfl rfl rfl rfl ?_
    refine l_op 0 rfl rfl rfl rfl rfl ?_
    refine l_nil (WK.nx (by assumption) ?_)
    refine SeqK.nx (by assumption) ?_
    refine k_ret ?_
    refine FunK.rt (by assumption) rfl ?_
    -- leaf 5
    first
    | rfl
    | (simp_all; done)
    | (trace_state; sorry)
  try simp only [irr_eq, beq_iff_eq, bne_iff_ne, beq_eq_false_iff_ne, bne_eq_false_iff_eq, ne_eq, decide_eq_true_eq, decide_eq_false_iff_not, Bool.not_eq_true', Bool.not_eq_false'] at hc5
  refine l_s rfl rfl ?_
  refine l_s rfl rfl ?_
  refine l_s rfl rfl ?_
  refine l_op 2 rfl rfl rfl rfl rfl ?_
  refine l_op 0 rfl rfl rfl rfl rfl ?_
  refine l_s rfl rfl ?_
  refine l_s rfl rfl ?_
  refine l_s rfl rfl ?_
  refine l_s rfl rfl ?_
  refine l_op 2 rfl rfl rfl rfl rfl ?_
  refine l_op 0 rfl rfl rfl rfl rfl ?_
  refine l_s rfl rfl ?_
  refine l_op 2 rfl rfl rfl rfl rfl ?_
  refine l_op 0 rfl rfl rfl rfl rfl ?_
  refine l_nil (WK.nx (by assumption) ?_)
  refine SeqK.nx (by assumption) ?_
  refine k_ret ?_
  refine FunK.rt (by assumption) rfl ?_
  -- leaf 6
  first
  | rfl
  | (simp_all; done)
  | (trace_state; sorry)

theorem cuts6_law {σ : AState} {a : Option Addr} {l c : Nat} {ts : List RS} {k : Int} (h : OldR E0 σ a l c ts) (hk : -9223372036854775808 ≤ k ∧ k ≤ 9223372036854775807) :
    SCall Try.prog E0 8 [.slice a l c, .int .i64 k] σ (fun v _ => v = .bool true) := by
  have htl := h.len
  refine k_fun Try.func8 rfl (m := 88) rfl fun B hD Q K => ?_
  have F := Facts.nil E0 σ
  refine k_seq (fun Q K => ?_)
  refine k_lin (fun W K => ?_)
  refine l_op 0 rfl rfl rfl rfl rfl ?_
  refine l_nil (WK.nx (by assumption) ?_)
  refine SeqK.nx (by assumption) ?_
  refine k_seq (fun Q K => ?_)
  refine k_seq (fun Q K => ?_)
  refine k_lin (fun W K => ?_)
  refine l_op 0 rfl rfl rfl rfl rfl ?_
  refine l_callp F rfl rfl (by kernel_rfl) rfl rfl (huge6_call h (by omega)) (fun hu s F hhu => ?_)
  w_nf
  refine l_nil (WK.nx (by assumption) ?_)
  refine SeqK.nx (by assumption) ?_
  refine l_cond rfl rfl (fun hc1 => ?_) (fun hc1 => ?_)
  · try simp only [irr_eq, beq_iff_eq, bne_iff_ne, beq_eq_false_iff_ne, bne_eq_false_iff_eq, ne_eq, decide_eq_true_eq, decide_eq_false_iff_not, Bool.not_eq_true', Bool.not_eq_false'] at hc1
    refine k_seq (fun Q K => ?_)
    refine k_lin (fun W K => ?_)
    refine l_callp F rfl rfl (by kernel_rfl) rfl rfl live6_call (fun _ s F _ => ?_)
    w_nf
    refine l_op 0 rfl rfl rfl rfl rfl ?_
    refine l_nil (WK.nx (by assumption) ?_)
    refine SeqK.nx (by assumption) ?_
    refine k_ret ?_
    refine SeqK.rt (by assumption) ?_
    refine FunK.rt (by assumption) rfl ?_
    -- leaf 1
    first
    | rfl
    | (simp_all; done)
    | (trace_state; sorry)
  try simp only [irr_eq, beq_iff_eq, bne_iff_ne, beq_eq_false_iff_ne, bne_eq_false_iff_eq, ne_eq, decide_eq_true_eq, decide_eq_false_iff_not, Bool.not_eq_true', Bool.not_eq_false'] at hc1
  obtain ⟨hb1, hb2⟩ := hhu hc1
  refine k_skip ?_
  refine SeqK.nx (by assumption) ?_
  refine k_seq (fun Q K => ?_)
  refine k_lin (fun W K => ?_)
  refine l_op 0 rfl rfl rfl rfl rfl ?_
  refine l_callp F rfl rfl (by kernel_rfl) rfl rfl (lay_call (h.to F) (by omega) (by omega)) (fun y s F hy => ?_)
  w_nf
  obtain ⟨e, x, n, d, bs⟩ := y
  dsimp only at F hy ⊢
  have htold := lay_told hy (fun t ht => (h.dat t ht).len8) (by omega) h.nmb
  have hn := F.len8 0 rfl
  w_nf
  refine l_op 0 rfl rfl rfl rfl rfl ?_
  refine l_op 2 rfl rfl rfl rfl rfl ?_
  refine l_op 2 rfl rfl rfl rfl rfl ?_
  refine l_op 0 rfl rfl rfl rfl rfl ?_
  refine l_op 0 rfl rfl rfl rfl rfl ?_
  refine l_nil (WK.nx (by assumption) ?_)
  refine SeqK.nx (by assumption) ?_
  refine k_seq (fun Q K => ?_)
  refine k_seq (fun Q K => ?_)
  refine k_lin (fun W K => ?_)
  refine l_op 0 rfl rfl rfl rfl rfl ?_
  refine l_callv rfl rfl (by kernel_rfl) rfl rfl num6_call ?_
  w_nf
  refine l_cmp rfl rfl rfl rfl ?_
  refine l_op 0 rfl rfl rfl rfl rfl ?_
  refine l_guard rfl rfl rfl (fun hc2 => ?_) (fun hc2 => ?_)
  · first | replace hc2 := bne_iff_ne.1 ((irr_eq _).symm.trans hc2) | simp only [irr_eq, bne_iff_ne, bne_eq_false_iff_eq, ne_eq, decide_eq_true_eq, decide_eq_false_iff_not, Bool.not_eq_true', Bool.not_eq_false'] at hc2
    refine l_s rfl rfl ?_
    refine l_s rfl rfl ?_
    refine l_op 2 rfl rfl rfl rfl rfl ?_
    refine l_op 0 rfl rfl rfl rfl rfl ?_
    refine l_s rfl rfl ?_
    refine l_s rfl rfl ?_
    refine l_s rfl rfl ?_
    refine l_s rfl rfl ?_
    refine l_op 2 rfl rfl rfl rfl rfl ?_
    refine l_nil (WK.nx (by assumption) ?_)
    refine SeqK.nx (by assumption) ?_
    first | refine e_cond_t rfl rfl rfl ?_ | refine e_cond_t rfl rfl (by rw [irr_eq]; first | exact beq_iff_eq.2 (by assumption) | exact decide_eq_true (by assumption) | exact bne_iff_ne.2 (by assumption)) ?_
    refine k_seq (fun Q K => ?_)
    refine k_lin (fun W K => ?_)
    refine l_callp F rfl rfl (by kernel_rfl) rfl rfl live6_call (fun _ s F _ => ?_)
    w_nf
    refine l_op 0 rfl rfl rfl rfl rfl ?_
    refine l_nil (WK.nx (by assumption) ?_)
    refine SeqK.nx (by assumption) ?_
    refine k_ret ?_
    refine SeqK.rt (by assumption) ?_
    refine FunK.rt (by assumption) rfl ?_
    -- leaf 2
    first
    | rfl
    | (simp_all; done)
    | (trace_state; sorry)
  first | replace hc2 := bne_eq_false_iff_eq.1 ((irr_eq _).symm.trans hc2) | simp only [irr_eq, bne_iff_ne, bne_eq_false_iff_eq, ne_eq, decide_eq_true_eq, decide_eq_false_iff_not, Bool.not_eq_true', Bool.not_eq_false'] at hc2
  refine l_op 0 rfl rfl rfl rfl rfl ?_
  refine l_cmp rfl rfl rfl rfl ?_
  refine l_op 2 rfl rfl rfl rfl rfl ?_
  refine l_op 0 rfl rfl rfl rfl rfl ?_
  refine l_guard rfl rfl rfl (fun hc3 => ?_) (fun hc3 => ?_)
  · replace hc3 := of_decide_eq_true ((irr_eq _).symm.trans hc3)
    refine l_s rfl rfl ?_
    refine l_s rfl rfl ?_
    refine l_s rfl rfl ?_
    refine l_s rfl rfl ?_
    refine l_op 2 rfl rfl rfl rfl rfl ?_
    refine l_nil (WK.nx (by assumption) ?_)
    refine SeqK.nx (by assumption) ?_
    first | refine e_cond_t rfl rfl rfl ?_ | refine e_cond_t rfl rfl (by rw [irr_eq]; first | exact beq_iff_eq.2 (by assumption) | exact decide_eq_true (by assumption) | exact bne_iff_ne.2 (by assumption)) ?_
    refine k_seq (fun Q K => ?_)
    refine k_lin (fun W K => ?_)
    refine l_callp F rfl rfl (by kernel_rfl) rfl rfl live6_call (fun _ s F _ => ?_)
    w_nf
    refine l_op 0 rfl rfl rfl rfl rfl ?_
    refine l_nil (WK.nx (by assumption) ?_)
    refine SeqK.nx (by assumption) ?_
    refine k_ret ?_
    refine SeqK.rt (by assumption) ?_
    refine FunK.rt (by assumption) rfl ?_
    -- leaf 3
    first
    | rfl
    | (simp_all; done)
    | (trace_state; sorry)
  replace hc3 := of_decide_eq_false ((irr_eq _).symm.trans hc3)
  refine l_op 0 rfl rfl rfl rfl rfl ?_
  refine l_op 0 rfl rfl rfl rfl rfl ?_
  first | refine l_op 2 rfl rfl rfl rfl rfl ?_ | refine l_ln rfl rfl rfl rfl ?_
  refine l_cmp rfl rfl rfl rfl ?_
  refine l_op 2 rfl rfl rfl rfl rfl ?_
  refine l_nil (WK.nx (by assumption) ?_)
  refine SeqK.nx (by assumption) ?_
  refine l_cond rfl rfl (fun hc4 => ?_) (fun hc4 => ?_)
  · replace hc4 := of_decide_eq_true ((irr_eq _).symm.trans hc4)
    refine k_seq (fun Q K => ?_)
    refine k_lin (fun W K => ?_)
    refine l_callp F rfl rfl (by kernel_rfl) rfl rfl live6_call (fun _ s F _ => ?_)
    w_nf
    refine l_op 0 rfl rfl rfl rfl rfl ?_
    refine l_nil (WK.nx (by assumption) ?_)
    refine SeqK.nx (by assumption) ?_
    refine k_ret ?_
    refine SeqK.rt (by assumption) ?_
    refine FunK.rt (by assumption) rfl ?_
    -- leaf 4
    first
    | rfl
    | (simp_all; done)
    | (trace_state; sorry)
  replace hc4 := of_decide_eq_false ((irr_eq _).symm.trans hc4)
  obtain ⟨g, hbs⟩ : Good ts ∧ bs = layB ts := by
    rcases htold with ⟨q, _⟩ | ⟨_, q⟩
    · exact absurd (by omega) q
    · exact q
  have hL := lay_len g
  have h0 := lay_small g
  have hcap : n ≤ d := by obtain ⟨_, hR, _⟩ := F.has 0 rfl; exact hR.size.2
  have hB := bytes_layB h.byt
  have hkl : k.toNat < (layB ts).length := by rw [← hbs]; omega
  obtain ⟨cr1, cr2⟩ := cut_read g hkl
  obtain ⟨cg1, cg2, cg3⟩ := cut_game g hkl
  rw [← hbs] at cr1 cr2 cg1 cg2 cg3 hL hB
  refine k_skip ?_
  refine SeqK.nx (by assumption) ?_
  refine k_seq (fun Q K => ?_)
  refine k_lin (fun W K => ?_)
  refine l_op 0 rfl rfl rfl rfl rfl ?_
  refine l_op 0 rfl rfl rfl rfl rfl ?_
  first | refine l_slh rfl rfl rfl rfl rfl ⟨rfl, _, _, rfl, by omega, rfl⟩ (F.old (by assumption)) (by omega) ?_ | refine l_slh rfl rfl rfl rfl rfl ⟨rfl, _, _, rfl, by omega, rfl⟩ (F.has 0 rfl) (by omega) ?_ | refine l_slh rfl rfl rfl rfl rfl ⟨rfl, _, _, rfl, by omega, rfl⟩ (F.has 1 rfl) (by omega) ?_ | refine l_slh rfl rfl rfl rfl rfl ⟨rfl, _, _, rfl, by omega, rfl⟩ (F.has 2 rfl) (by omega) ?_ | refine l_slh rfl rfl rfl rfl rfl ⟨rfl, _, _, rfl, by omega, rfl⟩ (F.has 3 rfl) (by omega) ?_
  refine l_callp F rfl rfl (by kernel_rfl) rfl rfl (read_call (bs := bs.take k.toNat) (Old.pure ((F.has 0 rfl).upto8 (by omega))) (hB.take _) (by omega) (.inr (by omega))) (fun y s F hy2 => ?_)
  w_nf
  obtain ⟨x1, n1, d1, rs⟩ := y
  obtain ⟨w1, w2⟩ := hy2
  dsimp only [reaV, reaF] at F w1 w2 ⊢
  rw [cr2] at w1
  have hrl : rs.length = n1 := (F.has 2 rfl).len eR_len (by decide)
  have hr0 : n1 = 0 := by have := congrArg List.length w1; rw [List.length_map] at this; rw [← hrl, this]; rfl
  w_nf
  refine l_op 0 rfl rfl rfl rfl rfl ?_
  refine l_op 2 rfl rfl rfl rfl rfl ?_
  refine l_op 2 rfl rfl rfl rfl rfl ?_
  refine l_op 2 rfl rfl rfl rfl rfl ?_
  refine l_op 0 rfl rfl rfl rfl rfl ?_
  refine l_op 0 rfl rfl rfl rfl rfl ?_
  refine l_op 0 rfl rfl rfl rfl rfl ?_
  refine l_nil (WK.nx (by assumption) ?_)
  refine SeqK.nx (by assumption) ?_
  refine k_seq (fun Q K => ?_)
  refine k_lin (fun W K => ?_)
  refine l_op 0 rfl rfl rfl rfl rfl ?_
  refine l_op 0 rfl rfl rfl rfl rfl ?_
  first | refine l_slh rfl rfl rfl rfl rfl ⟨rfl, _, _, rfl, by omega, rfl⟩ (F.old (by assumption)) (by omega) ?_ | refine l_slh rfl rfl rfl rfl rfl ⟨rfl, _, _, rfl, by omega, rfl⟩ (F.has 0 rfl) (by omega) ?_ | refine l_slh rfl rfl rfl rfl rfl ⟨rfl, _, _, rfl, by omega, rfl⟩ (F.has 1 rfl) (by omega) ?_ | refine l_slh rfl rfl rfl rfl rfl ⟨rfl, _, _, rfl, by omega, rfl⟩ (F.has 2 rfl) (by omega) ?_ | refine l_slh rfl rfl rfl rfl rfl ⟨rfl, _, _, rfl, by omega, rfl⟩ (F.has 3 rfl) (by omega) ?_
  refine l_callp F rfl rfl (by kernel_rfl) rfl rfl (game_call (bs := bs.take k.toNat) (Old.pure ((F.has 0 rfl).upto8 (by omega))) (hB.take _) (by omega) (.inr (by omega))) (fun y s F hy3 => ?_)
  w_nf
  obtain ⟨x2, n2, d2, gs⟩ := y
  dsimp only [gamV, gamF, GamP] at F hy3 ⊢
  obtain ⟨v1, v2⟩ := hy3
  rw [cg1] at v1
  have hg0 : n2 = 0 := by have := F.len8 3 rfl; rw [v1] at this; exact this.symm
  w_nf
  refine l_op 0 rfl rfl rfl rfl rfl ?_
  refine l_op 2 rfl rfl rfl rfl rfl ?_
  refine l_op 2 rfl rfl rfl rfl rfl ?_
  refine l_op 2 rfl rfl rfl rfl rfl ?_
  refine l_op 0 rfl rfl rfl rfl rfl ?_
  refine l_op 0 rfl rfl rfl rfl rfl ?_
  refine l_op 0 rfl rfl rfl rfl rfl ?_
  refine l_nil (WK.nx (by assumption) ?_)
  refine SeqK.nx (by assumption) ?_
  refine k_seq (fun Q K => ?_)
  refine k_lin (fun W K => ?_)
  refine l_op 0 rfl rfl rfl rfl rfl ?_
  first | refine l_op 2 rfl rfl rfl rfl rfl ?_ | refine l_ln rfl rfl rfl rfl ?_
  refine l_op 0 rfl rfl rfl rfl rfl ?_
  first | refine l_op 2 rfl rfl rfl rfl rfl ?_ | refine l_ln rfl rfl rfl rfl ?_
  w_ar
  refine l_cmp rfl rfl rfl rfl ?_
  refine l_op 0 rfl rfl rfl rfl rfl ?_
  refine l_guard rfl rfl rfl (fun hc5 => ?_) (fun hc5 => ?_)
  · first | replace hc5 := eq_of_beq ((irr_eq _).symm.trans hc5) | simp only [irr_eq, beq_iff_eq, beq_eq_false_iff_ne, ne_eq, decide_eq_true_eq, decide_eq_false_iff_not] at hc5
    refine l_op 0 rfl rfl rfl rfl rfl ?_
    refine l_callv rfl rfl (by kernel_rfl) rfl rfl num6_call ?_
    w_nf
    refine l_cmp rfl rfl rfl rfl ?_
    refine l_op 2 rfl rfl rfl rfl rfl ?_
    refine l_op 0 rfl rfl rfl rfl rfl ?_
    refine l_guard rfl rfl rfl (fun hc6 => ?_) (fun hc6 => ?_)
    · first | replace hc6 := bne_iff_ne.1 ((irr_eq _).symm.trans hc6) | simp only [irr_eq, bne_iff_ne, bne_eq_false_iff_eq, ne_eq, decide_eq_true_eq, decide_eq_false_iff_not, Bool.not_eq_true', Bool.not_eq_false'] at hc6
      refine l_op 0 rfl rfl rfl rfl rfl ?_
      refine l_callv rfl rfl (by kernel_rfl) rfl rfl num6_call ?_
      w_nf
      refine l_cmp rfl rfl rfl rfl ?_
      refine l_op 2 rfl rfl rfl rfl rfl ?_
      refine l_op 0 rfl rfl rfl rfl rfl ?_
      refine l_guard rfl rfl rfl (fun hc7 => ?_) (fun hc7 => ?_)
      · first | replace hc7 := bne_iff_ne.1 ((irr_eq _).symm.trans hc7) | simp only [irr_eq, bne_iff_ne, bne_eq_false_iff_eq, ne_eq, decide_eq_true_eq, decide_eq_false_iff_not, Bool.not_eq_true', Bool.not_eq_false'] at hc7
        refine l_op 0 rfl rfl rfl rfl rfl ?_
        refine l_cmp rfl rfl rfl rfl ?_
        refine l_op 0 rfl rfl rfl rfl rfl ?_
        refine l_guard rfl rfl rfl (fun hc8 => ?_) (fun hc8 => ?_)
        · replace hc8 := of_decide_eq_true ((irr_eq _).symm.trans hc8)
          refine l_op 0 rfl rfl rfl rfl rfl ?_
          refine l_callv rfl rfl (by kernel_rfl) rfl rfl num6_call ?_
          w_nf
          refine l_cmp rfl rfl rfl rfl ?_
          refine l_op 2 rfl rfl rfl rfl rfl ?_
          refine l_op 0 rfl rfl rfl rfl rfl ?_
          refine l_guard rfl rfl rfl (fun hc9 => ?_) (fun hc9 => ?_)
          · first | replace hc9 := eq_of_beq ((irr_eq _).symm.trans hc9) | simp only [irr_eq, beq_iff_eq, beq_eq_false_iff_ne, ne_eq, decide_eq_true_eq, decide_eq_false_iff_not] at hc9
            refine l_s rfl rfl ?_
            refine l_s rfl rfl ?_
            refine l_s rfl rfl ?_
            refine l_s rfl rfl ?_
            refine l_s rfl rfl ?_
            refine l_s rfl rfl ?_
            refine l_s rfl rfl ?_
            refine l_op 2 rfl rfl rfl rfl rfl ?_
            refine l_op 2 rfl rfl rfl rfl rfl ?_
            refine l_op 0 rfl rfl rfl rfl rfl ?_
            refine l_callp F rfl rfl (by kernel_rfl) rfl rfl live6_call (fun _ s F _ => ?_)
            w_nf
            refine l_op 2 rfl rfl rfl rfl rfl ?_
            refine l_op 0 rfl rfl rfl rfl rfl ?_
            refine l_nil (WK.nx (by assumption) ?_)
            refine SeqK.nx (by assumption) ?_
            refine k_ret ?_
            refine FunK.rt (by assumption) rfl ?_
            -- leaf 5
            first
            | rfl
            | (simp_all; done)
            | (trace_state; sorry)
          first | replace hc9 := ne_of_beq_false ((irr_eq _).symm.trans hc9) | simp only [irr_eq, beq_iff_eq, beq_eq_false_iff_ne, ne_eq, decide_eq_true_eq, decide_eq_false_iff_not] at hc9
          refine l_op 0 rfl rfl rfl rfl rfl ?_
          refine l_cmp rfl rfl rfl rfl ?_
          refine l_op 0 rfl rfl rfl rfl rfl ?_
          refine l_guard rfl rfl rfl (fun hc10 => ?_) (fun hc10 => ?_)
          · replace hc10 := of_decide_eq_true ((irr_eq _).symm.trans hc10)
            refine l_op 0 rfl rfl rfl rfl rfl ?_
            refine l_op 0 rfl rfl rfl rfl rfl ?_
            refine l_cmp rfl rfl rfl rfl ?_
            refine l_op 2 rfl rfl rfl rfl rfl ?_
            refine l_op 2 rfl rfl rfl rfl rfl ?_
            refine l_op 2 rfl rfl rfl rfl rfl ?_
            refine l_op 0 rfl rfl rfl rfl rfl ?_
            refine l_guard rfl rfl rfl (fun hc11 => ?_) (fun hc11 => ?_)
            · first | replace hc11 := eq_of_beq ((irr_eq _).symm.trans hc11) | simp only [irr_eq, beq_iff_eq, beq_eq_false_iff_ne, ne_eq, decide_eq_true_eq, decide_eq_false_iff_not] at hc11
              refine l_callp F rfl rfl (by kernel_rfl) rfl rfl live6_call (fun _ s F _ => ?_)
              w_nf
              refine l_op 2 rfl rfl rfl rfl rfl ?_
              refine l_op 0 rfl rfl rfl rfl rfl ?_
              refine l_nil (WK.nx (by assumption) ?_)
              refine SeqK.nx (by assumption) ?_
              refine k_ret ?_
              refine FunK.rt (by assumption) rfl ?_
              -- leaf 6
              first
              | rfl
              | (simp_all; done)
              | (trace_state; sorry)
            first | replace hc11 := ne_of_beq_false ((irr_eq _).symm.trans hc11) | simp only [irr_eq, beq_iff_eq, beq_eq_false_iff_ne, ne_eq, decide_eq_true_eq, decide_eq_false_iff_not] at hc11
            refine l_s rfl rfl ?_
            refine l_op 2 rfl rfl rfl rfl rfl ?_
            refine l_op 0 rfl rfl rfl rfl rfl ?_
            refine l_nil (WK.nx (by assumption) ?_)
            refine SeqK.nx (by assumption) ?_
            refine k_ret ?_
            refine FunK.rt (by assumption) rfl ?_
            -- leaf 7
            first
            | rfl
            | (simp_all; done)
            | (trace_state; sorry)
          replace hc10 := of_decide_eq_false ((irr_eq _).symm.trans hc10)
          refine l_s rfl rfl ?_
          refine l_s rfl rfl ?_
          refine l_s rfl rfl ?_
          refine l_op 2 rfl rfl rfl rfl rfl ?_
          refine l_op 2 rfl rfl rfl rfl rfl ?_
          refine l_op 2 rfl rfl rfl rfl rfl ?_
          refine l_op 0 rfl rfl rfl rfl rfl ?_
          refine l_s rfl rfl ?_
          refine l_op 2 rfl rfl rfl rfl rfl ?_
          refine l_op 0 rfl rfl rfl rfl rfl ?_
          refine l_nil (WK.nx (by assumption) ?_)
          refine SeqK.nx (by assumption) ?_
          refine k_ret ?_
          refine FunK.rt (by assumption) rfl ?_
          -- leaf 8
          first
          | rfl
          | (simp_all; done)
          | (trace_state; sorry)
        replace hc8 := of_decide_eq_false ((irr_eq _).symm.trans hc8)
        refine l_s rfl rfl ?_
        refine l_s rfl rfl ?_
        refine l_s rfl rfl ?_
        refine l_op 2 rfl rfl rfl rfl rfl ?_
        refine l_op 0 rfl rfl rfl rfl rfl ?_
        refine l_op 0 rfl rfl rfl rfl rfl ?_
        refine l_cmp rfl rfl rfl rfl ?_
        refine l_op 0 rfl rfl rfl rfl rfl ?_
        refine l_guard rfl rfl rfl (fun hc12 => ?_) (fun hc12 => ?_)
        · replace hc12 := of_decide_eq_true ((irr_eq _).symm.trans hc12)
          refine l_op 0 rfl rfl rfl rfl rfl ?_
          refine l_op 0 rfl rfl rfl rfl rfl ?_
          refine l_cmp rfl rfl rfl rfl ?_
          refine l_op 2 rfl rfl rfl rfl rfl ?_
          refine l_op 2 rfl rfl rfl rfl rfl ?_
          refine l_op 2 rfl rfl rfl rfl rfl ?_
          refine l_op 0 rfl rfl rfl rfl rfl ?_
          refine l_guard rfl rfl rfl (fun hc13 => ?_) (fun hc13 => ?_)
          · first | replace hc13 := eq_of_beq ((irr_eq _).symm.trans hc13) | simp only [irr_eq, beq_iff_eq, beq_eq_false_iff_ne, ne_eq, decide_eq_true_eq, decide_eq_false_iff_not] at hc13
            refine l_callp F rfl rfl (by kernel_rfl) rfl rfl live6_call (fun _ s F _ => ?_)
            w_nf
            refine l_op 2 rfl rfl rfl rfl rfl ?_
            refine l_op 0 rfl rfl rfl rfl rfl ?_
            refine l_nil (WK.nx (by assumption) ?_)
            refine SeqK.nx (by assumption) ?_
            refine k_ret ?_
            refine FunK.rt (by assumption) rfl ?_
            -- leaf 9
            first
            | rfl
            | (simp_all; done)
            | (trace_state; sorry)
          first | replace hc13 := ne_of_beq_false ((irr_eq _).symm.trans hc13) | simp only [irr_eq, beq_iff_eq, beq_eq_false_iff_ne, ne_eq, decide_eq_true_eq, decide_eq_false_iff_not] at hc13
          refine l_s rfl rfl ?_
          refine l_op 2 rfl rfl rfl rfl rfl ?_
          refine l_op 0 rfl rfl rfl rfl rfl ?_
          refine l_nil (WK.nx (by assumption) ?_)
          refine SeqK.nx (by assumption) ?_
          refine k_ret ?_
          refine FunK.rt (by assumption) rfl ?_
          -- leaf 10
          first
          | rfl
          | (simp_all; done)
          | (trace_state; sorry)
        replace hc12 := of_decide_eq_false ((irr_eq _).symm.trans hc12)
        refine l_s rfl rfl ?_
        refine l_s rfl rfl ?_
        refine l_s rfl rfl ?_
        refine l_op 2 rfl rfl rfl rfl rfl ?_
        refine l_op 2 rfl rfl rfl rfl rfl ?_
        refine l_op 2 rfl rfl rfl rfl rfl ?_
        refine l_op 0 rfl rfl rfl rfl rfl ?_
        refine l_s rfl rfl ?_
        refine l_op 2 rfl rfl rfl rfl rfl ?_
        refine l_op 0 rfl rfl rfl rfl rfl ?_
        refine l_nil (WK.nx (by assumption) ?_)
        refine SeqK.nx (by assumption) ?_
        refine k_ret ?_
        refine FunK.rt (by assumption) rfl ?_
        -- leaf 11
        first
        | rfl
        | (simp_all; done)
        | (trace_state; sorry)
      first | replace hc7 := bne_eq_false_iff_eq.1 ((irr_eq _).symm.trans hc7) | simp only [irr_eq, bne_iff_ne, bne_eq_false_iff_eq, ne_eq, decide_eq_true_eq, decide_eq_false_iff_not, Bool.not_eq_true', Bool.not_eq_false'] at hc7
      refine l_s rfl rfl ?_
      refine l_s rfl rfl ?_
      refine l_s rfl rfl ?_
      refine l_s rfl rfl ?_
      refine l_s rfl rfl ?_
      refine l_s rfl rfl ?_
      refine l_s rfl rfl ?_
      refine l_s rfl rfl ?_
      refine l_s rfl rfl ?_
      refine l_s rfl rfl ?_
      refine l_s rfl rfl ?_
      refine l_s rfl rfl ?_
      refine l_s rfl rfl ?_
      refine l_s rfl rfl ?_
      refine l_s rfl rfl ?_
      refine l_s rfl rfl ?_
      refine l_op 2 rfl rfl rfl rfl rfl ?_
      refine l_op 0 rfl rfl rfl rfl rfl ?_
      refine l_s rfl rfl ?_
      refine l_op 2 rfl rfl rfl rfl rfl ?_
      refine l_op 0 rfl rfl rfl rfl rfl ?_
      refine l_nil (WK.nx (by assumption) ?_)
      refine SeqK.nx (by assumption) ?_
      refine k_ret ?_
      refine FunK.rt (by assumption) rfl ?_
      -- leaf 12
      first
      | rfl
      | (simp_all; done)
      | (trace_state; sorry)
    first | replace hc6 := bne_eq_false_iff_eq.1 ((irr_eq _).symm.trans hc6) | simp only [irr_eq, bne_iff_ne, bne_eq_false_iff_eq, ne_eq, decide_eq_true_eq, decide_eq_false_iff_not, Bool.not_eq_true', Bool.not_eq_false'] at hc6
    refine l_s rfl rfl ?_
    refine l_s rfl rfl ?_
    refine l_s rfl rfl ?_
    refine l_op 2 rfl rfl rfl rfl rfl ?_
    refine l_op 0 rfl rfl rfl rfl rfl ?_
    refine l_s rfl rfl ?_
    refine l_s rfl rfl ?_
    refine l_s rfl rfl ?_
    refine l_s rfl rfl ?_
    refine l_s rfl rfl ?_
    refine l_s rfl rfl ?_
    refine l_s rfl rfl ?_
    refine l_s rfl rfl ?_
    refine l_s rfl rfl ?_
    refine l_s rfl rfl ?_
    refine l_s rfl rfl ?_
    refine l_s rfl rfl ?_
    refine l_s rfl rfl ?_
    refine l_s rfl rfl ?_
    refine l_s rfl rfl ?_
    refine l_s rfl rfl ?_
    refine l_op 2 rfl rfl rfl rfl rfl ?_
    refine l_op 0 rfl rfl rfl rfl rfl ?_
    refine l_s rfl rfl ?_
    refine l_op 2 rfl rfl rfl rfl rfl ?_
    refine l_op 0 rfl rfl rfl rfl rfl ?_
    refine l_nil (WK.nx (by assumption) ?_)
    refine SeqK.nx (by assumption) ?_
    refine k_ret ?_
    refine FunK.rt (by assumption) rfl ?_
    -- leaf 13
    first
    | rfl
    | (simp_all; done)
    | (trace_state; sorry)
  first | replace hc5 := ne_of_beq_false ((irr_eq _).symm.trans hc5) | simp only [irr_eq, beq_iff_eq, beq_eq_false_iff_ne, ne_eq, decide_eq_true_eq, decide_eq_false_iff_not] at hc5
  refine l_s rfl rfl ?_
  refine l_s rfl rfl ?_
  refine l_s rfl rfl ?_
  refine l_op 2 rfl rfl rfl rfl rfl ?_
  refine l_op 0 rfl rfl rfl rfl rfl ?_
  refine l_s rfl rfl ?_
  refine l_s rfl rfl ?_
  refine l_s rfl rfl ?_
  refine l_op 2 rfl rfl rfl rfl rfl ?_
  refine l_op 0 rfl rfl rfl rfl rfl ?_
  refine l_s rfl rfl ?_
  refine l_s rfl rfl ?_
  refine l_s rfl rfl ?_
  refine l_s rfl rfl ?_
  refine l_s rfl rfl ?_
  refine l_s rfl rfl ?_
  refine l_s rfl rfl ?_
  refine l_s rfl rfl ?_
  refine l_s rfl rfl ?_
  refine l_s rfl rfl ?_
  refine l_s rfl rfl ?_
  refine l_s rfl rfl ?_
  refine l_s rfl rfl ?_
  refine l_s rfl rfl ?_
  refine l_s rfl rfl ?_
  refine l_s rfl rfl ?_
  refine l_op 2 rfl rfl rfl rfl rfl ?_
  refine l_op 0 rfl rfl rfl rfl rfl ?_
  refine l_s rfl rfl ?_
  refine l_op 2 rfl rfl rfl rfl rfl ?_
  refine l_op 0 rfl rfl rfl rfl rfl ?_
  refine l_nil (WK.nx (by assumption) ?_)
  refine SeqK.nx (by assumption) ?_
  refine k_ret ?_
  refine FunK.rt (by assumption) rfl ?_
  -- leaf 14
  first
  | rfl
  | (simp_all; done)
  | (trace_state; sorry)

end Go.Proofs.Ytkmkbpnlccomnaa
