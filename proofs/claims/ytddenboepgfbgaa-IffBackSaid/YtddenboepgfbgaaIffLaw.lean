/- Chunks as they come in; the law: what is built is read as it was. No statement of the seat is proved in this text. -/
import Derived.Test.YtddenboepgfbgaaIffE
import Derived.Test.YtddenboepgfbgaaIffL
import Derived.Test.YtddenboepgfbgaaLiveIff
import Derived.Test.YtddenboepgfbgaaAb32
set_option linter.unusedVariables false
set_option linter.unusedSimpArgs false
set_option maxRecDepth 100000
set_option maxHeartbeats 4000000
namespace Go.Proofs.Ytddenboepgfbgaa
open GAb Go

theorem opn_data : Opn Try.prog 22 fun σ vs => ∃ x len cap zs, vs = [.slice x len cap] ∧ Row σ x len cap 1 (u8l zs) ∧ (∀ z ∈ zs, 0 ≤ z ∧ z ≤ 255) ∧ cap ≤ 140737488351232 :=
  opn_mono (opn_slice (es := 1) Try.underlying22 (by kernel_rfl) (by decide) (opn_int Try.underlying5)) (fun σ vs h => by
    obtain ⟨x, len, cap, zs, rfl, hR, hE, hM⟩ := h
    obtain ⟨xs, rfl, h1, h2⟩ := els_rows (Q := fun z => (Lit.int .u8 z).wf = true) (e := fun z => [Value.int .u8 z]) (es := 1) (σ := σ) hE
    have e : rows (fun z => [Value.int .u8 z]) xs = u8l xs := by
      unfold rows; exact (List.map_eq_flatMap ..).symm
    have hb : Try.prog.bytesOf 5 = 1 := by kernel_rfl
    rw [hb] at hM
    rw [e] at hR
    exact ⟨x, len, cap, xs, rfl, hR, fun z hz => bounds_u8 (h2 z hz), by unfold reachBytes at hM; omega⟩) (fun σ σ' vs ⟨x, len, cap, zs, h1, h2, h3⟩ k => ⟨x, len, cap, zs, h1, h2.kp (Nat.le_refl _) k, h3⟩)
def ChOK (σ : AState) (t : CK) : Prop := (∃ zs, Row σ t.x t.l t.c 1 (u8l zs) ∧ t.d = zs.take t.l ∧ ∀ z ∈ zs, 0 ≤ z ∧ z ≤ 255) ∧ t.c ≤ 140737488351232 ∧ t.id.size ≤ 140737488351232
theorem opn_chunk : Opn Try.prog 68 fun σ vs => ∃ t : CK, vs = eK t ∧ ChOK σ t :=
  opn_mono (opn_struct Try.underlying68 (by kernel_rfl) (.cons (opn_strS Try.underlying9) (.cons opn_data .nil))) (fun σ vs h => by
    obtain ⟨u0, w0, rfl, ⟨s, rfl, h0⟩, u1, w1, rfl, ⟨x, l, c, zs, rfl, h1, h2, h3⟩, rfl⟩ := h
    exact ⟨⟨s, x, l, c, zs.take l⟩, rfl, ⟨zs, h1, rfl, h2⟩, h3, by unfold reachBytes at h0; exact h0⟩) (fun σ σ' vs ⟨t, h1, ⟨zs, h2, h3⟩, h4⟩ k => ⟨t, h1, ⟨zs, h2.kp (Nat.le_refl _) k, h3⟩, h4⟩)
theorem opn_chunks : Opn Try.prog 52 fun σ vs => ∃ x len cap zs, vs = [.slice x len cap] ∧ Row σ x len cap 2 (rows eK zs) ∧ ∀ t ∈ zs, ChOK σ t :=
  opn_mono (opn_slice (es := 2) Try.underlying52 (by kernel_rfl) (by decide) opn_chunk) (fun σ vs h => by
    obtain ⟨x, len, cap, zs, rfl, hR, hE, hM⟩ := h
    obtain ⟨xs, rfl, h1, h2⟩ := els_rows (Q := fun t => ChOK σ t) (e := eK) (es := 2) (σ := σ) hE
    exact ⟨x, len, cap, xs, rfl, hR, fun y hy => h2 y hy⟩) (fun σ σ' vs ⟨x, len, cap, zs, h1, h2, h3⟩ k => ⟨x, len, cap, zs, h1, h2.kp (Nat.le_refl _) k, fun t ht => by
      obtain ⟨⟨zs, g1, g2⟩, g3⟩ := h3 t ht
      exact ⟨⟨zs, g1.kp (Nat.le_refl _) k, g2⟩, g3⟩⟩)
theorem oldK_row {σ : AState} {a : Option Addr} {l c : Nat} {zs : List CK} (h : Row σ a l c 2 (rows eK zs) ∧ ∀ t ∈ zs, ChOK σ t) : OldK E0 σ a l c (zs.take l) := by
  refine ⟨Old.pure ⟨_, h.1, by rw [rows_take eK_len]⟩, fun t ht => ?_, fun t ht => ?_, fun t ht => ?_⟩
  · obtain ⟨⟨ws, g1, g2, g3⟩, _⟩ := h.2 t (List.mem_of_mem_take ht)
    exact Old.pure ⟨_, g1, by rw [g2, Nat.mul_one]; exact List.map_take.symm⟩
  · obtain ⟨⟨ws, g1, g2, g3⟩, _⟩ := h.2 t (List.mem_of_mem_take ht)
    rw [g2]; exact bytes_mem.2 fun x hx => g3 x (List.mem_of_mem_take hx)
  · obtain ⟨⟨ws, g1, g2, g3⟩, g4, g5⟩ := h.2 t (List.mem_of_mem_take ht)
    have := g1.size.2
    omega

theorem num5_call {σ : AState} {x : Int} : SCall Try.prog (fun _ => False) 26 [.int .i64 x] σ (fun v s => v = .int .i64 x ∧ s = σ) := by
  refine k_fun Try.func26 rfl (m := 4) rfl fun B hD Q K => ?_
  refine k_seq (fun Q K => ?_)
  refine k_lin (fun W K => ?_)
  refine l_op 0 rfl rfl rfl rfl rfl ?_
  refine l_nil (WK.nx (by assumption) ?_)
  refine SeqK.nx (by assumption) ?_
  refine k_seq (fun Q K => ?_)
  refine k_lin (fun W K => ?_)
  refine l_op 0 rfl rfl rfl rfl rfl ?_
  refine l_op 0 rfl rfl rfl rfl rfl ?_
  refine l_nil (WK.nx (by assumption) ?_)
  refine SeqK.nx (by assumption) ?_
  refine k_ret ?_
  refine FunK.rt (by assumption) rfl ?_
  -- leaf 1
  exact ⟨rfl, rfl⟩
theorem iback_law {σ : AState} {kind : ByteArray} {a : Option Addr} {l c : Nat} {ts : List CK} (h : OldK E0 σ a l c ts) :
    SCall Try.prog E0 7 [.string kind, .slice a l c] σ (fun v _ => v = .bool true) := by
  have htl := h.len
  refine k_fun Try.func7 rfl (m := 78) rfl fun B hD Q K => ?_
  have F := Facts.nil E0 σ
  refine k_seq (fun Q K => ?_)
  refine k_lin (fun W K => ?_)
  refine l_op 0 rfl rfl rfl rfl rfl ?_
  refine l_nil (WK.nx (by assumption) ?_)
  refine SeqK.nx (by assumption) ?_
  refine k_seq (fun Q K => ?_)
  refine k_seq (fun Q K => ?_)
  refine k_lin (fun W K => ?_)
  refine l_op 0 rfl rfl rfl rfl rfl ?_
  first | refine l_op 2 rfl rfl rfl rfl rfl ?_ | refine l_ln rfl rfl rfl rfl ?_
  refine l_cmp rfl rfl rfl rfl ?_
  refine l_op 0 rfl rfl rfl rfl rfl ?_
  refine l_guard rfl rfl rfl (fun hc1 => ?_) (fun hc1 => ?_)
  · replace hc1 := of_decide_eq_true ((irr_eq _).symm.trans hc1)
    refine l_s rfl rfl ?_
    refine l_s rfl rfl ?_
    refine l_op 2 rfl rfl rfl rfl rfl ?_
    refine l_nil (WK.nx (by assumption) ?_)
    refine SeqK.nx (by assumption) ?_
    first | refine e_cond_t rfl rfl rfl ?_ | refine e_cond_t rfl rfl (by rw [irr_eq]; first | exact beq_iff_eq.2 (by assumption) | exact decide_eq_true (by assumption) | exact bne_iff_ne.2 (by assumption)) ?_
    refine k_seq (fun Q K => ?_)
    refine k_lin (fun W K => ?_)
    refine l_callv rfl rfl (by kernel_rfl) rfl rfl (iflive_call _ _) ?_
    (try dsimp only [n_1, n_2, n_3, n_4, List.append_nil, pk, n_5, n_6] at F)
    refine l_op 0 rfl rfl rfl rfl rfl ?_
    refine l_nil (WK.nx (by assumption) ?_)
    refine SeqK.nx (by assumption) ?_
    refine k_ret ?_
    refine SeqK.rt (by assumption) ?_
    refine FunK.rt (by assumption) rfl ?_
    -- leaf 1
    first
    | rfl
    | (exact (hc8 rfl).elim)
    | (cases hc9; done)
    | (exact (hc10 (by rw [hback])).elim)
    | (exact (hc11 (by rw [hback]; show ((bldR k2 ts).length : Int) = n; omega)).elim)
  replace hc1 := of_decide_eq_false ((irr_eq _).symm.trans hc1)
  refine l_op 0 rfl rfl rfl rfl rfl ?_
  refine l_callp F rfl rfl (by kernel_rfl) rfl rfl (huge_call h (by omega)) (fun hu s F hhu => ?_)
  (try dsimp only [n_1, n_2, n_3, n_4, List.append_nil, pk, n_5, n_6] at F)
  refine l_op 2 rfl rfl rfl rfl rfl ?_
  refine l_nil (WK.nx (by assumption) ?_)
  refine SeqK.nx (by assumption) ?_
  refine l_cond rfl rfl (fun hc2 => ?_) (fun hc2 => ?_)
  · try simp only [irr_eq, beq_iff_eq, bne_iff_ne, beq_eq_false_iff_ne, bne_eq_false_iff_eq, ne_eq, decide_eq_true_eq, decide_eq_false_iff_not, Bool.not_eq_true', Bool.not_eq_false'] at hc2
    refine k_seq (fun Q K => ?_)
    refine k_lin (fun W K => ?_)
    refine l_callv rfl rfl (by kernel_rfl) rfl rfl (iflive_call _ _) ?_
    (try dsimp only [n_1, n_2, n_3, n_4, List.append_nil, pk, n_5, n_6] at F)
    refine l_op 0 rfl rfl rfl rfl rfl ?_
    refine l_nil (WK.nx (by assumption) ?_)
    refine SeqK.nx (by assumption) ?_
    refine k_ret ?_
    refine SeqK.rt (by assumption) ?_
    refine FunK.rt (by assumption) rfl ?_
    -- leaf 2
    first
    | rfl
    | (exact (hc8 rfl).elim)
    | (cases hc9; done)
    | (exact (hc10 (by rw [hback])).elim)
    | (exact (hc11 (by rw [hback]; show ((bldR k2 ts).length : Int) = n; omega)).elim)
  try simp only [irr_eq, beq_iff_eq, bne_iff_ne, beq_eq_false_iff_ne, bne_eq_false_iff_eq, ne_eq, decide_eq_true_eq, decide_eq_false_iff_not, Bool.not_eq_true', Bool.not_eq_false'] at hc2
  obtain ⟨hb1, hb2⟩ := hhu hc2
  refine k_skip ?_
  refine SeqK.nx (by assumption) ?_
  refine k_seq (fun Q K => ?_)
  refine k_lin (fun W K => ?_)
  refine l_op 0 rfl rfl rfl rfl rfl ?_
  refine l_op 0 rfl rfl rfl rfl rfl ?_
  refine l_callp F rfl rfl (by kernel_rfl) rfl rfl (build_call (h.to F) (by omega) (by omega) (by omega)) (fun y s F hy => ?_)
  obtain ⟨e, x, n, d, bs⟩ := y
  dsimp only at F hy ⊢
  have hz := sizeK_bd ts
  (try dsimp only [n_1, n_2, n_3, n_4, List.append_nil, pk, n_5, n_6] at F)
  refine l_op 0 rfl rfl rfl rfl rfl ?_
  refine l_op 2 rfl rfl rfl rfl rfl ?_
  refine l_op 2 rfl rfl rfl rfl rfl ?_
  refine l_op 0 rfl rfl rfl rfl rfl ?_
  refine l_op 0 rfl rfl rfl rfl rfl ?_
  refine l_nil (WK.nx (by assumption) ?_)
  refine SeqK.nx (by assumption) ?_
  refine k_seq (fun Q K => ?_)
  refine k_seq (fun Q K => ?_)
  refine k_lin (fun W K => ?_)
  refine l_op 0 rfl rfl rfl rfl rfl ?_
  refine l_callv rfl rfl (by kernel_rfl) rfl rfl num5_call ?_
  (try dsimp only [n_1, n_2, n_3, n_4, List.append_nil, pk, n_5, n_6] at F)
  refine l_cmp rfl rfl rfl rfl ?_
  refine l_nil (WK.nx (by assumption) ?_)
  refine SeqK.nx (by assumption) ?_
  refine l_cond rfl rfl (fun hc3 => ?_) (fun hc3 => ?_)
  · first | replace hc3 := bne_iff_ne.1 ((irr_eq _).symm.trans hc3) | simp only [irr_eq, bne_iff_ne, bne_eq_false_iff_eq, ne_eq, decide_eq_true_eq, decide_eq_false_iff_not, Bool.not_eq_true', Bool.not_eq_false'] at hc3
    have hn0 : n = 0 ∧ (e = 4 ∧ 1024 < ts.length ∨ e = 1) := by
      rcases hy with ⟨h1, h2, _⟩ | ⟨_, _, ⟨h1, h2, h3⟩ | ⟨_, ⟨h1, h2, h3⟩ | ⟨h1, _⟩⟩⟩
      · exact ⟨h2, .inr h1⟩
      · exact ⟨h2, .inl ⟨h1, h3⟩⟩
      · exfalso; omega
      · exact absurd h1 hc3
    refine k_seq (fun Q K => ?_)
    refine k_lin (fun W K => ?_)
    refine l_op 0 rfl rfl rfl rfl rfl ?_
    first | refine l_op 2 rfl rfl rfl rfl rfl ?_ | refine l_ln rfl rfl rfl rfl ?_
    refine l_cmp rfl rfl rfl rfl ?_
    refine l_op 0 rfl rfl rfl rfl rfl ?_
    refine l_guard rfl rfl rfl (fun hc4 => ?_) (fun hc4 => ?_)
    · first | replace hc4 := eq_of_beq ((irr_eq _).symm.trans hc4) | simp only [irr_eq, beq_iff_eq, beq_eq_false_iff_ne, ne_eq, decide_eq_true_eq, decide_eq_false_iff_not] at hc4
      refine l_op 0 rfl rfl rfl rfl rfl ?_
      refine l_callv rfl rfl (by kernel_rfl) rfl rfl num5_call ?_
      (try dsimp only [n_1, n_2, n_3, n_4, List.append_nil, pk, n_5, n_6] at F)
      refine l_cmp rfl rfl rfl rfl ?_
      refine l_op 0 rfl rfl rfl rfl rfl ?_
      refine l_guard rfl rfl rfl (fun hc5 => ?_) (fun hc5 => ?_)
      · first | replace hc5 := eq_of_beq ((irr_eq _).symm.trans hc5) | simp only [irr_eq, beq_iff_eq, beq_eq_false_iff_ne, ne_eq, decide_eq_true_eq, decide_eq_false_iff_not] at hc5
        refine l_op 0 rfl rfl rfl rfl rfl ?_
        first | refine l_op 2 rfl rfl rfl rfl rfl ?_ | refine l_ln rfl rfl rfl rfl ?_
        refine l_cmp rfl rfl rfl rfl ?_
        refine l_op 2 rfl rfl rfl rfl rfl ?_
        refine l_op 0 rfl rfl rfl rfl rfl ?_
        refine l_guard rfl rfl rfl (fun hc6 => ?_) (fun hc6 => ?_)
        · replace hc6 := of_decide_eq_true ((irr_eq _).symm.trans hc6)
          refine l_s rfl rfl ?_
          refine l_s rfl rfl ?_
          refine l_s rfl rfl ?_
          refine l_op 2 rfl rfl rfl rfl rfl ?_
          refine l_op 2 rfl rfl rfl rfl rfl ?_
          refine l_op 0 rfl rfl rfl rfl rfl ?_
          refine l_callv rfl rfl (by kernel_rfl) rfl rfl (iflive_call _ _) ?_
          (try dsimp only [n_1, n_2, n_3, n_4, List.append_nil, pk, n_5, n_6] at F)
          refine l_op 2 rfl rfl rfl rfl rfl ?_
          refine l_op 0 rfl rfl rfl rfl rfl ?_
          refine l_nil (WK.nx (by assumption) ?_)
          refine SeqK.nx (by assumption) ?_
          refine k_ret ?_
          refine SeqK.rt (by assumption) ?_
          refine FunK.rt (by assumption) rfl ?_
          -- leaf 3
          first
          | rfl
          | (exact (hc8 rfl).elim)
          | (cases hc9; done)
          | (exact (hc10 (by rw [hback])).elim)
          | (exact (hc11 (by rw [hback]; show ((bldR k2 ts).length : Int) = n; omega)).elim)
        replace hc6 := of_decide_eq_false ((irr_eq _).symm.trans hc6)
        exfalso; omega
      first | replace hc5 := ne_of_beq_false ((irr_eq _).symm.trans hc5) | simp only [irr_eq, beq_iff_eq, beq_eq_false_iff_ne, ne_eq, decide_eq_true_eq, decide_eq_false_iff_not] at hc5
      refine l_s rfl rfl ?_
      refine l_s rfl rfl ?_
      refine l_s rfl rfl ?_
      refine l_op 2 rfl rfl rfl rfl rfl ?_
      refine l_op 0 rfl rfl rfl rfl rfl ?_
      refine l_op 0 rfl rfl rfl rfl rfl ?_
      refine l_callv rfl rfl (by kernel_rfl) rfl rfl num5_call ?_
      (try dsimp only [n_1, n_2, n_3, n_4, List.append_nil, pk, n_5, n_6] at F)
      refine l_cmp rfl rfl rfl rfl ?_
      refine l_op 2 rfl rfl rfl rfl rfl ?_
      refine l_op 2 rfl rfl rfl rfl rfl ?_
      refine l_op 0 rfl rfl rfl rfl rfl ?_
      refine l_guard rfl rfl rfl (fun hc7 => ?_) (fun hc7 => ?_)
      · first | replace hc7 := eq_of_beq ((irr_eq _).symm.trans hc7) | simp only [irr_eq, beq_iff_eq, beq_eq_false_iff_ne, ne_eq, decide_eq_true_eq, decide_eq_false_iff_not] at hc7
        refine l_callv rfl rfl (by kernel_rfl) rfl rfl (iflive_call _ _) ?_
        (try dsimp only [n_1, n_2, n_3, n_4, List.append_nil, pk, n_5, n_6] at F)
        refine l_op 2 rfl rfl rfl rfl rfl ?_
        refine l_op 0 rfl rfl rfl rfl rfl ?_
        refine l_nil (WK.nx (by assumption) ?_)
        refine SeqK.nx (by assumption) ?_
        refine k_ret ?_
        refine SeqK.rt (by assumption) ?_
        refine FunK.rt (by assumption) rfl ?_
        -- leaf 4
        first
        | rfl
        | (exact (hc8 rfl).elim)
        | (cases hc9; done)
        | (exact (hc10 (by rw [hback])).elim)
        | (exact (hc11 (by rw [hback]; show ((bldR k2 ts).length : Int) = n; omega)).elim)
      first | replace hc7 := ne_of_beq_false ((irr_eq _).symm.trans hc7) | simp only [irr_eq, beq_iff_eq, beq_eq_false_iff_ne, ne_eq, decide_eq_true_eq, decide_eq_false_iff_not] at hc7
      exfalso; omega
    first | replace hc4 := ne_of_beq_false ((irr_eq _).symm.trans hc4) | simp only [irr_eq, beq_iff_eq, beq_eq_false_iff_ne, ne_eq, decide_eq_true_eq, decide_eq_false_iff_not] at hc4
    exact absurd (by omega) hc4
  first | replace hc3 := bne_eq_false_iff_eq.1 ((irr_eq _).symm.trans hc3) | simp only [irr_eq, bne_iff_ne, bne_eq_false_iff_eq, ne_eq, decide_eq_true_eq, decide_eq_false_iff_not, Bool.not_eq_true', Bool.not_eq_false'] at hc3
  obtain ⟨hk1, hid, hn1, hsz, rfl⟩ : idR (ltr kind) = true ∧ IdsOK ts ∧ ts.length ≤ 1024 ∧ 12 + sizeK ts ≤ 4194304 ∧ bs = bldR kind ts := by
    rcases hy with ⟨h1, _⟩ | ⟨k1, k2, ⟨h1, h2, h3⟩ | ⟨k3, ⟨h1, h2, h3⟩ | ⟨h1, h2, h3⟩⟩⟩
    · omega
    · omega
    · omega
    · exact ⟨k1, k2, k3, h2, h3⟩
  have hg : ∀ t ∈ ts, GoodC t := fun t ht => ⟨hid t ht, (h.dat t ht).len8, by have := sumK_mem ht; omega⟩
  have hlen := bldR_len hk1 hg
  have hfn := F.len8 0 rfl
  have hcap : n ≤ d := by obtain ⟨_, hR, _⟩ := F.has 0 rfl; exact hR.size.2
  have hback := back hk1 hg hn1 hsz
  refine k_skip ?_
  refine SeqK.nx (by assumption) ?_
  refine k_seq (fun Q K => ?_)
  refine k_lin (fun W K => ?_)
  refine l_op 0 rfl rfl rfl rfl rfl ?_
  refine l_callp F rfl rfl (by kernel_rfl) rfl rfl (parse_call (Old.pure (F.has 0 rfl)) (bytes_bldR h.byt) (by omega) (.inr (by omega))) (fun y2 s F hy2 => ?_)
  obtain ⟨k2, x2, n2, c2, us⟩ := y2
  obtain ⟨q1, q2, q3⟩ := hy2
  rw [hback] at q1 q2
  dsimp only at q1 q2
  obtain rfl := ltr_inj q1
  dsimp only [parF] at F ⊢
  (try dsimp only [n_1, n_2, n_3, n_4, List.append_nil, pk, n_5, n_6] at F)
  refine l_op 0 rfl rfl rfl rfl rfl ?_
  refine l_op 2 rfl rfl rfl rfl rfl ?_
  refine l_op 2 rfl rfl rfl rfl rfl ?_
  refine l_op 2 rfl rfl rfl rfl rfl ?_
  refine l_op 2 rfl rfl rfl rfl rfl ?_
  refine l_op 0 rfl rfl rfl rfl rfl ?_
  refine l_op 0 rfl rfl rfl rfl rfl ?_
  refine l_op 0 rfl rfl rfl rfl rfl ?_
  refine l_op 0 rfl rfl rfl rfl rfl ?_
  refine l_nil (WK.nx (by assumption) ?_)
  refine SeqK.nx (by assumption) ?_
  refine k_seq (fun Q K => ?_)
  refine k_lin (fun W K => ?_)
  refine l_op 0 rfl rfl rfl rfl rfl ?_
  refine l_op 0 rfl rfl rfl rfl rfl ?_
  refine l_cmp rfl rfl rfl rfl ?_
  refine l_op 0 rfl rfl rfl rfl rfl ?_
  refine l_guard rfl rfl rfl (fun hc8 => ?_) (fun hc8 => ?_)
  · first | replace hc8 := eq_of_beq ((irr_eq _).symm.trans hc8) | simp only [irr_eq, beq_iff_eq, beq_eq_false_iff_ne, ne_eq, decide_eq_true_eq, decide_eq_false_iff_not] at hc8
    refine l_op 0 rfl rfl rfl rfl rfl ?_
    refine l_op 0 rfl rfl rfl rfl rfl ?_
    refine l_callp F rfl rfl (by kernel_rfl) rfl rfl (same5_call (h.to F) (Facts.oldK F 1 2 rfl rfl q3) (by omega)) (fun z s F hz2 => ?_)
    obtain rfl : z = true := hz2.2 q2.symm
    (try dsimp only [n_1, n_2, n_3, n_4, List.append_nil, pk, n_5, n_6] at F)
    refine l_op 2 rfl rfl rfl rfl rfl ?_
    refine l_op 0 rfl rfl rfl rfl rfl ?_
    refine l_guard rfl rfl rfl (fun hc9 => ?_) (fun hc9 => ?_)
    · try simp only [irr_eq, beq_iff_eq, bne_iff_ne, beq_eq_false_iff_ne, bne_eq_false_iff_eq, ne_eq, decide_eq_true_eq, decide_eq_false_iff_not, Bool.not_eq_true', Bool.not_eq_false'] at hc9
      refine l_op 0 rfl rfl rfl rfl rfl ?_
      refine l_callv rfl rfl (by kernel_rfl) rfl rfl num5_call ?_
      (try dsimp only [n_1, n_2, n_3, n_4, List.append_nil, pk, n_5, n_6] at F)
      refine l_cmp rfl rfl rfl rfl ?_
      refine l_op 2 rfl rfl rfl rfl rfl ?_
      refine l_op 0 rfl rfl rfl rfl rfl ?_
      refine l_guard rfl rfl rfl (fun hc10 => ?_) (fun hc10 => ?_)
      · first | replace hc10 := eq_of_beq ((irr_eq _).symm.trans hc10) | simp only [irr_eq, beq_iff_eq, beq_eq_false_iff_ne, ne_eq, decide_eq_true_eq, decide_eq_false_iff_not] at hc10
        refine l_op 0 rfl rfl rfl rfl rfl ?_
        refine l_op 0 rfl rfl rfl rfl rfl ?_
        first | refine l_op 2 rfl rfl rfl rfl rfl ?_ | refine l_ln rfl rfl rfl rfl ?_
        refine l_cmp rfl rfl rfl rfl ?_
        refine l_op 2 rfl rfl rfl rfl rfl ?_
        refine l_op 0 rfl rfl rfl rfl rfl ?_
        refine l_guard rfl rfl rfl (fun hc11 => ?_) (fun hc11 => ?_)
        · first | replace hc11 := eq_of_beq ((irr_eq _).symm.trans hc11) | simp only [irr_eq, beq_iff_eq, beq_eq_false_iff_ne, ne_eq, decide_eq_true_eq, decide_eq_false_iff_not] at hc11
          refine l_callv rfl rfl (by kernel_rfl) rfl rfl (iflive_call _ _) ?_
          (try dsimp only [n_1, n_2, n_3, n_4, List.append_nil, pk, n_5, n_6] at F)
          refine l_op 2 rfl rfl rfl rfl rfl ?_
          refine l_op 0 rfl rfl rfl rfl rfl ?_
          refine l_nil (WK.nx (by assumption) ?_)
          refine SeqK.nx (by assumption) ?_
          refine k_ret ?_
          refine FunK.rt (by assumption) rfl ?_
          -- leaf 5
          first
          | rfl
          | (exact (hc8 rfl).elim)
          | (cases hc9; done)
          | (exact (hc10 (by rw [hback])).elim)
          | (exact (hc11 (by rw [hback]; show ((bldR k2 ts).length : Int) = n; omega)).elim)
        first | replace hc11 := ne_of_beq_false ((irr_eq _).symm.trans hc11) | simp only [irr_eq, beq_iff_eq, beq_eq_false_iff_ne, ne_eq, decide_eq_true_eq, decide_eq_false_iff_not] at hc11
        refine l_s rfl rfl ?_
        refine l_op 2 rfl rfl rfl rfl rfl ?_
        refine l_op 0 rfl rfl rfl rfl rfl ?_
        refine l_nil (WK.nx (by assumption) ?_)
        refine SeqK.nx (by assumption) ?_
        refine k_ret ?_
        refine FunK.rt (by assumption) rfl ?_
        -- leaf 6
        first
        | rfl
        | (exact (hc8 rfl).elim)
        | (cases hc9; done)
        | (exact (hc10 (by rw [hback])).elim)
        | (exact (hc11 (by rw [hback]; show ((bldR k2 ts).length : Int) = n; omega)).elim)
      first | replace hc10 := ne_of_beq_false ((irr_eq _).symm.trans hc10) | simp only [irr_eq, beq_iff_eq, beq_eq_false_iff_ne, ne_eq, decide_eq_true_eq, decide_eq_false_iff_not] at hc10
      refine l_s rfl rfl ?_
      refine l_s rfl rfl ?_
      refine l_s rfl rfl ?_
      refine l_s rfl rfl ?_
      refine l_op 2 rfl rfl rfl rfl rfl ?_
      refine l_op 0 rfl rfl rfl rfl rfl ?_
      refine l_s rfl rfl ?_
      refine l_op 2 rfl rfl rfl rfl rfl ?_
      refine l_op 0 rfl rfl rfl rfl rfl ?_
      refine l_nil (WK.nx (by assumption) ?_)
      refine SeqK.nx (by assumption) ?_
      refine k_ret ?_
      refine FunK.rt (by assumption) rfl ?_
      -- leaf 7
      first
      | rfl
      | (exact (hc8 rfl).elim)
      | (cases hc9; done)
      | (exact (hc10 (by rw [hback])).elim)
      | (exact (hc11 (by rw [hback]; show ((bldR k2 ts).length : Int) = n; omega)).elim)
    try simp only [irr_eq, beq_iff_eq, bne_iff_ne, beq_eq_false_iff_ne, bne_eq_false_iff_eq, ne_eq, decide_eq_true_eq, decide_eq_false_iff_not, Bool.not_eq_true', Bool.not_eq_false'] at hc9
    refine l_s rfl rfl ?_
    refine l_s rfl rfl ?_
    refine l_s rfl rfl ?_
    refine l_op 2 rfl rfl rfl rfl rfl ?_
    refine l_op 0 rfl rfl rfl rfl rfl ?_
    refine l_s rfl rfl ?_
    refine l_s rfl rfl ?_
    refine l_s rfl rfl ?_
    refine l_s rfl rfl ?_
    refine l_op 2 rfl rfl rfl rfl rfl ?_
    refine l_op 0 rfl rfl rfl rfl rfl ?_
    refine l_s rfl rfl ?_
    refine l_op 2 rfl rfl rfl rfl rfl ?_
    refine l_op 0 rfl rfl rfl rfl rfl ?_
    refine l_nil (WK.nx (by assumption) ?_)
    refine SeqK.nx (by assumption) ?_
    refine k_ret ?_
    refine FunK.rt (by assumption) rfl ?_
    -- leaf 8
    first
    | rfl
    | (exact (hc8 rfl).elim)
    | (cases hc9; done)
    | (exact (hc10 (by rw [hback])).elim)
    | (exact (hc11 (by rw [hback]; show ((bldR k2 ts).length : Int) = n; omega)).elim)
  first | replace hc8 := ne_of_beq_false ((irr_eq _).symm.trans hc8) | simp only [irr_eq, beq_iff_eq, beq_eq_false_iff_ne, ne_eq, decide_eq_true_eq, decide_eq_false_iff_not] at hc8
  refine l_s rfl rfl ?_
  refine l_s rfl rfl ?_
  refine l_s rfl rfl ?_
  refine l_op 2 rfl rfl rfl rfl rfl ?_
  refine l_op 0 rfl rfl rfl rfl rfl ?_
  refine l_s rfl rfl ?_
  refine l_s rfl rfl ?_
  refine l_s rfl rfl ?_
  refine l_op 2 rfl rfl rfl rfl rfl ?_
  refine l_op 0 rfl rfl rfl rfl rfl ?_
  refine l_s rfl rfl ?_
  refine l_s rfl rfl ?_
  refine l_s rfl rfl ?_
  refine l_s rfl rfl ?_
  refine l_op 2 rfl rfl rfl rfl rfl ?_
  refine l_op 0 rfl rfl rfl rfl rfl ?_
  refine l_s rfl rfl ?_
  refine l_op 2 rfl rfl rfl rfl rfl ?_
  refine l_op 0 rfl rfl rfl rfl rfl ?_
  refine l_nil (WK.nx (by assumption) ?_)
  refine SeqK.nx (by assumption) ?_
  refine k_ret ?_
  refine FunK.rt (by assumption) rfl ?_
  -- leaf 9
  first
  | rfl
  | (exact (hc8 rfl).elim)
  | (cases hc9; done)
  | (exact (hc10 (by rw [hback])).elim)
  | (exact (hc11 (by rw [hback]; show ((bldR k2 ts).length : Int) = n; omega)).elim)

end Go.Proofs.Ytddenboepgfbgaa
