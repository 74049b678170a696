/- Resources as they come in; the laws of what is read, laid, and which game it is. No statement of the seat is proved in this text. -/
import Derived.Test.YtkmkbpnlccomnaaBlN
import Derived.Test.YtkmkbpnlccomnaaAb32
set_option linter.unusedVariables false
set_option linter.unusedSimpArgs false
set_option maxRecDepth 100000
set_option maxHeartbeats 8000000
namespace Go.Proofs.Ytkmkbpnlccomnaa
open GAb Go

theorem opn_data : Opn Try.prog 22 fun σ vs => ∃ x len cap zs, vs = [.slice x len cap] ∧ Row σ x len cap 1 (u8l zs) ∧ (∀ z ∈ zs, 0 ≤ z ∧ z ≤ 255) ∧ cap ≤ 140737488351232 :=
  opn_mono (opn_slice (es := 1) Try.underlying22 (by kernel_rfl) (by decide) (opn_int Try.underlying5)) (fun σ vs h => by
    obtain ⟨x, len, cap, zs, rfl, hR, hE, hM⟩ := h
    obtain ⟨xs, rfl, h1, h2⟩ := els_rows (Q := fun z => (Lit.int .u8 z).wf = true) (e := fun z => [Value.int .u8 z]) (es := 1) (σ := σ) hE
    have e : rows (fun z => [Value.int .u8 z]) xs = u8l xs := by
      unfold rows; exact (List.map_eq_flatMap ..).symm
    have hb : Try.prog.bytesOf 5 = 1 := by kernel_rfl
    rw [hb] at hM
    rw [e] at hR
    exact ⟨x, len, cap, xs, rfl, hR, fun z hz => bounds_u8 (h2 z hz), by unfold reachBytes at hM; omega⟩) (fun σ σ' vs ⟨x, len, cap, zs, h1, h2, h3⟩ k => ⟨x, len, cap, zs, h1, h2.kp (Nat.le_refl _) k, h3⟩)
def RsOK (σ : AState) (t : RS) : Prop := (∃ zs, Row σ t.x t.l t.c 1 (u8l zs) ∧ t.d = zs.take t.l ∧ ∀ z ∈ zs, 0 ≤ z ∧ z ≤ 255) ∧ t.c ≤ 140737488351232 ∧ t.id.size ≤ 140737488351232 ∧ t.us.size ≤ 140737488351232 ∧ U32 t.nm
theorem opn_res : Opn Try.prog 49 fun σ vs => ∃ t : RS, vs = eR t ∧ RsOK σ t :=
  opn_mono (opn_struct Try.underlying49 (by kernel_rfl) (.cons (opn_strS Try.underlying9) (.cons (opn_int Try.underlying47) (.cons (opn_strS Try.underlying9) (.cons opn_data .nil))))) (fun σ vs h => by
    obtain ⟨u0, w0, rfl, ⟨s, rfl, h0⟩, u1, w1, rfl, ⟨n, rfl, hn⟩, u2, w2, rfl, ⟨s2, rfl, h2⟩, u3, w3, rfl, ⟨x, l, c, zs, rfl, h4, h5, h6⟩, rfl⟩ := h
    exact ⟨⟨s, n, s2, x, l, c, zs.take l⟩, rfl, ⟨zs, h4, rfl, h5⟩, h6, by unfold reachBytes at h2; exact h2, by unfold reachBytes at h0; exact h0, bounds_u32 hn⟩) (fun σ σ' vs ⟨t, h1, ⟨zs, h2, h3⟩, h4⟩ k => ⟨t, h1, ⟨zs, h2.kp (Nat.le_refl _) k, h3⟩, h4⟩)
theorem opn_ress : Opn Try.prog 25 fun σ vs => ∃ x len cap zs, vs = [.slice x len cap] ∧ Row σ x len cap 4 (rows eR zs) ∧ ∀ t ∈ zs, RsOK σ t :=
  opn_mono (opn_slice (es := 4) Try.underlying25 (by kernel_rfl) (by decide) opn_res) (fun σ vs h => by
    obtain ⟨x, len, cap, zs, rfl, hR, hE, hM⟩ := h
    obtain ⟨xs, rfl, h1, h2⟩ := els_rows (Q := fun t => RsOK σ t) (e := eR) (es := 4) (σ := σ) hE
    exact ⟨x, len, cap, xs, rfl, hR, fun y hy => h2 y hy⟩) (fun σ σ' vs ⟨x, len, cap, zs, h1, h2, h3⟩ k => ⟨x, len, cap, zs, h1, h2.kp (Nat.le_refl _) k, fun t ht => by
      obtain ⟨⟨zs, g1, g2⟩, g3⟩ := h3 t ht
      exact ⟨⟨zs, g1.kp (Nat.le_refl _) k, g2⟩, g3⟩⟩)
theorem oldR_row {σ : AState} {a : Option Addr} {l c : Nat} {zs : List RS} (h : Row σ a l c 4 (rows eR zs) ∧ ∀ t ∈ zs, RsOK σ t) : OldR E0 σ a l c (zs.take l) := by
  refine ⟨Old.pure ⟨_, h.1, by rw [rows_take eR_len]⟩, fun t ht => ?_, fun t ht => ?_, fun t ht => ?_, fun t ht => ?_⟩ <;> obtain ⟨⟨ws, g1, g2, g3⟩, g4, g5, g6, g7⟩ := h.2 t (List.mem_of_mem_take ht)
  · exact Old.pure ⟨_, g1, by rw [g2, Nat.mul_one]; exact List.map_take.symm⟩
  · rw [g2]; exact bytes_mem.2 fun x hx => g3 x (List.mem_of_mem_take hx)
  · exact g7
  · have := g1.size.2
    omega

theorem old_mark {σ0 σ : AState} {L : List Fact} (F : Facts E0 σ0 σ L) (k : Nat) {x : Option Addr} {l c : Nat} {xs : List Int} (hk : L[k]? = some (own x (l + 1) c 1 (u8l (xs ++ [77])))) (hl : xs.length = l) : Old E0 σ x l c 1 (u8l xs) ∧ l < c := by
  have h := (F.has k hk).upto8 (hi := l) (by omega)
  rw [List.take_append_of_le_length (by omega), List.take_of_length_le (by omega)] at h
  refine ⟨Old.pure h, ?_⟩
  obtain ⟨_, hR, _⟩ := F.has k hk
  have := hR.size.2
  omega
theorem reads_law {σ : AState} {b : Option Addr} {l d : Nat} {xs : List Int} (h : Old E0 σ b l d 1 (u8l xs)) (hB : Bytes xs) :
    SCall Try.prog E0 3 [.slice b l d] σ (fun v _ => v = .bool true) := by
  have hxl := h.len8
  refine k_fun Try.func3 rfl (m := 50) rfl fun B hD Q K => ?_
  have F := Facts.nil E0 σ
  refine k_seq (fun Q K => ?_)
  refine k_lin (fun W K => ?_)
  refine l_op 0 rfl rfl rfl rfl rfl ?_
  refine l_nil (WK.nx (by assumption) ?_)
  refine SeqK.nx (by assumption) ?_
  refine k_seq (fun Q K => ?_)
  refine k_seq (fun Q K => ?_)
  refine k_lin (fun W K => ?_)
  refine l_op 0 rfl rfl rfl rfl rfl ?_
  first | refine l_op 2 rfl rfl rfl rfl rfl ?_ | refine l_ln rfl rfl rfl rfl ?_
  refine l_cmp rfl rfl rfl rfl ?_
  refine l_nil (WK.nx (by assumption) ?_)
  refine SeqK.nx (by assumption) ?_
  refine l_cond rfl rfl (fun hc1 => ?_) (fun hc1 => ?_)
  · replace hc1 := of_decide_eq_true ((irr_eq _).symm.trans hc1)
    refine k_seq (fun Q K => ?_)
    refine k_lin (fun W K => ?_)
    refine l_callp F rfl rfl (by kernel_rfl) rfl rfl live6_call (fun _ s F _ => ?_)
    (try dsimp only [n_1, n_2, n_3, n_4, List.append_nil, pk, n_5, n_6] at F)
    refine l_op 0 rfl rfl rfl rfl rfl ?_
    refine l_nil (WK.nx (by assumption) ?_)
    refine SeqK.nx (by assumption) ?_
    refine k_ret ?_
    refine SeqK.rt (by assumption) ?_
    refine FunK.rt (by assumption) rfl ?_
    -- leaf 1
    first
    | rfl
    | (simp_all; done)
  replace hc1 := of_decide_eq_false ((irr_eq _).symm.trans hc1)
  refine k_skip ?_
  refine SeqK.nx (by assumption) ?_
  refine k_seq (fun Q K => ?_)
  refine k_lin (fun W K => ?_)
  refine l_op 0 rfl rfl rfl rfl rfl ?_
  refine l_callp F rfl rfl (by kernel_rfl) rfl rfl (lent_call (Old.pure (F.old h)) (by omega)) (fun yl s F _ => ?_)
  (try dsimp only [n_1, n_2, n_3, n_4, List.append_nil, pk, n_5, n_6] at F)
  have hmk := old_mark F 0 rfl hxl
  (try dsimp only [n_1, n_2, n_3, n_4, List.append_nil, pk, n_5, n_6] at F)
  refine l_op 0 rfl rfl rfl rfl rfl ?_
  refine l_nil (WK.nx (by assumption) ?_)
  refine SeqK.nx (by assumption) ?_
  refine k_seq (fun Q K => ?_)
  refine k_lin (fun W K => ?_)
  refine l_op 0 rfl rfl rfl rfl rfl ?_
  refine l_callp F rfl rfl (by kernel_rfl) rfl rfl (read_call (old_mark F 0 rfl hxl).1 hB (by omega) (.inr (by omega))) (fun y s F hy => ?_)
  (try dsimp only [n_1, n_2, n_3, n_4, List.append_nil, pk, n_5, n_6] at F)
  obtain ⟨x1, n1, d1, rs⟩ := y
  obtain ⟨w1, w2⟩ := hy
  dsimp only [reaV, reaF] at F w1 w2 ⊢
  (try dsimp only [n_1, n_2, n_3, n_4, List.append_nil, pk, n_5, n_6] at F)
  refine l_op 0 rfl rfl rfl rfl rfl ?_
  refine l_op 2 rfl rfl rfl rfl rfl ?_
  refine l_op 2 rfl rfl rfl rfl rfl ?_
  refine l_op 2 rfl rfl rfl rfl rfl ?_
  refine l_op 0 rfl rfl rfl rfl rfl ?_
  refine l_op 0 rfl rfl rfl rfl rfl ?_
  refine l_op 0 rfl rfl rfl rfl rfl ?_
  refine l_nil (WK.nx (by assumption) ?_)
  refine SeqK.nx (by assumption) ?_
  refine k_seq (fun Q K => ?_)
  refine k_lin (fun W K => ?_)
  refine l_op 0 rfl rfl rfl rfl rfl ?_
  refine l_callp F rfl rfl (by kernel_rfl) rfl rfl (rread_call (Old.pure (F.old h)) hB (by omega)) (fun y s F hy => ?_)
  (try dsimp only [n_1, n_2, n_3, n_4, List.append_nil, pk, n_5, n_6] at F)
  obtain ⟨x2, n2, d2, us⟩ := y
  obtain ⟨v1, v2⟩ := hy
  dsimp only [reaV, reaF] at F v1 v2 ⊢
  have hl1 : rs.length = n1 := (F.has 2 rfl).len eR_len (by decide)
  have hlen := readR_len xs
  rw [← w1, List.length_map] at hlen
  refine l_op 0 rfl rfl rfl rfl rfl ?_
  refine l_op 2 rfl rfl rfl rfl rfl ?_
  refine l_op 2 rfl rfl rfl rfl rfl ?_
  refine l_op 2 rfl rfl rfl rfl rfl ?_
  refine l_op 0 rfl rfl rfl rfl rfl ?_
  refine l_op 0 rfl rfl rfl rfl rfl ?_
  refine l_op 0 rfl rfl rfl rfl rfl ?_
  refine l_nil (WK.nx (by assumption) ?_)
  refine SeqK.nx (by assumption) ?_
  refine k_seq (fun Q K => ?_)
  refine k_lin (fun W K => ?_)
  refine l_op 0 rfl rfl rfl rfl rfl ?_
  refine l_op 0 rfl rfl rfl rfl rfl ?_
  refine l_callp F rfl rfl (by kernel_rfl) rfl rfl (same6_call (Facts.oldR F 1 2 rfl rfl w2) (Facts.oldR F 3 4 rfl rfl v2) (by omega)) (fun z s F hz => ?_)
  obtain rfl : z = true := hz.2 (w1.trans v1.symm)
  (try dsimp only [n_1, n_2, n_3, n_4, List.append_nil, pk, n_5, n_6] at F)
  refine l_op 0 rfl rfl rfl rfl rfl ?_
  refine l_guard rfl rfl rfl (fun hc2 => ?_) (fun hc2 => ?_)
  · try simp only [irr_eq, beq_iff_eq, bne_iff_ne, beq_eq_false_iff_ne, bne_eq_false_iff_eq, ne_eq, decide_eq_true_eq, decide_eq_false_iff_not, Bool.not_eq_true', Bool.not_eq_false'] at hc2
    refine l_op 0 rfl rfl rfl rfl rfl ?_
    refine l_callv rfl rfl (by kernel_rfl) rfl rfl num6_call ?_
    (try dsimp only [n_1, n_2, n_3, n_4, List.append_nil, pk, n_5, n_6] at F)
    refine l_op 0 rfl rfl rfl rfl rfl ?_
    refine l_cmp rfl rfl rfl rfl ?_
    refine l_op 2 rfl rfl rfl rfl rfl ?_
    refine l_op 0 rfl rfl rfl rfl rfl ?_
    refine l_guard rfl rfl rfl (fun hc3 => ?_) (fun hc3 => ?_)
    · first | replace hc3 := eq_of_beq ((irr_eq _).symm.trans hc3) | simp only [irr_eq, beq_iff_eq, beq_eq_false_iff_ne, ne_eq, decide_eq_true_eq, decide_eq_false_iff_not] at hc3
      refine l_op 0 rfl rfl rfl rfl rfl ?_
      refine l_op 0 rfl rfl rfl rfl rfl ?_
      refine l_cmp rfl rfl rfl rfl ?_
      refine l_op 2 rfl rfl rfl rfl rfl ?_
      refine l_op 0 rfl rfl rfl rfl rfl ?_
      refine l_guard rfl rfl rfl (fun hc4 => ?_) (fun hc4 => ?_)
      · first | replace hc4 := eq_of_beq ((irr_eq _).symm.trans hc4) | simp only [irr_eq, beq_iff_eq, beq_eq_false_iff_ne, ne_eq, decide_eq_true_eq, decide_eq_false_iff_not] at hc4
        refine l_op 0 rfl rfl rfl rfl rfl ?_
        refine l_op 0 rfl rfl rfl rfl rfl ?_
        refine l_callp F rfl rfl (by kernel_rfl) rfl rfl (kept_call (xs := xs) (Old.pure (F.has 0 rfl)) (Old.pure (F.old h)) rfl (by omega)) (fun _ s F _ => ?_)
        (try dsimp only [n_1, n_2, n_3, n_4, List.append_nil, pk, n_5, n_6] at F)
        refine l_op 2 rfl rfl rfl rfl rfl ?_
        refine l_op 0 rfl rfl rfl rfl rfl ?_
        refine l_guard rfl rfl rfl (fun hc5 => ?_) (fun hc5 => ?_)
        · try simp only [irr_eq, beq_iff_eq, bne_iff_ne, beq_eq_false_iff_ne, bne_eq_false_iff_eq, ne_eq, decide_eq_true_eq, decide_eq_false_iff_not, Bool.not_eq_true', Bool.not_eq_false'] at hc5
          refine l_callp F rfl rfl (by kernel_rfl) rfl rfl live6_call (fun _ s F _ => ?_)
          (try dsimp only [n_1, n_2, n_3, n_4, List.append_nil, pk, n_5, n_6] at F)
          refine l_op 2 rfl rfl rfl rfl rfl ?_
          refine l_op 0 rfl rfl rfl rfl rfl ?_
          refine l_nil (WK.nx (by assumption) ?_)
          refine SeqK.nx (by assumption) ?_
          refine k_ret ?_
          refine FunK.rt (by assumption) rfl ?_
          -- leaf 2
          first
          | rfl
          | (simp_all; done)
        try simp only [irr_eq, beq_iff_eq, bne_iff_ne, beq_eq_false_iff_ne, bne_eq_false_iff_eq, ne_eq, decide_eq_true_eq, decide_eq_false_iff_not, Bool.not_eq_true', Bool.not_eq_false'] at hc5
        refine l_s rfl rfl ?_
        refine l_op 2 rfl rfl rfl rfl rfl ?_
        refine l_op 0 rfl rfl rfl rfl rfl ?_
        refine l_nil (WK.nx (by assumption) ?_)
        refine SeqK.nx (by assumption) ?_
        refine k_ret ?_
        refine FunK.rt (by assumption) rfl ?_
        -- leaf 3
        first
        | rfl
        | (simp_all; done)
      first | replace hc4 := ne_of_beq_false ((irr_eq _).symm.trans hc4) | simp only [irr_eq, beq_iff_eq, beq_eq_false_iff_ne, ne_eq, decide_eq_true_eq, decide_eq_false_iff_not] at hc4
      refine l_s rfl rfl ?_
      refine l_s rfl rfl ?_
      refine l_s rfl rfl ?_
      refine l_op 2 rfl rfl rfl rfl rfl ?_
      refine l_op 0 rfl rfl rfl rfl rfl ?_
      refine l_s rfl rfl ?_
      refine l_op 2 rfl rfl rfl rfl rfl ?_
      refine l_op 0 rfl rfl rfl rfl rfl ?_
      refine l_nil (WK.nx (by assumption) ?_)
      refine SeqK.nx (by assumption) ?_
      refine k_ret ?_
      refine FunK.rt (by assumption) rfl ?_
      -- leaf 4
      first
      | rfl
      | (simp_all; done)
    first | replace hc3 := ne_of_beq_false ((irr_eq _).symm.trans hc3) | simp only [irr_eq, beq_iff_eq, beq_eq_false_iff_ne, ne_eq, decide_eq_true_eq, decide_eq_false_iff_not] at hc3
    refine l_s rfl rfl ?_
    refine l_s rfl rfl ?_
    refine l_s rfl rfl ?_
    refine l_op 2 rfl rfl rfl rfl rfl ?_
    refine l_op 0 rfl rfl rfl rfl rfl ?_
    refine l_s rfl rfl ?_
    refine l_s rfl rfl ?_
    refine l_s rfl rfl ?_
    refine l_op 2 rfl rfl rfl rfl rfl ?_
    refine l_op 0 rfl rfl rfl rfl rfl ?_
    refine l_s rfl rfl ?_
    refine l_op 2 rfl rfl rfl rfl rfl ?_
    refine l_op 0 rfl rfl rfl rfl rfl ?_
    refine l_nil (WK.nx (by assumption) ?_)
    refine SeqK.nx (by assumption) ?_
    refine k_ret ?_
    refine FunK.rt (by assumption) rfl ?_
    -- leaf 5
    first
    | rfl
    | (simp_all; done)
  try simp only [irr_eq, beq_iff_eq, bne_iff_ne, beq_eq_false_iff_ne, bne_eq_false_iff_eq, ne_eq, decide_eq_true_eq, decide_eq_false_iff_not, Bool.not_eq_true', Bool.not_eq_false'] at hc2
  refine l_s rfl rfl ?_
  refine l_s rfl rfl ?_
  refine l_s rfl rfl ?_
  refine l_s rfl rfl ?_
  refine l_op 2 rfl rfl rfl rfl rfl ?_
  refine l_op 0 rfl rfl rfl rfl rfl ?_
  refine l_s rfl rfl ?_
  refine l_s rfl rfl ?_
  refine l_s rfl rfl ?_
  refine l_op 2 rfl rfl rfl rfl rfl ?_
  refine l_op 0 rfl rfl rfl rfl rfl ?_
  refine l_s rfl rfl ?_
  refine l_s rfl rfl ?_
  refine l_s rfl rfl ?_
  refine l_op 2 rfl rfl rfl rfl rfl ?_
  refine l_op 0 rfl rfl rfl rfl rfl ?_
  refine l_s rfl rfl ?_
  refine l_op 2 rfl rfl rfl rfl rfl ?_
  refine l_op 0 rfl rfl rfl rfl rfl ?_
  refine l_nil (WK.nx (by assumption) ?_)
  refine SeqK.nx (by assumption) ?_
  refine k_ret ?_
  refine FunK.rt (by assumption) rfl ?_
  -- leaf 6
  first
  | rfl
  | (simp_all; done)

theorem er_pl {rs ts : List RS} (h : rs.map er = ts.map er) : rs.map plR = ts.map plR := by
  have e : ∀ L : List RS, (L.map er).map plR = L.map plR := fun L => by rw [List.map_map]; exact List.map_congr_left fun t _ => rfl
  rw [← e rs, h, e ts]
theorem lays_law {σ : AState} {a : Option Addr} {l c : Nat} {ts : List RS} (h : OldR E0 σ a l c ts) :
    SCall Try.prog E0 4 [.slice a l c] σ (fun v _ => v = .bool true) := by
  have htl := h.len
  refine k_fun Try.func4 rfl (m := 40) rfl fun B hD Q K => ?_
  have F := Facts.nil E0 σ
  refine k_seq (fun Q K => ?_)
  refine k_lin (fun W K => ?_)
  refine l_op 0 rfl rfl rfl rfl rfl ?_
  refine l_nil (WK.nx (by assumption) ?_)
  refine SeqK.nx (by assumption) ?_
  refine k_seq (fun Q K => ?_)
  refine k_seq (fun Q K => ?_)
  refine k_lin (fun W K => ?_)
  refine l_op 0 rfl rfl rfl rfl rfl ?_
  refine l_callp F rfl rfl (by kernel_rfl) rfl rfl (huge6_call h (by omega)) (fun hu s F hhu => ?_)
  (try dsimp only [n_1, n_2, n_3, n_4, List.append_nil, pk, n_5, n_6] at F)
  refine l_nil (WK.nx (by assumption) ?_)
  refine SeqK.nx (by assumption) ?_
  refine l_cond rfl rfl (fun hc1 => ?_) (fun hc1 => ?_)
  · try simp only [irr_eq, beq_iff_eq, bne_iff_ne, beq_eq_false_iff_ne, bne_eq_false_iff_eq, ne_eq, decide_eq_true_eq, decide_eq_false_iff_not, Bool.not_eq_true', Bool.not_eq_false'] at hc1
    refine k_seq (fun Q K => ?_)
    refine k_lin (fun W K => ?_)
    refine l_callp F rfl rfl (by kernel_rfl) rfl rfl live6_call (fun _ s F _ => ?_)
    (try dsimp only [n_1, n_2, n_3, n_4, List.append_nil, pk, n_5, n_6] at F)
    refine l_op 0 rfl rfl rfl rfl rfl ?_
    refine l_nil (WK.nx (by assumption) ?_)
    refine SeqK.nx (by assumption) ?_
    refine k_ret ?_
    refine SeqK.rt (by assumption) ?_
    refine FunK.rt (by assumption) rfl ?_
    -- leaf 1
    first
    | rfl
    | (simp_all; done)
  try simp only [irr_eq, beq_iff_eq, bne_iff_ne, beq_eq_false_iff_ne, bne_eq_false_iff_eq, ne_eq, decide_eq_true_eq, decide_eq_false_iff_not, Bool.not_eq_true', Bool.not_eq_false'] at hc1
  obtain ⟨hb1, hb2⟩ := hhu hc1
  refine k_skip ?_
  refine SeqK.nx (by assumption) ?_
  refine k_seq (fun Q K => ?_)
  refine k_lin (fun W K => ?_)
  refine l_op 0 rfl rfl rfl rfl rfl ?_
  refine l_callp F rfl rfl (by kernel_rfl) rfl rfl (copy_call (h.to F) (by omega) (by omega)) (fun y s F hy => ?_)
  (try dsimp only [n_1, n_2, n_3, n_4, List.append_nil, pk, n_5, n_6] at F)
  obtain ⟨x, m, d, rs⟩ := y
  dsimp only [reaF] at F hy ⊢
  have hrl : rs.length = m := (F.has 1 rfl).len eR_len (by decide)
  have hre := congrArg List.length hy
  rw [List.length_map, List.length_map] at hre
  have hsum : sumR rs = sumR ts := by rw [← er_sum rs, hy, er_sum]
  (try dsimp only [n_1, n_2, n_3, n_4, List.append_nil, pk, n_5, n_6] at F)
  refine l_op 0 rfl rfl rfl rfl rfl ?_
  refine l_nil (WK.nx (by assumption) ?_)
  refine SeqK.nx (by assumption) ?_
  refine k_seq (fun Q K => ?_)
  refine k_lin (fun W K => ?_)
  refine l_op 0 rfl rfl rfl rfl rfl ?_
  refine l_callp F rfl rfl (by kernel_rfl) rfl rfl (lay_call (oldR_copy h F 0 1 rfl rfl hy) (by omega) (by omega)) (fun y s F hy1 => ?_)
  (try dsimp only [n_1, n_2, n_3, n_4, List.append_nil, pk, n_5, n_6] at F)
  obtain ⟨e1, x1, n1, d1, b1⟩ := y
  dsimp only at F hy1 ⊢
  (try dsimp only [n_1, n_2, n_3, n_4, List.append_nil, pk, n_5, n_6] at F)
  refine l_op 0 rfl rfl rfl rfl rfl ?_
  refine l_op 2 rfl rfl rfl rfl rfl ?_
  refine l_op 2 rfl rfl rfl rfl rfl ?_
  refine l_op 0 rfl rfl rfl rfl rfl ?_
  refine l_op 0 rfl rfl rfl rfl rfl ?_
  refine l_nil (WK.nx (by assumption) ?_)
  refine SeqK.nx (by assumption) ?_
  refine k_seq (fun Q K => ?_)
  refine k_lin (fun W K => ?_)
  refine l_op 0 rfl rfl rfl rfl rfl ?_
  refine l_callp F rfl rfl (by kernel_rfl) rfl rfl (rlay_call (h.to F) (by omega) (by omega)) (fun y s F hy2 => ?_)
  (try dsimp only [n_1, n_2, n_3, n_4, List.append_nil, pk, n_5, n_6] at F)
  obtain ⟨e2, x2, n2, d2, b2⟩ := y
  dsimp only at F hy2 ⊢
  obtain ⟨rfl, rfl⟩ := lay_det (lay_core hy hy1) hy2 (F.len8 2 rfl) (F.len8 3 rfl)
  refine l_op 0 rfl rfl rfl rfl rfl ?_
  refine l_op 2 rfl rfl rfl rfl rfl ?_
  refine l_op 2 rfl rfl rfl rfl rfl ?_
  refine l_op 0 rfl rfl rfl rfl rfl ?_
  refine l_op 0 rfl rfl rfl rfl rfl ?_
  refine l_nil (WK.nx (by assumption) ?_)
  refine SeqK.nx (by assumption) ?_
  refine k_seq (fun Q K => ?_)
  refine k_lin (fun W K => ?_)
  refine l_op 0 rfl rfl rfl rfl rfl ?_
  refine l_op 0 rfl rfl rfl rfl rfl ?_
  refine l_callp F rfl rfl (by kernel_rfl) rfl rfl (same_call (Old.pure (F.has 2 rfl)) (Old.pure (F.has 3 rfl))) (fun _ s F _ => ?_)
  refine l_op 0 rfl rfl rfl rfl rfl ?_
  refine l_guard rfl rfl rfl (fun hc2 => ?_) (fun hc2 => ?_)
  · try simp only [irr_eq, beq_iff_eq, bne_iff_ne, beq_eq_false_iff_ne, bne_eq_false_iff_eq, ne_eq, decide_eq_true_eq, decide_eq_false_iff_not, Bool.not_eq_true', Bool.not_eq_false'] at hc2
    refine l_op 0 rfl rfl rfl rfl rfl ?_
    refine l_callv rfl rfl (by kernel_rfl) rfl rfl num6_call ?_
    (try dsimp only [n_1, n_2, n_3, n_4, List.append_nil, pk, n_5, n_6] at F)
    refine l_op 0 rfl rfl rfl rfl rfl ?_
    refine l_cmp rfl rfl rfl rfl ?_
    refine l_op 2 rfl rfl rfl rfl rfl ?_
    refine l_op 0 rfl rfl rfl rfl rfl ?_
    refine l_guard rfl rfl rfl (fun hc3 => ?_) (fun hc3 => ?_)
    · first | replace hc3 := eq_of_beq ((irr_eq _).symm.trans hc3) | simp only [irr_eq, beq_iff_eq, beq_eq_false_iff_ne, ne_eq, decide_eq_true_eq, decide_eq_false_iff_not] at hc3
      refine l_op 0 rfl rfl rfl rfl rfl ?_
      refine l_op 0 rfl rfl rfl rfl rfl ?_
      refine l_callp F rfl rfl (by kernel_rfl) rfl rfl (same6_call (h.to F) (oldR_copy h F 0 1 rfl rfl hy) (by omega)) (fun z s F hz => ?_)
      obtain rfl : z = true := hz.2 (er_pl hy).symm
      refine l_op 2 rfl rfl rfl rfl rfl ?_
      refine l_op 0 rfl rfl rfl rfl rfl ?_
      refine l_guard rfl rfl rfl (fun hc4 => ?_) (fun hc4 => ?_)
      · try simp only [irr_eq, beq_iff_eq, bne_iff_ne, beq_eq_false_iff_ne, bne_eq_false_iff_eq, ne_eq, decide_eq_true_eq, decide_eq_false_iff_not, Bool.not_eq_true', Bool.not_eq_false'] at hc4
        refine l_callp F rfl rfl (by kernel_rfl) rfl rfl live6_call (fun _ s F _ => ?_)
        (try dsimp only [n_1, n_2, n_3, n_4, List.append_nil, pk, n_5, n_6] at F)
        refine l_op 2 rfl rfl rfl rfl rfl ?_
        refine l_op 0 rfl rfl rfl rfl rfl ?_
        refine l_nil (WK.nx (by assumption) ?_)
        refine SeqK.nx (by assumption) ?_
        refine k_ret ?_
        refine FunK.rt (by assumption) rfl ?_
        -- leaf 2
        first
        | rfl
        | (simp_all; done)
      try simp only [irr_eq, beq_iff_eq, bne_iff_ne, beq_eq_false_iff_ne, bne_eq_false_iff_eq, ne_eq, decide_eq_true_eq, decide_eq_false_iff_not, Bool.not_eq_true', Bool.not_eq_false'] at hc4
      refine l_s rfl rfl ?_
      refine l_op 2 rfl rfl rfl rfl rfl ?_
      refine l_op 0 rfl rfl rfl rfl rfl ?_
      refine l_nil (WK.nx (by assumption) ?_)
      refine SeqK.nx (by assumption) ?_
      refine k_ret ?_
      refine FunK.rt (by assumption) rfl ?_
      -- leaf 3
      first
      | rfl
      | (simp_all; done)
    first | replace hc3 := ne_of_beq_false ((irr_eq _).symm.trans hc3) | simp only [irr_eq, beq_iff_eq, beq_eq_false_iff_ne, ne_eq, decide_eq_true_eq, decide_eq_false_iff_not] at hc3
    refine l_s rfl rfl ?_
    refine l_s rfl rfl ?_
    refine l_s rfl rfl ?_
    refine l_op 2 rfl rfl rfl rfl rfl ?_
    refine l_op 0 rfl rfl rfl rfl rfl ?_
    refine l_s rfl rfl ?_
    refine l_op 2 rfl rfl rfl rfl rfl ?_
    refine l_op 0 rfl rfl rfl rfl rfl ?_
    refine l_nil (WK.nx (by assumption) ?_)
    refine SeqK.nx (by assumption) ?_
    refine k_ret ?_
    refine FunK.rt (by assumption) rfl ?_
    -- leaf 4
    first
    | rfl
    | (simp_all; done)
  exact absurd hc2 (by rw [irr_eq, eqS_self]; decide)
theorem games_law {σ : AState} {b : Option Addr} {l d : Nat} {xs : List Int} (h : Old E0 σ b l d 1 (u8l xs)) (hB : Bytes xs) :
    SCall Try.prog E0 5 [.slice b l d] σ (fun v _ => v = .bool true) := by
  have hxl := h.len8
  refine k_fun Try.func5 rfl (m := 51) rfl fun B hD Q K => ?_
  have F := Facts.nil E0 σ
  refine k_seq (fun Q K => ?_)
  refine k_lin (fun W K => ?_)
  refine l_op 0 rfl rfl rfl rfl rfl ?_
  refine l_nil (WK.nx (by assumption) ?_)
  refine SeqK.nx (by assumption) ?_
  refine k_seq (fun Q K => ?_)
  refine k_seq (fun Q K => ?_)
  refine k_lin (fun W K => ?_)
  refine l_op 0 rfl rfl rfl rfl rfl ?_
  first | refine l_op 2 rfl rfl rfl rfl rfl ?_ | refine l_ln rfl rfl rfl rfl ?_
  refine l_cmp rfl rfl rfl rfl ?_
  refine l_nil (WK.nx (by assumption) ?_)
  refine SeqK.nx (by assumption) ?_
  refine l_cond rfl rfl (fun hc1 => ?_) (fun hc1 => ?_)
  · replace hc1 := of_decide_eq_true ((irr_eq _).symm.trans hc1)
    refine k_seq (fun Q K => ?_)
    refine k_lin (fun W K => ?_)
    refine l_callp F rfl rfl (by kernel_rfl) rfl rfl live6_call (fun _ s F _ => ?_)
    (try dsimp only [n_1, n_2, n_3, n_4, List.append_nil, pk, n_5, n_6] at F)
    refine l_op 0 rfl rfl rfl rfl rfl ?_
    refine l_nil (WK.nx (by assumption) ?_)
    refine SeqK.nx (by assumption) ?_
    refine k_ret ?_
    refine SeqK.rt (by assumption) ?_
    refine FunK.rt (by assumption) rfl ?_
    -- leaf 1
    first
    | rfl
    | (simp_all; done)
  replace hc1 := of_decide_eq_false ((irr_eq _).symm.trans hc1)
  refine k_skip ?_
  refine SeqK.nx (by assumption) ?_
  refine k_seq (fun Q K => ?_)
  refine k_lin (fun W K => ?_)
  refine l_op 0 rfl rfl rfl rfl rfl ?_
  refine l_callp F rfl rfl (by kernel_rfl) rfl rfl (lent_call (Old.pure (F.old h)) (by omega)) (fun yl s F _ => ?_)
  (try dsimp only [n_1, n_2, n_3, n_4, List.append_nil, pk, n_5, n_6] at F)
  have hmk := old_mark F 0 rfl hxl
  (try dsimp only [n_1, n_2, n_3, n_4, List.append_nil, pk, n_5, n_6] at F)
  refine l_op 0 rfl rfl rfl rfl rfl ?_
  refine l_nil (WK.nx (by assumption) ?_)
  refine SeqK.nx (by assumption) ?_
  refine k_seq (fun Q K => ?_)
  refine k_lin (fun W K => ?_)
  refine l_op 0 rfl rfl rfl rfl rfl ?_
  refine l_callp F rfl rfl (by kernel_rfl) rfl rfl (game_call (old_mark F 0 rfl hxl).1 hB (by omega) (.inr (by omega))) (fun y s F hy => ?_)
  (try dsimp only [n_1, n_2, n_3, n_4, List.append_nil, pk, n_5, n_6] at F)
  obtain ⟨x1, n1, d1, g1⟩ := y
  dsimp only [gamV, gamF, GamP] at F hy ⊢
  (try dsimp only [n_1, n_2, n_3, n_4, List.append_nil, pk, n_5, n_6] at F)
  refine l_op 0 rfl rfl rfl rfl rfl ?_
  refine l_op 2 rfl rfl rfl rfl rfl ?_
  refine l_op 2 rfl rfl rfl rfl rfl ?_
  refine l_op 2 rfl rfl rfl rfl rfl ?_
  refine l_op 0 rfl rfl rfl rfl rfl ?_
  refine l_op 0 rfl rfl rfl rfl rfl ?_
  refine l_op 0 rfl rfl rfl rfl rfl ?_
  refine l_nil (WK.nx (by assumption) ?_)
  refine SeqK.nx (by assumption) ?_
  refine k_seq (fun Q K => ?_)
  refine k_lin (fun W K => ?_)
  refine l_op 0 rfl rfl rfl rfl rfl ?_
  refine l_callp F rfl rfl (by kernel_rfl) rfl rfl (rgame_call (Old.pure (F.old h)) hB (by omega)) (fun y s F hy2 => ?_)
  (try dsimp only [n_1, n_2, n_3, n_4, List.append_nil, pk, n_5, n_6] at F)
  obtain ⟨x2, n2, d2, g2⟩ := y
  dsimp only [gamV, gamF, GamP] at F hy2 ⊢
  obtain rfl : g1 = g2 := hy.1.trans hy2.1.symm
  have hn1 := hy.2
  refine l_op 0 rfl rfl rfl rfl rfl ?_
  refine l_op 2 rfl rfl rfl rfl rfl ?_
  refine l_op 2 rfl rfl rfl rfl rfl ?_
  refine l_op 2 rfl rfl rfl rfl rfl ?_
  refine l_op 0 rfl rfl rfl rfl rfl ?_
  refine l_op 0 rfl rfl rfl rfl rfl ?_
  refine l_op 0 rfl rfl rfl rfl rfl ?_
  refine l_nil (WK.nx (by assumption) ?_)
  refine SeqK.nx (by assumption) ?_
  refine k_seq (fun Q K => ?_)
  refine k_seq (fun Q K => ?_)
  refine k_lin (fun W K => ?_)
  refine l_op 0 rfl rfl rfl rfl rfl ?_
  refine l_op 0 rfl rfl rfl rfl rfl ?_
  refine l_callp F rfl rfl (by kernel_rfl) rfl rfl (same_call (Old.pure (F.has 1 rfl)) (Old.pure (F.has 2 rfl))) (fun _ s F _ => ?_)
  refine l_op 2 rfl rfl rfl rfl rfl ?_
  refine l_op 0 rfl rfl rfl rfl rfl ?_
  refine l_guard rfl rfl rfl (fun hc2 => ?_) (fun hc2 => ?_)
  · exact absurd hc2 (by rw [irr_eq, eqS_self]; decide)
  try simp only [irr_eq, beq_iff_eq, bne_iff_ne, beq_eq_false_iff_ne, bne_eq_false_iff_eq, ne_eq, decide_eq_true_eq, decide_eq_false_iff_not, Bool.not_eq_true', Bool.not_eq_false'] at hc2
  refine l_op 0 rfl rfl rfl rfl rfl ?_
  refine l_callv rfl rfl (by kernel_rfl) rfl rfl num6_call ?_
  (try dsimp only [n_1, n_2, n_3, n_4, List.append_nil, pk, n_5, n_6] at F)
  refine l_op 0 rfl rfl rfl rfl rfl ?_
  refine l_cmp rfl rfl rfl rfl ?_
  refine l_op 2 rfl rfl rfl rfl rfl ?_
  refine l_op 0 rfl rfl rfl rfl rfl ?_
  refine l_guard rfl rfl rfl (fun hc3 => ?_) (fun hc3 => ?_)
  · first | replace hc3 := bne_iff_ne.1 ((irr_eq _).symm.trans hc3) | simp only [irr_eq, bne_iff_ne, bne_eq_false_iff_eq, ne_eq, decide_eq_true_eq, decide_eq_false_iff_not, Bool.not_eq_true', Bool.not_eq_false'] at hc3
    exact absurd rfl hc3
  first | replace hc3 := bne_eq_false_iff_eq.1 ((irr_eq _).symm.trans hc3) | simp only [irr_eq, bne_iff_ne, bne_eq_false_iff_eq, ne_eq, decide_eq_true_eq, decide_eq_false_iff_not, Bool.not_eq_true', Bool.not_eq_false'] at hc3
  refine l_op 0 rfl rfl rfl rfl rfl ?_
  refine l_op 0 rfl rfl rfl rfl rfl ?_
  refine l_cmp rfl rfl rfl rfl ?_
  refine l_op 2 rfl rfl rfl rfl rfl ?_
  refine l_nil (WK.nx (by assumption) ?_)
  refine SeqK.nx (by assumption) ?_
  refine l_cond rfl rfl (fun hc4 => ?_) (fun hc4 => ?_)
  · first | replace hc4 := bne_iff_ne.1 ((irr_eq _).symm.trans hc4) | simp only [irr_eq, bne_iff_ne, bne_eq_false_iff_eq, ne_eq, decide_eq_true_eq, decide_eq_false_iff_not, Bool.not_eq_true', Bool.not_eq_false'] at hc4
    exact absurd rfl hc4
  first | replace hc4 := bne_eq_false_iff_eq.1 ((irr_eq _).symm.trans hc4) | simp only [irr_eq, bne_iff_ne, bne_eq_false_iff_eq, ne_eq, decide_eq_true_eq, decide_eq_false_iff_not, Bool.not_eq_true', Bool.not_eq_false'] at hc4
  refine k_skip ?_
  refine SeqK.nx (by assumption) ?_
  refine k_seq (fun Q K => ?_)
  refine k_lin (fun W K => ?_)
  refine l_op 0 rfl rfl rfl rfl rfl ?_
  refine l_call F [1] [0, 2] (by decide) rfl rfl (by kernel_rfl) rfl rfl (spoil_call (F.sub [1] (by decide)) (by omega)) hD (fun y s F hy => ?_)
  (try dsimp only [n_1, n_2, n_3, n_4, List.append_nil, pk, n_5, n_6] at F)
  refine l_nil (WK.nx (by assumption) ?_)
  refine SeqK.nx (by assumption) ?_
  refine k_seq (fun Q K => ?_)
  refine k_lin (fun W K => ?_)
  refine l_op 0 rfl rfl rfl rfl rfl ?_
  refine l_op 0 rfl rfl rfl rfl rfl ?_
  refine l_callp F rfl rfl (by kernel_rfl) rfl rfl (kept_call (xs := xs) (Old.pure (F.has 0 rfl)) (Old.pure (F.old h)) rfl (by omega)) (fun _ s F _ => ?_)
  (try dsimp only [n_1, n_2, n_3, n_4, List.append_nil, pk, n_5, n_6] at F)
  refine l_op 0 rfl rfl rfl rfl rfl ?_
  refine l_guard rfl rfl rfl (fun hc5 => ?_) (fun hc5 => ?_)
  · try simp only [irr_eq, beq_iff_eq, bne_iff_ne, beq_eq_false_iff_ne, bne_eq_false_iff_eq, ne_eq, decide_eq_true_eq, decide_eq_false_iff_not, Bool.not_eq_true', Bool.not_eq_false'] at hc5
    refine l_callp F rfl rfl (by kernel_rfl) rfl rfl live6_call (fun _ s F _ => ?_)
    (try dsimp only [n_1, n_2, n_3, n_4, List.append_nil, pk, n_5, n_6] at F)
    refine l_op 2 rfl rfl rfl rfl rfl ?_
    refine l_op 0 rfl rfl rfl rfl rfl ?_
    refine l_nil (WK.nx (by assumption) ?_)
    refine SeqK.nx (by assumption) ?_
    refine k_ret ?_
    refine FunK.rt (by assumption) rfl ?_
    -- leaf 2
    first
    | rfl
    | (simp_all; done)
  try simp only [irr_eq, beq_iff_eq, bne_iff_ne, beq_eq_false_iff_ne, bne_eq_false_iff_eq, ne_eq, decide_eq_true_eq, decide_eq_false_iff_not, Bool.not_eq_true', Bool.not_eq_false'] at hc5
  refine l_s rfl rfl ?_
  refine l_op 2 rfl rfl rfl rfl rfl ?_
  refine l_op 0 rfl rfl rfl rfl rfl ?_
  refine l_nil (WK.nx (by assumption) ?_)
  refine SeqK.nx (by assumption) ?_
  refine k_ret ?_
  refine FunK.rt (by assumption) rfl ?_
  -- leaf 3
  first
  | rfl
  | (simp_all; done)

end Go.Proofs.Ytkmkbpnlccomnaa
