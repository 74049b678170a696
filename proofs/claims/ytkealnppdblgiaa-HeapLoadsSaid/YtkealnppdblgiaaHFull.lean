/- What is left is found, and no byte more. No statement of the seat is proved in this text. -/
import Derived.Test.YtkealnppdblgiaaHLive
set_option linter.unusedVariables false
set_option linter.unusedSimpArgs false
set_option maxRecDepth 100000
set_option maxHeartbeats 4000000
namespace Go.Proofs.Ytkealnppdblgiaa
open GAb Go

theorem alignR_ok {x : Int} (h : (x + 255) / 256 * 256 ≤ 4294967295) : alignR x = ((x + 255) / 256 * 256, true) := if_neg (by omega)
theorem alignR_no {x : Int} (h : ¬ (x + 255) / 256 * 256 ≤ 4294967295) : alignR x = (0, false) := if_pos (by omega)
section
variable {most s0 e0 st en n p i : Int} {bl : List (Int × Int)}
theorem mallocA_in (h : placeR n st bl = (p, i)) (h1 : p + n ≤ en) : mallocA most s0 e0 st en bl n = ⟨p, true, st, en, ins bl i (p, n)⟩ := by
  unfold mallocA; rw [h]; exact if_neg (by dsimp only; omega)
theorem mallocA_top (h : placeR n st bl = (p, i)) (h1 : en < p + n) (h2 : (p + n + 255) / 256 * 256 ≤ most) (hm : most ≤ 4294967295) : mallocA most s0 e0 st en bl n = ⟨p, true, st, (p + n + 255) / 256 * 256, ins bl i (p, n)⟩ := by
  unfold mallocA; rw [h]
  dsimp only
  rw [if_pos h1, if_neg (by omega), alignR_ok (by omega), if_neg (by simp), if_neg (by dsimp only; omega)]
theorem mallocA_no (h : placeR n st bl = (p, i)) (h1 : en < p + n) (h2 : most < (p + n + 255) / 256 * 256) : mallocA most s0 e0 st en bl n = ⟨0, false, s0, e0, bl⟩ := by
  unfold mallocA; rw [h]
  dsimp only
  rw [if_pos h1]
  by_cases h3 : p + n > most
  · rw [if_pos h3]
  · rw [if_neg h3]
    by_cases ha : (p + n + 255) / 256 * 256 ≤ 4294967295
    · rw [alignR_ok ha, if_neg (by simp), if_pos (by dsimp only; omega)]
    · rw [alignR_no ha, if_pos rfl]
theorem mallocR_on (h0 : n ≠ 0) (h1 : bl ≠ []) (h2 : bl.length ≠ 4096) {e : Int} : mallocR most st en bl n e = mallocA most st en st en bl n := by
  have : bl.length ≠ 0 := fun h => h1 (List.eq_nil_of_length_eq_zero h)
  unfold mallocR
  rw [if_neg h0, if_neg (by omega), if_neg (by omega)]
theorem mallocR_new (h0 : n ≠ 0) {e : Int} (h1 : e ≠ 0) (h2 : e % 256 = 0) (h3 : e ≤ most) : mallocR most st en [] n e = mallocA most st en e e [] n := by
  unfold mallocR
  rw [if_neg h0, if_neg (by simp), if_pos (by simp), if_neg h1, if_neg (by omega), if_neg (by omega)]
theorem mallocR_none {e : Int} (h : n = 0 ∨ bl.length = 4096 ∨ bl = [] ∧ (e = 0 ∨ e % 256 ≠ 0 ∨ e > most)) : mallocR most st en bl n e = ⟨0, false, st, en, bl⟩ := by
  unfold mallocR
  split
  · rfl
  split
  · rfl
  split
  · split
    · rfl
    split
    · rfl
    split
    · rfl
    omega
  · rcases h with h | h | ⟨rfl, _⟩
    · omega
    · omega
    · simp_all
end
theorem first_ok {most e n : Int} (hm : most ≤ 4294967295) (h0 : 0 < n) (h1 : 0 < e) (h2 : e % 256 = 0) (h3 : e + n ≤ most - most % 256) : mallocR most 0 0 [] n e = ⟨e, true, e, (e + n + 255) / 256 * 256, [(e, n)]⟩ := by
  rw [mallocR_new (by omega) (by omega) h2 (by omega), mallocA_top (show placeR n e [] = (e, 0) from rfl) (by omega) (by omega) hm]
  rfl
theorem first_no {most e n : Int} (hm : 0 ≤ most) (h0 : 0 ≤ n) (h1 : 0 ≤ e) (h : n = 0 ∨ e = 0 ∨ e % 256 ≠ 0 ∨ e > most ∨ e + n > most - most % 256) : mallocR most 0 0 [] n e = ⟨0, false, 0, 0, []⟩ := by
  by_cases h2 : n = 0 ∨ e = 0 ∨ e % 256 ≠ 0 ∨ e > most
  · exact mallocR_none (by rcases h2 with h | h; exact .inl h; exact .inr (.inr ⟨rfl, h⟩))
  · rw [mallocR_new (by omega) (by omega) (by omega) (by omega), mallocA_no (show placeR n e [] = (e, 0) from rfl) (by omega) (by omega)]
theorem more_no {most e n : Int} (hm : most ≤ 4294967295) (h0 : 0 < n) (h1 : 0 < e) (h2 : e % 256 = 0) (h3 : e + n ≤ most - most % 256) :
    mallocR most e ((e + n + 255) / 256 * 256) [(e, n)] (most - most % 256 - e - n + 1) 0 = ⟨0, false, e, (e + n + 255) / 256 * 256, [(e, n)]⟩ := by
  have hp : placeR (most - most % 256 - e - n + 1) e [(e, n)] = (e + n, 0 + 1) := if_neg (by dsimp only; omega)
  rw [mallocR_on (by omega) (by simp) (by simp), mallocA_no hp (by omega) (by omega)]
theorem left_ok {most e n : Int} (hm : most ≤ 4294967295) (h0 : 0 < n) (h1 : 0 < e) (h2 : e % 256 = 0) (h3 : e + n < most - most % 256) :
    mallocR most e ((e + n + 255) / 256 * 256) [(e, n)] (most - most % 256 - e - n) 0 = ⟨e + n, true, e, most - most % 256, [(e, n), (e + n, most - most % 256 - e - n)]⟩ := by
  have hp : placeR (most - most % 256 - e - n) e [(e, n)] = (e + n, 0 + 1) := if_neg (by dsimp only; omega)
  have e1 : e + n + (most - most % 256 - e - n) = most - most % 256 := by omega
  rw [mallocR_on (by omega) (by simp) (by simp)]
  by_cases h5 : most - most % 256 > (e + n + 255) / 256 * 256
  · have e2 : (most - most % 256 + 255) / 256 * 256 = most - most % 256 := by omega
    rw [mallocA_top hp (by omega) (by rw [e1]; omega) hm, e1, e2]
    rfl
  · have e2 : (e + n + 255) / 256 * 256 = most - most % 256 := by omega
    rw [mallocA_in hp (by omega), e2]
    rfl
theorem left_no {most e n st en : Int} {bl : List (Int × Int)} : mallocR most st en bl 0 e = ⟨0, false, st, en, bl⟩ := by
  rw [mallocR, if_pos rfl]

theorem full_law {σ : AState} {most e n : Int} (hm : U32 most) (he : U32 e) (hn : U32 n) :
    SCall Try.prog E0 4 [.int .u32 most, .int .u32 e, .int .u32 n] σ (fun v _ => v = .bool true) := by
  obtain ⟨m0, m1⟩ := hm
  obtain ⟨e0, e1⟩ := he
  obtain ⟨n0, n1⟩ := hn
  have hEx0 : Ex none := .inl rfl
  by_cases h : 0 < n ∧ 0 < e ∧ e % 256 = 0 ∧ e + n ≤ most - most % 256
  · obtain ⟨g0, g1, g2, g3⟩ := h
    have hb1 : BlkOK [(e, n)] := fun x hx => by simp at hx; subst hx; exact ⟨⟨e0, e1⟩, ⟨n0, n1⟩⟩
    obtain ⟨r3, hr3, hr3a⟩ : ∃ r : HR, mallocR most e ((e + n + 255) / 256 * 256) [(e, n)] (most - most % 256 - e - n) 0 = r ∧ ((e + n < most - most % 256 ∧ r.ret = e + n ∧ r.ok = true ∧ r.en = most - most % 256) ∨ (e + n = most - most % 256 ∧ r.ok = false)) := by
      by_cases h5 : e + n < most - most % 256
      · exact ⟨_, left_ok m1 g0 g1 g2 h5, .inl ⟨h5, rfl, rfl, rfl⟩⟩
      · have h6 : most - most % 256 - e - n = 0 := by omega
        rw [h6]
        exact ⟨_, left_no (n := n), .inr ⟨by omega, rfl⟩⟩
    refine k_fun Try.func4 rfl (m := 142) rfl fun B hD Q K => ?_
    have F := Facts.nil E0 σ
    refine k_seq (fun Q K => ?_)
    refine k_lin (fun W K => ?_)
    refine l_op 0 rfl rfl rfl rfl rfl ?_
    refine l_nil (WK.nx (by assumption) ?_)
    refine SeqK.nx (by assumption) ?_
    refine k_seq (fun Q K => ?_)
    refine k_lin (fun W K => ?_)
    refine l_op 0 rfl rfl rfl rfl rfl ?_
    refine l_callp F rfl rfl (by kernel_rfl) rfl rfl (new_call (most := most)) (fun m s F _ => ?_)
    (try dsimp only [n_1, n_2, n_3, n_4, List.append_nil, pk, n_5, n_6] at F)
    refine l_op 0 rfl rfl rfl rfl rfl ?_
    refine l_nil (WK.nx (by assumption) ?_)
    refine SeqK.nx (by assumption) ?_
    refine k_seq (fun Q K => ?_)
    refine k_seq (fun Q K => ?_)
    refine k_lin (fun W K => ?_)
    refine l_op 0 rfl rfl rfl rfl rfl ?_
    refine l_cmp rfl rfl rfl rfl ?_
    refine l_nil (WK.nx (by assumption) ?_)
    refine SeqK.nx (by assumption) ?_
    refine l_cond rfl rfl (fun hc1 => ?_) (fun hc1 => ?_)
    · exact absurd ((irr_eq _).symm.trans hc1) (by decide)
    first | replace hc1 := ne_of_beq_false ((irr_eq _).symm.trans hc1) | simp only [irr_eq, beq_iff_eq, beq_eq_false_iff_ne, ne_eq, decide_eq_true_eq, decide_eq_false_iff_not] at hc1
    refine k_skip ?_
    refine SeqK.nx (by assumption) ?_
    refine k_seq (fun Q K => ?_)
    refine k_lin (fun W K => ?_)
    refine l_op 0 rfl rfl rfl rfl rfl ?_
    refine l_op 0 rfl rfl rfl rfl rfl ?_
    refine l_op 0 rfl rfl rfl rfl rfl ?_
    refine l_call F [0, 1] [] (by decide) rfl rfl (by kernel_rfl) rfl rfl (malloc_callR (first_ok m1 g0 g1 g2 g3) (F.sub [0, 1] (by decide)) hEx0 (blkOK_lit _ (by decide)) (by decide) ⟨m0, m1⟩ (by decide) (by decide) ⟨n0, n1⟩ ⟨e0, e1⟩) hD (fun y1 s F hy1 => ?_)
    (try dsimp only [n_1, n_2, n_3, n_4, List.append_nil, pk, n_5, n_6] at F)
    refine l_op 0 rfl rfl rfl rfl rfl ?_
    refine l_op 2 rfl rfl rfl rfl rfl ?_
    refine l_op 2 rfl rfl rfl rfl rfl ?_
    refine l_op 0 rfl rfl rfl rfl rfl ?_
    refine l_op 0 rfl rfl rfl rfl rfl ?_
    refine l_nil (WK.nx (by assumption) ?_)
    refine SeqK.nx (by assumption) ?_
    refine k_seq (fun Q K => ?_)
    refine k_seq (fun Q K => ?_)
    refine k_lin (fun W K => ?_)
    refine l_op 0 rfl rfl rfl rfl rfl ?_
    refine l_op 2 rfl rfl rfl rfl rfl ?_
    refine l_nil (WK.nx (by assumption) ?_)
    refine SeqK.nx (by assumption) ?_
    refine l_cond rfl rfl (fun hc2 => ?_) (fun hc2 => ?_)
    · cases hc2
    try simp only [irr_eq, beq_iff_eq, bne_iff_ne, beq_eq_false_iff_ne, bne_eq_false_iff_eq, ne_eq, decide_eq_true_eq, decide_eq_false_iff_not, Bool.not_eq_true', Bool.not_eq_false'] at hc2
    refine k_skip ?_
    refine SeqK.nx (by assumption) ?_
    refine k_seq (fun Q K => ?_)
    refine k_seq (fun Q K => ?_)
    refine k_lin (fun W K => ?_)
    refine l_op 0 rfl rfl rfl rfl rfl ?_
    refine l_op 0 rfl rfl rfl rfl rfl ?_
    refine l_cmp rfl rfl rfl rfl ?_
    refine l_op 0 rfl rfl rfl rfl rfl ?_
    refine l_guard rfl rfl rfl (fun hc3 => ?_) (fun hc3 => ?_)
    · first | replace hc3 := bne_iff_ne.1 ((irr_eq _).symm.trans hc3) | simp only [irr_eq, bne_iff_ne, bne_eq_false_iff_eq, ne_eq, decide_eq_true_eq, decide_eq_false_iff_not, Bool.not_eq_true', Bool.not_eq_false'] at hc3
      dsimp only at hc3; omega
    first | replace hc3 := bne_eq_false_iff_eq.1 ((irr_eq _).symm.trans hc3) | simp only [irr_eq, bne_iff_ne, bne_eq_false_iff_eq, ne_eq, decide_eq_true_eq, decide_eq_false_iff_not, Bool.not_eq_true', Bool.not_eq_false'] at hc3
    refine l_op 0 rfl rfl rfl rfl rfl ?_
    refine l_callp F rfl rfl (by kernel_rfl) rfl rfl (start_call (F.cel0 0 rfl)) (fun _ s F _ => ?_)
    (try dsimp only [n_1, n_2, n_3, n_4, List.append_nil, pk, n_5, n_6] at F)
    refine l_op 0 rfl rfl rfl rfl rfl ?_
    refine l_cmp rfl rfl rfl rfl ?_
    refine l_op 2 rfl rfl rfl rfl rfl ?_
    refine l_nil (WK.nx (by assumption) ?_)
    refine SeqK.nx (by assumption) ?_
    refine l_cond rfl rfl (fun hc4 => ?_) (fun hc4 => ?_)
    · first | replace hc4 := bne_iff_ne.1 ((irr_eq _).symm.trans hc4) | simp only [irr_eq, bne_iff_ne, bne_eq_false_iff_eq, ne_eq, decide_eq_true_eq, decide_eq_false_iff_not, Bool.not_eq_true', Bool.not_eq_false'] at hc4
      omega
    first | replace hc4 := bne_eq_false_iff_eq.1 ((irr_eq _).symm.trans hc4) | simp only [irr_eq, bne_iff_ne, bne_eq_false_iff_eq, ne_eq, decide_eq_true_eq, decide_eq_false_iff_not, Bool.not_eq_true', Bool.not_eq_false'] at hc4
    refine k_skip ?_
    refine SeqK.nx (by assumption) ?_
    refine k_seq (fun Q K => ?_)
    refine k_lin (fun W K => ?_)
    refine l_op 0 rfl rfl rfl rfl rfl ?_
    refine l_op 0 rfl rfl rfl rfl rfl ?_
    first | refine l_remn rfl rfl rfl rfl rfl (by omega) rfl ?_ | refine l_rem rfl rfl rfl rfl rfl (by omega) rfl ?_
    refine l_a32 rfl rfl rfl (by omega) rfl ?_
    refine l_op 0 rfl rfl rfl rfl rfl ?_
    refine l_a32 rfl rfl rfl (by omega) rfl ?_
    refine l_op 0 rfl rfl rfl rfl rfl ?_
    refine l_a32 rfl rfl rfl (by omega) rfl ?_
    refine l_op 0 rfl rfl rfl rfl rfl ?_
    refine l_nil (WK.nx (by assumption) ?_)
    refine SeqK.nx (by assumption) ?_
    refine k_seq (fun Q K => ?_)
    refine k_lin (fun W K => ?_)
    refine l_op 0 rfl rfl rfl rfl rfl ?_
    refine l_callp F rfl rfl (by kernel_rfl) rfl rfl (end_call (F.cel0 0 rfl)) (fun _ s F _ => ?_)
    (try dsimp only [n_1, n_2, n_3, n_4, List.append_nil, pk, n_5, n_6] at F)
    refine l_op 0 rfl rfl rfl rfl rfl ?_
    refine l_nil (WK.nx (by assumption) ?_)
    refine SeqK.nx (by assumption) ?_
    refine k_seq (fun Q K => ?_)
    refine k_lin (fun W K => ?_)
    refine l_op 0 rfl rfl rfl rfl rfl ?_
    refine l_op 0 rfl rfl rfl rfl rfl ?_
    refine l_a32 rfl rfl rfl (by omega) rfl ?_
    refine l_call F [0, 1] [] (by decide) rfl rfl (by kernel_rfl) rfl rfl (malloc_callR (more_no m1 g0 g1 g2 g3) (F.sub [0, 1] (by decide)) hy1 hb1 (by simp) ⟨m0, m1⟩ ⟨e0, e1⟩ ⟨by omega, by omega⟩ ⟨by omega, by omega⟩ (by decide)) hD (fun y2 s F hy2 => ?_)
    (try dsimp only [n_1, n_2, n_3, n_4, List.append_nil, pk, n_5, n_6] at F)
    refine l_op 0 rfl rfl rfl rfl rfl ?_
    refine l_op 2 rfl rfl rfl rfl rfl ?_
    refine l_op 2 rfl rfl rfl rfl rfl ?_
    refine l_op 0 rfl rfl rfl rfl rfl ?_
    refine l_op 0 rfl rfl rfl rfl rfl ?_
    refine l_nil (WK.nx (by assumption) ?_)
    refine SeqK.nx (by assumption) ?_
    refine k_seq (fun Q K => ?_)
    refine k_seq (fun Q K => ?_)
    refine k_lin (fun W K => ?_)
    refine l_op 0 rfl rfl rfl rfl rfl ?_
    refine l_op 0 rfl rfl rfl rfl rfl ?_
    refine l_guard rfl rfl rfl (fun hc5 => ?_) (fun hc5 => ?_)
    · cases hc5
    try simp only [irr_eq, beq_iff_eq, bne_iff_ne, beq_eq_false_iff_ne, bne_eq_false_iff_eq, ne_eq, decide_eq_true_eq, decide_eq_false_iff_not, Bool.not_eq_true', Bool.not_eq_false'] at hc5
    refine l_op 0 rfl rfl rfl rfl rfl ?_
    refine l_callp F rfl rfl (by kernel_rfl) rfl rfl (end_call (F.cel0 0 rfl)) (fun _ s F _ => ?_)
    (try dsimp only [n_1, n_2, n_3, n_4, List.append_nil, pk, n_5, n_6] at F)
    refine l_op 0 rfl rfl rfl rfl rfl ?_
    refine l_cmp rfl rfl rfl rfl ?_
    refine l_op 2 rfl rfl rfl rfl rfl ?_
    refine l_op 0 rfl rfl rfl rfl rfl ?_
    refine l_guard rfl rfl rfl (fun hc6 => ?_) (fun hc6 => ?_)
    · first | replace hc6 := bne_iff_ne.1 ((irr_eq _).symm.trans hc6) | simp only [irr_eq, bne_iff_ne, bne_eq_false_iff_eq, ne_eq, decide_eq_true_eq, decide_eq_false_iff_not, Bool.not_eq_true', Bool.not_eq_false'] at hc6
      omega
    first | replace hc6 := bne_eq_false_iff_eq.1 ((irr_eq _).symm.trans hc6) | simp only [irr_eq, bne_iff_ne, bne_eq_false_iff_eq, ne_eq, decide_eq_true_eq, decide_eq_false_iff_not, Bool.not_eq_true', Bool.not_eq_false'] at hc6
    refine l_op 0 rfl rfl rfl rfl rfl ?_
    refine l_callp F rfl rfl (by kernel_rfl) rfl rfl (blocks_call (F.cel0 0 rfl) (Old.pure (F.has 1 rfl)) (by simp)) (fun y3 s F hy3 => ?_)
    (try dsimp only [n_1, n_2, n_3, n_4, List.append_nil, pk, n_5, n_6] at F)
    first | refine l_op 2 rfl rfl rfl rfl rfl ?_ | refine l_ln rfl rfl rfl rfl ?_
    refine l_cmp rfl rfl rfl rfl ?_
    refine l_op 2 rfl rfl rfl rfl rfl ?_
    refine l_nil (WK.nx (by assumption) ?_)
    refine SeqK.nx (by assumption) ?_
    refine l_cond rfl rfl (fun hc7 => ?_) (fun hc7 => ?_)
    · first | replace hc7 := bne_iff_ne.1 ((irr_eq _).symm.trans hc7) | simp only [irr_eq, bne_iff_ne, bne_eq_false_iff_eq, ne_eq, decide_eq_true_eq, decide_eq_false_iff_not, Bool.not_eq_true', Bool.not_eq_false'] at hc7
      exact absurd rfl hc7
    first | replace hc7 := bne_eq_false_iff_eq.1 ((irr_eq _).symm.trans hc7) | simp only [irr_eq, bne_iff_ne, bne_eq_false_iff_eq, ne_eq, decide_eq_true_eq, decide_eq_false_iff_not, Bool.not_eq_true', Bool.not_eq_false'] at hc7
    refine k_skip ?_
    refine SeqK.nx (by assumption) ?_
    refine k_seq (fun Q K => ?_)
    refine k_lin (fun W K => ?_)
    refine l_op 0 rfl rfl rfl rfl rfl ?_
    refine l_op 0 rfl rfl rfl rfl rfl ?_
    refine l_call F [0, 1] [] (by decide) rfl rfl (by kernel_rfl) rfl rfl (malloc_callR hr3 (F.sub [0, 1] (by decide)) hy2 hb1 (by simp) ⟨m0, m1⟩ ⟨e0, e1⟩ ⟨by omega, by omega⟩ ⟨by omega, by omega⟩ (by decide)) hD (fun y4 s F hy4 => ?_)
    (try dsimp only [n_1, n_2, n_3, n_4, List.append_nil, pk, n_5, n_6] at F)
    refine l_op 0 rfl rfl rfl rfl rfl ?_
    refine l_op 2 rfl rfl rfl rfl rfl ?_
    refine l_op 2 rfl rfl rfl rfl rfl ?_
    refine l_op 0 rfl rfl rfl rfl rfl ?_
    refine l_op 0 rfl rfl rfl rfl rfl ?_
    refine l_nil (WK.nx (by assumption) ?_)
    refine SeqK.nx (by assumption) ?_
    refine k_seq (fun Q K => ?_)
    refine k_lin (fun W K => ?_)
    refine l_op 0 rfl rfl rfl rfl rfl ?_
    refine l_op 0 rfl rfl rfl rfl rfl ?_
    refine l_cmp rfl rfl rfl rfl ?_
    refine l_cmp rfl rfl rfl rfl ?_
    refine l_op 0 rfl rfl rfl rfl rfl ?_
    refine l_guard rfl rfl rfl (fun hc8 => ?_) (fun hc8 => ?_)
    · first | replace hc8 := eq_of_beq ((irr_eq _).symm.trans hc8) | simp only [irr_eq, beq_iff_eq, beq_eq_false_iff_ne, ne_eq, decide_eq_true_eq, decide_eq_false_iff_not] at hc8
      refine l_op 0 rfl rfl rfl rfl rfl ?_
      refine l_op 2 rfl rfl rfl rfl rfl ?_
      refine l_op 0 rfl rfl rfl rfl rfl ?_
      refine l_guard rfl rfl rfl (fun hc9 => ?_) (fun hc9 => ?_)
      · try simp only [irr_eq, beq_iff_eq, bne_iff_ne, beq_eq_false_iff_ne, bne_eq_false_iff_eq, ne_eq, decide_eq_true_eq, decide_eq_false_iff_not, Bool.not_eq_true', Bool.not_eq_false'] at hc9
        refine l_s rfl rfl ?_
        refine l_s rfl rfl ?_
        refine l_s rfl rfl ?_
        refine l_s rfl rfl ?_
        refine l_s rfl rfl ?_
        refine l_s rfl rfl ?_
        refine l_s rfl rfl ?_
        refine l_s rfl rfl ?_
        refine l_s rfl rfl ?_
        refine l_s rfl rfl ?_
        refine l_s rfl rfl ?_
        refine l_s rfl rfl ?_
        refine l_s rfl rfl ?_
        refine l_s rfl rfl ?_
        refine l_op 2 rfl rfl rfl rfl rfl ?_
        refine l_op 2 rfl rfl rfl rfl rfl ?_
        refine l_op 0 rfl rfl rfl rfl rfl ?_
        refine l_callp F rfl rfl (by kernel_rfl) rfl rfl live_call (fun _ s F _ => ?_)
        (try dsimp only [n_1, n_2, n_3, n_4, List.append_nil, pk, n_5, n_6] at F)
        refine l_op 2 rfl rfl rfl rfl rfl ?_
        refine l_op 0 rfl rfl rfl rfl rfl ?_
        refine l_nil (WK.nx (by assumption) ?_)
        refine SeqK.nx (by assumption) ?_
        refine k_ret ?_
        refine FunK.rt (by assumption) rfl ?_
        -- leaf 1
        exact rfl
      try simp only [irr_eq, beq_iff_eq, bne_iff_ne, beq_eq_false_iff_ne, bne_eq_false_iff_eq, ne_eq, decide_eq_true_eq, decide_eq_false_iff_not, Bool.not_eq_true', Bool.not_eq_false'] at hc9
      refine l_op 0 rfl rfl rfl rfl rfl ?_
      refine l_op 0 rfl rfl rfl rfl rfl ?_
      refine l_op 0 rfl rfl rfl rfl rfl ?_
      refine l_a32 rfl rfl rfl (by omega) rfl ?_
      refine l_cmp rfl rfl rfl rfl ?_
      refine l_op 0 rfl rfl rfl rfl rfl ?_
      refine l_guard rfl rfl rfl (fun hc10 => ?_) (fun hc10 => ?_)
      · first | replace hc10 := eq_of_beq ((irr_eq _).symm.trans hc10) | simp only [irr_eq, beq_iff_eq, beq_eq_false_iff_ne, ne_eq, decide_eq_true_eq, decide_eq_false_iff_not] at hc10
        refine l_op 0 rfl rfl rfl rfl rfl ?_
        refine l_callp F rfl rfl (by kernel_rfl) rfl rfl (end_call (F.cel0 0 rfl)) (fun _ s F _ => ?_)
        (try dsimp only [n_1, n_2, n_3, n_4, List.append_nil, pk, n_5, n_6] at F)
        refine l_op 0 rfl rfl rfl rfl rfl ?_
        refine l_op 0 rfl rfl rfl rfl rfl ?_
        first | refine l_remn rfl rfl rfl rfl rfl (by omega) rfl ?_ | refine l_rem rfl rfl rfl rfl rfl (by omega) rfl ?_
        refine l_a32 rfl rfl rfl (by omega) rfl ?_
        refine l_cmp rfl rfl rfl rfl ?_
        refine l_op 2 rfl rfl rfl rfl rfl ?_
        refine l_op 2 rfl rfl rfl rfl rfl ?_
        refine l_op 2 rfl rfl rfl rfl rfl ?_
        refine l_op 0 rfl rfl rfl rfl rfl ?_
        refine l_guard rfl rfl rfl (fun hc11 => ?_) (fun hc11 => ?_)
        · first | replace hc11 := eq_of_beq ((irr_eq _).symm.trans hc11) | simp only [irr_eq, beq_iff_eq, beq_eq_false_iff_ne, ne_eq, decide_eq_true_eq, decide_eq_false_iff_not] at hc11
          refine l_callp F rfl rfl (by kernel_rfl) rfl rfl live_call (fun _ s F _ => ?_)
          (try dsimp only [n_1, n_2, n_3, n_4, List.append_nil, pk, n_5, n_6] at F)
          refine l_op 2 rfl rfl rfl rfl rfl ?_
          refine l_op 0 rfl rfl rfl rfl rfl ?_
          refine l_nil (WK.nx (by assumption) ?_)
          refine SeqK.nx (by assumption) ?_
          refine k_ret ?_
          refine FunK.rt (by assumption) rfl ?_
          -- leaf 2
          exact rfl
        first | replace hc11 := ne_of_beq_false ((irr_eq _).symm.trans hc11) | simp only [irr_eq, beq_iff_eq, beq_eq_false_iff_ne, ne_eq, decide_eq_true_eq, decide_eq_false_iff_not] at hc11
        rcases hr3a with ⟨a1, a2, a3, a4⟩ | ⟨a1, a2⟩
        · exact absurd a4 hc11
        · exact absurd (a2.symm.trans hc9) (by decide)
      first | replace hc10 := ne_of_beq_false ((irr_eq _).symm.trans hc10) | simp only [irr_eq, beq_iff_eq, beq_eq_false_iff_ne, ne_eq, decide_eq_true_eq, decide_eq_false_iff_not] at hc10
      rcases hr3a with ⟨a1, a2, a3, a4⟩ | ⟨a1, a2⟩
      · exact absurd a2 hc10
      · exact absurd (a2.symm.trans hc9) (by decide)
    first | replace hc8 := ne_of_beq_false ((irr_eq _).symm.trans hc8) | simp only [irr_eq, beq_iff_eq, beq_eq_false_iff_ne, ne_eq, decide_eq_true_eq, decide_eq_false_iff_not] at hc8
    rcases hr3a with ⟨a1, a2, a3, a4⟩ | ⟨a1, a2⟩
    · exact absurd (by rw [a3, irr_eq]; exact (decide_eq_true (by omega)).symm) hc8
    · exact absurd (by rw [a2, irr_eq]; exact (decide_eq_false (by omega)).symm) hc8
  · refine k_fun Try.func4 rfl (m := 142) rfl fun B hD Q K => ?_
    have F := Facts.nil E0 σ
    refine k_seq (fun Q K => ?_)
    refine k_lin (fun W K => ?_)
    refine l_op 0 rfl rfl rfl rfl rfl ?_
    refine l_nil (WK.nx (by assumption) ?_)
    refine SeqK.nx (by assumption) ?_
    refine k_seq (fun Q K => ?_)
    refine k_lin (fun W K => ?_)
    refine l_op 0 rfl rfl rfl rfl rfl ?_
    refine l_callp F rfl rfl (by kernel_rfl) rfl rfl (new_call (most := most)) (fun m s F _ => ?_)
    (try dsimp only [n_1, n_2, n_3, n_4, List.append_nil, pk, n_5, n_6] at F)
    refine l_op 0 rfl rfl rfl rfl rfl ?_
    refine l_nil (WK.nx (by assumption) ?_)
    refine SeqK.nx (by assumption) ?_
    refine k_seq (fun Q K => ?_)
    refine k_seq (fun Q K => ?_)
    refine k_lin (fun W K => ?_)
    refine l_op 0 rfl rfl rfl rfl rfl ?_
    refine l_cmp rfl rfl rfl rfl ?_
    refine l_nil (WK.nx (by assumption) ?_)
    refine SeqK.nx (by assumption) ?_
    refine l_cond rfl rfl (fun hc1 => ?_) (fun hc1 => ?_)
    · exact absurd ((irr_eq _).symm.trans hc1) (by decide)
    first | replace hc1 := ne_of_beq_false ((irr_eq _).symm.trans hc1) | simp only [irr_eq, beq_iff_eq, beq_eq_false_iff_ne, ne_eq, decide_eq_true_eq, decide_eq_false_iff_not] at hc1
    refine k_skip ?_
    refine SeqK.nx (by assumption) ?_
    refine k_seq (fun Q K => ?_)
    refine k_lin (fun W K => ?_)
    refine l_op 0 rfl rfl rfl rfl rfl ?_
    refine l_op 0 rfl rfl rfl rfl rfl ?_
    refine l_op 0 rfl rfl rfl rfl rfl ?_
    refine l_call F [0, 1] [] (by decide) rfl rfl (by kernel_rfl) rfl rfl (malloc_callR (first_no m0 n0 e0 (by omega)) (F.sub [0, 1] (by decide)) hEx0 (blkOK_lit _ (by decide)) (by decide) ⟨m0, m1⟩ (by decide) (by decide) ⟨n0, n1⟩ ⟨e0, e1⟩) hD (fun y1 s F hy1 => ?_)
    (try dsimp only [n_1, n_2, n_3, n_4, List.append_nil, pk, n_5, n_6] at F)
    refine l_op 0 rfl rfl rfl rfl rfl ?_
    refine l_op 2 rfl rfl rfl rfl rfl ?_
    refine l_op 2 rfl rfl rfl rfl rfl ?_
    refine l_op 0 rfl rfl rfl rfl rfl ?_
    refine l_op 0 rfl rfl rfl rfl rfl ?_
    refine l_nil (WK.nx (by assumption) ?_)
    refine SeqK.nx (by assumption) ?_
    refine k_seq (fun Q K => ?_)
    refine k_seq (fun Q K => ?_)
    refine k_lin (fun W K => ?_)
    refine l_op 0 rfl rfl rfl rfl rfl ?_
    refine l_op 2 rfl rfl rfl rfl rfl ?_
    refine l_nil (WK.nx (by assumption) ?_)
    refine SeqK.nx (by assumption) ?_
    refine l_cond rfl rfl (fun hc2 => ?_) (fun hc2 => ?_)
    · try simp only [irr_eq, beq_iff_eq, bne_iff_ne, beq_eq_false_iff_ne, bne_eq_false_iff_eq, ne_eq, decide_eq_true_eq, decide_eq_false_iff_not, Bool.not_eq_true', Bool.not_eq_false'] at hc2
      refine k_seq (fun Q K => ?_)
      refine k_lin (fun W K => ?_)
      refine l_op 0 rfl rfl rfl rfl rfl ?_
      refine l_cmp rfl rfl rfl rfl ?_
      refine l_op 0 rfl rfl rfl rfl rfl ?_
      refine l_guard rfl rfl rfl (fun hc3 => ?_) (fun hc3 => ?_)
      · first | replace hc3 := eq_of_beq ((irr_eq _).symm.trans hc3) | simp only [irr_eq, beq_iff_eq, beq_eq_false_iff_ne, ne_eq, decide_eq_true_eq, decide_eq_false_iff_not] at hc3
        refine l_op 0 rfl rfl rfl rfl rfl ?_
        refine l_callp F rfl rfl (by kernel_rfl) rfl rfl (active_call (F.cel0 0 rfl)) (fun _ s F _ => ?_)
        (try dsimp only [n_1, n_2, n_3, n_4, List.append_nil, pk, n_5, n_6] at F)
        refine l_op 2 rfl rfl rfl rfl rfl ?_
        refine l_op 2 rfl rfl rfl rfl rfl ?_
        refine l_op 0 rfl rfl rfl rfl rfl ?_
        refine l_guard rfl rfl rfl (fun hc4 => ?_) (fun hc4 => ?_)
        · try simp only [irr_eq, beq_iff_eq, bne_iff_ne, beq_eq_false_iff_ne, bne_eq_false_iff_eq, ne_eq, decide_eq_true_eq, decide_eq_false_iff_not, Bool.not_eq_true', Bool.not_eq_false'] at hc4
          refine l_op 0 rfl rfl rfl rfl rfl ?_
          refine l_cmp rfl rfl rfl rfl ?_
          refine l_op 0 rfl rfl rfl rfl rfl ?_
          refine l_guard rfl rfl rfl (fun hc5 => ?_) (fun hc5 => ?_)
          · first | replace hc5 := eq_of_beq ((irr_eq _).symm.trans hc5) | simp only [irr_eq, beq_iff_eq, beq_eq_false_iff_ne, ne_eq, decide_eq_true_eq, decide_eq_false_iff_not] at hc5
            refine l_s rfl rfl ?_
            refine l_s rfl rfl ?_
            refine l_op 2 rfl rfl rfl rfl rfl ?_
            refine l_op 0 rfl rfl rfl rfl rfl ?_
            refine l_s rfl rfl ?_
            refine l_s rfl rfl ?_
            refine l_s rfl rfl ?_
            refine l_op 2 rfl rfl rfl rfl rfl ?_
            refine l_op 0 rfl rfl rfl rfl rfl ?_
            refine l_s rfl rfl ?_
            refine l_s rfl rfl ?_
            refine l_s rfl rfl ?_
            refine l_op 2 rfl rfl rfl rfl rfl ?_
            refine l_op 0 rfl rfl rfl rfl rfl ?_
            refine l_s rfl rfl ?_
            refine l_s rfl rfl ?_
            refine l_s rfl rfl ?_
            refine l_s rfl rfl ?_
            refine l_s rfl rfl ?_
            refine l_s rfl rfl ?_
            refine l_s rfl rfl ?_
            refine l_s rfl rfl ?_
            refine l_s rfl rfl ?_
            refine l_s rfl rfl ?_
            refine l_s rfl rfl ?_
            refine l_op 2 rfl rfl rfl rfl rfl ?_
            refine l_op 2 rfl rfl rfl rfl rfl ?_
            refine l_op 0 rfl rfl rfl rfl rfl ?_
            refine l_callp F rfl rfl (by kernel_rfl) rfl rfl live_call (fun _ s F _ => ?_)
            (try dsimp only [n_1, n_2, n_3, n_4, List.append_nil, pk, n_5, n_6] at F)
            refine l_op 2 rfl rfl rfl rfl rfl ?_
            refine l_op 0 rfl rfl rfl rfl rfl ?_
            refine l_nil (WK.nx (by assumption) ?_)
            refine SeqK.nx (by assumption) ?_
            refine k_ret ?_
            refine SeqK.rt (by assumption) ?_
            refine FunK.rt (by assumption) rfl ?_
            -- leaf 1
            exact rfl
          first | replace hc5 := ne_of_beq_false ((irr_eq _).symm.trans hc5) | simp only [irr_eq, beq_iff_eq, beq_eq_false_iff_ne, ne_eq, decide_eq_true_eq, decide_eq_false_iff_not] at hc5
          refine l_op 0 rfl rfl rfl rfl rfl ?_
          refine l_cmp rfl rfl rfl rfl ?_
          refine l_op 2 rfl rfl rfl rfl rfl ?_
          refine l_op 0 rfl rfl rfl rfl rfl ?_
          refine l_guard rfl rfl rfl (fun hc6 => ?_) (fun hc6 => ?_)
          · first | replace hc6 := eq_of_beq ((irr_eq _).symm.trans hc6) | simp only [irr_eq, beq_iff_eq, beq_eq_false_iff_ne, ne_eq, decide_eq_true_eq, decide_eq_false_iff_not] at hc6
            refine l_s rfl rfl ?_
            refine l_s rfl rfl ?_
            refine l_s rfl rfl ?_
            refine l_op 2 rfl rfl rfl rfl rfl ?_
            refine l_op 0 rfl rfl rfl rfl rfl ?_
            refine l_s rfl rfl ?_
            refine l_s rfl rfl ?_
            refine l_s rfl rfl ?_
            refine l_op 2 rfl rfl rfl rfl rfl ?_
            refine l_op 0 rfl rfl rfl rfl rfl ?_
            refine l_s rfl rfl ?_
            refine l_s rfl rfl ?_
            refine l_s rfl rfl ?_
            refine l_s rfl rfl ?_
            refine l_s rfl rfl ?_
            refine l_s rfl rfl ?_
            refine l_s rfl rfl ?_
            refine l_s rfl rfl ?_
            refine l_s rfl rfl ?_
            refine l_s rfl rfl ?_
            refine l_s rfl rfl ?_
            refine l_op 2 rfl rfl rfl rfl rfl ?_
            refine l_op 2 rfl rfl rfl rfl rfl ?_
            refine l_op 0 rfl rfl rfl rfl rfl ?_
            refine l_callp F rfl rfl (by kernel_rfl) rfl rfl live_call (fun _ s F _ => ?_)
            (try dsimp only [n_1, n_2, n_3, n_4, List.append_nil, pk, n_5, n_6] at F)
            refine l_op 2 rfl rfl rfl rfl rfl ?_
            refine l_op 0 rfl rfl rfl rfl rfl ?_
            refine l_nil (WK.nx (by assumption) ?_)
            refine SeqK.nx (by assumption) ?_
            refine k_ret ?_
            refine SeqK.rt (by assumption) ?_
            refine FunK.rt (by assumption) rfl ?_
            -- leaf 2
            exact rfl
          first | replace hc6 := ne_of_beq_false ((irr_eq _).symm.trans hc6) | simp only [irr_eq, beq_iff_eq, beq_eq_false_iff_ne, ne_eq, decide_eq_true_eq, decide_eq_false_iff_not] at hc6
          refine l_op 0 rfl rfl rfl rfl rfl ?_
          first | refine l_remn rfl rfl rfl rfl rfl (by omega) rfl ?_ | refine l_rem rfl rfl rfl rfl rfl (by omega) rfl ?_
          refine l_cmp rfl rfl rfl rfl ?_
          refine l_op 2 rfl rfl rfl rfl rfl ?_
          refine l_op 0 rfl rfl rfl rfl rfl ?_
          refine l_guard rfl rfl rfl (fun hc7 => ?_) (fun hc7 => ?_)
          · first | replace hc7 := bne_iff_ne.1 ((irr_eq _).symm.trans hc7) | simp only [irr_eq, bne_iff_ne, bne_eq_false_iff_eq, ne_eq, decide_eq_true_eq, decide_eq_false_iff_not, Bool.not_eq_true', Bool.not_eq_false'] at hc7
            refine l_s rfl rfl ?_
            refine l_s rfl rfl ?_
            refine l_s rfl rfl ?_
            refine l_op 2 rfl rfl rfl rfl rfl ?_
            refine l_op 0 rfl rfl rfl rfl rfl ?_
            refine l_s rfl rfl ?_
            refine l_s rfl rfl ?_
            refine l_s rfl rfl ?_
            refine l_s rfl rfl ?_
            refine l_s rfl rfl ?_
            refine l_s rfl rfl ?_
            refine l_s rfl rfl ?_
            refine l_s rfl rfl ?_
            refine l_s rfl rfl ?_
            refine l_s rfl rfl ?_
            refine l_s rfl rfl ?_
            refine l_op 2 rfl rfl rfl rfl rfl ?_
            refine l_op 2 rfl rfl rfl rfl rfl ?_
            refine l_op 0 rfl rfl rfl rfl rfl ?_
            refine l_callp F rfl rfl (by kernel_rfl) rfl rfl live_call (fun _ s F _ => ?_)
            (try dsimp only [n_1, n_2, n_3, n_4, List.append_nil, pk, n_5, n_6] at F)
            refine l_op 2 rfl rfl rfl rfl rfl ?_
            refine l_op 0 rfl rfl rfl rfl rfl ?_
            refine l_nil (WK.nx (by assumption) ?_)
            refine SeqK.nx (by assumption) ?_
            refine k_ret ?_
            refine SeqK.rt (by assumption) ?_
            refine FunK.rt (by assumption) rfl ?_
            -- leaf 3
            exact rfl
          first | replace hc7 := bne_eq_false_iff_eq.1 ((irr_eq _).symm.trans hc7) | simp only [irr_eq, bne_iff_ne, bne_eq_false_iff_eq, ne_eq, decide_eq_true_eq, decide_eq_false_iff_not, Bool.not_eq_true', Bool.not_eq_false'] at hc7
          refine l_op 0 rfl rfl rfl rfl rfl ?_
          refine l_op 0 rfl rfl rfl rfl rfl ?_
          refine l_cmp rfl rfl rfl rfl ?_
          refine l_op 2 rfl rfl rfl rfl rfl ?_
          refine l_op 0 rfl rfl rfl rfl rfl ?_
          refine l_guard rfl rfl rfl (fun hc8 => ?_) (fun hc8 => ?_)
          · replace hc8 := of_decide_eq_true ((irr_eq _).symm.trans hc8)
            refine l_s rfl rfl ?_
            refine l_s rfl rfl ?_
            refine l_s rfl rfl ?_
            refine l_s rfl rfl ?_
            refine l_s rfl rfl ?_
            refine l_s rfl rfl ?_
            refine l_s rfl rfl ?_
            refine l_s rfl rfl ?_
            refine l_s rfl rfl ?_
            refine l_s rfl rfl ?_
            refine l_s rfl rfl ?_
            refine l_op 2 rfl rfl rfl rfl rfl ?_
            refine l_op 2 rfl rfl rfl rfl rfl ?_
            refine l_op 0 rfl rfl rfl rfl rfl ?_
            refine l_callp F rfl rfl (by kernel_rfl) rfl rfl live_call (fun _ s F _ => ?_)
            (try dsimp only [n_1, n_2, n_3, n_4, List.append_nil, pk, n_5, n_6] at F)
            refine l_op 2 rfl rfl rfl rfl rfl ?_
            refine l_op 0 rfl rfl rfl rfl rfl ?_
            refine l_nil (WK.nx (by assumption) ?_)
            refine SeqK.nx (by assumption) ?_
            refine k_ret ?_
            refine SeqK.rt (by assumption) ?_
            refine FunK.rt (by assumption) rfl ?_
            -- leaf 4
            exact rfl
          replace hc8 := of_decide_eq_false ((irr_eq _).symm.trans hc8)
          refine l_op 0 rfl rfl rfl rfl rfl ?_
          refine l_cu64 rfl rfl rfl (by omega) rfl ?_
          refine l_op 0 rfl rfl rfl rfl rfl ?_
          refine l_cu64 rfl rfl rfl (by omega) rfl ?_
          refine l_au64 rfl rfl rfl (by omega) rfl ?_
          refine l_op 0 rfl rfl rfl rfl rfl ?_
          refine l_op 0 rfl rfl rfl rfl rfl ?_
          first | refine l_remn rfl rfl rfl rfl rfl (by omega) rfl ?_ | refine l_rem rfl rfl rfl rfl rfl (by omega) rfl ?_
          refine l_a32 rfl rfl rfl (by omega) rfl ?_
          refine l_cu64 rfl rfl rfl (by omega) rfl ?_
          refine l_cmp rfl rfl rfl rfl ?_
          refine l_op 2 rfl rfl rfl rfl rfl ?_
          refine l_op 2 rfl rfl rfl rfl rfl ?_
          refine l_op 0 rfl rfl rfl rfl rfl ?_
          refine l_guard rfl rfl rfl (fun hc9 => ?_) (fun hc9 => ?_)
          · replace hc9 := of_decide_eq_true ((irr_eq _).symm.trans hc9)
            refine l_callp F rfl rfl (by kernel_rfl) rfl rfl live_call (fun _ s F _ => ?_)
            (try dsimp only [n_1, n_2, n_3, n_4, List.append_nil, pk, n_5, n_6] at F)
            refine l_op 2 rfl rfl rfl rfl rfl ?_
            refine l_op 0 rfl rfl rfl rfl rfl ?_
            refine l_nil (WK.nx (by assumption) ?_)
            refine SeqK.nx (by assumption) ?_
            refine k_ret ?_
            refine SeqK.rt (by assumption) ?_
            refine FunK.rt (by assumption) rfl ?_
            -- leaf 5
            exact rfl
          replace hc9 := of_decide_eq_false ((irr_eq _).symm.trans hc9)
          omega
        rw [irr_eq] at hc4; cases hc4
      exact absurd ((irr_eq _).symm.trans hc3) (by decide)
    cases hc2

end Go.Proofs.Ytkealnppdblgiaa
