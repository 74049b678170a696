/- The page's example of chapter 06. No statement of the seat is proved in this text. -/
import Derived.Test.YtkmkbpnlccomnaaBlM
set_option linter.unusedVariables false
set_option linter.unusedSimpArgs false
set_option maxRecDepth 100000
set_option maxHeartbeats 8000000
namespace Go.Proofs.Ytkmkbpnlccomnaa
open GAb Go

def glulD : List Int := [71, 108, 117, 108, 33]
abbrev exBA : ByteArray := { data := #[69, 120, 101, 99] }
abbrev glBA : ByteArray := { data := #[71, 76, 85, 76] }
def liveR : RS := ⟨exBA, 0, glBA, none, 5, 0, glulD⟩
def liveB : List Int := [70, 79, 82, 77, 0, 0, 0, 42, 73, 70, 82, 83, 82, 73, 100, 120, 0, 0, 0, 16, 0, 0, 0, 1, 69, 120, 101, 99, 0, 0, 0, 0, 0, 0, 0, 36, 71, 76, 85, 76, 0, 0, 0, 5, 71, 108, 117, 108, 33, 0]
theorem live_bytes : bldR kindBA (cksR [liveR]) = liveB := by decide +kernel
theorem live_size : sizeK (cksR [liveR]) = 38 := by decide +kernel
theorem live_read : readR liveB = (0, 50, [(execB, 0, gluLB, glulD)]) := by decide +kernel
theorem live_game : gameR liveB = (0, 50, glulD) := by decide +kernel
theorem abc_game : gameR [97, 98, 99] = (63, 0, []) := by decide +kernel
theorem live_lay {e : Int} {n : Nat} {bs : List Int} (h : LayP [liveR] e n bs) : e = 0 ∧ bs = liveB := by
  have h1 : IdsR [liveR] := fun t ht => by rw [List.mem_singleton.1 ht]; decide
  have h2 : ¬ DupN [liveR] [liveR].length := fun ⟨i, j, q1, q2, _⟩ => by simp at q2; omega
  have h3 : idR (ltr kindBA) = true := by decide
  have h4 : IdsOK (cksR [liveR]) := fun t ht => by
    rcases List.mem_cons.1 ht with rfl | ht
    · decide
    · rw [List.mem_singleton.1 ht]; decide
  have h5 : (cksR [liveR]).length = 2 := rfl
  have h6 : ([liveR] : List RS).length = 1 := rfl
  unfold LayP BldP at h
  rw [live_size, live_bytes, h5] at h
  rcases h with ⟨_, _, q⟩ | ⟨_, ⟨_, _, q⟩ | ⟨_, ⟨_, _, q⟩ | ⟨_, ⟨_, _, q⟩ | ⟨_, _, ⟨_, _, q⟩ | ⟨_, ⟨_, _, q⟩ | ⟨q1, _, q2⟩⟩⟩⟩⟩⟩
  · exact absurd h1 q
  · omega
  · exact absurd q h2
  · exact absurd ⟨h3, h4⟩ q
  · omega
  · omega
  · exact ⟨q1, q2⟩

theorem one_of {rs : List RS} {z : List Int × Int × List Int × List Int} (h : rs.map plR = [z]) : ∃ r, rs = [r] ∧ plR r = z := by
  obtain ⟨r, t, rfl, h1, h2⟩ := List.map_eq_cons_iff.1 h
  rw [List.map_eq_nil_iff] at h2
  exact ⟨r, by rw [h2], h1⟩
theorem live6_call {σ : AState} : SCall Try.prog E0 10 [] σ (Ret E0 σ (fun (_ : Unit) => .bool true) (fun _ => []) fun _ => True) := by
  refine k_fun Try.func10 rfl (m := 83) rfl fun B hD Q K => ?_
  have F := Facts.nil E0 σ
  refine k_seq (fun Q K => ?_)
  refine k_lin (fun W K => ?_)
  refine l_op 0 rfl rfl rfl rfl rfl ?_
  refine l_nil (WK.nx (by assumption) ?_)
  refine SeqK.nx (by assumption) ?_
  refine k_seq (fun Q K => ?_)
  refine k_lin (fun W K => ?_)
  refine l_lit F rfl rfl rfl rfl (fun q13 s F => ?_)
  (try dsimp only [n_1, n_2, n_3, n_4, List.append_nil, pk, n_5, n_6] at F)
  have F0 : Facts E0 σ s [own (some ⟨q13, 0, some 0⟩) 5 5 1 (u8l glulD)] := F
  clear F
  have F := F0
  clear F0
  refine l_cvs F 0 rfl rfl rfl rfl rfl hD ?_
  refine l_bld rfl rfl rfl rfl ?_
  refine l_lit F rfl rfl rfl rfl (fun q16 s F => ?_)
  (try dsimp only [n_1, n_2, n_3, n_4, List.append_nil, pk, n_5, n_6] at F)
  have F0 : Facts E0 σ s [own (some ⟨q13, 0, some 0⟩) 5 5 1 (u8l glulD), own (some ⟨q16, 0, some 0⟩) 1 1 4 (rows eR [⟨exBA, 0, glBA, some ⟨q13, 0, some 0⟩, 5, 5, glulD⟩])] := F
  clear F
  have F := F0
  clear F0
  have hR : OldR E0 s (some ⟨q16, 0, some 0⟩) 1 1 [⟨exBA, 0, glBA, some ⟨q13, 0, some 0⟩, 5, 5, glulD⟩] := by
    refine ⟨Old.pure (F.has 1 rfl), fun t ht => ?_, fun t ht => ?_, fun t ht => ?_, fun t ht => ?_⟩ <;> rw [List.mem_singleton.1 ht]
    · exact Old.pure (F.has 0 rfl)
    · exact bytes_mem.2 fun x hx => by simp [glulD] at hx; omega
    · exact (⟨by decide, by decide⟩ : U32 0)
    · show (5 : Int) ≤ 140737488351232 ∧ (glBA.size : Int) ≤ 140737488351232 ∧ (exBA.size : Int) ≤ 140737488351232
      decide
  refine l_callp F rfl rfl (by kernel_rfl) rfl rfl (lay_call hR (by decide) (show (5 + 4 + 4 + 0 : Int) ≤ 900000 by decide)) (fun y s F hy => ?_)
  (try dsimp only [n_1, n_2, n_3, n_4, List.append_nil, pk, n_5, n_6] at F)
  obtain ⟨e, x, n, d, bs⟩ := y
  dsimp only at F hy ⊢
  obtain ⟨rfl, rfl⟩ := live_lay (lay_core (ts := [liveR]) (by rfl) hy)
  have hn : liveB.length = n := F.len8 2 rfl
  obtain rfl : 50 = n := hn
  have hcap : 50 ≤ d := by obtain ⟨_, hR, _⟩ := F.has 2 rfl; exact hR.size.2
  have hLB : Bytes liveB := bytes_mem.2 fun x hx => by simp [liveB] at hx; omega
  refine l_op 0 rfl rfl rfl rfl rfl ?_
  refine l_op 2 rfl rfl rfl rfl rfl ?_
  refine l_op 2 rfl rfl rfl rfl rfl ?_
  refine l_op 0 rfl rfl rfl rfl rfl ?_
  refine l_op 0 rfl rfl rfl rfl rfl ?_
  refine l_nil (WK.nx (by assumption) ?_)
  refine SeqK.nx (by assumption) ?_
  refine k_seq (fun Q K => ?_)
  refine k_lin (fun W K => ?_)
  refine l_op 0 rfl rfl rfl rfl rfl ?_
  refine l_callp F rfl rfl (by kernel_rfl) rfl rfl (read_call (Old.pure (F.has 2 rfl)) hLB (by omega) (.inr (by omega))) (fun y s F hy => ?_)
  (try dsimp only [n_1, n_2, n_3, n_4, List.append_nil, pk, n_5, n_6] at F)
  obtain ⟨xr, nr, dr, rs⟩ := y
  obtain ⟨w1, w2⟩ := hy
  dsimp only [reaV, reaF] at F w1 w2 ⊢
  rw [live_read] at w1 ⊢
  obtain ⟨r, rfl, hr1⟩ := one_of w1
  have hnr : [r].length = nr := (F.has 4 rfl).len eR_len (by decide)
  obtain rfl : 1 = nr := hnr
  have hrx : ltr r.us = execB := congrArg (fun z : List Int × Int × List Int × List Int => z.1) hr1
  refine l_op 0 rfl rfl rfl rfl rfl ?_
  refine l_op 2 rfl rfl rfl rfl rfl ?_
  refine l_op 2 rfl rfl rfl rfl rfl ?_
  refine l_op 2 rfl rfl rfl rfl rfl ?_
  refine l_op 0 rfl rfl rfl rfl rfl ?_
  refine l_op 0 rfl rfl rfl rfl rfl ?_
  refine l_op 0 rfl rfl rfl rfl rfl ?_
  refine l_nil (WK.nx (by assumption) ?_)
  refine SeqK.nx (by assumption) ?_
  refine k_seq (fun Q K => ?_)
  refine k_lin (fun W K => ?_)
  refine l_op 0 rfl rfl rfl rfl rfl ?_
  refine l_callp F rfl rfl (by kernel_rfl) rfl rfl (game_call (Old.pure (F.has 2 rfl)) hLB (by omega) (.inr (by omega))) (fun y s F hy2 => ?_)
  (try dsimp only [n_1, n_2, n_3, n_4, List.append_nil, pk, n_5, n_6] at F)
  obtain ⟨xg, ng, dg, gs⟩ := y
  dsimp only [gamV, gamF, GamP] at F hy2 ⊢
  rw [live_game] at hy2 ⊢
  refine l_op 0 rfl rfl rfl rfl rfl ?_
  refine l_op 2 rfl rfl rfl rfl rfl ?_
  refine l_op 2 rfl rfl rfl rfl rfl ?_
  refine l_op 2 rfl rfl rfl rfl rfl ?_
  refine l_op 0 rfl rfl rfl rfl rfl ?_
  refine l_op 0 rfl rfl rfl rfl rfl ?_
  refine l_op 0 rfl rfl rfl rfl rfl ?_
  refine l_nil (WK.nx (by assumption) ?_)
  refine SeqK.nx (by assumption) ?_
  refine k_seq (fun Q K => ?_)
  refine k_lin (fun W K => ?_)
  refine l_lit F rfl rfl rfl rfl (fun q33 s F => ?_)
  (try dsimp only [n_1, n_2, n_3, n_4, List.append_nil, pk, n_5, n_6] at F)
  have F0 : Facts E0 σ s [own (some ⟨q13, 0, some 0⟩) 5 5 1 (u8l glulD), own (some ⟨q16, 0, some 0⟩) 1 1 4 (rows eR [⟨exBA, 0, glBA, some ⟨q13, 0, some 0⟩, 5, 5, glulD⟩]), own x 50 d 1 (u8l liveB), many ([r].map dR), own xr 1 dr 4 (rows eR [r]), own xg ng dg 1 (u8l gs), own (some ⟨q33, 0, some 0⟩) 3 3 1 (u8l [97, 98, 99])] := F
  clear F
  have F := F0
  clear F0
  refine l_cvs F 6 rfl rfl rfl rfl rfl hD ?_
  refine l_callp F rfl rfl (by kernel_rfl) rfl rfl (game_call (Old.pure (F.has 6 rfl)) (bytes_mem.2 fun x hx => by simp at hx; omega) (by omega) (.inr (by omega))) (fun y s F hy3 => ?_)
  (try dsimp only [n_1, n_2, n_3, n_4, List.append_nil, pk, n_5, n_6] at F)
  obtain ⟨xh, nh, dh, hs⟩ := y
  dsimp only [gamV, gamF, GamP] at F hy3 ⊢
  rw [abc_game] at hy3 ⊢
  refine l_op 0 rfl rfl rfl rfl rfl ?_
  refine l_op 2 rfl rfl rfl rfl rfl ?_
  refine l_op 2 rfl rfl rfl rfl rfl ?_
  refine l_op 2 rfl rfl rfl rfl rfl ?_
  refine l_op 0 rfl rfl rfl rfl rfl ?_
  refine l_op 0 rfl rfl rfl rfl rfl ?_
  refine l_op 0 rfl rfl rfl rfl rfl ?_
  refine l_nil (WK.nx (by assumption) ?_)
  refine SeqK.nx (by assumption) ?_
  refine k_seq (fun Q K => ?_)
  refine k_lin (fun W K => ?_)
  refine l_op 0 rfl rfl rfl rfl rfl ?_
  refine l_callv rfl rfl (by kernel_rfl) rfl rfl num6_call ?_
  (try dsimp only [n_1, n_2, n_3, n_4, List.append_nil, pk, n_5, n_6] at F)
  refine l_op 0 rfl rfl rfl rfl rfl ?_
  refine l_callv rfl rfl (by kernel_rfl) rfl rfl num6_call ?_
  (try dsimp only [n_1, n_2, n_3, n_4, List.append_nil, pk, n_5, n_6] at F)
  refine l_a64 rfl rfl rfl (by omega) rfl ?_
  refine l_op 0 rfl rfl rfl rfl rfl ?_
  refine l_callv rfl rfl (by kernel_rfl) rfl rfl num6_call ?_
  (try dsimp only [n_1, n_2, n_3, n_4, List.append_nil, pk, n_5, n_6] at F)
  refine l_a64 rfl rfl rfl (by omega) rfl ?_
  refine l_cmp rfl rfl rfl rfl ?_
  refine l_op 0 rfl rfl rfl rfl rfl ?_
  refine l_guard rfl rfl rfl (fun hc1 => ?_) (fun hc1 => ?_)
  · first | replace hc1 := eq_of_beq ((irr_eq _).symm.trans hc1) | simp only [irr_eq, beq_iff_eq, beq_eq_false_iff_ne, ne_eq, decide_eq_true_eq, decide_eq_false_iff_not] at hc1
    refine l_op 0 rfl rfl rfl rfl rfl ?_
    first | refine l_op 2 rfl rfl rfl rfl rfl ?_ | refine l_ln rfl rfl rfl rfl ?_
    refine l_cmp rfl rfl rfl rfl ?_
    refine l_op 2 rfl rfl rfl rfl rfl ?_
    refine l_op 0 rfl rfl rfl rfl rfl ?_
    refine l_guard rfl rfl rfl (fun hc2 => ?_) (fun hc2 => ?_)
    · first | replace hc2 := eq_of_beq ((irr_eq _).symm.trans hc2) | simp only [irr_eq, beq_iff_eq, beq_eq_false_iff_ne, ne_eq, decide_eq_true_eq, decide_eq_false_iff_not] at hc2
      refine l_op 0 rfl rfl rfl rfl rfl ?_
      refine l_cmp rfl rfl rfl rfl ?_
      refine l_op 2 rfl rfl rfl rfl rfl ?_
      refine l_op 0 rfl rfl rfl rfl rfl ?_
      refine l_guard rfl rfl rfl (fun hc3 => ?_) (fun hc3 => ?_)
      · first | replace hc3 := eq_of_beq ((irr_eq _).symm.trans hc3) | simp only [irr_eq, beq_iff_eq, beq_eq_false_iff_ne, ne_eq, decide_eq_true_eq, decide_eq_false_iff_not] at hc3
        refine l_op 0 rfl rfl rfl rfl rfl ?_
        first | refine l_op 2 rfl rfl rfl rfl rfl ?_ | refine l_ln rfl rfl rfl rfl ?_
        refine l_cmp rfl rfl rfl rfl ?_
        refine l_op 2 rfl rfl rfl rfl rfl ?_
        refine l_op 0 rfl rfl rfl rfl rfl ?_
        refine l_guard rfl rfl rfl (fun hc4 => ?_) (fun hc4 => ?_)
        · first | replace hc4 := eq_of_beq ((irr_eq _).symm.trans hc4) | simp only [irr_eq, beq_iff_eq, beq_eq_false_iff_ne, ne_eq, decide_eq_true_eq, decide_eq_false_iff_not] at hc4
          refine l_op 0 rfl rfl rfl rfl rfl ?_
          refine l_ixr (e := eR) rfl rfl rfl rfl rfl rfl (F.has 4 rfl) ⟨eR_len, by decide⟩ (by omega) (fun m64 b64 hA0 => ?_)
          have hA64 : AtR _ m64 b64 (eR r) := hA0
          clear hA0
          refine l_op 2 rfl rfl rfl rfl rfl ?_
          refine l_ld0 rfl rfl rfl rfl rfl (by assumption) ?_
          refine l_cmp rfl rfl rfl rfl ?_
          refine l_op 2 rfl rfl rfl rfl rfl ?_
          refine l_op 0 rfl rfl rfl rfl rfl ?_
          refine l_guard rfl rfl rfl (fun hc5 => ?_) (fun hc5 => ?_)
          · first | replace hc5 := eq_of_beq ((irr_eq _).symm.trans hc5) | simp only [irr_eq, beq_iff_eq, beq_eq_false_iff_ne, ne_eq, decide_eq_true_eq, decide_eq_false_iff_not] at hc5
            refine l_op 0 rfl rfl rfl rfl rfl ?_
            refine l_str rfl rfl rfl rfl rfl (F.has 5 rfl) ?_
            refine l_cmp rfl rfl rfl rfl ?_
            refine l_op 2 rfl rfl rfl rfl rfl ?_
            refine l_op 0 rfl rfl rfl rfl rfl ?_
            refine l_guard rfl rfl rfl (fun hc6 => ?_) (fun hc6 => ?_)
            · first | replace hc6 := eq_of_beq ((irr_eq _).symm.trans hc6) | simp only [irr_eq, beq_iff_eq, beq_eq_false_iff_ne, ne_eq, decide_eq_true_eq, decide_eq_false_iff_not] at hc6
              refine l_op 0 rfl rfl rfl rfl rfl ?_
              refine l_callv rfl rfl (by kernel_rfl) rfl rfl num6_call ?_
              (try dsimp only [n_1, n_2, n_3, n_4, List.append_nil, pk, n_5, n_6] at F)
              refine l_cmp rfl rfl rfl rfl ?_
              refine l_op 2 rfl rfl rfl rfl rfl ?_
              refine l_op 0 rfl rfl rfl rfl rfl ?_
              refine l_guard rfl rfl rfl (fun hc7 => ?_) (fun hc7 => ?_)
              · first | replace hc7 := eq_of_beq ((irr_eq _).symm.trans hc7) | simp only [irr_eq, beq_iff_eq, beq_eq_false_iff_ne, ne_eq, decide_eq_true_eq, decide_eq_false_iff_not] at hc7
                refine l_op 0 rfl rfl rfl rfl rfl ?_
                refine l_cmp rfl rfl rfl rfl ?_
                refine l_op 2 rfl rfl rfl rfl rfl ?_
                refine l_op 0 rfl rfl rfl rfl rfl ?_
                refine l_nil (WK.nx (by assumption) ?_)
                refine SeqK.nx (by assumption) ?_
                refine k_ret ?_
                refine FunK.rt (by assumption) rfl ?_
                -- leaf 1
                refine ⟨(), ?_, F.pick [] (by decide), trivial⟩
                first
                  | rfl
                  | (simp only [one, irr_eq]; rfl)
              first | replace hc7 := ne_of_beq_false ((irr_eq _).symm.trans hc7) | simp only [irr_eq, beq_iff_eq, beq_eq_false_iff_ne, ne_eq, decide_eq_true_eq, decide_eq_false_iff_not] at hc7
              exact absurd rfl hc7
            first | replace hc6 := ne_of_beq_false ((irr_eq _).symm.trans hc6) | simp only [irr_eq, beq_iff_eq, beq_eq_false_iff_ne, ne_eq, decide_eq_true_eq, decide_eq_false_iff_not] at hc6
            exact absurd (by rw [hy2.1]; exact congrArg ByteArray.toList (show strOfNums glulD = { data := #[71, 108, 117, 108, 33] } by decide)) hc6
          first | replace hc5 := ne_of_beq_false ((irr_eq _).symm.trans hc5) | simp only [irr_eq, beq_iff_eq, beq_eq_false_iff_ne, ne_eq, decide_eq_true_eq, decide_eq_false_iff_not] at hc5
          exact absurd (beq_iff_eq.1 ((sneq_iff execB_b execB_s).2 hrx)) hc5
        first | replace hc4 := ne_of_beq_false ((irr_eq _).symm.trans hc4) | simp only [irr_eq, beq_iff_eq, beq_eq_false_iff_ne, ne_eq, decide_eq_true_eq, decide_eq_false_iff_not] at hc4
        exact absurd rfl hc4
      first | replace hc3 := ne_of_beq_false ((irr_eq _).symm.trans hc3) | simp only [irr_eq, beq_iff_eq, beq_eq_false_iff_ne, ne_eq, decide_eq_true_eq, decide_eq_false_iff_not] at hc3
      exact absurd rfl hc3
    first | replace hc2 := ne_of_beq_false ((irr_eq _).symm.trans hc2) | simp only [irr_eq, beq_iff_eq, beq_eq_false_iff_ne, ne_eq, decide_eq_true_eq, decide_eq_false_iff_not] at hc2
    exact absurd rfl hc2
  first | replace hc1 := ne_of_beq_false ((irr_eq _).symm.trans hc1) | simp only [irr_eq, beq_iff_eq, beq_eq_false_iff_ne, ne_eq, decide_eq_true_eq, decide_eq_false_iff_not] at hc1
  exact absurd rfl hc1

end Go.Proofs.Ytkmkbpnlccomnaa
