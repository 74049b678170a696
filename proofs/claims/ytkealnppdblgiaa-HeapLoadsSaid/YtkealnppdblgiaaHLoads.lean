/- A heap that is loaded with what another one tells. No statement of the seat is proved in this text. -/
import Derived.Test.YtkealnppdblgiaaHBackLaw
set_option linter.unusedVariables false
set_option linter.unusedSimpArgs false
set_option maxRecDepth 100000
set_option maxHeartbeats 4000000
namespace Go.Proofs.Ytkealnppdblgiaa
open GAb Go

theorem load_same {most st en : Int} {bl : List (Int × Int)} (h : HOK most st en bl) : loadR most 0 0 [] st en bl = ⟨0, true, st, en, bl⟩ := by
  have hl := h.len
  have hr : rightR most st en bl = true := by
    unfold rightR
    by_cases hb : bl = []
    · obtain ⟨h1, h2⟩ := h.emp hb
      subst hb
      simp [h1, h2]
    · obtain ⟨h1, h2, h3, h4, h5⟩ := h.on hb
      have : bl.length ≠ 0 := fun e => hb (List.eq_nil_of_length_eq_zero e)
      rw [if_neg (by omega), if_neg (by omega)]; exact h5
  unfold loadR
  rw [if_neg (by omega), if_neg (by simp [hr])]

theorem loads_law {σ : AState} {a b : Option Addr} {l c l' c' : Nat} {ts us : List Act} {most : Int} (h : OldA σ a l c ts) (k : OldA σ b l' c' us) (hm : U32 most) :
    SCall Try.prog E0 6 [.int .u32 most, .slice a l c, .slice b l' c'] σ (fun v _ => v = .bool true) := by
  obtain rfl := h.len
  obtain rfl := k.len
  have ho := h.old
  have ko := k.old
  refine k_fun Try.func6 rfl (m := 174) rfl fun B hD Q K => ?_
  have F := Facts.nil E0 σ
  refine k_seq (fun Q K => ?_)
  refine k_lin (fun W K => ?_)
  refine l_op 0 rfl rfl rfl rfl rfl ?_
  refine l_nil (WK.nx (by assumption) ?_)
  refine SeqK.nx (by assumption) ?_
  refine k_seq (fun Q K => ?_)
  refine k_seq (fun Q K => ?_)
  refine k_lin (fun W K => ?_)
  refine l_op 0 rfl rfl rfl rfl rfl ?_
  refine l_callp F rfl rfl (by kernel_rfl) rfl rfl (huge_call (h.to F)) (fun hg s F hhg => ?_)
  (try dsimp only [n_1, n_2, n_3, n_4, List.append_nil, pk, n_5, n_6] at F)
  refine l_op 0 rfl rfl rfl rfl rfl ?_
  refine l_guard rfl rfl rfl (fun hc1 => ?_) (fun hc1 => ?_)
  · try simp only [irr_eq, beq_iff_eq, bne_iff_ne, beq_eq_false_iff_ne, bne_eq_false_iff_eq, ne_eq, decide_eq_true_eq, decide_eq_false_iff_not, Bool.not_eq_true', Bool.not_eq_false'] at hc1
    refine l_s rfl rfl ?_
    refine l_s rfl rfl ?_
    refine l_op 2 rfl rfl rfl rfl rfl ?_
    refine l_nil (WK.nx (by assumption) ?_)
    refine SeqK.nx (by assumption) ?_
    first | refine e_cond_t rfl rfl rfl ?_ | refine e_cond_t rfl rfl (by rw [irr_eq]; first | exact beq_iff_eq.2 (by assumption) | exact decide_eq_true (by assumption) | exact bne_iff_ne.2 (by assumption)) ?_
    refine k_seq (fun Q K => ?_)
    refine k_lin (fun W K => ?_)
    refine l_callp F rfl rfl (by kernel_rfl) rfl rfl live_call (fun _ s F _ => ?_)
    (try dsimp only [n_1, n_2, n_3, n_4, List.append_nil, pk, n_5, n_6] at F)
    refine l_op 0 rfl rfl rfl rfl rfl ?_
    refine l_nil (WK.nx (by assumption) ?_)
    refine SeqK.nx (by assumption) ?_
    refine k_ret ?_
    refine SeqK.rt (by assumption) ?_
    refine FunK.rt (by assumption) rfl ?_
    -- leaf 1
    exact rfl
  try simp only [irr_eq, beq_iff_eq, bne_iff_ne, beq_eq_false_iff_ne, bne_eq_false_iff_eq, ne_eq, decide_eq_true_eq, decide_eq_false_iff_not, Bool.not_eq_true', Bool.not_eq_false'] at hc1
  have hl2 : ts.length ≤ 200 := hhg hc1
  refine l_op 0 rfl rfl rfl rfl rfl ?_
  refine l_callp F rfl rfl (by kernel_rfl) rfl rfl (huge_call (k.to F)) (fun kg s F hkg => ?_)
  (try dsimp only [n_1, n_2, n_3, n_4, List.append_nil, pk, n_5, n_6] at F)
  refine l_op 2 rfl rfl rfl rfl rfl ?_
  refine l_nil (WK.nx (by assumption) ?_)
  refine SeqK.nx (by assumption) ?_
  refine l_cond rfl rfl (fun hc2 => ?_) (fun hc2 => ?_)
  · try simp only [irr_eq, beq_iff_eq, bne_iff_ne, beq_eq_false_iff_ne, bne_eq_false_iff_eq, ne_eq, decide_eq_true_eq, decide_eq_false_iff_not, Bool.not_eq_true', Bool.not_eq_false'] at hc2
    refine k_seq (fun Q K => ?_)
    refine k_lin (fun W K => ?_)
    refine l_callp F rfl rfl (by kernel_rfl) rfl rfl live_call (fun _ s F _ => ?_)
    (try dsimp only [n_1, n_2, n_3, n_4, List.append_nil, pk, n_5, n_6] at F)
    refine l_op 0 rfl rfl rfl rfl rfl ?_
    refine l_nil (WK.nx (by assumption) ?_)
    refine SeqK.nx (by assumption) ?_
    refine k_ret ?_
    refine SeqK.rt (by assumption) ?_
    refine FunK.rt (by assumption) rfl ?_
    -- leaf 2
    exact rfl
  try simp only [irr_eq, beq_iff_eq, bne_iff_ne, beq_eq_false_iff_ne, bne_eq_false_iff_eq, ne_eq, decide_eq_true_eq, decide_eq_false_iff_not, Bool.not_eq_true', Bool.not_eq_false'] at hc2
  have kl2 : us.length ≤ 200 := hkg hc2
  refine k_skip ?_
  refine SeqK.nx (by assumption) ?_
  refine k_seq (fun Q K => ?_)
  refine k_lin (fun W K => ?_)
  refine l_op 0 rfl rfl rfl rfl rfl ?_
  refine l_callp F rfl rfl (by kernel_rfl) rfl rfl (new_call (most := most)) (fun m s F _ => ?_)
  (try dsimp only [n_1, n_2, n_3, n_4, List.append_nil, pk, n_5, n_6] at F)
  refine l_op 0 rfl rfl rfl rfl rfl ?_
  refine l_callp F rfl rfl (by kernel_rfl) rfl rfl (new_call (most := most)) (fun m2 s F _ => ?_)
  (try dsimp only [n_1, n_2, n_3, n_4, List.append_nil, pk, n_5, n_6] at F)
  refine l_op 0 rfl rfl rfl rfl rfl ?_
  refine l_op 0 rfl rfl rfl rfl rfl ?_
  refine l_nil (WK.nx (by assumption) ?_)
  refine SeqK.nx (by assumption) ?_
  refine k_seq (fun Q K => ?_)
  refine k_seq (fun Q K => ?_)
  refine k_lin (fun W K => ?_)
  refine l_op 0 rfl rfl rfl rfl rfl ?_
  refine l_cmp rfl rfl rfl rfl ?_
  refine l_op 0 rfl rfl rfl rfl rfl ?_
  refine l_guard rfl rfl rfl (fun hc3 => ?_) (fun hc3 => ?_)
  · exact absurd ((irr_eq _).symm.trans hc3) (by decide)
  first | replace hc3 := ne_of_beq_false ((irr_eq _).symm.trans hc3) | simp only [irr_eq, beq_iff_eq, beq_eq_false_iff_ne, ne_eq, decide_eq_true_eq, decide_eq_false_iff_not] at hc3
  refine l_op 0 rfl rfl rfl rfl rfl ?_
  refine l_cmp rfl rfl rfl rfl ?_
  refine l_op 2 rfl rfl rfl rfl rfl ?_
  refine l_nil (WK.nx (by assumption) ?_)
  refine SeqK.nx (by assumption) ?_
  refine l_cond rfl rfl (fun hc4 => ?_) (fun hc4 => ?_)
  · exact absurd ((irr_eq _).symm.trans hc4) (by decide)
  first | replace hc4 := ne_of_beq_false ((irr_eq _).symm.trans hc4) | simp only [irr_eq, beq_iff_eq, beq_eq_false_iff_ne, ne_eq, decide_eq_true_eq, decide_eq_false_iff_not] at hc4
  refine k_skip ?_
  refine SeqK.nx (by assumption) ?_
  refine k_seq (fun Q K => ?_)
  refine k_seq (fun Q K => ?_)
  refine k_lin (fun W K => ?_)
  refine l_op 0 rfl rfl rfl rfl rfl ?_
  refine l_nil (WK.nx (by assumption) ?_)
  refine SeqK.nx (by assumption) ?_
  refine k_block (fun Q K => ?_)
  refine k_loop (α := Int × HS) (fun ⟨i, g⟩ s => Facts E0 σ s (g.f m most ++ hF m2 none 0 most 0 0 []) ∧ g.ok most ∧ 0 ≤ i ∧ i ≤ ts.length) (fun ⟨i, g⟩ => [(1, .slice a ts.length c), (2, .slice b us.length c'), (7, .pointer (some ⟨m, 0, none⟩)), (8, .pointer (some ⟨m2, 0, none⟩)), (9, .int .i64 i)]) (fun ⟨i, _⟩ => (ts.length - i).toNat) (0, ⟨none, 0, 0, 0, []⟩) ⟨F, ⟨.inl rfl, hok_new most⟩, by omega, by omega⟩ (by repeat (first | exact trivial | refine And.intro rfl ?_)) ?_
  clear F
  rintro ⟨i, ⟨a0, c0, st0, en0, bl0⟩⟩ env s Q K0 ⟨F, ⟨hEx, hok⟩, i0, i1⟩
  dsimp only [hF, HS.f, List.cons_append, List.nil_append] at F hEx hok
  refine k_seq (fun Q K => ?_)
  refine k_seq (fun Q K => ?_)
  refine k_lin (fun W K => ?_)
  refine l_op 0 rfl rfl rfl rfl rfl ?_
  refine l_op 0 rfl rfl rfl rfl rfl ?_
  first | refine l_op 2 rfl rfl rfl rfl rfl ?_ | refine l_ln rfl rfl rfl rfl ?_
  refine l_cmp rfl rfl rfl rfl ?_
  refine l_nil (WK.nx (by assumption) ?_)
  refine SeqK.nx (by assumption) ?_
  refine l_cond rfl rfl (fun hc5 => ?_) (fun hc5 => ?_)
  · replace hc5 := of_decide_eq_true ((irr_eq _).symm.trans hc5)
    obtain ⟨u1, u2, u3⟩ := h.at (i := i.toNat) (by omega)
    refine k_skip ?_
    refine SeqK.nx (by assumption) ?_
    refine k_seq (fun Q K => ?_)
    refine k_block (fun Q K => ?_)
    refine k_seq (fun Q K => ?_)
    refine k_seq (fun Q K => ?_)
    refine k_lin (fun W K => ?_)
    refine l_op 0 rfl rfl rfl rfl rfl ?_
    refine l_op 0 rfl rfl rfl rfl rfl ?_
    first | refine l_ixrs (e := eA) F (by assumption) ⟨eA_len, by decide⟩ rfl rfl rfl rfl rfl rfl (by omega) (fun m40 b40 hA40 hS40 => ?_) | refine l_ixrs (e := eA) F ko ⟨eA_len, by decide⟩ rfl rfl rfl rfl rfl rfl (by omega) (fun m40 b40 hA40 hS40 => ?_) | refine l_ixr (e := eA) rfl rfl rfl rfl rfl rfl (F.old ho) ⟨eA_len, by decide⟩ (by omega) (fun m40 b40 hA40 => ?_) | refine l_ixr (e := eA) rfl rfl rfl rfl rfl rfl (F.old ko) ⟨eA_len, by decide⟩ (by omega) (fun m40 b40 hA40 => ?_)
    refine l_op 2 rfl rfl rfl rfl rfl ?_
    refine l_ld0 rfl rfl rfl rfl rfl (by assumption) ?_
    refine l_cmp rfl rfl rfl rfl ?_
    refine l_nil (WK.nx (by assumption) ?_)
    refine SeqK.nx (by assumption) ?_
    refine l_cond rfl rfl (fun hc6 => ?_) (fun hc6 => ?_)
    · first | replace hc6 := eq_of_beq ((irr_eq _).symm.trans hc6) | simp only [irr_eq, beq_iff_eq, beq_eq_false_iff_ne, ne_eq, decide_eq_true_eq, decide_eq_false_iff_not] at hc6
      refine k_linm [0, 1, 2, 3, 4, 6, 7, 8, 9, 5, 10, 11] mixed (by kernel_rfl) (fun W K => ?_)
      try have hpS := F.pns
      refine l_op 0 rfl rfl rfl rfl rfl ?_
      refine l_op 0 rfl rfl rfl rfl rfl ?_
      refine l_op 0 rfl rfl rfl rfl rfl ?_
      first | refine l_ixrs (e := eA) F (by assumption) ⟨eA_len, by decide⟩ rfl rfl rfl rfl rfl rfl (by omega) (fun m47 b47 hA47 hS47 => ?_) | refine l_ixrs (e := eA) F ko ⟨eA_len, by decide⟩ rfl rfl rfl rfl rfl rfl (by omega) (fun m47 b47 hA47 hS47 => ?_) | refine l_ixr (e := eA) rfl rfl rfl rfl rfl rfl (F.old ho) ⟨eA_len, by decide⟩ (by omega) (fun m47 b47 hA47 => ?_) | refine l_ixr (e := eA) rfl rfl rfl rfl rfl rfl (F.old ko) ⟨eA_len, by decide⟩ (by omega) (fun m47 b47 hA47 => ?_)
      refine l_op 2 rfl rfl rfl rfl rfl ?_
      refine l_op 0 rfl rfl rfl rfl rfl ?_
      refine l_op 0 rfl rfl rfl rfl rfl ?_
      first | refine l_ixrs (e := eA) F (by assumption) ⟨eA_len, by decide⟩ rfl rfl rfl rfl rfl rfl (by omega) (fun m52 b52 hA52 hS52 => ?_) | refine l_ixrs (e := eA) F ko ⟨eA_len, by decide⟩ rfl rfl rfl rfl rfl rfl (by omega) (fun m52 b52 hA52 hS52 => ?_) | refine l_ixr (e := eA) rfl rfl rfl rfl rfl rfl (F.old ho) ⟨eA_len, by decide⟩ (by omega) (fun m52 b52 hA52 => ?_) | refine l_ixr (e := eA) rfl rfl rfl rfl rfl rfl (F.old ko) ⟨eA_len, by decide⟩ (by omega) (fun m52 b52 hA52 => ?_)
      refine l_op 2 rfl rfl rfl rfl rfl ?_
      refine l_ldj rfl rfl rfl rfl rfl rfl (by assumption) rfl ?_
      first | have hpS := PnS.add hpS hS47 | have hpS := PnS.add hpS (OldC.sf (by assumption)) | skip
      refine l_ldj rfl rfl rfl rfl rfl rfl (by assumption) rfl ?_
      first | have hpS := PnS.add hpS hS52 | have hpS := PnS.add hpS (OldC.sf (by assumption)) | skip
      refine l_call F [0, 1] [2, 3] (by decide) rfl rfl (by kernel_rfl) rfl rfl (malloc_call (F.sub [0, 1] (by decide)) hEx hok.blk hok.len hm hok.ust hok.uen u1 u3) hD (fun y s F hy => ?_)
      (try dsimp only [n_1, n_2, n_3, n_4, List.append_nil, pk, n_5, n_6] at F)
      refine l_nil (WK.nx (by assumption) ?_)
      refine SeqK.nx (by assumption) ?_
      refine k_seq (fun Q K => ?_)
      refine k_lin (fun W K => ?_)
      refine l_op 0 rfl rfl rfl rfl rfl ?_
      refine l_op 0 rfl rfl rfl rfl rfl ?_
      first | refine l_ixrs (e := eA) F (by assumption) ⟨eA_len, by decide⟩ rfl rfl rfl rfl rfl rfl (by omega) (fun m58 b58 hA58 hS58 => ?_) | refine l_ixrs (e := eA) F ko ⟨eA_len, by decide⟩ rfl rfl rfl rfl rfl rfl (by omega) (fun m58 b58 hA58 hS58 => ?_) | refine l_ixr (e := eA) rfl rfl rfl rfl rfl rfl (F.old ho) ⟨eA_len, by decide⟩ (by omega) (fun m58 b58 hA58 => ?_) | refine l_ixr (e := eA) rfl rfl rfl rfl rfl rfl (F.old ko) ⟨eA_len, by decide⟩ (by omega) (fun m58 b58 hA58 => ?_)
      refine l_op 2 rfl rfl rfl rfl rfl ?_
      refine l_ld0 rfl rfl rfl rfl rfl (by assumption) ?_
      refine l_cmp rfl rfl rfl rfl ?_
      refine l_nil (WK.nx (by assumption) ?_)
      refine SeqK.nx (by assumption) ?_
      refine l_cond rfl rfl (fun hc7 => ?_) (fun hc7 => ?_)
      · first | replace hc7 := eq_of_beq ((irr_eq _).symm.trans hc7) | simp only [irr_eq, beq_iff_eq, beq_eq_false_iff_ne, ne_eq, decide_eq_true_eq, decide_eq_false_iff_not] at hc7
        omega
      first | replace hc7 := ne_of_beq_false ((irr_eq _).symm.trans hc7) | simp only [irr_eq, beq_iff_eq, beq_eq_false_iff_ne, ne_eq, decide_eq_true_eq, decide_eq_false_iff_not] at hc7
      refine k_skip ?_
      refine BlkK.nx (by assumption) ?_
      refine SeqK.nx (by assumption) ?_
      refine k_lin (fun W K => ?_)
      refine l_op 0 rfl rfl rfl rfl rfl ?_
      refine l_a64 rfl rfl rfl (by omega) rfl ?_
      refine l_op 0 rfl rfl rfl rfl rfl ?_
      refine l_nil (WK.nx (by assumption) ?_)
      first
      | exact K0.nx (i + 1, ⟨y.1, y.2, _, _, _⟩) (by repeat (first | exact trivial | refine And.intro rfl ?_)) ⟨F.pick [2, 3, 0, 1] (by decide), ⟨hy, hok_malloc hok hm u1 u3⟩, by omega, by omega⟩ (by first | omega | (simp only; omega))
      | exact K0.nx (i + 1, ⟨y.1, y.2, _, _, _⟩) (by repeat (first | exact trivial | refine And.intro rfl ?_)) ⟨F.pick [2, 3, 0, 1] (by decide), ⟨hy, hok_free hok⟩, by omega, by omega⟩ (by first | omega | (simp only; omega))
      | exact K0.nx (i + 1, ⟨a0, c0, st0, en0, bl0⟩) (by repeat (first | exact trivial | refine And.intro rfl ?_)) ⟨F, ⟨hEx, hok⟩, by omega, by omega⟩ (by first | omega | (simp only; omega))
    first | replace hc6 := ne_of_beq_false ((irr_eq _).symm.trans hc6) | simp only [irr_eq, beq_iff_eq, beq_eq_false_iff_ne, ne_eq, decide_eq_true_eq, decide_eq_false_iff_not] at hc6
    refine k_skip ?_
    refine SeqK.nx (by assumption) ?_
    refine k_seq (fun Q K => ?_)
    refine k_lin (fun W K => ?_)
    refine l_op 0 rfl rfl rfl rfl rfl ?_
    refine l_op 0 rfl rfl rfl rfl rfl ?_
    first | refine l_ixrs (e := eA) F (by assumption) ⟨eA_len, by decide⟩ rfl rfl rfl rfl rfl rfl (by omega) (fun m58 b58 hA58 hS58 => ?_) | refine l_ixrs (e := eA) F ko ⟨eA_len, by decide⟩ rfl rfl rfl rfl rfl rfl (by omega) (fun m58 b58 hA58 hS58 => ?_) | refine l_ixr (e := eA) rfl rfl rfl rfl rfl rfl (F.old ho) ⟨eA_len, by decide⟩ (by omega) (fun m58 b58 hA58 => ?_) | refine l_ixr (e := eA) rfl rfl rfl rfl rfl rfl (F.old ko) ⟨eA_len, by decide⟩ (by omega) (fun m58 b58 hA58 => ?_)
    refine l_op 2 rfl rfl rfl rfl rfl ?_
    refine l_ld0 rfl rfl rfl rfl rfl (by assumption) ?_
    refine l_cmp rfl rfl rfl rfl ?_
    refine l_nil (WK.nx (by assumption) ?_)
    refine SeqK.nx (by assumption) ?_
    refine l_cond rfl rfl (fun hc8 => ?_) (fun hc8 => ?_)
    · first | replace hc8 := eq_of_beq ((irr_eq _).symm.trans hc8) | simp only [irr_eq, beq_iff_eq, beq_eq_false_iff_ne, ne_eq, decide_eq_true_eq, decide_eq_false_iff_not] at hc8
      refine k_lin (fun W K => ?_)
      refine l_op 0 rfl rfl rfl rfl rfl ?_
      refine l_op 0 rfl rfl rfl rfl rfl ?_
      refine l_op 0 rfl rfl rfl rfl rfl ?_
      first | refine l_ixrs (e := eA) F (by assumption) ⟨eA_len, by decide⟩ rfl rfl rfl rfl rfl rfl (by omega) (fun m65 b65 hA65 hS65 => ?_) | refine l_ixrs (e := eA) F ko ⟨eA_len, by decide⟩ rfl rfl rfl rfl rfl rfl (by omega) (fun m65 b65 hA65 hS65 => ?_) | refine l_ixr (e := eA) rfl rfl rfl rfl rfl rfl (F.old ho) ⟨eA_len, by decide⟩ (by omega) (fun m65 b65 hA65 => ?_) | refine l_ixr (e := eA) rfl rfl rfl rfl rfl rfl (F.old ko) ⟨eA_len, by decide⟩ (by omega) (fun m65 b65 hA65 => ?_)
      refine l_op 2 rfl rfl rfl rfl rfl ?_
      refine l_ldj rfl rfl rfl rfl rfl rfl (by assumption) rfl ?_
      refine l_call F [0, 1] [2, 3] (by decide) rfl rfl (by kernel_rfl) rfl rfl (free_call (F.sub [0, 1] (by decide)) hEx hok.len) hD (fun y s F hy => ?_)
      (try dsimp only [n_1, n_2, n_3, n_4, List.append_nil, pk, n_5, n_6] at F)
      refine l_nil (WK.nx (by assumption) ?_)
      refine BlkK.nx (by assumption) ?_
      refine SeqK.nx (by assumption) ?_
      refine k_lin (fun W K => ?_)
      refine l_op 0 rfl rfl rfl rfl rfl ?_
      refine l_a64 rfl rfl rfl (by omega) rfl ?_
      refine l_op 0 rfl rfl rfl rfl rfl ?_
      refine l_nil (WK.nx (by assumption) ?_)
      first
      | exact K0.nx (i + 1, ⟨y.1, y.2, _, _, _⟩) (by repeat (first | exact trivial | refine And.intro rfl ?_)) ⟨F.pick [2, 3, 0, 1] (by decide), ⟨hy, hok_malloc hok hm u1 u3⟩, by omega, by omega⟩ (by first | omega | (simp only; omega))
      | exact K0.nx (i + 1, ⟨y.1, y.2, _, _, _⟩) (by repeat (first | exact trivial | refine And.intro rfl ?_)) ⟨F.pick [2, 3, 0, 1] (by decide), ⟨hy, hok_free hok⟩, by omega, by omega⟩ (by first | omega | (simp only; omega))
      | exact K0.nx (i + 1, ⟨a0, c0, st0, en0, bl0⟩) (by repeat (first | exact trivial | refine And.intro rfl ?_)) ⟨F, ⟨hEx, hok⟩, by omega, by omega⟩ (by first | omega | (simp only; omega))
    first | replace hc8 := ne_of_beq_false ((irr_eq _).symm.trans hc8) | simp only [irr_eq, beq_iff_eq, beq_eq_false_iff_ne, ne_eq, decide_eq_true_eq, decide_eq_false_iff_not] at hc8
    refine k_skip ?_
    refine BlkK.nx (by assumption) ?_
    refine SeqK.nx (by assumption) ?_
    refine k_lin (fun W K => ?_)
    refine l_op 0 rfl rfl rfl rfl rfl ?_
    refine l_a64 rfl rfl rfl (by omega) rfl ?_
    refine l_op 0 rfl rfl rfl rfl rfl ?_
    refine l_nil (WK.nx (by assumption) ?_)
    first
    | exact K0.nx (i + 1, ⟨y.1, y.2, _, _, _⟩) (by repeat (first | exact trivial | refine And.intro rfl ?_)) ⟨F.pick [2, 3, 0, 1] (by decide), ⟨hy, hok_malloc hok hm u1 u3⟩, by omega, by omega⟩ (by first | omega | (simp only; omega))
    | exact K0.nx (i + 1, ⟨y.1, y.2, _, _, _⟩) (by repeat (first | exact trivial | refine And.intro rfl ?_)) ⟨F.pick [2, 3, 0, 1] (by decide), ⟨hy, hok_free hok⟩, by omega, by omega⟩ (by first | omega | (simp only; omega))
    | exact K0.nx (i + 1, ⟨a0, c0, st0, en0, bl0⟩) (by repeat (first | exact trivial | refine And.intro rfl ?_)) ⟨F, ⟨hEx, hok⟩, by omega, by omega⟩ (by first | omega | (simp only; omega))
  replace hc5 := of_decide_eq_false ((irr_eq _).symm.trans hc5)
  refine k_exit ?_
  refine SeqK.et (by assumption) ?_
  refine LoopK.et (by assumption) ?_
  refine BlkK.et (by assumption) ?_
  refine SeqK.nx (by assumption) ?_
  refine k_seq (fun Q K => ?_)
  refine k_seq (fun Q K => ?_)
  refine k_lin (fun W K => ?_)
  refine l_op 0 rfl rfl rfl rfl rfl ?_
  refine l_op 0 rfl rfl rfl rfl rfl ?_
  refine l_callp F rfl rfl (by kernel_rfl) rfl rfl (start_call (F.cel0 0 rfl)) (fun _ s F _ => ?_)
  (try dsimp only [n_1, n_2, n_3, n_4, List.append_nil, pk, n_5, n_6] at F)
  refine l_op 0 rfl rfl rfl rfl rfl ?_
  refine l_callp F rfl rfl (by kernel_rfl) rfl rfl (end_call (F.cel0 0 rfl)) (fun _ s F _ => ?_)
  (try dsimp only [n_1, n_2, n_3, n_4, List.append_nil, pk, n_5, n_6] at F)
  refine l_op 0 rfl rfl rfl rfl rfl ?_
  refine l_callp F rfl rfl (by kernel_rfl) rfl rfl (blocks_call (bl := bl0) (F.cel0 0 rfl) (Old.pure (F.has 1 rfl)) (Nat.le_trans hok.len (by decide))) (fun y1 s F hy1 => ?_)
  (try dsimp only [n_1, n_2, n_3, n_4, List.append_nil, pk, n_5, n_6] at F)
  refine l_call F [2, 3] [0, 1] (by decide) rfl rfl (by kernel_rfl) rfl rfl (loadL_call (xs := bl0) (bl0 := []) (st := st0) (en := en0) (F.sub [2, 3] (by decide)) (.inl rfl) (F.oldK [2, 3] 4 rfl (by decide)) hok.blk hok.ust hok.uen) hD (fun y2 s F hy2 => ?_)
  (try dsimp only [n_1, n_2, n_3, n_4, List.append_nil, pk, n_5, n_6] at F)
  rw [load_same hok] at F
  refine l_callp F rfl rfl (by kernel_rfl) rfl rfl num_call (fun _ s F _ => ?_)
  (try dsimp only [n_1, n_2, n_3, n_4, List.append_nil, pk, n_5, n_6] at F)
  refine l_cmp rfl rfl rfl rfl ?_
  refine l_nil (WK.nx (by assumption) ?_)
  refine SeqK.nx (by assumption) ?_
  refine l_cond rfl rfl (fun hc9 => ?_) (fun hc9 => ?_)
  · first | replace hc9 := bne_iff_ne.1 ((irr_eq _).symm.trans hc9) | simp only [irr_eq, bne_iff_ne, bne_eq_false_iff_eq, ne_eq, decide_eq_true_eq, decide_eq_false_iff_not, Bool.not_eq_true', Bool.not_eq_false'] at hc9
    exact absurd (congrArg HR.ret (load_same hok)) hc9
  first | replace hc9 := bne_eq_false_iff_eq.1 ((irr_eq _).symm.trans hc9) | simp only [irr_eq, bne_iff_ne, bne_eq_false_iff_eq, ne_eq, decide_eq_true_eq, decide_eq_false_iff_not, Bool.not_eq_true', Bool.not_eq_false'] at hc9
  refine k_skip ?_
  refine SeqK.nx (by assumption) ?_
  refine k_seq (fun Q K => ?_)
  refine k_seq (fun Q K => ?_)
  refine k_lin (fun W K => ?_)
  refine l_op 0 rfl rfl rfl rfl rfl ?_
  refine l_nil (WK.nx (by assumption) ?_)
  refine SeqK.nx (by assumption) ?_
  refine k_block (fun Q K => ?_)
  try dsimp only [hF, List.cons_append, List.nil_append] at F
  refine k_loop (α := Int × HS × Option Addr × Nat) (fun ⟨i, g, a1, c1⟩ s => Facts E0 σ s (g.f m most ++ hF m2 a1 c1 most g.st g.en g.bl) ∧ g.ok most ∧ Ex a1 ∧ 0 ≤ i ∧ i ≤ us.length) (fun ⟨i, g, a1, c1⟩ => [(2, .slice b us.length c'), (7, .pointer (some ⟨m, 0, none⟩)), (8, .pointer (some ⟨m2, 0, none⟩)), (10, .int .i64 i)]) (fun ⟨i, _⟩ => (us.length - i).toNat) (0, ⟨a0, c0, st0, en0, bl0⟩, y2.1, y2.2) ⟨F, ⟨hEx, hok⟩, hy2, by omega, by omega⟩ (by repeat (first | exact trivial | refine And.intro rfl ?_)) ?_
  clear F hEx hok
  rintro ⟨i, ⟨a0, c0, st0, en0, bl0⟩, a1, c1⟩ env s Q K1 ⟨F, ⟨hEx, hok⟩, hEx1, i0, i1⟩
  dsimp only [hF, HS.f, List.cons_append, List.nil_append] at F hEx hok
  refine k_seq (fun Q K => ?_)
  refine k_seq (fun Q K => ?_)
  refine k_lin (fun W K => ?_)
  refine l_op 0 rfl rfl rfl rfl rfl ?_
  refine l_op 0 rfl rfl rfl rfl rfl ?_
  first | refine l_op 2 rfl rfl rfl rfl rfl ?_ | refine l_ln rfl rfl rfl rfl ?_
  refine l_cmp rfl rfl rfl rfl ?_
  refine l_nil (WK.nx (by assumption) ?_)
  refine SeqK.nx (by assumption) ?_
  refine l_cond rfl rfl (fun hc10 => ?_) (fun hc10 => ?_)
  · replace hc10 := of_decide_eq_true ((irr_eq _).symm.trans hc10)
    obtain ⟨u1, u2, u3⟩ := k.at (i := i.toNat) (by omega)
    refine k_skip ?_
    refine SeqK.nx (by assumption) ?_
    refine k_seq (fun Q K => ?_)
    refine k_block (fun Q K => ?_)
    refine k_seq (fun Q K => ?_)
    refine k_seq (fun Q K => ?_)
    refine k_lin (fun W K => ?_)
    refine l_op 0 rfl rfl rfl rfl rfl ?_
    refine l_op 0 rfl rfl rfl rfl rfl ?_
    first | refine l_ixrs (e := eA) F (by assumption) ⟨eA_len, by decide⟩ rfl rfl rfl rfl rfl rfl (by omega) (fun m87 b87 hA87 hS87 => ?_) | refine l_ixrs (e := eA) F ko ⟨eA_len, by decide⟩ rfl rfl rfl rfl rfl rfl (by omega) (fun m87 b87 hA87 hS87 => ?_) | refine l_ixr (e := eA) rfl rfl rfl rfl rfl rfl (F.old ho) ⟨eA_len, by decide⟩ (by omega) (fun m87 b87 hA87 => ?_) | refine l_ixr (e := eA) rfl rfl rfl rfl rfl rfl (F.old ko) ⟨eA_len, by decide⟩ (by omega) (fun m87 b87 hA87 => ?_)
    refine l_op 2 rfl rfl rfl rfl rfl ?_
    refine l_ld0 rfl rfl rfl rfl rfl (by assumption) ?_
    refine l_cmp rfl rfl rfl rfl ?_
    refine l_nil (WK.nx (by assumption) ?_)
    refine SeqK.nx (by assumption) ?_
    refine l_cond rfl rfl (fun hc11 => ?_) (fun hc11 => ?_)
    · first | replace hc11 := eq_of_beq ((irr_eq _).symm.trans hc11) | simp only [irr_eq, beq_iff_eq, beq_eq_false_iff_ne, ne_eq, decide_eq_true_eq, decide_eq_false_iff_not] at hc11
      refine k_seq (fun Q K => ?_)
      refine k_linm [0, 1, 2, 3, 4, 6, 7, 8, 9, 5, 10, 11, 12, 13, 14, 15, 16] mixed (by kernel_rfl) (fun W K => ?_)
      try have hpS := F.pns
      refine l_op 0 rfl rfl rfl rfl rfl ?_
      refine l_op 0 rfl rfl rfl rfl rfl ?_
      refine l_op 0 rfl rfl rfl rfl rfl ?_
      first | refine l_ixrs (e := eA) F (by assumption) ⟨eA_len, by decide⟩ rfl rfl rfl rfl rfl rfl (by omega) (fun m95 b95 hA95 hS95 => ?_) | refine l_ixrs (e := eA) F ko ⟨eA_len, by decide⟩ rfl rfl rfl rfl rfl rfl (by omega) (fun m95 b95 hA95 hS95 => ?_) | refine l_ixr (e := eA) rfl rfl rfl rfl rfl rfl (F.old ho) ⟨eA_len, by decide⟩ (by omega) (fun m95 b95 hA95 => ?_) | refine l_ixr (e := eA) rfl rfl rfl rfl rfl rfl (F.old ko) ⟨eA_len, by decide⟩ (by omega) (fun m95 b95 hA95 => ?_)
      refine l_op 2 rfl rfl rfl rfl rfl ?_
      refine l_op 0 rfl rfl rfl rfl rfl ?_
      refine l_op 0 rfl rfl rfl rfl rfl ?_
      first | refine l_ixrs (e := eA) F (by assumption) ⟨eA_len, by decide⟩ rfl rfl rfl rfl rfl rfl (by omega) (fun m100 b100 hA100 hS100 => ?_) | refine l_ixrs (e := eA) F ko ⟨eA_len, by decide⟩ rfl rfl rfl rfl rfl rfl (by omega) (fun m100 b100 hA100 hS100 => ?_) | refine l_ixr (e := eA) rfl rfl rfl rfl rfl rfl (F.old ho) ⟨eA_len, by decide⟩ (by omega) (fun m100 b100 hA100 => ?_) | refine l_ixr (e := eA) rfl rfl rfl rfl rfl rfl (F.old ko) ⟨eA_len, by decide⟩ (by omega) (fun m100 b100 hA100 => ?_)
      refine l_op 2 rfl rfl rfl rfl rfl ?_
      refine l_ldj rfl rfl rfl rfl rfl rfl (by assumption) rfl ?_
      first | have hpS := PnS.add hpS hS95 | have hpS := PnS.add hpS (OldC.sf (by assumption)) | skip
      refine l_ldj rfl rfl rfl rfl rfl rfl (by assumption) rfl ?_
      first | have hpS := PnS.add hpS hS100 | have hpS := PnS.add hpS (OldC.sf (by assumption)) | skip
      refine l_call F [0, 1] [2, 3] (by decide) rfl rfl (by kernel_rfl) rfl rfl (malloc_call (F.sub [0, 1] (by decide)) hEx hok.blk hok.len hm hok.ust hok.uen u1 u3) hD (fun y5 s F hy5 => ?_)
      (try dsimp only [n_1, n_2, n_3, n_4, List.append_nil, pk, n_5, n_6] at F)
      refine l_op 0 rfl rfl rfl rfl rfl ?_
      refine l_op 2 rfl rfl rfl rfl rfl ?_
      refine l_op 2 rfl rfl rfl rfl rfl ?_
      refine l_op 0 rfl rfl rfl rfl rfl ?_
      refine l_op 0 rfl rfl rfl rfl rfl ?_
      refine l_nil (WK.nx (by assumption) ?_)
      refine SeqK.nx (by assumption) ?_
      refine k_seq (fun Q K => ?_)
      refine k_linm [0, 1, 2, 3, 4, 6, 7, 8, 9, 5, 10, 11, 12, 13, 14, 15, 16] mixed (by kernel_rfl) (fun W K => ?_)
      try have hpS := F.pns
      refine l_op 0 rfl rfl rfl rfl rfl ?_
      refine l_op 0 rfl rfl rfl rfl rfl ?_
      refine l_op 0 rfl rfl rfl rfl rfl ?_
      first | refine l_ixrs (e := eA) F (by assumption) ⟨eA_len, by decide⟩ rfl rfl rfl rfl rfl rfl (by omega) (fun m110 b110 hA110 hS110 => ?_) | refine l_ixrs (e := eA) F ko ⟨eA_len, by decide⟩ rfl rfl rfl rfl rfl rfl (by omega) (fun m110 b110 hA110 hS110 => ?_) | refine l_ixr (e := eA) rfl rfl rfl rfl rfl rfl (F.old ho) ⟨eA_len, by decide⟩ (by omega) (fun m110 b110 hA110 => ?_) | refine l_ixr (e := eA) rfl rfl rfl rfl rfl rfl (F.old ko) ⟨eA_len, by decide⟩ (by omega) (fun m110 b110 hA110 => ?_)
      refine l_op 2 rfl rfl rfl rfl rfl ?_
      refine l_op 0 rfl rfl rfl rfl rfl ?_
      refine l_op 0 rfl rfl rfl rfl rfl ?_
      first | refine l_ixrs (e := eA) F (by assumption) ⟨eA_len, by decide⟩ rfl rfl rfl rfl rfl rfl (by omega) (fun m115 b115 hA115 hS115 => ?_) | refine l_ixrs (e := eA) F ko ⟨eA_len, by decide⟩ rfl rfl rfl rfl rfl rfl (by omega) (fun m115 b115 hA115 hS115 => ?_) | refine l_ixr (e := eA) rfl rfl rfl rfl rfl rfl (F.old ho) ⟨eA_len, by decide⟩ (by omega) (fun m115 b115 hA115 => ?_) | refine l_ixr (e := eA) rfl rfl rfl rfl rfl rfl (F.old ko) ⟨eA_len, by decide⟩ (by omega) (fun m115 b115 hA115 => ?_)
      refine l_op 2 rfl rfl rfl rfl rfl ?_
      refine l_ldj rfl rfl rfl rfl rfl rfl (by assumption) rfl ?_
      first | have hpS := PnS.add hpS hS110 | have hpS := PnS.add hpS (OldC.sf (by assumption)) | skip
      refine l_ldj rfl rfl rfl rfl rfl rfl (by assumption) rfl ?_
      first | have hpS := PnS.add hpS hS115 | have hpS := PnS.add hpS (OldC.sf (by assumption)) | skip
      refine l_call F [0, 1] [2, 3] (by decide) rfl rfl (by kernel_rfl) rfl rfl (malloc_call (bl := bl0) (F.sub [0, 1] (by decide)) hEx1 hok.blk hok.len hm hok.ust hok.uen u1 u3) hD (fun y6 s F hy6 => ?_)
      (try dsimp only [n_1, n_2, n_3, n_4, List.append_nil, pk, n_5, n_6] at F)
      refine l_op 0 rfl rfl rfl rfl rfl ?_
      refine l_op 2 rfl rfl rfl rfl rfl ?_
      refine l_op 2 rfl rfl rfl rfl rfl ?_
      refine l_op 0 rfl rfl rfl rfl rfl ?_
      refine l_op 0 rfl rfl rfl rfl rfl ?_
      refine l_nil (WK.nx (by assumption) ?_)
      refine SeqK.nx (by assumption) ?_
      refine k_seq (fun Q K => ?_)
      refine k_lin (fun W K => ?_)
      refine l_op 0 rfl rfl rfl rfl rfl ?_
      refine l_op 0 rfl rfl rfl rfl rfl ?_
      refine l_cmp rfl rfl rfl rfl ?_
      refine l_op 0 rfl rfl rfl rfl rfl ?_
      refine l_guard rfl rfl rfl (fun hc12 => ?_) (fun hc12 => ?_)
      · first | replace hc12 := bne_iff_ne.1 ((irr_eq _).symm.trans hc12) | simp only [irr_eq, bne_iff_ne, bne_eq_false_iff_eq, ne_eq, decide_eq_true_eq, decide_eq_false_iff_not, Bool.not_eq_true', Bool.not_eq_false'] at hc12
        exact absurd rfl hc12
      first | replace hc12 := bne_eq_false_iff_eq.1 ((irr_eq _).symm.trans hc12) | simp only [irr_eq, bne_iff_ne, bne_eq_false_iff_eq, ne_eq, decide_eq_true_eq, decide_eq_false_iff_not, Bool.not_eq_true', Bool.not_eq_false'] at hc12
      refine l_op 0 rfl rfl rfl rfl rfl ?_
      refine l_op 0 rfl rfl rfl rfl rfl ?_
      refine l_cmp rfl rfl rfl rfl ?_
      refine l_op 2 rfl rfl rfl rfl rfl ?_
      refine l_nil (WK.nx (by assumption) ?_)
      refine SeqK.nx (by assumption) ?_
      refine l_cond rfl rfl (fun hc13 => ?_) (fun hc13 => ?_)
      · first | replace hc13 := bne_iff_ne.1 ((irr_eq _).symm.trans hc13) | simp only [irr_eq, bne_iff_ne, bne_eq_false_iff_eq, ne_eq, decide_eq_true_eq, decide_eq_false_iff_not, Bool.not_eq_true', Bool.not_eq_false'] at hc13
        exact absurd rfl hc13
      first | replace hc13 := bne_eq_false_iff_eq.1 ((irr_eq _).symm.trans hc13) | simp only [irr_eq, bne_iff_ne, bne_eq_false_iff_eq, ne_eq, decide_eq_true_eq, decide_eq_false_iff_not, Bool.not_eq_true', Bool.not_eq_false'] at hc13
      refine k_skip ?_
      refine SeqK.nx (by assumption) ?_
      refine k_seq (fun Q K => ?_)
      refine k_linm [0, 1, 2, 3, 4, 5, 6, 7, 8, 9, 10, 11, 14, 15, 16, 17, 18, 12, 19, 13, 20, 21, 22] mixed (by kernel_rfl) (fun W K => ?_)
      try have hpS := F.pns
      refine l_op 0 rfl rfl rfl rfl rfl ?_
      refine l_op 0 rfl rfl rfl rfl rfl ?_
      first | refine l_ixrs (e := eA) F (by assumption) ⟨eA_len, by decide⟩ rfl rfl rfl rfl rfl rfl (by omega) (fun m131 b131 hA131 hS131 => ?_) | refine l_ixrs (e := eA) F ko ⟨eA_len, by decide⟩ rfl rfl rfl rfl rfl rfl (by omega) (fun m131 b131 hA131 hS131 => ?_) | refine l_ixr (e := eA) rfl rfl rfl rfl rfl rfl (F.old ho) ⟨eA_len, by decide⟩ (by omega) (fun m131 b131 hA131 => ?_) | refine l_ixr (e := eA) rfl rfl rfl rfl rfl rfl (F.old ko) ⟨eA_len, by decide⟩ (by omega) (fun m131 b131 hA131 => ?_)
      refine l_op 2 rfl rfl rfl rfl rfl ?_
      refine l_ld0 rfl rfl rfl rfl rfl (by assumption) ?_
      first | have hpS := PnS.add hpS hS131 | have hpS := PnS.add hpS (OldC.sf (by assumption)) | skip
      refine l_cmp rfl rfl rfl rfl ?_
      refine l_op 0 rfl rfl rfl rfl rfl ?_
      refine l_guard rfl rfl rfl (fun hc14 => ?_) (fun hc14 => ?_)
      · first | replace hc14 := eq_of_beq ((irr_eq _).symm.trans hc14) | simp only [irr_eq, beq_iff_eq, beq_eq_false_iff_ne, ne_eq, decide_eq_true_eq, decide_eq_false_iff_not] at hc14
        omega
      first | replace hc14 := ne_of_beq_false ((irr_eq _).symm.trans hc14) | simp only [irr_eq, beq_iff_eq, beq_eq_false_iff_ne, ne_eq, decide_eq_true_eq, decide_eq_false_iff_not] at hc14
      refine l_s rfl rfl ?_
      refine l_s rfl rfl ?_
      refine l_s rfl rfl ?_
      refine l_s rfl rfl ?_
      refine l_s rfl rfl ?_
      refine l_s rfl rfl ?_
      refine l_s rfl rfl ?_
      refine l_s rfl rfl ?_
      refine l_s rfl rfl ?_
      refine l_s rfl rfl ?_
      refine l_s rfl rfl ?_
      refine l_s rfl rfl ?_
      refine l_s rfl rfl ?_
      refine l_s rfl rfl ?_
      refine l_s rfl rfl ?_
      refine l_op 2 rfl rfl rfl rfl rfl ?_
      refine l_nil (WK.nx (by assumption) ?_)
      refine SeqK.nx (by assumption) ?_
      first | refine e_cond_f rfl rfl rfl ?_ | refine e_cond_f rfl rfl (by rw [irr_eq]; first | exact beq_eq_false_iff_ne.2 (by assumption) | exact decide_eq_false (by assumption) | exact bne_eq_false_iff_eq.2 (by assumption)) ?_
      refine k_skip ?_
      refine BlkK.nx (by assumption) ?_
      refine SeqK.nx (by assumption) ?_
      refine k_lin (fun W K => ?_)
      refine l_op 0 rfl rfl rfl rfl rfl ?_
      refine l_a64 rfl rfl rfl (by omega) rfl ?_
      refine l_op 0 rfl rfl rfl rfl rfl ?_
      refine l_nil (WK.nx (by assumption) ?_)
      first
      | exact K1.nx (i + 1, ⟨y5.1, y5.2, _, _, _⟩, y6.1, y6.2) (by repeat (first | exact trivial | refine And.intro rfl ?_)) ⟨F, ⟨hy5, hok_malloc hok hm u1 u3⟩, hy6, by omega, by omega⟩ (by first | omega | (simp only; omega))
      | exact K1.nx (i + 1, ⟨y5.1, y5.2, _, _, _⟩, y6.1, y6.2) (by repeat (first | exact trivial | refine And.intro rfl ?_)) ⟨F, ⟨hy5, hok_free hok⟩, hy6, by omega, by omega⟩ (by first | omega | (simp only; omega))
      | exact K1.nx (i + 1, ⟨a0, c0, st0, en0, bl0⟩, a1, c1) (by repeat (first | exact trivial | refine And.intro rfl ?_)) ⟨F, ⟨hEx, hok⟩, hEx1, by omega, by omega⟩ (by first | omega | (simp only; omega))
    first | replace hc11 := ne_of_beq_false ((irr_eq _).symm.trans hc11) | simp only [irr_eq, beq_iff_eq, beq_eq_false_iff_ne, ne_eq, decide_eq_true_eq, decide_eq_false_iff_not] at hc11
    refine k_skip ?_
    refine SeqK.nx (by assumption) ?_
    refine k_seq (fun Q K => ?_)
    refine k_linm [0, 1, 2, 3, 4, 5, 6, 7, 8, 9, 10, 11, 14, 15, 16, 17, 18, 12, 19, 13, 20, 21, 22] mixed (by kernel_rfl) (fun W K => ?_)
    try have hpS := F.pns
    refine l_op 0 rfl rfl rfl rfl rfl ?_
    refine l_op 0 rfl rfl rfl rfl rfl ?_
    first | refine l_ixrs (e := eA) F (by assumption) ⟨eA_len, by decide⟩ rfl rfl rfl rfl rfl rfl (by omega) (fun m131 b131 hA131 hS131 => ?_) | refine l_ixrs (e := eA) F ko ⟨eA_len, by decide⟩ rfl rfl rfl rfl rfl rfl (by omega) (fun m131 b131 hA131 hS131 => ?_) | refine l_ixr (e := eA) rfl rfl rfl rfl rfl rfl (F.old ho) ⟨eA_len, by decide⟩ (by omega) (fun m131 b131 hA131 => ?_) | refine l_ixr (e := eA) rfl rfl rfl rfl rfl rfl (F.old ko) ⟨eA_len, by decide⟩ (by omega) (fun m131 b131 hA131 => ?_)
    refine l_op 2 rfl rfl rfl rfl rfl ?_
    refine l_ld0 rfl rfl rfl rfl rfl (by assumption) ?_
    first | have hpS := PnS.add hpS hS131 | have hpS := PnS.add hpS (OldC.sf (by assumption)) | skip
    refine l_cmp rfl rfl rfl rfl ?_
    refine l_op 0 rfl rfl rfl rfl rfl ?_
    refine l_guard rfl rfl rfl (fun hc15 => ?_) (fun hc15 => ?_)
    · first | replace hc15 := eq_of_beq ((irr_eq _).symm.trans hc15) | simp only [irr_eq, beq_iff_eq, beq_eq_false_iff_ne, ne_eq, decide_eq_true_eq, decide_eq_false_iff_not] at hc15
      refine l_op 0 rfl rfl rfl rfl rfl ?_
      refine l_op 0 rfl rfl rfl rfl rfl ?_
      refine l_op 0 rfl rfl rfl rfl rfl ?_
      first | refine l_ixrs (e := eA) F (by assumption) ⟨eA_len, by decide⟩ rfl rfl rfl rfl rfl rfl (by omega) (fun m139 b139 hA139 hS139 => ?_) | refine l_ixrs (e := eA) F ko ⟨eA_len, by decide⟩ rfl rfl rfl rfl rfl rfl (by omega) (fun m139 b139 hA139 hS139 => ?_) | refine l_ixr (e := eA) rfl rfl rfl rfl rfl rfl (F.old ho) ⟨eA_len, by decide⟩ (by omega) (fun m139 b139 hA139 => ?_) | refine l_ixr (e := eA) rfl rfl rfl rfl rfl rfl (F.old ko) ⟨eA_len, by decide⟩ (by omega) (fun m139 b139 hA139 => ?_)
      refine l_op 2 rfl rfl rfl rfl rfl ?_
      refine l_op 0 rfl rfl rfl rfl rfl ?_
      refine l_op 0 rfl rfl rfl rfl rfl ?_
      refine l_op 0 rfl rfl rfl rfl rfl ?_
      first | refine l_ixrs (e := eA) F (by assumption) ⟨eA_len, by decide⟩ rfl rfl rfl rfl rfl rfl (by omega) (fun m146 b146 hA146 hS146 => ?_) | refine l_ixrs (e := eA) F ko ⟨eA_len, by decide⟩ rfl rfl rfl rfl rfl rfl (by omega) (fun m146 b146 hA146 hS146 => ?_) | refine l_ixr (e := eA) rfl rfl rfl rfl rfl rfl (F.old ho) ⟨eA_len, by decide⟩ (by omega) (fun m146 b146 hA146 => ?_) | refine l_ixr (e := eA) rfl rfl rfl rfl rfl rfl (F.old ko) ⟨eA_len, by decide⟩ (by omega) (fun m146 b146 hA146 => ?_)
      refine l_op 2 rfl rfl rfl rfl rfl ?_
      refine l_ldj rfl rfl rfl rfl rfl rfl (by assumption) rfl ?_
      first | have hpS := PnS.add hpS hS139 | have hpS := PnS.add hpS (OldC.sf (by assumption)) | skip
      refine l_ldj rfl rfl rfl rfl rfl rfl (by assumption) rfl ?_
      first | have hpS := PnS.add hpS hS146 | have hpS := PnS.add hpS (OldC.sf (by assumption)) | skip
      refine l_call F [0, 1] [2, 3] (by decide) rfl rfl (by kernel_rfl) rfl rfl (free_call (F.sub [0, 1] (by decide)) hEx hok.len) hD (fun y5 s F hy5 => ?_)
      (try dsimp only [n_1, n_2, n_3, n_4, List.append_nil, pk, n_5, n_6] at F)
      refine l_call F [0, 1] [2, 3] (by decide) rfl rfl (by kernel_rfl) rfl rfl (free_call (bl := bl0) (F.sub [0, 1] (by decide)) hEx1 hok.len) hD (fun y6 s F hy6 => ?_)
      (try dsimp only [n_1, n_2, n_3, n_4, List.append_nil, pk, n_5, n_6] at F)
      refine l_cmp rfl rfl rfl rfl ?_
      refine l_op 2 rfl rfl rfl rfl rfl ?_
      refine l_nil (WK.nx (by assumption) ?_)
      refine SeqK.nx (by assumption) ?_
      refine l_cond rfl rfl (fun hc16 => ?_) (fun hc16 => ?_)
      · first | replace hc16 := bne_iff_ne.1 ((irr_eq _).symm.trans hc16) | simp only [irr_eq, bne_iff_ne, bne_eq_false_iff_eq, ne_eq, decide_eq_true_eq, decide_eq_false_iff_not, Bool.not_eq_true', Bool.not_eq_false'] at hc16
        exact absurd rfl hc16
      first | replace hc16 := bne_eq_false_iff_eq.1 ((irr_eq _).symm.trans hc16) | simp only [irr_eq, bne_iff_ne, bne_eq_false_iff_eq, ne_eq, decide_eq_true_eq, decide_eq_false_iff_not, Bool.not_eq_true', Bool.not_eq_false'] at hc16
      refine k_skip ?_
      refine BlkK.nx (by assumption) ?_
      refine SeqK.nx (by assumption) ?_
      refine k_lin (fun W K => ?_)
      refine l_op 0 rfl rfl rfl rfl rfl ?_
      refine l_a64 rfl rfl rfl (by omega) rfl ?_
      refine l_op 0 rfl rfl rfl rfl rfl ?_
      refine l_nil (WK.nx (by assumption) ?_)
      first
      | exact K1.nx (i + 1, ⟨y5.1, y5.2, _, _, _⟩, y6.1, y6.2) (by repeat (first | exact trivial | refine And.intro rfl ?_)) ⟨F, ⟨hy5, hok_malloc hok hm u1 u3⟩, hy6, by omega, by omega⟩ (by first | omega | (simp only; omega))
      | exact K1.nx (i + 1, ⟨y5.1, y5.2, _, _, _⟩, y6.1, y6.2) (by repeat (first | exact trivial | refine And.intro rfl ?_)) ⟨F, ⟨hy5, hok_free hok⟩, hy6, by omega, by omega⟩ (by first | omega | (simp only; omega))
      | exact K1.nx (i + 1, ⟨a0, c0, st0, en0, bl0⟩, a1, c1) (by repeat (first | exact trivial | refine And.intro rfl ?_)) ⟨F, ⟨hEx, hok⟩, hEx1, by omega, by omega⟩ (by first | omega | (simp only; omega))
    first | replace hc15 := ne_of_beq_false ((irr_eq _).symm.trans hc15) | simp only [irr_eq, beq_iff_eq, beq_eq_false_iff_ne, ne_eq, decide_eq_true_eq, decide_eq_false_iff_not] at hc15
    refine l_s rfl rfl ?_
    refine l_s rfl rfl ?_
    refine l_s rfl rfl ?_
    refine l_s rfl rfl ?_
    refine l_s rfl rfl ?_
    refine l_s rfl rfl ?_
    refine l_s rfl rfl ?_
    refine l_s rfl rfl ?_
    refine l_s rfl rfl ?_
    refine l_s rfl rfl ?_
    refine l_s rfl rfl ?_
    refine l_s rfl rfl ?_
    refine l_s rfl rfl ?_
    refine l_s rfl rfl ?_
    refine l_s rfl rfl ?_
    refine l_op 2 rfl rfl rfl rfl rfl ?_
    refine l_nil (WK.nx (by assumption) ?_)
    refine SeqK.nx (by assumption) ?_
    first | refine e_cond_f rfl rfl rfl ?_ | refine e_cond_f rfl rfl (by rw [irr_eq]; first | exact beq_eq_false_iff_ne.2 (by assumption) | exact decide_eq_false (by assumption) | exact bne_eq_false_iff_eq.2 (by assumption)) ?_
    refine k_skip ?_
    refine BlkK.nx (by assumption) ?_
    refine SeqK.nx (by assumption) ?_
    refine k_lin (fun W K => ?_)
    refine l_op 0 rfl rfl rfl rfl rfl ?_
    refine l_a64 rfl rfl rfl (by omega) rfl ?_
    refine l_op 0 rfl rfl rfl rfl rfl ?_
    refine l_nil (WK.nx (by assumption) ?_)
    first
    | exact K1.nx (i + 1, ⟨y5.1, y5.2, _, _, _⟩, y6.1, y6.2) (by repeat (first | exact trivial | refine And.intro rfl ?_)) ⟨F, ⟨hy5, hok_malloc hok hm u1 u3⟩, hy6, by omega, by omega⟩ (by first | omega | (simp only; omega))
    | exact K1.nx (i + 1, ⟨y5.1, y5.2, _, _, _⟩, y6.1, y6.2) (by repeat (first | exact trivial | refine And.intro rfl ?_)) ⟨F, ⟨hy5, hok_free hok⟩, hy6, by omega, by omega⟩ (by first | omega | (simp only; omega))
    | exact K1.nx (i + 1, ⟨a0, c0, st0, en0, bl0⟩, a1, c1) (by repeat (first | exact trivial | refine And.intro rfl ?_)) ⟨F, ⟨hEx, hok⟩, hEx1, by omega, by omega⟩ (by first | omega | (simp only; omega))
  replace hc10 := of_decide_eq_false ((irr_eq _).symm.trans hc10)
  refine k_exit ?_
  refine SeqK.et (by assumption) ?_
  refine LoopK.et (by assumption) ?_
  refine BlkK.et (by assumption) ?_
  refine SeqK.nx (by assumption) ?_
  refine k_seq (fun Q K => ?_)
  refine k_lin (fun W K => ?_)
  refine l_op 0 rfl rfl rfl rfl rfl ?_
  refine l_callp F rfl rfl (by kernel_rfl) rfl rfl (blocks_call (bl := bl0) (F.cel0 0 rfl) (Old.pure (F.has 1 rfl)) (Nat.le_trans hok.len (by decide))) (fun y8 s F hy8 => ?_)
  (try dsimp only [n_1, n_2, n_3, n_4, List.append_nil, pk, n_5, n_6] at F)
  refine l_op 0 rfl rfl rfl rfl rfl ?_
  refine l_callp F rfl rfl (by kernel_rfl) rfl rfl (blocks_call (bl := bl0) (F.cel0 2 rfl) (Old.pure (F.has 3 rfl)) (Nat.le_trans hok.len (by decide))) (fun y9 s F hy9 => ?_)
  (try dsimp only [n_1, n_2, n_3, n_4, List.append_nil, pk, n_5, n_6] at F)
  refine l_callp F rfl rfl (by kernel_rfl) rfl rfl (same_call (Old.pure (F.has 4 rfl)) (Old.pure (F.has 5 rfl)) (Nat.le_trans hok.len (by decide))) (fun _ s F _ => ?_)
  (try dsimp only [n_1, n_2, n_3, n_4, List.append_nil, pk, n_5, n_6] at F)
  refine l_op 0 rfl rfl rfl rfl rfl ?_
  refine l_guard rfl rfl rfl (fun hc17 => ?_) (fun hc17 => ?_)
  · try simp only [irr_eq, beq_iff_eq, bne_iff_ne, beq_eq_false_iff_ne, bne_eq_false_iff_eq, ne_eq, decide_eq_true_eq, decide_eq_false_iff_not, Bool.not_eq_true', Bool.not_eq_false'] at hc17
    refine l_op 0 rfl rfl rfl rfl rfl ?_
    refine l_callp F rfl rfl (by kernel_rfl) rfl rfl (start_call (F.cel0 0 rfl)) (fun _ s F _ => ?_)
    (try dsimp only [n_1, n_2, n_3, n_4, List.append_nil, pk, n_5, n_6] at F)
    refine l_op 0 rfl rfl rfl rfl rfl ?_
    refine l_callp F rfl rfl (by kernel_rfl) rfl rfl (start_call (F.cel0 2 rfl)) (fun _ s F _ => ?_)
    (try dsimp only [n_1, n_2, n_3, n_4, List.append_nil, pk, n_5, n_6] at F)
    refine l_cmp rfl rfl rfl rfl ?_
    refine l_op 2 rfl rfl rfl rfl rfl ?_
    refine l_op 0 rfl rfl rfl rfl rfl ?_
    refine l_guard rfl rfl rfl (fun hc18 => ?_) (fun hc18 => ?_)
    · first | replace hc18 := eq_of_beq ((irr_eq _).symm.trans hc18) | simp only [irr_eq, beq_iff_eq, beq_eq_false_iff_ne, ne_eq, decide_eq_true_eq, decide_eq_false_iff_not] at hc18
      refine l_op 0 rfl rfl rfl rfl rfl ?_
      refine l_callp F rfl rfl (by kernel_rfl) rfl rfl (end_call (F.cel0 0 rfl)) (fun _ s F _ => ?_)
      (try dsimp only [n_1, n_2, n_3, n_4, List.append_nil, pk, n_5, n_6] at F)
      refine l_op 0 rfl rfl rfl rfl rfl ?_
      refine l_callp F rfl rfl (by kernel_rfl) rfl rfl (end_call (F.cel0 2 rfl)) (fun _ s F _ => ?_)
      (try dsimp only [n_1, n_2, n_3, n_4, List.append_nil, pk, n_5, n_6] at F)
      refine l_cmp rfl rfl rfl rfl ?_
      refine l_op 2 rfl rfl rfl rfl rfl ?_
      refine l_op 0 rfl rfl rfl rfl rfl ?_
      refine l_guard rfl rfl rfl (fun hc19 => ?_) (fun hc19 => ?_)
      · first | replace hc19 := eq_of_beq ((irr_eq _).symm.trans hc19) | simp only [irr_eq, beq_iff_eq, beq_eq_false_iff_ne, ne_eq, decide_eq_true_eq, decide_eq_false_iff_not] at hc19
        refine l_callp F rfl rfl (by kernel_rfl) rfl rfl live_call (fun _ s F _ => ?_)
        (try dsimp only [n_1, n_2, n_3, n_4, List.append_nil, pk, n_5, n_6] at F)
        refine l_op 2 rfl rfl rfl rfl rfl ?_
        refine l_op 0 rfl rfl rfl rfl rfl ?_
        refine l_nil (WK.nx (by assumption) ?_)
        refine SeqK.nx (by assumption) ?_
        refine k_ret ?_
        refine FunK.rt (by assumption) rfl ?_
        -- leaf 3
        exact rfl
      first | replace hc19 := ne_of_beq_false ((irr_eq _).symm.trans hc19) | simp only [irr_eq, beq_iff_eq, beq_eq_false_iff_ne, ne_eq, decide_eq_true_eq, decide_eq_false_iff_not] at hc19
      exact absurd rfl hc19
    first | replace hc18 := ne_of_beq_false ((irr_eq _).symm.trans hc18) | simp only [irr_eq, beq_iff_eq, beq_eq_false_iff_ne, ne_eq, decide_eq_true_eq, decide_eq_false_iff_not] at hc18
    exact absurd rfl hc18
  simp [irr_eq] at hc17

end Go.Proofs.Ytkealnppdblgiaa
