/- A container is read, by the document. No statement of the seat is proved in this text. -/
import Derived.Test.YtkmkbpnlccomnaaBlE
set_option linter.unusedVariables false
set_option linter.unusedSimpArgs false
set_option maxRecDepth 100000
set_option maxHeartbeats 8000000
namespace Go.Proofs.Ytkmkbpnlccomnaa
open GAb Go

theorem OldK.part {O : Nat → Prop} {σ : AState} {a : Option Addr} {l c : Nat} {ts : List CK} (h : OldK O σ a l c ts) {lo hi : Nat} (h1 : lo ≤ hi) (h2 : hi ≤ l) : OldK O σ (shift a (lo * 2)) (hi - lo) (c - lo) ((ts.drop lo).take (hi - lo)) := by
  have hm : ∀ t ∈ (ts.drop lo).take (hi - lo), t ∈ ts := fun t ht => List.mem_of_mem_drop (List.mem_of_mem_take ht)
  refine ⟨?_, fun t ht => h.dat t (hm t ht), fun t ht => h.byt t (hm t ht), fun t ht => h.bd t (hm t ht)⟩
  have := h.old.part h1 h2
  rw [rows_drop eK_len, rows_take eK_len] at this
  exact this
theorem rlength_call {σ : AState} {a : Option Addr} {l c : Nat} {ts : List CK} (h : OldK E0 σ a l c ts) (hb : ∀ t ∈ ts, t.l ≤ 2000000) (hn : l ≤ 1000000) :
    SCall Try.prog E0 37 [.slice a l c] σ (Ret E0 σ (fun (_ : Unit) => .int .i64 (lenP (ts.map plK))) (fun _ => []) fun _ => True) := by
  have htl := h.len
  have ho := h.old
  have hml : (ts.map plK).length = l := by rw [List.length_map]; exact htl
  refine k_fun Try.func37 rfl (m := 29) rfl fun B hD Q K => ?_
  have F := Facts.nil E0 σ
  refine k_seq (fun Q K => ?_)
  refine k_lin (fun W K => ?_)
  refine l_op 0 rfl rfl rfl rfl rfl ?_
  refine l_nil (WK.nx (by assumption) ?_)
  refine SeqK.nx (by assumption) ?_
  refine k_seq (fun Q K => ?_)
  refine k_lin (fun W K => ?_)
  refine l_op 0 rfl rfl rfl rfl rfl ?_
  refine l_nil (WK.nx (by assumption) ?_)
  refine SeqK.nx (by assumption) ?_
  refine k_seq (fun Q K => ?_)
  refine k_seq (fun Q K => ?_)
  refine k_lin (fun W K => ?_)
  refine l_op 0 rfl rfl rfl rfl rfl ?_
  refine l_nil (WK.nx (by assumption) ?_)
  refine SeqK.nx (by assumption) ?_
  refine k_block (fun Q K => ?_)
  refine k_loop (α := Int × Int) (fun ⟨i, n⟩ s => Facts E0 σ s [] ∧ 0 ≤ i ∧ i ≤ l ∧ n = lenP ((ts.map plK).take i.toNat) ∧ n ≤ 3000000 * i) (fun ⟨i, n⟩ => [(0, .slice a l c), (3, .int .i64 n), (4, .int .i64 i)]) (fun ⟨i, _⟩ => (l - i).toNat) (0, 0) ⟨F, by omega, by omega, by simp [lenP], by omega⟩ (by repeat (first | exact trivial | refine And.intro rfl ?_)) ?_
  clear F
  rintro ⟨i, n⟩ env s Q K0 ⟨F, i0, i1, hnp, hn2⟩
  have hn0 := lenP_nn ((ts.map plK).take i.toNat)
  refine k_seq (fun Q K => ?_)
  refine k_seq (fun Q K => ?_)
  refine k_lin (fun W K => ?_)
  refine l_op 0 rfl rfl rfl rfl rfl ?_
  refine l_op 0 rfl rfl rfl rfl rfl ?_
  first | refine l_op 2 rfl rfl rfl rfl rfl ?_ | refine l_ln rfl rfl rfl rfl ?_
  refine l_cmp rfl rfl rfl rfl ?_
  refine l_nil (WK.nx (by assumption) ?_)
  refine SeqK.nx (by assumption) ?_
  refine l_cond rfl rfl (fun hc1 => ?_) (fun hc1 => ?_)
  · replace hc1 := of_decide_eq_true ((irr_eq _).symm.trans hc1)
    have e1 : (i + 1).toNat = i.toNat + 1 := by omega
    have hst := lenP_take (l := ts.map plK) (i := i.toNat) (by omega)
    rw [getP (by omega)] at hst
    have hd := (h.dat _ (OldK.mem (ts := ts) (i := i.toNat) (by omega))).len8
    have hl2 := hb _ (OldK.mem (ts := ts) (i := i.toNat) (by omega))
    refine k_skip ?_
    refine SeqK.nx (by assumption) ?_
    refine k_seq (fun Q K => ?_)
    refine k_block (fun Q K => ?_)
    refine k_linm [0, 1, 2, 3, 4, 5, 9, 10, 11, 12, 6, 7, 8, 13, 14, 15, 16, 17] mixed (by kernel_rfl) (fun W K => ?_)
    try have hpS := F.pns
    refine l_op 0 rfl rfl rfl rfl rfl ?_
    refine l_a64 rfl rfl rfl (by omega) rfl ?_
    refine l_op 0 rfl rfl rfl rfl rfl ?_
    refine l_op 0 rfl rfl rfl rfl rfl ?_
    refine l_ixrs (e := eK) F ho ⟨eK_len, by decide⟩ rfl rfl rfl rfl rfl rfl (by omega) (fun m15 b15 hA15 hS15 => ?_)
    refine l_op 2 rfl rfl rfl rfl rfl ?_
    refine l_op 0 rfl rfl rfl rfl rfl ?_
    refine l_op 0 rfl rfl rfl rfl rfl ?_
    refine l_ixrs (e := eK) F ho ⟨eK_len, by decide⟩ rfl rfl rfl rfl rfl rfl (by omega) (fun m22 b22 hA22 hS22 => ?_)
    refine l_op 2 rfl rfl rfl rfl rfl ?_
    refine l_ldj rfl rfl rfl rfl rfl rfl (by assumption) rfl ?_
    first | have hpS := PnS.add hpS hS15 | have hpS := PnS.add hpS (OldC.sf (by assumption)) | skip
    first | refine l_op 2 rfl rfl rfl rfl rfl ?_ | refine l_ln rfl rfl rfl rfl ?_
    refine l_a64 rfl rfl rfl (by omega) rfl ?_
    refine l_ldj rfl rfl rfl rfl rfl rfl (by assumption) rfl ?_
    first | have hpS := PnS.add hpS hS22 | have hpS := PnS.add hpS (OldC.sf (by assumption)) | skip
    first | refine l_op 2 rfl rfl rfl rfl rfl ?_ | refine l_ln rfl rfl rfl rfl ?_
    first | refine l_remn rfl rfl rfl rfl rfl (by omega) rfl ?_ | refine l_rem rfl rfl rfl rfl rfl (by omega) rfl ?_
    refine l_a64 rfl rfl rfl (by omega) rfl ?_
    refine l_op 0 rfl rfl rfl rfl rfl ?_
    refine l_nil (WK.nx (by assumption) ?_)
    refine BlkK.nx (by assumption) ?_
    refine SeqK.nx (by assumption) ?_
    refine k_lin (fun W K => ?_)
    refine l_op 0 rfl rfl rfl rfl rfl ?_
    refine l_a64 rfl rfl rfl (by omega) rfl ?_
    refine l_op 0 rfl rfl rfl rfl rfl ?_
    refine l_nil (WK.nx (by assumption) ?_)
    refine K0.nx (i + 1, n + 8 + ((ts.getD i.toNat default).l : Int) + ((ts.getD i.toNat default).l : Int) % 2) (by repeat (first | exact trivial | refine And.intro rfl ?_)) ⟨F, by omega, by omega, ?_, by omega⟩ (by first | omega | (simp only; omega))
    rw [e1, hst, ← hnp]; simp only [hd]; omega
  replace hc1 := of_decide_eq_false ((irr_eq _).symm.trans hc1)
  refine k_exit ?_
  refine SeqK.et (by assumption) ?_
  refine LoopK.et (by assumption) ?_
  refine BlkK.et (by assumption) ?_
  refine SeqK.nx (by assumption) ?_
  refine k_seq (fun Q K => ?_)
  refine k_lin (fun W K => ?_)
  refine l_op 0 rfl rfl rfl rfl rfl ?_
  refine l_op 0 rfl rfl rfl rfl rfl ?_
  refine l_nil (WK.nx (by assumption) ?_)
  refine SeqK.nx (by assumption) ?_
  refine k_ret ?_
  refine FunK.rt (by assumption) rfl ?_
  -- leaf 1
  refine ⟨(), ?_, F, trivial⟩
  rw [hnp, List.take_of_length_le (by omega)]; rfl

theorem rread_call {σ : AState} {a : Option Addr} {l c : Nat} {bs : List Int} (hl : Old E0 σ a l c 1 (u8l bs)) (hB : Bytes bs) (hn : l ≤ 2000000) :
    SCall Try.prog E0 13 [.slice a l c] σ (Ret E0 σ (reaV bs) reaF (ReaP bs)) := by
  have hbl := hl.len8
  refine k_fun Try.func13 rfl (m := 180) rfl fun B hD Q K => ?_
  have F := Facts.nil E0 σ
  refine k_seq (fun Q K => ?_)
  refine k_lin (fun W K => ?_)
  refine l_op 0 rfl rfl rfl rfl rfl ?_
  refine l_op 0 rfl rfl rfl rfl rfl ?_
  refine l_op 0 rfl rfl rfl rfl rfl ?_
  refine l_nil (WK.nx (by assumption) ?_)
  refine SeqK.nx (by assumption) ?_
  refine k_seq (fun Q K => ?_)
  refine k_lin (fun W K => ?_)
  refine l_op 0 rfl rfl rfl rfl rfl ?_
  refine l_callp F rfl rfl (by kernel_rfl) rfl rfl (rparse_call (Old.pure (F.old hl)) hB hn) (fun y s F hy => ?_)
  obtain ⟨kind, xa, m, d, us⟩ := y
  obtain ⟨q1, q2, q3⟩ := hy
  dsimp only [parF, parV] at F q1 q2 q3 ⊢
  (try dsimp only [n_1, n_2, n_3, n_4, List.append_nil, pk, n_5, n_6] at F)
  refine l_op 0 rfl rfl rfl rfl rfl ?_
  refine l_op 2 rfl rfl rfl rfl rfl ?_
  refine l_op 2 rfl rfl rfl rfl rfl ?_
  refine l_op 2 rfl rfl rfl rfl rfl ?_
  refine l_op 2 rfl rfl rfl rfl rfl ?_
  refine l_op 0 rfl rfl rfl rfl rfl ?_
  refine l_op 0 rfl rfl rfl rfl rfl ?_
  refine l_op 0 rfl rfl rfl rfl rfl ?_
  refine l_op 0 rfl rfl rfl rfl rfl ?_
  refine l_nil (WK.nx (by assumption) ?_)
  refine SeqK.nx (by assumption) ?_
  refine k_seq (fun Q K => ?_)
  refine k_seq (fun Q K => ?_)
  refine k_lin (fun W K => ?_)
  refine l_op 0 rfl rfl rfl rfl rfl ?_
  refine l_cmp rfl rfl rfl rfl ?_
  refine l_nil (WK.nx (by assumption) ?_)
  refine SeqK.nx (by assumption) ?_
  refine l_cond rfl rfl (fun hc1 => ?_) (fun hc1 => ?_)
  · first | replace hc1 := bne_iff_ne.1 ((irr_eq _).symm.trans hc1) | simp only [irr_eq, bne_iff_ne, bne_eq_false_iff_eq, ne_eq, decide_eq_true_eq, decide_eq_false_iff_not, Bool.not_eq_true', Bool.not_eq_false'] at hc1
    have hr : readR bs = ((parseR bs).1, (parseR bs).2.1, []) := by unfold readR; rw [if_pos hc1]
    refine k_seq (fun Q K => ?_)
    refine k_lin (fun W K => ?_)
    refine l_op 0 rfl rfl rfl rfl rfl ?_
    refine l_op 0 rfl rfl rfl rfl rfl ?_
    refine l_op 0 rfl rfl rfl rfl rfl ?_
    refine l_op 0 rfl rfl rfl rfl rfl ?_
    refine l_op 0 rfl rfl rfl rfl rfl ?_
    refine l_nil (WK.nx (by assumption) ?_)
    refine SeqK.nx (by assumption) ?_
    refine k_ret ?_
    refine SeqK.rt (by assumption) ?_
    refine FunK.rt (by assumption) rfl ?_
    -- leaf 1
    first
    | (exact rea_bad (F.pick [] (by decide)) hr)
    | (refine rea_bad (F.pick [] (by decide)) (hrd.trans (hgo.symm.trans ?_))
       rw [goE_eq (by omega), if_pos (by omega), if_pos (by assumption)]; done)
    | (refine rea_bad (F.pick [] (by decide)) (hrd.trans (hgo.symm.trans ?_))
       rw [goE_eq (by omega), if_pos (by omega), if_neg hid, if_pos hhas]; done)
    | (refine rea_bad (F.pick [] (by decide)) (hrd.trans (hgo.symm.trans ?_))
       rw [goE_eq (by omega), if_pos (by omega), if_neg hid, if_neg hnot, if_pos (by rw [hce]; assumption)]; done)
    | (rw [goE_eq (by omega), if_neg (by omega)] at hgo
       have hp := hrd.trans hgo.symm
       refine ⟨(x, m', d', rs), ?_, F.pick [2, 3] (by decide), ?_⟩
       · rw [reaV, hp, ← hbl]; rfl
       · rw [ReaP, hp]
         exact ⟨rfl, hbd⟩)
  first | replace hc1 := bne_eq_false_iff_eq.1 ((irr_eq _).symm.trans hc1) | simp only [irr_eq, bne_iff_ne, bne_eq_false_iff_eq, ne_eq, decide_eq_true_eq, decide_eq_false_iff_not, Bool.not_eq_true', Bool.not_eq_false'] at hc1
  have hpo := parse_ok hB (bs := bs) (by omega)
  rw [← q2] at hpo
  have hml : us.length = m := (F.has 1 rfl).len eK_len (by decide)
  have hge := lenP_ge (us.map plK)
  rw [List.length_map] at hge
  have hPl : (us.map plK).length = m := by rw [List.length_map]; exact hml
  refine k_skip ?_
  refine SeqK.nx (by assumption) ?_
  refine k_seq (fun Q K => ?_)
  refine k_seq (fun Q K => ?_)
  refine k_lin (fun W K => ?_)
  refine l_op 0 rfl rfl rfl rfl rfl ?_
  refine l_cmp rfl rfl rfl rfl ?_
  refine l_nil (WK.nx (by assumption) ?_)
  refine SeqK.nx (by assumption) ?_
  refine l_cond rfl rfl (fun hc2 => ?_) (fun hc2 => ?_)
  · first | replace hc2 := bne_iff_ne.1 ((irr_eq _).symm.trans hc2) | simp only [irr_eq, bne_iff_ne, bne_eq_false_iff_eq, ne_eq, decide_eq_true_eq, decide_eq_false_iff_not, Bool.not_eq_true', Bool.not_eq_false'] at hc2
    have hr : readR bs = (60, 8, []) := by
      unfold readR
      rw [if_neg (by omega), if_pos]
      rw [← q1]
      exact fun q => hc2 (beq_iff_eq.1 ((sneq_iff kindB_b kindB_s).2 q))
    refine k_seq (fun Q K => ?_)
    refine k_lin (fun W K => ?_)
    refine l_op 0 rfl rfl rfl rfl rfl ?_
    refine l_op 0 rfl rfl rfl rfl rfl ?_
    refine l_op 0 rfl rfl rfl rfl rfl ?_
    refine l_nil (WK.nx (by assumption) ?_)
    refine SeqK.nx (by assumption) ?_
    refine k_ret ?_
    refine SeqK.rt (by assumption) ?_
    refine FunK.rt (by assumption) rfl ?_
    -- leaf 2
    first
    | (exact rea_bad (F.pick [] (by decide)) hr)
    | (refine rea_bad (F.pick [] (by decide)) (hrd.trans (hgo.symm.trans ?_))
       rw [goE_eq (by omega), if_pos (by omega), if_pos (by assumption)]; done)
    | (refine rea_bad (F.pick [] (by decide)) (hrd.trans (hgo.symm.trans ?_))
       rw [goE_eq (by omega), if_pos (by omega), if_neg hid, if_pos hhas]; done)
    | (refine rea_bad (F.pick [] (by decide)) (hrd.trans (hgo.symm.trans ?_))
       rw [goE_eq (by omega), if_pos (by omega), if_neg hid, if_neg hnot, if_pos (by rw [hce]; assumption)]; done)
    | (rw [goE_eq (by omega), if_neg (by omega)] at hgo
       have hp := hrd.trans hgo.symm
       refine ⟨(x, m', d', rs), ?_, F.pick [2, 3] (by decide), ?_⟩
       · rw [reaV, hp, ← hbl]; rfl
       · rw [ReaP, hp]
         exact ⟨rfl, hbd⟩)
  first | replace hc2 := bne_eq_false_iff_eq.1 ((irr_eq _).symm.trans hc2) | simp only [irr_eq, bne_iff_ne, bne_eq_false_iff_eq, ne_eq, decide_eq_true_eq, decide_eq_false_iff_not, Bool.not_eq_true', Bool.not_eq_false'] at hc2
  have hkd : ¬ (parseR bs).2.2.1 ≠ kindB := by
    rw [← q1]
    exact not_not_intro ((sneq_iff kindB_b kindB_s).1 (beq_iff_eq.2 hc2))
  have hbad : ∀ e, idxR (us.map plK) = (0, e) → e ≠ 0 → readR bs = (e, 12, []) := fun e he h0 => by
    unfold readR
    rw [if_neg (by omega), if_neg hkd, ← q2, he, if_pos h0]
  refine k_skip ?_
  refine SeqK.nx (by assumption) ?_
  refine k_seq (fun Q K => ?_)
  refine k_seq (fun Q K => ?_)
  refine k_lin (fun W K => ?_)
  refine l_op 0 rfl rfl rfl rfl rfl ?_
  first | refine l_op 2 rfl rfl rfl rfl rfl ?_ | refine l_ln rfl rfl rfl rfl ?_
  refine l_cmp rfl rfl rfl rfl ?_
  refine l_op 0 rfl rfl rfl rfl rfl ?_
  refine l_guard rfl rfl rfl (fun hc3 => ?_) (fun hc3 => ?_)
  · first | replace hc3 := eq_of_beq ((irr_eq _).symm.trans hc3) | simp only [irr_eq, beq_iff_eq, beq_eq_false_iff_ne, ne_eq, decide_eq_true_eq, decide_eq_false_iff_not] at hc3
    have hr : readR bs = (61, 12, []) := hbad 61 (by unfold idxR; rw [if_pos (.inl (by omega))]) (by decide)
    refine l_s rfl rfl ?_
    refine l_s rfl rfl ?_
    refine l_s rfl rfl ?_
    refine l_s rfl rfl ?_
    refine l_s rfl rfl ?_
    refine l_op 2 rfl rfl rfl rfl rfl ?_
    refine l_op 0 rfl rfl rfl rfl rfl ?_
    refine l_s rfl rfl ?_
    refine l_s rfl rfl ?_
    refine l_s rfl rfl ?_
    refine l_s rfl rfl ?_
    refine l_s rfl rfl ?_
    refine l_s rfl rfl ?_
    refine l_op 2 rfl rfl rfl rfl rfl ?_
    refine l_nil (WK.nx (by assumption) ?_)
    refine SeqK.nx (by assumption) ?_
    first | refine e_cond_t rfl rfl rfl ?_ | refine e_cond_t rfl rfl (by rw [irr_eq]; first | exact beq_iff_eq.2 (by assumption) | exact decide_eq_true (by assumption) | exact bne_iff_ne.2 (by assumption)) ?_
    refine k_seq (fun Q K => ?_)
    refine k_lin (fun W K => ?_)
    refine l_op 0 rfl rfl rfl rfl rfl ?_
    refine l_op 0 rfl rfl rfl rfl rfl ?_
    refine l_op 0 rfl rfl rfl rfl rfl ?_
    refine l_nil (WK.nx (by assumption) ?_)
    refine SeqK.nx (by assumption) ?_
    refine k_ret ?_
    refine SeqK.rt (by assumption) ?_
    refine FunK.rt (by assumption) rfl ?_
    -- leaf 3
    first
    | (exact rea_bad (F.pick [] (by decide)) hr)
    | (refine rea_bad (F.pick [] (by decide)) (hrd.trans (hgo.symm.trans ?_))
       rw [goE_eq (by omega), if_pos (by omega), if_pos (by assumption)]; done)
    | (refine rea_bad (F.pick [] (by decide)) (hrd.trans (hgo.symm.trans ?_))
       rw [goE_eq (by omega), if_pos (by omega), if_neg hid, if_pos hhas]; done)
    | (refine rea_bad (F.pick [] (by decide)) (hrd.trans (hgo.symm.trans ?_))
       rw [goE_eq (by omega), if_pos (by omega), if_neg hid, if_neg hnot, if_pos (by rw [hce]; assumption)]; done)
    | (rw [goE_eq (by omega), if_neg (by omega)] at hgo
       have hp := hrd.trans hgo.symm
       refine ⟨(x, m', d', rs), ?_, F.pick [2, 3] (by decide), ?_⟩
       · rw [reaV, hp, ← hbl]; rfl
       · rw [ReaP, hp]
         exact ⟨rfl, hbd⟩)
  first | replace hc3 := ne_of_beq_false ((irr_eq _).symm.trans hc3) | simp only [irr_eq, beq_iff_eq, beq_eq_false_iff_ne, ne_eq, decide_eq_true_eq, decide_eq_false_iff_not] at hc3
  have hg : (us.map plK).getD 0 default = plK (us.getD 0 default) := getP (by omega)
  have hmem0 := OldK.mem (ts := us) (i := 0) (by omega)
  have hq0 := q3 _ hmem0
  have hdl : (us.getD 0 default).d.length = (us.getD 0 default).l := by simpa using (F.hasM 0 rfl (List.mem_map_of_mem hmem0)).size
  refine l_op 0 rfl rfl rfl rfl rfl ?_
  refine l_ixr (e := eK) rfl rfl rfl rfl rfl rfl (F.has 1 rfl) ⟨eK_len, by decide⟩ (by omega) (fun m42 b42 hA0 => ?_)
  have hA42 : AtR _ m42 b42 (eK (us.getD 0 default)) := hA0
  clear hA0
  refine l_op 2 rfl rfl rfl rfl rfl ?_
  refine l_ld0 rfl rfl rfl rfl rfl (by assumption) ?_
  refine l_cmp rfl rfl rfl rfl ?_
  refine l_op 2 rfl rfl rfl rfl rfl ?_
  refine l_op 0 rfl rfl rfl rfl rfl ?_
  refine l_guard rfl rfl rfl (fun hc4 => ?_) (fun hc4 => ?_)
  · first | replace hc4 := bne_iff_ne.1 ((irr_eq _).symm.trans hc4) | simp only [irr_eq, bne_iff_ne, bne_eq_false_iff_eq, ne_eq, decide_eq_true_eq, decide_eq_false_iff_not, Bool.not_eq_true', Bool.not_eq_false'] at hc4
    have hr : readR bs = (61, 12, []) := hbad 61 (by unfold idxR; rw [if_pos (.inr (by rw [hg]; exact fun q => hc4 (beq_iff_eq.1 ((sneq_iff ridxB_b ridxB_s).2 q))))]) (by decide)
    refine l_s rfl rfl ?_
    refine l_s rfl rfl ?_
    refine l_s rfl rfl ?_
    refine l_s rfl rfl ?_
    refine l_s rfl rfl ?_
    refine l_s rfl rfl ?_
    refine l_op 2 rfl rfl rfl rfl rfl ?_
    refine l_nil (WK.nx (by assumption) ?_)
    refine SeqK.nx (by assumption) ?_
    first | refine e_cond_t rfl rfl rfl ?_ | refine e_cond_t rfl rfl (by rw [irr_eq]; first | exact beq_iff_eq.2 (by assumption) | exact decide_eq_true (by assumption) | exact bne_iff_ne.2 (by assumption)) ?_
    refine k_seq (fun Q K => ?_)
    refine k_lin (fun W K => ?_)
    refine l_op 0 rfl rfl rfl rfl rfl ?_
    refine l_op 0 rfl rfl rfl rfl rfl ?_
    refine l_op 0 rfl rfl rfl rfl rfl ?_
    refine l_nil (WK.nx (by assumption) ?_)
    refine SeqK.nx (by assumption) ?_
    refine k_ret ?_
    refine SeqK.rt (by assumption) ?_
    refine FunK.rt (by assumption) rfl ?_
    -- leaf 4
    first
    | (exact rea_bad (F.pick [] (by decide)) hr)
    | (refine rea_bad (F.pick [] (by decide)) (hrd.trans (hgo.symm.trans ?_))
       rw [goE_eq (by omega), if_pos (by omega), if_pos (by assumption)]; done)
    | (refine rea_bad (F.pick [] (by decide)) (hrd.trans (hgo.symm.trans ?_))
       rw [goE_eq (by omega), if_pos (by omega), if_neg hid, if_pos hhas]; done)
    | (refine rea_bad (F.pick [] (by decide)) (hrd.trans (hgo.symm.trans ?_))
       rw [goE_eq (by omega), if_pos (by omega), if_neg hid, if_neg hnot, if_pos (by rw [hce]; assumption)]; done)
    | (rw [goE_eq (by omega), if_neg (by omega)] at hgo
       have hp := hrd.trans hgo.symm
       refine ⟨(x, m', d', rs), ?_, F.pick [2, 3] (by decide), ?_⟩
       · rw [reaV, hp, ← hbl]; rfl
       · rw [ReaP, hp]
         exact ⟨rfl, hbd⟩)
  first | replace hc4 := bne_eq_false_iff_eq.1 ((irr_eq _).symm.trans hc4) | simp only [irr_eq, bne_iff_ne, bne_eq_false_iff_eq, ne_eq, decide_eq_true_eq, decide_eq_false_iff_not, Bool.not_eq_true', Bool.not_eq_false'] at hc4
  have w1 : ((us.map plK).getD 0 default).1 = ridxB := by rw [hg]; exact (sneq_iff ridxB_b ridxB_s).1 (beq_iff_eq.2 hc4)
  have w2 : ¬ ((us.map plK).length = 0 ∨ ((us.map plK).getD 0 default).1 ≠ ridxB) := by
    rintro (q | q)
    · omega
    · exact q w1
  have w3 : ((us.map plK).getD 0 default).2 = (us.getD 0 default).d := by rw [hg]
  refine l_op 0 rfl rfl rfl rfl rfl ?_
  refine l_ixr (e := eK) rfl rfl rfl rfl rfl rfl (F.has 1 rfl) ⟨eK_len, by decide⟩ (by omega) (fun m49 b49 hA0 => ?_)
  have hA49 : AtR _ m49 b49 (eK (us.getD 0 default)) := hA0
  clear hA0
  refine l_op 2 rfl rfl rfl rfl rfl ?_
  refine l_ldj rfl rfl rfl rfl rfl rfl (by assumption) rfl ?_
  first | refine l_op 2 rfl rfl rfl rfl rfl ?_ | refine l_ln rfl rfl rfl rfl ?_
  refine l_cmp rfl rfl rfl rfl ?_
  refine l_op 2 rfl rfl rfl rfl rfl ?_
  refine l_nil (WK.nx (by assumption) ?_)
  refine SeqK.nx (by assumption) ?_
  refine l_cond rfl rfl (fun hc5 => ?_) (fun hc5 => ?_)
  · replace hc5 := of_decide_eq_true ((irr_eq _).symm.trans hc5)
    have hr : readR bs = (61, 12, []) := hbad 61 (by unfold idxR; rw [if_neg w2, w3, if_pos (.inl (by omega))]) (by decide)
    refine k_seq (fun Q K => ?_)
    refine k_lin (fun W K => ?_)
    refine l_op 0 rfl rfl rfl rfl rfl ?_
    refine l_op 0 rfl rfl rfl rfl rfl ?_
    refine l_op 0 rfl rfl rfl rfl rfl ?_
    refine l_nil (WK.nx (by assumption) ?_)
    refine SeqK.nx (by assumption) ?_
    refine k_ret ?_
    refine SeqK.rt (by assumption) ?_
    refine FunK.rt (by assumption) rfl ?_
    -- leaf 5
    first
    | (exact rea_bad (F.pick [] (by decide)) hr)
    | (refine rea_bad (F.pick [] (by decide)) (hrd.trans (hgo.symm.trans ?_))
       rw [goE_eq (by omega), if_pos (by omega), if_pos (by assumption)]; done)
    | (refine rea_bad (F.pick [] (by decide)) (hrd.trans (hgo.symm.trans ?_))
       rw [goE_eq (by omega), if_pos (by omega), if_neg hid, if_pos hhas]; done)
    | (refine rea_bad (F.pick [] (by decide)) (hrd.trans (hgo.symm.trans ?_))
       rw [goE_eq (by omega), if_pos (by omega), if_neg hid, if_neg hnot, if_pos (by rw [hce]; assumption)]; done)
    | (rw [goE_eq (by omega), if_neg (by omega)] at hgo
       have hp := hrd.trans hgo.symm
       refine ⟨(x, m', d', rs), ?_, F.pick [2, 3] (by decide), ?_⟩
       · rw [reaV, hp, ← hbl]; rfl
       · rw [ReaP, hp]
         exact ⟨rfl, hbd⟩)
  replace hc5 := of_decide_eq_false ((irr_eq _).symm.trans hc5)
  have w5 : (beR (us.getD 0 default).d 0 4).1 = be (us.getD 0 default).d 0 4 := by rw [beR_ok ⟨by omega, by omega⟩]; rfl
  have w6 := be_lt4 hq0.1 0 (k := 4) (by omega)
  refine k_skip ?_
  refine SeqK.nx (by assumption) ?_
  refine k_seq (fun Q K => ?_)
  refine k_lin (fun W K => ?_)
  refine l_op 0 rfl rfl rfl rfl rfl ?_
  refine l_ixr (e := eK) rfl rfl rfl rfl rfl rfl (F.has 1 rfl) ⟨eK_len, by decide⟩ (by omega) (fun m56 b56 hA0 => ?_)
  have hA56 : AtR _ m56 b56 (eK (us.getD 0 default)) := hA0
  clear hA0
  refine l_op 2 rfl rfl rfl rfl rfl ?_
  refine l_ldj rfl rfl rfl rfl rfl rfl (by assumption) rfl ?_
  refine l_op 0 rfl rfl rfl rfl rfl ?_
  refine l_nil (WK.nx (by assumption) ?_)
  refine SeqK.nx (by assumption) ?_
  refine k_seq (fun Q K => ?_)
  refine k_lin (fun W K => ?_)
  refine l_op 0 rfl rfl rfl rfl rfl ?_
  refine l_callp F rfl rfl (by kernel_rfl) rfl rfl (rbe_call (at_ := 0) (n := 4) (Old.pure (F.hasM 0 rfl (List.mem_map_of_mem hmem0))) hq0.1 (by omega)) (fun _ s F _ => ?_)
  (try dsimp only [n_1, n_2, n_3, n_4, List.append_nil, pk, n_5, n_6] at F)
  refine l_op 0 rfl rfl rfl rfl rfl ?_
  refine l_op 2 rfl rfl rfl rfl rfl ?_
  refine l_op 2 rfl rfl rfl rfl rfl ?_
  refine l_op 0 rfl rfl rfl rfl rfl ?_
  refine l_op 0 rfl rfl rfl rfl rfl ?_
  refine l_nil (WK.nx (by assumption) ?_)
  refine SeqK.nx (by assumption) ?_
  refine k_seq (fun Q K => ?_)
  refine k_seq (fun Q K => ?_)
  refine k_lin (fun W K => ?_)
  refine l_op 0 rfl rfl rfl rfl rfl ?_
  first | refine l_op 2 rfl rfl rfl rfl rfl ?_ | refine l_ln rfl rfl rfl rfl ?_
  refine l_a64 rfl rfl rfl (by omega) rfl ?_
  first | refine l_remn rfl rfl rfl rfl rfl (by omega) rfl ?_ | refine l_rem rfl rfl rfl rfl rfl (by omega) rfl ?_
  refine l_cmp rfl rfl rfl rfl ?_
  refine l_op 0 rfl rfl rfl rfl rfl ?_
  refine l_guard rfl rfl rfl (fun hc6 => ?_) (fun hc6 => ?_)
  · first | replace hc6 := bne_iff_ne.1 ((irr_eq _).symm.trans hc6) | simp only [irr_eq, bne_iff_ne, bne_eq_false_iff_eq, ne_eq, decide_eq_true_eq, decide_eq_false_iff_not, Bool.not_eq_true', Bool.not_eq_false'] at hc6
    have hr : readR bs = (61, 12, []) := hbad 61 (by unfold idxR; rw [if_neg w2, w3, if_pos (.inr (by omega))]) (by decide)
    refine l_s rfl rfl ?_
    refine l_s rfl rfl ?_
    refine l_s rfl rfl ?_
    refine l_s rfl rfl ?_
    refine l_s rfl rfl ?_
    refine l_s rfl rfl ?_
    refine l_s rfl rfl ?_
    refine l_op 2 rfl rfl rfl rfl rfl ?_
    refine l_nil (WK.nx (by assumption) ?_)
    refine SeqK.nx (by assumption) ?_
    first | refine e_cond_t rfl rfl rfl ?_ | refine e_cond_t rfl rfl (by rw [irr_eq]; first | exact beq_iff_eq.2 (by assumption) | exact decide_eq_true (by assumption) | exact bne_iff_ne.2 (by assumption)) ?_
    refine k_seq (fun Q K => ?_)
    refine k_lin (fun W K => ?_)
    refine l_op 0 rfl rfl rfl rfl rfl ?_
    refine l_op 0 rfl rfl rfl rfl rfl ?_
    refine l_op 0 rfl rfl rfl rfl rfl ?_
    refine l_nil (WK.nx (by assumption) ?_)
    refine SeqK.nx (by assumption) ?_
    refine k_ret ?_
    refine SeqK.rt (by assumption) ?_
    refine FunK.rt (by assumption) rfl ?_
    -- leaf 6
    first
    | (exact rea_bad (F.pick [] (by decide)) hr)
    | (refine rea_bad (F.pick [] (by decide)) (hrd.trans (hgo.symm.trans ?_))
       rw [goE_eq (by omega), if_pos (by omega), if_pos (by assumption)]; done)
    | (refine rea_bad (F.pick [] (by decide)) (hrd.trans (hgo.symm.trans ?_))
       rw [goE_eq (by omega), if_pos (by omega), if_neg hid, if_pos hhas]; done)
    | (refine rea_bad (F.pick [] (by decide)) (hrd.trans (hgo.symm.trans ?_))
       rw [goE_eq (by omega), if_pos (by omega), if_neg hid, if_neg hnot, if_pos (by rw [hce]; assumption)]; done)
    | (rw [goE_eq (by omega), if_neg (by omega)] at hgo
       have hp := hrd.trans hgo.symm
       refine ⟨(x, m', d', rs), ?_, F.pick [2, 3] (by decide), ?_⟩
       · rw [reaV, hp, ← hbl]; rfl
       · rw [ReaP, hp]
         exact ⟨rfl, hbd⟩)
  first | replace hc6 := bne_eq_false_iff_eq.1 ((irr_eq _).symm.trans hc6) | simp only [irr_eq, bne_iff_ne, bne_eq_false_iff_eq, ne_eq, decide_eq_true_eq, decide_eq_false_iff_not, Bool.not_eq_true', Bool.not_eq_false'] at hc6
  refine l_op 0 rfl rfl rfl rfl rfl ?_
  first | refine l_op 2 rfl rfl rfl rfl rfl ?_ | refine l_ln rfl rfl rfl rfl ?_
  refine l_a64 rfl rfl rfl (by omega) rfl ?_
  first | refine l_quon rfl rfl rfl rfl rfl (by omega) rfl ?_ | refine l_quou64 rfl rfl rfl rfl rfl (by omega) rfl ?_ | refine l_quou32 rfl rfl rfl rfl rfl (by omega) rfl ?_ | refine l_quo rfl rfl rfl rfl rfl (by omega) rfl ?_
  refine l_op 0 rfl rfl rfl rfl rfl ?_
  refine l_c64 rfl rfl rfl (by omega) rfl ?_
  refine l_cmp rfl rfl rfl rfl ?_
  refine l_op 2 rfl rfl rfl rfl rfl ?_
  refine l_nil (WK.nx (by assumption) ?_)
  refine SeqK.nx (by assumption) ?_
  refine l_cond rfl rfl (fun hc7 => ?_) (fun hc7 => ?_)
  · first | replace hc7 := bne_iff_ne.1 ((irr_eq _).symm.trans hc7) | simp only [irr_eq, bne_iff_ne, bne_eq_false_iff_eq, ne_eq, decide_eq_true_eq, decide_eq_false_iff_not, Bool.not_eq_true', Bool.not_eq_false'] at hc7
    have hr : readR bs = (61, 12, []) := hbad 61 (by unfold idxR; rw [if_neg w2, w3, if_pos (.inr (by omega))]) (by decide)
    refine k_seq (fun Q K => ?_)
    refine k_lin (fun W K => ?_)
    refine l_op 0 rfl rfl rfl rfl rfl ?_
    refine l_op 0 rfl rfl rfl rfl rfl ?_
    refine l_op 0 rfl rfl rfl rfl rfl ?_
    refine l_nil (WK.nx (by assumption) ?_)
    refine SeqK.nx (by assumption) ?_
    refine k_ret ?_
    refine SeqK.rt (by assumption) ?_
    refine FunK.rt (by assumption) rfl ?_
    -- leaf 7
    first
    | (exact rea_bad (F.pick [] (by decide)) hr)
    | (refine rea_bad (F.pick [] (by decide)) (hrd.trans (hgo.symm.trans ?_))
       rw [goE_eq (by omega), if_pos (by omega), if_pos (by assumption)]; done)
    | (refine rea_bad (F.pick [] (by decide)) (hrd.trans (hgo.symm.trans ?_))
       rw [goE_eq (by omega), if_pos (by omega), if_neg hid, if_pos hhas]; done)
    | (refine rea_bad (F.pick [] (by decide)) (hrd.trans (hgo.symm.trans ?_))
       rw [goE_eq (by omega), if_pos (by omega), if_neg hid, if_neg hnot, if_pos (by rw [hce]; assumption)]; done)
    | (rw [goE_eq (by omega), if_neg (by omega)] at hgo
       have hp := hrd.trans hgo.symm
       refine ⟨(x, m', d', rs), ?_, F.pick [2, 3] (by decide), ?_⟩
       · rw [reaV, hp, ← hbl]; rfl
       · rw [ReaP, hp]
         exact ⟨rfl, hbd⟩)
  first | replace hc7 := bne_eq_false_iff_eq.1 ((irr_eq _).symm.trans hc7) | simp only [irr_eq, bne_iff_ne, bne_eq_false_iff_eq, ne_eq, decide_eq_true_eq, decide_eq_false_iff_not, Bool.not_eq_true', Bool.not_eq_false'] at hc7
  have w7 : ¬ (((us.getD 0 default).d.length : Int) < 4 ∨ ((us.getD 0 default).d.length : Int) ≠ 4 + 12 * be (us.getD 0 default).d 0 4) := by omega
  refine k_skip ?_
  refine SeqK.nx (by assumption) ?_
  refine k_seq (fun Q K => ?_)
  refine k_seq (fun Q K => ?_)
  refine k_lin (fun W K => ?_)
  refine l_op 0 rfl rfl rfl rfl rfl ?_
  refine l_cmp rfl rfl rfl rfl ?_
  refine l_nil (WK.nx (by assumption) ?_)
  refine SeqK.nx (by assumption) ?_
  refine l_cond rfl rfl (fun hc8 => ?_) (fun hc8 => ?_)
  · replace hc8 := of_decide_eq_true ((irr_eq _).symm.trans hc8)
    have hr : readR bs = (4, 12, []) := hbad 4 (by unfold idxR; rw [if_neg w2, w3, if_neg w7, if_pos (by omega)]) (by decide)
    refine k_seq (fun Q K => ?_)
    refine k_lin (fun W K => ?_)
    refine l_op 0 rfl rfl rfl rfl rfl ?_
    refine l_op 0 rfl rfl rfl rfl rfl ?_
    refine l_op 0 rfl rfl rfl rfl rfl ?_
    refine l_nil (WK.nx (by assumption) ?_)
    refine SeqK.nx (by assumption) ?_
    refine k_ret ?_
    refine SeqK.rt (by assumption) ?_
    refine FunK.rt (by assumption) rfl ?_
    -- leaf 8
    first
    | (exact rea_bad (F.pick [] (by decide)) hr)
    | (refine rea_bad (F.pick [] (by decide)) (hrd.trans (hgo.symm.trans ?_))
       rw [goE_eq (by omega), if_pos (by omega), if_pos (by assumption)]; done)
    | (refine rea_bad (F.pick [] (by decide)) (hrd.trans (hgo.symm.trans ?_))
       rw [goE_eq (by omega), if_pos (by omega), if_neg hid, if_pos hhas]; done)
    | (refine rea_bad (F.pick [] (by decide)) (hrd.trans (hgo.symm.trans ?_))
       rw [goE_eq (by omega), if_pos (by omega), if_neg hid, if_neg hnot, if_pos (by rw [hce]; assumption)]; done)
    | (rw [goE_eq (by omega), if_neg (by omega)] at hgo
       have hp := hrd.trans hgo.symm
       refine ⟨(x, m', d', rs), ?_, F.pick [2, 3] (by decide), ?_⟩
       · rw [reaV, hp, ← hbl]; rfl
       · rw [ReaP, hp]
         exact ⟨rfl, hbd⟩)
  replace hc8 := of_decide_eq_false ((irr_eq _).symm.trans hc8)
  have hidx : idxR (us.map plK) = ((beR (us.getD 0 default).d 0 4).1, 0) := by unfold idxR; rw [if_neg w2, w3, if_neg w7, if_neg (by omega), w5]
  have hrd : readR bs = goE bs (us.map plK) (beR (us.getD 0 default).d 0 4).1 600 0 [] := by
    unfold readR
    rw [if_neg (by omega), if_neg hkd, ← q2, hidx, if_neg (not_not_intro rfl)]
  have hp0 := hpo.2.2 (fun q => by have := congrArg List.length q; rw [hPl] at this; simp at this; omega)
  have hp1 := congrArg List.length hp0
  rw [List.length_take, List.length_drop, w3] at hp1
  refine k_skip ?_
  refine SeqK.nx (by assumption) ?_
  refine k_seq (fun Q K => ?_)
  refine k_lin (fun W K => ?_)
  refine l_op 0 rfl rfl rfl rfl rfl ?_
  refine l_nil (WK.nx (by assumption) ?_)
  refine SeqK.nx (by assumption) ?_
  refine k_seq (fun Q K => ?_)
  refine k_seq (fun Q K => ?_)
  refine k_lin (fun W K => ?_)
  refine l_op 0 rfl rfl rfl rfl rfl ?_
  refine l_nil (WK.nx (by assumption) ?_)
  refine SeqK.nx (by assumption) ?_
  refine k_block (fun Q K => ?_)
  have F0 : Facts E0 σ s [many (us.map dK), own xa m d 2 (rows eK us), many (([] : List RS).map dR), own none 0 0 4 (rows eR [])] := (F.nilrow 4).nomany.pick [1, 2, 0, 3] (by decide)
  clear F
  obtain ⟨N, hN⟩ : ∃ N, (beR (us.getD 0 default).d 0 4).1 = N := ⟨_, rfl⟩
  have hNb : 0 ≤ N ∧ N ≤ 512 ∧ ((us.getD 0 default).d.length : Int) = 4 + 12 * N := by rw [← hN]; omega
  rw [hN] at hrd ⊢
  refine k_loop (α := Int × Option Addr × Nat × Nat × List RS × Nat) (fun ⟨i, x, m', d', rs, k⟩ s => Facts E0 σ s [many (us.map dK), own xa m d 2 (rows eK us), many (rs.map dR), own x m' d' 4 (rows eR rs)] ∧ 0 ≤ i ∧ i ≤ N ∧ N - i < k ∧ BdR rs ∧ goE bs (us.map plK) N k i (rs.map plR) = goE bs (us.map plK) N 600 0 [] ∧ (m' : Int) ≤ i) (fun ⟨i, x, m', d', rs, k⟩ => [(0, .slice a l c), (6, .slice xa m d), (10, .int .u32 N), (12, .slice x m' d'), (13, .int .i64 i)]) (fun ⟨i, _⟩ => (N - i).toNat) (0, none, 0, 0, [], 600) ⟨F0, by omega, by omega, by omega, (fun t ht => by cases ht), rfl, by omega⟩ (by repeat (first | exact trivial | refine And.intro rfl ?_)) ?_
  clear F0
  rintro ⟨i, x, m', d', rs, k⟩ env s Q K0 ⟨F, i0, i1, hk, hbd, hgo, hm'⟩
  refine k_seq (fun Q K => ?_)
  refine k_seq (fun Q K => ?_)
  refine k_lin (fun W K => ?_)
  refine l_op 0 rfl rfl rfl rfl rfl ?_
  refine l_op 0 rfl rfl rfl rfl rfl ?_
  refine l_c64 rfl rfl rfl (by omega) rfl ?_
  refine l_cmp rfl rfl rfl rfl ?_
  refine l_nil (WK.nx (by assumption) ?_)
  refine SeqK.nx (by assumption) ?_
  refine l_cond rfl rfl (fun hc9 => ?_) (fun hc9 => ?_)
  · replace hc9 := of_decide_eq_true ((irr_eq _).symm.trans hc9)
    have hbx : (beR bs (24 + 12 * i + 4) 4).1 = be bs (24 + 12 * i + 4).toNat 4 := by rw [beR_ok ⟨by omega, by omega⟩]
    have hbs : (beR bs (24 + 12 * i + 8) 4).1 = be bs (24 + 12 * i + 8).toNat 4 := by rw [beR_ok ⟨by omega, by omega⟩]
    have hxb := be_lt4 hB (24 + 12 * i + 4).toNat (k := 4) (by omega)
    have hsb := be_lt4 hB (24 + 12 * i + 8).toNat (k := 4) (by omega)
    have e4 : (24 + 12 * i + 4).toNat - (24 + 12 * i).toNat = 4 := by omega
    have hrl : rs.length = m' := (F.has 3 rfl).len eR_len (by decide)
    refine k_skip ?_
    refine SeqK.nx (by assumption) ?_
    refine k_seq (fun Q K => ?_)
    refine k_block (fun Q K => ?_)
    refine k_seq (fun Q K => ?_)
    refine k_lin (fun W K => ?_)
    refine l_op 0 rfl rfl rfl rfl rfl ?_
    refine l_a64 rfl rfl rfl (by omega) rfl ?_
    refine l_a64 rfl rfl rfl (by omega) rfl ?_
    refine l_op 0 rfl rfl rfl rfl rfl ?_
    refine l_nil (WK.nx (by assumption) ?_)
    refine SeqK.nx (by assumption) ?_
    refine k_seq (fun Q K => ?_)
    refine k_lin (fun W K => ?_)
    refine l_op 0 rfl rfl rfl rfl rfl ?_
    refine l_op 0 rfl rfl rfl rfl rfl ?_
    refine l_op 0 rfl rfl rfl rfl rfl ?_
    refine l_a64 rfl rfl rfl (by omega) rfl ?_
    first | refine l_sl rfl rfl rfl rfl rfl rfl rfl rfl ⟨rfl, _, _, rfl, by omega, rfl⟩ (F.old (by assumption)) (by omega) ?_ | refine l_sl rfl rfl rfl rfl rfl rfl rfl rfl ⟨rfl, _, _, rfl, by omega, rfl⟩ (F.has 0 rfl) (by omega) ?_ | refine l_sl rfl rfl rfl rfl rfl rfl rfl rfl ⟨rfl, _, _, rfl, by omega, rfl⟩ (F.has 1 rfl) (by omega) ?_ | refine l_sl rfl rfl rfl rfl rfl rfl rfl rfl ⟨rfl, _, _, rfl, by omega, rfl⟩ (F.has 2 rfl) (by omega) ?_ | refine l_sl rfl rfl rfl rfl rfl rfl rfl rfl ⟨rfl, _, _, rfl, by omega, rfl⟩ (F.has 3 rfl) (by omega) ?_
    refine l_str rfl rfl rfl rfl rfl (F.old (hl.part8 (lo := (24 + 12 * i).toNat) (hi := (24 + 12 * i + 4).toNat) (by omega) (by omega))) ?_
    obtain ⟨U, hU⟩ : ∃ U, strOfNums (List.take ((24 + 12 * i + 4).toNat - (24 + 12 * i).toNat) (List.drop (24 + 12 * i).toNat bs)) = U := ⟨_, rfl⟩
    have hU2 : ltr U = entU bs i := by rw [← hU, ltr_str ((hB.drop _).take _), e4]
    have hU3 : U.size ≤ 4 := by rw [← hU, str_size, List.length_take]; omega
    rw [hU]
    refine l_op 0 rfl rfl rfl rfl rfl ?_
    refine l_nil (WK.nx (by assumption) ?_)
    refine SeqK.nx (by assumption) ?_
    refine k_seq (fun Q K => ?_)
    refine k_lin (fun W K => ?_)
    refine l_op 0 rfl rfl rfl rfl rfl ?_
    refine l_op 0 rfl rfl rfl rfl rfl ?_
    refine l_a64 rfl rfl rfl (by omega) rfl ?_
    refine l_callp F rfl rfl (by kernel_rfl) rfl rfl (rbe_call (at_ := 24 + 12 * i + 4) (n := 4) (Old.pure (F.old hl)) hB (by omega)) (fun _ s F _ => ?_)
    (try dsimp only [n_1, n_2, n_3, n_4, List.append_nil, pk, n_5, n_6] at F)
    refine l_op 0 rfl rfl rfl rfl rfl ?_
    refine l_op 2 rfl rfl rfl rfl rfl ?_
    refine l_op 2 rfl rfl rfl rfl rfl ?_
    refine l_op 0 rfl rfl rfl rfl rfl ?_
    refine l_op 0 rfl rfl rfl rfl rfl ?_
    refine l_nil (WK.nx (by assumption) ?_)
    refine SeqK.nx (by assumption) ?_
    refine k_seq (fun Q K => ?_)
    refine k_lin (fun W K => ?_)
    refine l_op 0 rfl rfl rfl rfl rfl ?_
    refine l_op 0 rfl rfl rfl rfl rfl ?_
    refine l_a64 rfl rfl rfl (by omega) rfl ?_
    refine l_callp F rfl rfl (by kernel_rfl) rfl rfl (rbe_call (at_ := 24 + 12 * i + 8) (n := 4) (Old.pure (F.old hl)) hB (by omega)) (fun _ s F _ => ?_)
    (try dsimp only [n_1, n_2, n_3, n_4, List.append_nil, pk, n_5, n_6] at F)
    refine l_op 0 rfl rfl rfl rfl rfl ?_
    refine l_op 2 rfl rfl rfl rfl rfl ?_
    refine l_op 2 rfl rfl rfl rfl rfl ?_
    refine l_op 0 rfl rfl rfl rfl rfl ?_
    refine l_op 0 rfl rfl rfl rfl rfl ?_
    refine l_nil (WK.nx (by assumption) ?_)
    refine SeqK.nx (by assumption) ?_
    refine k_seq (fun Q K => ?_)
    refine k_seq (fun Q K => ?_)
    refine k_lin (fun W K => ?_)
    refine l_op 0 rfl rfl rfl rfl rfl ?_
    refine l_callp F rfl rfl (by kernel_rfl) rfl rfl (rid_call (by omega)) (fun _ s F _ => ?_)
    (try dsimp only [n_1, n_2, n_3, n_4, List.append_nil, pk, n_5, n_6] at F)
    refine l_op 2 rfl rfl rfl rfl rfl ?_
    refine l_nil (WK.nx (by assumption) ?_)
    refine SeqK.nx (by assumption) ?_
    refine l_cond rfl rfl (fun hc10 => ?_) (fun hc10 => ?_)
    · try simp only [irr_eq, beq_iff_eq, bne_iff_ne, beq_eq_false_iff_ne, bne_eq_false_iff_eq, ne_eq, decide_eq_true_eq, decide_eq_false_iff_not, Bool.not_eq_true', Bool.not_eq_false'] at hc10
      rw [hU2] at hc10
      refine k_seq (fun Q K => ?_)
      refine k_lin (fun W K => ?_)
      refine l_op 0 rfl rfl rfl rfl rfl ?_
      refine l_op 0 rfl rfl rfl rfl rfl ?_
      refine l_op 0 rfl rfl rfl rfl rfl ?_
      refine l_op 0 rfl rfl rfl rfl rfl ?_
      refine l_nil (WK.nx (by assumption) ?_)
      refine SeqK.nx (by assumption) ?_
      refine k_ret ?_
      refine SeqK.rt (by assumption) ?_
      refine BlkK.rt (by assumption) ?_
      refine SeqK.rt (by assumption) ?_
      refine LoopK.rt (by assumption) ?_
      refine BlkK.rt (by assumption) ?_
      refine SeqK.rt (by assumption) ?_
      refine FunK.rt (by assumption) rfl ?_
      -- leaf 9
      first
      | (exact rea_bad (F.pick [] (by decide)) hr)
      | (refine rea_bad (F.pick [] (by decide)) (hrd.trans (hgo.symm.trans ?_))
         rw [goE_eq (by omega), if_pos (by omega), if_pos (by assumption)]; done)
      | (refine rea_bad (F.pick [] (by decide)) (hrd.trans (hgo.symm.trans ?_))
         rw [goE_eq (by omega), if_pos (by omega), if_neg hid, if_pos hhas]; done)
      | (refine rea_bad (F.pick [] (by decide)) (hrd.trans (hgo.symm.trans ?_))
         rw [goE_eq (by omega), if_pos (by omega), if_neg hid, if_neg hnot, if_pos (by rw [hce]; assumption)]; done)
      | (rw [goE_eq (by omega), if_neg (by omega)] at hgo
         have hp := hrd.trans hgo.symm
         refine ⟨(x, m', d', rs), ?_, F.pick [2, 3] (by decide), ?_⟩
         · rw [reaV, hp, ← hbl]; rfl
         · rw [ReaP, hp]
           exact ⟨rfl, hbd⟩)
    try simp only [irr_eq, beq_iff_eq, bne_iff_ne, beq_eq_false_iff_ne, bne_eq_false_iff_eq, ne_eq, decide_eq_true_eq, decide_eq_false_iff_not, Bool.not_eq_true', Bool.not_eq_false'] at hc10
    rw [hU2] at hc10
    have hid : ¬ idR (entU bs i) = false := by rw [hc10]; decide
    refine k_skip ?_
    refine SeqK.nx (by assumption) ?_
    refine k_seq (fun Q K => ?_)
    refine k_seq (fun Q K => ?_)
    refine k_lin (fun W K => ?_)
    refine l_op 0 rfl rfl rfl rfl rfl ?_
    refine l_nil (WK.nx (by assumption) ?_)
    refine SeqK.nx (by assumption) ?_
    refine k_block (fun Q K => ?_)
    refine k_loop (α := Int) (fun q s => Facts E0 σ s [many (us.map dK), own xa m d 2 (rows eK us), many (rs.map dR), own x m' d' 4 (rows eR rs)] ∧ 0 ≤ q ∧ q ≤ m' ∧ ∀ j : Nat, (j : Int) < q → ¬ ((rs.getD j default).us = U ∧ (rs.getD j default).nm = entX bs i)) (fun q => [(0, .slice a l c), (6, .slice xa m d), (10, .int .u32 N), (12, .slice x m' d'), (13, .int .i64 i), (14, .int .i64 (24 + 12 * i)), (15, .string U), (16, .int .u32 (beR bs (24 + 12 * i + 4) 4).1), (18, .int .u32 (beR bs (24 + 12 * i + 8) 4).1), (20, .int .i64 q)]) (fun q => (m' - q).toNat) 0 ⟨F, by omega, by omega, fun j hj => by omega⟩ (by repeat (first | exact trivial | refine And.intro rfl ?_)) ?_
    clear F
    rintro q env s Q K1 ⟨F, j0, j1, hj⟩
    refine k_seq (fun Q K => ?_)
    refine k_seq (fun Q K => ?_)
    refine k_lin (fun W K => ?_)
    refine l_op 0 rfl rfl rfl rfl rfl ?_
    refine l_op 0 rfl rfl rfl rfl rfl ?_
    first | refine l_op 2 rfl rfl rfl rfl rfl ?_ | refine l_ln rfl rfl rfl rfl ?_
    refine l_cmp rfl rfl rfl rfl ?_
    refine l_nil (WK.nx (by assumption) ?_)
    refine SeqK.nx (by assumption) ?_
    refine l_cond rfl rfl (fun hc11 => ?_) (fun hc11 => ?_)
    · replace hc11 := of_decide_eq_true ((irr_eq _).symm.trans hc11)
      refine k_skip ?_
      refine SeqK.nx (by assumption) ?_
      refine k_seq (fun Q K => ?_)
      refine k_block (fun Q K => ?_)
      refine k_seq (fun Q K => ?_)
      refine k_lin (fun W K => ?_)
      refine l_op 0 rfl rfl rfl rfl rfl ?_
      refine l_op 0 rfl rfl rfl rfl rfl ?_
      refine l_ixr (e := eR) rfl rfl rfl rfl rfl rfl (F.has 3 rfl) ⟨eR_len, by decide⟩ (by omega) (fun m121 b121 hA121 => ?_)
      refine l_op 2 rfl rfl rfl rfl rfl ?_
      refine l_ld0 rfl rfl rfl rfl rfl (by assumption) ?_
      refine l_op 0 rfl rfl rfl rfl rfl ?_
      refine l_cmp rfl rfl rfl rfl ?_
      refine l_op 0 rfl rfl rfl rfl rfl ?_
      refine l_guard rfl rfl rfl (fun hc12 => ?_) (fun hc12 => ?_)
      · first | replace hc12 := eq_of_beq ((irr_eq _).symm.trans hc12) | simp only [irr_eq, beq_iff_eq, beq_eq_false_iff_ne, ne_eq, decide_eq_true_eq, decide_eq_false_iff_not] at hc12
        refine l_op 0 rfl rfl rfl rfl rfl ?_
        refine l_op 0 rfl rfl rfl rfl rfl ?_
        refine l_ixr (e := eR) rfl rfl rfl rfl rfl rfl (F.has 3 rfl) ⟨eR_len, by decide⟩ (by omega) (fun m129 b129 hA129 => ?_)
        refine l_op 2 rfl rfl rfl rfl rfl ?_
        refine l_ldj rfl rfl rfl rfl rfl rfl (by assumption) rfl ?_
        refine l_op 0 rfl rfl rfl rfl rfl ?_
        refine l_cmp rfl rfl rfl rfl ?_
        refine l_op 2 rfl rfl rfl rfl rfl ?_
        refine l_nil (WK.nx (by assumption) ?_)
        refine SeqK.nx (by assumption) ?_
        refine l_cond rfl rfl (fun hc13 => ?_) (fun hc13 => ?_)
        · first | replace hc13 := eq_of_beq ((irr_eq _).symm.trans hc13) | simp only [irr_eq, beq_iff_eq, beq_eq_false_iff_ne, ne_eq, decide_eq_true_eq, decide_eq_false_iff_not] at hc13
          have hhas : hasU (rs.map plR) (entU bs i) (entX bs i) := by
            have hmq : rs.getD q.toNat default ∈ rs := by
              simp only [List.getD, List.getElem?_eq_getElem (show q.toNat < rs.length by omega), Option.getD_some]; exact List.getElem_mem _
            refine ⟨plR (rs.getD q.toNat default), List.mem_map_of_mem hmq, ?_, ?_⟩
            · rw [← hU2]; exact sbeq_iff.1 (beq_iff_eq.2 (by assumption))
            · show (rs.getD q.toNat default).nm = _
              refine Eq.trans ?_ hbx
              assumption
          refine k_seq (fun Q K => ?_)
          refine k_lin (fun W K => ?_)
          refine l_op 0 rfl rfl rfl rfl rfl ?_
          refine l_op 0 rfl rfl rfl rfl rfl ?_
          refine l_op 0 rfl rfl rfl rfl rfl ?_
          refine l_op 0 rfl rfl rfl rfl rfl ?_
          refine l_nil (WK.nx (by assumption) ?_)
          refine SeqK.nx (by assumption) ?_
          refine k_ret ?_
          refine BlkK.rt (by assumption) ?_
          refine SeqK.rt (by assumption) ?_
          refine LoopK.rt (by assumption) ?_
          refine BlkK.rt (by assumption) ?_
          refine SeqK.rt (by assumption) ?_
          refine BlkK.rt (by assumption) ?_
          refine SeqK.rt (by assumption) ?_
          refine LoopK.rt (by assumption) ?_
          refine BlkK.rt (by assumption) ?_
          refine SeqK.rt (by assumption) ?_
          refine FunK.rt (by assumption) rfl ?_
          -- leaf 10
          first
          | (exact rea_bad (F.pick [] (by decide)) hr)
          | (refine rea_bad (F.pick [] (by decide)) (hrd.trans (hgo.symm.trans ?_))
             rw [goE_eq (by omega), if_pos (by omega), if_pos (by assumption)]; done)
          | (refine rea_bad (F.pick [] (by decide)) (hrd.trans (hgo.symm.trans ?_))
             rw [goE_eq (by omega), if_pos (by omega), if_neg hid, if_pos hhas]; done)
          | (refine rea_bad (F.pick [] (by decide)) (hrd.trans (hgo.symm.trans ?_))
             rw [goE_eq (by omega), if_pos (by omega), if_neg hid, if_neg hnot, if_pos (by rw [hce]; assumption)]; done)
          | (rw [goE_eq (by omega), if_neg (by omega)] at hgo
             have hp := hrd.trans hgo.symm
             refine ⟨(x, m', d', rs), ?_, F.pick [2, 3] (by decide), ?_⟩
             · rw [reaV, hp, ← hbl]; rfl
             · rw [ReaP, hp]
               exact ⟨rfl, hbd⟩)
        first | replace hc13 := ne_of_beq_false ((irr_eq _).symm.trans hc13) | simp only [irr_eq, beq_iff_eq, beq_eq_false_iff_ne, ne_eq, decide_eq_true_eq, decide_eq_false_iff_not] at hc13
        refine k_skip ?_
        refine BlkK.nx (by assumption) ?_
        refine SeqK.nx (by assumption) ?_
        refine k_lin (fun W K => ?_)
        refine l_op 0 rfl rfl rfl rfl rfl ?_
        refine l_a64 rfl rfl rfl (by omega) rfl ?_
        refine l_op 0 rfl rfl rfl rfl rfl ?_
        refine l_nil (WK.nx (by assumption) ?_)
        refine K1.nx (q + 1) (by repeat (first | exact trivial | refine And.intro rfl ?_)) ⟨F, by omega, by omega, fun j hji => ?_⟩ (by first | omega | (simp only; omega))
        by_cases e : (j : Int) = q
        · rw [show j = q.toNat by omega]
          rintro ⟨z1, z2⟩
          first
            | exact (by assumption : (rs.getD q.toNat default).us.toList ≠ U.toList) (by rw [z1])
            | exact (by assumption : (rs.getD q.toNat default).nm ≠ (beR bs (24 + 12 * i + 4) 4).1) (by rw [z2, hbx])
        · exact hj j (by omega)
      first | replace hc12 := ne_of_beq_false ((irr_eq _).symm.trans hc12) | simp only [irr_eq, beq_iff_eq, beq_eq_false_iff_ne, ne_eq, decide_eq_true_eq, decide_eq_false_iff_not] at hc12
      refine l_s rfl rfl ?_
      refine l_s rfl rfl ?_
      refine l_s rfl rfl ?_
      refine l_s rfl rfl ?_
      refine l_s rfl rfl ?_
      refine l_s rfl rfl ?_
      refine l_s rfl rfl ?_
      refine l_op 2 rfl rfl rfl rfl rfl ?_
      refine l_nil (WK.nx (by assumption) ?_)
      refine SeqK.nx (by assumption) ?_
      first | refine e_cond_f rfl rfl rfl ?_ | refine e_cond_f rfl rfl (by rw [irr_eq]; first | exact beq_eq_false_iff_ne.2 (by assumption) | exact decide_eq_false (by assumption) | exact bne_eq_false_iff_eq.2 (by assumption)) ?_
      refine k_skip ?_
      refine BlkK.nx (by assumption) ?_
      refine SeqK.nx (by assumption) ?_
      refine k_lin (fun W K => ?_)
      refine l_op 0 rfl rfl rfl rfl rfl ?_
      refine l_a64 rfl rfl rfl (by omega) rfl ?_
      refine l_op 0 rfl rfl rfl rfl rfl ?_
      refine l_nil (WK.nx (by assumption) ?_)
      refine K1.nx (q + 1) (by repeat (first | exact trivial | refine And.intro rfl ?_)) ⟨F, by omega, by omega, fun j hji => ?_⟩ (by first | omega | (simp only; omega))
      by_cases e : (j : Int) = q
      · rw [show j = q.toNat by omega]
        rintro ⟨z1, z2⟩
        first
          | exact (by assumption : (rs.getD q.toNat default).us.toList ≠ U.toList) (by rw [z1])
          | exact (by assumption : (rs.getD q.toNat default).nm ≠ (beR bs (24 + 12 * i + 4) 4).1) (by rw [z2, hbx])
      · exact hj j (by omega)
    replace hc11 := of_decide_eq_false ((irr_eq _).symm.trans hc11)
    refine k_exit ?_
    refine SeqK.et (by assumption) ?_
    refine LoopK.et (by assumption) ?_
    refine BlkK.et (by assumption) ?_
    refine SeqK.nx (by assumption) ?_
    refine k_seq (fun Q K => ?_)
    refine k_lin (fun W K => ?_)
    refine l_op 0 rfl rfl rfl rfl rfl ?_
    refine l_nil (WK.nx (by assumption) ?_)
    refine SeqK.nx (by assumption) ?_
    refine k_seq (fun Q K => ?_)
    refine k_lin (fun W K => ?_)
    refine l_op 0 rfl rfl rfl rfl rfl ?_
    refine l_nil (WK.nx (by assumption) ?_)
    refine SeqK.nx (by assumption) ?_
    refine k_seq (fun Q K => ?_)
    refine k_seq (fun Q K => ?_)
    refine k_lin (fun W K => ?_)
    refine l_op 0 rfl rfl rfl rfl rfl ?_
    refine l_nil (WK.nx (by assumption) ?_)
    refine SeqK.nx (by assumption) ?_
    refine k_block (fun Q K => ?_)
    have hnot : ¬ hasU (rs.map plR) (entU bs i) (entX bs i) := by
      rintro ⟨r, hr, z1, z2⟩
      obtain ⟨t, ht, rfl⟩ := List.mem_map.1 hr
      obtain ⟨j, hjl, rfl⟩ := List.mem_iff_getElem.1 ht
      refine hj j (by omega) ⟨?_, ?_⟩
      · simp only [List.getD, List.getElem?_eq_getElem hjl, Option.getD_some]
        exact ltr_inj (by rw [hU2]; exact z1)
      · simp only [List.getD, List.getElem?_eq_getElem hjl, Option.getD_some]; exact z2
    refine k_loop (α := Int × Int × Int) (fun ⟨q, cc, pl⟩ s => Facts E0 σ s [many (us.map dK), own xa m d 2 (rows eK us), many (rs.map dR), own x m' d' 4 (rows eR rs)] ∧ 0 ≤ q ∧ q ≤ m ∧ cc = findC (us.map plK) q.toNat (be bs (24 + 12 * i + 8).toNat 4) ∧ pl = plcP (us.map plK) q.toNat) (fun ⟨q, cc, pl⟩ => [(0, .slice a l c), (6, .slice xa m d), (10, .int .u32 N), (12, .slice x m' d'), (13, .int .i64 i), (14, .int .i64 (24 + 12 * i)), (15, .string U), (16, .int .u32 (beR bs (24 + 12 * i + 4) 4).1), (18, .int .u32 (beR bs (24 + 12 * i + 8) 4).1), (21, .int .i64 cc), (22, .int .i64 pl), (23, .int .i64 q)]) (fun ⟨q, _⟩ => (m - q).toNat) (0, 0, 12) ⟨F, by omega, by omega, rfl, by simp [plcP, lenP]⟩ (by repeat (first | exact trivial | refine And.intro rfl ?_)) ?_
    clear F
    rintro ⟨q, cc, pl⟩ env s Q K2 ⟨F, j0, j1, hcc, hpl⟩
    have hpb : 12 ≤ pl ∧ pl ≤ 12 + lenP (us.map plK) := by
      have := lenP_nn ((us.map plK).take q.toNat)
      have := lenP_le (us.map plK) q.toNat
      rw [hpl]; unfold plcP; omega
    refine k_seq (fun Q K => ?_)
    refine k_seq (fun Q K => ?_)
    refine k_lin (fun W K => ?_)
    refine l_op 0 rfl rfl rfl rfl rfl ?_
    refine l_op 0 rfl rfl rfl rfl rfl ?_
    first | refine l_op 2 rfl rfl rfl rfl rfl ?_ | refine l_ln rfl rfl rfl rfl ?_
    refine l_cmp rfl rfl rfl rfl ?_
    refine l_nil (WK.nx (by assumption) ?_)
    refine SeqK.nx (by assumption) ?_
    refine l_cond rfl rfl (fun hc14 => ?_) (fun hc14 => ?_)
    · replace hc14 := of_decide_eq_true ((irr_eq _).symm.trans hc14)
      have e1 : (q + 1).toNat = q.toNat + 1 := by omega
      have hst := lenP_take (l := us.map plK) (i := q.toNat) (by omega)
      have hfs := findC_succ (l := us.map plK) (n := q.toNat) (by omega) (be bs (24 + 12 * i + 8).toNat 4)
      have hcut : ((us.drop q.toNat).take ((q + 1).toNat - q.toNat)).map plK = [(us.map plK).getD q.toNat default] := by
        rw [show (q + 1).toNat - q.toNat = 1 by omega, getP (by omega)]
        rw [List.drop_eq_getElem_cons (by omega)]
        show [plK us[q.toNat]] = [plK (us.getD q.toNat default)]
        simp only [List.getD, List.getElem?_eq_getElem (show q.toNat < us.length by omega), Option.getD_some]
      have hlp : lenP (((us.drop q.toNat).take ((q + 1).toNat - q.toNat)).map plK) = 8 + ((((us.map plK).getD q.toNat default).2.length : Nat) : Int) + ((((us.map plK).getD q.toNat default).2.length : Nat) : Int) % 2 := by
        rw [hcut]; simp only [lenP]; omega
      have hle2 := lenP_le (us.map plK) (q.toNat + 1)
      have hnn2 := lenP_nn ((us.map plK).take q.toNat)
      refine k_skip ?_
      refine SeqK.nx (by assumption) ?_
      refine k_seq (fun Q K => ?_)
      refine k_block (fun Q K => ?_)
      refine k_seq (fun Q K => ?_)
      refine k_seq (fun Q K => ?_)
      refine k_lin (fun W K => ?_)
      refine l_op 0 rfl rfl rfl rfl rfl ?_
      refine l_op 0 rfl rfl rfl rfl rfl ?_
      refine l_c64 rfl rfl rfl (by omega) rfl ?_
      refine l_cmp rfl rfl rfl rfl ?_
      refine l_nil (WK.nx (by assumption) ?_)
      refine SeqK.nx (by assumption) ?_
      refine l_cond rfl rfl (fun hc15 => ?_) (fun hc15 => ?_)
      · first | replace hc15 := eq_of_beq ((irr_eq _).symm.trans hc15) | simp only [irr_eq, beq_iff_eq, beq_eq_false_iff_ne, ne_eq, decide_eq_true_eq, decide_eq_false_iff_not] at hc15
        refine k_lin (fun W K => ?_)
        refine l_op 0 rfl rfl rfl rfl rfl ?_
        refine l_op 0 rfl rfl rfl rfl rfl ?_
        refine l_nil (WK.nx (by assumption) ?_)
        refine SeqK.nx (by assumption) ?_
        refine k_lin (fun W K => ?_)
        refine l_op 0 rfl rfl rfl rfl rfl ?_
        refine l_op 0 rfl rfl rfl rfl rfl ?_
        refine l_op 0 rfl rfl rfl rfl rfl ?_
        refine l_op 0 rfl rfl rfl rfl rfl ?_
        refine l_a64 rfl rfl rfl (by omega) rfl ?_
        first | refine l_sl rfl rfl rfl rfl rfl rfl rfl rfl ⟨rfl, _, _, rfl, by omega, rfl⟩ (F.old (by assumption)) (by omega) ?_ | refine l_sl rfl rfl rfl rfl rfl rfl rfl rfl ⟨rfl, _, _, rfl, by omega, rfl⟩ (F.has 0 rfl) (by omega) ?_ | refine l_sl rfl rfl rfl rfl rfl rfl rfl rfl ⟨rfl, _, _, rfl, by omega, rfl⟩ (F.has 1 rfl) (by omega) ?_ | refine l_sl rfl rfl rfl rfl rfl rfl rfl rfl ⟨rfl, _, _, rfl, by omega, rfl⟩ (F.has 2 rfl) (by omega) ?_ | refine l_sl rfl rfl rfl rfl rfl rfl rfl rfl ⟨rfl, _, _, rfl, by omega, rfl⟩ (F.has 3 rfl) (by omega) ?_
        refine l_callp F rfl rfl (by kernel_rfl) rfl rfl (rlength_call (OldK.part (lo := q.toNat) (hi := (q + 1).toNat) (Facts.oldK F 0 1 rfl rfl q3) (by omega) (by omega)) (fun t ht => (q3 t (List.mem_of_mem_drop (List.mem_of_mem_take ht))).2.1) (by omega)) (fun _ s F _ => ?_)
        (try dsimp only [n_1, n_2, n_3, n_4, List.append_nil, pk, n_5, n_6] at F)
        refine l_a64 rfl rfl rfl (by omega) rfl ?_
        refine l_op 0 rfl rfl rfl rfl rfl ?_
        refine l_nil (WK.nx (by assumption) ?_)
        refine BlkK.nx (by assumption) ?_
        refine SeqK.nx (by assumption) ?_
        refine k_lin (fun W K => ?_)
        refine l_op 0 rfl rfl rfl rfl rfl ?_
        refine l_a64 rfl rfl rfl (by omega) rfl ?_
        refine l_op 0 rfl rfl rfl rfl rfl ?_
        refine l_nil (WK.nx (by assumption) ?_)
        rcases Decidable.em (plcP (us.map plK) q.toNat = be bs (24 + 12 * i + 8).toNat 4) with hps | hps
        · first
          | (exfalso; omega)
          | (refine K2.nx (q + 1, q, pl + lenP (((us.drop q.toNat).take ((q + 1).toNat - q.toNat)).map plK)) (by repeat (first | exact trivial | refine And.intro rfl ?_)) ⟨F, by omega, by omega, ?_, ?_⟩ (by first | omega | (simp only; omega))
             · rw [e1, hfs, if_pos hps]; omega
             · rw [hlp, hpl, e1]; unfold plcP; rw [hst]; omega)
        · first
          | (exfalso; omega)
          | (refine K2.nx (q + 1, cc, pl + lenP (((us.drop q.toNat).take ((q + 1).toNat - q.toNat)).map plK)) (by repeat (first | exact trivial | refine And.intro rfl ?_)) ⟨F, by omega, by omega, ?_, ?_⟩ (by first | omega | (simp only; omega))
             · rw [e1, hfs, if_neg hps]; exact hcc
             · rw [hlp, hpl, e1]; unfold plcP; rw [hst]; omega)
      first | replace hc15 := ne_of_beq_false ((irr_eq _).symm.trans hc15) | simp only [irr_eq, beq_iff_eq, beq_eq_false_iff_ne, ne_eq, decide_eq_true_eq, decide_eq_false_iff_not] at hc15
      refine k_skip ?_
      refine SeqK.nx (by assumption) ?_
      refine k_lin (fun W K => ?_)
      refine l_op 0 rfl rfl rfl rfl rfl ?_
      refine l_op 0 rfl rfl rfl rfl rfl ?_
      refine l_op 0 rfl rfl rfl rfl rfl ?_
      refine l_op 0 rfl rfl rfl rfl rfl ?_
      refine l_a64 rfl rfl rfl (by omega) rfl ?_
      first | refine l_sl rfl rfl rfl rfl rfl rfl rfl rfl ⟨rfl, _, _, rfl, by omega, rfl⟩ (F.old (by assumption)) (by omega) ?_ | refine l_sl rfl rfl rfl rfl rfl rfl rfl rfl ⟨rfl, _, _, rfl, by omega, rfl⟩ (F.has 0 rfl) (by omega) ?_ | refine l_sl rfl rfl rfl rfl rfl rfl rfl rfl ⟨rfl, _, _, rfl, by omega, rfl⟩ (F.has 1 rfl) (by omega) ?_ | refine l_sl rfl rfl rfl rfl rfl rfl rfl rfl ⟨rfl, _, _, rfl, by omega, rfl⟩ (F.has 2 rfl) (by omega) ?_ | refine l_sl rfl rfl rfl rfl rfl rfl rfl rfl ⟨rfl, _, _, rfl, by omega, rfl⟩ (F.has 3 rfl) (by omega) ?_
      refine l_callp F rfl rfl (by kernel_rfl) rfl rfl (rlength_call (OldK.part (lo := q.toNat) (hi := (q + 1).toNat) (Facts.oldK F 0 1 rfl rfl q3) (by omega) (by omega)) (fun t ht => (q3 t (List.mem_of_mem_drop (List.mem_of_mem_take ht))).2.1) (by omega)) (fun _ s F _ => ?_)
      (try dsimp only [n_1, n_2, n_3, n_4, List.append_nil, pk, n_5, n_6] at F)
      refine l_a64 rfl rfl rfl (by omega) rfl ?_
      refine l_op 0 rfl rfl rfl rfl rfl ?_
      refine l_nil (WK.nx (by assumption) ?_)
      refine BlkK.nx (by assumption) ?_
      refine SeqK.nx (by assumption) ?_
      refine k_lin (fun W K => ?_)
      refine l_op 0 rfl rfl rfl rfl rfl ?_
      refine l_a64 rfl rfl rfl (by omega) rfl ?_
      refine l_op 0 rfl rfl rfl rfl rfl ?_
      refine l_nil (WK.nx (by assumption) ?_)
      rcases Decidable.em (plcP (us.map plK) q.toNat = be bs (24 + 12 * i + 8).toNat 4) with hps | hps
      · first
        | (exfalso; omega)
        | (refine K2.nx (q + 1, q, pl + lenP (((us.drop q.toNat).take ((q + 1).toNat - q.toNat)).map plK)) (by repeat (first | exact trivial | refine And.intro rfl ?_)) ⟨F, by omega, by omega, ?_, ?_⟩ (by first | omega | (simp only; omega))
           · rw [e1, hfs, if_pos hps]; omega
           · rw [hlp, hpl, e1]; unfold plcP; rw [hst]; omega)
      · first
        | (exfalso; omega)
        | (refine K2.nx (q + 1, cc, pl + lenP (((us.drop q.toNat).take ((q + 1).toNat - q.toNat)).map plK)) (by repeat (first | exact trivial | refine And.intro rfl ?_)) ⟨F, by omega, by omega, ?_, ?_⟩ (by first | omega | (simp only; omega))
           · rw [e1, hfs, if_neg hps]; exact hcc
           · rw [hlp, hpl, e1]; unfold plcP; rw [hst]; omega)
    replace hc14 := of_decide_eq_false ((irr_eq _).symm.trans hc14)
    have hce : entC bs (us.map plK) i = cc := by
      rw [hcc]
      show findC (us.map plK) (us.map plK).length _ = _
      rw [hPl, show q.toNat = m by omega]
    have hfb := findC_bd (l := us.map plK) (n := (us.map plK).length) (be bs (24 + 12 * i + 8).toNat 4) (Nat.le_refl _)
    have hfb2 : 0 ≤ cc ∧ (cc = 0 ∨ cc < m) := by
      rw [← hce]
      show 0 ≤ findC _ _ _ ∧ (findC _ _ _ = 0 ∨ findC _ _ _ < _)
      omega
    refine k_exit ?_
    refine SeqK.et (by assumption) ?_
    refine LoopK.et (by assumption) ?_
    refine BlkK.et (by assumption) ?_
    refine SeqK.nx (by assumption) ?_
    refine k_seq (fun Q K => ?_)
    refine k_seq (fun Q K => ?_)
    refine k_lin (fun W K => ?_)
    refine l_op 0 rfl rfl rfl rfl rfl ?_
    refine l_cmp rfl rfl rfl rfl ?_
    refine l_nil (WK.nx (by assumption) ?_)
    refine SeqK.nx (by assumption) ?_
    refine l_cond rfl rfl (fun hc16 => ?_) (fun hc16 => ?_)
    · first | replace hc16 := eq_of_beq ((irr_eq _).symm.trans hc16) | simp only [irr_eq, beq_iff_eq, beq_eq_false_iff_ne, ne_eq, decide_eq_true_eq, decide_eq_false_iff_not] at hc16
      refine k_seq (fun Q K => ?_)
      refine k_lin (fun W K => ?_)
      refine l_op 0 rfl rfl rfl rfl rfl ?_
      refine l_a64 rfl rfl rfl (by omega) rfl ?_
      refine l_op 0 rfl rfl rfl rfl rfl ?_
      refine l_op 0 rfl rfl rfl rfl rfl ?_
      refine l_op 0 rfl rfl rfl rfl rfl ?_
      refine l_nil (WK.nx (by assumption) ?_)
      refine SeqK.nx (by assumption) ?_
      refine k_ret ?_
      refine SeqK.rt (by assumption) ?_
      refine BlkK.rt (by assumption) ?_
      refine SeqK.rt (by assumption) ?_
      refine LoopK.rt (by assumption) ?_
      refine BlkK.rt (by assumption) ?_
      refine SeqK.rt (by assumption) ?_
      refine FunK.rt (by assumption) rfl ?_
      -- leaf 11
      first
      | (exact rea_bad (F.pick [] (by decide)) hr)
      | (refine rea_bad (F.pick [] (by decide)) (hrd.trans (hgo.symm.trans ?_))
         rw [goE_eq (by omega), if_pos (by omega), if_pos (by assumption)]; done)
      | (refine rea_bad (F.pick [] (by decide)) (hrd.trans (hgo.symm.trans ?_))
         rw [goE_eq (by omega), if_pos (by omega), if_neg hid, if_pos hhas]; done)
      | (refine rea_bad (F.pick [] (by decide)) (hrd.trans (hgo.symm.trans ?_))
         rw [goE_eq (by omega), if_pos (by omega), if_neg hid, if_neg hnot, if_pos (by rw [hce]; assumption)]; done)
      | (rw [goE_eq (by omega), if_neg (by omega)] at hgo
         have hp := hrd.trans hgo.symm
         refine ⟨(x, m', d', rs), ?_, F.pick [2, 3] (by decide), ?_⟩
         · rw [reaV, hp, ← hbl]; rfl
         · rw [ReaP, hp]
           exact ⟨rfl, hbd⟩)
    first | replace hc16 := ne_of_beq_false ((irr_eq _).symm.trans hc16) | simp only [irr_eq, beq_iff_eq, beq_eq_false_iff_ne, ne_eq, decide_eq_true_eq, decide_eq_false_iff_not] at hc16
    have hmem := OldK.mem (ts := us) (i := cc.toNat) (by omega)
    have hqc := q3 _ hmem
    have hcd : (us.getD cc.toNat default).d.length = (us.getD cc.toNat default).l := by simpa using (F.hasM 0 rfl (List.mem_map_of_mem hmem)).size
    refine k_skip ?_
    refine SeqK.nx (by assumption) ?_
    refine k_linm [0, 1, 2, 3, 4, 5, 6, 9, 10, 11, 12, 7, 13, 8, 14, 15, 16, 17, 18] mixed (by kernel_rfl) (fun W K => ?_)
    try have hpS := F.pns
    refine l_op 0 rfl rfl rfl rfl rfl ?_
    refine l_op 0 rfl rfl rfl rfl rfl ?_
    refine l_op 0 rfl rfl rfl rfl rfl ?_
    refine l_op 0 rfl rfl rfl rfl rfl ?_
    refine l_op 0 rfl rfl rfl rfl rfl ?_
    refine l_ixor (e := eK) F 1 rfl ⟨eK_len, by decide⟩ rfl rfl rfl rfl rfl rfl (by omega) (fun m164 e164 ha164 hA164 => ?_)
    cases ha164
    refine l_op 2 rfl rfl rfl rfl rfl ?_
    refine l_op 0 rfl rfl rfl rfl rfl ?_
    refine l_op 0 rfl rfl rfl rfl rfl ?_
    refine l_ixor (e := eK) F 1 rfl ⟨eK_len, by decide⟩ rfl rfl rfl rfl rfl rfl (by omega) (fun m170 e170 ha170 hA170 => ?_)
    cases ha170
    refine l_op 2 rfl rfl rfl rfl rfl ?_
    refine l_ld0 rfl rfl rfl rfl rfl (by assumption) ?_
    first | have hpS := PnS.add hpS hS164 | have hpS := PnS.add hpS (OldC.sf (by assumption)) | skip
    refine l_ldj rfl rfl rfl rfl rfl rfl (by assumption) rfl ?_
    first | have hpS := PnS.add hpS hS170 | have hpS := PnS.add hpS (OldC.sf (by assumption)) | skip
    refine l_lit F rfl rfl rfl rfl (fun q167 s F => ?_) (.inl (PnA.own F 1 rfl (PnA.own F 1 rfl pna_nil)))
    (try dsimp only [n_1, n_2, n_3, n_4, List.append_nil, pk, n_5, n_6] at F)
    refine l_appi (xs := []) F 4 rfl rfl rfl rfl rfl rfl rfl (F.hasM 0 rfl (List.mem_map_of_mem hmem)) rfl (by omega) hD (fun x3 c3 s F => ?_) (.inl (PnA.ownE F 1 4 rfl rfl (by decide) (PnA.ownE F 1 4 rfl rfl (by decide) pna_nil)))
    (try dsimp only [n_1, n_2, n_3, n_4, List.append_nil, pk, n_5, n_6] at F)
    refine l_bld rfl rfl rfl rfl ?_
    refine l_lit F rfl rfl rfl rfl (fun q175 s F => ?_) (.inl (PnA.own F 1 rfl (PnA.own F 1 rfl pna_nil)))
    (try dsimp only [n_1, n_2, n_3, n_4, List.append_nil, pk, n_5, n_6] at F)
    refine l_app (es := 4) F 3 rfl rfl rfl rfl rfl rfl rfl (F.has 5 rfl) rfl rfl (by omega) hD (fun x2 c2 s F => ?_) (.inl (PnA.ownE F 1 3 rfl rfl (by decide) (PnA.ownE F 1 3 rfl rfl (by decide) pna_nil)))
    (try dsimp only [n_1, n_2, n_3, n_4, List.append_nil, pk, n_5, n_6] at F)
    refine l_op 0 rfl rfl rfl rfl rfl ?_
    refine l_nil (WK.nx (by assumption) ?_)
    refine BlkK.nx (by assumption) ?_
    refine SeqK.nx (by assumption) ?_
    refine k_lin (fun W K => ?_)
    refine l_op 0 rfl rfl rfl rfl rfl ?_
    refine l_a64 rfl rfl rfl (by omega) rfl ?_
    refine l_op 0 rfl rfl rfl rfl rfl ?_
    refine l_nil (WK.nx (by assumption) ?_)
    obtain ⟨ck, hck⟩ : ∃ ck, us.getD cc.toNat default = ck := ⟨_, rfl⟩
    have hV : plR ⟨U, (beR bs (24 + 12 * i + 4) 4).1, ck.id, x3, 0 + ck.l, c3, ck.d⟩ = entV bs (us.map plK) i := by
      show (ltr U, (beR bs (24 + 12 * i + 4) 4).1, ltr ck.id, ck.d) = (entU bs i, entX bs i, ((us.map plK).getD (entC bs (us.map plK) i).toNat default).1, ((us.map plK).getD (entC bs (us.map plK) i).toNat default).2)
      rw [hU2, hbx, hce, getP (by omega), hck]
    rw [hck] at F hqc hmem hcd
    have hgo2 := hgo
    rw [goE_eq (by omega), if_pos (by omega), if_neg hid, if_neg hnot, if_neg (by rw [hce]; omega), ← hV] at hgo2
    have F9 := ((F.pick [2, 4, 0, 1, 3] (by decide)).join).pick [1, 2, 0, 3] (by decide)
    refine K0.nx (i + 1, x2, m' + 1, c2, rs ++ [⟨U, (beR bs (24 + 12 * i + 4) 4).1, ck.id, x3, 0 + ck.l, c3, ck.d⟩], k - 1) (by repeat (first | exact trivial | refine And.intro rfl ?_)) ⟨?_, by omega, by omega, by omega, ?_, ?_, by omega⟩ (by first | omega | (simp only; omega))
    · rw [List.map_append, rows_append]; exact F9
    · intro t ht
      rcases List.mem_append.1 ht with ht | ht
      · exact hbd t ht
      · rw [List.mem_singleton.1 ht]
        have hu : U32 (beR bs (24 + 12 * i + 4) 4).1 := ⟨by omega, by omega⟩
        have hz : 0 + ck.l ≤ 2000000 := by omega
        refine ⟨hqc.1, hz, ?_, hqc.2.2, hu⟩
        have := (idR_iff.1 (by simpa using hid : idR (entU bs i) = true)).1
        rw [← hU2, ltr_length] at this
        exact this
    · rw [List.map_append]; exact hgo2
  replace hc9 := of_decide_eq_false ((irr_eq _).symm.trans hc9)
  refine k_exit ?_
  refine SeqK.et (by assumption) ?_
  refine LoopK.et (by assumption) ?_
  refine BlkK.et (by assumption) ?_
  refine SeqK.nx (by assumption) ?_
  refine k_seq (fun Q K => ?_)
  refine k_lin (fun W K => ?_)
  refine l_op 0 rfl rfl rfl rfl rfl ?_
  refine l_op 0 rfl rfl rfl rfl rfl ?_
  first | refine l_op 2 rfl rfl rfl rfl rfl ?_ | refine l_ln rfl rfl rfl rfl ?_
  refine l_op 0 rfl rfl rfl rfl rfl ?_
  refine l_op 0 rfl rfl rfl rfl rfl ?_
  refine l_op 0 rfl rfl rfl rfl rfl ?_
  refine l_nil (WK.nx (by assumption) ?_)
  refine SeqK.nx (by assumption) ?_
  refine k_ret ?_
  refine FunK.rt (by assumption) rfl ?_
  -- leaf 12
  first
  | (exact rea_bad (F.pick [] (by decide)) hr)
  | (refine rea_bad (F.pick [] (by decide)) (hrd.trans (hgo.symm.trans ?_))
     rw [goE_eq (by omega), if_pos (by omega), if_pos (by assumption)]; done)
  | (refine rea_bad (F.pick [] (by decide)) (hrd.trans (hgo.symm.trans ?_))
     rw [goE_eq (by omega), if_pos (by omega), if_neg hid, if_pos hhas]; done)
  | (refine rea_bad (F.pick [] (by decide)) (hrd.trans (hgo.symm.trans ?_))
     rw [goE_eq (by omega), if_pos (by omega), if_neg hid, if_neg hnot, if_pos (by rw [hce]; assumption)]; done)
  | (rw [goE_eq (by omega), if_neg (by omega)] at hgo
     have hp := hrd.trans hgo.symm
     refine ⟨(x, m', d', rs), ?_, F.pick [2, 3] (by decide), ?_⟩
     · rw [reaV, hp, ← hbl]; rfl
     · rw [ReaP, hp]
       exact ⟨rfl, hbd⟩)

end Go.Proofs.Ytkmkbpnlccomnaa
