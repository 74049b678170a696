/- Which game bytes hold, by the document. No statement of the seat is proved in this text. -/
import Derived.Test.YtkmkbpnlccomnaaBlL
set_option linter.unusedVariables false
set_option linter.unusedSimpArgs false
set_option maxRecDepth 100000
set_option maxHeartbeats 8000000
namespace Go.Proofs.Ytkmkbpnlccomnaa
open GAb Go

abbrev NoTwo (r s : List Int × Int × List Int × List Int) : Prop := ¬ (r.1 = s.1 ∧ r.2.1 = s.2.1)
theorem goE_nd {bs : List Int} {l : CL} {n : Int} : ∀ {k : Nat} {i : Int} {acc : RL}, acc.Pairwise NoTwo → (goE bs l n k i acc).2.2.Pairwise NoTwo
  | 0, i, acc, h => h
  | k + 1, i, acc, h => by
    unfold goE
    split
    · split
      · exact .nil
      · split
        · exact .nil
        · rename_i hnot
          split
          · exact .nil
          · refine goE_nd (List.pairwise_append.2 ⟨h, List.pairwise_singleton _ _, fun a ha b hb => ?_⟩)
            rw [List.mem_singleton.1 hb]
            exact fun ⟨q1, q2⟩ => hnot ⟨a, ha, q1, q2⟩
    · exact h
theorem readR_nd (bs : List Int) : (readR bs).2.2.Pairwise NoTwo := by
  unfold readR
  split
  · exact .nil
  split
  · exact .nil
  split
  · exact .nil
  · exact goE_nd .nil
theorem pw_get {α : Type} {R : α → α → Prop} {L : List α} (h : L.Pairwise R) {i j : Nat} {x y : α} (hij : i < j) (hi : L[i]? = some x) (hj : L[j]? = some y) : R x y := by
  obtain ⟨hi1, rfl⟩ := List.getElem?_eq_some_iff.1 hi
  obtain ⟨hj1, rfl⟩ := List.getElem?_eq_some_iff.1 hj
  exact List.pairwise_iff_getElem.1 h i j hi1 hj1 hij

theorem rgame_call {σ : AState} {a : Option Addr} {l c : Nat} {bs : List Int} (hl : Old E0 σ a l c 1 (u8l bs)) (hB : Bytes bs) (hn : l ≤ 2000000) :
    SCall Try.prog E0 23 [.slice a l c] σ (Ret E0 σ (gamV bs) gamF (GamP bs)) := by
  have hbl := hl.len8
  refine k_fun Try.func23 rfl (m := 75) rfl fun B hD Q K => ?_
  have F := Facts.nil E0 σ
  refine k_seq (fun Q K => ?_)
  refine k_lin (fun W K => ?_)
  refine l_op 0 rfl rfl rfl rfl rfl ?_
  refine l_op 0 rfl rfl rfl rfl rfl ?_
  refine l_op 0 rfl rfl rfl rfl rfl ?_
  refine l_nil (WK.nx (by assumption) ?_)
  refine SeqK.nx (by assumption) ?_
  refine k_seq (fun Q K => ?_)
  refine k_seq (fun Q K => ?_)
  refine k_lin (fun W K => ?_)
  refine l_op 0 rfl rfl rfl rfl rfl ?_
  first | refine l_op 2 rfl rfl rfl rfl rfl ?_ | refine l_ln rfl rfl rfl rfl ?_
  refine l_cmp rfl rfl rfl rfl ?_
  refine l_op 0 rfl rfl rfl rfl rfl ?_
  refine l_guard rfl rfl rfl (fun hc1 => ?_) (fun hc1 => ?_)
  · replace hc1 := of_decide_eq_true ((irr_eq _).symm.trans hc1)
    have g1 : ¬ (bs.length : Int) < 4 := by omega
    refine l_op 0 rfl rfl rfl rfl rfl ?_
    first | refine l_slh rfl rfl rfl rfl rfl ⟨rfl, _, _, rfl, by omega, rfl⟩ (F.old (by assumption)) (by omega) ?_ | refine l_slh rfl rfl rfl rfl rfl ⟨rfl, _, _, rfl, by omega, rfl⟩ (F.has 0 rfl) (by omega) ?_ | refine l_slh rfl rfl rfl rfl rfl ⟨rfl, _, _, rfl, by omega, rfl⟩ (F.has 1 rfl) (by omega) ?_ | refine l_slh rfl rfl rfl rfl rfl ⟨rfl, _, _, rfl, by omega, rfl⟩ (F.has 2 rfl) (by omega) ?_ | refine l_slh rfl rfl rfl rfl rfl ⟨rfl, _, _, rfl, by omega, rfl⟩ (F.has 3 rfl) (by omega) ?_
    refine l_str rfl rfl rfl rfl rfl (F.old (hl.upto8 (hi := 4) (by omega))) ?_
    refine l_cmp rfl rfl rfl rfl ?_
    refine l_op 2 rfl rfl rfl rfl rfl ?_
    refine l_nil (WK.nx (by assumption) ?_)
    refine SeqK.nx (by assumption) ?_
    refine l_cond rfl rfl (fun hc2 => ?_) (fun hc2 => ?_)
    · first | replace hc2 := eq_of_beq ((irr_eq _).symm.trans hc2) | simp only [irr_eq, beq_iff_eq, beq_eq_false_iff_ne, ne_eq, decide_eq_true_eq, decide_eq_false_iff_not] at hc2
      have g2 : bs.take 4 = glulB := (sbeq_str (hB.take _) glulB_b).1 (beq_iff_eq.2 (by rw [glulB_s]; exact hc2))
      refine k_seq (fun Q K => ?_)
      refine k_lin (fun W K => ?_)
      refine l_lit F rfl rfl rfl rfl (fun q18 s F => ?_)
      (try dsimp only [n_1, n_2, n_3, n_4, List.append_nil, pk, n_5, n_6] at F)
      refine l_op 0 rfl rfl rfl rfl rfl ?_
      refine l_appi (xs := []) F 0 rfl rfl rfl rfl rfl rfl rfl (F.old hl) rfl (by omega) hD (fun x2 c2 s F => ?_)
      (try dsimp only [n_1, n_2, n_3, n_4, List.append_nil, pk, n_5, n_6] at F)
      have hg0 : gameR bs = (0, (bs.length : Int), bs) := by unfold gameR; rw [if_neg g1, if_pos g2]
      refine l_op 0 rfl rfl rfl rfl rfl ?_
      first | refine l_op 2 rfl rfl rfl rfl rfl ?_ | refine l_ln rfl rfl rfl rfl ?_
      refine l_op 0 rfl rfl rfl rfl rfl ?_
      refine l_op 0 rfl rfl rfl rfl rfl ?_
      refine l_op 0 rfl rfl rfl rfl rfl ?_
      refine l_nil (WK.nx (by assumption) ?_)
      refine SeqK.nx (by assumption) ?_
      refine k_ret ?_
      refine SeqK.rt (by assumption) ?_
      refine FunK.rt (by assumption) rfl ?_
      -- leaf 1
      first
      | (exact gam_bad (F.pick [] (by decide)) hg)
      | (refine ⟨(x2, 0 + l, c2, bs), ?_, F, ?_⟩
         · rw [gamV, hg0, ← hbl]; rfl
         · rw [GamP, hg0]; exact ⟨rfl, by dsimp only; omega⟩)
      | (refine ⟨((rs.getD i.toNat default).x, (rs.getD i.toNat default).l, (rs.getD i.toNat default).c, (rs.getD i.toNat default).d), ?_, Facts.ofM F 0 rfl (List.mem_map_of_mem hmem), ?_⟩
         · rw [gamV, hgo, ← hbl]; rfl
         · rw [GamP, hgo]; exact ⟨rfl, (q2 _ hmem).2.1⟩)
    first | replace hc2 := ne_of_beq_false ((irr_eq _).symm.trans hc2) | simp only [irr_eq, beq_iff_eq, beq_eq_false_iff_ne, ne_eq, decide_eq_true_eq, decide_eq_false_iff_not] at hc2
    have g2 : ¬ bs.take 4 = glulB := fun q => hc2 (by rw [← glulB_s]; exact beq_iff_eq.1 ((sbeq_str (hB.take _) glulB_b).2 q))
    refine k_skip ?_
    refine SeqK.nx (by assumption) ?_
    refine k_seq (fun Q K => ?_)
    refine k_seq (fun Q K => ?_)
    refine k_lin (fun W K => ?_)
    refine l_op 0 rfl rfl rfl rfl rfl ?_
    first | refine l_op 2 rfl rfl rfl rfl rfl ?_ | refine l_ln rfl rfl rfl rfl ?_
    refine l_cmp rfl rfl rfl rfl ?_
    refine l_op 0 rfl rfl rfl rfl rfl ?_
    refine l_guard rfl rfl rfl (fun hc3 => ?_) (fun hc3 => ?_)
    · replace hc3 := of_decide_eq_true ((irr_eq _).symm.trans hc3)
      exfalso; omega
    replace hc3 := of_decide_eq_false ((irr_eq _).symm.trans hc3)
    refine l_op 0 rfl rfl rfl rfl rfl ?_
    first | refine l_slh rfl rfl rfl rfl rfl ⟨rfl, _, _, rfl, by omega, rfl⟩ (F.old (by assumption)) (by omega) ?_ | refine l_slh rfl rfl rfl rfl rfl ⟨rfl, _, _, rfl, by omega, rfl⟩ (F.has 0 rfl) (by omega) ?_ | refine l_slh rfl rfl rfl rfl rfl ⟨rfl, _, _, rfl, by omega, rfl⟩ (F.has 1 rfl) (by omega) ?_ | refine l_slh rfl rfl rfl rfl rfl ⟨rfl, _, _, rfl, by omega, rfl⟩ (F.has 2 rfl) (by omega) ?_ | refine l_slh rfl rfl rfl rfl rfl ⟨rfl, _, _, rfl, by omega, rfl⟩ (F.has 3 rfl) (by omega) ?_
    refine l_str rfl rfl rfl rfl rfl (F.old (hl.upto8 (hi := 4) (by omega))) ?_
    refine l_cmp rfl rfl rfl rfl ?_
    refine l_op 2 rfl rfl rfl rfl rfl ?_
    refine l_nil (WK.nx (by assumption) ?_)
    refine SeqK.nx (by assumption) ?_
    refine l_cond rfl rfl (fun hc4 => ?_) (fun hc4 => ?_)
    · first | replace hc4 := bne_iff_ne.1 ((irr_eq _).symm.trans hc4) | simp only [irr_eq, bne_iff_ne, bne_eq_false_iff_eq, ne_eq, decide_eq_true_eq, decide_eq_false_iff_not, Bool.not_eq_true', Bool.not_eq_false'] at hc4
      have g3 : ¬ bs.take 4 = formB := fun q => hc4 (by rw [← formB_s]; exact beq_iff_eq.1 ((sbeq_str (hB.take _) formB_b).2 q))
      have hg : gameR bs = (63, 0, []) := by unfold gameR; rw [if_neg g1, if_neg g2, if_pos g3]
      refine k_seq (fun Q K => ?_)
      refine k_lin (fun W K => ?_)
      refine l_op 0 rfl rfl rfl rfl rfl ?_
      refine l_op 0 rfl rfl rfl rfl rfl ?_
      refine l_op 0 rfl rfl rfl rfl rfl ?_
      refine l_nil (WK.nx (by assumption) ?_)
      refine SeqK.nx (by assumption) ?_
      refine k_ret ?_
      refine SeqK.rt (by assumption) ?_
      refine FunK.rt (by assumption) rfl ?_
      -- leaf 2
      first
      | (exact gam_bad (F.pick [] (by decide)) hg)
      | (refine ⟨(x2, 0 + l, c2, bs), ?_, F, ?_⟩
         · rw [gamV, hg0, ← hbl]; rfl
         · rw [GamP, hg0]; exact ⟨rfl, by dsimp only; omega⟩)
      | (refine ⟨((rs.getD i.toNat default).x, (rs.getD i.toNat default).l, (rs.getD i.toNat default).c, (rs.getD i.toNat default).d), ?_, Facts.ofM F 0 rfl (List.mem_map_of_mem hmem), ?_⟩
         · rw [gamV, hgo, ← hbl]; rfl
         · rw [GamP, hgo]; exact ⟨rfl, (q2 _ hmem).2.1⟩)
    first | replace hc4 := bne_eq_false_iff_eq.1 ((irr_eq _).symm.trans hc4) | simp only [irr_eq, bne_iff_ne, bne_eq_false_iff_eq, ne_eq, decide_eq_true_eq, decide_eq_false_iff_not, Bool.not_eq_true', Bool.not_eq_false'] at hc4
    have g3 : bs.take 4 = formB := (sbeq_str (hB.take _) formB_b).1 (beq_iff_eq.2 (by rw [formB_s]; exact hc4))
    refine k_skip ?_
    refine SeqK.nx (by assumption) ?_
    refine k_seq (fun Q K => ?_)
    refine k_lin (fun W K => ?_)
    refine l_op 0 rfl rfl rfl rfl rfl ?_
    refine l_callp F rfl rfl (by kernel_rfl) rfl rfl (rread_call (Old.pure (F.old hl)) hB hn) (fun y s F hy => ?_)
    obtain ⟨x, m, d, rs⟩ := y
    obtain ⟨q1, q2⟩ := hy
    dsimp only [reaF, reaV] at F q1 q2 ⊢
    (try dsimp only [n_1, n_2, n_3, n_4, List.append_nil, pk, n_5, n_6] at F)
    refine l_op 0 rfl rfl rfl rfl rfl ?_
    refine l_op 2 rfl rfl rfl rfl rfl ?_
    refine l_op 2 rfl rfl rfl rfl rfl ?_
    refine l_op 2 rfl rfl rfl rfl rfl ?_
    refine l_op 0 rfl rfl rfl rfl rfl ?_
    refine l_op 0 rfl rfl rfl rfl rfl ?_
    refine l_op 0 rfl rfl rfl rfl rfl ?_
    refine l_nil (WK.nx (by assumption) ?_)
    refine SeqK.nx (by assumption) ?_
    refine k_seq (fun Q K => ?_)
    refine k_seq (fun Q K => ?_)
    refine k_lin (fun W K => ?_)
    refine l_op 0 rfl rfl rfl rfl rfl ?_
    refine l_cmp rfl rfl rfl rfl ?_
    refine l_nil (WK.nx (by assumption) ?_)
    refine SeqK.nx (by assumption) ?_
    refine l_cond rfl rfl (fun hc5 => ?_) (fun hc5 => ?_)
    · first | replace hc5 := bne_iff_ne.1 ((irr_eq _).symm.trans hc5) | simp only [irr_eq, bne_iff_ne, bne_eq_false_iff_eq, ne_eq, decide_eq_true_eq, decide_eq_false_iff_not, Bool.not_eq_true', Bool.not_eq_false'] at hc5
      have hg : gameR bs = ((readR bs).1, (readR bs).2.1, []) := by unfold gameR; rw [if_neg g1, if_neg g2, if_neg (not_not_intro g3), if_pos hc5]
      refine k_seq (fun Q K => ?_)
      refine k_lin (fun W K => ?_)
      refine l_op 0 rfl rfl rfl rfl rfl ?_
      refine l_op 0 rfl rfl rfl rfl rfl ?_
      refine l_op 0 rfl rfl rfl rfl rfl ?_
      refine l_op 0 rfl rfl rfl rfl rfl ?_
      refine l_op 0 rfl rfl rfl rfl rfl ?_
      refine l_nil (WK.nx (by assumption) ?_)
      refine SeqK.nx (by assumption) ?_
      refine k_ret ?_
      refine SeqK.rt (by assumption) ?_
      refine FunK.rt (by assumption) rfl ?_
      -- leaf 3
      first
      | (exact gam_bad (F.pick [] (by decide)) hg)
      | (refine ⟨(x2, 0 + l, c2, bs), ?_, F, ?_⟩
         · rw [gamV, hg0, ← hbl]; rfl
         · rw [GamP, hg0]; exact ⟨rfl, by dsimp only; omega⟩)
      | (refine ⟨((rs.getD i.toNat default).x, (rs.getD i.toNat default).l, (rs.getD i.toNat default).c, (rs.getD i.toNat default).d), ?_, Facts.ofM F 0 rfl (List.mem_map_of_mem hmem), ?_⟩
         · rw [gamV, hgo, ← hbl]; rfl
         · rw [GamP, hgo]; exact ⟨rfl, (q2 _ hmem).2.1⟩)
    first | replace hc5 := bne_eq_false_iff_eq.1 ((irr_eq _).symm.trans hc5) | simp only [irr_eq, bne_iff_ne, bne_eq_false_iff_eq, ne_eq, decide_eq_true_eq, decide_eq_false_iff_not, Bool.not_eq_true', Bool.not_eq_false'] at hc5
    have hrl : rs.length = m := (F.has 1 rfl).len eR_len (by decide)
    have hml : m ≤ 600 := by
      have := readR_len bs
      rw [← q1, List.length_map] at this
      omega
    have hnd := readR_nd bs
    rw [← q1] at hnd
    have hgf : gameR bs = exR bs.length ((rs.map plR).find? isEx) := by unfold gameR; rw [if_neg g1, if_neg g2, if_neg (not_not_intro g3), if_neg (not_not_intro hc5), ← q1]
    refine k_skip ?_
    refine SeqK.nx (by assumption) ?_
    refine k_seq (fun Q K => ?_)
    refine k_seq (fun Q K => ?_)
    refine k_lin (fun W K => ?_)
    refine l_op 0 rfl rfl rfl rfl rfl ?_
    refine l_nil (WK.nx (by assumption) ?_)
    refine SeqK.nx (by assumption) ?_
    refine k_block (fun Q K => ?_)
    refine k_loop (α := Int) (fun i s => Facts E0 σ s [many (rs.map dR), own x m d 4 (rows eR rs)] ∧ 0 ≤ i ∧ i ≤ m ∧ ∀ j : Nat, (j : Int) < i → ¬ (ltr (rs.getD j default).us = execB ∧ (rs.getD j default).nm = 0)) (fun i => [(0, .slice a l c), (5, .slice x m d), (8, .int .i64 i)]) (fun i => (m - i).toNat) 0 ⟨F, by omega, by omega, fun j hj => by omega⟩ (by repeat (first | exact trivial | refine And.intro rfl ?_)) ?_
    clear F
    rintro i env s Q K0 ⟨F, i0, i1, hj⟩
    have hex : ∀ r : RS, isEx (plR r) = true ↔ (ltr r.us = execB ∧ r.nm = 0 ∧ ltr r.id = gluLB) := fun r => by unfold isEx; exact decide_eq_true_iff
    refine k_seq (fun Q K => ?_)
    refine k_seq (fun Q K => ?_)
    refine k_lin (fun W K => ?_)
    refine l_op 0 rfl rfl rfl rfl rfl ?_
    refine l_op 0 rfl rfl rfl rfl rfl ?_
    first | refine l_op 2 rfl rfl rfl rfl rfl ?_ | refine l_ln rfl rfl rfl rfl ?_
    refine l_cmp rfl rfl rfl rfl ?_
    refine l_nil (WK.nx (by assumption) ?_)
    refine SeqK.nx (by assumption) ?_
    refine l_cond rfl rfl (fun hc6 => ?_) (fun hc6 => ?_)
    · replace hc6 := of_decide_eq_true ((irr_eq _).symm.trans hc6)
      have hmem := memR (ts := rs) (i := i.toNat) (by omega)
      refine k_skip ?_
      refine SeqK.nx (by assumption) ?_
      refine k_seq (fun Q K => ?_)
      refine k_block (fun Q K => ?_)
      refine k_seq (fun Q K => ?_)
      refine k_lin (fun W K => ?_)
      refine l_op 0 rfl rfl rfl rfl rfl ?_
      refine l_op 0 rfl rfl rfl rfl rfl ?_
      refine l_ixr (e := eR) rfl rfl rfl rfl rfl rfl (F.has 1 rfl) ⟨eR_len, by decide⟩ (by omega) (fun m50 b50 hA50 => ?_)
      refine l_op 2 rfl rfl rfl rfl rfl ?_
      refine l_ld0 rfl rfl rfl rfl rfl (by assumption) ?_
      refine l_cmp rfl rfl rfl rfl ?_
      refine l_op 0 rfl rfl rfl rfl rfl ?_
      refine l_guard rfl rfl rfl (fun hc7 => ?_) (fun hc7 => ?_)
      · first | replace hc7 := eq_of_beq ((irr_eq _).symm.trans hc7) | simp only [irr_eq, beq_iff_eq, beq_eq_false_iff_ne, ne_eq, decide_eq_true_eq, decide_eq_false_iff_not] at hc7
        have v1 : ltr (rs.getD i.toNat default).us = execB := (sneq_iff execB_b execB_s).1 (beq_iff_eq.2 hc7)
        refine l_op 0 rfl rfl rfl rfl rfl ?_
        refine l_op 0 rfl rfl rfl rfl rfl ?_
        refine l_ixr (e := eR) rfl rfl rfl rfl rfl rfl (F.has 1 rfl) ⟨eR_len, by decide⟩ (by omega) (fun m57 b57 hA57 => ?_)
        refine l_op 2 rfl rfl rfl rfl rfl ?_
        refine l_ldj rfl rfl rfl rfl rfl rfl (by assumption) rfl ?_
        refine l_cmp rfl rfl rfl rfl ?_
        refine l_op 2 rfl rfl rfl rfl rfl ?_
        refine l_nil (WK.nx (by assumption) ?_)
        refine SeqK.nx (by assumption) ?_
        refine l_cond rfl rfl (fun hc8 => ?_) (fun hc8 => ?_)
        · first | replace hc8 := eq_of_beq ((irr_eq _).symm.trans hc8) | simp only [irr_eq, beq_iff_eq, beq_eq_false_iff_ne, ne_eq, decide_eq_true_eq, decide_eq_false_iff_not] at hc8
          refine k_seq (fun Q K => ?_)
          refine k_seq (fun Q K => ?_)
          refine k_lin (fun W K => ?_)
          refine l_op 0 rfl rfl rfl rfl rfl ?_
          refine l_op 0 rfl rfl rfl rfl rfl ?_
          refine l_ixr (e := eR) rfl rfl rfl rfl rfl rfl (F.has 1 rfl) ⟨eR_len, by decide⟩ (by omega) (fun m64 b64 hA64 => ?_)
          refine l_op 2 rfl rfl rfl rfl rfl ?_
          refine l_ldj rfl rfl rfl rfl rfl rfl (by assumption) rfl ?_
          refine l_cmp rfl rfl rfl rfl ?_
          refine l_nil (WK.nx (by assumption) ?_)
          refine SeqK.nx (by assumption) ?_
          refine l_cond rfl rfl (fun hc9 => ?_) (fun hc9 => ?_)
          · first | replace hc9 := bne_iff_ne.1 ((irr_eq _).symm.trans hc9) | simp only [irr_eq, bne_iff_ne, bne_eq_false_iff_eq, ne_eq, decide_eq_true_eq, decide_eq_false_iff_not, Bool.not_eq_true', Bool.not_eq_false'] at hc9
            have hg : gameR bs = (62, 12, []) := by
              have : (rs.map plR).find? isEx = none := find_no fun j y hy => by
                by_cases hjl : j < rs.length
                · rw [getPR hjl] at hy
                  injection hy with hy
                  rw [← hy, ← Bool.not_eq_true, hex]
                  rintro ⟨z1, z2, z3⟩
                  rcases Nat.lt_trichotomy j i.toNat with q | q | q
                  · exact hj j (by omega) ⟨z1, z2⟩
                  · subst q
                    exact hc9 (beq_iff_eq.1 ((sneq_iff gluLB_b gluLB_s).2 z3))
                  · refine pw_get hnd q (getPR (ts := rs) (by omega)) (getPR (ts := rs) hjl) ⟨?_, ?_⟩
                    · exact v1.trans z1.symm
                    · exact (by assumption : (rs.getD i.toNat default).nm = 0).trans z2.symm
                · rw [List.getElem?_eq_none (by rw [List.length_map]; omega)] at hy; cases hy
              rw [hgf, this]; rfl
            refine k_seq (fun Q K => ?_)
            refine k_lin (fun W K => ?_)
            refine l_op 0 rfl rfl rfl rfl rfl ?_
            refine l_op 0 rfl rfl rfl rfl rfl ?_
            refine l_op 0 rfl rfl rfl rfl rfl ?_
            refine l_nil (WK.nx (by assumption) ?_)
            refine SeqK.nx (by assumption) ?_
            refine k_ret ?_
            refine SeqK.rt (by assumption) ?_
            refine BlkK.rt (by assumption) ?_
            refine SeqK.rt (by assumption) ?_
            refine LoopK.rt (by assumption) ?_
            refine BlkK.rt (by assumption) ?_
            refine SeqK.rt (by assumption) ?_
            refine FunK.rt (by assumption) rfl ?_
            -- leaf 4
            first
            | (exact gam_bad (F.pick [] (by decide)) hg)
            | (refine ⟨(x2, 0 + l, c2, bs), ?_, F, ?_⟩
               · rw [gamV, hg0, ← hbl]; rfl
               · rw [GamP, hg0]; exact ⟨rfl, by dsimp only; omega⟩)
            | (refine ⟨((rs.getD i.toNat default).x, (rs.getD i.toNat default).l, (rs.getD i.toNat default).c, (rs.getD i.toNat default).d), ?_, Facts.ofM F 0 rfl (List.mem_map_of_mem hmem), ?_⟩
               · rw [gamV, hgo, ← hbl]; rfl
               · rw [GamP, hgo]; exact ⟨rfl, (q2 _ hmem).2.1⟩)
          first | replace hc9 := bne_eq_false_iff_eq.1 ((irr_eq _).symm.trans hc9) | simp only [irr_eq, bne_iff_ne, bne_eq_false_iff_eq, ne_eq, decide_eq_true_eq, decide_eq_false_iff_not, Bool.not_eq_true', Bool.not_eq_false'] at hc9
          have v2 : ltr (rs.getD i.toNat default).id = gluLB := (sneq_iff gluLB_b gluLB_s).1 (beq_iff_eq.2 hc9)
          have hgo : gameR bs = (0, (bs.length : Int), (rs.getD i.toNat default).d) := by
            have : (rs.map plR).find? isEx = some (plR (rs.getD i.toNat default)) := find_at (getPR (by omega)) ((hex _).2 ⟨v1, by assumption, v2⟩) fun j y hji hy => by
              rw [getPR (by omega)] at hy
              injection hy with hy
              rw [← hy, ← Bool.not_eq_true, hex]
              exact fun q => hj j (by omega) ⟨q.1, q.2.1⟩
            rw [hgf, this]; rfl
          refine k_skip ?_
          refine SeqK.nx (by assumption) ?_
          refine k_seq (fun Q K => ?_)
          refine k_lin (fun W K => ?_)
          refine l_op 0 rfl rfl rfl rfl rfl ?_
          refine l_op 0 rfl rfl rfl rfl rfl ?_
          refine l_ixr (e := eR) rfl rfl rfl rfl rfl rfl (F.has 1 rfl) ⟨eR_len, by decide⟩ (by omega) (fun m70 b70 hA70 => ?_)
          refine l_op 2 rfl rfl rfl rfl rfl ?_
          refine l_ldj rfl rfl rfl rfl rfl rfl (by assumption) rfl ?_
          refine l_op 0 rfl rfl rfl rfl rfl ?_
          first | refine l_op 2 rfl rfl rfl rfl rfl ?_ | refine l_ln rfl rfl rfl rfl ?_
          refine l_op 0 rfl rfl rfl rfl rfl ?_
          refine l_op 0 rfl rfl rfl rfl rfl ?_
          refine l_op 0 rfl rfl rfl rfl rfl ?_
          refine l_nil (WK.nx (by assumption) ?_)
          refine SeqK.nx (by assumption) ?_
          refine k_ret ?_
          refine BlkK.rt (by assumption) ?_
          refine SeqK.rt (by assumption) ?_
          refine LoopK.rt (by assumption) ?_
          refine BlkK.rt (by assumption) ?_
          refine SeqK.rt (by assumption) ?_
          refine FunK.rt (by assumption) rfl ?_
          -- leaf 5
          first
          | (exact gam_bad (F.pick [] (by decide)) hg)
          | (refine ⟨(x2, 0 + l, c2, bs), ?_, F, ?_⟩
             · rw [gamV, hg0, ← hbl]; rfl
             · rw [GamP, hg0]; exact ⟨rfl, by dsimp only; omega⟩)
          | (refine ⟨((rs.getD i.toNat default).x, (rs.getD i.toNat default).l, (rs.getD i.toNat default).c, (rs.getD i.toNat default).d), ?_, Facts.ofM F 0 rfl (List.mem_map_of_mem hmem), ?_⟩
             · rw [gamV, hgo, ← hbl]; rfl
             · rw [GamP, hgo]; exact ⟨rfl, (q2 _ hmem).2.1⟩)
        first | replace hc8 := ne_of_beq_false ((irr_eq _).symm.trans hc8) | simp only [irr_eq, beq_iff_eq, beq_eq_false_iff_ne, ne_eq, decide_eq_true_eq, decide_eq_false_iff_not] at hc8
        refine k_skip ?_
        refine BlkK.nx (by assumption) ?_
        refine SeqK.nx (by assumption) ?_
        refine k_lin (fun W K => ?_)
        refine l_op 0 rfl rfl rfl rfl rfl ?_
        refine l_a64 rfl rfl rfl (by omega) rfl ?_
        refine l_op 0 rfl rfl rfl rfl rfl ?_
        refine l_nil (WK.nx (by assumption) ?_)
        refine K0.nx (i + 1) (by repeat (first | exact trivial | refine And.intro rfl ?_)) ⟨F.pick [0, 1] (by decide), by omega, by omega, fun j hji => ?_⟩ (by first | omega | (simp only; omega))
        by_cases e : (j : Int) = i
        · rw [show j = i.toNat by omega]
          rintro ⟨z1, z2⟩
          first
            | exact (by assumption : (rs.getD i.toNat default).us.toList ≠ _) (beq_iff_eq.1 ((sneq_iff execB_b execB_s).2 z1))
            | exact absurd z2 (by assumption)
        · exact hj j (by omega)
      first | replace hc7 := ne_of_beq_false ((irr_eq _).symm.trans hc7) | simp only [irr_eq, beq_iff_eq, beq_eq_false_iff_ne, ne_eq, decide_eq_true_eq, decide_eq_false_iff_not] at hc7
      refine l_s rfl rfl ?_
      refine l_s rfl rfl ?_
      refine l_s rfl rfl ?_
      refine l_s rfl rfl ?_
      refine l_s rfl rfl ?_
      refine l_s rfl rfl ?_
      refine l_op 2 rfl rfl rfl rfl rfl ?_
      refine l_nil (WK.nx (by assumption) ?_)
      refine SeqK.nx (by assumption) ?_
      first | refine e_cond_f rfl rfl rfl ?_ | refine e_cond_f rfl rfl (by rw [irr_eq]; first | exact beq_eq_false_iff_ne.2 (by assumption) | exact decide_eq_false (by assumption) | exact bne_eq_false_iff_eq.2 (by assumption)) ?_
      refine k_skip ?_
      refine BlkK.nx (by assumption) ?_
      refine SeqK.nx (by assumption) ?_
      refine k_lin (fun W K => ?_)
      refine l_op 0 rfl rfl rfl rfl rfl ?_
      refine l_a64 rfl rfl rfl (by omega) rfl ?_
      refine l_op 0 rfl rfl rfl rfl rfl ?_
      refine l_nil (WK.nx (by assumption) ?_)
      refine K0.nx (i + 1) (by repeat (first | exact trivial | refine And.intro rfl ?_)) ⟨F.pick [0, 1] (by decide), by omega, by omega, fun j hji => ?_⟩ (by first | omega | (simp only; omega))
      by_cases e : (j : Int) = i
      · rw [show j = i.toNat by omega]
        rintro ⟨z1, z2⟩
        first
          | exact (by assumption : (rs.getD i.toNat default).us.toList ≠ _) (beq_iff_eq.1 ((sneq_iff execB_b execB_s).2 z1))
          | exact absurd z2 (by assumption)
      · exact hj j (by omega)
    replace hc6 := of_decide_eq_false ((irr_eq _).symm.trans hc6)
    have hg : gameR bs = (62, 12, []) := by
      have : (rs.map plR).find? isEx = none := find_no fun j y hy => by
        by_cases hjl : j < rs.length
        · rw [getPR hjl] at hy
          injection hy with hy
          rw [← hy, ← Bool.not_eq_true, hex]
          exact fun q => hj j (by omega) ⟨q.1, q.2.1⟩
        · rw [List.getElem?_eq_none (by rw [List.length_map]; omega)] at hy; cases hy
      rw [hgf, this]; rfl
    refine k_exit ?_
    refine SeqK.et (by assumption) ?_
    refine LoopK.et (by assumption) ?_
    refine BlkK.et (by assumption) ?_
    refine SeqK.nx (by assumption) ?_
    refine k_seq (fun Q K => ?_)
    refine k_lin (fun W K => ?_)
    refine l_op 0 rfl rfl rfl rfl rfl ?_
    refine l_op 0 rfl rfl rfl rfl rfl ?_
    refine l_op 0 rfl rfl rfl rfl rfl ?_
    refine l_nil (WK.nx (by assumption) ?_)
    refine SeqK.nx (by assumption) ?_
    refine k_ret ?_
    refine FunK.rt (by assumption) rfl ?_
    -- leaf 6
    first
    | (exact gam_bad (F.pick [] (by decide)) hg)
    | (refine ⟨(x2, 0 + l, c2, bs), ?_, F, ?_⟩
       · rw [gamV, hg0, ← hbl]; rfl
       · rw [GamP, hg0]; exact ⟨rfl, by dsimp only; omega⟩)
    | (refine ⟨((rs.getD i.toNat default).x, (rs.getD i.toNat default).l, (rs.getD i.toNat default).c, (rs.getD i.toNat default).d), ?_, Facts.ofM F 0 rfl (List.mem_map_of_mem hmem), ?_⟩
       · rw [gamV, hgo, ← hbl]; rfl
       · rw [GamP, hgo]; exact ⟨rfl, (q2 _ hmem).2.1⟩)
  replace hc1 := of_decide_eq_false ((irr_eq _).symm.trans hc1)
  have hg : gameR bs = (63, 0, []) := by unfold gameR; rw [if_pos (by omega)]
  refine l_s rfl rfl ?_
  refine l_s rfl rfl ?_
  refine l_s rfl rfl ?_
  refine l_s rfl rfl ?_
  refine l_op 2 rfl rfl rfl rfl rfl ?_
  refine l_nil (WK.nx (by assumption) ?_)
  refine SeqK.nx (by assumption) ?_
  first | refine e_cond_f rfl rfl rfl ?_ | refine e_cond_f rfl rfl (by rw [irr_eq]; first | exact beq_eq_false_iff_ne.2 (by assumption) | exact decide_eq_false (by assumption) | exact bne_eq_false_iff_eq.2 (by assumption)) ?_
  refine k_skip ?_
  refine SeqK.nx (by assumption) ?_
  refine k_seq (fun Q K => ?_)
  refine k_seq (fun Q K => ?_)
  refine k_lin (fun W K => ?_)
  refine l_op 0 rfl rfl rfl rfl rfl ?_
  first | refine l_op 2 rfl rfl rfl rfl rfl ?_ | refine l_ln rfl rfl rfl rfl ?_
  refine l_cmp rfl rfl rfl rfl ?_
  refine l_op 0 rfl rfl rfl rfl rfl ?_
  refine l_guard rfl rfl rfl (fun hc10 => ?_) (fun hc10 => ?_)
  · replace hc10 := of_decide_eq_true ((irr_eq _).symm.trans hc10)
    refine l_s rfl rfl ?_
    refine l_s rfl rfl ?_
    refine l_s rfl rfl ?_
    refine l_s rfl rfl ?_
    refine l_op 2 rfl rfl rfl rfl rfl ?_
    refine l_nil (WK.nx (by assumption) ?_)
    refine SeqK.nx (by assumption) ?_
    first | refine e_cond_t rfl rfl rfl ?_ | refine e_cond_t rfl rfl (by rw [irr_eq]; first | exact beq_iff_eq.2 (by assumption) | exact decide_eq_true (by assumption) | exact bne_iff_ne.2 (by assumption)) ?_
    refine k_seq (fun Q K => ?_)
    refine k_lin (fun W K => ?_)
    refine l_op 0 rfl rfl rfl rfl rfl ?_
    refine l_op 0 rfl rfl rfl rfl rfl ?_
    refine l_op 0 rfl rfl rfl rfl rfl ?_
    refine l_nil (WK.nx (by assumption) ?_)
    refine SeqK.nx (by assumption) ?_
    refine k_ret ?_
    refine SeqK.rt (by assumption) ?_
    refine FunK.rt (by assumption) rfl ?_
    -- leaf 7
    first
    | (exact gam_bad (F.pick [] (by decide)) hg)
    | (refine ⟨(x2, 0 + l, c2, bs), ?_, F, ?_⟩
       · rw [gamV, hg0, ← hbl]; rfl
       · rw [GamP, hg0]; exact ⟨rfl, by dsimp only; omega⟩)
    | (refine ⟨((rs.getD i.toNat default).x, (rs.getD i.toNat default).l, (rs.getD i.toNat default).c, (rs.getD i.toNat default).d), ?_, Facts.ofM F 0 rfl (List.mem_map_of_mem hmem), ?_⟩
       · rw [gamV, hgo, ← hbl]; rfl
       · rw [GamP, hgo]; exact ⟨rfl, (q2 _ hmem).2.1⟩)
  replace hc10 := of_decide_eq_false ((irr_eq _).symm.trans hc10)
  exfalso; omega

end Go.Proofs.Ytkmkbpnlccomnaa
