/- A form is read, by the document. No statement of the seat is proved in this text. -/
import Derived.Test.YtkmkbpnlccomnaaBlA
import Derived.Test.YtkmkbpnlccomnaaAb32
set_option linter.unusedVariables false
set_option linter.unusedSimpArgs false
set_option maxRecDepth 100000
set_option maxHeartbeats 4000000
namespace Go.Proofs.Ytkmkbpnlccomnaa
open GAb Go

theorem rparse_call {σ : AState} {a : Option Addr} {l c : Nat} {bs : List Int} (hl : Old E0 σ a l c 1 (u8l bs)) (hB : Bytes bs) (hn : l ≤ 2000000) :
    SCall Try.prog E0 25 [.slice a l c] σ (Ret E0 σ (parV bs) parF (ParP bs)) := by
  have hbl := hl.len8
  have hcap : l ≤ c := by obtain ⟨_, hR, _⟩ := hl.1; exact hR.size.2
  refine k_fun Try.func25 rfl (m := 153) rfl fun B hD Q K => ?_
  have F := Facts.nil E0 σ
  refine k_seq (fun Q K => ?_)
  refine k_lin (fun W K => ?_)
  refine l_op 0 rfl rfl rfl rfl rfl ?_
  refine l_op 0 rfl rfl rfl rfl rfl ?_
  refine l_op 0 rfl rfl rfl rfl rfl ?_
  refine l_op 0 rfl rfl rfl rfl rfl ?_
  refine l_nil (WK.nx (by assumption) ?_)
  refine SeqK.nx (by assumption) ?_
  refine k_seq (fun Q K => ?_)
  refine k_seq (fun Q K => ?_)
  refine k_lin (fun W K => ?_)
  refine l_op 0 rfl rfl rfl rfl rfl ?_
  first | refine l_op 2 rfl rfl rfl rfl rfl ?_ | refine l_ln rfl rfl rfl rfl ?_
  refine l_cmp rfl rfl rfl rfl ?_
  refine l_nil (WK.nx (by assumption) ?_)
  refine SeqK.nx (by assumption) ?_
  refine l_cond rfl rfl (fun hc1 => ?_) (fun hc1 => ?_)
  · replace hc1 := of_decide_eq_true ((irr_eq _).symm.trans hc1)
    have hh0 : headR bs = (3, 0) := if_pos (by omega)
    refine k_seq (fun Q K => ?_)
    refine k_lin (fun W K => ?_)
    refine l_op 0 rfl rfl rfl rfl rfl ?_
    refine l_op 0 rfl rfl rfl rfl rfl ?_
    refine l_op 0 rfl rfl rfl rfl rfl ?_
    refine l_op 0 rfl rfl rfl rfl rfl ?_
    refine l_nil (WK.nx (by assumption) ?_)
    refine SeqK.nx (by assumption) ?_
    refine k_ret ?_
    refine SeqK.rt (by assumption) ?_
    refine FunK.rt (by assumption) rfl ?_
    -- leaf 1
    first
    | (refine par_bad (F.pick [] (by decide)) ?_
       unfold parseR; rw [hh0]; simp; done)
    | (refine par_bad (F.pick [] (by decide)) ?_
       rw [goK_eq (by omega), if_pos (by omega), if_pos (by rw [List.length_map]; omega)] at hgo
       rw [parse_go hh hgo.symm]; simp; done)
    | (refine par_bad (F.pick [] (by decide)) (go_bad (by omega) (by omega) hm4 ?_ (by decide) hgo hh)
       unfold chunkE; rw [if_pos (by omega), hbl]; done)
    | (refine par_bad (F.pick [] (by decide)) (go_bad (by omega) (by omega) hm4 ?_ (by decide) hgo hh)
       unfold chunkE; rw [if_neg (by omega), if_pos (by assumption)]; done)
    | (refine par_bad (F.pick [] (by decide)) (go_bad (by omega) (by omega) hm4 ?_ (by decide) hgo hh)
       unfold chunkE; rw [if_neg (by omega), if_neg (by simp_all), if_pos (by omega)]; done)
    | (refine par_bad (F.pick [] (by decide)) (go_bad (by omega) (by omega) hm4 ?_ (by decide) hgo hh)
       unfold chunkE; rw [if_neg (by omega), if_neg (by simp_all), if_neg (by omega), if_pos ⟨by omega, by omega⟩, hbl]; done)
    | (rw [hbe2] at *
       refine par_bad (F.pick [] (by decide)) (go_bad (by omega) (by omega) hm4 ?_ (by decide) hgo hh)
       unfold chunkE; rw [if_neg (by omega), if_neg (by simp_all), if_neg (by omega), if_neg (by omega), if_pos ⟨by omega, by assumption⟩]; done)
    | (rw [goK_eq (by omega), if_neg (by omega)] at hgo
       have hp := parse_go hh hgo.symm
       rw [if_neg (by decide)] at hp
       refine ⟨(strOfNums (List.take (12 - 8) (List.drop 8 bs)), x, m, d, ts), ?_, F, ?_⟩
       · rw [parV, hp, ← hbl]; rfl
       · rw [ParP, hp]
         exact ⟨ltr_str ((hB.drop _).take _), rfl, hbd⟩)
  replace hc1 := of_decide_eq_false ((irr_eq _).symm.trans hc1)
  have k1 : ¬ (bs.length : Int) > 4194304 := by omega
  refine k_skip ?_
  refine SeqK.nx (by assumption) ?_
  refine k_cut (α := Unit) (fun _ s => Facts E0 σ s [] ∧ bs.take (min bs.length 4) = ([70, 79, 82, 77] : List Int).take (min bs.length 4)) (fun _ => [(0, .slice a l c)]) (fun Q KC => ?_) ?_
  · refine k_seq (fun Q K => ?_)
    refine k_lin (fun W K => ?_)
    refine l_op 0 rfl rfl rfl rfl rfl ?_
    refine l_nil (WK.nx (by assumption) ?_)
    refine SeqK.nx (by assumption) ?_
    refine k_block (fun Q K => ?_)
    refine k_loop (α := Int) (fun i s => Facts E0 σ s [] ∧ 0 ≤ i ∧ i ≤ 4 ∧ i ≤ l ∧ ∀ j : Nat, (j : Int) < i → bs.getD j 0 = ([70, 79, 82, 77] : List Int).getD j 0) (fun i => [(0, .slice a l c), (6, .int .i64 i)]) (fun i => (4 - i).toNat) 0 ⟨F, by omega, by omega, by omega, fun j hj => by omega⟩ (by repeat (first | exact trivial | refine And.intro rfl ?_)) ?_
    clear F
    rintro i env s Q K0 ⟨F, i0, i1, i2, hj⟩
    refine k_seq (fun Q K => ?_)
    refine k_seq (fun Q K => ?_)
    refine k_lin (fun W K => ?_)
    refine l_op 0 rfl rfl rfl rfl rfl ?_
    refine l_cmp rfl rfl rfl rfl ?_
    refine l_op 0 rfl rfl rfl rfl rfl ?_
    refine l_guard rfl rfl rfl (fun hc2 => ?_) (fun hc2 => ?_)
    · replace hc2 := of_decide_eq_true ((irr_eq _).symm.trans hc2)
      refine l_op 0 rfl rfl rfl rfl rfl ?_
      refine l_op 0 rfl rfl rfl rfl rfl ?_
      first | refine l_op 2 rfl rfl rfl rfl rfl ?_ | refine l_ln rfl rfl rfl rfl ?_
      refine l_cmp rfl rfl rfl rfl ?_
      refine l_op 2 rfl rfl rfl rfl rfl ?_
      refine l_nil (WK.nx (by assumption) ?_)
      refine SeqK.nx (by assumption) ?_
      refine l_cond rfl rfl (fun hc3 => ?_) (fun hc3 => ?_)
      · replace hc3 := of_decide_eq_true ((irr_eq _).symm.trans hc3)
        refine k_skip ?_
        refine SeqK.nx (by assumption) ?_
        refine k_seq (fun Q K => ?_)
        refine k_block (fun Q K => ?_)
        refine k_seq (fun Q K => ?_)
        refine k_linm [0, 1, 2, 4, 5, 3, 6] mixed (by kernel_rfl) (fun W K => ?_)
        try have hpS := F.pns
        refine l_op 0 rfl rfl rfl rfl rfl ?_
        refine l_op 0 rfl rfl rfl rfl rfl ?_
        first | (refine l_ixs F (by assumption) rfl rfl rfl rfl rfl rfl (by omega) (fun m26 b26 hA26 hS26 => ?_)) | refine l_ixi rfl rfl rfl rfl rfl rfl (F.old (by assumption)) (by omega) (fun m26 b26 hA26 => ?_) | (refine l_ixoi F 0 rfl rfl rfl rfl rfl rfl rfl (by omega) (fun m e ha hA26 => ?_); cases ha) | (refine l_ixoi F 1 rfl rfl rfl rfl rfl rfl rfl (by omega) (fun m e ha hA26 => ?_); cases ha) | (refine l_ixoi F 2 rfl rfl rfl rfl rfl rfl rfl (by omega) (fun m e ha hA26 => ?_); cases ha) | (refine l_ixoi F 3 rfl rfl rfl rfl rfl rfl rfl (by omega) (fun m e ha hA26 => ?_); cases ha)
        refine l_op 0 rfl rfl rfl rfl rfl ?_
        refine l_sx rfl rfl rfl rfl rfl (by rw [show (ByteArray.mk #[70, 79, 82, 77]).size = 4 from rfl]; omega) ?_
        refine l_ld0 rfl rfl rfl rfl rfl (by assumption) ?_
        first | have hpS := PnS.add hpS hS26 | have hpS := PnS.add hpS (OldC.sf (by assumption)) | skip
        refine l_cmp rfl rfl rfl rfl ?_
        refine l_nil (WK.nx (by assumption) ?_)
        refine SeqK.nx (by assumption) ?_
        refine l_cond rfl rfl (fun hc4 => ?_) (fun hc4 => ?_)
        · first | replace hc4 := bne_iff_ne.1 ((irr_eq _).symm.trans hc4) | simp only [irr_eq, bne_iff_ne, bne_eq_false_iff_eq, ne_eq, decide_eq_true_eq, decide_eq_false_iff_not, Bool.not_eq_true', Bool.not_eq_false'] at hc4
          have hh0 : headR bs = (50, 0) := by
            unfold headR; rw [if_neg k1, if_pos (fun h => ?_)]
            exact hc4 (take_min.2 h i.toNat (by omega))
          refine k_seq (fun Q K => ?_)
          refine k_lin (fun W K => ?_)
          refine l_op 0 rfl rfl rfl rfl rfl ?_
          refine l_op 0 rfl rfl rfl rfl rfl ?_
          refine l_op 0 rfl rfl rfl rfl rfl ?_
          refine l_op 0 rfl rfl rfl rfl rfl ?_
          refine l_nil (WK.nx (by assumption) ?_)
          refine SeqK.nx (by assumption) ?_
          refine k_ret ?_
          refine BlkK.rt (by assumption) ?_
          refine SeqK.rt (by assumption) ?_
          refine LoopK.rt (by assumption) ?_
          refine BlkK.rt (by assumption) ?_
          refine CutK.rt (by assumption) ?_
          refine FunK.rt (by assumption) rfl ?_
          -- leaf 2
          first
          | (refine par_bad (F.pick [] (by decide)) ?_
             unfold parseR; rw [hh0]; simp; done)
          | (refine par_bad (F.pick [] (by decide)) ?_
             rw [goK_eq (by omega), if_pos (by omega), if_pos (by rw [List.length_map]; omega)] at hgo
             rw [parse_go hh hgo.symm]; simp; done)
          | (refine par_bad (F.pick [] (by decide)) (go_bad (by omega) (by omega) hm4 ?_ (by decide) hgo hh)
             unfold chunkE; rw [if_pos (by omega), hbl]; done)
          | (refine par_bad (F.pick [] (by decide)) (go_bad (by omega) (by omega) hm4 ?_ (by decide) hgo hh)
             unfold chunkE; rw [if_neg (by omega), if_pos (by assumption)]; done)
          | (refine par_bad (F.pick [] (by decide)) (go_bad (by omega) (by omega) hm4 ?_ (by decide) hgo hh)
             unfold chunkE; rw [if_neg (by omega), if_neg (by simp_all), if_pos (by omega)]; done)
          | (refine par_bad (F.pick [] (by decide)) (go_bad (by omega) (by omega) hm4 ?_ (by decide) hgo hh)
             unfold chunkE; rw [if_neg (by omega), if_neg (by simp_all), if_neg (by omega), if_pos ⟨by omega, by omega⟩, hbl]; done)
          | (rw [hbe2] at *
             refine par_bad (F.pick [] (by decide)) (go_bad (by omega) (by omega) hm4 ?_ (by decide) hgo hh)
             unfold chunkE; rw [if_neg (by omega), if_neg (by simp_all), if_neg (by omega), if_neg (by omega), if_pos ⟨by omega, by assumption⟩]; done)
          | (rw [goK_eq (by omega), if_neg (by omega)] at hgo
             have hp := parse_go hh hgo.symm
             rw [if_neg (by decide)] at hp
             refine ⟨(strOfNums (List.take (12 - 8) (List.drop 8 bs)), x, m, d, ts), ?_, F, ?_⟩
             · rw [parV, hp, ← hbl]; rfl
             · rw [ParP, hp]
               exact ⟨ltr_str ((hB.drop _).take _), rfl, hbd⟩)
        first | replace hc4 := bne_eq_false_iff_eq.1 ((irr_eq _).symm.trans hc4) | simp only [irr_eq, bne_iff_ne, bne_eq_false_iff_eq, ne_eq, decide_eq_true_eq, decide_eq_false_iff_not, Bool.not_eq_true', Bool.not_eq_false'] at hc4
        refine k_skip ?_
        refine BlkK.nx (by assumption) ?_
        refine SeqK.nx (by assumption) ?_
        refine k_lin (fun W K => ?_)
        refine l_op 0 rfl rfl rfl rfl rfl ?_
        refine l_a64 rfl rfl rfl (by omega) rfl ?_
        refine l_op 0 rfl rfl rfl rfl rfl ?_
        refine l_nil (WK.nx (by assumption) ?_)
        refine K0.nx (i + 1) (by repeat (first | exact trivial | refine And.intro rfl ?_)) ⟨F.pick [] (by decide), by omega, by omega, by omega, fun j hji => ?_⟩ (by first | omega | (simp only; omega))
        by_cases e : (j : Int) = i
        · rw [show j = i.toNat by omega]; assumption
        · exact hj j (by omega)
      replace hc3 := of_decide_eq_false ((irr_eq _).symm.trans hc3)
      refine k_exit ?_
      refine SeqK.et (by assumption) ?_
      refine LoopK.et (by assumption) ?_
      refine BlkK.et (by assumption) ?_
      exact KC.nx () (by repeat (first | exact trivial | refine And.intro rfl ?_)) ⟨F, take_min.1 fun j hji => hj j (by omega)⟩
    replace hc2 := of_decide_eq_false ((irr_eq _).symm.trans hc2)
    refine l_s rfl rfl ?_
    refine l_s rfl rfl ?_
    refine l_s rfl rfl ?_
    refine l_s rfl rfl ?_
    refine l_op 2 rfl rfl rfl rfl rfl ?_
    refine l_nil (WK.nx (by assumption) ?_)
    refine SeqK.nx (by assumption) ?_
    first | refine e_cond_f rfl rfl rfl ?_ | refine e_cond_f rfl rfl (by rw [irr_eq]; first | exact beq_eq_false_iff_ne.2 (by assumption) | exact decide_eq_false (by assumption) | exact bne_eq_false_iff_eq.2 (by assumption)) ?_
    refine k_exit ?_
    refine SeqK.et (by assumption) ?_
    refine LoopK.et (by assumption) ?_
    refine BlkK.et (by assumption) ?_
    exact KC.nx () (by repeat (first | exact trivial | refine And.intro rfl ?_)) ⟨F, take_min.1 fun j hji => hj j (by omega)⟩
  · clear F
    rintro ⟨⟩ env s ⟨F, k2⟩
    refine k_seq (fun Q K => ?_)
    refine k_block (fun Q K => ?_)
    refine k_seq (fun Q K => ?_)
    refine k_lin (fun W K => ?_)
    refine l_op 0 rfl rfl rfl rfl rfl ?_
    first | refine l_op 2 rfl rfl rfl rfl rfl ?_ | refine l_ln rfl rfl rfl rfl ?_
    refine l_cmp rfl rfl rfl rfl ?_
    refine l_op 0 rfl rfl rfl rfl rfl ?_
    refine l_nil (WK.nx (by assumption) ?_)
    refine SeqK.nx (by assumption) ?_
    refine l_cond rfl rfl (fun hc5 => ?_) (fun hc5 => ?_)
    · replace hc5 := of_decide_eq_true ((irr_eq _).symm.trans hc5)
      have hh0 : headR bs = (2, (l : Int)) := by unfold headR; rw [if_neg k1, if_neg (not_not_intro k2), if_pos (by omega), hbl]
      refine k_seq (fun Q K => ?_)
      refine k_lin (fun W K => ?_)
      refine l_op 0 rfl rfl rfl rfl rfl ?_
      first | refine l_op 2 rfl rfl rfl rfl rfl ?_ | refine l_ln rfl rfl rfl rfl ?_
      refine l_op 0 rfl rfl rfl rfl rfl ?_
      refine l_op 0 rfl rfl rfl rfl rfl ?_
      refine l_op 0 rfl rfl rfl rfl rfl ?_
      refine l_op 0 rfl rfl rfl rfl rfl ?_
      refine l_nil (WK.nx (by assumption) ?_)
      refine SeqK.nx (by assumption) ?_
      refine k_ret ?_
      refine BlkK.rt (by assumption) ?_
      refine SeqK.rt (by assumption) ?_
      refine FunK.rt (by assumption) rfl ?_
      -- leaf 3
      first
      | (refine par_bad (F.pick [] (by decide)) ?_
         unfold parseR; rw [hh0]; simp; done)
      | (refine par_bad (F.pick [] (by decide)) ?_
         rw [goK_eq (by omega), if_pos (by omega), if_pos (by rw [List.length_map]; omega)] at hgo
         rw [parse_go hh hgo.symm]; simp; done)
      | (refine par_bad (F.pick [] (by decide)) (go_bad (by omega) (by omega) hm4 ?_ (by decide) hgo hh)
         unfold chunkE; rw [if_pos (by omega), hbl]; done)
      | (refine par_bad (F.pick [] (by decide)) (go_bad (by omega) (by omega) hm4 ?_ (by decide) hgo hh)
         unfold chunkE; rw [if_neg (by omega), if_pos (by assumption)]; done)
      | (refine par_bad (F.pick [] (by decide)) (go_bad (by omega) (by omega) hm4 ?_ (by decide) hgo hh)
         unfold chunkE; rw [if_neg (by omega), if_neg (by simp_all), if_pos (by omega)]; done)
      | (refine par_bad (F.pick [] (by decide)) (go_bad (by omega) (by omega) hm4 ?_ (by decide) hgo hh)
         unfold chunkE; rw [if_neg (by omega), if_neg (by simp_all), if_neg (by omega), if_pos ⟨by omega, by omega⟩, hbl]; done)
      | (rw [hbe2] at *
         refine par_bad (F.pick [] (by decide)) (go_bad (by omega) (by omega) hm4 ?_ (by decide) hgo hh)
         unfold chunkE; rw [if_neg (by omega), if_neg (by simp_all), if_neg (by omega), if_neg (by omega), if_pos ⟨by omega, by assumption⟩]; done)
      | (rw [goK_eq (by omega), if_neg (by omega)] at hgo
         have hp := parse_go hh hgo.symm
         rw [if_neg (by decide)] at hp
         refine ⟨(strOfNums (List.take (12 - 8) (List.drop 8 bs)), x, m, d, ts), ?_, F, ?_⟩
         · rw [parV, hp, ← hbl]; rfl
         · rw [ParP, hp]
           exact ⟨ltr_str ((hB.drop _).take _), rfl, hbd⟩)
    replace hc5 := of_decide_eq_false ((irr_eq _).symm.trans hc5)
    have hbe : (beR bs 4 4).1 = be bs 4 4 := by rw [beR_ok ⟨by omega, by omega⟩]; rfl
    have hbb := be_lt4 hB 4 (k := 4) (by omega)
    refine k_seq (fun Q K => ?_)
    refine k_lin (fun W K => ?_)
    refine l_op 0 rfl rfl rfl rfl rfl ?_
    refine l_callp F rfl rfl (by kernel_rfl) rfl rfl (number_call (p := 4) (Old.pure (F.old hl)) hB (by omega)) (fun y s F _ => ?_)
    refine l_a64 rfl rfl rfl (by omega) rfl ?_
    refine l_op 0 rfl rfl rfl rfl rfl ?_
    first | refine l_op 2 rfl rfl rfl rfl rfl ?_ | refine l_ln rfl rfl rfl rfl ?_
    refine l_cmp rfl rfl rfl rfl ?_
    refine l_op 0 rfl rfl rfl rfl rfl ?_
    refine l_nil (WK.nx (by assumption) ?_)
    refine SeqK.nx (by assumption) ?_
    refine l_cond rfl rfl (fun hc6 => ?_) (fun hc6 => ?_)
    · first | replace hc6 := bne_iff_ne.1 ((irr_eq _).symm.trans hc6) | simp only [irr_eq, bne_iff_ne, bne_eq_false_iff_eq, ne_eq, decide_eq_true_eq, decide_eq_false_iff_not, Bool.not_eq_true', Bool.not_eq_false'] at hc6
      have hh0 : headR bs = (51, 4) := by unfold headR; rw [if_neg k1, if_neg (not_not_intro k2), if_neg (by omega), if_pos (by omega)]
      refine k_seq (fun Q K => ?_)
      refine k_lin (fun W K => ?_)
      refine l_op 0 rfl rfl rfl rfl rfl ?_
      refine l_op 0 rfl rfl rfl rfl rfl ?_
      refine l_op 0 rfl rfl rfl rfl rfl ?_
      refine l_op 0 rfl rfl rfl rfl rfl ?_
      refine l_nil (WK.nx (by assumption) ?_)
      refine SeqK.nx (by assumption) ?_
      refine k_ret ?_
      refine BlkK.rt (by assumption) ?_
      refine SeqK.rt (by assumption) ?_
      refine FunK.rt (by assumption) rfl ?_
      -- leaf 4
      first
      | (refine par_bad (F.pick [] (by decide)) ?_
         unfold parseR; rw [hh0]; simp; done)
      | (refine par_bad (F.pick [] (by decide)) ?_
         rw [goK_eq (by omega), if_pos (by omega), if_pos (by rw [List.length_map]; omega)] at hgo
         rw [parse_go hh hgo.symm]; simp; done)
      | (refine par_bad (F.pick [] (by decide)) (go_bad (by omega) (by omega) hm4 ?_ (by decide) hgo hh)
         unfold chunkE; rw [if_pos (by omega), hbl]; done)
      | (refine par_bad (F.pick [] (by decide)) (go_bad (by omega) (by omega) hm4 ?_ (by decide) hgo hh)
         unfold chunkE; rw [if_neg (by omega), if_pos (by assumption)]; done)
      | (refine par_bad (F.pick [] (by decide)) (go_bad (by omega) (by omega) hm4 ?_ (by decide) hgo hh)
         unfold chunkE; rw [if_neg (by omega), if_neg (by simp_all), if_pos (by omega)]; done)
      | (refine par_bad (F.pick [] (by decide)) (go_bad (by omega) (by omega) hm4 ?_ (by decide) hgo hh)
         unfold chunkE; rw [if_neg (by omega), if_neg (by simp_all), if_neg (by omega), if_pos ⟨by omega, by omega⟩, hbl]; done)
      | (rw [hbe2] at *
         refine par_bad (F.pick [] (by decide)) (go_bad (by omega) (by omega) hm4 ?_ (by decide) hgo hh)
         unfold chunkE; rw [if_neg (by omega), if_neg (by simp_all), if_neg (by omega), if_neg (by omega), if_pos ⟨by omega, by assumption⟩]; done)
      | (rw [goK_eq (by omega), if_neg (by omega)] at hgo
         have hp := parse_go hh hgo.symm
         rw [if_neg (by decide)] at hp
         refine ⟨(strOfNums (List.take (12 - 8) (List.drop 8 bs)), x, m, d, ts), ?_, F, ?_⟩
         · rw [parV, hp, ← hbl]; rfl
         · rw [ParP, hp]
           exact ⟨ltr_str ((hB.drop _).take _), rfl, hbd⟩)
    first | replace hc6 := bne_eq_false_iff_eq.1 ((irr_eq _).symm.trans hc6) | simp only [irr_eq, bne_iff_ne, bne_eq_false_iff_eq, ne_eq, decide_eq_true_eq, decide_eq_false_iff_not, Bool.not_eq_true', Bool.not_eq_false'] at hc6
    refine k_seq (fun Q K => ?_)
    refine k_lin (fun W K => ?_)
    refine l_op 0 rfl rfl rfl rfl rfl ?_
    first | refine l_sl rfl rfl rfl rfl rfl rfl rfl rfl ⟨rfl, _, _, rfl, by omega, rfl⟩ (F.old (by assumption)) (by omega) ?_ | refine l_sl rfl rfl rfl rfl rfl rfl rfl rfl ⟨rfl, _, _, rfl, by omega, rfl⟩ (F.has 0 rfl) (by omega) ?_ | refine l_sl rfl rfl rfl rfl rfl rfl rfl rfl ⟨rfl, _, _, rfl, by omega, rfl⟩ (F.has 1 rfl) (by omega) ?_ | refine l_sl rfl rfl rfl rfl rfl rfl rfl rfl ⟨rfl, _, _, rfl, by omega, rfl⟩ (F.has 2 rfl) (by omega) ?_ | refine l_sl rfl rfl rfl rfl rfl rfl rfl rfl ⟨rfl, _, _, rfl, by omega, rfl⟩ (F.has 3 rfl) (by omega) ?_
    refine l_str rfl rfl rfl rfl rfl (F.old (hl.part8 (lo := 8) (hi := 12) (by omega) (by omega))) ?_
    refine l_callp F rfl rfl (by kernel_rfl) rfl rfl (rid_call (by rw [str_size]; simp; omega)) (fun y s F _ => ?_)
    refine l_op 2 rfl rfl rfl rfl rfl ?_
    refine l_op 0 rfl rfl rfl rfl rfl ?_
    refine l_nil (WK.nx (by assumption) ?_)
    refine SeqK.nx (by assumption) ?_
    refine l_cond rfl rfl (fun hc7 => ?_) (fun hc7 => ?_)
    · try simp only [irr_eq, beq_iff_eq, bne_iff_ne, beq_eq_false_iff_ne, bne_eq_false_iff_eq, ne_eq, decide_eq_true_eq, decide_eq_false_iff_not, Bool.not_eq_true', Bool.not_eq_false'] at hc7
      rw [ltr_str ((hB.drop _).take _)] at hc7
      have hh0 : headR bs = (50, 8) := by unfold headR; rw [if_neg k1, if_neg (not_not_intro k2), if_neg (by omega), if_neg (by omega), if_pos hc7]
      refine k_seq (fun Q K => ?_)
      refine k_lin (fun W K => ?_)
      refine l_op 0 rfl rfl rfl rfl rfl ?_
      refine l_op 0 rfl rfl rfl rfl rfl ?_
      refine l_op 0 rfl rfl rfl rfl rfl ?_
      refine l_op 0 rfl rfl rfl rfl rfl ?_
      refine l_nil (WK.nx (by assumption) ?_)
      refine SeqK.nx (by assumption) ?_
      refine k_ret ?_
      refine BlkK.rt (by assumption) ?_
      refine SeqK.rt (by assumption) ?_
      refine FunK.rt (by assumption) rfl ?_
      -- leaf 5
      first
      | (refine par_bad (F.pick [] (by decide)) ?_
         unfold parseR; rw [hh0]; simp; done)
      | (refine par_bad (F.pick [] (by decide)) ?_
         rw [goK_eq (by omega), if_pos (by omega), if_pos (by rw [List.length_map]; omega)] at hgo
         rw [parse_go hh hgo.symm]; simp; done)
      | (refine par_bad (F.pick [] (by decide)) (go_bad (by omega) (by omega) hm4 ?_ (by decide) hgo hh)
         unfold chunkE; rw [if_pos (by omega), hbl]; done)
      | (refine par_bad (F.pick [] (by decide)) (go_bad (by omega) (by omega) hm4 ?_ (by decide) hgo hh)
         unfold chunkE; rw [if_neg (by omega), if_pos (by assumption)]; done)
      | (refine par_bad (F.pick [] (by decide)) (go_bad (by omega) (by omega) hm4 ?_ (by decide) hgo hh)
         unfold chunkE; rw [if_neg (by omega), if_neg (by simp_all), if_pos (by omega)]; done)
      | (refine par_bad (F.pick [] (by decide)) (go_bad (by omega) (by omega) hm4 ?_ (by decide) hgo hh)
         unfold chunkE; rw [if_neg (by omega), if_neg (by simp_all), if_neg (by omega), if_pos ⟨by omega, by omega⟩, hbl]; done)
      | (rw [hbe2] at *
         refine par_bad (F.pick [] (by decide)) (go_bad (by omega) (by omega) hm4 ?_ (by decide) hgo hh)
         unfold chunkE; rw [if_neg (by omega), if_neg (by simp_all), if_neg (by omega), if_neg (by omega), if_pos ⟨by omega, by assumption⟩]; done)
      | (rw [goK_eq (by omega), if_neg (by omega)] at hgo
         have hp := parse_go hh hgo.symm
         rw [if_neg (by decide)] at hp
         refine ⟨(strOfNums (List.take (12 - 8) (List.drop 8 bs)), x, m, d, ts), ?_, F, ?_⟩
         · rw [parV, hp, ← hbl]; rfl
         · rw [ParP, hp]
           exact ⟨ltr_str ((hB.drop _).take _), rfl, hbd⟩)
    try simp only [irr_eq, beq_iff_eq, bne_iff_ne, beq_eq_false_iff_ne, bne_eq_false_iff_eq, ne_eq, decide_eq_true_eq, decide_eq_false_iff_not, Bool.not_eq_true', Bool.not_eq_false'] at hc7
    rw [ltr_str ((hB.drop _).take _)] at hc7
    have hh0 : headR bs = (0, 0) := by unfold headR; rw [if_neg k1, if_neg (not_not_intro k2), if_neg (by omega), if_neg (by omega), if_neg (by rw [hc7]; decide)]
    have hh : (headR bs).1 = 0 := by rw [hh0]
    refine k_skip ?_
    refine BlkK.nx (by assumption) ?_
    refine SeqK.nx (by assumption) ?_
    refine k_seq (fun Q K => ?_)
    refine k_lin (fun W K => ?_)
    refine l_op 0 rfl rfl rfl rfl rfl ?_
    refine l_nil (WK.nx (by assumption) ?_)
    refine SeqK.nx (by assumption) ?_
    refine k_seq (fun Q K => ?_)
    refine k_lin (fun W K => ?_)
    refine l_op 0 rfl rfl rfl rfl rfl ?_
    refine l_nil (WK.nx (by assumption) ?_)
    refine SeqK.nx (by assumption) ?_
    refine k_seq (fun Q K => ?_)
    refine k_block (fun Q K => ?_)
    refine k_loop (α := Int × Option Addr × Nat × Nat × List CK × Nat) (fun ⟨p, x, m, d, ts, k⟩ s => Facts E0 σ s [many (ts.map dK), own x m d 2 (rows eK ts)] ∧ 12 ≤ p ∧ p ≤ l ∧ (l : Int) - p < k ∧ BdK ts ∧ goK bs k p (ts.map plK) = goK bs bs.length 12 [] ∧ (m : Int) ≤ p ∧ m ≤ 1024) (fun ⟨p, x, m, d, ts, k⟩ => [(0, .slice a l c), (7, .slice x m d), (8, .int .i64 p)]) (fun ⟨p, _⟩ => (l - p).toNat) (12, none, 0, 0, [], bs.length) ⟨((F.pick [] (by decide)).nilrow 2).nomany, by omega, by omega, by omega, (fun t ht => by cases ht), rfl, by omega, by omega⟩ (by repeat (first | exact trivial | refine And.intro rfl ?_)) ?_
    clear F
    rintro ⟨p, x, m, d, ts, k⟩ env s Q K0 ⟨F, p0, p1, hk, hbd, hgo, hm, hm1⟩
    refine k_seq (fun Q K => ?_)
    refine k_seq (fun Q K => ?_)
    refine k_lin (fun W K => ?_)
    refine l_op 0 rfl rfl rfl rfl rfl ?_
    refine l_op 0 rfl rfl rfl rfl rfl ?_
    first | refine l_op 2 rfl rfl rfl rfl rfl ?_ | refine l_ln rfl rfl rfl rfl ?_
    refine l_cmp rfl rfl rfl rfl ?_
    refine l_nil (WK.nx (by assumption) ?_)
    refine SeqK.nx (by assumption) ?_
    refine l_cond rfl rfl (fun hc8 => ?_) (fun hc8 => ?_)
    · first | replace hc8 := bne_iff_ne.1 ((irr_eq _).symm.trans hc8) | simp only [irr_eq, bne_iff_ne, bne_eq_false_iff_eq, ne_eq, decide_eq_true_eq, decide_eq_false_iff_not, Bool.not_eq_true', Bool.not_eq_false'] at hc8
      have hml : ts.length = m := (F.has 1 rfl).len eK_len (by decide)
      refine k_skip ?_
      refine SeqK.nx (by assumption) ?_
      refine k_block (fun Q K => ?_)
      refine k_seq (fun Q K => ?_)
      refine k_lin (fun W K => ?_)
      refine l_op 0 rfl rfl rfl rfl rfl ?_
      first | refine l_op 2 rfl rfl rfl rfl rfl ?_ | refine l_ln rfl rfl rfl rfl ?_
      refine l_op 0 rfl rfl rfl rfl rfl ?_
      refine l_a64 rfl rfl rfl (by omega) rfl ?_
      refine l_op 0 rfl rfl rfl rfl rfl ?_
      refine l_nil (WK.nx (by assumption) ?_)
      refine SeqK.nx (by assumption) ?_
      refine k_seq (fun Q K => ?_)
      refine k_block (fun Q K => ?_)
      refine k_seq (fun Q K => ?_)
      refine k_lin (fun W K => ?_)
      refine l_op 0 rfl rfl rfl rfl rfl ?_
      first | refine l_op 2 rfl rfl rfl rfl rfl ?_ | refine l_ln rfl rfl rfl rfl ?_
      refine l_cmp rfl rfl rfl rfl ?_
      refine l_op 0 rfl rfl rfl rfl rfl ?_
      refine l_nil (WK.nx (by assumption) ?_)
      refine SeqK.nx (by assumption) ?_
      refine l_cond rfl rfl (fun hc9 => ?_) (fun hc9 => ?_)
      · replace hc9 := of_decide_eq_true ((irr_eq _).symm.trans hc9)
        refine k_seq (fun Q K => ?_)
        refine k_lin (fun W K => ?_)
        refine l_op 0 rfl rfl rfl rfl rfl ?_
        refine l_op 0 rfl rfl rfl rfl rfl ?_
        refine l_op 0 rfl rfl rfl rfl rfl ?_
        refine l_op 0 rfl rfl rfl rfl rfl ?_
        refine l_op 0 rfl rfl rfl rfl rfl ?_
        refine l_nil (WK.nx (by assumption) ?_)
        refine SeqK.nx (by assumption) ?_
        refine k_ret ?_
        refine BlkK.rt (by assumption) ?_
        refine SeqK.rt (by assumption) ?_
        refine BlkK.rt (by assumption) ?_
        refine LoopK.rt (by assumption) ?_
        refine BlkK.rt (by assumption) ?_
        refine SeqK.rt (by assumption) ?_
        refine FunK.rt (by assumption) rfl ?_
        -- leaf 6
        first
        | (refine par_bad (F.pick [] (by decide)) ?_
           unfold parseR; rw [hh0]; simp; done)
        | (refine par_bad (F.pick [] (by decide)) ?_
           rw [goK_eq (by omega), if_pos (by omega), if_pos (by rw [List.length_map]; omega)] at hgo
           rw [parse_go hh hgo.symm]; simp; done)
        | (refine par_bad (F.pick [] (by decide)) (go_bad (by omega) (by omega) hm4 ?_ (by decide) hgo hh)
           unfold chunkE; rw [if_pos (by omega), hbl]; done)
        | (refine par_bad (F.pick [] (by decide)) (go_bad (by omega) (by omega) hm4 ?_ (by decide) hgo hh)
           unfold chunkE; rw [if_neg (by omega), if_pos (by assumption)]; done)
        | (refine par_bad (F.pick [] (by decide)) (go_bad (by omega) (by omega) hm4 ?_ (by decide) hgo hh)
           unfold chunkE; rw [if_neg (by omega), if_neg (by simp_all), if_pos (by omega)]; done)
        | (refine par_bad (F.pick [] (by decide)) (go_bad (by omega) (by omega) hm4 ?_ (by decide) hgo hh)
           unfold chunkE; rw [if_neg (by omega), if_neg (by simp_all), if_neg (by omega), if_pos ⟨by omega, by omega⟩, hbl]; done)
        | (rw [hbe2] at *
           refine par_bad (F.pick [] (by decide)) (go_bad (by omega) (by omega) hm4 ?_ (by decide) hgo hh)
           unfold chunkE; rw [if_neg (by omega), if_neg (by simp_all), if_neg (by omega), if_neg (by omega), if_pos ⟨by omega, by assumption⟩]; done)
        | (rw [goK_eq (by omega), if_neg (by omega)] at hgo
           have hp := parse_go hh hgo.symm
           rw [if_neg (by decide)] at hp
           refine ⟨(strOfNums (List.take (12 - 8) (List.drop 8 bs)), x, m, d, ts), ?_, F, ?_⟩
           · rw [parV, hp, ← hbl]; rfl
           · rw [ParP, hp]
             exact ⟨ltr_str ((hB.drop _).take _), rfl, hbd⟩)
      replace hc9 := of_decide_eq_false ((irr_eq _).symm.trans hc9)
      have hm4 : (ts.map plK).length ≠ 1024 := by rw [List.length_map]; omega
      refine k_seq (fun Q K => ?_)
      refine k_lin (fun W K => ?_)
      refine l_op 0 rfl rfl rfl rfl rfl ?_
      refine l_cmp rfl rfl rfl rfl ?_
      refine l_op 0 rfl rfl rfl rfl rfl ?_
      refine l_nil (WK.nx (by assumption) ?_)
      refine SeqK.nx (by assumption) ?_
      refine l_cond rfl rfl (fun hc10 => ?_) (fun hc10 => ?_)
      · replace hc10 := of_decide_eq_true ((irr_eq _).symm.trans hc10)
        refine k_seq (fun Q K => ?_)
        refine k_lin (fun W K => ?_)
        refine l_op 0 rfl rfl rfl rfl rfl ?_
        first | refine l_op 2 rfl rfl rfl rfl rfl ?_ | refine l_ln rfl rfl rfl rfl ?_
        refine l_op 0 rfl rfl rfl rfl rfl ?_
        refine l_op 0 rfl rfl rfl rfl rfl ?_
        refine l_op 0 rfl rfl rfl rfl rfl ?_
        refine l_op 0 rfl rfl rfl rfl rfl ?_
        refine l_nil (WK.nx (by assumption) ?_)
        refine SeqK.nx (by assumption) ?_
        refine k_ret ?_
        refine BlkK.rt (by assumption) ?_
        refine SeqK.rt (by assumption) ?_
        refine BlkK.rt (by assumption) ?_
        refine LoopK.rt (by assumption) ?_
        refine BlkK.rt (by assumption) ?_
        refine SeqK.rt (by assumption) ?_
        refine FunK.rt (by assumption) rfl ?_
        -- leaf 7
        first
        | (refine par_bad (F.pick [] (by decide)) ?_
           unfold parseR; rw [hh0]; simp; done)
        | (refine par_bad (F.pick [] (by decide)) ?_
           rw [goK_eq (by omega), if_pos (by omega), if_pos (by rw [List.length_map]; omega)] at hgo
           rw [parse_go hh hgo.symm]; simp; done)
        | (refine par_bad (F.pick [] (by decide)) (go_bad (by omega) (by omega) hm4 ?_ (by decide) hgo hh)
           unfold chunkE; rw [if_pos (by omega), hbl]; done)
        | (refine par_bad (F.pick [] (by decide)) (go_bad (by omega) (by omega) hm4 ?_ (by decide) hgo hh)
           unfold chunkE; rw [if_neg (by omega), if_pos (by assumption)]; done)
        | (refine par_bad (F.pick [] (by decide)) (go_bad (by omega) (by omega) hm4 ?_ (by decide) hgo hh)
           unfold chunkE; rw [if_neg (by omega), if_neg (by simp_all), if_pos (by omega)]; done)
        | (refine par_bad (F.pick [] (by decide)) (go_bad (by omega) (by omega) hm4 ?_ (by decide) hgo hh)
           unfold chunkE; rw [if_neg (by omega), if_neg (by simp_all), if_neg (by omega), if_pos ⟨by omega, by omega⟩, hbl]; done)
        | (rw [hbe2] at *
           refine par_bad (F.pick [] (by decide)) (go_bad (by omega) (by omega) hm4 ?_ (by decide) hgo hh)
           unfold chunkE; rw [if_neg (by omega), if_neg (by simp_all), if_neg (by omega), if_neg (by omega), if_pos ⟨by omega, by assumption⟩]; done)
        | (rw [goK_eq (by omega), if_neg (by omega)] at hgo
           have hp := parse_go hh hgo.symm
           rw [if_neg (by decide)] at hp
           refine ⟨(strOfNums (List.take (12 - 8) (List.drop 8 bs)), x, m, d, ts), ?_, F, ?_⟩
           · rw [parV, hp, ← hbl]; rfl
           · rw [ParP, hp]
             exact ⟨ltr_str ((hB.drop _).take _), rfl, hbd⟩)
      replace hc10 := of_decide_eq_false ((irr_eq _).symm.trans hc10)
      have hbe2 : (beR bs (p + 4) 4).1 = be bs (p + 4).toNat 4 := by rw [beR_ok ⟨by omega, by omega⟩]
      have hbb2 := be_lt4 hB (p + 4).toNat (k := 4) (by omega)
      have e4 : (p + 4).toNat - p.toNat = 4 := by omega
      refine k_seq (fun Q K => ?_)
      refine k_lin (fun W K => ?_)
      refine l_op 0 rfl rfl rfl rfl rfl ?_
      refine l_op 0 rfl rfl rfl rfl rfl ?_
      refine l_op 0 rfl rfl rfl rfl rfl ?_
      refine l_a64 rfl rfl rfl (by omega) rfl ?_
      first | refine l_sl rfl rfl rfl rfl rfl rfl rfl rfl ⟨rfl, _, _, rfl, by omega, rfl⟩ (F.old (by assumption)) (by omega) ?_ | refine l_sl rfl rfl rfl rfl rfl rfl rfl rfl ⟨rfl, _, _, rfl, by omega, rfl⟩ (F.has 0 rfl) (by omega) ?_ | refine l_sl rfl rfl rfl rfl rfl rfl rfl rfl ⟨rfl, _, _, rfl, by omega, rfl⟩ (F.has 1 rfl) (by omega) ?_ | refine l_sl rfl rfl rfl rfl rfl rfl rfl rfl ⟨rfl, _, _, rfl, by omega, rfl⟩ (F.has 2 rfl) (by omega) ?_ | refine l_sl rfl rfl rfl rfl rfl rfl rfl rfl ⟨rfl, _, _, rfl, by omega, rfl⟩ (F.has 3 rfl) (by omega) ?_
      refine l_str rfl rfl rfl rfl rfl (F.old (hl.part8 (lo := p.toNat) (hi := (p + 4).toNat) (by omega) (by omega))) ?_
      refine l_callp F rfl rfl (by kernel_rfl) rfl rfl (rid_call (by rw [str_size]; simp; omega)) (fun y s F _ => ?_)
      refine l_op 2 rfl rfl rfl rfl rfl ?_
      refine l_op 0 rfl rfl rfl rfl rfl ?_
      refine l_nil (WK.nx (by assumption) ?_)
      refine SeqK.nx (by assumption) ?_
      refine l_cond rfl rfl (fun hc11 => ?_) (fun hc11 => ?_)
      · try simp only [irr_eq, beq_iff_eq, bne_iff_ne, beq_eq_false_iff_ne, bne_eq_false_iff_eq, ne_eq, decide_eq_true_eq, decide_eq_false_iff_not, Bool.not_eq_true', Bool.not_eq_false'] at hc11
        rw [ltr_str ((hB.drop _).take _), e4] at hc11
        refine k_seq (fun Q K => ?_)
        refine k_lin (fun W K => ?_)
        refine l_op 0 rfl rfl rfl rfl rfl ?_
        refine l_op 0 rfl rfl rfl rfl rfl ?_
        refine l_op 0 rfl rfl rfl rfl rfl ?_
        refine l_op 0 rfl rfl rfl rfl rfl ?_
        refine l_op 0 rfl rfl rfl rfl rfl ?_
        refine l_nil (WK.nx (by assumption) ?_)
        refine SeqK.nx (by assumption) ?_
        refine k_ret ?_
        refine BlkK.rt (by assumption) ?_
        refine SeqK.rt (by assumption) ?_
        refine BlkK.rt (by assumption) ?_
        refine LoopK.rt (by assumption) ?_
        refine BlkK.rt (by assumption) ?_
        refine SeqK.rt (by assumption) ?_
        refine FunK.rt (by assumption) rfl ?_
        -- leaf 8
        first
        | (refine par_bad (F.pick [] (by decide)) ?_
           unfold parseR; rw [hh0]; simp; done)
        | (refine par_bad (F.pick [] (by decide)) ?_
           rw [goK_eq (by omega), if_pos (by omega), if_pos (by rw [List.length_map]; omega)] at hgo
           rw [parse_go hh hgo.symm]; simp; done)
        | (refine par_bad (F.pick [] (by decide)) (go_bad (by omega) (by omega) hm4 ?_ (by decide) hgo hh)
           unfold chunkE; rw [if_pos (by omega), hbl]; done)
        | (refine par_bad (F.pick [] (by decide)) (go_bad (by omega) (by omega) hm4 ?_ (by decide) hgo hh)
           unfold chunkE; rw [if_neg (by omega), if_pos (by assumption)]; done)
        | (refine par_bad (F.pick [] (by decide)) (go_bad (by omega) (by omega) hm4 ?_ (by decide) hgo hh)
           unfold chunkE; rw [if_neg (by omega), if_neg (by simp_all), if_pos (by omega)]; done)
        | (refine par_bad (F.pick [] (by decide)) (go_bad (by omega) (by omega) hm4 ?_ (by decide) hgo hh)
           unfold chunkE; rw [if_neg (by omega), if_neg (by simp_all), if_neg (by omega), if_pos ⟨by omega, by omega⟩, hbl]; done)
        | (rw [hbe2] at *
           refine par_bad (F.pick [] (by decide)) (go_bad (by omega) (by omega) hm4 ?_ (by decide) hgo hh)
           unfold chunkE; rw [if_neg (by omega), if_neg (by simp_all), if_neg (by omega), if_neg (by omega), if_pos ⟨by omega, by assumption⟩]; done)
        | (rw [goK_eq (by omega), if_neg (by omega)] at hgo
           have hp := parse_go hh hgo.symm
           rw [if_neg (by decide)] at hp
           refine ⟨(strOfNums (List.take (12 - 8) (List.drop 8 bs)), x, m, d, ts), ?_, F, ?_⟩
           · rw [parV, hp, ← hbl]; rfl
           · rw [ParP, hp]
             exact ⟨ltr_str ((hB.drop _).take _), rfl, hbd⟩)
      try simp only [irr_eq, beq_iff_eq, bne_iff_ne, beq_eq_false_iff_ne, bne_eq_false_iff_eq, ne_eq, decide_eq_true_eq, decide_eq_false_iff_not, Bool.not_eq_true', Bool.not_eq_false'] at hc11
      rw [ltr_str ((hB.drop _).take _), e4] at hc11
      refine k_seq (fun Q K => ?_)
      refine k_lin (fun W K => ?_)
      refine l_op 0 rfl rfl rfl rfl rfl ?_
      refine l_op 0 rfl rfl rfl rfl rfl ?_
      refine l_a64 rfl rfl rfl (by omega) rfl ?_
      refine l_callp F rfl rfl (by kernel_rfl) rfl rfl (number_call (p := p + 4) (Old.pure (F.old hl)) hB (by omega)) (fun y s F _ => ?_)
      refine l_op 0 rfl rfl rfl rfl rfl ?_
      refine l_a64 rfl rfl rfl (by omega) rfl ?_
      refine l_cmp rfl rfl rfl rfl ?_
      refine l_op 0 rfl rfl rfl rfl rfl ?_
      refine l_nil (WK.nx (by assumption) ?_)
      refine SeqK.nx (by assumption) ?_
      refine l_cond rfl rfl (fun hc12 => ?_) (fun hc12 => ?_)
      · replace hc12 := of_decide_eq_true ((irr_eq _).symm.trans hc12)
        refine k_seq (fun Q K => ?_)
        refine k_lin (fun W K => ?_)
        refine l_op 0 rfl rfl rfl rfl rfl ?_
        refine l_a64 rfl rfl rfl (by omega) rfl ?_
        refine l_op 0 rfl rfl rfl rfl rfl ?_
        refine l_op 0 rfl rfl rfl rfl rfl ?_
        refine l_op 0 rfl rfl rfl rfl rfl ?_
        refine l_op 0 rfl rfl rfl rfl rfl ?_
        refine l_nil (WK.nx (by assumption) ?_)
        refine SeqK.nx (by assumption) ?_
        refine k_ret ?_
        refine BlkK.rt (by assumption) ?_
        refine SeqK.rt (by assumption) ?_
        refine BlkK.rt (by assumption) ?_
        refine LoopK.rt (by assumption) ?_
        refine BlkK.rt (by assumption) ?_
        refine SeqK.rt (by assumption) ?_
        refine FunK.rt (by assumption) rfl ?_
        -- leaf 9
        first
        | (refine par_bad (F.pick [] (by decide)) ?_
           unfold parseR; rw [hh0]; simp; done)
        | (refine par_bad (F.pick [] (by decide)) ?_
           rw [goK_eq (by omega), if_pos (by omega), if_pos (by rw [List.length_map]; omega)] at hgo
           rw [parse_go hh hgo.symm]; simp; done)
        | (refine par_bad (F.pick [] (by decide)) (go_bad (by omega) (by omega) hm4 ?_ (by decide) hgo hh)
           unfold chunkE; rw [if_pos (by omega), hbl]; done)
        | (refine par_bad (F.pick [] (by decide)) (go_bad (by omega) (by omega) hm4 ?_ (by decide) hgo hh)
           unfold chunkE; rw [if_neg (by omega), if_pos (by assumption)]; done)
        | (refine par_bad (F.pick [] (by decide)) (go_bad (by omega) (by omega) hm4 ?_ (by decide) hgo hh)
           unfold chunkE; rw [if_neg (by omega), if_neg (by simp_all), if_pos (by omega)]; done)
        | (refine par_bad (F.pick [] (by decide)) (go_bad (by omega) (by omega) hm4 ?_ (by decide) hgo hh)
           unfold chunkE; rw [if_neg (by omega), if_neg (by simp_all), if_neg (by omega), if_pos ⟨by omega, by omega⟩, hbl]; done)
        | (rw [hbe2] at *
           refine par_bad (F.pick [] (by decide)) (go_bad (by omega) (by omega) hm4 ?_ (by decide) hgo hh)
           unfold chunkE; rw [if_neg (by omega), if_neg (by simp_all), if_neg (by omega), if_neg (by omega), if_pos ⟨by omega, by assumption⟩]; done)
        | (rw [goK_eq (by omega), if_neg (by omega)] at hgo
           have hp := parse_go hh hgo.symm
           rw [if_neg (by decide)] at hp
           refine ⟨(strOfNums (List.take (12 - 8) (List.drop 8 bs)), x, m, d, ts), ?_, F, ?_⟩
           · rw [parV, hp, ← hbl]; rfl
           · rw [ParP, hp]
             exact ⟨ltr_str ((hB.drop _).take _), rfl, hbd⟩)
      replace hc12 := of_decide_eq_false ((irr_eq _).symm.trans hc12)
      refine k_skip ?_
      refine BlkK.nx (by assumption) ?_
      refine SeqK.nx (by assumption) ?_
      refine k_seq (fun Q K => ?_)
      refine k_lin (fun W K => ?_)
      refine l_op 0 rfl rfl rfl rfl rfl ?_
      refine l_op 0 rfl rfl rfl rfl rfl ?_
      refine l_a64 rfl rfl rfl (by omega) rfl ?_
      refine l_callp F rfl rfl (by kernel_rfl) rfl rfl (number_call (p := p + 4) (Old.pure (F.old hl)) hB (by omega)) (fun y s F _ => ?_)
      refine l_op 0 rfl rfl rfl rfl rfl ?_
      refine l_nil (WK.nx (by assumption) ?_)
      refine SeqK.nx (by assumption) ?_
      refine k_seq (fun Q K => ?_)
      refine k_seq (fun Q K => ?_)
      refine k_lin (fun W K => ?_)
      refine l_op 0 rfl rfl rfl rfl rfl ?_
      first | refine l_remn rfl rfl rfl rfl rfl (by omega) rfl ?_ | refine l_rem rfl rfl rfl rfl rfl (by omega) rfl ?_
      refine l_cmp rfl rfl rfl rfl ?_
      refine l_op 0 rfl rfl rfl rfl rfl ?_
      refine l_guard rfl rfl rfl (fun hc13 => ?_) (fun hc13 => ?_)
      · first | replace hc13 := eq_of_beq ((irr_eq _).symm.trans hc13) | simp only [irr_eq, beq_iff_eq, beq_eq_false_iff_ne, ne_eq, decide_eq_true_eq, decide_eq_false_iff_not] at hc13
        refine l_op 0 rfl rfl rfl rfl rfl ?_
        refine l_op 0 rfl rfl rfl rfl rfl ?_
        refine l_a64 rfl rfl rfl (by omega) rfl ?_
        refine l_cmp rfl rfl rfl rfl ?_
        refine l_op 2 rfl rfl rfl rfl rfl ?_
        refine l_nil (WK.nx (by assumption) ?_)
        refine SeqK.nx (by assumption) ?_
        refine l_cond rfl rfl (fun hc14 => ?_) (fun hc14 => ?_)
        · first | replace hc14 := eq_of_beq ((irr_eq _).symm.trans hc14) | simp only [irr_eq, beq_iff_eq, beq_eq_false_iff_ne, ne_eq, decide_eq_true_eq, decide_eq_false_iff_not] at hc14
          refine k_seq (fun Q K => ?_)
          refine k_lin (fun W K => ?_)
          refine l_op 0 rfl rfl rfl rfl rfl ?_
          first | refine l_op 2 rfl rfl rfl rfl rfl ?_ | refine l_ln rfl rfl rfl rfl ?_
          refine l_op 0 rfl rfl rfl rfl rfl ?_
          refine l_op 0 rfl rfl rfl rfl rfl ?_
          refine l_op 0 rfl rfl rfl rfl rfl ?_
          refine l_op 0 rfl rfl rfl rfl rfl ?_
          refine l_nil (WK.nx (by assumption) ?_)
          refine SeqK.nx (by assumption) ?_
          refine k_ret ?_
          refine SeqK.rt (by assumption) ?_
          refine BlkK.rt (by assumption) ?_
          refine LoopK.rt (by assumption) ?_
          refine BlkK.rt (by assumption) ?_
          refine SeqK.rt (by assumption) ?_
          refine FunK.rt (by assumption) rfl ?_
          -- leaf 10
          first
          | (refine par_bad (F.pick [] (by decide)) ?_
             unfold parseR; rw [hh0]; simp; done)
          | (refine par_bad (F.pick [] (by decide)) ?_
             rw [goK_eq (by omega), if_pos (by omega), if_pos (by rw [List.length_map]; omega)] at hgo
             rw [parse_go hh hgo.symm]; simp; done)
          | (refine par_bad (F.pick [] (by decide)) (go_bad (by omega) (by omega) hm4 ?_ (by decide) hgo hh)
             unfold chunkE; rw [if_pos (by omega), hbl]; done)
          | (refine par_bad (F.pick [] (by decide)) (go_bad (by omega) (by omega) hm4 ?_ (by decide) hgo hh)
             unfold chunkE; rw [if_neg (by omega), if_pos (by assumption)]; done)
          | (refine par_bad (F.pick [] (by decide)) (go_bad (by omega) (by omega) hm4 ?_ (by decide) hgo hh)
             unfold chunkE; rw [if_neg (by omega), if_neg (by simp_all), if_pos (by omega)]; done)
          | (refine par_bad (F.pick [] (by decide)) (go_bad (by omega) (by omega) hm4 ?_ (by decide) hgo hh)
             unfold chunkE; rw [if_neg (by omega), if_neg (by simp_all), if_neg (by omega), if_pos ⟨by omega, by omega⟩, hbl]; done)
          | (rw [hbe2] at *
             refine par_bad (F.pick [] (by decide)) (go_bad (by omega) (by omega) hm4 ?_ (by decide) hgo hh)
             unfold chunkE; rw [if_neg (by omega), if_neg (by simp_all), if_neg (by omega), if_neg (by omega), if_pos ⟨by omega, by assumption⟩]; done)
          | (rw [goK_eq (by omega), if_neg (by omega)] at hgo
             have hp := parse_go hh hgo.symm
             rw [if_neg (by decide)] at hp
             refine ⟨(strOfNums (List.take (12 - 8) (List.drop 8 bs)), x, m, d, ts), ?_, F, ?_⟩
             · rw [parV, hp, ← hbl]; rfl
             · rw [ParP, hp]
               exact ⟨ltr_str ((hB.drop _).take _), rfl, hbd⟩)
        first | replace hc14 := ne_of_beq_false ((irr_eq _).symm.trans hc14) | simp only [irr_eq, beq_iff_eq, beq_eq_false_iff_ne, ne_eq, decide_eq_true_eq, decide_eq_false_iff_not] at hc14
        refine k_skip ?_
        refine SeqK.nx (by assumption) ?_
        refine k_seq (fun Q K => ?_)
        refine k_seq (fun Q K => ?_)
        refine k_lin (fun W K => ?_)
        refine l_op 0 rfl rfl rfl rfl rfl ?_
        first | refine l_remn rfl rfl rfl rfl rfl (by omega) rfl ?_ | refine l_rem rfl rfl rfl rfl rfl (by omega) rfl ?_
        refine l_cmp rfl rfl rfl rfl ?_
        refine l_op 0 rfl rfl rfl rfl rfl ?_
        refine l_guard rfl rfl rfl (fun hc15 => ?_) (fun hc15 => ?_)
        · first | replace hc15 := eq_of_beq ((irr_eq _).symm.trans hc15) | simp only [irr_eq, beq_iff_eq, beq_eq_false_iff_ne, ne_eq, decide_eq_true_eq, decide_eq_false_iff_not] at hc15
          refine l_op 0 rfl rfl rfl rfl rfl ?_
          refine l_op 0 rfl rfl rfl rfl rfl ?_
          refine l_a64 rfl rfl rfl (by omega) rfl ?_
          refine l_op 0 rfl rfl rfl rfl rfl ?_
          refine l_a64 rfl rfl rfl (by omega) rfl ?_
          first | refine l_ixi rfl rfl rfl rfl rfl rfl (F.old (by assumption)) (by omega) (fun m112 b112 hA112 => ?_) | (refine l_ixoi F 0 rfl rfl rfl rfl rfl rfl rfl (by omega) (fun m e ha hA112 => ?_); cases ha) | (refine l_ixoi F 1 rfl rfl rfl rfl rfl rfl rfl (by omega) (fun m e ha hA112 => ?_); cases ha) | (refine l_ixoi F 2 rfl rfl rfl rfl rfl rfl rfl (by omega) (fun m e ha hA112 => ?_); cases ha) | (refine l_ixoi F 3 rfl rfl rfl rfl rfl rfl rfl (by omega) (fun m e ha hA112 => ?_); cases ha)
          refine l_ld0 rfl rfl rfl rfl rfl (by assumption) ?_
          refine l_cmp rfl rfl rfl rfl ?_
          refine l_op 2 rfl rfl rfl rfl rfl ?_
          refine l_nil (WK.nx (by assumption) ?_)
          refine SeqK.nx (by assumption) ?_
          refine l_cond rfl rfl (fun hc16 => ?_) (fun hc16 => ?_)
          · first | replace hc16 := bne_iff_ne.1 ((irr_eq _).symm.trans hc16) | simp only [irr_eq, bne_iff_ne, bne_eq_false_iff_eq, ne_eq, decide_eq_true_eq, decide_eq_false_iff_not, Bool.not_eq_true', Bool.not_eq_false'] at hc16
            refine k_seq (fun Q K => ?_)
            refine k_lin (fun W K => ?_)
            refine l_op 0 rfl rfl rfl rfl rfl ?_
            refine l_a64 rfl rfl rfl (by omega) rfl ?_
            refine l_op 0 rfl rfl rfl rfl rfl ?_
            refine l_a64 rfl rfl rfl (by omega) rfl ?_
            refine l_op 0 rfl rfl rfl rfl rfl ?_
            refine l_op 0 rfl rfl rfl rfl rfl ?_
            refine l_op 0 rfl rfl rfl rfl rfl ?_
            refine l_op 0 rfl rfl rfl rfl rfl ?_
            refine l_nil (WK.nx (by assumption) ?_)
            refine SeqK.nx (by assumption) ?_
            refine k_ret ?_
            refine SeqK.rt (by assumption) ?_
            refine BlkK.rt (by assumption) ?_
            refine LoopK.rt (by assumption) ?_
            refine BlkK.rt (by assumption) ?_
            refine SeqK.rt (by assumption) ?_
            refine FunK.rt (by assumption) rfl ?_
            -- leaf 11
            first
            | (refine par_bad (F.pick [] (by decide)) ?_
               unfold parseR; rw [hh0]; simp; done)
            | (refine par_bad (F.pick [] (by decide)) ?_
               rw [goK_eq (by omega), if_pos (by omega), if_pos (by rw [List.length_map]; omega)] at hgo
               rw [parse_go hh hgo.symm]; simp; done)
            | (refine par_bad (F.pick [] (by decide)) (go_bad (by omega) (by omega) hm4 ?_ (by decide) hgo hh)
               unfold chunkE; rw [if_pos (by omega), hbl]; done)
            | (refine par_bad (F.pick [] (by decide)) (go_bad (by omega) (by omega) hm4 ?_ (by decide) hgo hh)
               unfold chunkE; rw [if_neg (by omega), if_pos (by assumption)]; done)
            | (refine par_bad (F.pick [] (by decide)) (go_bad (by omega) (by omega) hm4 ?_ (by decide) hgo hh)
               unfold chunkE; rw [if_neg (by omega), if_neg (by simp_all), if_pos (by omega)]; done)
            | (refine par_bad (F.pick [] (by decide)) (go_bad (by omega) (by omega) hm4 ?_ (by decide) hgo hh)
               unfold chunkE; rw [if_neg (by omega), if_neg (by simp_all), if_neg (by omega), if_pos ⟨by omega, by omega⟩, hbl]; done)
            | (rw [hbe2] at *
               refine par_bad (F.pick [] (by decide)) (go_bad (by omega) (by omega) hm4 ?_ (by decide) hgo hh)
               unfold chunkE; rw [if_neg (by omega), if_neg (by simp_all), if_neg (by omega), if_neg (by omega), if_pos ⟨by omega, by assumption⟩]; done)
            | (rw [goK_eq (by omega), if_neg (by omega)] at hgo
               have hp := parse_go hh hgo.symm
               rw [if_neg (by decide)] at hp
               refine ⟨(strOfNums (List.take (12 - 8) (List.drop 8 bs)), x, m, d, ts), ?_, F, ?_⟩
               · rw [parV, hp, ← hbl]; rfl
               · rw [ParP, hp]
                 exact ⟨ltr_str ((hB.drop _).take _), rfl, hbd⟩)
          first | replace hc16 := bne_eq_false_iff_eq.1 ((irr_eq _).symm.trans hc16) | simp only [irr_eq, bne_iff_ne, bne_eq_false_iff_eq, ne_eq, decide_eq_true_eq, decide_eq_false_iff_not, Bool.not_eq_true', Bool.not_eq_false'] at hc16
          refine k_skip ?_
          refine SeqK.nx (by assumption) ?_
          refine k_seq (fun Q K => ?_)
          refine k_linm [0, 1, 2, 3, 4, 5, 8, 9, 10, 11, 12, 13, 14, 15, 6, 7, 16, 17, 18, 19, 20] mixed (by kernel_rfl) (fun W K => ?_)
          try have hpS := F.pns
          refine l_op 0 rfl rfl rfl rfl rfl ?_
          refine l_op 0 rfl rfl rfl rfl rfl ?_
          refine l_op 0 rfl rfl rfl rfl rfl ?_
          refine l_op 0 rfl rfl rfl rfl rfl ?_
          refine l_a64 rfl rfl rfl (by omega) rfl ?_
          first | refine l_sl rfl rfl rfl rfl rfl rfl rfl rfl ⟨rfl, _, _, rfl, by omega, rfl⟩ (F.old (by assumption)) (by omega) ?_ | refine l_sl rfl rfl rfl rfl rfl rfl rfl rfl ⟨rfl, _, _, rfl, by omega, rfl⟩ (F.has 0 rfl) (by omega) ?_ | refine l_sl rfl rfl rfl rfl rfl rfl rfl rfl ⟨rfl, _, _, rfl, by omega, rfl⟩ (F.has 1 rfl) (by omega) ?_ | refine l_sl rfl rfl rfl rfl rfl rfl rfl rfl ⟨rfl, _, _, rfl, by omega, rfl⟩ (F.has 2 rfl) (by omega) ?_ | refine l_sl rfl rfl rfl rfl rfl rfl rfl rfl ⟨rfl, _, _, rfl, by omega, rfl⟩ (F.has 3 rfl) (by omega) ?_
          refine l_op 0 rfl rfl rfl rfl rfl ?_
          refine l_op 0 rfl rfl rfl rfl rfl ?_
          refine l_a64 rfl rfl rfl (by omega) rfl ?_
          refine l_op 0 rfl rfl rfl rfl rfl ?_
          refine l_a64 rfl rfl rfl (by omega) rfl ?_
          refine l_op 0 rfl rfl rfl rfl rfl ?_
          refine l_a64 rfl rfl rfl (by omega) rfl ?_
          first | refine l_sl rfl rfl rfl rfl rfl rfl rfl rfl ⟨rfl, _, _, rfl, by omega, rfl⟩ (F.old (by assumption)) (by omega) ?_ | refine l_sl rfl rfl rfl rfl rfl rfl rfl rfl ⟨rfl, _, _, rfl, by omega, rfl⟩ (F.has 0 rfl) (by omega) ?_ | refine l_sl rfl rfl rfl rfl rfl rfl rfl rfl ⟨rfl, _, _, rfl, by omega, rfl⟩ (F.has 1 rfl) (by omega) ?_ | refine l_sl rfl rfl rfl rfl rfl rfl rfl rfl ⟨rfl, _, _, rfl, by omega, rfl⟩ (F.has 2 rfl) (by omega) ?_ | refine l_sl rfl rfl rfl rfl rfl rfl rfl rfl ⟨rfl, _, _, rfl, by omega, rfl⟩ (F.has 3 rfl) (by omega) ?_
          have hE : chunkE bs p = (0, 0) := by
            unfold chunkE
            rw [if_neg (by omega), if_neg (by simp_all), if_neg (by omega), if_neg (by omega), if_neg ?_]
            rintro ⟨q1, q2⟩
            rw [← hbe2] at q1 q2
            first | exact q2 (by assumption) | exact absurd q1 (by assumption)
          refine l_strm F (hl.part8 (lo := p.toNat) (hi := (p + 4).toNat) (by omega) (by omega)) (.inr (by omega)) rfl rfl rfl rfl rfl (fun pn' hpn => ?_)
          have hpS := hpn hpS
          have hs := stepP_bd hB (bs := bs) (p := p) (by rw [hE])
          have hL := chunkI_len hB (p := p) (by omega) (by rw [hE])
          have hbI := chunkI_bytes hB p
          refine l_lit F rfl rfl rfl rfl (fun q127 s F => ?_)
          (try dsimp only [n_1, n_2, n_3, n_4, List.append_nil, pk, n_5, n_6] at F)
          refine l_appi (xs := []) F 2 rfl rfl rfl rfl rfl rfl rfl (F.old (hl.part8 (lo := (p + 8).toNat) (hi := (p + 8 + (beR bs (p + 4) 4).1).toNat) (by omega) (by omega))) rfl (by omega) hD (fun x3 c3 s F => ?_)
          (try dsimp only [n_1, n_2, n_3, n_4, List.append_nil, pk, n_5, n_6] at F)
          refine l_bld rfl rfl rfl rfl ?_
          refine l_lit F rfl rfl rfl rfl (fun q138 s F => ?_)
          (try dsimp only [n_1, n_2, n_3, n_4, List.append_nil, pk, n_5, n_6] at F)
          refine l_app (es := 2) F 1 rfl rfl rfl rfl rfl rfl rfl (F.has 3 rfl) rfl rfl (by omega) hD (fun x2 c2 s F => ?_)
          (try dsimp only [n_1, n_2, n_3, n_4, List.append_nil, pk, n_5, n_6] at F)
          refine l_op 0 rfl rfl rfl rfl rfl ?_
          refine l_nil (WK.nx (by assumption) ?_)
          refine SeqK.nx (by assumption) ?_
          refine k_lin (fun W K => ?_)
          refine l_op 0 rfl rfl rfl rfl rfl ?_
          refine l_a64 rfl rfl rfl (by omega) rfl ?_
          refine l_op 0 rfl rfl rfl rfl rfl ?_
          refine l_a64 rfl rfl rfl (by omega) rfl ?_
          refine l_op 0 rfl rfl rfl rfl rfl ?_
          first | refine l_remn rfl rfl rfl rfl rfl (by omega) rfl ?_ | refine l_rem rfl rfl rfl rfl rfl (by omega) rfl ?_
          refine l_a64 rfl rfl rfl (by omega) rfl ?_
          refine l_op 0 rfl rfl rfl rfl rfl ?_
          refine l_nil (WK.nx (by assumption) ?_)
          refine BlkK.nx (by assumption) ?_
          have ed : (p + 8 + (beR bs (p + 4) 4).1).toNat - (p + 8).toNat = (be bs (p + 4).toNat 4).toNat := by omega
          have hstep : stepP bs p = p + 8 + (beR bs (p + 4) 4).1 + (beR bs (p + 4) 4).1 % 2 := by unfold stepP; omega
          have F9 := (F.pick [0, 2, 1] (by decide)).join
          have hI : plK ⟨strOfNums (List.take ((p + 4).toNat - p.toNat) (List.drop p.toNat bs)), x3, 0 + ((p + 8 + (beR bs (p + 4) 4).1).toNat - (p + 8).toNat), c3, List.take ((p + 8 + (beR bs (p + 4) 4).1).toNat - (p + 8).toNat) (List.drop (p + 8).toNat bs)⟩ = chunkI bs p := by
            show (ltr _, _) = _
            rw [ltr_str ((hB.drop _).take _), e4, ed]
            rfl
          have hgo2 := hgo
          rw [goK_eq (by omega), if_pos (by omega), if_neg hm4, if_neg (by rw [hE]; decide), ← hI] at hgo2
          refine K0.nx (_, x2, m + 1, c2, ts ++ [⟨strOfNums (List.take ((p + 4).toNat - p.toNat) (List.drop p.toNat bs)), x3, 0 + ((p + 8 + (beR bs (p + 4) 4).1).toNat - (p + 8).toNat), c3, List.take ((p + 8 + (beR bs (p + 4) 4).1).toNat - (p + 8).toNat) (List.drop (p + 8).toNat bs)⟩], k - 1) (by repeat (first | exact trivial | refine And.intro rfl ?_)) ⟨?_, by omega, by omega, by omega, ?_, ?_, by omega, by omega⟩ (by first | omega | (simp only; omega))
          · rw [List.map_append, rows_append]; exact F9
          · intro t ht
            rcases List.mem_append.1 ht with ht | ht
            · exact hbd t ht
            · rw [List.mem_singleton.1 ht]
              refine ⟨(hB.drop _).take _, by simp only; omega, ?_⟩
              simp only
              rw [str_size]
              have := hL.1
              unfold chunkI at this
              rw [e4]; exact this
          · rw [List.map_append, ← hstep]; exact hgo2
        first | replace hc15 := ne_of_beq_false ((irr_eq _).symm.trans hc15) | simp only [irr_eq, beq_iff_eq, beq_eq_false_iff_ne, ne_eq, decide_eq_true_eq, decide_eq_false_iff_not] at hc15
        exact absurd (by assumption) hc15
      first | replace hc13 := ne_of_beq_false ((irr_eq _).symm.trans hc13) | simp only [irr_eq, beq_iff_eq, beq_eq_false_iff_ne, ne_eq, decide_eq_true_eq, decide_eq_false_iff_not] at hc13
      refine l_s rfl rfl ?_
      refine l_s rfl rfl ?_
      refine l_s rfl rfl ?_
      refine l_s rfl rfl ?_
      refine l_op 2 rfl rfl rfl rfl rfl ?_
      refine l_nil (WK.nx (by assumption) ?_)
      refine SeqK.nx (by assumption) ?_
      first | refine e_cond_f rfl rfl rfl ?_ | refine e_cond_f rfl rfl (by rw [irr_eq]; first | exact beq_eq_false_iff_ne.2 (by assumption) | exact decide_eq_false (by assumption) | exact bne_eq_false_iff_eq.2 (by assumption)) ?_
      refine k_skip ?_
      refine SeqK.nx (by assumption) ?_
      refine k_seq (fun Q K => ?_)
      refine k_seq (fun Q K => ?_)
      refine k_lin (fun W K => ?_)
      refine l_op 0 rfl rfl rfl rfl rfl ?_
      first | refine l_remn rfl rfl rfl rfl rfl (by omega) rfl ?_ | refine l_rem rfl rfl rfl rfl rfl (by omega) rfl ?_
      refine l_cmp rfl rfl rfl rfl ?_
      refine l_op 0 rfl rfl rfl rfl rfl ?_
      refine l_guard rfl rfl rfl (fun hc17 => ?_) (fun hc17 => ?_)
      · first | replace hc17 := eq_of_beq ((irr_eq _).symm.trans hc17) | simp only [irr_eq, beq_iff_eq, beq_eq_false_iff_ne, ne_eq, decide_eq_true_eq, decide_eq_false_iff_not] at hc17
        exact absurd hc17 (by assumption)
      first | replace hc17 := ne_of_beq_false ((irr_eq _).symm.trans hc17) | simp only [irr_eq, beq_iff_eq, beq_eq_false_iff_ne, ne_eq, decide_eq_true_eq, decide_eq_false_iff_not] at hc17
      refine l_s rfl rfl ?_
      refine l_s rfl rfl ?_
      refine l_s rfl rfl ?_
      refine l_s rfl rfl ?_
      refine l_s rfl rfl ?_
      refine l_s rfl rfl ?_
      refine l_s rfl rfl ?_
      refine l_s rfl rfl ?_
      refine l_op 2 rfl rfl rfl rfl rfl ?_
      refine l_nil (WK.nx (by assumption) ?_)
      refine SeqK.nx (by assumption) ?_
      first | refine e_cond_f rfl rfl rfl ?_ | refine e_cond_f rfl rfl (by rw [irr_eq]; first | exact beq_eq_false_iff_ne.2 (by assumption) | exact decide_eq_false (by assumption) | exact bne_eq_false_iff_eq.2 (by assumption)) ?_
      refine k_skip ?_
      refine SeqK.nx (by assumption) ?_
      refine k_seq (fun Q K => ?_)
      refine k_linm [0, 1, 2, 3, 4, 5, 8, 9, 10, 11, 12, 13, 14, 15, 6, 7, 16, 17, 18, 19, 20] mixed (by kernel_rfl) (fun W K => ?_)
      try have hpS := F.pns
      refine l_op 0 rfl rfl rfl rfl rfl ?_
      refine l_op 0 rfl rfl rfl rfl rfl ?_
      refine l_op 0 rfl rfl rfl rfl rfl ?_
      refine l_op 0 rfl rfl rfl rfl rfl ?_
      refine l_a64 rfl rfl rfl (by omega) rfl ?_
      first | refine l_sl rfl rfl rfl rfl rfl rfl rfl rfl ⟨rfl, _, _, rfl, by omega, rfl⟩ (F.old (by assumption)) (by omega) ?_ | refine l_sl rfl rfl rfl rfl rfl rfl rfl rfl ⟨rfl, _, _, rfl, by omega, rfl⟩ (F.has 0 rfl) (by omega) ?_ | refine l_sl rfl rfl rfl rfl rfl rfl rfl rfl ⟨rfl, _, _, rfl, by omega, rfl⟩ (F.has 1 rfl) (by omega) ?_ | refine l_sl rfl rfl rfl rfl rfl rfl rfl rfl ⟨rfl, _, _, rfl, by omega, rfl⟩ (F.has 2 rfl) (by omega) ?_ | refine l_sl rfl rfl rfl rfl rfl rfl rfl rfl ⟨rfl, _, _, rfl, by omega, rfl⟩ (F.has 3 rfl) (by omega) ?_
      refine l_op 0 rfl rfl rfl rfl rfl ?_
      refine l_op 0 rfl rfl rfl rfl rfl ?_
      refine l_a64 rfl rfl rfl (by omega) rfl ?_
      refine l_op 0 rfl rfl rfl rfl rfl ?_
      refine l_a64 rfl rfl rfl (by omega) rfl ?_
      refine l_op 0 rfl rfl rfl rfl rfl ?_
      refine l_a64 rfl rfl rfl (by omega) rfl ?_
      first | refine l_sl rfl rfl rfl rfl rfl rfl rfl rfl ⟨rfl, _, _, rfl, by omega, rfl⟩ (F.old (by assumption)) (by omega) ?_ | refine l_sl rfl rfl rfl rfl rfl rfl rfl rfl ⟨rfl, _, _, rfl, by omega, rfl⟩ (F.has 0 rfl) (by omega) ?_ | refine l_sl rfl rfl rfl rfl rfl rfl rfl rfl ⟨rfl, _, _, rfl, by omega, rfl⟩ (F.has 1 rfl) (by omega) ?_ | refine l_sl rfl rfl rfl rfl rfl rfl rfl rfl ⟨rfl, _, _, rfl, by omega, rfl⟩ (F.has 2 rfl) (by omega) ?_ | refine l_sl rfl rfl rfl rfl rfl rfl rfl rfl ⟨rfl, _, _, rfl, by omega, rfl⟩ (F.has 3 rfl) (by omega) ?_
      have hE : chunkE bs p = (0, 0) := by
        unfold chunkE
        rw [if_neg (by omega), if_neg (by simp_all), if_neg (by omega), if_neg (by omega), if_neg ?_]
        rintro ⟨q1, q2⟩
        rw [← hbe2] at q1 q2
        first | exact q2 (by assumption) | exact absurd q1 (by assumption)
      refine l_strm F (hl.part8 (lo := p.toNat) (hi := (p + 4).toNat) (by omega) (by omega)) (.inr (by omega)) rfl rfl rfl rfl rfl (fun pn' hpn => ?_)
      have hpS := hpn hpS
      have hs := stepP_bd hB (bs := bs) (p := p) (by rw [hE])
      have hL := chunkI_len hB (p := p) (by omega) (by rw [hE])
      have hbI := chunkI_bytes hB p
      refine l_lit F rfl rfl rfl rfl (fun q127 s F => ?_)
      (try dsimp only [n_1, n_2, n_3, n_4, List.append_nil, pk, n_5, n_6] at F)
      refine l_appi (xs := []) F 2 rfl rfl rfl rfl rfl rfl rfl (F.old (hl.part8 (lo := (p + 8).toNat) (hi := (p + 8 + (beR bs (p + 4) 4).1).toNat) (by omega) (by omega))) rfl (by omega) hD (fun x3 c3 s F => ?_)
      (try dsimp only [n_1, n_2, n_3, n_4, List.append_nil, pk, n_5, n_6] at F)
      refine l_bld rfl rfl rfl rfl ?_
      refine l_lit F rfl rfl rfl rfl (fun q138 s F => ?_)
      (try dsimp only [n_1, n_2, n_3, n_4, List.append_nil, pk, n_5, n_6] at F)
      refine l_app (es := 2) F 1 rfl rfl rfl rfl rfl rfl rfl (F.has 3 rfl) rfl rfl (by omega) hD (fun x2 c2 s F => ?_)
      (try dsimp only [n_1, n_2, n_3, n_4, List.append_nil, pk, n_5, n_6] at F)
      refine l_op 0 rfl rfl rfl rfl rfl ?_
      refine l_nil (WK.nx (by assumption) ?_)
      refine SeqK.nx (by assumption) ?_
      refine k_lin (fun W K => ?_)
      refine l_op 0 rfl rfl rfl rfl rfl ?_
      refine l_a64 rfl rfl rfl (by omega) rfl ?_
      refine l_op 0 rfl rfl rfl rfl rfl ?_
      refine l_a64 rfl rfl rfl (by omega) rfl ?_
      refine l_op 0 rfl rfl rfl rfl rfl ?_
      first | refine l_remn rfl rfl rfl rfl rfl (by omega) rfl ?_ | refine l_rem rfl rfl rfl rfl rfl (by omega) rfl ?_
      refine l_a64 rfl rfl rfl (by omega) rfl ?_
      refine l_op 0 rfl rfl rfl rfl rfl ?_
      refine l_nil (WK.nx (by assumption) ?_)
      refine BlkK.nx (by assumption) ?_
      have ed : (p + 8 + (beR bs (p + 4) 4).1).toNat - (p + 8).toNat = (be bs (p + 4).toNat 4).toNat := by omega
      have hstep : stepP bs p = p + 8 + (beR bs (p + 4) 4).1 + (beR bs (p + 4) 4).1 % 2 := by unfold stepP; omega
      have F9 := (F.pick [0, 2, 1] (by decide)).join
      have hI : plK ⟨strOfNums (List.take ((p + 4).toNat - p.toNat) (List.drop p.toNat bs)), x3, 0 + ((p + 8 + (beR bs (p + 4) 4).1).toNat - (p + 8).toNat), c3, List.take ((p + 8 + (beR bs (p + 4) 4).1).toNat - (p + 8).toNat) (List.drop (p + 8).toNat bs)⟩ = chunkI bs p := by
        show (ltr _, _) = _
        rw [ltr_str ((hB.drop _).take _), e4, ed]
        rfl
      have hgo2 := hgo
      rw [goK_eq (by omega), if_pos (by omega), if_neg hm4, if_neg (by rw [hE]; decide), ← hI] at hgo2
      refine K0.nx (_, x2, m + 1, c2, ts ++ [⟨strOfNums (List.take ((p + 4).toNat - p.toNat) (List.drop p.toNat bs)), x3, 0 + ((p + 8 + (beR bs (p + 4) 4).1).toNat - (p + 8).toNat), c3, List.take ((p + 8 + (beR bs (p + 4) 4).1).toNat - (p + 8).toNat) (List.drop (p + 8).toNat bs)⟩], k - 1) (by repeat (first | exact trivial | refine And.intro rfl ?_)) ⟨?_, by omega, by omega, by omega, ?_, ?_, by omega, by omega⟩ (by first | omega | (simp only; omega))
      · rw [List.map_append, rows_append]; exact F9
      · intro t ht
        rcases List.mem_append.1 ht with ht | ht
        · exact hbd t ht
        · rw [List.mem_singleton.1 ht]
          refine ⟨(hB.drop _).take _, by simp only; omega, ?_⟩
          simp only
          rw [str_size]
          have := hL.1
          unfold chunkI at this
          rw [e4]; exact this
      · rw [List.map_append, ← hstep]; exact hgo2
    first | replace hc8 := bne_eq_false_iff_eq.1 ((irr_eq _).symm.trans hc8) | simp only [irr_eq, bne_iff_ne, bne_eq_false_iff_eq, ne_eq, decide_eq_true_eq, decide_eq_false_iff_not, Bool.not_eq_true', Bool.not_eq_false'] at hc8
    refine k_exit ?_
    refine SeqK.et (by assumption) ?_
    refine LoopK.et (by assumption) ?_
    refine BlkK.et (by assumption) ?_
    refine SeqK.nx (by assumption) ?_
    refine k_seq (fun Q K => ?_)
    refine k_lin (fun W K => ?_)
    refine l_op 0 rfl rfl rfl rfl rfl ?_
    first | refine l_sl rfl rfl rfl rfl rfl rfl rfl rfl ⟨rfl, _, _, rfl, by omega, rfl⟩ (F.old (by assumption)) (by omega) ?_ | refine l_sl rfl rfl rfl rfl rfl rfl rfl rfl ⟨rfl, _, _, rfl, by omega, rfl⟩ (F.has 0 rfl) (by omega) ?_ | refine l_sl rfl rfl rfl rfl rfl rfl rfl rfl ⟨rfl, _, _, rfl, by omega, rfl⟩ (F.has 1 rfl) (by omega) ?_ | refine l_sl rfl rfl rfl rfl rfl rfl rfl rfl ⟨rfl, _, _, rfl, by omega, rfl⟩ (F.has 2 rfl) (by omega) ?_ | refine l_sl rfl rfl rfl rfl rfl rfl rfl rfl ⟨rfl, _, _, rfl, by omega, rfl⟩ (F.has 3 rfl) (by omega) ?_
    refine l_str rfl rfl rfl rfl rfl (F.old (hl.part8 (lo := 8) (hi := 12) (by omega) (by omega))) ?_
    refine l_op 0 rfl rfl rfl rfl rfl ?_
    refine l_op 0 rfl rfl rfl rfl rfl ?_
    first | refine l_op 2 rfl rfl rfl rfl rfl ?_ | refine l_ln rfl rfl rfl rfl ?_
    refine l_op 0 rfl rfl rfl rfl rfl ?_
    refine l_op 0 rfl rfl rfl rfl rfl ?_
    refine l_op 0 rfl rfl rfl rfl rfl ?_
    refine l_op 0 rfl rfl rfl rfl rfl ?_
    refine l_nil (WK.nx (by assumption) ?_)
    refine SeqK.nx (by assumption) ?_
    refine k_ret ?_
    refine FunK.rt (by assumption) rfl ?_
    -- leaf 12
    first
    | (refine par_bad (F.pick [] (by decide)) ?_
       unfold parseR; rw [hh0]; simp; done)
    | (refine par_bad (F.pick [] (by decide)) ?_
       rw [goK_eq (by omega), if_pos (by omega), if_pos (by rw [List.length_map]; omega)] at hgo
       rw [parse_go hh hgo.symm]; simp; done)
    | (refine par_bad (F.pick [] (by decide)) (go_bad (by omega) (by omega) hm4 ?_ (by decide) hgo hh)
       unfold chunkE; rw [if_pos (by omega), hbl]; done)
    | (refine par_bad (F.pick [] (by decide)) (go_bad (by omega) (by omega) hm4 ?_ (by decide) hgo hh)
       unfold chunkE; rw [if_neg (by omega), if_pos (by assumption)]; done)
    | (refine par_bad (F.pick [] (by decide)) (go_bad (by omega) (by omega) hm4 ?_ (by decide) hgo hh)
       unfold chunkE; rw [if_neg (by omega), if_neg (by simp_all), if_pos (by omega)]; done)
    | (refine par_bad (F.pick [] (by decide)) (go_bad (by omega) (by omega) hm4 ?_ (by decide) hgo hh)
       unfold chunkE; rw [if_neg (by omega), if_neg (by simp_all), if_neg (by omega), if_pos ⟨by omega, by omega⟩, hbl]; done)
    | (rw [hbe2] at *
       refine par_bad (F.pick [] (by decide)) (go_bad (by omega) (by omega) hm4 ?_ (by decide) hgo hh)
       unfold chunkE; rw [if_neg (by omega), if_neg (by simp_all), if_neg (by omega), if_neg (by omega), if_pos ⟨by omega, by assumption⟩]; done)
    | (rw [goK_eq (by omega), if_neg (by omega)] at hgo
       have hp := parse_go hh hgo.symm
       rw [if_neg (by decide)] at hp
       refine ⟨(strOfNums (List.take (12 - 8) (List.drop 8 bs)), x, m, d, ts), ?_, F, ?_⟩
       · rw [parV, hp, ← hbl]; rfl
       · rw [ParP, hp]
         exact ⟨ltr_str ((hB.drop _).take _), rfl, hbd⟩)

end Go.Proofs.Ytkmkbpnlccomnaa
