/- Are resources too many, are they alike; copies of them. No statement of the seat is proved in this text. -/
import Derived.Test.YtkmkbpnlccomnaaBlJ
set_option linter.unusedVariables false
set_option linter.unusedSimpArgs false
set_option maxRecDepth 100000
set_option maxHeartbeats 8000000
namespace Go.Proofs.Ytkmkbpnlccomnaa
open GAb Go

theorem num6_call {σ : AState} {x : Int} : SCall Try.prog (fun _ => False) 15 [.int .i64 x] σ (fun v s => v = .int .i64 x ∧ s = σ) := by
  refine k_fun Try.func15 rfl (m := 4) rfl fun B hD Q K => ?_
  refine k_seq (fun Q K => ?_)
  refine k_lin (fun W K => ?_)
  refine l_op 0 rfl rfl rfl rfl rfl ?_
  refine l_nil (WK.nx (by assumption) ?_)
  refine SeqK.nx (by assumption) ?_
  refine k_seq (fun Q K => ?_)
  refine k_lin (fun W K => ?_)
  refine l_op 0 rfl rfl rfl rfl rfl ?_
  refine l_op 0 rfl rfl rfl rfl rfl ?_
  refine l_nil (WK.nx (by assumption) ?_)
  refine SeqK.nx (by assumption) ?_
  refine k_ret ?_
  refine FunK.rt (by assumption) rfl ?_
  -- leaf 1
  exact ⟨rfl, rfl⟩
theorem huge6_call {σ : AState} {a : Option Addr} {l c : Nat} {ts : List RS} {m b : Int} (h : OldR E0 σ a l c ts) (hb : 0 ≤ m ∧ m ≤ 1000000 ∧ 0 ≤ b ∧ b ≤ 1000000000) :
    SCall Try.prog E0 17 [.slice a l c, .int .i64 m, .int .i64 b] σ (Ret E0 σ (fun (y : Bool) => .bool (irr y)) (fun _ => []) fun y => y = false → (l : Int) ≤ m ∧ sumR ts ≤ b) := by
  have htl := h.len
  have ho := h.old
  refine k_fun Try.func17 rfl (m := 44) rfl fun B hD Q K => ?_
  have F := Facts.nil E0 σ
  refine k_seq (fun Q K => ?_)
  refine k_lin (fun W K => ?_)
  refine l_op 0 rfl rfl rfl rfl rfl ?_
  refine l_nil (WK.nx (by assumption) ?_)
  refine SeqK.nx (by assumption) ?_
  refine k_seq (fun Q K => ?_)
  refine k_seq (fun Q K => ?_)
  refine k_lin (fun W K => ?_)
  refine l_op 0 rfl rfl rfl rfl rfl ?_
  first | refine l_op 2 rfl rfl rfl rfl rfl ?_ | refine l_ln rfl rfl rfl rfl ?_
  refine l_op 0 rfl rfl rfl rfl rfl ?_
  refine l_cmp rfl rfl rfl rfl ?_
  refine l_nil (WK.nx (by assumption) ?_)
  refine SeqK.nx (by assumption) ?_
  refine l_cond rfl rfl (fun hc1 => ?_) (fun hc1 => ?_)
  · replace hc1 := of_decide_eq_true ((irr_eq _).symm.trans hc1)
    refine k_seq (fun Q K => ?_)
    refine k_lin (fun W K => ?_)
    refine l_op 0 rfl rfl rfl rfl rfl ?_
    refine l_nil (WK.nx (by assumption) ?_)
    refine SeqK.nx (by assumption) ?_
    refine k_ret ?_
    refine SeqK.rt (by assumption) ?_
    refine FunK.rt (by assumption) rfl ?_
    -- leaf 1
    first
    | exact ⟨true, irr_t, F, fun h => absurd h (by decide)⟩
    | exact ⟨false, irr_f, F, fun _ => ⟨by omega, by omega⟩⟩
  replace hc1 := of_decide_eq_false ((irr_eq _).symm.trans hc1)
  refine k_skip ?_
  refine SeqK.nx (by assumption) ?_
  refine k_seq (fun Q K => ?_)
  refine k_lin (fun W K => ?_)
  refine l_op 0 rfl rfl rfl rfl rfl ?_
  refine l_nil (WK.nx (by assumption) ?_)
  refine SeqK.nx (by assumption) ?_
  refine k_seq (fun Q K => ?_)
  refine k_seq (fun Q K => ?_)
  refine k_lin (fun W K => ?_)
  refine l_op 0 rfl rfl rfl rfl rfl ?_
  refine l_nil (WK.nx (by assumption) ?_)
  refine SeqK.nx (by assumption) ?_
  refine k_block (fun Q K => ?_)
  refine k_loop (α := Int × Int) (fun ⟨i, n⟩ s => Facts E0 σ s [] ∧ 0 ≤ i ∧ i ≤ l ∧ n = sumR (ts.take i.toNat) ∧ n ≤ b) (fun ⟨i, n⟩ => [(0, .slice a l c), (2, .int .i64 b), (7, .int .i64 n), (8, .int .i64 i)]) (fun ⟨i, _⟩ => (l - i).toNat) (0, 0) ⟨F, by omega, by omega, rfl, by omega⟩ (by repeat (first | exact trivial | refine And.intro rfl ?_)) ?_
  clear F
  rintro ⟨i, n⟩ env s Q K0 ⟨F, i0, i1, hn, hnb⟩
  have hnn := sumR_nn (ts.take i.toNat)
  refine k_seq (fun Q K => ?_)
  refine k_seq (fun Q K => ?_)
  refine k_lin (fun W K => ?_)
  refine l_op 0 rfl rfl rfl rfl rfl ?_
  refine l_op 0 rfl rfl rfl rfl rfl ?_
  first | refine l_op 2 rfl rfl rfl rfl rfl ?_ | refine l_ln rfl rfl rfl rfl ?_
  refine l_cmp rfl rfl rfl rfl ?_
  refine l_nil (WK.nx (by assumption) ?_)
  refine SeqK.nx (by assumption) ?_
  refine l_cond rfl rfl (fun hc2 => ?_) (fun hc2 => ?_)
  · replace hc2 := of_decide_eq_true ((irr_eq _).symm.trans hc2)
    have hst := sumR_take (ts := ts) (i := i.toNat) (by omega)
    have e1 : (i + 1).toNat = i.toNat + 1 := by omega
    obtain ⟨hb1, hb2, hb3⟩ := h.bd _ (memR (i := i.toNat) (by omega))
    refine k_skip ?_
    refine SeqK.nx (by assumption) ?_
    refine k_seq (fun Q K => ?_)
    refine k_block (fun Q K => ?_)
    refine k_seq (fun Q K => ?_)
    refine k_linm [0, 1, 2, 3, 4, 8, 9, 10, 11, 15, 16, 17, 18, 5, 6, 7, 12, 13, 14, 19, 20, 21, 22] mixed (by kernel_rfl) (fun W K => ?_)
    try have hpS := F.pns
    refine l_op 0 rfl rfl rfl rfl rfl ?_
    refine l_op 0 rfl rfl rfl rfl rfl ?_
    refine l_op 0 rfl rfl rfl rfl rfl ?_
    first | refine l_ixrs (e := eR) F ho ⟨eR_len, by decide⟩ rfl rfl rfl rfl rfl rfl (by omega) (fun m22 b22 hA22 hS22 => ?_) | refine l_ixr (e := eR) rfl rfl rfl rfl rfl rfl (F.old ho) ⟨eR_len, by decide⟩ (by omega) (fun m22 b22 hA22 => ?_)
    refine l_op 2 rfl rfl rfl rfl rfl ?_
    refine l_op 0 rfl rfl rfl rfl rfl ?_
    refine l_op 0 rfl rfl rfl rfl rfl ?_
    first | refine l_ixrs (e := eR) F ho ⟨eR_len, by decide⟩ rfl rfl rfl rfl rfl rfl (by omega) (fun m29 b29 hA29 hS29 => ?_) | refine l_ixr (e := eR) rfl rfl rfl rfl rfl rfl (F.old ho) ⟨eR_len, by decide⟩ (by omega) (fun m29 b29 hA29 => ?_)
    refine l_op 2 rfl rfl rfl rfl rfl ?_
    refine l_op 0 rfl rfl rfl rfl rfl ?_
    refine l_op 0 rfl rfl rfl rfl rfl ?_
    first | refine l_ixrs (e := eR) F ho ⟨eR_len, by decide⟩ rfl rfl rfl rfl rfl rfl (by omega) (fun m36 b36 hA36 hS36 => ?_) | refine l_ixr (e := eR) rfl rfl rfl rfl rfl rfl (F.old ho) ⟨eR_len, by decide⟩ (by omega) (fun m36 b36 hA36 => ?_)
    refine l_op 2 rfl rfl rfl rfl rfl ?_
    refine l_ldj rfl rfl rfl rfl rfl rfl (by assumption) rfl ?_
    first | have hpS := PnS.add hpS hS22 | have hpS := PnS.add hpS (OldC.sf (by assumption)) | skip
    first | refine l_op 2 rfl rfl rfl rfl rfl ?_ | refine l_ln rfl rfl rfl rfl ?_
    refine l_a64 rfl rfl rfl (by omega) rfl ?_
    refine l_ldj rfl rfl rfl rfl rfl rfl (by assumption) rfl ?_
    first | have hpS := PnS.add hpS hS29 | have hpS := PnS.add hpS (OldC.sf (by assumption)) | skip
    first | refine l_op 2 rfl rfl rfl rfl rfl ?_ | refine l_ln rfl rfl rfl rfl ?_
    refine l_a64 rfl rfl rfl (by omega) rfl ?_
    refine l_ld0 rfl rfl rfl rfl rfl (by assumption) ?_
    first | have hpS := PnS.add hpS hS36 | have hpS := PnS.add hpS (OldC.sf (by assumption)) | skip
    first | refine l_op 2 rfl rfl rfl rfl rfl ?_ | refine l_ln rfl rfl rfl rfl ?_
    refine l_a64 rfl rfl rfl (by omega) rfl ?_
    refine l_op 0 rfl rfl rfl rfl rfl ?_
    refine l_nil (WK.nx (by assumption) ?_)
    refine SeqK.nx (by assumption) ?_
    refine k_seq (fun Q K => ?_)
    refine k_lin (fun W K => ?_)
    refine l_op 0 rfl rfl rfl rfl rfl ?_
    refine l_op 0 rfl rfl rfl rfl rfl ?_
    refine l_cmp rfl rfl rfl rfl ?_
    refine l_nil (WK.nx (by assumption) ?_)
    refine SeqK.nx (by assumption) ?_
    refine l_cond rfl rfl (fun hc3 => ?_) (fun hc3 => ?_)
    · replace hc3 := of_decide_eq_true ((irr_eq _).symm.trans hc3)
      refine k_seq (fun Q K => ?_)
      refine k_lin (fun W K => ?_)
      refine l_op 0 rfl rfl rfl rfl rfl ?_
      refine l_nil (WK.nx (by assumption) ?_)
      refine SeqK.nx (by assumption) ?_
      refine k_ret ?_
      refine BlkK.rt (by assumption) ?_
      refine SeqK.rt (by assumption) ?_
      refine LoopK.rt (by assumption) ?_
      refine BlkK.rt (by assumption) ?_
      refine SeqK.rt (by assumption) ?_
      refine FunK.rt (by assumption) rfl ?_
      -- leaf 2
      first
      | exact ⟨true, irr_t, F, fun h => absurd h (by decide)⟩
      | exact ⟨false, irr_f, F, fun _ => ⟨by omega, by omega⟩⟩
    replace hc3 := of_decide_eq_false ((irr_eq _).symm.trans hc3)
    refine k_skip ?_
    refine BlkK.nx (by assumption) ?_
    refine SeqK.nx (by assumption) ?_
    refine k_lin (fun W K => ?_)
    refine l_op 0 rfl rfl rfl rfl rfl ?_
    refine l_a64 rfl rfl rfl (by omega) rfl ?_
    refine l_op 0 rfl rfl rfl rfl rfl ?_
    refine l_nil (WK.nx (by assumption) ?_)
    exact K0.nx (i + 1, _) (by repeat (first | exact trivial | refine And.intro rfl ?_)) ⟨F, by omega, by omega, by rw [e1, hst, ← hn], by omega⟩ (by first | omega | (simp only; omega))
  replace hc2 := of_decide_eq_false ((irr_eq _).symm.trans hc2)
  have hall : ts.take i.toNat = ts := List.take_of_length_le (by omega)
  rw [hall] at hn
  refine k_exit ?_
  refine SeqK.et (by assumption) ?_
  refine LoopK.et (by assumption) ?_
  refine BlkK.et (by assumption) ?_
  refine SeqK.nx (by assumption) ?_
  refine k_seq (fun Q K => ?_)
  refine k_lin (fun W K => ?_)
  refine l_op 0 rfl rfl rfl rfl rfl ?_
  refine l_nil (WK.nx (by assumption) ?_)
  refine SeqK.nx (by assumption) ?_
  refine k_ret ?_
  refine FunK.rt (by assumption) rfl ?_
  -- leaf 3
  first
  | exact ⟨true, irr_t, F, fun h => absurd h (by decide)⟩
  | exact ⟨false, irr_f, F, fun _ => ⟨by omega, by omega⟩⟩

theorem eqS_iff {xs ys : List Int} (hx : Bytes xs) (hy : Bytes ys) : eqS xs ys = true ↔ xs = ys := sbeq_str hx hy
theorem getPR {ts : List RS} {i : Nat} (h : i < ts.length) : (ts.map plR)[i]? = some (plR (ts.getD i default)) := by simp [List.getD, h]
theorem same6_call {σ : AState} {a b : Option Addr} {l c m d : Nat} {ts us : List RS} (h1 : OldR E0 σ a l c ts) (h2 : OldR E0 σ b m d us) (hl : l ≤ 1000000) :
    SCall Try.prog E0 14 [.slice a l c, .slice b m d] σ (Ret E0 σ (fun (y : Bool) => .bool (irr y)) (fun _ => []) fun y => y = true ↔ ts.map plR = us.map plR) := by
  have hl1 := h1.len
  have hl2 := h2.len
  have ho1 := h1.old
  have ho2 := h2.old
  refine k_fun Try.func14 rfl (m := 68) rfl fun B hD Q K => ?_
  have F := Facts.nil E0 σ
  refine k_seq (fun Q K => ?_)
  refine k_lin (fun W K => ?_)
  refine l_op 0 rfl rfl rfl rfl rfl ?_
  refine l_nil (WK.nx (by assumption) ?_)
  refine SeqK.nx (by assumption) ?_
  refine k_seq (fun Q K => ?_)
  refine k_seq (fun Q K => ?_)
  refine k_lin (fun W K => ?_)
  refine l_op 0 rfl rfl rfl rfl rfl ?_
  first | refine l_op 2 rfl rfl rfl rfl rfl ?_ | refine l_ln rfl rfl rfl rfl ?_
  refine l_op 0 rfl rfl rfl rfl rfl ?_
  first | refine l_op 2 rfl rfl rfl rfl rfl ?_ | refine l_ln rfl rfl rfl rfl ?_
  refine l_cmp rfl rfl rfl rfl ?_
  refine l_nil (WK.nx (by assumption) ?_)
  refine SeqK.nx (by assumption) ?_
  refine l_cond rfl rfl (fun hc1 => ?_) (fun hc1 => ?_)
  · first | replace hc1 := bne_iff_ne.1 ((irr_eq _).symm.trans hc1) | simp only [irr_eq, bne_iff_ne, bne_eq_false_iff_eq, ne_eq, decide_eq_true_eq, decide_eq_false_iff_not, Bool.not_eq_true', Bool.not_eq_false'] at hc1
    refine k_seq (fun Q K => ?_)
    refine k_lin (fun W K => ?_)
    refine l_op 0 rfl rfl rfl rfl rfl ?_
    refine l_nil (WK.nx (by assumption) ?_)
    refine SeqK.nx (by assumption) ?_
    refine k_ret ?_
    refine SeqK.rt (by assumption) ?_
    refine FunK.rt (by assumption) rfl ?_
    -- leaf 1
    first
    | (refine ⟨false, irr_f, F, ⟨(fun h => absurd h (by decide)), fun h => ?_⟩⟩
       have := congrArg List.length h
       rw [List.length_map, List.length_map] at this
       omega)
    | (refine ⟨true, irr_t, F, ⟨fun _ => ?_, fun _ => rfl⟩⟩
       refine List.ext_getElem? fun j => ?_
       by_cases hjl : j < ts.length
       · rw [getPR hjl, getPR (by omega), hj j (by omega)]
       · rw [List.getElem?_eq_none (by rw [List.length_map]; omega), List.getElem?_eq_none (by rw [List.length_map]; omega)])
    | (refine ⟨false, irr_f, F, ⟨(fun h => absurd h (by decide)), fun h => absurd h (hno fun q => ?_)⟩⟩
       have q1 : ltr (ts.getD i.toNat default).us = ltr (us.getD i.toNat default).us := congrArg (fun z : List Int × Int × List Int × List Int => z.1) q
       have q2 : (ts.getD i.toNat default).nm = (us.getD i.toNat default).nm := congrArg (fun z : List Int × Int × List Int × List Int => z.2.1) q
       have q3 : ltr (ts.getD i.toNat default).id = ltr (us.getD i.toNat default).id := congrArg (fun z : List Int × Int × List Int × List Int => z.2.2.1) q
       have q4 : (ts.getD i.toNat default).d = (us.getD i.toNat default).d := congrArg (fun z : List Int × Int × List Int × List Int => z.2.2.2) q
       first
         | exact absurd (congrArg ByteArray.toList (ltr_inj q1)) (by assumption)
         | exact absurd q2 (by assumption)
         | exact absurd (congrArg ByteArray.toList (ltr_inj q3)) (by assumption)
         | exact absurd ((eqS_iff b1 b2).2 q4) (by simp_all))
  first | replace hc1 := bne_eq_false_iff_eq.1 ((irr_eq _).symm.trans hc1) | simp only [irr_eq, bne_iff_ne, bne_eq_false_iff_eq, ne_eq, decide_eq_true_eq, decide_eq_false_iff_not, Bool.not_eq_true', Bool.not_eq_false'] at hc1
  have hlm : ts.length = us.length := by omega
  refine k_skip ?_
  refine SeqK.nx (by assumption) ?_
  refine k_seq (fun Q K => ?_)
  refine k_seq (fun Q K => ?_)
  refine k_lin (fun W K => ?_)
  refine l_op 0 rfl rfl rfl rfl rfl ?_
  refine l_nil (WK.nx (by assumption) ?_)
  refine SeqK.nx (by assumption) ?_
  refine k_block (fun Q K => ?_)
  refine k_loop (α := Int) (fun i s => Facts E0 σ s [] ∧ 0 ≤ i ∧ i ≤ l ∧ ∀ j : Nat, (j : Int) < i → plR (ts.getD j default) = plR (us.getD j default)) (fun i => [(0, .slice a l c), (1, .slice b m d), (5, .int .i64 i)]) (fun i => (l - i).toNat) 0 ⟨F, by omega, by omega, fun j hj => by omega⟩ (by repeat (first | exact trivial | refine And.intro rfl ?_)) ?_
  clear F
  rintro i env s Q K0 ⟨F, i0, i1, hj⟩
  refine k_seq (fun Q K => ?_)
  refine k_seq (fun Q K => ?_)
  refine k_lin (fun W K => ?_)
  refine l_op 0 rfl rfl rfl rfl rfl ?_
  refine l_op 0 rfl rfl rfl rfl rfl ?_
  first | refine l_op 2 rfl rfl rfl rfl rfl ?_ | refine l_ln rfl rfl rfl rfl ?_
  refine l_cmp rfl rfl rfl rfl ?_
  refine l_nil (WK.nx (by assumption) ?_)
  refine SeqK.nx (by assumption) ?_
  refine l_cond rfl rfl (fun hc2 => ?_) (fun hc2 => ?_)
  · replace hc2 := of_decide_eq_true ((irr_eq _).symm.trans hc2)
    have d1 := h1.dat _ (memR (ts := ts) (i := i.toNat) (by omega))
    have d2 := h2.dat _ (memR (ts := us) (i := i.toNat) (by omega))
    have b1 := h1.byt _ (memR (ts := ts) (i := i.toNat) (by omega))
    have b2 := h2.byt _ (memR (ts := us) (i := i.toNat) (by omega))
    have hno : plR (ts.getD i.toNat default) ≠ plR (us.getD i.toNat default) → ¬ ts.map plR = us.map plR := fun q h => q (by
      have k : (ts.map plR)[i.toNat]? = (us.map plR)[i.toNat]? := by rw [h]
      rw [getPR (by omega), getPR (by omega)] at k
      exact Option.some.inj k)
    refine k_skip ?_
    refine SeqK.nx (by assumption) ?_
    refine k_seq (fun Q K => ?_)
    refine k_block (fun Q K => ?_)
    refine k_seq (fun Q K => ?_)
    refine k_linm [0, 1, 2, 3, 5, 6, 7, 8, 4, 9, 10, 11, 12, 13, 14, 15, 17, 18, 19, 20, 16, 21, 22, 23, 24, 25, 26, 27, 28, 30, 31, 32, 33, 29, 34, 35, 36, 37, 38, 39, 40, 41, 43, 44, 45, 46, 42, 47, 48, 49, 50] mixed (by kernel_rfl) (fun W K => ?_)
    try have hpS := F.pns
    refine l_op 0 rfl rfl rfl rfl rfl ?_
    refine l_op 0 rfl rfl rfl rfl rfl ?_
    first | refine l_ixrs (e := eR) F ho1 ⟨eR_len, by decide⟩ rfl rfl rfl rfl rfl rfl (by omega) (fun m19 b19 hA19 hS19 => ?_) | refine l_ixrs (e := eR) F ho2 ⟨eR_len, by decide⟩ rfl rfl rfl rfl rfl rfl (by omega) (fun m19 b19 hA19 hS19 => ?_)
    refine l_op 2 rfl rfl rfl rfl rfl ?_
    refine l_op 0 rfl rfl rfl rfl rfl ?_
    refine l_op 0 rfl rfl rfl rfl rfl ?_
    first | refine l_ixrs (e := eR) F ho1 ⟨eR_len, by decide⟩ rfl rfl rfl rfl rfl rfl (by omega) (fun m24 b24 hA24 hS24 => ?_) | refine l_ixrs (e := eR) F ho2 ⟨eR_len, by decide⟩ rfl rfl rfl rfl rfl rfl (by omega) (fun m24 b24 hA24 hS24 => ?_)
    refine l_op 2 rfl rfl rfl rfl rfl ?_
    refine l_ld0 rfl rfl rfl rfl rfl (by assumption) ?_
    first | have hpS := PnS.add hpS hS19 | have hpS := PnS.add hpS (OldC.sf (by assumption)) | skip
    refine l_ld0 rfl rfl rfl rfl rfl (by assumption) ?_
    first | have hpS := PnS.add hpS hS24 | have hpS := PnS.add hpS (OldC.sf (by assumption)) | skip
    refine l_cmp rfl rfl rfl rfl ?_
    refine l_op 0 rfl rfl rfl rfl rfl ?_
    refine l_guard rfl rfl rfl (fun hc3 => ?_) (fun hc3 => ?_)
    · first | replace hc3 := bne_iff_ne.1 ((irr_eq _).symm.trans hc3) | simp only [irr_eq, bne_iff_ne, bne_eq_false_iff_eq, ne_eq, decide_eq_true_eq, decide_eq_false_iff_not, Bool.not_eq_true', Bool.not_eq_false'] at hc3
      refine l_s rfl rfl ?_
      refine l_s rfl rfl ?_
      refine l_s rfl rfl ?_
      refine l_s rfl rfl ?_
      refine l_s rfl rfl ?_
      refine l_s rfl rfl ?_
      refine l_s rfl rfl ?_
      refine l_s rfl rfl ?_
      refine l_s rfl rfl ?_
      refine l_s rfl rfl ?_
      refine l_s rfl rfl ?_
      refine l_op 2 rfl rfl rfl rfl rfl ?_
      refine l_op 0 rfl rfl rfl rfl rfl ?_
      refine l_s rfl rfl ?_
      refine l_s rfl rfl ?_
      refine l_s rfl rfl ?_
      refine l_s rfl rfl ?_
      refine l_s rfl rfl ?_
      refine l_s rfl rfl ?_
      refine l_s rfl rfl ?_
      refine l_s rfl rfl ?_
      refine l_s rfl rfl ?_
      refine l_s rfl rfl ?_
      refine l_s rfl rfl ?_
      refine l_op 2 rfl rfl rfl rfl rfl ?_
      refine l_op 0 rfl rfl rfl rfl rfl ?_
      refine l_s rfl rfl ?_
      refine l_s rfl rfl ?_
      refine l_s rfl rfl ?_
      refine l_s rfl rfl ?_
      refine l_s rfl rfl ?_
      refine l_s rfl rfl ?_
      refine l_s rfl rfl ?_
      refine l_s rfl rfl ?_
      refine l_s rfl rfl ?_
      refine l_s rfl rfl ?_
      refine l_s rfl rfl ?_
      refine l_s rfl rfl ?_
      refine l_op 2 rfl rfl rfl rfl rfl ?_
      refine l_nil (WK.nx (by assumption) ?_)
      refine SeqK.nx (by assumption) ?_
      first | refine e_cond_t rfl rfl rfl ?_ | refine e_cond_t rfl rfl (by rw [irr_eq]; first | exact beq_iff_eq.2 (by assumption) | exact decide_eq_true (by assumption) | exact bne_iff_ne.2 (by assumption)) ?_
      refine k_seq (fun Q K => ?_)
      refine k_lin (fun W K => ?_)
      refine l_op 0 rfl rfl rfl rfl rfl ?_
      refine l_nil (WK.nx (by assumption) ?_)
      refine SeqK.nx (by assumption) ?_
      refine k_ret ?_
      refine BlkK.rt (by assumption) ?_
      refine SeqK.rt (by assumption) ?_
      refine LoopK.rt (by assumption) ?_
      refine BlkK.rt (by assumption) ?_
      refine SeqK.rt (by assumption) ?_
      refine FunK.rt (by assumption) rfl ?_
      -- leaf 2
      first
      | (refine ⟨false, irr_f, F, ⟨(fun h => absurd h (by decide)), fun h => ?_⟩⟩
         have := congrArg List.length h
         rw [List.length_map, List.length_map] at this
         omega)
      | (refine ⟨true, irr_t, F, ⟨fun _ => ?_, fun _ => rfl⟩⟩
         refine List.ext_getElem? fun j => ?_
         by_cases hjl : j < ts.length
         · rw [getPR hjl, getPR (by omega), hj j (by omega)]
         · rw [List.getElem?_eq_none (by rw [List.length_map]; omega), List.getElem?_eq_none (by rw [List.length_map]; omega)])
      | (refine ⟨false, irr_f, F, ⟨(fun h => absurd h (by decide)), fun h => absurd h (hno fun q => ?_)⟩⟩
         have q1 : ltr (ts.getD i.toNat default).us = ltr (us.getD i.toNat default).us := congrArg (fun z : List Int × Int × List Int × List Int => z.1) q
         have q2 : (ts.getD i.toNat default).nm = (us.getD i.toNat default).nm := congrArg (fun z : List Int × Int × List Int × List Int => z.2.1) q
         have q3 : ltr (ts.getD i.toNat default).id = ltr (us.getD i.toNat default).id := congrArg (fun z : List Int × Int × List Int × List Int => z.2.2.1) q
         have q4 : (ts.getD i.toNat default).d = (us.getD i.toNat default).d := congrArg (fun z : List Int × Int × List Int × List Int => z.2.2.2) q
         first
           | exact absurd (congrArg ByteArray.toList (ltr_inj q1)) (by assumption)
           | exact absurd q2 (by assumption)
           | exact absurd (congrArg ByteArray.toList (ltr_inj q3)) (by assumption)
           | exact absurd ((eqS_iff b1 b2).2 q4) (by simp_all))
    first | replace hc3 := bne_eq_false_iff_eq.1 ((irr_eq _).symm.trans hc3) | simp only [irr_eq, bne_iff_ne, bne_eq_false_iff_eq, ne_eq, decide_eq_true_eq, decide_eq_false_iff_not, Bool.not_eq_true', Bool.not_eq_false'] at hc3
    refine l_op 0 rfl rfl rfl rfl rfl ?_
    refine l_op 0 rfl rfl rfl rfl rfl ?_
    first | refine l_ixrs (e := eR) F ho1 ⟨eR_len, by decide⟩ rfl rfl rfl rfl rfl rfl (by omega) (fun m31 b31 hA31 hS31 => ?_) | refine l_ixrs (e := eR) F ho2 ⟨eR_len, by decide⟩ rfl rfl rfl rfl rfl rfl (by omega) (fun m31 b31 hA31 hS31 => ?_)
    refine l_op 2 rfl rfl rfl rfl rfl ?_
    refine l_op 0 rfl rfl rfl rfl rfl ?_
    refine l_op 0 rfl rfl rfl rfl rfl ?_
    first | refine l_ixrs (e := eR) F ho1 ⟨eR_len, by decide⟩ rfl rfl rfl rfl rfl rfl (by omega) (fun m36 b36 hA36 hS36 => ?_) | refine l_ixrs (e := eR) F ho2 ⟨eR_len, by decide⟩ rfl rfl rfl rfl rfl rfl (by omega) (fun m36 b36 hA36 hS36 => ?_)
    refine l_op 2 rfl rfl rfl rfl rfl ?_
    refine l_ldj rfl rfl rfl rfl rfl rfl (by assumption) rfl ?_
    first | have hpS := PnS.add hpS hS31 | have hpS := PnS.add hpS (OldC.sf (by assumption)) | skip
    refine l_ldj rfl rfl rfl rfl rfl rfl (by assumption) rfl ?_
    first | have hpS := PnS.add hpS hS36 | have hpS := PnS.add hpS (OldC.sf (by assumption)) | skip
    refine l_cmp rfl rfl rfl rfl ?_
    refine l_op 2 rfl rfl rfl rfl rfl ?_
    refine l_op 0 rfl rfl rfl rfl rfl ?_
    refine l_guard rfl rfl rfl (fun hc4 => ?_) (fun hc4 => ?_)
    · first | replace hc4 := bne_iff_ne.1 ((irr_eq _).symm.trans hc4) | simp only [irr_eq, bne_iff_ne, bne_eq_false_iff_eq, ne_eq, decide_eq_true_eq, decide_eq_false_iff_not, Bool.not_eq_true', Bool.not_eq_false'] at hc4
      refine l_s rfl rfl ?_
      refine l_s rfl rfl ?_
      refine l_s rfl rfl ?_
      refine l_s rfl rfl ?_
      refine l_s rfl rfl ?_
      refine l_s rfl rfl ?_
      refine l_s rfl rfl ?_
      refine l_s rfl rfl ?_
      refine l_s rfl rfl ?_
      refine l_s rfl rfl ?_
      refine l_s rfl rfl ?_
      refine l_op 2 rfl rfl rfl rfl rfl ?_
      refine l_op 0 rfl rfl rfl rfl rfl ?_
      refine l_s rfl rfl ?_
      refine l_s rfl rfl ?_
      refine l_s rfl rfl ?_
      refine l_s rfl rfl ?_
      refine l_s rfl rfl ?_
      refine l_s rfl rfl ?_
      refine l_s rfl rfl ?_
      refine l_s rfl rfl ?_
      refine l_s rfl rfl ?_
      refine l_s rfl rfl ?_
      refine l_s rfl rfl ?_
      refine l_s rfl rfl ?_
      refine l_op 2 rfl rfl rfl rfl rfl ?_
      refine l_nil (WK.nx (by assumption) ?_)
      refine SeqK.nx (by assumption) ?_
      first | refine e_cond_t rfl rfl rfl ?_ | refine e_cond_t rfl rfl (by rw [irr_eq]; first | exact beq_iff_eq.2 (by assumption) | exact decide_eq_true (by assumption) | exact bne_iff_ne.2 (by assumption)) ?_
      refine k_seq (fun Q K => ?_)
      refine k_lin (fun W K => ?_)
      refine l_op 0 rfl rfl rfl rfl rfl ?_
      refine l_nil (WK.nx (by assumption) ?_)
      refine SeqK.nx (by assumption) ?_
      refine k_ret ?_
      refine BlkK.rt (by assumption) ?_
      refine SeqK.rt (by assumption) ?_
      refine LoopK.rt (by assumption) ?_
      refine BlkK.rt (by assumption) ?_
      refine SeqK.rt (by assumption) ?_
      refine FunK.rt (by assumption) rfl ?_
      -- leaf 3
      first
      | (refine ⟨false, irr_f, F, ⟨(fun h => absurd h (by decide)), fun h => ?_⟩⟩
         have := congrArg List.length h
         rw [List.length_map, List.length_map] at this
         omega)
      | (refine ⟨true, irr_t, F, ⟨fun _ => ?_, fun _ => rfl⟩⟩
         refine List.ext_getElem? fun j => ?_
         by_cases hjl : j < ts.length
         · rw [getPR hjl, getPR (by omega), hj j (by omega)]
         · rw [List.getElem?_eq_none (by rw [List.length_map]; omega), List.getElem?_eq_none (by rw [List.length_map]; omega)])
      | (refine ⟨false, irr_f, F, ⟨(fun h => absurd h (by decide)), fun h => absurd h (hno fun q => ?_)⟩⟩
         have q1 : ltr (ts.getD i.toNat default).us = ltr (us.getD i.toNat default).us := congrArg (fun z : List Int × Int × List Int × List Int => z.1) q
         have q2 : (ts.getD i.toNat default).nm = (us.getD i.toNat default).nm := congrArg (fun z : List Int × Int × List Int × List Int => z.2.1) q
         have q3 : ltr (ts.getD i.toNat default).id = ltr (us.getD i.toNat default).id := congrArg (fun z : List Int × Int × List Int × List Int => z.2.2.1) q
         have q4 : (ts.getD i.toNat default).d = (us.getD i.toNat default).d := congrArg (fun z : List Int × Int × List Int × List Int => z.2.2.2) q
         first
           | exact absurd (congrArg ByteArray.toList (ltr_inj q1)) (by assumption)
           | exact absurd q2 (by assumption)
           | exact absurd (congrArg ByteArray.toList (ltr_inj q3)) (by assumption)
           | exact absurd ((eqS_iff b1 b2).2 q4) (by simp_all))
    first | replace hc4 := bne_eq_false_iff_eq.1 ((irr_eq _).symm.trans hc4) | simp only [irr_eq, bne_iff_ne, bne_eq_false_iff_eq, ne_eq, decide_eq_true_eq, decide_eq_false_iff_not, Bool.not_eq_true', Bool.not_eq_false'] at hc4
    refine l_op 0 rfl rfl rfl rfl rfl ?_
    refine l_op 0 rfl rfl rfl rfl rfl ?_
    first | refine l_ixrs (e := eR) F ho1 ⟨eR_len, by decide⟩ rfl rfl rfl rfl rfl rfl (by omega) (fun m44 b44 hA44 hS44 => ?_) | refine l_ixrs (e := eR) F ho2 ⟨eR_len, by decide⟩ rfl rfl rfl rfl rfl rfl (by omega) (fun m44 b44 hA44 hS44 => ?_)
    refine l_op 2 rfl rfl rfl rfl rfl ?_
    refine l_op 0 rfl rfl rfl rfl rfl ?_
    refine l_op 0 rfl rfl rfl rfl rfl ?_
    first | refine l_ixrs (e := eR) F ho1 ⟨eR_len, by decide⟩ rfl rfl rfl rfl rfl rfl (by omega) (fun m49 b49 hA49 hS49 => ?_) | refine l_ixrs (e := eR) F ho2 ⟨eR_len, by decide⟩ rfl rfl rfl rfl rfl rfl (by omega) (fun m49 b49 hA49 hS49 => ?_)
    refine l_op 2 rfl rfl rfl rfl rfl ?_
    refine l_ldj rfl rfl rfl rfl rfl rfl (by assumption) rfl ?_
    first | have hpS := PnS.add hpS hS44 | have hpS := PnS.add hpS (OldC.sf (by assumption)) | skip
    refine l_ldj rfl rfl rfl rfl rfl rfl (by assumption) rfl ?_
    first | have hpS := PnS.add hpS hS49 | have hpS := PnS.add hpS (OldC.sf (by assumption)) | skip
    refine l_cmp rfl rfl rfl rfl ?_
    refine l_op 2 rfl rfl rfl rfl rfl ?_
    refine l_op 0 rfl rfl rfl rfl rfl ?_
    refine l_guard rfl rfl rfl (fun hc5 => ?_) (fun hc5 => ?_)
    · first | replace hc5 := bne_iff_ne.1 ((irr_eq _).symm.trans hc5) | simp only [irr_eq, bne_iff_ne, bne_eq_false_iff_eq, ne_eq, decide_eq_true_eq, decide_eq_false_iff_not, Bool.not_eq_true', Bool.not_eq_false'] at hc5
      refine l_s rfl rfl ?_
      refine l_s rfl rfl ?_
      refine l_s rfl rfl ?_
      refine l_s rfl rfl ?_
      refine l_s rfl rfl ?_
      refine l_s rfl rfl ?_
      refine l_s rfl rfl ?_
      refine l_s rfl rfl ?_
      refine l_s rfl rfl ?_
      refine l_s rfl rfl ?_
      refine l_s rfl rfl ?_
      refine l_s rfl rfl ?_
      refine l_op 2 rfl rfl rfl rfl rfl ?_
      refine l_nil (WK.nx (by assumption) ?_)
      refine SeqK.nx (by assumption) ?_
      first | refine e_cond_t rfl rfl rfl ?_ | refine e_cond_t rfl rfl (by rw [irr_eq]; first | exact beq_iff_eq.2 (by assumption) | exact decide_eq_true (by assumption) | exact bne_iff_ne.2 (by assumption)) ?_
      refine k_seq (fun Q K => ?_)
      refine k_lin (fun W K => ?_)
      refine l_op 0 rfl rfl rfl rfl rfl ?_
      refine l_nil (WK.nx (by assumption) ?_)
      refine SeqK.nx (by assumption) ?_
      refine k_ret ?_
      refine BlkK.rt (by assumption) ?_
      refine SeqK.rt (by assumption) ?_
      refine LoopK.rt (by assumption) ?_
      refine BlkK.rt (by assumption) ?_
      refine SeqK.rt (by assumption) ?_
      refine FunK.rt (by assumption) rfl ?_
      -- leaf 4
      first
      | (refine ⟨false, irr_f, F, ⟨(fun h => absurd h (by decide)), fun h => ?_⟩⟩
         have := congrArg List.length h
         rw [List.length_map, List.length_map] at this
         omega)
      | (refine ⟨true, irr_t, F, ⟨fun _ => ?_, fun _ => rfl⟩⟩
         refine List.ext_getElem? fun j => ?_
         by_cases hjl : j < ts.length
         · rw [getPR hjl, getPR (by omega), hj j (by omega)]
         · rw [List.getElem?_eq_none (by rw [List.length_map]; omega), List.getElem?_eq_none (by rw [List.length_map]; omega)])
      | (refine ⟨false, irr_f, F, ⟨(fun h => absurd h (by decide)), fun h => absurd h (hno fun q => ?_)⟩⟩
         have q1 : ltr (ts.getD i.toNat default).us = ltr (us.getD i.toNat default).us := congrArg (fun z : List Int × Int × List Int × List Int => z.1) q
         have q2 : (ts.getD i.toNat default).nm = (us.getD i.toNat default).nm := congrArg (fun z : List Int × Int × List Int × List Int => z.2.1) q
         have q3 : ltr (ts.getD i.toNat default).id = ltr (us.getD i.toNat default).id := congrArg (fun z : List Int × Int × List Int × List Int => z.2.2.1) q
         have q4 : (ts.getD i.toNat default).d = (us.getD i.toNat default).d := congrArg (fun z : List Int × Int × List Int × List Int => z.2.2.2) q
         first
           | exact absurd (congrArg ByteArray.toList (ltr_inj q1)) (by assumption)
           | exact absurd q2 (by assumption)
           | exact absurd (congrArg ByteArray.toList (ltr_inj q3)) (by assumption)
           | exact absurd ((eqS_iff b1 b2).2 q4) (by simp_all))
    first | replace hc5 := bne_eq_false_iff_eq.1 ((irr_eq _).symm.trans hc5) | simp only [irr_eq, bne_iff_ne, bne_eq_false_iff_eq, ne_eq, decide_eq_true_eq, decide_eq_false_iff_not, Bool.not_eq_true', Bool.not_eq_false'] at hc5
    refine l_op 0 rfl rfl rfl rfl rfl ?_
    refine l_op 0 rfl rfl rfl rfl rfl ?_
    first | refine l_ixrs (e := eR) F ho1 ⟨eR_len, by decide⟩ rfl rfl rfl rfl rfl rfl (by omega) (fun m57 b57 hA57 hS57 => ?_) | refine l_ixrs (e := eR) F ho2 ⟨eR_len, by decide⟩ rfl rfl rfl rfl rfl rfl (by omega) (fun m57 b57 hA57 hS57 => ?_)
    refine l_op 2 rfl rfl rfl rfl rfl ?_
    refine l_op 0 rfl rfl rfl rfl rfl ?_
    refine l_op 0 rfl rfl rfl rfl rfl ?_
    first | refine l_ixrs (e := eR) F ho1 ⟨eR_len, by decide⟩ rfl rfl rfl rfl rfl rfl (by omega) (fun m62 b62 hA62 hS62 => ?_) | refine l_ixrs (e := eR) F ho2 ⟨eR_len, by decide⟩ rfl rfl rfl rfl rfl rfl (by omega) (fun m62 b62 hA62 hS62 => ?_)
    refine l_op 2 rfl rfl rfl rfl rfl ?_
    refine l_ldj rfl rfl rfl rfl rfl rfl (by assumption) rfl ?_
    first | have hpS := PnS.add hpS hS57 | have hpS := PnS.add hpS (OldC.sf (by assumption)) | skip
    refine l_ldj rfl rfl rfl rfl rfl rfl (by assumption) rfl ?_
    first | have hpS := PnS.add hpS hS62 | have hpS := PnS.add hpS (OldC.sf (by assumption)) | skip
    refine l_callp F rfl rfl (by kernel_rfl) rfl rfl (same_call (Old.pure (F.old d1)) (Old.pure (F.old d2))) (fun _ s F _ => ?_)
    (try dsimp only [n_1, n_2, n_3, n_4, List.append_nil, pk, n_5, n_6] at F)
    refine l_op 2 rfl rfl rfl rfl rfl ?_
    refine l_op 2 rfl rfl rfl rfl rfl ?_
    refine l_nil (WK.nx (by assumption) ?_)
    refine SeqK.nx (by assumption) ?_
    refine l_cond rfl rfl (fun hc6 => ?_) (fun hc6 => ?_)
    · try simp only [irr_eq, beq_iff_eq, bne_iff_ne, beq_eq_false_iff_ne, bne_eq_false_iff_eq, ne_eq, decide_eq_true_eq, decide_eq_false_iff_not, Bool.not_eq_true', Bool.not_eq_false'] at hc6
      refine k_seq (fun Q K => ?_)
      refine k_lin (fun W K => ?_)
      refine l_op 0 rfl rfl rfl rfl rfl ?_
      refine l_nil (WK.nx (by assumption) ?_)
      refine SeqK.nx (by assumption) ?_
      refine k_ret ?_
      refine BlkK.rt (by assumption) ?_
      refine SeqK.rt (by assumption) ?_
      refine LoopK.rt (by assumption) ?_
      refine BlkK.rt (by assumption) ?_
      refine SeqK.rt (by assumption) ?_
      refine FunK.rt (by assumption) rfl ?_
      -- leaf 5
      first
      | (refine ⟨false, irr_f, F, ⟨(fun h => absurd h (by decide)), fun h => ?_⟩⟩
         have := congrArg List.length h
         rw [List.length_map, List.length_map] at this
         omega)
      | (refine ⟨true, irr_t, F, ⟨fun _ => ?_, fun _ => rfl⟩⟩
         refine List.ext_getElem? fun j => ?_
         by_cases hjl : j < ts.length
         · rw [getPR hjl, getPR (by omega), hj j (by omega)]
         · rw [List.getElem?_eq_none (by rw [List.length_map]; omega), List.getElem?_eq_none (by rw [List.length_map]; omega)])
      | (refine ⟨false, irr_f, F, ⟨(fun h => absurd h (by decide)), fun h => absurd h (hno fun q => ?_)⟩⟩
         have q1 : ltr (ts.getD i.toNat default).us = ltr (us.getD i.toNat default).us := congrArg (fun z : List Int × Int × List Int × List Int => z.1) q
         have q2 : (ts.getD i.toNat default).nm = (us.getD i.toNat default).nm := congrArg (fun z : List Int × Int × List Int × List Int => z.2.1) q
         have q3 : ltr (ts.getD i.toNat default).id = ltr (us.getD i.toNat default).id := congrArg (fun z : List Int × Int × List Int × List Int => z.2.2.1) q
         have q4 : (ts.getD i.toNat default).d = (us.getD i.toNat default).d := congrArg (fun z : List Int × Int × List Int × List Int => z.2.2.2) q
         first
           | exact absurd (congrArg ByteArray.toList (ltr_inj q1)) (by assumption)
           | exact absurd q2 (by assumption)
           | exact absurd (congrArg ByteArray.toList (ltr_inj q3)) (by assumption)
           | exact absurd ((eqS_iff b1 b2).2 q4) (by simp_all))
    try simp only [irr_eq, beq_iff_eq, bne_iff_ne, beq_eq_false_iff_ne, bne_eq_false_iff_eq, ne_eq, decide_eq_true_eq, decide_eq_false_iff_not, Bool.not_eq_true', Bool.not_eq_false'] at hc6
    refine k_skip ?_
    refine BlkK.nx (by assumption) ?_
    refine SeqK.nx (by assumption) ?_
    refine k_lin (fun W K => ?_)
    refine l_op 0 rfl rfl rfl rfl rfl ?_
    refine l_a64 rfl rfl rfl (by omega) rfl ?_
    refine l_op 0 rfl rfl rfl rfl rfl ?_
    refine l_nil (WK.nx (by assumption) ?_)
    refine K0.nx (i + 1) (by repeat (first | exact trivial | refine And.intro rfl ?_)) ⟨F, by omega, by omega, fun j hji => ?_⟩ (by first | omega | (simp only; omega))
    by_cases e : (j : Int) = i
    · have e2 : j = i.toNat := by omega
      subst e2
      have k1 := sbeq_iff.1 (beq_iff_eq.2 hc3)
      have k2 := sbeq_iff.1 (beq_iff_eq.2 hc5)
      have k3 := (eqS_iff b1 b2).1 hc6
      show (_, _, _, _) = (_, _, _, _)
      rw [k1, k2, k3, hc4]
    · exact hj j (by omega)
  replace hc2 := of_decide_eq_false ((irr_eq _).symm.trans hc2)
  refine k_exit ?_
  refine SeqK.et (by assumption) ?_
  refine LoopK.et (by assumption) ?_
  refine BlkK.et (by assumption) ?_
  refine SeqK.nx (by assumption) ?_
  refine k_seq (fun Q K => ?_)
  refine k_lin (fun W K => ?_)
  refine l_op 0 rfl rfl rfl rfl rfl ?_
  refine l_nil (WK.nx (by assumption) ?_)
  refine SeqK.nx (by assumption) ?_
  refine k_ret ?_
  refine FunK.rt (by assumption) rfl ?_
  -- leaf 6
  first
  | (refine ⟨false, irr_f, F, ⟨(fun h => absurd h (by decide)), fun h => ?_⟩⟩
     have := congrArg List.length h
     rw [List.length_map, List.length_map] at this
     omega)
  | (refine ⟨true, irr_t, F, ⟨fun _ => ?_, fun _ => rfl⟩⟩
     refine List.ext_getElem? fun j => ?_
     by_cases hjl : j < ts.length
     · rw [getPR hjl, getPR (by omega), hj j (by omega)]
     · rw [List.getElem?_eq_none (by rw [List.length_map]; omega), List.getElem?_eq_none (by rw [List.length_map]; omega)])
  | (refine ⟨false, irr_f, F, ⟨(fun h => absurd h (by decide)), fun h => absurd h (hno fun q => ?_)⟩⟩
     have q1 : ltr (ts.getD i.toNat default).us = ltr (us.getD i.toNat default).us := congrArg (fun z : List Int × Int × List Int × List Int => z.1) q
     have q2 : (ts.getD i.toNat default).nm = (us.getD i.toNat default).nm := congrArg (fun z : List Int × Int × List Int × List Int => z.2.1) q
     have q3 : ltr (ts.getD i.toNat default).id = ltr (us.getD i.toNat default).id := congrArg (fun z : List Int × Int × List Int × List Int => z.2.2.1) q
     have q4 : (ts.getD i.toNat default).d = (us.getD i.toNat default).d := congrArg (fun z : List Int × Int × List Int × List Int => z.2.2.2) q
     first
       | exact absurd (congrArg ByteArray.toList (ltr_inj q1)) (by assumption)
       | exact absurd q2 (by assumption)
       | exact absurd (congrArg ByteArray.toList (ltr_inj q3)) (by assumption)
       | exact absurd ((eqS_iff b1 b2).2 q4) (by simp_all))

/-- A resource without its places. -/
def er (t : RS) : RS := { t with x := none, c := 0 }
theorem er_def : er default = default := rfl
theorem copy_call {σ : AState} {a : Option Addr} {l c : Nat} {ts : List RS} (h : OldR E0 σ a l c ts) (hl : l ≤ 2000) (hs : sumR ts ≤ 1000000) :
    SCall Try.prog E0 18 [.slice a l c] σ (Ret E0 σ (fun (y : RY) => .slice y.1 y.2.1 y.2.2.1) reaF fun y => y.2.2.2.map er = ts.map er) := by
  have htl := h.len
  have ho := h.old
  refine k_fun Try.func18 rfl (m := 26) rfl fun B hD Q K => ?_
  have F := ((Facts.nil E0 σ).nilrow 4).nomany
  refine k_seq (fun Q K => ?_)
  refine k_lin (fun W K => ?_)
  refine l_op 0 rfl rfl rfl rfl rfl ?_
  refine l_nil (WK.nx (by assumption) ?_)
  refine SeqK.nx (by assumption) ?_
  refine k_seq (fun Q K => ?_)
  refine k_lin (fun W K => ?_)
  refine l_op 0 rfl rfl rfl rfl rfl ?_
  refine l_nil (WK.nx (by assumption) ?_)
  refine SeqK.nx (by assumption) ?_
  refine k_seq (fun Q K => ?_)
  refine k_seq (fun Q K => ?_)
  refine k_lin (fun W K => ?_)
  refine l_op 0 rfl rfl rfl rfl rfl ?_
  refine l_nil (WK.nx (by assumption) ?_)
  refine SeqK.nx (by assumption) ?_
  refine k_block (fun Q K => ?_)
  refine k_loop (α := Int × Option Addr × Nat × Nat × List RS) (fun ⟨i, x, m, d, rs⟩ s => Facts E0 σ s [many (rs.map dR), own x m d 4 (rows eR rs)] ∧ 0 ≤ i ∧ i ≤ l ∧ (m : Int) = i ∧ rs.map er = (ts.take i.toNat).map er) (fun ⟨i, x, m, d, rs⟩ => [(0, .slice a l c), (3, .slice x m d), (4, .int .i64 i)]) (fun ⟨i, _⟩ => (l - i).toNat) (0, none, 0, 0, []) ⟨F, by omega, by omega, by omega, rfl⟩ (by repeat (first | exact trivial | refine And.intro rfl ?_)) ?_
  clear F
  rintro ⟨i, x, m, d, rs⟩ env s Q K0 ⟨F, i0, i1, hm, hrs⟩
  refine k_seq (fun Q K => ?_)
  refine k_seq (fun Q K => ?_)
  refine k_lin (fun W K => ?_)
  refine l_op 0 rfl rfl rfl rfl rfl ?_
  refine l_op 0 rfl rfl rfl rfl rfl ?_
  first | refine l_op 2 rfl rfl rfl rfl rfl ?_ | refine l_ln rfl rfl rfl rfl ?_
  refine l_cmp rfl rfl rfl rfl ?_
  refine l_nil (WK.nx (by assumption) ?_)
  refine SeqK.nx (by assumption) ?_
  refine l_cond rfl rfl (fun hc1 => ?_) (fun hc1 => ?_)
  · replace hc1 := of_decide_eq_true ((irr_eq _).symm.trans hc1)
    have hmem := memR (ts := ts) (i := i.toNat) (by omega)
    have hd := h.dat _ hmem
    have hsm := sumR_mem hmem
    refine k_skip ?_
    refine SeqK.nx (by assumption) ?_
    refine k_seq (fun Q K => ?_)
    refine k_block (fun Q K => ?_)
    refine k_seq (fun Q K => ?_)
    refine k_lin (fun W K => ?_)
    refine l_op 0 rfl rfl rfl rfl rfl ?_
    refine l_op 0 rfl rfl rfl rfl rfl ?_
    refine l_ixr (e := eR) rfl rfl rfl rfl rfl rfl (F.old ho) ⟨eR_len, by decide⟩ (by omega) (fun m14 b14 hA14 => ?_)
    refine l_lda rfl rfl rfl rfl rfl (by assumption) ?_
    refine l_al F rfl rfl rfl rfl (fun q5 s F => ?_)
    (try dsimp only [n_1, n_2, n_3, n_4, List.append_nil, pk, n_5, n_6] at F)
    refine l_stca F 2 rfl rfl rfl rfl rfl rfl rfl rfl rfl rfl hD rfl (fun s F => ?_)
    (try dsimp only [n_1, n_2, n_3, n_4, List.append_nil, pk, n_5, n_6] at F)
    refine l_nil (WK.nx (by assumption) ?_)
    refine SeqK.nx (by assumption) ?_
    refine k_seq (fun Q K => ?_)
    refine k_lin (fun W K => ?_)
    refine l_lit F rfl rfl rfl rfl (fun q16 s F => ?_)
    (try dsimp only [n_1, n_2, n_3, n_4, List.append_nil, pk, n_5, n_6] at F)
    refine l_op 2 rfl rfl rfl rfl rfl ?_
    refine l_ldc F 2 rfl rfl rfl rfl rfl rfl rfl ?_
    refine l_appi (xs := []) F 3 rfl rfl rfl rfl rfl rfl rfl (F.old hd) rfl (by omega) hD (fun x3 c3 s F => ?_)
    (try dsimp only [n_1, n_2, n_3, n_4, List.append_nil, pk, n_5, n_6] at F)
    refine l_op 2 rfl rfl rfl rfl rfl ?_
    refine l_stc F 2 rfl rfl rfl rfl rfl rfl rfl rfl rfl hD (fun s F => ?_)
    (try dsimp only [n_1, n_2, n_3, n_4, List.append_nil, pk, n_5, n_6] at F)
    refine l_nil (WK.nx (by assumption) ?_)
    refine SeqK.nx (by assumption) ?_
    refine k_lin (fun W K => ?_)
    refine l_op 0 rfl rfl rfl rfl rfl ?_
    refine l_ldca F 2 rfl rfl rfl rfl rfl rfl rfl ?_
    refine l_lit F rfl rfl rfl rfl (fun q23 s F => ?_)
    (try dsimp only [n_1, n_2, n_3, n_4, List.append_nil, pk, n_5, n_6] at F)
    refine l_app (es := 4) F 1 rfl rfl rfl rfl rfl rfl rfl (F.has 4 rfl) rfl rfl (by omega) hD (fun x2 c2 s F => ?_)
    (try dsimp only [n_1, n_2, n_3, n_4, List.append_nil, pk, n_5, n_6] at F)
    refine l_op 0 rfl rfl rfl rfl rfl ?_
    refine l_nil (WK.nx (by assumption) ?_)
    refine BlkK.nx (by assumption) ?_
    refine SeqK.nx (by assumption) ?_
    refine k_lin (fun W K => ?_)
    refine l_op 0 rfl rfl rfl rfl rfl ?_
    refine l_a64 rfl rfl rfl (by omega) rfl ?_
    refine l_op 0 rfl rfl rfl rfl rfl ?_
    refine l_nil (WK.nx (by assumption) ?_)
    have F9 := (F.pick [0, 3, 1] (by decide)).join
    refine K0.nx (i + 1, x2, m + 1, c2, rs ++ [⟨(ts.getD i.toNat default).us, (ts.getD i.toNat default).nm, (ts.getD i.toNat default).id, x3, 0 + (ts.getD i.toNat default).l, c3, (ts.getD i.toNat default).d⟩]) (by repeat (first | exact trivial | refine And.intro rfl ?_)) ⟨?_, by omega, by omega, by omega, ?_⟩ (by first | omega | (simp only; omega))
    · rw [List.map_append, rows_append]; exact F9
    · rw [show (i + 1).toNat = i.toNat + 1 by omega, take_oneR (by omega), List.map_append, List.map_append, hrs]
      simp [er]
  replace hc1 := of_decide_eq_false ((irr_eq _).symm.trans hc1)
  refine k_exit ?_
  refine SeqK.et (by assumption) ?_
  refine LoopK.et (by assumption) ?_
  refine BlkK.et (by assumption) ?_
  refine SeqK.nx (by assumption) ?_
  refine k_seq (fun Q K => ?_)
  refine k_lin (fun W K => ?_)
  refine l_op 0 rfl rfl rfl rfl rfl ?_
  refine l_op 0 rfl rfl rfl rfl rfl ?_
  refine l_nil (WK.nx (by assumption) ?_)
  refine SeqK.nx (by assumption) ?_
  refine k_ret ?_
  refine FunK.rt (by assumption) rfl ?_
  -- leaf 1
  refine ⟨(x, m, d, rs), rfl, F, ?_⟩
  rw [List.take_of_length_le (by omega)] at hrs
  exact hrs

theorem er_mem {rs ts : List RS} (he : rs.map er = ts.map er) {r : RS} (hr : r ∈ rs) : ∃ t ∈ ts, er t = er r := by
  have : er r ∈ ts.map er := by rw [← he]; exact List.mem_map_of_mem hr
  obtain ⟨t, ht, q⟩ := List.mem_map.1 this
  exact ⟨t, ht, q⟩
theorem oldR_copy {σ s : AState} {L : List Fact} {a x : Option Addr} {l c m d : Nat} {rs ts : List RS} (h : OldR E0 σ a l c ts) (F : Facts E0 σ s L) (i j : Nat) (hi : L[i]? = some (many (rs.map dR))) (hj : L[j]? = some (own x m d 4 (rows eR rs))) (he : rs.map er = ts.map er) : OldR E0 s x m d rs := by
  refine ⟨Old.pure (F.has j hj), fun r hr => Old.pure (F.hasM i hi (List.mem_map_of_mem hr)), fun r hr => ?_, fun r hr => ?_, fun r hr => ?_⟩ <;> obtain ⟨t, ht, q⟩ := er_mem he hr
  · have e : (er t).d = (er r).d := by rw [q]
    show Bytes (er r).d
    rw [← e]; exact h.byt t ht
  · have e : (er t).nm = (er r).nm := by rw [q]
    show U32 (er r).nm
    rw [← e]; exact h.nmb t ht
  · have e1 : (er t).l = (er r).l := by rw [q]
    have e2 : (er t).id = (er r).id := by rw [q]
    have e3 : (er t).us = (er r).us := by rw [q]
    show ((er r).l : Int) ≤ _ ∧ ((er r).id.size : Int) ≤ _ ∧ ((er r).us.size : Int) ≤ _
    rw [← e1, ← e2, ← e3]; exact h.bd t ht
theorem er_sum : ∀ ts : List RS, sumR (ts.map er) = sumR ts
  | [] => rfl
  | t :: ts => by simp only [List.map_cons, sumR, er_sum ts]; rfl
theorem er_getD (ts : List RS) (i : Nat) : (ts.map er).getD i default = er (ts.getD i default) := by
  simp only [List.getD, List.getElem?_map]
  cases ts[i]? with
  | none => rfl
  | some t => rfl
theorem er_ids (ts : List RS) : IdsR (ts.map er) ↔ IdsR ts := by
  constructor
  · intro h t ht
    have := h (er t) (List.mem_map_of_mem ht)
    exact this
  · intro h t ht
    obtain ⟨r, hr, rfl⟩ := List.mem_map.1 ht
    exact h r hr
theorem er_dup (ts : List RS) (n : Nat) : DupN (ts.map er) n ↔ DupN ts n := by
  unfold DupN
  simp only [er_getD]
  exact Iff.rfl
theorem er_sizeK : ∀ ts : List RS, sizeK ((ts.map er).map toK) = sizeK (ts.map toK)
  | [] => rfl
  | t :: ts => by
    have := er_sizeK ts
    simp only [List.map_cons, sizeK] at this ⊢
    rw [this]; rfl
theorem er_plc (ts : List RS) (i : Nat) : plcR (ts.map er) i = plcR ts i := by
  unfold plcR
  rw [List.length_map, ← List.map_take, ← List.map_take, er_sizeK, List.map_take]
theorem er_idxD (ts : List RS) : idxD (ts.map er) = idxD ts := by
  have e : ∀ i, entD (ts.map er) i = entD ts i := fun i => by unfold entD; rw [er_getD, er_plc]; rfl
  unfold idxD entsD
  rw [List.length_map]
  congr 1
  exact congrArg List.flatten (List.map_congr_left fun i _ => e i)
theorem er_bodies : ∀ ts : List RS, ((ts.map er).map toK).flatMap bldC = (ts.map toK).flatMap bldC
  | [] => rfl
  | t :: ts => by
    have := er_bodies ts
    simp only [List.map_cons, List.flatMap_cons] at this ⊢
    rw [this]; rfl
theorem er_idsK (ts : List RS) : IdsOK ((ts.map er).map toK) ↔ IdsOK (ts.map toK) := by
  constructor
  · intro h t ht
    obtain ⟨r, hr, rfl⟩ := List.mem_map.1 ht
    exact h (toK (er r)) (List.mem_map_of_mem (List.mem_map_of_mem hr))
  · intro h t ht
    obtain ⟨r, hr, rfl⟩ := List.mem_map.1 ht
    obtain ⟨u, hu, rfl⟩ := List.mem_map.1 hr
    exact h (toK u) (List.mem_map_of_mem hu)
theorem er_lay {ts : List RS} {e : Int} {n : Nat} {bs : List Int} : LayP (ts.map er) e n bs ↔ LayP ts e n bs := by
  have h1 : IdsOK (cksR (ts.map er)) ↔ IdsOK (cksR ts) := by
    unfold cksR
    simp only [IdsOK, List.forall_mem_cons]
    exact and_congr Iff.rfl (er_idsK ts)
  have h2 : sizeK (cksR (ts.map er)) = sizeK (cksR ts) := by
    unfold cksR
    simp only [sizeK, er_idxD, er_sizeK]
  have h3 : bldR kindBA (cksR (ts.map er)) = bldR kindBA (cksR ts) := by
    unfold bldR
    rw [h2]
    unfold cksR
    simp only [List.flatMap_cons, er_bodies, er_idxD]
  have h4 : (cksR (ts.map er)).length = (cksR ts).length := by unfold cksR; simp
  unfold LayP BldP
  rw [er_ids, List.length_map, er_dup, h1, h2, h3, h4]
theorem lay_core {rs ts : List RS} (he : rs.map er = ts.map er) {e : Int} {n : Nat} {bs : List Int} (h : LayP rs e n bs) : LayP ts e n bs := by
  rw [← er_lay, ← he, er_lay]; exact h
/-- What is laid is told. -/
theorem lay_det {ts : List RS} {e e' : Int} {n n' : Nat} {bs bs' : List Int} (h : LayP ts e n bs) (h' : LayP ts e' n' bs') (hl : bs.length = n) (hl' : bs'.length = n') : e = e' ∧ bs = bs' := by
  have nil : ∀ {x : List Int} {k : Nat}, x.length = k → k = 0 → x = [] := fun h1 h2 => List.eq_nil_of_length_eq_zero (by omega)
  have two : ∀ {x y : List Int} {k j : Nat}, x.length = k → k = 0 → y.length = j → j = 0 → x = y := fun h1 h2 h3 h4 => (nil h1 h2).trans (nil h3 h4).symm
  unfold LayP BldP at h h'
  rcases h with ⟨a1, a2, a3⟩ | ⟨a1, ⟨a2, a3, a4⟩ | ⟨a2, ⟨a3, a4, a5⟩ | ⟨a3, ⟨a4, a5, a6⟩ | ⟨a4, a5, ⟨a6, a7, a8⟩ | ⟨a6, ⟨a7, a8, a9⟩ | ⟨a7, a8, a9⟩⟩⟩⟩⟩⟩ <;>
  rcases h' with ⟨b1, b2, b3⟩ | ⟨b1, ⟨b2, b3, b4⟩ | ⟨b2, ⟨b3, b4, b5⟩ | ⟨b3, ⟨b4, b5, b6⟩ | ⟨b4, b5, ⟨b6, b7, b8⟩ | ⟨b6, ⟨b7, b8, b9⟩ | ⟨b7, b8, b9⟩⟩⟩⟩⟩⟩ <;>
  first
    | (exfalso; omega)
    | (exact absurd a1 b3)
    | (exact absurd b1 a3)
    | (exact absurd a5 b3)
    | (exact absurd b5 a3)
    | (exfalso; apply b6; constructor <;> assumption)
    | (exfalso; apply a6; constructor <;> assumption)
    | (exact ⟨by omega, two hl (by assumption) hl' (by assumption)⟩)
    | (exact ⟨by omega, a9.trans b9.symm⟩)

end Go.Proofs.Ytkmkbpnlccomnaa
