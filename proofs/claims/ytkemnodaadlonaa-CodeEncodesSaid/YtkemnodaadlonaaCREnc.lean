/- An instruction laid, by the document. No statement of the seat is proved in this text. -/
import Derived.Test.YtkemnodaadlonaaCRef
import Derived.Test.YtkemnodaadlonaaCSame
set_option linter.unusedVariables false
set_option linter.unusedSimpArgs false
set_option maxRecDepth 100000
set_option maxHeartbeats 4000000
namespace Go.Proofs.Ytkemnodaadlonaa
open GAb Go

/-- What a mode's bytes tell again is the value, if the mode can tell it. -/
theorem tells_back {m v : Int} (hm : 0 ≤ szm m) (hv : U32 v) : tellsR m v = true ↔ (if szm m = 0 then 0 else telR m (v % 256 ^ (szm m).toNat)) = v := by
  obtain ⟨v0, v1⟩ := hv
  obtain ⟨z0, z1, z2, z3⟩ := szm_cases hm
  constructor
  · intro h
    by_cases h0 : szm m = 0
    · rw [if_pos h0]
      unfold tellsR at h
      rw [if_pos h0] at h
      exact (by simpa using h : v = 0).symm
    · rw [if_neg h0]
      exact tel_put (by omega) hm h ⟨v0, v1⟩
  · intro h
    unfold tellsR
    by_cases h0 : szm m = 0
    · rw [if_pos h0] at h ⊢
      simp [← h]
    · rw [if_neg h0] at h ⊢
      unfold telR at h
      rcases z2 with z | z | z | z
      · omega
      · rw [z] at h ⊢
        rw [if_neg (by decide)]
        by_cases hc : cst m = true
        · rw [if_pos hc] at h ⊢
          simp [extR] at h ⊢
          omega
        · rw [if_neg hc] at h ⊢
          simp at h ⊢
          omega
      · rw [z] at h ⊢
        rw [if_neg (by decide)]
        by_cases hc : cst m = true
        · rw [if_pos hc] at h ⊢
          simp [extR] at h ⊢
          omega
        · rw [if_neg hc] at h ⊢
          simp at h ⊢
          omega
      · rw [if_pos z]
theorem beR_put {v k : Int} (hk : k = 1 ∨ k = 2 ∨ k = 4) : beR (putR v k) 0 k = (v % 256 ^ k.toNat, 0) := by
  have hl := putR_n (x := v) hk
  have hb := be_put [] [] v k hk
  rw [List.nil_append, List.append_nil, List.length_nil] at hb
  unfold beR
  rw [if_neg (by omega), if_neg (by omega)]
  exact congrArg (fun x => (x, (0 : Int))) hb
theorem cst_lt {m : Int} (hm : 0 ≤ szm m) (h0 : szm m ≠ 0) : cst m = true ↔ m < 4 := by
  obtain ⟨z0, z1, z2, z3⟩ := szm_cases hm
  unfold cst
  rw [decide_eq_true_eq]
  constructor
  · intro h; omega
  · intro h
    refine ⟨?_, by omega⟩
    by_cases e : m = 0
    · subst e; exact absurd rfl h0
    · omega
theorem bytes_putR (v k : Int) : Bytes (putR v k) := fun i hi => by
  have hx : (putR v k).getD i 0 ∈ putR v k := by
    simp only [List.getD, List.getElem?_eq_getElem hi, Option.getD_some]
    exact List.getElem_mem hi
  generalize (putR v k).getD i 0 = x at hx
  unfold putR at hx
  (repeat' split at hx) <;> simp at hx <;> omega
theorem extR_zero (k : Int) : extR 0 k = 0 := by unfold extR; split; rfl; split <;> rfl
theorem tb0 {m v : Int} (h : szm m = 0) : tellsR m v = true ↔ 0 = v := by
  unfold tellsR; rw [if_pos h, decide_eq_true_eq]; exact ⟨fun h => h.symm, fun h => h.symm⟩
theorem tb2 {m v : Int} (hm : 0 ≤ szm m) (hv : U32 v) (h : szm m ≠ 0) (h4 : m < 4) : tellsR m v = true ↔ extR (v % 256 ^ (szm m).toNat) (szm m) = v := by
  rw [tells_back hm hv, if_neg h]
  unfold telR
  rw [if_pos ((cst_lt hm h).2 h4)]
theorem tb3 {m v : Int} (hm : 0 ≤ szm m) (hv : U32 v) (h : szm m ≠ 0) (h4 : ¬ m < 4) : tellsR m v = true ↔ v % 256 ^ (szm m).toNat = v := by
  rw [tells_back hm hv, if_neg h]
  unfold telR
  rw [if_neg (fun hc => h4 ((cst_lt hm h).1 hc))]
theorem emod_u32 {v : Int} (k : Nat) (h0 : 0 ≤ v) (h1 : v ≤ 4294967295) : 0 ≤ v % 256 ^ k ∧ v % 256 ^ k ≤ 4294967295 := by
  have hp : (0 : Int) < 256 ^ k := Int.pow_pos (by decide)
  refine ⟨Int.emod_nonneg _ (by omega), ?_⟩
  have := Int.emod_add_mul_ediv v (256 ^ k)
  have h3 : 0 ≤ v / 256 ^ k := Int.ediv_nonneg h0 (by omega)
  have h4 : 0 ≤ 256 ^ k * (v / 256 ^ k) := Int.mul_nonneg (by omega) h3
  omega
theorem rencode_call {σ : AState} {ax : Option Addr} {nx cx : Nat} {op : Int} {ars : List (Int × Int)} (h : Old E0 σ ax nx cx 2 (rows eO ars)) (hA : ArgOK ars) (hop : U32 op) (hl : nx ≤ 1000000) :
    SCall Try.prog E0 32 [.agg #[.int .u32 op, .slice ax nx cx]] σ (Ret E0 σ (encV (encR sgR op ars)) (fun y => [own y.1 ((encR sgR op ars).getD []).length y.2 1 (u8l ((encR sgR op ars).getD []))]) fun _ => True) := by
  obtain rfl : ars.length = nx := h.1.len eO_len (by decide)
  refine k_fun Try.func32 rfl (m := 132) rfl fun B hD Q K => ?_
  have F := (Facts.nil E0 σ).nilrow 1
  refine k_seq (fun Q K => ?_)
  refine k_lin (fun W K => ?_)
  refine l_bx F rfl rfl rfl rfl rfl (fun q1 s F => ?_)
  (try dsimp only [n_1, n_2, n_3, n_4, List.append_nil, pk, n_5, n_6] at F)
  refine l_op 0 rfl rfl rfl rfl rfl ?_
  refine l_op 0 rfl rfl rfl rfl rfl ?_
  refine l_nil (WK.nx (by assumption) ?_)
  refine SeqK.nx (by assumption) ?_
  refine k_seq (fun Q K => ?_)
  refine k_lin (fun W K => ?_)
  refine l_op 2 rfl rfl rfl rfl rfl ?_
  refine l_ldc F 1 rfl rfl rfl rfl rfl rfl rfl ?_
  refine l_callp F rfl rfl (by kernel_rfl) rfl rfl (rsig_call hop) (fun _ s F _ => ?_)
  have hs8 := sig_size op
  generalize hS : sigP op = sp at hs8
  (try dsimp only [n_1, n_2, n_3, n_4, List.append_nil, pk, n_5, n_6] at F)
  refine l_op 0 rfl rfl rfl rfl rfl ?_
  refine l_op 2 rfl rfl rfl rfl rfl ?_
  refine l_op 2 rfl rfl rfl rfl rfl ?_
  refine l_op 0 rfl rfl rfl rfl rfl ?_
  refine l_op 0 rfl rfl rfl rfl rfl ?_
  refine l_nil (WK.nx (by assumption) ?_)
  refine SeqK.nx (by assumption) ?_
  refine k_seq (fun Q K => ?_)
  refine k_seq (fun Q K => ?_)
  refine k_lin (fun W K => ?_)
  refine l_op 0 rfl rfl rfl rfl rfl ?_
  refine l_op 2 rfl rfl rfl rfl rfl ?_
  refine l_op 0 rfl rfl rfl rfl rfl ?_
  refine l_guard rfl rfl rfl (fun hc1 => ?_) (fun hc1 => ?_)
  · try simp only [irr_eq, beq_iff_eq, bne_iff_ne, beq_eq_false_iff_ne, bne_eq_false_iff_eq, ne_eq, decide_eq_true_eq, decide_eq_false_iff_not, Bool.not_eq_true', Bool.not_eq_false'] at hc1
    have hr : encR sgR op ars = none := by
      unfold encR sgR
      rw [hS]
      by_cases hb : sp.2 = true
      · rw [if_pos hb]
        simp only
        rw [if_pos (by rw [ltr_length]; intro e; simp_all)]
      · rw [if_neg hb]
    refine l_s rfl rfl ?_
    refine l_s rfl rfl ?_
    refine l_s rfl rfl ?_
    refine l_s rfl rfl ?_
    refine l_s rfl rfl ?_
    refine l_s rfl rfl ?_
    refine l_op 2 rfl rfl rfl rfl rfl ?_
    refine l_nil (WK.nx (by assumption) ?_)
    refine SeqK.nx (by assumption) ?_
    first | refine e_cond_t rfl rfl rfl ?_ | refine e_cond_t rfl rfl (by rw [irr_eq]; first | exact beq_iff_eq.2 (by assumption) | exact decide_eq_true (by assumption) | exact bne_iff_ne.2 (by assumption)) ?_
    refine k_seq (fun Q K => ?_)
    refine k_lin (fun W K => ?_)
    refine l_op 0 rfl rfl rfl rfl rfl ?_
    refine l_op 0 rfl rfl rfl rfl rfl ?_
    refine l_nil (WK.nx (by assumption) ?_)
    refine SeqK.nx (by assumption) ?_
    refine k_ret ?_
    refine SeqK.rt (by assumption) ?_
    refine FunK.rt (by assumption) rfl ?_
    -- leaf 1
    first
      | (rw [hr]; exact ⟨(none, 0), rfl, F.pick [0] (by decide), trivial⟩)
      | (rw [hr]
         have el : (opB op).length + km + (dataR (ars.take i.toNat)).length = (opB op ++ restR ars).length := by
           rw [hall]
           simp only [restR, List.length_append, hmd]; omega
         have er : opB op ++ packR ms ++ dataR (ars.take i.toNat) = opB op ++ restR ars := by rw [hall]; simp only [restR, hmd, List.append_assoc]
         rw [el, er] at F
         exact ⟨(x6, c6), by rw [el]; rfl, F.pick [2] (by decide), trivial⟩)
  try simp only [irr_eq, beq_iff_eq, bne_iff_ne, beq_eq_false_iff_ne, bne_eq_false_iff_eq, ne_eq, decide_eq_true_eq, decide_eq_false_iff_not, Bool.not_eq_true', Bool.not_eq_false'] at hc1
  refine l_op 0 rfl rfl rfl rfl rfl ?_
  first | refine l_op 2 rfl rfl rfl rfl rfl ?_ | refine l_ln rfl rfl rfl rfl ?_
  refine l_op 2 rfl rfl rfl rfl rfl ?_
  refine l_ldc F 1 rfl rfl rfl rfl rfl rfl rfl ?_
  first | refine l_op 2 rfl rfl rfl rfl rfl ?_ | refine l_ln rfl rfl rfl rfl ?_
  refine l_cmp rfl rfl rfl rfl ?_
  refine l_op 2 rfl rfl rfl rfl rfl ?_
  refine l_nil (WK.nx (by assumption) ?_)
  refine SeqK.nx (by assumption) ?_
  refine l_cond rfl rfl (fun hc2 => ?_) (fun hc2 => ?_)
  · first | replace hc2 := bne_iff_ne.1 ((irr_eq _).symm.trans hc2) | simp only [irr_eq, bne_iff_ne, bne_eq_false_iff_eq, ne_eq, decide_eq_true_eq, decide_eq_false_iff_not, Bool.not_eq_true', Bool.not_eq_false'] at hc2
    have hr : encR sgR op ars = none := by
      unfold encR sgR
      rw [hS]
      by_cases hb : sp.2 = true
      · rw [if_pos hb]
        simp only
        rw [if_pos (by rw [ltr_length]; intro e; simp_all)]
      · rw [if_neg hb]
    refine k_seq (fun Q K => ?_)
    refine k_lin (fun W K => ?_)
    refine l_op 0 rfl rfl rfl rfl rfl ?_
    refine l_op 0 rfl rfl rfl rfl rfl ?_
    refine l_nil (WK.nx (by assumption) ?_)
    refine SeqK.nx (by assumption) ?_
    refine k_ret ?_
    refine SeqK.rt (by assumption) ?_
    refine FunK.rt (by assumption) rfl ?_
    -- leaf 2
    first
      | (rw [hr]; exact ⟨(none, 0), rfl, F.pick [0] (by decide), trivial⟩)
      | (rw [hr]
         have el : (opB op).length + km + (dataR (ars.take i.toNat)).length = (opB op ++ restR ars).length := by
           rw [hall]
           simp only [restR, List.length_append, hmd]; omega
         have er : opB op ++ packR ms ++ dataR (ars.take i.toNat) = opB op ++ restR ars := by rw [hall]; simp only [restR, hmd, List.append_assoc]
         rw [el, er] at F
         exact ⟨(x6, c6), by rw [el]; rfl, F.pick [2] (by decide), trivial⟩)
  first | replace hc2 := bne_eq_false_iff_eq.1 ((irr_eq _).symm.trans hc2) | simp only [irr_eq, bne_iff_ne, bne_eq_false_iff_eq, ne_eq, decide_eq_true_eq, decide_eq_false_iff_not, Bool.not_eq_true', Bool.not_eq_false'] at hc2
  have hsg : sgR op = some (ltr sp.1) := by unfold sgR; rw [hS, if_pos (by simp_all)]
  have hdom := sg_dom op (by rw [hsg]; simp)
  have hsl : (ltr sp.1).length = ars.length := by rw [ltr_length]; omega
  have hms : (ars.map Prod.fst).length = ars.length := List.length_map ..
  have F := F.nilrow 1
  have F := F.nilrow 1
  refine k_skip ?_
  refine SeqK.nx (by assumption) ?_
  refine k_seq (fun Q K => ?_)
  refine k_lin (fun W K => ?_)
  refine l_op 0 rfl rfl rfl rfl rfl ?_
  refine l_op 0 rfl rfl rfl rfl rfl ?_
  refine l_nil (WK.nx (by assumption) ?_)
  refine SeqK.nx (by assumption) ?_
  refine k_seq (fun Q K => ?_)
  refine k_seq (fun Q K => ?_)
  refine k_lin (fun W K => ?_)
  refine l_op 2 rfl rfl rfl rfl rfl ?_
  refine l_ldc F 1 rfl rfl rfl rfl rfl rfl rfl ?_
  refine l_cmp rfl rfl rfl rfl ?_
  refine l_nil (WK.nx (by assumption) ?_)
  refine SeqK.nx (by assumption) ?_
  refine l_cond rfl rfl (fun hc3 => ?_) (fun hc3 => ?_)
  · replace hc3 := of_decide_eq_true ((irr_eq _).symm.trans hc3)
    refine k_lin (fun W K => ?_)
    refine l_op 0 rfl rfl rfl rfl rfl ?_
    refine l_op 2 rfl rfl rfl rfl rfl ?_
    refine l_ldc F 1 rfl rfl rfl rfl rfl rfl rfl ?_
    refine l_c8 rfl rfl rfl (by omega) rfl ?_
    refine l_lit F rfl rfl rfl rfl (fun q36 s F => ?_)
    (try dsimp only [n_1, n_2, n_3, n_4, List.append_nil, pk, n_5, n_6] at F)
    have eb : opB op = [op] := by unfold opB putR; rw [if_pos (by assumption), if_pos rfl]; exact congrArg (fun x => [x]) (by omega)
    refine l_appi (xs := []) F 2 rfl rfl rfl rfl rfl rfl rfl (ys := [op]) (F.has 4 rfl) rfl (by omega) hD (fun xb cb s F => ?_)
    (try dsimp only [n_1, n_2, n_3, n_4, List.append_nil, pk, n_5, n_6] at F)
    have el : (0 : Nat) + 1 = (opB op).length := by rw [eb]; rfl
    rw [← eb, el] at F
    rw [el]
    refine l_op 0 rfl rfl rfl rfl rfl ?_
    refine l_nil (WK.nx (by assumption) ?_)
    refine SeqK.nx (by assumption) ?_
    refine k_seq (fun Q K => ?_)
    refine k_lin (fun W K => ?_)
    refine l_op 0 rfl rfl rfl rfl rfl ?_
    first | refine l_op 2 rfl rfl rfl rfl rfl ?_ | refine l_ln rfl rfl rfl rfl ?_
    refine l_a64 rfl rfl rfl (by omega) rfl ?_
    first | refine l_quon rfl rfl rfl rfl rfl (by omega) rfl ?_ | refine l_quou64 rfl rfl rfl rfl rfl (by omega) rfl ?_ | refine l_quou32 rfl rfl rfl rfl rfl (by omega) rfl ?_ | refine l_quo rfl rfl rfl rfl rfl (by omega) rfl ?_
    refine l_mk F rfl rfl rfl rfl rfl rfl rfl (by omega) (fun q54 s F => ?_)
    (try dsimp only [n_1, n_2, n_3, n_4, List.append_nil, pk, n_5, n_6] at F)
    refine l_op 0 rfl rfl rfl rfl rfl ?_
    refine l_nil (WK.nx (by assumption) ?_)
    refine SeqK.nx (by assumption) ?_
    refine k_seq (fun Q K => ?_)
    refine k_seq (fun Q K => ?_)
    refine k_lin (fun W K => ?_)
    refine l_op 0 rfl rfl rfl rfl rfl ?_
    refine l_nil (WK.nx (by assumption) ?_)
    refine SeqK.nx (by assumption) ?_
    refine k_block (fun Q K => ?_)
    obtain ⟨ms, hmd⟩ : ∃ ms, ars.map Prod.fst = ms := ⟨_, rfl⟩
    rw [hmd] at hms
    have hmg : ∀ j : Nat, j < ars.length → ms.getD j 0 = (ars.getD j default).1 := fun j hj => by rw [← hmd]; simp [List.getD, hj]
    generalize hK : ((((sp.1.size : Nat) : Int) + 1) / 2).toNat = km at F ⊢
    have hkm : km = (ms.length + 1) / 2 := by omega
    have F0 := F.pick [0, 1, 2, 3, 5] (by decide)
    clear F
    have F : Facts E0 σ s [own none 0 0 1 [], cel q1 [.int .u32 op, .slice ax ars.length cx], own xb (opB op).length cb 1 (u8l (opB op)), own none 0 0 1 [], own (some ⟨q54, 0, some 0⟩) km km 1 (u8l (pkz ms 0))] := by
      rw [pkz_zero, ← hkm, ← zrow8]
      exact F0
    refine k_loop (α := Int × Option Addr × Nat) (fun ⟨i, yd, cd⟩ s => Facts E0 σ s [own none 0 0 1 [], cel q1 [.int .u32 op, .slice ax ars.length cx], own xb (opB op).length cb 1 (u8l (opB op)), own yd (dataR (ars.take i.toNat)).length cd 1 (u8l (dataR (ars.take i.toNat))), own (some ⟨q54, 0, some 0⟩) km km 1 (u8l (pkz ms i.toNat))] ∧ 0 ≤ i ∧ i ≤ ars.length ∧ ∀ j : Nat, j < i → mayR ((ltr sp.1).getD j 0) (ars.getD j default).1 = true ∧ tellsR (ars.getD j default).1 (ars.getD j default).2 = true) (fun ⟨i, yd, cd⟩ => [(1, .pointer (some ⟨q1, 0, none⟩)), (4, .string sp.1), (6, .slice xb (opB op).length cb), (7, .slice yd (dataR (ars.take i.toNat)).length cd), (8, .slice (some ⟨q54, 0, some 0⟩) km km), (9, .int .i64 i)]) (fun ⟨i, _⟩ => (ars.length - i).toNat) (0, none, 0) ⟨F, by omega, by omega, fun j hj => by omega⟩ (by repeat (first | exact trivial | refine And.intro rfl ?_)) ?_
    clear F
    rintro ⟨i, yd, cd⟩ env s Q K0 ⟨F, i0, i1, hok⟩
    refine k_seq (fun Q K => ?_)
    refine k_seq (fun Q K => ?_)
    refine k_lin (fun W K => ?_)
    refine l_op 0 rfl rfl rfl rfl rfl ?_
    refine l_op 0 rfl rfl rfl rfl rfl ?_
    first | refine l_op 2 rfl rfl rfl rfl rfl ?_ | refine l_ln rfl rfl rfl rfl ?_
    refine l_cmp rfl rfl rfl rfl ?_
    refine l_nil (WK.nx (by assumption) ?_)
    refine SeqK.nx (by assumption) ?_
    refine l_cond rfl rfl (fun hc4 => ?_) (fun hc4 => ?_)
    · replace hc4 := of_decide_eq_true ((irr_eq _).symm.trans hc4)
      have hi : i.toNat < ars.length := by omega
      have hAi := hA.at i.toNat
      have hAi' := hAi
      obtain ⟨va0, va1⟩ := hAi'
      have hdl := dataR_len (ars.take i.toNat)
      rw [List.length_take] at hdl
      refine k_skip ?_
      refine SeqK.nx (by assumption) ?_
      refine k_seq (fun Q K => ?_)
      refine k_block (fun Q K => ?_)
      refine k_seq (fun Q K => ?_)
      refine k_lin (fun W K => ?_)
      refine l_op 2 rfl rfl rfl rfl rfl ?_
      refine l_ldc F 1 rfl rfl rfl rfl rfl rfl rfl ?_
      refine l_op 0 rfl rfl rfl rfl rfl ?_
      refine l_ixr (e := eO) rfl rfl rfl rfl rfl rfl (F.old h) ⟨eO_len, by decide⟩ (by omega) (fun m64 b64 hA64 => ?_)
      refine l_lda (ws := eO (ars.getD i.toNat default)) rfl rfl rfl rfl rfl hA64 ?_
      refine l_al F rfl rfl rfl rfl (fun q10 s F => ?_)
      (try dsimp only [n_1, n_2, n_3, n_4, List.append_nil, pk, n_5, n_6] at F)
      refine l_stca F 5 rfl rfl rfl rfl rfl rfl rfl rfl rfl rfl hD rfl (fun s F => ?_)
      (try dsimp only [n_1, n_2, n_3, n_4, List.append_nil, pk, n_5, n_6] at F)
      refine l_nil (WK.nx (by assumption) ?_)
      refine SeqK.nx (by assumption) ?_
      refine k_seq (fun Q K => ?_)
      refine k_seq (fun Q K => ?_)
      refine k_linr mixed (by kernel_rfl) (fun W K => ?_)
      try have hpS := F.pns
      refine l_op 0 rfl rfl rfl rfl rfl ?_
      refine l_op 0 rfl rfl rfl rfl rfl ?_
      refine l_sx rfl rfl rfl rfl rfl (by omega) ?_
      refine l_op 2 rfl rfl rfl rfl rfl ?_
      refine l_ldc F 5 rfl rfl rfl rfl rfl rfl rfl ?_
      first | have hpS := PnS.add hpS hS10 | have hpS := PnS.add hpS (OldC.sf (by assumption)) | skip
      have hpA := PnA.cel F 5 rfl pna_nil
      refine l_callp F rfl rfl (by kernel_rfl) rfl rfl rmay_call (fun _ s F _ => ?_)
      (try dsimp only [n_1, n_2, n_3, n_4, List.append_nil, pk, n_5, n_6] at F)
      refine l_op 2 rfl rfl rfl rfl rfl ?_
      refine l_nil (WK.nx (by assumption) ?_)
      refine SeqK.nx (by assumption) ?_
      refine l_cond rfl rfl (fun hc5 => ?_) (fun hc5 => ?_)
      · try simp only [irr_eq, beq_iff_eq, bne_iff_ne, beq_eq_false_iff_ne, bne_eq_false_iff_eq, ne_eq, decide_eq_true_eq, decide_eq_false_iff_not, Bool.not_eq_true', Bool.not_eq_false'] at hc5
        have hr : encR sgR op ars = none := by
          unfold encR
          rw [hsg]
          simp only
          rw [if_neg (by omega), if_pos (okArgs_not _ _ i.toNat (by omega) hi (.inl hc5))]
        refine k_seq (fun Q K => ?_)
        refine k_lin (fun W K => ?_)
        refine l_op 0 rfl rfl rfl rfl rfl ?_
        refine l_op 0 rfl rfl rfl rfl rfl ?_
        refine l_nil (WK.nx (by assumption) ?_)
        refine SeqK.nx (by assumption) ?_
        refine k_ret ?_
        refine SeqK.rt (by assumption) ?_
        refine BlkK.rt (by assumption) ?_
        refine SeqK.rt (by assumption) ?_
        refine LoopK.rt (by assumption) ?_
        refine BlkK.rt (by assumption) ?_
        refine SeqK.rt (by assumption) ?_
        refine FunK.rt (by assumption) rfl ?_
        -- leaf 3
        first
          | (rw [hr]; exact ⟨(none, 0), rfl, F.pick [0] (by decide), trivial⟩)
          | (rw [hr]
             have el : (opB op).length + km + (dataR (ars.take i.toNat)).length = (opB op ++ restR ars).length := by
               rw [hall]
               simp only [restR, List.length_append, hmd]; omega
             have er : opB op ++ packR ms ++ dataR (ars.take i.toNat) = opB op ++ restR ars := by rw [hall]; simp only [restR, hmd, List.append_assoc]
             rw [el, er] at F
             exact ⟨(x6, c6), by rw [el]; rfl, F.pick [2] (by decide), trivial⟩)
      try simp only [irr_eq, beq_iff_eq, bne_iff_ne, beq_eq_false_iff_ne, bne_eq_false_iff_eq, ne_eq, decide_eq_true_eq, decide_eq_false_iff_not, Bool.not_eq_true', Bool.not_eq_false'] at hc5
      have hmayi := hc5
      have hsi := may_sz hmayi
      obtain ⟨z0, z1, z2, z3⟩ := szm_cases hsi
      have ed : (i / 2).toNat = i.toNat / 2 := by omega
      have hpa := pkz_at (ms := ms) (i := i.toNat) (j := i.toNat / 2) (by omega)
      have hset := pkz_step (ms := ms) (i := i.toNat) (by omega)
      rw [hmg _ hi] at hset
      refine k_skip ?_
      refine SeqK.nx (by assumption) ?_
      refine k_seq (fun Q K => ?_)
      refine k_linm [0, 2, 1, 3, 4, 5, 6] mixed (by kernel_rfl) (fun W K => ?_)
      try have hpS := F.pns
      refine l_op 2 rfl rfl rfl rfl rfl ?_
      refine l_op 2 rfl rfl rfl rfl rfl ?_
      refine l_ldc F 5 rfl rfl rfl rfl rfl rfl rfl ?_
      first | have hpS := PnS.add hpS hS10 | have hpS := PnS.add hpS (OldC.sf (by assumption)) | skip
      refine l_ldc F 5 rfl rfl rfl rfl rfl rfl rfl ?_
      first | have hpS := PnS.add hpS hS10 | have hpS := PnS.add hpS (OldC.sf (by assumption)) | skip
      have hpA := PnA.cel F 5 rfl (PnA.cel F 5 rfl pna_nil)
      refine l_callp F rfl rfl (by kernel_rfl) rfl rfl rsize_call (fun _ s F _ => ?_)
      (try dsimp only [n_1, n_2, n_3, n_4, List.append_nil, pk, n_5, n_6] at F)
      have hpA := PnA.cel F 5 rfl (PnA.cel F 5 rfl pna_nil)
      refine l_callp F rfl rfl (by kernel_rfl) rfl rfl (rput_call hAi) (fun yp s F _ => ?_)
      (try dsimp only [n_1, n_2, n_3, n_4, List.append_nil, pk, n_5, n_6] at F)
      have hpl := putR_len (v := (ars.getD i.toNat default).2) z2
      refine l_op 0 rfl rfl rfl rfl rfl ?_
      refine l_nil (WK.nx (by assumption) ?_)
      refine SeqK.nx (by assumption) ?_
      refine k_seq (fun Q K => ?_)
      refine k_lin (fun W K => ?_)
      refine l_op 0 rfl rfl rfl rfl rfl ?_
      refine l_nil (WK.nx (by assumption) ?_)
      refine SeqK.nx (by assumption) ?_
      refine k_seq (fun Q K => ?_)
      refine k_seq (fun Q K => ?_)
      refine k_lin (fun W K => ?_)
      refine l_op 0 rfl rfl rfl rfl rfl ?_
      first | refine l_op 2 rfl rfl rfl rfl rfl ?_ | refine l_ln rfl rfl rfl rfl ?_
      refine l_cmp rfl rfl rfl rfl ?_
      refine l_nil (WK.nx (by assumption) ?_)
      refine SeqK.nx (by assumption) ?_
      refine l_cond rfl rfl (fun hc6 => ?_) (fun hc6 => ?_)
      · replace hc6 := of_decide_eq_true ((irr_eq _).symm.trans hc6)
        refine k_lin (fun W K => ?_)
        refine l_op 0 rfl rfl rfl rfl rfl ?_
        refine l_op 0 rfl rfl rfl rfl rfl ?_
        first | refine l_op 2 rfl rfl rfl rfl rfl ?_ | refine l_ln rfl rfl rfl rfl ?_
        have hbe2 : beR (putR (ars.getD i.toNat default).2 (szm (ars.getD i.toNat default).1)) 0 ((putR (ars.getD i.toNat default).2 (szm (ars.getD i.toNat default).1)).length : Nat) = ((ars.getD i.toNat default).2 % 256 ^ (szm (ars.getD i.toNat default).1).toNat, 0) := by
          rw [hpl]; exact beR_put (by omega)
        have hbc : SCall Try.prog E0 41 [.slice yp.1 (putR (ars.getD i.toNat default).2 (szm (ars.getD i.toNat default).1)).length yp.2, .int .i64 0, .int .i64 ((putR (ars.getD i.toNat default).2 (szm (ars.getD i.toNat default).1)).length : Nat)] s (Ret E0 s (fun (_ : Unit) => .tuple #[.int .u32 ((ars.getD i.toNat default).2 % 256 ^ (szm (ars.getD i.toNat default).1).toNat), .int .i64 0]) (fun _ => []) fun _ => True) := by
          have hb1 := rbe_call (at_ := 0) (n := ((putR (ars.getD i.toNat default).2 (szm (ars.getD i.toNat default).1)).length : Nat)) (Old.pure (F.has 6 rfl)) (bytes_putR _ _) (by omega)
          unfold beV at hb1
          rw [hbe2] at hb1
          exact hb1
        refine l_callp F rfl rfl (by kernel_rfl) rfl rfl hbc (fun _ s F _ => ?_)
        (try dsimp only [n_1, n_2, n_3, n_4, List.append_nil, pk, n_5, n_6] at F)
        refine l_op 0 rfl rfl rfl rfl rfl ?_
        refine l_op 2 rfl rfl rfl rfl rfl ?_
        refine l_op 2 rfl rfl rfl rfl rfl ?_
        refine l_op 0 rfl rfl rfl rfl rfl ?_
        refine l_nil (WK.nx (by assumption) ?_)
        refine SeqK.nx (by assumption) ?_
        refine k_seq (fun Q K => ?_)
        refine k_seq (fun Q K => ?_)
        refine k_lin (fun W K => ?_)
        refine l_op 2 rfl rfl rfl rfl rfl ?_
        refine l_ldc F 5 rfl rfl rfl rfl rfl rfl rfl ?_
        refine l_cmp rfl rfl rfl rfl ?_
        refine l_nil (WK.nx (by assumption) ?_)
        refine SeqK.nx (by assumption) ?_
        refine l_cond rfl rfl (fun hc7 => ?_) (fun hc7 => ?_)
        · replace hc7 := of_decide_eq_true ((irr_eq _).symm.trans hc7)
          refine k_lin (fun W K => ?_)
          refine l_op 0 rfl rfl rfl rfl rfl ?_
          refine l_op 0 rfl rfl rfl rfl rfl ?_
          first | refine l_op 2 rfl rfl rfl rfl rfl ?_ | refine l_ln rfl rfl rfl rfl ?_
          first
            | refine l_callp F rfl rfl (by kernel_rfl) rfl rfl (rextend_call (x := (ars.getD i.toNat default).2 % 256 ^ (szm (ars.getD i.toNat default).1).toNat) (emod_u32 _ va0 va1)) (fun _ s F _ => ?_)
            | refine l_callp F rfl rfl (by kernel_rfl) rfl rfl (rextend_call (x := 0) ⟨by decide, by decide⟩) (fun _ s F _ => ?_)
          (try dsimp only [n_1, n_2, n_3, n_4, List.append_nil, pk, n_5, n_6] at F)
          refine l_op 0 rfl rfl rfl rfl rfl ?_
          refine l_nil (WK.nx (by assumption) ?_)
          refine SeqK.nx (by assumption) ?_
          refine k_seq (fun Q K => ?_)
          refine k_seq (fun Q K => ?_)
          refine k_lin (fun W K => ?_)
          refine l_op 0 rfl rfl rfl rfl rfl ?_
          refine l_op 2 rfl rfl rfl rfl rfl ?_
          refine l_ldc F 5 rfl rfl rfl rfl rfl rfl rfl ?_
          refine l_cmp rfl rfl rfl rfl ?_
          refine l_nil (WK.nx (by assumption) ?_)
          refine SeqK.nx (by assumption) ?_
          refine l_cond rfl rfl (fun hc8 => ?_) (fun hc8 => ?_)
          · first | replace hc8 := bne_iff_ne.1 ((irr_eq _).symm.trans hc8) | simp only [irr_eq, bne_iff_ne, bne_eq_false_iff_eq, ne_eq, decide_eq_true_eq, decide_eq_false_iff_not, Bool.not_eq_true', Bool.not_eq_false'] at hc8
            have hbad : tellsR (ars.getD i.toNat default).1 (ars.getD i.toNat default).2 = false := by
              rw [Bool.eq_false_iff]
              intro ht
              have hne := hc8
              try simp only [extR_zero, hpl] at hne
              first
                | exact hne ((tb0 (by omega)).1 ht)
                | exact hne ((tb2 hsi hAi (by omega) (by omega)).1 ht)
                | exact hne ((tb3 hsi hAi (by omega) (by omega)).1 ht)
            have hr : encR sgR op ars = none := by
              unfold encR
              rw [hsg]
              simp only
              rw [if_neg (by omega), if_pos (okArgs_not _ _ i.toNat (by omega) hi (.inr hbad))]
            refine k_seq (fun Q K => ?_)
            refine k_lin (fun W K => ?_)
            refine l_op 0 rfl rfl rfl rfl rfl ?_
            refine l_op 0 rfl rfl rfl rfl rfl ?_
            refine l_nil (WK.nx (by assumption) ?_)
            refine SeqK.nx (by assumption) ?_
            refine k_ret ?_
            refine SeqK.rt (by assumption) ?_
            refine BlkK.rt (by assumption) ?_
            refine SeqK.rt (by assumption) ?_
            refine LoopK.rt (by assumption) ?_
            refine BlkK.rt (by assumption) ?_
            refine SeqK.rt (by assumption) ?_
            refine FunK.rt (by assumption) rfl ?_
            -- leaf 4
            first
              | (rw [hr]; exact ⟨(none, 0), rfl, F.pick [0] (by decide), trivial⟩)
              | (rw [hr]
                 have el : (opB op).length + km + (dataR (ars.take i.toNat)).length = (opB op ++ restR ars).length := by
                   rw [hall]
                   simp only [restR, List.length_append, hmd]; omega
                 have er : opB op ++ packR ms ++ dataR (ars.take i.toNat) = opB op ++ restR ars := by rw [hall]; simp only [restR, hmd, List.append_assoc]
                 rw [el, er] at F
                 exact ⟨(x6, c6), by rw [el]; rfl, F.pick [2] (by decide), trivial⟩)
          first | replace hc8 := bne_eq_false_iff_eq.1 ((irr_eq _).symm.trans hc8) | simp only [irr_eq, bne_iff_ne, bne_eq_false_iff_eq, ne_eq, decide_eq_true_eq, decide_eq_false_iff_not, Bool.not_eq_true', Bool.not_eq_false'] at hc8
          have htells : tellsR (ars.getD i.toNat default).1 (ars.getD i.toNat default).2 = true := by
            have hne := hc8
            try simp only [extR_zero, hpl] at hne
            first
              | exact (tb0 (by omega)).2 hne
              | exact (tb2 hsi hAi (by omega) (by omega)).2 hne
              | exact (tb3 hsi hAi (by omega) (by omega)).2 hne
          refine k_skip ?_
          refine SeqK.nx (by assumption) ?_
          refine k_seq (fun Q K => ?_)
          refine k_seq (fun Q K => ?_)
          refine k_lin (fun W K => ?_)
          refine l_op 0 rfl rfl rfl rfl rfl ?_
          first | refine l_remn rfl rfl rfl rfl rfl (by omega) rfl ?_ | refine l_rem rfl rfl rfl rfl rfl (by omega) rfl ?_
          refine l_cmp rfl rfl rfl rfl ?_
          refine l_nil (WK.nx (by assumption) ?_)
          refine SeqK.nx (by assumption) ?_
          refine l_cond rfl rfl (fun hc9 => ?_) (fun hc9 => ?_)
          · first | replace hc9 := eq_of_beq ((irr_eq _).symm.trans hc9) | simp only [irr_eq, beq_iff_eq, beq_eq_false_iff_ne, ne_eq, decide_eq_true_eq, decide_eq_false_iff_not] at hc9
            have hp1 : i.toNat % 2 = 1 := by omega
            have hxv : 0 ≤ (pkz ms i.toNat).getD (i / 2).toNat 0 ∧ (pkz ms i.toNat).getD (i / 2).toNat 0 ≤ 15 := by
              rw [ed, hpa, if_pos (by omega), if_neg (by omega), hmg _ (by omega)]
              have := szm_cases (may_sz (hok (2 * (i.toNat / 2)) (by omega)).1)
              omega
            rw [if_neg (by omega)] at hset
            refine k_linm [0, 1, 2, 3, 4, 5, 6, 8, 7, 9, 10, 11, 12, 13, 14] mixed (by kernel_rfl) (fun W K => ?_)
            try have hpS := F.pns
            refine l_op 0 rfl rfl rfl rfl rfl ?_
            refine l_op 0 rfl rfl rfl rfl rfl ?_
            first | refine l_quon rfl rfl rfl rfl rfl (by omega) rfl ?_ | refine l_quou64 rfl rfl rfl rfl rfl (by omega) rfl ?_ | refine l_quou32 rfl rfl rfl rfl rfl (by omega) rfl ?_ | refine l_quo rfl rfl rfl rfl rfl (by omega) rfl ?_
            refine l_op 0 rfl rfl rfl rfl rfl ?_
            refine l_op 0 rfl rfl rfl rfl rfl ?_
            first | refine l_quon rfl rfl rfl rfl rfl (by omega) rfl ?_ | refine l_quou64 rfl rfl rfl rfl rfl (by omega) rfl ?_ | refine l_quou32 rfl rfl rfl rfl rfl (by omega) rfl ?_ | refine l_quo rfl rfl rfl rfl rfl (by omega) rfl ?_
            refine l_ixoi F 4 rfl rfl rfl rfl rfl rfl rfl (by omega) (fun m109 e109 ha109 hA109 => ?_)
            cases ha109
            refine l_op 2 rfl rfl rfl rfl rfl ?_
            refine l_ld0 rfl rfl rfl rfl rfl (by assumption) ?_
            first | have hpS := PnS.add hpS hS109 | have hpS := PnS.add hpS (OldC.sf (by assumption)) | skip
            refine l_ldc F 5 rfl rfl rfl rfl rfl rfl rfl ?_
            first | have hpS := PnS.add hpS hS10 | have hpS := PnS.add hpS (OldC.sf (by assumption)) | skip
            refine l_a64 rfl rfl rfl (by omega) rfl ?_
            refine l_c8 rfl rfl rfl (by omega) rfl ?_
            refine l_a8 rfl rfl rfl (by omega) rfl ?_
            refine l_ixoi F 4 rfl rfl rfl rfl rfl rfl rfl (by omega) (fun m116 e116 ha116 hA116 => ?_)
            cases ha116
            refine l_rs (by kernel_rfl) ?_
            refine l_stoi F 4 rfl rfl rfl rfl rfl rfl rfl (by omega) hD (fun s F => ?_)
            (try dsimp only [n_1, n_2, n_3, n_4, List.append_nil, pk, n_5, n_6] at F)
            rw [ed, hset] at F
            refine l_nil (WK.nx (by assumption) ?_)
            refine SeqK.nx (by assumption) ?_
            refine k_lin (fun W K => ?_)
            refine l_op 0 rfl rfl rfl rfl rfl ?_
            refine l_op 0 rfl rfl rfl rfl rfl ?_
            refine l_appi F 3 rfl rfl rfl rfl rfl rfl rfl (F.has 6 rfl) rfl (by omega) hD (fun x2 c2 s F => ?_)
            (try dsimp only [n_1, n_2, n_3, n_4, List.append_nil, pk, n_5, n_6] at F)
            refine l_op 0 rfl rfl rfl rfl rfl ?_
            refine l_nil (WK.nx (by assumption) ?_)
            refine BlkK.nx (by assumption) ?_
            refine SeqK.nx (by assumption) ?_
            refine k_lin (fun W K => ?_)
            refine l_op 0 rfl rfl rfl rfl rfl ?_
            refine l_a64 rfl rfl rfl (by omega) rfl ?_
            refine l_op 0 rfl rfl rfl rfl rfl ?_
            refine l_nil (WK.nx (by assumption) ?_)
            have e1 : (i + 1).toNat = i.toNat + 1 := by omega
            have e2 := dataR_take (ars := ars) hi
            have e3 : (dataR (ars.take i.toNat)).length + (putR (ars.getD i.toNat default).2 (szm (ars.getD i.toNat default).1)).length = (dataR (ars.take (i + 1).toNat)).length := by rw [e1, e2, List.length_append]
            rw [← e2, ← e1, e3] at F
            exact K0.nx (i + 1, x2, c2) (by dsimp only; rw [← e3]; exact (by repeat (first | exact trivial | refine And.intro rfl ?_))) ⟨F.pick [0, 1, 2, 3, 4] (by decide), by omega, by omega, fun j hj => by
              by_cases hji : (j : Int) < i
              · exact hok j hji
              · have : j = i.toNat := by omega
                rw [this]; exact ⟨hmayi, htells⟩⟩ (by first | omega | (simp only; omega))
          first | replace hc9 := ne_of_beq_false ((irr_eq _).symm.trans hc9) | simp only [irr_eq, beq_iff_eq, beq_eq_false_iff_ne, ne_eq, decide_eq_true_eq, decide_eq_false_iff_not] at hc9
          have hp0 : i.toNat % 2 = 0 := by omega
          have hxv : (pkz ms i.toNat).getD (i.toNat / 2) 0 = 0 := by rw [hpa, if_neg (by omega), if_neg (by omega)]; rfl
          rw [if_pos hp0, hxv] at hset
          refine k_lin (fun W K => ?_)
          refine l_op 0 rfl rfl rfl rfl rfl ?_
          refine l_op 0 rfl rfl rfl rfl rfl ?_
          first | refine l_quon rfl rfl rfl rfl rfl (by omega) rfl ?_ | refine l_quou64 rfl rfl rfl rfl rfl (by omega) rfl ?_ | refine l_quou32 rfl rfl rfl rfl rfl (by omega) rfl ?_ | refine l_quo rfl rfl rfl rfl rfl (by omega) rfl ?_
          refine l_op 2 rfl rfl rfl rfl rfl ?_
          refine l_ldc F 5 rfl rfl rfl rfl rfl rfl rfl ?_
          refine l_c8 rfl rfl rfl (by omega) rfl ?_
          refine l_ixoi F 4 rfl rfl rfl rfl rfl rfl rfl (by omega) (fun m123 e123 ha123 hA123 => ?_)
          cases ha123
          refine l_stoi F 4 rfl rfl rfl rfl rfl rfl rfl (by omega) hD (fun s F => ?_)
          (try dsimp only [n_1, n_2, n_3, n_4, List.append_nil, pk, n_5, n_6] at F)
          have hset0 : (pkz ms i.toNat).set (i.toNat / 2) (ars.getD i.toNat default).1 = pkz ms (i.toNat + 1) := by
            rw [show (0 : Int) + 1 * (ars.getD i.toNat default).1 = (ars.getD i.toNat default).1 by omega] at hset
            exact hset
          rw [ed, hset0] at F
          refine l_nil (WK.nx (by assumption) ?_)
          refine SeqK.nx (by assumption) ?_
          refine k_lin (fun W K => ?_)
          refine l_op 0 rfl rfl rfl rfl rfl ?_
          refine l_op 0 rfl rfl rfl rfl rfl ?_
          refine l_appi F 3 rfl rfl rfl rfl rfl rfl rfl (F.has 6 rfl) rfl (by omega) hD (fun x2 c2 s F => ?_)
          (try dsimp only [n_1, n_2, n_3, n_4, List.append_nil, pk, n_5, n_6] at F)
          refine l_op 0 rfl rfl rfl rfl rfl ?_
          refine l_nil (WK.nx (by assumption) ?_)
          refine BlkK.nx (by assumption) ?_
          refine SeqK.nx (by assumption) ?_
          refine k_lin (fun W K => ?_)
          refine l_op 0 rfl rfl rfl rfl rfl ?_
          refine l_a64 rfl rfl rfl (by omega) rfl ?_
          refine l_op 0 rfl rfl rfl rfl rfl ?_
          refine l_nil (WK.nx (by assumption) ?_)
          have e1 : (i + 1).toNat = i.toNat + 1 := by omega
          have e2 := dataR_take (ars := ars) hi
          have e3 : (dataR (ars.take i.toNat)).length + (putR (ars.getD i.toNat default).2 (szm (ars.getD i.toNat default).1)).length = (dataR (ars.take (i + 1).toNat)).length := by rw [e1, e2, List.length_append]
          rw [← e2, ← e1, e3] at F
          exact K0.nx (i + 1, x2, c2) (by dsimp only; rw [← e3]; exact (by repeat (first | exact trivial | refine And.intro rfl ?_))) ⟨F.pick [0, 1, 2, 3, 4] (by decide), by omega, by omega, fun j hj => by
            by_cases hji : (j : Int) < i
            · exact hok j hji
            · have : j = i.toNat := by omega
              rw [this]; exact ⟨hmayi, htells⟩⟩ (by first | omega | (simp only; omega))
        replace hc7 := of_decide_eq_false ((irr_eq _).symm.trans hc7)
        refine k_skip ?_
        refine SeqK.nx (by assumption) ?_
        refine k_seq (fun Q K => ?_)
        refine k_seq (fun Q K => ?_)
        refine k_lin (fun W K => ?_)
        refine l_op 0 rfl rfl rfl rfl rfl ?_
        refine l_op 2 rfl rfl rfl rfl rfl ?_
        refine l_ldc F 5 rfl rfl rfl rfl rfl rfl rfl ?_
        refine l_cmp rfl rfl rfl rfl ?_
        refine l_nil (WK.nx (by assumption) ?_)
        refine SeqK.nx (by assumption) ?_
        refine l_cond rfl rfl (fun hc10 => ?_) (fun hc10 => ?_)
        · first | replace hc10 := bne_iff_ne.1 ((irr_eq _).symm.trans hc10) | simp only [irr_eq, bne_iff_ne, bne_eq_false_iff_eq, ne_eq, decide_eq_true_eq, decide_eq_false_iff_not, Bool.not_eq_true', Bool.not_eq_false'] at hc10
          have hbad : tellsR (ars.getD i.toNat default).1 (ars.getD i.toNat default).2 = false := by
            rw [Bool.eq_false_iff]
            intro ht
            have hne := hc10
            try simp only [extR_zero, hpl] at hne
            first
              | exact hne ((tb0 (by omega)).1 ht)
              | exact hne ((tb2 hsi hAi (by omega) (by omega)).1 ht)
              | exact hne ((tb3 hsi hAi (by omega) (by omega)).1 ht)
          have hr : encR sgR op ars = none := by
            unfold encR
            rw [hsg]
            simp only
            rw [if_neg (by omega), if_pos (okArgs_not _ _ i.toNat (by omega) hi (.inr hbad))]
          refine k_seq (fun Q K => ?_)
          refine k_lin (fun W K => ?_)
          refine l_op 0 rfl rfl rfl rfl rfl ?_
          refine l_op 0 rfl rfl rfl rfl rfl ?_
          refine l_nil (WK.nx (by assumption) ?_)
          refine SeqK.nx (by assumption) ?_
          refine k_ret ?_
          refine SeqK.rt (by assumption) ?_
          refine BlkK.rt (by assumption) ?_
          refine SeqK.rt (by assumption) ?_
          refine LoopK.rt (by assumption) ?_
          refine BlkK.rt (by assumption) ?_
          refine SeqK.rt (by assumption) ?_
          refine FunK.rt (by assumption) rfl ?_
          -- leaf 5
          first
            | (rw [hr]; exact ⟨(none, 0), rfl, F.pick [0] (by decide), trivial⟩)
            | (rw [hr]
               have el : (opB op).length + km + (dataR (ars.take i.toNat)).length = (opB op ++ restR ars).length := by
                 rw [hall]
                 simp only [restR, List.length_append, hmd]; omega
               have er : opB op ++ packR ms ++ dataR (ars.take i.toNat) = opB op ++ restR ars := by rw [hall]; simp only [restR, hmd, List.append_assoc]
               rw [el, er] at F
               exact ⟨(x6, c6), by rw [el]; rfl, F.pick [2] (by decide), trivial⟩)
        first | replace hc10 := bne_eq_false_iff_eq.1 ((irr_eq _).symm.trans hc10) | simp only [irr_eq, bne_iff_ne, bne_eq_false_iff_eq, ne_eq, decide_eq_true_eq, decide_eq_false_iff_not, Bool.not_eq_true', Bool.not_eq_false'] at hc10
        have htells : tellsR (ars.getD i.toNat default).1 (ars.getD i.toNat default).2 = true := by
          have hne := hc10
          try simp only [extR_zero, hpl] at hne
          first
            | exact (tb0 (by omega)).2 hne
            | exact (tb2 hsi hAi (by omega) (by omega)).2 hne
            | exact (tb3 hsi hAi (by omega) (by omega)).2 hne
        refine k_skip ?_
        refine SeqK.nx (by assumption) ?_
        refine k_seq (fun Q K => ?_)
        refine k_seq (fun Q K => ?_)
        refine k_lin (fun W K => ?_)
        refine l_op 0 rfl rfl rfl rfl rfl ?_
        first | refine l_remn rfl rfl rfl rfl rfl (by omega) rfl ?_ | refine l_rem rfl rfl rfl rfl rfl (by omega) rfl ?_
        refine l_cmp rfl rfl rfl rfl ?_
        refine l_nil (WK.nx (by assumption) ?_)
        refine SeqK.nx (by assumption) ?_
        refine l_cond rfl rfl (fun hc11 => ?_) (fun hc11 => ?_)
        · first | replace hc11 := eq_of_beq ((irr_eq _).symm.trans hc11) | simp only [irr_eq, beq_iff_eq, beq_eq_false_iff_ne, ne_eq, decide_eq_true_eq, decide_eq_false_iff_not] at hc11
          have hp1 : i.toNat % 2 = 1 := by omega
          have hxv : 0 ≤ (pkz ms i.toNat).getD (i / 2).toNat 0 ∧ (pkz ms i.toNat).getD (i / 2).toNat 0 ≤ 15 := by
            rw [ed, hpa, if_pos (by omega), if_neg (by omega), hmg _ (by omega)]
            have := szm_cases (may_sz (hok (2 * (i.toNat / 2)) (by omega)).1)
            omega
          rw [if_neg (by omega)] at hset
          refine k_linm [0, 1, 2, 3, 4, 5, 6, 8, 7, 9, 10, 11, 12, 13, 14] mixed (by kernel_rfl) (fun W K => ?_)
          try have hpS := F.pns
          refine l_op 0 rfl rfl rfl rfl rfl ?_
          refine l_op 0 rfl rfl rfl rfl rfl ?_
          first | refine l_quon rfl rfl rfl rfl rfl (by omega) rfl ?_ | refine l_quou64 rfl rfl rfl rfl rfl (by omega) rfl ?_ | refine l_quou32 rfl rfl rfl rfl rfl (by omega) rfl ?_ | refine l_quo rfl rfl rfl rfl rfl (by omega) rfl ?_
          refine l_op 0 rfl rfl rfl rfl rfl ?_
          refine l_op 0 rfl rfl rfl rfl rfl ?_
          first | refine l_quon rfl rfl rfl rfl rfl (by omega) rfl ?_ | refine l_quou64 rfl rfl rfl rfl rfl (by omega) rfl ?_ | refine l_quou32 rfl rfl rfl rfl rfl (by omega) rfl ?_ | refine l_quo rfl rfl rfl rfl rfl (by omega) rfl ?_
          refine l_ixoi F 4 rfl rfl rfl rfl rfl rfl rfl (by omega) (fun m109 e109 ha109 hA109 => ?_)
          cases ha109
          refine l_op 2 rfl rfl rfl rfl rfl ?_
          refine l_ld0 rfl rfl rfl rfl rfl (by assumption) ?_
          first | have hpS := PnS.add hpS hS109 | have hpS := PnS.add hpS (OldC.sf (by assumption)) | skip
          refine l_ldc F 5 rfl rfl rfl rfl rfl rfl rfl ?_
          first | have hpS := PnS.add hpS hS10 | have hpS := PnS.add hpS (OldC.sf (by assumption)) | skip
          refine l_a64 rfl rfl rfl (by omega) rfl ?_
          refine l_c8 rfl rfl rfl (by omega) rfl ?_
          refine l_a8 rfl rfl rfl (by omega) rfl ?_
          refine l_ixoi F 4 rfl rfl rfl rfl rfl rfl rfl (by omega) (fun m116 e116 ha116 hA116 => ?_)
          cases ha116
          refine l_rs (by kernel_rfl) ?_
          refine l_stoi F 4 rfl rfl rfl rfl rfl rfl rfl (by omega) hD (fun s F => ?_)
          (try dsimp only [n_1, n_2, n_3, n_4, List.append_nil, pk, n_5, n_6] at F)
          rw [ed, hset] at F
          refine l_nil (WK.nx (by assumption) ?_)
          refine SeqK.nx (by assumption) ?_
          refine k_lin (fun W K => ?_)
          refine l_op 0 rfl rfl rfl rfl rfl ?_
          refine l_op 0 rfl rfl rfl rfl rfl ?_
          refine l_appi F 3 rfl rfl rfl rfl rfl rfl rfl (F.has 6 rfl) rfl (by omega) hD (fun x2 c2 s F => ?_)
          (try dsimp only [n_1, n_2, n_3, n_4, List.append_nil, pk, n_5, n_6] at F)
          refine l_op 0 rfl rfl rfl rfl rfl ?_
          refine l_nil (WK.nx (by assumption) ?_)
          refine BlkK.nx (by assumption) ?_
          refine SeqK.nx (by assumption) ?_
          refine k_lin (fun W K => ?_)
          refine l_op 0 rfl rfl rfl rfl rfl ?_
          refine l_a64 rfl rfl rfl (by omega) rfl ?_
          refine l_op 0 rfl rfl rfl rfl rfl ?_
          refine l_nil (WK.nx (by assumption) ?_)
          have e1 : (i + 1).toNat = i.toNat + 1 := by omega
          have e2 := dataR_take (ars := ars) hi
          have e3 : (dataR (ars.take i.toNat)).length + (putR (ars.getD i.toNat default).2 (szm (ars.getD i.toNat default).1)).length = (dataR (ars.take (i + 1).toNat)).length := by rw [e1, e2, List.length_append]
          rw [← e2, ← e1, e3] at F
          exact K0.nx (i + 1, x2, c2) (by dsimp only; rw [← e3]; exact (by repeat (first | exact trivial | refine And.intro rfl ?_))) ⟨F.pick [0, 1, 2, 3, 4] (by decide), by omega, by omega, fun j hj => by
            by_cases hji : (j : Int) < i
            · exact hok j hji
            · have : j = i.toNat := by omega
              rw [this]; exact ⟨hmayi, htells⟩⟩ (by first | omega | (simp only; omega))
        first | replace hc11 := ne_of_beq_false ((irr_eq _).symm.trans hc11) | simp only [irr_eq, beq_iff_eq, beq_eq_false_iff_ne, ne_eq, decide_eq_true_eq, decide_eq_false_iff_not] at hc11
        have hp0 : i.toNat % 2 = 0 := by omega
        have hxv : (pkz ms i.toNat).getD (i.toNat / 2) 0 = 0 := by rw [hpa, if_neg (by omega), if_neg (by omega)]; rfl
        rw [if_pos hp0, hxv] at hset
        refine k_lin (fun W K => ?_)
        refine l_op 0 rfl rfl rfl rfl rfl ?_
        refine l_op 0 rfl rfl rfl rfl rfl ?_
        first | refine l_quon rfl rfl rfl rfl rfl (by omega) rfl ?_ | refine l_quou64 rfl rfl rfl rfl rfl (by omega) rfl ?_ | refine l_quou32 rfl rfl rfl rfl rfl (by omega) rfl ?_ | refine l_quo rfl rfl rfl rfl rfl (by omega) rfl ?_
        refine l_op 2 rfl rfl rfl rfl rfl ?_
        refine l_ldc F 5 rfl rfl rfl rfl rfl rfl rfl ?_
        refine l_c8 rfl rfl rfl (by omega) rfl ?_
        refine l_ixoi F 4 rfl rfl rfl rfl rfl rfl rfl (by omega) (fun m123 e123 ha123 hA123 => ?_)
        cases ha123
        refine l_stoi F 4 rfl rfl rfl rfl rfl rfl rfl (by omega) hD (fun s F => ?_)
        (try dsimp only [n_1, n_2, n_3, n_4, List.append_nil, pk, n_5, n_6] at F)
        have hset0 : (pkz ms i.toNat).set (i.toNat / 2) (ars.getD i.toNat default).1 = pkz ms (i.toNat + 1) := by
          rw [show (0 : Int) + 1 * (ars.getD i.toNat default).1 = (ars.getD i.toNat default).1 by omega] at hset
          exact hset
        rw [ed, hset0] at F
        refine l_nil (WK.nx (by assumption) ?_)
        refine SeqK.nx (by assumption) ?_
        refine k_lin (fun W K => ?_)
        refine l_op 0 rfl rfl rfl rfl rfl ?_
        refine l_op 0 rfl rfl rfl rfl rfl ?_
        refine l_appi F 3 rfl rfl rfl rfl rfl rfl rfl (F.has 6 rfl) rfl (by omega) hD (fun x2 c2 s F => ?_)
        (try dsimp only [n_1, n_2, n_3, n_4, List.append_nil, pk, n_5, n_6] at F)
        refine l_op 0 rfl rfl rfl rfl rfl ?_
        refine l_nil (WK.nx (by assumption) ?_)
        refine BlkK.nx (by assumption) ?_
        refine SeqK.nx (by assumption) ?_
        refine k_lin (fun W K => ?_)
        refine l_op 0 rfl rfl rfl rfl rfl ?_
        refine l_a64 rfl rfl rfl (by omega) rfl ?_
        refine l_op 0 rfl rfl rfl rfl rfl ?_
        refine l_nil (WK.nx (by assumption) ?_)
        have e1 : (i + 1).toNat = i.toNat + 1 := by omega
        have e2 := dataR_take (ars := ars) hi
        have e3 : (dataR (ars.take i.toNat)).length + (putR (ars.getD i.toNat default).2 (szm (ars.getD i.toNat default).1)).length = (dataR (ars.take (i + 1).toNat)).length := by rw [e1, e2, List.length_append]
        rw [← e2, ← e1, e3] at F
        exact K0.nx (i + 1, x2, c2) (by dsimp only; rw [← e3]; exact (by repeat (first | exact trivial | refine And.intro rfl ?_))) ⟨F.pick [0, 1, 2, 3, 4] (by decide), by omega, by omega, fun j hj => by
          by_cases hji : (j : Int) < i
          · exact hok j hji
          · have : j = i.toNat := by omega
            rw [this]; exact ⟨hmayi, htells⟩⟩ (by first | omega | (simp only; omega))
      replace hc6 := of_decide_eq_false ((irr_eq _).symm.trans hc6)
      refine k_skip ?_
      refine SeqK.nx (by assumption) ?_
      refine k_seq (fun Q K => ?_)
      refine k_seq (fun Q K => ?_)
      refine k_lin (fun W K => ?_)
      refine l_op 2 rfl rfl rfl rfl rfl ?_
      refine l_ldc F 5 rfl rfl rfl rfl rfl rfl rfl ?_
      refine l_cmp rfl rfl rfl rfl ?_
      refine l_nil (WK.nx (by assumption) ?_)
      refine SeqK.nx (by assumption) ?_
      refine l_cond rfl rfl (fun hc12 => ?_) (fun hc12 => ?_)
      · replace hc12 := of_decide_eq_true ((irr_eq _).symm.trans hc12)
        refine k_lin (fun W K => ?_)
        refine l_op 0 rfl rfl rfl rfl rfl ?_
        refine l_op 0 rfl rfl rfl rfl rfl ?_
        first | refine l_op 2 rfl rfl rfl rfl rfl ?_ | refine l_ln rfl rfl rfl rfl ?_
        first
          | refine l_callp F rfl rfl (by kernel_rfl) rfl rfl (rextend_call (x := (ars.getD i.toNat default).2 % 256 ^ (szm (ars.getD i.toNat default).1).toNat) (emod_u32 _ va0 va1)) (fun _ s F _ => ?_)
          | refine l_callp F rfl rfl (by kernel_rfl) rfl rfl (rextend_call (x := 0) ⟨by decide, by decide⟩) (fun _ s F _ => ?_)
        (try dsimp only [n_1, n_2, n_3, n_4, List.append_nil, pk, n_5, n_6] at F)
        refine l_op 0 rfl rfl rfl rfl rfl ?_
        refine l_nil (WK.nx (by assumption) ?_)
        refine SeqK.nx (by assumption) ?_
        refine k_seq (fun Q K => ?_)
        refine k_seq (fun Q K => ?_)
        refine k_lin (fun W K => ?_)
        refine l_op 0 rfl rfl rfl rfl rfl ?_
        refine l_op 2 rfl rfl rfl rfl rfl ?_
        refine l_ldc F 5 rfl rfl rfl rfl rfl rfl rfl ?_
        refine l_cmp rfl rfl rfl rfl ?_
        refine l_nil (WK.nx (by assumption) ?_)
        refine SeqK.nx (by assumption) ?_
        refine l_cond rfl rfl (fun hc13 => ?_) (fun hc13 => ?_)
        · first | replace hc13 := bne_iff_ne.1 ((irr_eq _).symm.trans hc13) | simp only [irr_eq, bne_iff_ne, bne_eq_false_iff_eq, ne_eq, decide_eq_true_eq, decide_eq_false_iff_not, Bool.not_eq_true', Bool.not_eq_false'] at hc13
          have hbad : tellsR (ars.getD i.toNat default).1 (ars.getD i.toNat default).2 = false := by
            rw [Bool.eq_false_iff]
            intro ht
            have hne := hc13
            try simp only [extR_zero, hpl] at hne
            first
              | exact hne ((tb0 (by omega)).1 ht)
              | exact hne ((tb2 hsi hAi (by omega) (by omega)).1 ht)
              | exact hne ((tb3 hsi hAi (by omega) (by omega)).1 ht)
          have hr : encR sgR op ars = none := by
            unfold encR
            rw [hsg]
            simp only
            rw [if_neg (by omega), if_pos (okArgs_not _ _ i.toNat (by omega) hi (.inr hbad))]
          refine k_seq (fun Q K => ?_)
          refine k_lin (fun W K => ?_)
          refine l_op 0 rfl rfl rfl rfl rfl ?_
          refine l_op 0 rfl rfl rfl rfl rfl ?_
          refine l_nil (WK.nx (by assumption) ?_)
          refine SeqK.nx (by assumption) ?_
          refine k_ret ?_
          refine SeqK.rt (by assumption) ?_
          refine BlkK.rt (by assumption) ?_
          refine SeqK.rt (by assumption) ?_
          refine LoopK.rt (by assumption) ?_
          refine BlkK.rt (by assumption) ?_
          refine SeqK.rt (by assumption) ?_
          refine FunK.rt (by assumption) rfl ?_
          -- leaf 6
          first
            | (rw [hr]; exact ⟨(none, 0), rfl, F.pick [0] (by decide), trivial⟩)
            | (rw [hr]
               have el : (opB op).length + km + (dataR (ars.take i.toNat)).length = (opB op ++ restR ars).length := by
                 rw [hall]
                 simp only [restR, List.length_append, hmd]; omega
               have er : opB op ++ packR ms ++ dataR (ars.take i.toNat) = opB op ++ restR ars := by rw [hall]; simp only [restR, hmd, List.append_assoc]
               rw [el, er] at F
               exact ⟨(x6, c6), by rw [el]; rfl, F.pick [2] (by decide), trivial⟩)
        first | replace hc13 := bne_eq_false_iff_eq.1 ((irr_eq _).symm.trans hc13) | simp only [irr_eq, bne_iff_ne, bne_eq_false_iff_eq, ne_eq, decide_eq_true_eq, decide_eq_false_iff_not, Bool.not_eq_true', Bool.not_eq_false'] at hc13
        have htells : tellsR (ars.getD i.toNat default).1 (ars.getD i.toNat default).2 = true := by
          have hne := hc13
          try simp only [extR_zero, hpl] at hne
          first
            | exact (tb0 (by omega)).2 hne
            | exact (tb2 hsi hAi (by omega) (by omega)).2 hne
            | exact (tb3 hsi hAi (by omega) (by omega)).2 hne
        refine k_skip ?_
        refine SeqK.nx (by assumption) ?_
        refine k_seq (fun Q K => ?_)
        refine k_seq (fun Q K => ?_)
        refine k_lin (fun W K => ?_)
        refine l_op 0 rfl rfl rfl rfl rfl ?_
        first | refine l_remn rfl rfl rfl rfl rfl (by omega) rfl ?_ | refine l_rem rfl rfl rfl rfl rfl (by omega) rfl ?_
        refine l_cmp rfl rfl rfl rfl ?_
        refine l_nil (WK.nx (by assumption) ?_)
        refine SeqK.nx (by assumption) ?_
        refine l_cond rfl rfl (fun hc14 => ?_) (fun hc14 => ?_)
        · first | replace hc14 := eq_of_beq ((irr_eq _).symm.trans hc14) | simp only [irr_eq, beq_iff_eq, beq_eq_false_iff_ne, ne_eq, decide_eq_true_eq, decide_eq_false_iff_not] at hc14
          have hp1 : i.toNat % 2 = 1 := by omega
          have hxv : 0 ≤ (pkz ms i.toNat).getD (i / 2).toNat 0 ∧ (pkz ms i.toNat).getD (i / 2).toNat 0 ≤ 15 := by
            rw [ed, hpa, if_pos (by omega), if_neg (by omega), hmg _ (by omega)]
            have := szm_cases (may_sz (hok (2 * (i.toNat / 2)) (by omega)).1)
            omega
          rw [if_neg (by omega)] at hset
          refine k_linm [0, 1, 2, 3, 4, 5, 6, 8, 7, 9, 10, 11, 12, 13, 14] mixed (by kernel_rfl) (fun W K => ?_)
          try have hpS := F.pns
          refine l_op 0 rfl rfl rfl rfl rfl ?_
          refine l_op 0 rfl rfl rfl rfl rfl ?_
          first | refine l_quon rfl rfl rfl rfl rfl (by omega) rfl ?_ | refine l_quou64 rfl rfl rfl rfl rfl (by omega) rfl ?_ | refine l_quou32 rfl rfl rfl rfl rfl (by omega) rfl ?_ | refine l_quo rfl rfl rfl rfl rfl (by omega) rfl ?_
          refine l_op 0 rfl rfl rfl rfl rfl ?_
          refine l_op 0 rfl rfl rfl rfl rfl ?_
          first | refine l_quon rfl rfl rfl rfl rfl (by omega) rfl ?_ | refine l_quou64 rfl rfl rfl rfl rfl (by omega) rfl ?_ | refine l_quou32 rfl rfl rfl rfl rfl (by omega) rfl ?_ | refine l_quo rfl rfl rfl rfl rfl (by omega) rfl ?_
          refine l_ixoi F 4 rfl rfl rfl rfl rfl rfl rfl (by omega) (fun m109 e109 ha109 hA109 => ?_)
          cases ha109
          refine l_op 2 rfl rfl rfl rfl rfl ?_
          refine l_ld0 rfl rfl rfl rfl rfl (by assumption) ?_
          first | have hpS := PnS.add hpS hS109 | have hpS := PnS.add hpS (OldC.sf (by assumption)) | skip
          refine l_ldc F 5 rfl rfl rfl rfl rfl rfl rfl ?_
          first | have hpS := PnS.add hpS hS10 | have hpS := PnS.add hpS (OldC.sf (by assumption)) | skip
          refine l_a64 rfl rfl rfl (by omega) rfl ?_
          refine l_c8 rfl rfl rfl (by omega) rfl ?_
          refine l_a8 rfl rfl rfl (by omega) rfl ?_
          refine l_ixoi F 4 rfl rfl rfl rfl rfl rfl rfl (by omega) (fun m116 e116 ha116 hA116 => ?_)
          cases ha116
          refine l_rs (by kernel_rfl) ?_
          refine l_stoi F 4 rfl rfl rfl rfl rfl rfl rfl (by omega) hD (fun s F => ?_)
          (try dsimp only [n_1, n_2, n_3, n_4, List.append_nil, pk, n_5, n_6] at F)
          rw [ed, hset] at F
          refine l_nil (WK.nx (by assumption) ?_)
          refine SeqK.nx (by assumption) ?_
          refine k_lin (fun W K => ?_)
          refine l_op 0 rfl rfl rfl rfl rfl ?_
          refine l_op 0 rfl rfl rfl rfl rfl ?_
          refine l_appi F 3 rfl rfl rfl rfl rfl rfl rfl (F.has 6 rfl) rfl (by omega) hD (fun x2 c2 s F => ?_)
          (try dsimp only [n_1, n_2, n_3, n_4, List.append_nil, pk, n_5, n_6] at F)
          refine l_op 0 rfl rfl rfl rfl rfl ?_
          refine l_nil (WK.nx (by assumption) ?_)
          refine BlkK.nx (by assumption) ?_
          refine SeqK.nx (by assumption) ?_
          refine k_lin (fun W K => ?_)
          refine l_op 0 rfl rfl rfl rfl rfl ?_
          refine l_a64 rfl rfl rfl (by omega) rfl ?_
          refine l_op 0 rfl rfl rfl rfl rfl ?_
          refine l_nil (WK.nx (by assumption) ?_)
          have e1 : (i + 1).toNat = i.toNat + 1 := by omega
          have e2 := dataR_take (ars := ars) hi
          have e3 : (dataR (ars.take i.toNat)).length + (putR (ars.getD i.toNat default).2 (szm (ars.getD i.toNat default).1)).length = (dataR (ars.take (i + 1).toNat)).length := by rw [e1, e2, List.length_append]
          rw [← e2, ← e1, e3] at F
          exact K0.nx (i + 1, x2, c2) (by dsimp only; rw [← e3]; exact (by repeat (first | exact trivial | refine And.intro rfl ?_))) ⟨F.pick [0, 1, 2, 3, 4] (by decide), by omega, by omega, fun j hj => by
            by_cases hji : (j : Int) < i
            · exact hok j hji
            · have : j = i.toNat := by omega
              rw [this]; exact ⟨hmayi, htells⟩⟩ (by first | omega | (simp only; omega))
        first | replace hc14 := ne_of_beq_false ((irr_eq _).symm.trans hc14) | simp only [irr_eq, beq_iff_eq, beq_eq_false_iff_ne, ne_eq, decide_eq_true_eq, decide_eq_false_iff_not] at hc14
        have hp0 : i.toNat % 2 = 0 := by omega
        have hxv : (pkz ms i.toNat).getD (i.toNat / 2) 0 = 0 := by rw [hpa, if_neg (by omega), if_neg (by omega)]; rfl
        rw [if_pos hp0, hxv] at hset
        refine k_lin (fun W K => ?_)
        refine l_op 0 rfl rfl rfl rfl rfl ?_
        refine l_op 0 rfl rfl rfl rfl rfl ?_
        first | refine l_quon rfl rfl rfl rfl rfl (by omega) rfl ?_ | refine l_quou64 rfl rfl rfl rfl rfl (by omega) rfl ?_ | refine l_quou32 rfl rfl rfl rfl rfl (by omega) rfl ?_ | refine l_quo rfl rfl rfl rfl rfl (by omega) rfl ?_
        refine l_op 2 rfl rfl rfl rfl rfl ?_
        refine l_ldc F 5 rfl rfl rfl rfl rfl rfl rfl ?_
        refine l_c8 rfl rfl rfl (by omega) rfl ?_
        refine l_ixoi F 4 rfl rfl rfl rfl rfl rfl rfl (by omega) (fun m123 e123 ha123 hA123 => ?_)
        cases ha123
        refine l_stoi F 4 rfl rfl rfl rfl rfl rfl rfl (by omega) hD (fun s F => ?_)
        (try dsimp only [n_1, n_2, n_3, n_4, List.append_nil, pk, n_5, n_6] at F)
        have hset0 : (pkz ms i.toNat).set (i.toNat / 2) (ars.getD i.toNat default).1 = pkz ms (i.toNat + 1) := by
          rw [show (0 : Int) + 1 * (ars.getD i.toNat default).1 = (ars.getD i.toNat default).1 by omega] at hset
          exact hset
        rw [ed, hset0] at F
        refine l_nil (WK.nx (by assumption) ?_)
        refine SeqK.nx (by assumption) ?_
        refine k_lin (fun W K => ?_)
        refine l_op 0 rfl rfl rfl rfl rfl ?_
        refine l_op 0 rfl rfl rfl rfl rfl ?_
        refine l_appi F 3 rfl rfl rfl rfl rfl rfl rfl (F.has 6 rfl) rfl (by omega) hD (fun x2 c2 s F => ?_)
        (try dsimp only [n_1, n_2, n_3, n_4, List.append_nil, pk, n_5, n_6] at F)
        refine l_op 0 rfl rfl rfl rfl rfl ?_
        refine l_nil (WK.nx (by assumption) ?_)
        refine BlkK.nx (by assumption) ?_
        refine SeqK.nx (by assumption) ?_
        refine k_lin (fun W K => ?_)
        refine l_op 0 rfl rfl rfl rfl rfl ?_
        refine l_a64 rfl rfl rfl (by omega) rfl ?_
        refine l_op 0 rfl rfl rfl rfl rfl ?_
        refine l_nil (WK.nx (by assumption) ?_)
        have e1 : (i + 1).toNat = i.toNat + 1 := by omega
        have e2 := dataR_take (ars := ars) hi
        have e3 : (dataR (ars.take i.toNat)).length + (putR (ars.getD i.toNat default).2 (szm (ars.getD i.toNat default).1)).length = (dataR (ars.take (i + 1).toNat)).length := by rw [e1, e2, List.length_append]
        rw [← e2, ← e1, e3] at F
        exact K0.nx (i + 1, x2, c2) (by dsimp only; rw [← e3]; exact (by repeat (first | exact trivial | refine And.intro rfl ?_))) ⟨F.pick [0, 1, 2, 3, 4] (by decide), by omega, by omega, fun j hj => by
          by_cases hji : (j : Int) < i
          · exact hok j hji
          · have : j = i.toNat := by omega
            rw [this]; exact ⟨hmayi, htells⟩⟩ (by first | omega | (simp only; omega))
      replace hc12 := of_decide_eq_false ((irr_eq _).symm.trans hc12)
      refine k_skip ?_
      refine SeqK.nx (by assumption) ?_
      refine k_seq (fun Q K => ?_)
      refine k_seq (fun Q K => ?_)
      refine k_lin (fun W K => ?_)
      refine l_op 0 rfl rfl rfl rfl rfl ?_
      refine l_op 2 rfl rfl rfl rfl rfl ?_
      refine l_ldc F 5 rfl rfl rfl rfl rfl rfl rfl ?_
      refine l_cmp rfl rfl rfl rfl ?_
      refine l_nil (WK.nx (by assumption) ?_)
      refine SeqK.nx (by assumption) ?_
      refine l_cond rfl rfl (fun hc15 => ?_) (fun hc15 => ?_)
      · first | replace hc15 := bne_iff_ne.1 ((irr_eq _).symm.trans hc15) | simp only [irr_eq, bne_iff_ne, bne_eq_false_iff_eq, ne_eq, decide_eq_true_eq, decide_eq_false_iff_not, Bool.not_eq_true', Bool.not_eq_false'] at hc15
        have hbad : tellsR (ars.getD i.toNat default).1 (ars.getD i.toNat default).2 = false := by
          rw [Bool.eq_false_iff]
          intro ht
          have hne := hc15
          try simp only [extR_zero, hpl] at hne
          first
            | exact hne ((tb0 (by omega)).1 ht)
            | exact hne ((tb2 hsi hAi (by omega) (by omega)).1 ht)
            | exact hne ((tb3 hsi hAi (by omega) (by omega)).1 ht)
        have hr : encR sgR op ars = none := by
          unfold encR
          rw [hsg]
          simp only
          rw [if_neg (by omega), if_pos (okArgs_not _ _ i.toNat (by omega) hi (.inr hbad))]
        refine k_seq (fun Q K => ?_)
        refine k_lin (fun W K => ?_)
        refine l_op 0 rfl rfl rfl rfl rfl ?_
        refine l_op 0 rfl rfl rfl rfl rfl ?_
        refine l_nil (WK.nx (by assumption) ?_)
        refine SeqK.nx (by assumption) ?_
        refine k_ret ?_
        refine SeqK.rt (by assumption) ?_
        refine BlkK.rt (by assumption) ?_
        refine SeqK.rt (by assumption) ?_
        refine LoopK.rt (by assumption) ?_
        refine BlkK.rt (by assumption) ?_
        refine SeqK.rt (by assumption) ?_
        refine FunK.rt (by assumption) rfl ?_
        -- leaf 7
        first
          | (rw [hr]; exact ⟨(none, 0), rfl, F.pick [0] (by decide), trivial⟩)
          | (rw [hr]
             have el : (opB op).length + km + (dataR (ars.take i.toNat)).length = (opB op ++ restR ars).length := by
               rw [hall]
               simp only [restR, List.length_append, hmd]; omega
             have er : opB op ++ packR ms ++ dataR (ars.take i.toNat) = opB op ++ restR ars := by rw [hall]; simp only [restR, hmd, List.append_assoc]
             rw [el, er] at F
             exact ⟨(x6, c6), by rw [el]; rfl, F.pick [2] (by decide), trivial⟩)
      first | replace hc15 := bne_eq_false_iff_eq.1 ((irr_eq _).symm.trans hc15) | simp only [irr_eq, bne_iff_ne, bne_eq_false_iff_eq, ne_eq, decide_eq_true_eq, decide_eq_false_iff_not, Bool.not_eq_true', Bool.not_eq_false'] at hc15
      have htells : tellsR (ars.getD i.toNat default).1 (ars.getD i.toNat default).2 = true := by
        have hne := hc15
        try simp only [extR_zero, hpl] at hne
        first
          | exact (tb0 (by omega)).2 hne
          | exact (tb2 hsi hAi (by omega) (by omega)).2 hne
          | exact (tb3 hsi hAi (by omega) (by omega)).2 hne
      refine k_skip ?_
      refine SeqK.nx (by assumption) ?_
      refine k_seq (fun Q K => ?_)
      refine k_seq (fun Q K => ?_)
      refine k_lin (fun W K => ?_)
      refine l_op 0 rfl rfl rfl rfl rfl ?_
      first | refine l_remn rfl rfl rfl rfl rfl (by omega) rfl ?_ | refine l_rem rfl rfl rfl rfl rfl (by omega) rfl ?_
      refine l_cmp rfl rfl rfl rfl ?_
      refine l_nil (WK.nx (by assumption) ?_)
      refine SeqK.nx (by assumption) ?_
      refine l_cond rfl rfl (fun hc16 => ?_) (fun hc16 => ?_)
      · first | replace hc16 := eq_of_beq ((irr_eq _).symm.trans hc16) | simp only [irr_eq, beq_iff_eq, beq_eq_false_iff_ne, ne_eq, decide_eq_true_eq, decide_eq_false_iff_not] at hc16
        have hp1 : i.toNat % 2 = 1 := by omega
        have hxv : 0 ≤ (pkz ms i.toNat).getD (i / 2).toNat 0 ∧ (pkz ms i.toNat).getD (i / 2).toNat 0 ≤ 15 := by
          rw [ed, hpa, if_pos (by omega), if_neg (by omega), hmg _ (by omega)]
          have := szm_cases (may_sz (hok (2 * (i.toNat / 2)) (by omega)).1)
          omega
        rw [if_neg (by omega)] at hset
        refine k_linm [0, 1, 2, 3, 4, 5, 6, 8, 7, 9, 10, 11, 12, 13, 14] mixed (by kernel_rfl) (fun W K => ?_)
        try have hpS := F.pns
        refine l_op 0 rfl rfl rfl rfl rfl ?_
        refine l_op 0 rfl rfl rfl rfl rfl ?_
        first | refine l_quon rfl rfl rfl rfl rfl (by omega) rfl ?_ | refine l_quou64 rfl rfl rfl rfl rfl (by omega) rfl ?_ | refine l_quou32 rfl rfl rfl rfl rfl (by omega) rfl ?_ | refine l_quo rfl rfl rfl rfl rfl (by omega) rfl ?_
        refine l_op 0 rfl rfl rfl rfl rfl ?_
        refine l_op 0 rfl rfl rfl rfl rfl ?_
        first | refine l_quon rfl rfl rfl rfl rfl (by omega) rfl ?_ | refine l_quou64 rfl rfl rfl rfl rfl (by omega) rfl ?_ | refine l_quou32 rfl rfl rfl rfl rfl (by omega) rfl ?_ | refine l_quo rfl rfl rfl rfl rfl (by omega) rfl ?_
        refine l_ixoi F 4 rfl rfl rfl rfl rfl rfl rfl (by omega) (fun m109 e109 ha109 hA109 => ?_)
        cases ha109
        refine l_op 2 rfl rfl rfl rfl rfl ?_
        refine l_ld0 rfl rfl rfl rfl rfl (by assumption) ?_
        first | have hpS := PnS.add hpS hS109 | have hpS := PnS.add hpS (OldC.sf (by assumption)) | skip
        refine l_ldc F 5 rfl rfl rfl rfl rfl rfl rfl ?_
        first | have hpS := PnS.add hpS hS10 | have hpS := PnS.add hpS (OldC.sf (by assumption)) | skip
        refine l_a64 rfl rfl rfl (by omega) rfl ?_
        refine l_c8 rfl rfl rfl (by omega) rfl ?_
        refine l_a8 rfl rfl rfl (by omega) rfl ?_
        refine l_ixoi F 4 rfl rfl rfl rfl rfl rfl rfl (by omega) (fun m116 e116 ha116 hA116 => ?_)
        cases ha116
        refine l_rs (by kernel_rfl) ?_
        refine l_stoi F 4 rfl rfl rfl rfl rfl rfl rfl (by omega) hD (fun s F => ?_)
        (try dsimp only [n_1, n_2, n_3, n_4, List.append_nil, pk, n_5, n_6] at F)
        rw [ed, hset] at F
        refine l_nil (WK.nx (by assumption) ?_)
        refine SeqK.nx (by assumption) ?_
        refine k_lin (fun W K => ?_)
        refine l_op 0 rfl rfl rfl rfl rfl ?_
        refine l_op 0 rfl rfl rfl rfl rfl ?_
        refine l_appi F 3 rfl rfl rfl rfl rfl rfl rfl (F.has 6 rfl) rfl (by omega) hD (fun x2 c2 s F => ?_)
        (try dsimp only [n_1, n_2, n_3, n_4, List.append_nil, pk, n_5, n_6] at F)
        refine l_op 0 rfl rfl rfl rfl rfl ?_
        refine l_nil (WK.nx (by assumption) ?_)
        refine BlkK.nx (by assumption) ?_
        refine SeqK.nx (by assumption) ?_
        refine k_lin (fun W K => ?_)
        refine l_op 0 rfl rfl rfl rfl rfl ?_
        refine l_a64 rfl rfl rfl (by omega) rfl ?_
        refine l_op 0 rfl rfl rfl rfl rfl ?_
        refine l_nil (WK.nx (by assumption) ?_)
        have e1 : (i + 1).toNat = i.toNat + 1 := by omega
        have e2 := dataR_take (ars := ars) hi
        have e3 : (dataR (ars.take i.toNat)).length + (putR (ars.getD i.toNat default).2 (szm (ars.getD i.toNat default).1)).length = (dataR (ars.take (i + 1).toNat)).length := by rw [e1, e2, List.length_append]
        rw [← e2, ← e1, e3] at F
        exact K0.nx (i + 1, x2, c2) (by dsimp only; rw [← e3]; exact (by repeat (first | exact trivial | refine And.intro rfl ?_))) ⟨F.pick [0, 1, 2, 3, 4] (by decide), by omega, by omega, fun j hj => by
          by_cases hji : (j : Int) < i
          · exact hok j hji
          · have : j = i.toNat := by omega
            rw [this]; exact ⟨hmayi, htells⟩⟩ (by first | omega | (simp only; omega))
      first | replace hc16 := ne_of_beq_false ((irr_eq _).symm.trans hc16) | simp only [irr_eq, beq_iff_eq, beq_eq_false_iff_ne, ne_eq, decide_eq_true_eq, decide_eq_false_iff_not] at hc16
      have hp0 : i.toNat % 2 = 0 := by omega
      have hxv : (pkz ms i.toNat).getD (i.toNat / 2) 0 = 0 := by rw [hpa, if_neg (by omega), if_neg (by omega)]; rfl
      rw [if_pos hp0, hxv] at hset
      refine k_lin (fun W K => ?_)
      refine l_op 0 rfl rfl rfl rfl rfl ?_
      refine l_op 0 rfl rfl rfl rfl rfl ?_
      first | refine l_quon rfl rfl rfl rfl rfl (by omega) rfl ?_ | refine l_quou64 rfl rfl rfl rfl rfl (by omega) rfl ?_ | refine l_quou32 rfl rfl rfl rfl rfl (by omega) rfl ?_ | refine l_quo rfl rfl rfl rfl rfl (by omega) rfl ?_
      refine l_op 2 rfl rfl rfl rfl rfl ?_
      refine l_ldc F 5 rfl rfl rfl rfl rfl rfl rfl ?_
      refine l_c8 rfl rfl rfl (by omega) rfl ?_
      refine l_ixoi F 4 rfl rfl rfl rfl rfl rfl rfl (by omega) (fun m123 e123 ha123 hA123 => ?_)
      cases ha123
      refine l_stoi F 4 rfl rfl rfl rfl rfl rfl rfl (by omega) hD (fun s F => ?_)
      (try dsimp only [n_1, n_2, n_3, n_4, List.append_nil, pk, n_5, n_6] at F)
      have hset0 : (pkz ms i.toNat).set (i.toNat / 2) (ars.getD i.toNat default).1 = pkz ms (i.toNat + 1) := by
        rw [show (0 : Int) + 1 * (ars.getD i.toNat default).1 = (ars.getD i.toNat default).1 by omega] at hset
        exact hset
      rw [ed, hset0] at F
      refine l_nil (WK.nx (by assumption) ?_)
      refine SeqK.nx (by assumption) ?_
      refine k_lin (fun W K => ?_)
      refine l_op 0 rfl rfl rfl rfl rfl ?_
      refine l_op 0 rfl rfl rfl rfl rfl ?_
      refine l_appi F 3 rfl rfl rfl rfl rfl rfl rfl (F.has 6 rfl) rfl (by omega) hD (fun x2 c2 s F => ?_)
      (try dsimp only [n_1, n_2, n_3, n_4, List.append_nil, pk, n_5, n_6] at F)
      refine l_op 0 rfl rfl rfl rfl rfl ?_
      refine l_nil (WK.nx (by assumption) ?_)
      refine BlkK.nx (by assumption) ?_
      refine SeqK.nx (by assumption) ?_
      refine k_lin (fun W K => ?_)
      refine l_op 0 rfl rfl rfl rfl rfl ?_
      refine l_a64 rfl rfl rfl (by omega) rfl ?_
      refine l_op 0 rfl rfl rfl rfl rfl ?_
      refine l_nil (WK.nx (by assumption) ?_)
      have e1 : (i + 1).toNat = i.toNat + 1 := by omega
      have e2 := dataR_take (ars := ars) hi
      have e3 : (dataR (ars.take i.toNat)).length + (putR (ars.getD i.toNat default).2 (szm (ars.getD i.toNat default).1)).length = (dataR (ars.take (i + 1).toNat)).length := by rw [e1, e2, List.length_append]
      rw [← e2, ← e1, e3] at F
      exact K0.nx (i + 1, x2, c2) (by dsimp only; rw [← e3]; exact (by repeat (first | exact trivial | refine And.intro rfl ?_))) ⟨F.pick [0, 1, 2, 3, 4] (by decide), by omega, by omega, fun j hj => by
        by_cases hji : (j : Int) < i
        · exact hok j hji
        · have : j = i.toNat := by omega
          rw [this]; exact ⟨hmayi, htells⟩⟩ (by first | omega | (simp only; omega))
    replace hc4 := of_decide_eq_false ((irr_eq _).symm.trans hc4)
    have hall : ars.take i.toNat = ars := List.take_of_length_le (by omega)
    have hall2 : pkz ms i.toNat = packR ms := by rw [show i.toNat = ms.length by omega, pkz_end]
    have hdl := dataR_len ars
    have hpk := packR_len ms
    have hr : encR sgR op ars = some (opB op ++ restR ars) := by
      unfold encR
      rw [hsg]
      simp only
      rw [if_neg (by omega), if_neg (by rw [okArgs_of _ _ (by omega) (fun j hj => hok j (by omega))]; decide)]
    have hob : (opB op).length ≤ 2 := by unfold opB putR; split <;> simp
    rw [hall2] at F
    have hdl2 : (dataR (ars.take i.toNat)).length ≤ 4 * ars.length := by rw [hall]; exact hdl
    refine k_exit ?_
    refine SeqK.et (by assumption) ?_
    refine LoopK.et (by assumption) ?_
    refine BlkK.et (by assumption) ?_
    refine SeqK.nx (by assumption) ?_
    refine k_seq (fun Q K => ?_)
    refine k_lin (fun W K => ?_)
    refine l_op 0 rfl rfl rfl rfl rfl ?_
    refine l_op 0 rfl rfl rfl rfl rfl ?_
    refine l_appi F 2 rfl rfl rfl rfl rfl rfl rfl (F.has 4 rfl) rfl (by omega) hD (fun x5 c5 s F => ?_)
    (try dsimp only [n_1, n_2, n_3, n_4, List.append_nil, pk, n_5, n_6] at F)
    refine l_op 0 rfl rfl rfl rfl rfl ?_
    refine l_appi F 2 rfl rfl rfl rfl rfl rfl rfl (F.has 3 rfl) rfl (by omega) hD (fun x6 c6 s F => ?_)
    (try dsimp only [n_1, n_2, n_3, n_4, List.append_nil, pk, n_5, n_6] at F)
    refine l_op 0 rfl rfl rfl rfl rfl ?_
    refine l_op 0 rfl rfl rfl rfl rfl ?_
    refine l_nil (WK.nx (by assumption) ?_)
    refine SeqK.nx (by assumption) ?_
    refine k_ret ?_
    refine FunK.rt (by assumption) rfl ?_
    -- leaf 8
    first
      | (rw [hr]; exact ⟨(none, 0), rfl, F.pick [0] (by decide), trivial⟩)
      | (rw [hr]
         have el : (opB op).length + km + (dataR (ars.take i.toNat)).length = (opB op ++ restR ars).length := by
           rw [hall]
           simp only [restR, List.length_append, hmd]; omega
         have er : opB op ++ packR ms ++ dataR (ars.take i.toNat) = opB op ++ restR ars := by rw [hall]; simp only [restR, hmd, List.append_assoc]
         rw [el, er] at F
         exact ⟨(x6, c6), by rw [el]; rfl, F.pick [2] (by decide), trivial⟩)
  replace hc3 := of_decide_eq_false ((irr_eq _).symm.trans hc3)
  refine k_lin (fun W K => ?_)
  refine l_op 0 rfl rfl rfl rfl rfl ?_
  refine l_op 2 rfl rfl rfl rfl rfl ?_
  refine l_ldc F 1 rfl rfl rfl rfl rfl rfl rfl ?_
  first | refine l_quon rfl rfl rfl rfl rfl (by omega) rfl ?_ | refine l_quou64 rfl rfl rfl rfl rfl (by omega) rfl ?_ | refine l_quou32 rfl rfl rfl rfl rfl (by omega) rfl ?_ | refine l_quo rfl rfl rfl rfl rfl (by omega) rfl ?_
  refine l_a32 rfl rfl rfl (by omega) rfl ?_
  refine l_c8 rfl rfl rfl (by omega) rfl ?_
  refine l_op 2 rfl rfl rfl rfl rfl ?_
  refine l_ldc F 1 rfl rfl rfl rfl rfl rfl rfl ?_
  first | refine l_remn rfl rfl rfl rfl rfl (by omega) rfl ?_ | refine l_rem rfl rfl rfl rfl rfl (by omega) rfl ?_
  refine l_c8 rfl rfl rfl (by omega) rfl ?_
  refine l_lit F rfl rfl rfl rfl (fun q48 s F => ?_)
  (try dsimp only [n_1, n_2, n_3, n_4, List.append_nil, pk, n_5, n_6] at F)
  have eb : opB op = [128 + op / 256, op % 256] := by
    unfold opB putR
    rw [if_neg (by assumption), if_neg (by decide), if_pos rfl]
    rw [show (op + 32768) / 256 % 256 = 128 + op / 256 by omega, show (op + 32768) % 256 = op % 256 by omega]
  refine l_appi (xs := []) F 2 rfl rfl rfl rfl rfl rfl rfl (ys := [128 + op / 256, op % 256]) (F.has 4 rfl) rfl (by omega) hD (fun xb cb s F => ?_)
  (try dsimp only [n_1, n_2, n_3, n_4, List.append_nil, pk, n_5, n_6] at F)
  have el : (0 : Nat) + 2 = (opB op).length := by rw [eb]; rfl
  rw [← eb, el] at F
  rw [el]
  refine l_op 0 rfl rfl rfl rfl rfl ?_
  refine l_nil (WK.nx (by assumption) ?_)
  refine SeqK.nx (by assumption) ?_
  refine k_seq (fun Q K => ?_)
  refine k_lin (fun W K => ?_)
  refine l_op 0 rfl rfl rfl rfl rfl ?_
  first | refine l_op 2 rfl rfl rfl rfl rfl ?_ | refine l_ln rfl rfl rfl rfl ?_
  refine l_a64 rfl rfl rfl (by omega) rfl ?_
  first | refine l_quon rfl rfl rfl rfl rfl (by omega) rfl ?_ | refine l_quou64 rfl rfl rfl rfl rfl (by omega) rfl ?_ | refine l_quou32 rfl rfl rfl rfl rfl (by omega) rfl ?_ | refine l_quo rfl rfl rfl rfl rfl (by omega) rfl ?_
  refine l_mk F rfl rfl rfl rfl rfl rfl rfl (by omega) (fun q54 s F => ?_)
  (try dsimp only [n_1, n_2, n_3, n_4, List.append_nil, pk, n_5, n_6] at F)
  refine l_op 0 rfl rfl rfl rfl rfl ?_
  refine l_nil (WK.nx (by assumption) ?_)
  refine SeqK.nx (by assumption) ?_
  refine k_seq (fun Q K => ?_)
  refine k_seq (fun Q K => ?_)
  refine k_lin (fun W K => ?_)
  refine l_op 0 rfl rfl rfl rfl rfl ?_
  refine l_nil (WK.nx (by assumption) ?_)
  refine SeqK.nx (by assumption) ?_
  refine k_block (fun Q K => ?_)
  obtain ⟨ms, hmd⟩ : ∃ ms, ars.map Prod.fst = ms := ⟨_, rfl⟩
  rw [hmd] at hms
  have hmg : ∀ j : Nat, j < ars.length → ms.getD j 0 = (ars.getD j default).1 := fun j hj => by rw [← hmd]; simp [List.getD, hj]
  generalize hK : ((((sp.1.size : Nat) : Int) + 1) / 2).toNat = km at F ⊢
  have hkm : km = (ms.length + 1) / 2 := by omega
  have F0 := F.pick [0, 1, 2, 3, 5] (by decide)
  clear F
  have F : Facts E0 σ s [own none 0 0 1 [], cel q1 [.int .u32 op, .slice ax ars.length cx], own xb (opB op).length cb 1 (u8l (opB op)), own none 0 0 1 [], own (some ⟨q54, 0, some 0⟩) km km 1 (u8l (pkz ms 0))] := by
    rw [pkz_zero, ← hkm, ← zrow8]
    exact F0
  refine k_loop (α := Int × Option Addr × Nat) (fun ⟨i, yd, cd⟩ s => Facts E0 σ s [own none 0 0 1 [], cel q1 [.int .u32 op, .slice ax ars.length cx], own xb (opB op).length cb 1 (u8l (opB op)), own yd (dataR (ars.take i.toNat)).length cd 1 (u8l (dataR (ars.take i.toNat))), own (some ⟨q54, 0, some 0⟩) km km 1 (u8l (pkz ms i.toNat))] ∧ 0 ≤ i ∧ i ≤ ars.length ∧ ∀ j : Nat, j < i → mayR ((ltr sp.1).getD j 0) (ars.getD j default).1 = true ∧ tellsR (ars.getD j default).1 (ars.getD j default).2 = true) (fun ⟨i, yd, cd⟩ => [(1, .pointer (some ⟨q1, 0, none⟩)), (4, .string sp.1), (6, .slice xb (opB op).length cb), (7, .slice yd (dataR (ars.take i.toNat)).length cd), (8, .slice (some ⟨q54, 0, some 0⟩) km km), (9, .int .i64 i)]) (fun ⟨i, _⟩ => (ars.length - i).toNat) (0, none, 0) ⟨F, by omega, by omega, fun j hj => by omega⟩ (by repeat (first | exact trivial | refine And.intro rfl ?_)) ?_
  clear F
  rintro ⟨i, yd, cd⟩ env s Q K0 ⟨F, i0, i1, hok⟩
  refine k_seq (fun Q K => ?_)
  refine k_seq (fun Q K => ?_)
  refine k_lin (fun W K => ?_)
  refine l_op 0 rfl rfl rfl rfl rfl ?_
  refine l_op 0 rfl rfl rfl rfl rfl ?_
  first | refine l_op 2 rfl rfl rfl rfl rfl ?_ | refine l_ln rfl rfl rfl rfl ?_
  refine l_cmp rfl rfl rfl rfl ?_
  refine l_nil (WK.nx (by assumption) ?_)
  refine SeqK.nx (by assumption) ?_
  refine l_cond rfl rfl (fun hc17 => ?_) (fun hc17 => ?_)
  · replace hc17 := of_decide_eq_true ((irr_eq _).symm.trans hc17)
    have hi : i.toNat < ars.length := by omega
    have hAi := hA.at i.toNat
    have hAi' := hAi
    obtain ⟨va0, va1⟩ := hAi'
    have hdl := dataR_len (ars.take i.toNat)
    rw [List.length_take] at hdl
    refine k_skip ?_
    refine SeqK.nx (by assumption) ?_
    refine k_seq (fun Q K => ?_)
    refine k_block (fun Q K => ?_)
    refine k_seq (fun Q K => ?_)
    refine k_lin (fun W K => ?_)
    refine l_op 2 rfl rfl rfl rfl rfl ?_
    refine l_ldc F 1 rfl rfl rfl rfl rfl rfl rfl ?_
    refine l_op 0 rfl rfl rfl rfl rfl ?_
    refine l_ixr (e := eO) rfl rfl rfl rfl rfl rfl (F.old h) ⟨eO_len, by decide⟩ (by omega) (fun m64 b64 hA64 => ?_)
    refine l_lda (ws := eO (ars.getD i.toNat default)) rfl rfl rfl rfl rfl hA64 ?_
    refine l_al F rfl rfl rfl rfl (fun q10 s F => ?_)
    (try dsimp only [n_1, n_2, n_3, n_4, List.append_nil, pk, n_5, n_6] at F)
    refine l_stca F 5 rfl rfl rfl rfl rfl rfl rfl rfl rfl rfl hD rfl (fun s F => ?_)
    (try dsimp only [n_1, n_2, n_3, n_4, List.append_nil, pk, n_5, n_6] at F)
    refine l_nil (WK.nx (by assumption) ?_)
    refine SeqK.nx (by assumption) ?_
    refine k_seq (fun Q K => ?_)
    refine k_seq (fun Q K => ?_)
    refine k_linr mixed (by kernel_rfl) (fun W K => ?_)
    try have hpS := F.pns
    refine l_op 0 rfl rfl rfl rfl rfl ?_
    refine l_op 0 rfl rfl rfl rfl rfl ?_
    refine l_sx rfl rfl rfl rfl rfl (by omega) ?_
    refine l_op 2 rfl rfl rfl rfl rfl ?_
    refine l_ldc F 5 rfl rfl rfl rfl rfl rfl rfl ?_
    first | have hpS := PnS.add hpS hS10 | have hpS := PnS.add hpS (OldC.sf (by assumption)) | skip
    have hpA := PnA.cel F 5 rfl pna_nil
    refine l_callp F rfl rfl (by kernel_rfl) rfl rfl rmay_call (fun _ s F _ => ?_)
    (try dsimp only [n_1, n_2, n_3, n_4, List.append_nil, pk, n_5, n_6] at F)
    refine l_op 2 rfl rfl rfl rfl rfl ?_
    refine l_nil (WK.nx (by assumption) ?_)
    refine SeqK.nx (by assumption) ?_
    refine l_cond rfl rfl (fun hc18 => ?_) (fun hc18 => ?_)
    · try simp only [irr_eq, beq_iff_eq, bne_iff_ne, beq_eq_false_iff_ne, bne_eq_false_iff_eq, ne_eq, decide_eq_true_eq, decide_eq_false_iff_not, Bool.not_eq_true', Bool.not_eq_false'] at hc18
      have hr : encR sgR op ars = none := by
        unfold encR
        rw [hsg]
        simp only
        rw [if_neg (by omega), if_pos (okArgs_not _ _ i.toNat (by omega) hi (.inl hc18))]
      refine k_seq (fun Q K => ?_)
      refine k_lin (fun W K => ?_)
      refine l_op 0 rfl rfl rfl rfl rfl ?_
      refine l_op 0 rfl rfl rfl rfl rfl ?_
      refine l_nil (WK.nx (by assumption) ?_)
      refine SeqK.nx (by assumption) ?_
      refine k_ret ?_
      refine SeqK.rt (by assumption) ?_
      refine BlkK.rt (by assumption) ?_
      refine SeqK.rt (by assumption) ?_
      refine LoopK.rt (by assumption) ?_
      refine BlkK.rt (by assumption) ?_
      refine SeqK.rt (by assumption) ?_
      refine FunK.rt (by assumption) rfl ?_
      -- leaf 9
      first
        | (rw [hr]; exact ⟨(none, 0), rfl, F.pick [0] (by decide), trivial⟩)
        | (rw [hr]
           have el : (opB op).length + km + (dataR (ars.take i.toNat)).length = (opB op ++ restR ars).length := by
             rw [hall]
             simp only [restR, List.length_append, hmd]; omega
           have er : opB op ++ packR ms ++ dataR (ars.take i.toNat) = opB op ++ restR ars := by rw [hall]; simp only [restR, hmd, List.append_assoc]
           rw [el, er] at F
           exact ⟨(x6, c6), by rw [el]; rfl, F.pick [2] (by decide), trivial⟩)
    try simp only [irr_eq, beq_iff_eq, bne_iff_ne, beq_eq_false_iff_ne, bne_eq_false_iff_eq, ne_eq, decide_eq_true_eq, decide_eq_false_iff_not, Bool.not_eq_true', Bool.not_eq_false'] at hc18
    have hmayi := hc18
    have hsi := may_sz hmayi
    obtain ⟨z0, z1, z2, z3⟩ := szm_cases hsi
    have ed : (i / 2).toNat = i.toNat / 2 := by omega
    have hpa := pkz_at (ms := ms) (i := i.toNat) (j := i.toNat / 2) (by omega)
    have hset := pkz_step (ms := ms) (i := i.toNat) (by omega)
    rw [hmg _ hi] at hset
    refine k_skip ?_
    refine SeqK.nx (by assumption) ?_
    refine k_seq (fun Q K => ?_)
    refine k_linm [0, 2, 1, 3, 4, 5, 6] mixed (by kernel_rfl) (fun W K => ?_)
    try have hpS := F.pns
    refine l_op 2 rfl rfl rfl rfl rfl ?_
    refine l_op 2 rfl rfl rfl rfl rfl ?_
    refine l_ldc F 5 rfl rfl rfl rfl rfl rfl rfl ?_
    first | have hpS := PnS.add hpS hS10 | have hpS := PnS.add hpS (OldC.sf (by assumption)) | skip
    refine l_ldc F 5 rfl rfl rfl rfl rfl rfl rfl ?_
    first | have hpS := PnS.add hpS hS10 | have hpS := PnS.add hpS (OldC.sf (by assumption)) | skip
    have hpA := PnA.cel F 5 rfl (PnA.cel F 5 rfl pna_nil)
    refine l_callp F rfl rfl (by kernel_rfl) rfl rfl rsize_call (fun _ s F _ => ?_)
    (try dsimp only [n_1, n_2, n_3, n_4, List.append_nil, pk, n_5, n_6] at F)
    have hpA := PnA.cel F 5 rfl (PnA.cel F 5 rfl pna_nil)
    refine l_callp F rfl rfl (by kernel_rfl) rfl rfl (rput_call hAi) (fun yp s F _ => ?_)
    (try dsimp only [n_1, n_2, n_3, n_4, List.append_nil, pk, n_5, n_6] at F)
    have hpl := putR_len (v := (ars.getD i.toNat default).2) z2
    refine l_op 0 rfl rfl rfl rfl rfl ?_
    refine l_nil (WK.nx (by assumption) ?_)
    refine SeqK.nx (by assumption) ?_
    refine k_seq (fun Q K => ?_)
    refine k_lin (fun W K => ?_)
    refine l_op 0 rfl rfl rfl rfl rfl ?_
    refine l_nil (WK.nx (by assumption) ?_)
    refine SeqK.nx (by assumption) ?_
    refine k_seq (fun Q K => ?_)
    refine k_seq (fun Q K => ?_)
    refine k_lin (fun W K => ?_)
    refine l_op 0 rfl rfl rfl rfl rfl ?_
    first | refine l_op 2 rfl rfl rfl rfl rfl ?_ | refine l_ln rfl rfl rfl rfl ?_
    refine l_cmp rfl rfl rfl rfl ?_
    refine l_nil (WK.nx (by assumption) ?_)
    refine SeqK.nx (by assumption) ?_
    refine l_cond rfl rfl (fun hc19 => ?_) (fun hc19 => ?_)
    · replace hc19 := of_decide_eq_true ((irr_eq _).symm.trans hc19)
      refine k_lin (fun W K => ?_)
      refine l_op 0 rfl rfl rfl rfl rfl ?_
      refine l_op 0 rfl rfl rfl rfl rfl ?_
      first | refine l_op 2 rfl rfl rfl rfl rfl ?_ | refine l_ln rfl rfl rfl rfl ?_
      have hbe2 : beR (putR (ars.getD i.toNat default).2 (szm (ars.getD i.toNat default).1)) 0 ((putR (ars.getD i.toNat default).2 (szm (ars.getD i.toNat default).1)).length : Nat) = ((ars.getD i.toNat default).2 % 256 ^ (szm (ars.getD i.toNat default).1).toNat, 0) := by
        rw [hpl]; exact beR_put (by omega)
      have hbc : SCall Try.prog E0 41 [.slice yp.1 (putR (ars.getD i.toNat default).2 (szm (ars.getD i.toNat default).1)).length yp.2, .int .i64 0, .int .i64 ((putR (ars.getD i.toNat default).2 (szm (ars.getD i.toNat default).1)).length : Nat)] s (Ret E0 s (fun (_ : Unit) => .tuple #[.int .u32 ((ars.getD i.toNat default).2 % 256 ^ (szm (ars.getD i.toNat default).1).toNat), .int .i64 0]) (fun _ => []) fun _ => True) := by
        have hb1 := rbe_call (at_ := 0) (n := ((putR (ars.getD i.toNat default).2 (szm (ars.getD i.toNat default).1)).length : Nat)) (Old.pure (F.has 6 rfl)) (bytes_putR _ _) (by omega)
        unfold beV at hb1
        rw [hbe2] at hb1
        exact hb1
      refine l_callp F rfl rfl (by kernel_rfl) rfl rfl hbc (fun _ s F _ => ?_)
      (try dsimp only [n_1, n_2, n_3, n_4, List.append_nil, pk, n_5, n_6] at F)
      refine l_op 0 rfl rfl rfl rfl rfl ?_
      refine l_op 2 rfl rfl rfl rfl rfl ?_
      refine l_op 2 rfl rfl rfl rfl rfl ?_
      refine l_op 0 rfl rfl rfl rfl rfl ?_
      refine l_nil (WK.nx (by assumption) ?_)
      refine SeqK.nx (by assumption) ?_
      refine k_seq (fun Q K => ?_)
      refine k_seq (fun Q K => ?_)
      refine k_lin (fun W K => ?_)
      refine l_op 2 rfl rfl rfl rfl rfl ?_
      refine l_ldc F 5 rfl rfl rfl rfl rfl rfl rfl ?_
      refine l_cmp rfl rfl rfl rfl ?_
      refine l_nil (WK.nx (by assumption) ?_)
      refine SeqK.nx (by assumption) ?_
      refine l_cond rfl rfl (fun hc20 => ?_) (fun hc20 => ?_)
      · replace hc20 := of_decide_eq_true ((irr_eq _).symm.trans hc20)
        refine k_lin (fun W K => ?_)
        refine l_op 0 rfl rfl rfl rfl rfl ?_
        refine l_op 0 rfl rfl rfl rfl rfl ?_
        first | refine l_op 2 rfl rfl rfl rfl rfl ?_ | refine l_ln rfl rfl rfl rfl ?_
        first
          | refine l_callp F rfl rfl (by kernel_rfl) rfl rfl (rextend_call (x := (ars.getD i.toNat default).2 % 256 ^ (szm (ars.getD i.toNat default).1).toNat) (emod_u32 _ va0 va1)) (fun _ s F _ => ?_)
          | refine l_callp F rfl rfl (by kernel_rfl) rfl rfl (rextend_call (x := 0) ⟨by decide, by decide⟩) (fun _ s F _ => ?_)
        (try dsimp only [n_1, n_2, n_3, n_4, List.append_nil, pk, n_5, n_6] at F)
        refine l_op 0 rfl rfl rfl rfl rfl ?_
        refine l_nil (WK.nx (by assumption) ?_)
        refine SeqK.nx (by assumption) ?_
        refine k_seq (fun Q K => ?_)
        refine k_seq (fun Q K => ?_)
        refine k_lin (fun W K => ?_)
        refine l_op 0 rfl rfl rfl rfl rfl ?_
        refine l_op 2 rfl rfl rfl rfl rfl ?_
        refine l_ldc F 5 rfl rfl rfl rfl rfl rfl rfl ?_
        refine l_cmp rfl rfl rfl rfl ?_
        refine l_nil (WK.nx (by assumption) ?_)
        refine SeqK.nx (by assumption) ?_
        refine l_cond rfl rfl (fun hc21 => ?_) (fun hc21 => ?_)
        · first | replace hc21 := bne_iff_ne.1 ((irr_eq _).symm.trans hc21) | simp only [irr_eq, bne_iff_ne, bne_eq_false_iff_eq, ne_eq, decide_eq_true_eq, decide_eq_false_iff_not, Bool.not_eq_true', Bool.not_eq_false'] at hc21
          have hbad : tellsR (ars.getD i.toNat default).1 (ars.getD i.toNat default).2 = false := by
            rw [Bool.eq_false_iff]
            intro ht
            have hne := hc21
            try simp only [extR_zero, hpl] at hne
            first
              | exact hne ((tb0 (by omega)).1 ht)
              | exact hne ((tb2 hsi hAi (by omega) (by omega)).1 ht)
              | exact hne ((tb3 hsi hAi (by omega) (by omega)).1 ht)
          have hr : encR sgR op ars = none := by
            unfold encR
            rw [hsg]
            simp only
            rw [if_neg (by omega), if_pos (okArgs_not _ _ i.toNat (by omega) hi (.inr hbad))]
          refine k_seq (fun Q K => ?_)
          refine k_lin (fun W K => ?_)
          refine l_op 0 rfl rfl rfl rfl rfl ?_
          refine l_op 0 rfl rfl rfl rfl rfl ?_
          refine l_nil (WK.nx (by assumption) ?_)
          refine SeqK.nx (by assumption) ?_
          refine k_ret ?_
          refine SeqK.rt (by assumption) ?_
          refine BlkK.rt (by assumption) ?_
          refine SeqK.rt (by assumption) ?_
          refine LoopK.rt (by assumption) ?_
          refine BlkK.rt (by assumption) ?_
          refine SeqK.rt (by assumption) ?_
          refine FunK.rt (by assumption) rfl ?_
          -- leaf 10
          first
            | (rw [hr]; exact ⟨(none, 0), rfl, F.pick [0] (by decide), trivial⟩)
            | (rw [hr]
               have el : (opB op).length + km + (dataR (ars.take i.toNat)).length = (opB op ++ restR ars).length := by
                 rw [hall]
                 simp only [restR, List.length_append, hmd]; omega
               have er : opB op ++ packR ms ++ dataR (ars.take i.toNat) = opB op ++ restR ars := by rw [hall]; simp only [restR, hmd, List.append_assoc]
               rw [el, er] at F
               exact ⟨(x6, c6), by rw [el]; rfl, F.pick [2] (by decide), trivial⟩)
        first | replace hc21 := bne_eq_false_iff_eq.1 ((irr_eq _).symm.trans hc21) | simp only [irr_eq, bne_iff_ne, bne_eq_false_iff_eq, ne_eq, decide_eq_true_eq, decide_eq_false_iff_not, Bool.not_eq_true', Bool.not_eq_false'] at hc21
        have htells : tellsR (ars.getD i.toNat default).1 (ars.getD i.toNat default).2 = true := by
          have hne := hc21
          try simp only [extR_zero, hpl] at hne
          first
            | exact (tb0 (by omega)).2 hne
            | exact (tb2 hsi hAi (by omega) (by omega)).2 hne
            | exact (tb3 hsi hAi (by omega) (by omega)).2 hne
        refine k_skip ?_
        refine SeqK.nx (by assumption) ?_
        refine k_seq (fun Q K => ?_)
        refine k_seq (fun Q K => ?_)
        refine k_lin (fun W K => ?_)
        refine l_op 0 rfl rfl rfl rfl rfl ?_
        first | refine l_remn rfl rfl rfl rfl rfl (by omega) rfl ?_ | refine l_rem rfl rfl rfl rfl rfl (by omega) rfl ?_
        refine l_cmp rfl rfl rfl rfl ?_
        refine l_nil (WK.nx (by assumption) ?_)
        refine SeqK.nx (by assumption) ?_
        refine l_cond rfl rfl (fun hc22 => ?_) (fun hc22 => ?_)
        · first | replace hc22 := eq_of_beq ((irr_eq _).symm.trans hc22) | simp only [irr_eq, beq_iff_eq, beq_eq_false_iff_ne, ne_eq, decide_eq_true_eq, decide_eq_false_iff_not] at hc22
          have hp1 : i.toNat % 2 = 1 := by omega
          have hxv : 0 ≤ (pkz ms i.toNat).getD (i / 2).toNat 0 ∧ (pkz ms i.toNat).getD (i / 2).toNat 0 ≤ 15 := by
            rw [ed, hpa, if_pos (by omega), if_neg (by omega), hmg _ (by omega)]
            have := szm_cases (may_sz (hok (2 * (i.toNat / 2)) (by omega)).1)
            omega
          rw [if_neg (by omega)] at hset
          refine k_linm [0, 1, 2, 3, 4, 5, 6, 8, 7, 9, 10, 11, 12, 13, 14] mixed (by kernel_rfl) (fun W K => ?_)
          try have hpS := F.pns
          refine l_op 0 rfl rfl rfl rfl rfl ?_
          refine l_op 0 rfl rfl rfl rfl rfl ?_
          first | refine l_quon rfl rfl rfl rfl rfl (by omega) rfl ?_ | refine l_quou64 rfl rfl rfl rfl rfl (by omega) rfl ?_ | refine l_quou32 rfl rfl rfl rfl rfl (by omega) rfl ?_ | refine l_quo rfl rfl rfl rfl rfl (by omega) rfl ?_
          refine l_op 0 rfl rfl rfl rfl rfl ?_
          refine l_op 0 rfl rfl rfl rfl rfl ?_
          first | refine l_quon rfl rfl rfl rfl rfl (by omega) rfl ?_ | refine l_quou64 rfl rfl rfl rfl rfl (by omega) rfl ?_ | refine l_quou32 rfl rfl rfl rfl rfl (by omega) rfl ?_ | refine l_quo rfl rfl rfl rfl rfl (by omega) rfl ?_
          refine l_ixoi F 4 rfl rfl rfl rfl rfl rfl rfl (by omega) (fun m109 e109 ha109 hA109 => ?_)
          cases ha109
          refine l_op 2 rfl rfl rfl rfl rfl ?_
          refine l_ld0 rfl rfl rfl rfl rfl (by assumption) ?_
          first | have hpS := PnS.add hpS hS109 | have hpS := PnS.add hpS (OldC.sf (by assumption)) | skip
          refine l_ldc F 5 rfl rfl rfl rfl rfl rfl rfl ?_
          first | have hpS := PnS.add hpS hS10 | have hpS := PnS.add hpS (OldC.sf (by assumption)) | skip
          refine l_a64 rfl rfl rfl (by omega) rfl ?_
          refine l_c8 rfl rfl rfl (by omega) rfl ?_
          refine l_a8 rfl rfl rfl (by omega) rfl ?_
          refine l_ixoi F 4 rfl rfl rfl rfl rfl rfl rfl (by omega) (fun m116 e116 ha116 hA116 => ?_)
          cases ha116
          refine l_rs (by kernel_rfl) ?_
          refine l_stoi F 4 rfl rfl rfl rfl rfl rfl rfl (by omega) hD (fun s F => ?_)
          (try dsimp only [n_1, n_2, n_3, n_4, List.append_nil, pk, n_5, n_6] at F)
          rw [ed, hset] at F
          refine l_nil (WK.nx (by assumption) ?_)
          refine SeqK.nx (by assumption) ?_
          refine k_lin (fun W K => ?_)
          refine l_op 0 rfl rfl rfl rfl rfl ?_
          refine l_op 0 rfl rfl rfl rfl rfl ?_
          refine l_appi F 3 rfl rfl rfl rfl rfl rfl rfl (F.has 6 rfl) rfl (by omega) hD (fun x2 c2 s F => ?_)
          (try dsimp only [n_1, n_2, n_3, n_4, List.append_nil, pk, n_5, n_6] at F)
          refine l_op 0 rfl rfl rfl rfl rfl ?_
          refine l_nil (WK.nx (by assumption) ?_)
          refine BlkK.nx (by assumption) ?_
          refine SeqK.nx (by assumption) ?_
          refine k_lin (fun W K => ?_)
          refine l_op 0 rfl rfl rfl rfl rfl ?_
          refine l_a64 rfl rfl rfl (by omega) rfl ?_
          refine l_op 0 rfl rfl rfl rfl rfl ?_
          refine l_nil (WK.nx (by assumption) ?_)
          have e1 : (i + 1).toNat = i.toNat + 1 := by omega
          have e2 := dataR_take (ars := ars) hi
          have e3 : (dataR (ars.take i.toNat)).length + (putR (ars.getD i.toNat default).2 (szm (ars.getD i.toNat default).1)).length = (dataR (ars.take (i + 1).toNat)).length := by rw [e1, e2, List.length_append]
          rw [← e2, ← e1, e3] at F
          exact K0.nx (i + 1, x2, c2) (by dsimp only; rw [← e3]; exact (by repeat (first | exact trivial | refine And.intro rfl ?_))) ⟨F.pick [0, 1, 2, 3, 4] (by decide), by omega, by omega, fun j hj => by
            by_cases hji : (j : Int) < i
            · exact hok j hji
            · have : j = i.toNat := by omega
              rw [this]; exact ⟨hmayi, htells⟩⟩ (by first | omega | (simp only; omega))
        first | replace hc22 := ne_of_beq_false ((irr_eq _).symm.trans hc22) | simp only [irr_eq, beq_iff_eq, beq_eq_false_iff_ne, ne_eq, decide_eq_true_eq, decide_eq_false_iff_not] at hc22
        have hp0 : i.toNat % 2 = 0 := by omega
        have hxv : (pkz ms i.toNat).getD (i.toNat / 2) 0 = 0 := by rw [hpa, if_neg (by omega), if_neg (by omega)]; rfl
        rw [if_pos hp0, hxv] at hset
        refine k_lin (fun W K => ?_)
        refine l_op 0 rfl rfl rfl rfl rfl ?_
        refine l_op 0 rfl rfl rfl rfl rfl ?_
        first | refine l_quon rfl rfl rfl rfl rfl (by omega) rfl ?_ | refine l_quou64 rfl rfl rfl rfl rfl (by omega) rfl ?_ | refine l_quou32 rfl rfl rfl rfl rfl (by omega) rfl ?_ | refine l_quo rfl rfl rfl rfl rfl (by omega) rfl ?_
        refine l_op 2 rfl rfl rfl rfl rfl ?_
        refine l_ldc F 5 rfl rfl rfl rfl rfl rfl rfl ?_
        refine l_c8 rfl rfl rfl (by omega) rfl ?_
        refine l_ixoi F 4 rfl rfl rfl rfl rfl rfl rfl (by omega) (fun m123 e123 ha123 hA123 => ?_)
        cases ha123
        refine l_stoi F 4 rfl rfl rfl rfl rfl rfl rfl (by omega) hD (fun s F => ?_)
        (try dsimp only [n_1, n_2, n_3, n_4, List.append_nil, pk, n_5, n_6] at F)
        have hset0 : (pkz ms i.toNat).set (i.toNat / 2) (ars.getD i.toNat default).1 = pkz ms (i.toNat + 1) := by
          rw [show (0 : Int) + 1 * (ars.getD i.toNat default).1 = (ars.getD i.toNat default).1 by omega] at hset
          exact hset
        rw [ed, hset0] at F
        refine l_nil (WK.nx (by assumption) ?_)
        refine SeqK.nx (by assumption) ?_
        refine k_lin (fun W K => ?_)
        refine l_op 0 rfl rfl rfl rfl rfl ?_
        refine l_op 0 rfl rfl rfl rfl rfl ?_
        refine l_appi F 3 rfl rfl rfl rfl rfl rfl rfl (F.has 6 rfl) rfl (by omega) hD (fun x2 c2 s F => ?_)
        (try dsimp only [n_1, n_2, n_3, n_4, List.append_nil, pk, n_5, n_6] at F)
        refine l_op 0 rfl rfl rfl rfl rfl ?_
        refine l_nil (WK.nx (by assumption) ?_)
        refine BlkK.nx (by assumption) ?_
        refine SeqK.nx (by assumption) ?_
        refine k_lin (fun W K => ?_)
        refine l_op 0 rfl rfl rfl rfl rfl ?_
        refine l_a64 rfl rfl rfl (by omega) rfl ?_
        refine l_op 0 rfl rfl rfl rfl rfl ?_
        refine l_nil (WK.nx (by assumption) ?_)
        have e1 : (i + 1).toNat = i.toNat + 1 := by omega
        have e2 := dataR_take (ars := ars) hi
        have e3 : (dataR (ars.take i.toNat)).length + (putR (ars.getD i.toNat default).2 (szm (ars.getD i.toNat default).1)).length = (dataR (ars.take (i + 1).toNat)).length := by rw [e1, e2, List.length_append]
        rw [← e2, ← e1, e3] at F
        exact K0.nx (i + 1, x2, c2) (by dsimp only; rw [← e3]; exact (by repeat (first | exact trivial | refine And.intro rfl ?_))) ⟨F.pick [0, 1, 2, 3, 4] (by decide), by omega, by omega, fun j hj => by
          by_cases hji : (j : Int) < i
          · exact hok j hji
          · have : j = i.toNat := by omega
            rw [this]; exact ⟨hmayi, htells⟩⟩ (by first | omega | (simp only; omega))
      replace hc20 := of_decide_eq_false ((irr_eq _).symm.trans hc20)
      refine k_skip ?_
      refine SeqK.nx (by assumption) ?_
      refine k_seq (fun Q K => ?_)
      refine k_seq (fun Q K => ?_)
      refine k_lin (fun W K => ?_)
      refine l_op 0 rfl rfl rfl rfl rfl ?_
      refine l_op 2 rfl rfl rfl rfl rfl ?_
      refine l_ldc F 5 rfl rfl rfl rfl rfl rfl rfl ?_
      refine l_cmp rfl rfl rfl rfl ?_
      refine l_nil (WK.nx (by assumption) ?_)
      refine SeqK.nx (by assumption) ?_
      refine l_cond rfl rfl (fun hc23 => ?_) (fun hc23 => ?_)
      · first | replace hc23 := bne_iff_ne.1 ((irr_eq _).symm.trans hc23) | simp only [irr_eq, bne_iff_ne, bne_eq_false_iff_eq, ne_eq, decide_eq_true_eq, decide_eq_false_iff_not, Bool.not_eq_true', Bool.not_eq_false'] at hc23
        have hbad : tellsR (ars.getD i.toNat default).1 (ars.getD i.toNat default).2 = false := by
          rw [Bool.eq_false_iff]
          intro ht
          have hne := hc23
          try simp only [extR_zero, hpl] at hne
          first
            | exact hne ((tb0 (by omega)).1 ht)
            | exact hne ((tb2 hsi hAi (by omega) (by omega)).1 ht)
            | exact hne ((tb3 hsi hAi (by omega) (by omega)).1 ht)
        have hr : encR sgR op ars = none := by
          unfold encR
          rw [hsg]
          simp only
          rw [if_neg (by omega), if_pos (okArgs_not _ _ i.toNat (by omega) hi (.inr hbad))]
        refine k_seq (fun Q K => ?_)
        refine k_lin (fun W K => ?_)
        refine l_op 0 rfl rfl rfl rfl rfl ?_
        refine l_op 0 rfl rfl rfl rfl rfl ?_
        refine l_nil (WK.nx (by assumption) ?_)
        refine SeqK.nx (by assumption) ?_
        refine k_ret ?_
        refine SeqK.rt (by assumption) ?_
        refine BlkK.rt (by assumption) ?_
        refine SeqK.rt (by assumption) ?_
        refine LoopK.rt (by assumption) ?_
        refine BlkK.rt (by assumption) ?_
        refine SeqK.rt (by assumption) ?_
        refine FunK.rt (by assumption) rfl ?_
        -- leaf 11
        first
          | (rw [hr]; exact ⟨(none, 0), rfl, F.pick [0] (by decide), trivial⟩)
          | (rw [hr]
             have el : (opB op).length + km + (dataR (ars.take i.toNat)).length = (opB op ++ restR ars).length := by
               rw [hall]
               simp only [restR, List.length_append, hmd]; omega
             have er : opB op ++ packR ms ++ dataR (ars.take i.toNat) = opB op ++ restR ars := by rw [hall]; simp only [restR, hmd, List.append_assoc]
             rw [el, er] at F
             exact ⟨(x6, c6), by rw [el]; rfl, F.pick [2] (by decide), trivial⟩)
      first | replace hc23 := bne_eq_false_iff_eq.1 ((irr_eq _).symm.trans hc23) | simp only [irr_eq, bne_iff_ne, bne_eq_false_iff_eq, ne_eq, decide_eq_true_eq, decide_eq_false_iff_not, Bool.not_eq_true', Bool.not_eq_false'] at hc23
      have htells : tellsR (ars.getD i.toNat default).1 (ars.getD i.toNat default).2 = true := by
        have hne := hc23
        try simp only [extR_zero, hpl] at hne
        first
          | exact (tb0 (by omega)).2 hne
          | exact (tb2 hsi hAi (by omega) (by omega)).2 hne
          | exact (tb3 hsi hAi (by omega) (by omega)).2 hne
      refine k_skip ?_
      refine SeqK.nx (by assumption) ?_
      refine k_seq (fun Q K => ?_)
      refine k_seq (fun Q K => ?_)
      refine k_lin (fun W K => ?_)
      refine l_op 0 rfl rfl rfl rfl rfl ?_
      first | refine l_remn rfl rfl rfl rfl rfl (by omega) rfl ?_ | refine l_rem rfl rfl rfl rfl rfl (by omega) rfl ?_
      refine l_cmp rfl rfl rfl rfl ?_
      refine l_nil (WK.nx (by assumption) ?_)
      refine SeqK.nx (by assumption) ?_
      refine l_cond rfl rfl (fun hc24 => ?_) (fun hc24 => ?_)
      · first | replace hc24 := eq_of_beq ((irr_eq _).symm.trans hc24) | simp only [irr_eq, beq_iff_eq, beq_eq_false_iff_ne, ne_eq, decide_eq_true_eq, decide_eq_false_iff_not] at hc24
        have hp1 : i.toNat % 2 = 1 := by omega
        have hxv : 0 ≤ (pkz ms i.toNat).getD (i / 2).toNat 0 ∧ (pkz ms i.toNat).getD (i / 2).toNat 0 ≤ 15 := by
          rw [ed, hpa, if_pos (by omega), if_neg (by omega), hmg _ (by omega)]
          have := szm_cases (may_sz (hok (2 * (i.toNat / 2)) (by omega)).1)
          omega
        rw [if_neg (by omega)] at hset
        refine k_linm [0, 1, 2, 3, 4, 5, 6, 8, 7, 9, 10, 11, 12, 13, 14] mixed (by kernel_rfl) (fun W K => ?_)
        try have hpS := F.pns
        refine l_op 0 rfl rfl rfl rfl rfl ?_
        refine l_op 0 rfl rfl rfl rfl rfl ?_
        first | refine l_quon rfl rfl rfl rfl rfl (by omega) rfl ?_ | refine l_quou64 rfl rfl rfl rfl rfl (by omega) rfl ?_ | refine l_quou32 rfl rfl rfl rfl rfl (by omega) rfl ?_ | refine l_quo rfl rfl rfl rfl rfl (by omega) rfl ?_
        refine l_op 0 rfl rfl rfl rfl rfl ?_
        refine l_op 0 rfl rfl rfl rfl rfl ?_
        first | refine l_quon rfl rfl rfl rfl rfl (by omega) rfl ?_ | refine l_quou64 rfl rfl rfl rfl rfl (by omega) rfl ?_ | refine l_quou32 rfl rfl rfl rfl rfl (by omega) rfl ?_ | refine l_quo rfl rfl rfl rfl rfl (by omega) rfl ?_
        refine l_ixoi F 4 rfl rfl rfl rfl rfl rfl rfl (by omega) (fun m109 e109 ha109 hA109 => ?_)
        cases ha109
        refine l_op 2 rfl rfl rfl rfl rfl ?_
        refine l_ld0 rfl rfl rfl rfl rfl (by assumption) ?_
        first | have hpS := PnS.add hpS hS109 | have hpS := PnS.add hpS (OldC.sf (by assumption)) | skip
        refine l_ldc F 5 rfl rfl rfl rfl rfl rfl rfl ?_
        first | have hpS := PnS.add hpS hS10 | have hpS := PnS.add hpS (OldC.sf (by assumption)) | skip
        refine l_a64 rfl rfl rfl (by omega) rfl ?_
        refine l_c8 rfl rfl rfl (by omega) rfl ?_
        refine l_a8 rfl rfl rfl (by omega) rfl ?_
        refine l_ixoi F 4 rfl rfl rfl rfl rfl rfl rfl (by omega) (fun m116 e116 ha116 hA116 => ?_)
        cases ha116
        refine l_rs (by kernel_rfl) ?_
        refine l_stoi F 4 rfl rfl rfl rfl rfl rfl rfl (by omega) hD (fun s F => ?_)
        (try dsimp only [n_1, n_2, n_3, n_4, List.append_nil, pk, n_5, n_6] at F)
        rw [ed, hset] at F
        refine l_nil (WK.nx (by assumption) ?_)
        refine SeqK.nx (by assumption) ?_
        refine k_lin (fun W K => ?_)
        refine l_op 0 rfl rfl rfl rfl rfl ?_
        refine l_op 0 rfl rfl rfl rfl rfl ?_
        refine l_appi F 3 rfl rfl rfl rfl rfl rfl rfl (F.has 6 rfl) rfl (by omega) hD (fun x2 c2 s F => ?_)
        (try dsimp only [n_1, n_2, n_3, n_4, List.append_nil, pk, n_5, n_6] at F)
        refine l_op 0 rfl rfl rfl rfl rfl ?_
        refine l_nil (WK.nx (by assumption) ?_)
        refine BlkK.nx (by assumption) ?_
        refine SeqK.nx (by assumption) ?_
        refine k_lin (fun W K => ?_)
        refine l_op 0 rfl rfl rfl rfl rfl ?_
        refine l_a64 rfl rfl rfl (by omega) rfl ?_
        refine l_op 0 rfl rfl rfl rfl rfl ?_
        refine l_nil (WK.nx (by assumption) ?_)
        have e1 : (i + 1).toNat = i.toNat + 1 := by omega
        have e2 := dataR_take (ars := ars) hi
        have e3 : (dataR (ars.take i.toNat)).length + (putR (ars.getD i.toNat default).2 (szm (ars.getD i.toNat default).1)).length = (dataR (ars.take (i + 1).toNat)).length := by rw [e1, e2, List.length_append]
        rw [← e2, ← e1, e3] at F
        exact K0.nx (i + 1, x2, c2) (by dsimp only; rw [← e3]; exact (by repeat (first | exact trivial | refine And.intro rfl ?_))) ⟨F.pick [0, 1, 2, 3, 4] (by decide), by omega, by omega, fun j hj => by
          by_cases hji : (j : Int) < i
          · exact hok j hji
          · have : j = i.toNat := by omega
            rw [this]; exact ⟨hmayi, htells⟩⟩ (by first | omega | (simp only; omega))
      first | replace hc24 := ne_of_beq_false ((irr_eq _).symm.trans hc24) | simp only [irr_eq, beq_iff_eq, beq_eq_false_iff_ne, ne_eq, decide_eq_true_eq, decide_eq_false_iff_not] at hc24
      have hp0 : i.toNat % 2 = 0 := by omega
      have hxv : (pkz ms i.toNat).getD (i.toNat / 2) 0 = 0 := by rw [hpa, if_neg (by omega), if_neg (by omega)]; rfl
      rw [if_pos hp0, hxv] at hset
      refine k_lin (fun W K => ?_)
      refine l_op 0 rfl rfl rfl rfl rfl ?_
      refine l_op 0 rfl rfl rfl rfl rfl ?_
      first | refine l_quon rfl rfl rfl rfl rfl (by omega) rfl ?_ | refine l_quou64 rfl rfl rfl rfl rfl (by omega) rfl ?_ | refine l_quou32 rfl rfl rfl rfl rfl (by omega) rfl ?_ | refine l_quo rfl rfl rfl rfl rfl (by omega) rfl ?_
      refine l_op 2 rfl rfl rfl rfl rfl ?_
      refine l_ldc F 5 rfl rfl rfl rfl rfl rfl rfl ?_
      refine l_c8 rfl rfl rfl (by omega) rfl ?_
      refine l_ixoi F 4 rfl rfl rfl rfl rfl rfl rfl (by omega) (fun m123 e123 ha123 hA123 => ?_)
      cases ha123
      refine l_stoi F 4 rfl rfl rfl rfl rfl rfl rfl (by omega) hD (fun s F => ?_)
      (try dsimp only [n_1, n_2, n_3, n_4, List.append_nil, pk, n_5, n_6] at F)
      have hset0 : (pkz ms i.toNat).set (i.toNat / 2) (ars.getD i.toNat default).1 = pkz ms (i.toNat + 1) := by
        rw [show (0 : Int) + 1 * (ars.getD i.toNat default).1 = (ars.getD i.toNat default).1 by omega] at hset
        exact hset
      rw [ed, hset0] at F
      refine l_nil (WK.nx (by assumption) ?_)
      refine SeqK.nx (by assumption) ?_
      refine k_lin (fun W K => ?_)
      refine l_op 0 rfl rfl rfl rfl rfl ?_
      refine l_op 0 rfl rfl rfl rfl rfl ?_
      refine l_appi F 3 rfl rfl rfl rfl rfl rfl rfl (F.has 6 rfl) rfl (by omega) hD (fun x2 c2 s F => ?_)
      (try dsimp only [n_1, n_2, n_3, n_4, List.append_nil, pk, n_5, n_6] at F)
      refine l_op 0 rfl rfl rfl rfl rfl ?_
      refine l_nil (WK.nx (by assumption) ?_)
      refine BlkK.nx (by assumption) ?_
      refine SeqK.nx (by assumption) ?_
      refine k_lin (fun W K => ?_)
      refine l_op 0 rfl rfl rfl rfl rfl ?_
      refine l_a64 rfl rfl rfl (by omega) rfl ?_
      refine l_op 0 rfl rfl rfl rfl rfl ?_
      refine l_nil (WK.nx (by assumption) ?_)
      have e1 : (i + 1).toNat = i.toNat + 1 := by omega
      have e2 := dataR_take (ars := ars) hi
      have e3 : (dataR (ars.take i.toNat)).length + (putR (ars.getD i.toNat default).2 (szm (ars.getD i.toNat default).1)).length = (dataR (ars.take (i + 1).toNat)).length := by rw [e1, e2, List.length_append]
      rw [← e2, ← e1, e3] at F
      exact K0.nx (i + 1, x2, c2) (by dsimp only; rw [← e3]; exact (by repeat (first | exact trivial | refine And.intro rfl ?_))) ⟨F.pick [0, 1, 2, 3, 4] (by decide), by omega, by omega, fun j hj => by
        by_cases hji : (j : Int) < i
        · exact hok j hji
        · have : j = i.toNat := by omega
          rw [this]; exact ⟨hmayi, htells⟩⟩ (by first | omega | (simp only; omega))
    replace hc19 := of_decide_eq_false ((irr_eq _).symm.trans hc19)
    refine k_skip ?_
    refine SeqK.nx (by assumption) ?_
    refine k_seq (fun Q K => ?_)
    refine k_seq (fun Q K => ?_)
    refine k_lin (fun W K => ?_)
    refine l_op 2 rfl rfl rfl rfl rfl ?_
    refine l_ldc F 5 rfl rfl rfl rfl rfl rfl rfl ?_
    refine l_cmp rfl rfl rfl rfl ?_
    refine l_nil (WK.nx (by assumption) ?_)
    refine SeqK.nx (by assumption) ?_
    refine l_cond rfl rfl (fun hc25 => ?_) (fun hc25 => ?_)
    · replace hc25 := of_decide_eq_true ((irr_eq _).symm.trans hc25)
      refine k_lin (fun W K => ?_)
      refine l_op 0 rfl rfl rfl rfl rfl ?_
      refine l_op 0 rfl rfl rfl rfl rfl ?_
      first | refine l_op 2 rfl rfl rfl rfl rfl ?_ | refine l_ln rfl rfl rfl rfl ?_
      first
        | refine l_callp F rfl rfl (by kernel_rfl) rfl rfl (rextend_call (x := (ars.getD i.toNat default).2 % 256 ^ (szm (ars.getD i.toNat default).1).toNat) (emod_u32 _ va0 va1)) (fun _ s F _ => ?_)
        | refine l_callp F rfl rfl (by kernel_rfl) rfl rfl (rextend_call (x := 0) ⟨by decide, by decide⟩) (fun _ s F _ => ?_)
      (try dsimp only [n_1, n_2, n_3, n_4, List.append_nil, pk, n_5, n_6] at F)
      refine l_op 0 rfl rfl rfl rfl rfl ?_
      refine l_nil (WK.nx (by assumption) ?_)
      refine SeqK.nx (by assumption) ?_
      refine k_seq (fun Q K => ?_)
      refine k_seq (fun Q K => ?_)
      refine k_lin (fun W K => ?_)
      refine l_op 0 rfl rfl rfl rfl rfl ?_
      refine l_op 2 rfl rfl rfl rfl rfl ?_
      refine l_ldc F 5 rfl rfl rfl rfl rfl rfl rfl ?_
      refine l_cmp rfl rfl rfl rfl ?_
      refine l_nil (WK.nx (by assumption) ?_)
      refine SeqK.nx (by assumption) ?_
      refine l_cond rfl rfl (fun hc26 => ?_) (fun hc26 => ?_)
      · first | replace hc26 := bne_iff_ne.1 ((irr_eq _).symm.trans hc26) | simp only [irr_eq, bne_iff_ne, bne_eq_false_iff_eq, ne_eq, decide_eq_true_eq, decide_eq_false_iff_not, Bool.not_eq_true', Bool.not_eq_false'] at hc26
        have hbad : tellsR (ars.getD i.toNat default).1 (ars.getD i.toNat default).2 = false := by
          rw [Bool.eq_false_iff]
          intro ht
          have hne := hc26
          try simp only [extR_zero, hpl] at hne
          first
            | exact hne ((tb0 (by omega)).1 ht)
            | exact hne ((tb2 hsi hAi (by omega) (by omega)).1 ht)
            | exact hne ((tb3 hsi hAi (by omega) (by omega)).1 ht)
        have hr : encR sgR op ars = none := by
          unfold encR
          rw [hsg]
          simp only
          rw [if_neg (by omega), if_pos (okArgs_not _ _ i.toNat (by omega) hi (.inr hbad))]
        refine k_seq (fun Q K => ?_)
        refine k_lin (fun W K => ?_)
        refine l_op 0 rfl rfl rfl rfl rfl ?_
        refine l_op 0 rfl rfl rfl rfl rfl ?_
        refine l_nil (WK.nx (by assumption) ?_)
        refine SeqK.nx (by assumption) ?_
        refine k_ret ?_
        refine SeqK.rt (by assumption) ?_
        refine BlkK.rt (by assumption) ?_
        refine SeqK.rt (by assumption) ?_
        refine LoopK.rt (by assumption) ?_
        refine BlkK.rt (by assumption) ?_
        refine SeqK.rt (by assumption) ?_
        refine FunK.rt (by assumption) rfl ?_
        -- leaf 12
        first
          | (rw [hr]; exact ⟨(none, 0), rfl, F.pick [0] (by decide), trivial⟩)
          | (rw [hr]
             have el : (opB op).length + km + (dataR (ars.take i.toNat)).length = (opB op ++ restR ars).length := by
               rw [hall]
               simp only [restR, List.length_append, hmd]; omega
             have er : opB op ++ packR ms ++ dataR (ars.take i.toNat) = opB op ++ restR ars := by rw [hall]; simp only [restR, hmd, List.append_assoc]
             rw [el, er] at F
             exact ⟨(x6, c6), by rw [el]; rfl, F.pick [2] (by decide), trivial⟩)
      first | replace hc26 := bne_eq_false_iff_eq.1 ((irr_eq _).symm.trans hc26) | simp only [irr_eq, bne_iff_ne, bne_eq_false_iff_eq, ne_eq, decide_eq_true_eq, decide_eq_false_iff_not, Bool.not_eq_true', Bool.not_eq_false'] at hc26
      have htells : tellsR (ars.getD i.toNat default).1 (ars.getD i.toNat default).2 = true := by
        have hne := hc26
        try simp only [extR_zero, hpl] at hne
        first
          | exact (tb0 (by omega)).2 hne
          | exact (tb2 hsi hAi (by omega) (by omega)).2 hne
          | exact (tb3 hsi hAi (by omega) (by omega)).2 hne
      refine k_skip ?_
      refine SeqK.nx (by assumption) ?_
      refine k_seq (fun Q K => ?_)
      refine k_seq (fun Q K => ?_)
      refine k_lin (fun W K => ?_)
      refine l_op 0 rfl rfl rfl rfl rfl ?_
      first | refine l_remn rfl rfl rfl rfl rfl (by omega) rfl ?_ | refine l_rem rfl rfl rfl rfl rfl (by omega) rfl ?_
      refine l_cmp rfl rfl rfl rfl ?_
      refine l_nil (WK.nx (by assumption) ?_)
      refine SeqK.nx (by assumption) ?_
      refine l_cond rfl rfl (fun hc27 => ?_) (fun hc27 => ?_)
      · first | replace hc27 := eq_of_beq ((irr_eq _).symm.trans hc27) | simp only [irr_eq, beq_iff_eq, beq_eq_false_iff_ne, ne_eq, decide_eq_true_eq, decide_eq_false_iff_not] at hc27
        have hp1 : i.toNat % 2 = 1 := by omega
        have hxv : 0 ≤ (pkz ms i.toNat).getD (i / 2).toNat 0 ∧ (pkz ms i.toNat).getD (i / 2).toNat 0 ≤ 15 := by
          rw [ed, hpa, if_pos (by omega), if_neg (by omega), hmg _ (by omega)]
          have := szm_cases (may_sz (hok (2 * (i.toNat / 2)) (by omega)).1)
          omega
        rw [if_neg (by omega)] at hset
        refine k_linm [0, 1, 2, 3, 4, 5, 6, 8, 7, 9, 10, 11, 12, 13, 14] mixed (by kernel_rfl) (fun W K => ?_)
        try have hpS := F.pns
        refine l_op 0 rfl rfl rfl rfl rfl ?_
        refine l_op 0 rfl rfl rfl rfl rfl ?_
        first | refine l_quon rfl rfl rfl rfl rfl (by omega) rfl ?_ | refine l_quou64 rfl rfl rfl rfl rfl (by omega) rfl ?_ | refine l_quou32 rfl rfl rfl rfl rfl (by omega) rfl ?_ | refine l_quo rfl rfl rfl rfl rfl (by omega) rfl ?_
        refine l_op 0 rfl rfl rfl rfl rfl ?_
        refine l_op 0 rfl rfl rfl rfl rfl ?_
        first | refine l_quon rfl rfl rfl rfl rfl (by omega) rfl ?_ | refine l_quou64 rfl rfl rfl rfl rfl (by omega) rfl ?_ | refine l_quou32 rfl rfl rfl rfl rfl (by omega) rfl ?_ | refine l_quo rfl rfl rfl rfl rfl (by omega) rfl ?_
        refine l_ixoi F 4 rfl rfl rfl rfl rfl rfl rfl (by omega) (fun m109 e109 ha109 hA109 => ?_)
        cases ha109
        refine l_op 2 rfl rfl rfl rfl rfl ?_
        refine l_ld0 rfl rfl rfl rfl rfl (by assumption) ?_
        first | have hpS := PnS.add hpS hS109 | have hpS := PnS.add hpS (OldC.sf (by assumption)) | skip
        refine l_ldc F 5 rfl rfl rfl rfl rfl rfl rfl ?_
        first | have hpS := PnS.add hpS hS10 | have hpS := PnS.add hpS (OldC.sf (by assumption)) | skip
        refine l_a64 rfl rfl rfl (by omega) rfl ?_
        refine l_c8 rfl rfl rfl (by omega) rfl ?_
        refine l_a8 rfl rfl rfl (by omega) rfl ?_
        refine l_ixoi F 4 rfl rfl rfl rfl rfl rfl rfl (by omega) (fun m116 e116 ha116 hA116 => ?_)
        cases ha116
        refine l_rs (by kernel_rfl) ?_
        refine l_stoi F 4 rfl rfl rfl rfl rfl rfl rfl (by omega) hD (fun s F => ?_)
        (try dsimp only [n_1, n_2, n_3, n_4, List.append_nil, pk, n_5, n_6] at F)
        rw [ed, hset] at F
        refine l_nil (WK.nx (by assumption) ?_)
        refine SeqK.nx (by assumption) ?_
        refine k_lin (fun W K => ?_)
        refine l_op 0 rfl rfl rfl rfl rfl ?_
        refine l_op 0 rfl rfl rfl rfl rfl ?_
        refine l_appi F 3 rfl rfl rfl rfl rfl rfl rfl (F.has 6 rfl) rfl (by omega) hD (fun x2 c2 s F => ?_)
        (try dsimp only [n_1, n_2, n_3, n_4, List.append_nil, pk, n_5, n_6] at F)
        refine l_op 0 rfl rfl rfl rfl rfl ?_
        refine l_nil (WK.nx (by assumption) ?_)
        refine BlkK.nx (by assumption) ?_
        refine SeqK.nx (by assumption) ?_
        refine k_lin (fun W K => ?_)
        refine l_op 0 rfl rfl rfl rfl rfl ?_
        refine l_a64 rfl rfl rfl (by omega) rfl ?_
        refine l_op 0 rfl rfl rfl rfl rfl ?_
        refine l_nil (WK.nx (by assumption) ?_)
        have e1 : (i + 1).toNat = i.toNat + 1 := by omega
        have e2 := dataR_take (ars := ars) hi
        have e3 : (dataR (ars.take i.toNat)).length + (putR (ars.getD i.toNat default).2 (szm (ars.getD i.toNat default).1)).length = (dataR (ars.take (i + 1).toNat)).length := by rw [e1, e2, List.length_append]
        rw [← e2, ← e1, e3] at F
        exact K0.nx (i + 1, x2, c2) (by dsimp only; rw [← e3]; exact (by repeat (first | exact trivial | refine And.intro rfl ?_))) ⟨F.pick [0, 1, 2, 3, 4] (by decide), by omega, by omega, fun j hj => by
          by_cases hji : (j : Int) < i
          · exact hok j hji
          · have : j = i.toNat := by omega
            rw [this]; exact ⟨hmayi, htells⟩⟩ (by first | omega | (simp only; omega))
      first | replace hc27 := ne_of_beq_false ((irr_eq _).symm.trans hc27) | simp only [irr_eq, beq_iff_eq, beq_eq_false_iff_ne, ne_eq, decide_eq_true_eq, decide_eq_false_iff_not] at hc27
      have hp0 : i.toNat % 2 = 0 := by omega
      have hxv : (pkz ms i.toNat).getD (i.toNat / 2) 0 = 0 := by rw [hpa, if_neg (by omega), if_neg (by omega)]; rfl
      rw [if_pos hp0, hxv] at hset
      refine k_lin (fun W K => ?_)
      refine l_op 0 rfl rfl rfl rfl rfl ?_
      refine l_op 0 rfl rfl rfl rfl rfl ?_
      first | refine l_quon rfl rfl rfl rfl rfl (by omega) rfl ?_ | refine l_quou64 rfl rfl rfl rfl rfl (by omega) rfl ?_ | refine l_quou32 rfl rfl rfl rfl rfl (by omega) rfl ?_ | refine l_quo rfl rfl rfl rfl rfl (by omega) rfl ?_
      refine l_op 2 rfl rfl rfl rfl rfl ?_
      refine l_ldc F 5 rfl rfl rfl rfl rfl rfl rfl ?_
      refine l_c8 rfl rfl rfl (by omega) rfl ?_
      refine l_ixoi F 4 rfl rfl rfl rfl rfl rfl rfl (by omega) (fun m123 e123 ha123 hA123 => ?_)
      cases ha123
      refine l_stoi F 4 rfl rfl rfl rfl rfl rfl rfl (by omega) hD (fun s F => ?_)
      (try dsimp only [n_1, n_2, n_3, n_4, List.append_nil, pk, n_5, n_6] at F)
      have hset0 : (pkz ms i.toNat).set (i.toNat / 2) (ars.getD i.toNat default).1 = pkz ms (i.toNat + 1) := by
        rw [show (0 : Int) + 1 * (ars.getD i.toNat default).1 = (ars.getD i.toNat default).1 by omega] at hset
        exact hset
      rw [ed, hset0] at F
      refine l_nil (WK.nx (by assumption) ?_)
      refine SeqK.nx (by assumption) ?_
      refine k_lin (fun W K => ?_)
      refine l_op 0 rfl rfl rfl rfl rfl ?_
      refine l_op 0 rfl rfl rfl rfl rfl ?_
      refine l_appi F 3 rfl rfl rfl rfl rfl rfl rfl (F.has 6 rfl) rfl (by omega) hD (fun x2 c2 s F => ?_)
      (try dsimp only [n_1, n_2, n_3, n_4, List.append_nil, pk, n_5, n_6] at F)
      refine l_op 0 rfl rfl rfl rfl rfl ?_
      refine l_nil (WK.nx (by assumption) ?_)
      refine BlkK.nx (by assumption) ?_
      refine SeqK.nx (by assumption) ?_
      refine k_lin (fun W K => ?_)
      refine l_op 0 rfl rfl rfl rfl rfl ?_
      refine l_a64 rfl rfl rfl (by omega) rfl ?_
      refine l_op 0 rfl rfl rfl rfl rfl ?_
      refine l_nil (WK.nx (by assumption) ?_)
      have e1 : (i + 1).toNat = i.toNat + 1 := by omega
      have e2 := dataR_take (ars := ars) hi
      have e3 : (dataR (ars.take i.toNat)).length + (putR (ars.getD i.toNat default).2 (szm (ars.getD i.toNat default).1)).length = (dataR (ars.take (i + 1).toNat)).length := by rw [e1, e2, List.length_append]
      rw [← e2, ← e1, e3] at F
      exact K0.nx (i + 1, x2, c2) (by dsimp only; rw [← e3]; exact (by repeat (first | exact trivial | refine And.intro rfl ?_))) ⟨F.pick [0, 1, 2, 3, 4] (by decide), by omega, by omega, fun j hj => by
        by_cases hji : (j : Int) < i
        · exact hok j hji
        · have : j = i.toNat := by omega
          rw [this]; exact ⟨hmayi, htells⟩⟩ (by first | omega | (simp only; omega))
    replace hc25 := of_decide_eq_false ((irr_eq _).symm.trans hc25)
    refine k_skip ?_
    refine SeqK.nx (by assumption) ?_
    refine k_seq (fun Q K => ?_)
    refine k_seq (fun Q K => ?_)
    refine k_lin (fun W K => ?_)
    refine l_op 0 rfl rfl rfl rfl rfl ?_
    refine l_op 2 rfl rfl rfl rfl rfl ?_
    refine l_ldc F 5 rfl rfl rfl rfl rfl rfl rfl ?_
    refine l_cmp rfl rfl rfl rfl ?_
    refine l_nil (WK.nx (by assumption) ?_)
    refine SeqK.nx (by assumption) ?_
    refine l_cond rfl rfl (fun hc28 => ?_) (fun hc28 => ?_)
    · first | replace hc28 := bne_iff_ne.1 ((irr_eq _).symm.trans hc28) | simp only [irr_eq, bne_iff_ne, bne_eq_false_iff_eq, ne_eq, decide_eq_true_eq, decide_eq_false_iff_not, Bool.not_eq_true', Bool.not_eq_false'] at hc28
      have hbad : tellsR (ars.getD i.toNat default).1 (ars.getD i.toNat default).2 = false := by
        rw [Bool.eq_false_iff]
        intro ht
        have hne := hc28
        try simp only [extR_zero, hpl] at hne
        first
          | exact hne ((tb0 (by omega)).1 ht)
          | exact hne ((tb2 hsi hAi (by omega) (by omega)).1 ht)
          | exact hne ((tb3 hsi hAi (by omega) (by omega)).1 ht)
      have hr : encR sgR op ars = none := by
        unfold encR
        rw [hsg]
        simp only
        rw [if_neg (by omega), if_pos (okArgs_not _ _ i.toNat (by omega) hi (.inr hbad))]
      refine k_seq (fun Q K => ?_)
      refine k_lin (fun W K => ?_)
      refine l_op 0 rfl rfl rfl rfl rfl ?_
      refine l_op 0 rfl rfl rfl rfl rfl ?_
      refine l_nil (WK.nx (by assumption) ?_)
      refine SeqK.nx (by assumption) ?_
      refine k_ret ?_
      refine SeqK.rt (by assumption) ?_
      refine BlkK.rt (by assumption) ?_
      refine SeqK.rt (by assumption) ?_
      refine LoopK.rt (by assumption) ?_
      refine BlkK.rt (by assumption) ?_
      refine SeqK.rt (by assumption) ?_
      refine FunK.rt (by assumption) rfl ?_
      -- leaf 13
      first
        | (rw [hr]; exact ⟨(none, 0), rfl, F.pick [0] (by decide), trivial⟩)
        | (rw [hr]
           have el : (opB op).length + km + (dataR (ars.take i.toNat)).length = (opB op ++ restR ars).length := by
             rw [hall]
             simp only [restR, List.length_append, hmd]; omega
           have er : opB op ++ packR ms ++ dataR (ars.take i.toNat) = opB op ++ restR ars := by rw [hall]; simp only [restR, hmd, List.append_assoc]
           rw [el, er] at F
           exact ⟨(x6, c6), by rw [el]; rfl, F.pick [2] (by decide), trivial⟩)
    first | replace hc28 := bne_eq_false_iff_eq.1 ((irr_eq _).symm.trans hc28) | simp only [irr_eq, bne_iff_ne, bne_eq_false_iff_eq, ne_eq, decide_eq_true_eq, decide_eq_false_iff_not, Bool.not_eq_true', Bool.not_eq_false'] at hc28
    have htells : tellsR (ars.getD i.toNat default).1 (ars.getD i.toNat default).2 = true := by
      have hne := hc28
      try simp only [extR_zero, hpl] at hne
      first
        | exact (tb0 (by omega)).2 hne
        | exact (tb2 hsi hAi (by omega) (by omega)).2 hne
        | exact (tb3 hsi hAi (by omega) (by omega)).2 hne
    refine k_skip ?_
    refine SeqK.nx (by assumption) ?_
    refine k_seq (fun Q K => ?_)
    refine k_seq (fun Q K => ?_)
    refine k_lin (fun W K => ?_)
    refine l_op 0 rfl rfl rfl rfl rfl ?_
    first | refine l_remn rfl rfl rfl rfl rfl (by omega) rfl ?_ | refine l_rem rfl rfl rfl rfl rfl (by omega) rfl ?_
    refine l_cmp rfl rfl rfl rfl ?_
    refine l_nil (WK.nx (by assumption) ?_)
    refine SeqK.nx (by assumption) ?_
    refine l_cond rfl rfl (fun hc29 => ?_) (fun hc29 => ?_)
    · first | replace hc29 := eq_of_beq ((irr_eq _).symm.trans hc29) | simp only [irr_eq, beq_iff_eq, beq_eq_false_iff_ne, ne_eq, decide_eq_true_eq, decide_eq_false_iff_not] at hc29
      have hp1 : i.toNat % 2 = 1 := by omega
      have hxv : 0 ≤ (pkz ms i.toNat).getD (i / 2).toNat 0 ∧ (pkz ms i.toNat).getD (i / 2).toNat 0 ≤ 15 := by
        rw [ed, hpa, if_pos (by omega), if_neg (by omega), hmg _ (by omega)]
        have := szm_cases (may_sz (hok (2 * (i.toNat / 2)) (by omega)).1)
        omega
      rw [if_neg (by omega)] at hset
      refine k_linm [0, 1, 2, 3, 4, 5, 6, 8, 7, 9, 10, 11, 12, 13, 14] mixed (by kernel_rfl) (fun W K => ?_)
      try have hpS := F.pns
      refine l_op 0 rfl rfl rfl rfl rfl ?_
      refine l_op 0 rfl rfl rfl rfl rfl ?_
      first | refine l_quon rfl rfl rfl rfl rfl (by omega) rfl ?_ | refine l_quou64 rfl rfl rfl rfl rfl (by omega) rfl ?_ | refine l_quou32 rfl rfl rfl rfl rfl (by omega) rfl ?_ | refine l_quo rfl rfl rfl rfl rfl (by omega) rfl ?_
      refine l_op 0 rfl rfl rfl rfl rfl ?_
      refine l_op 0 rfl rfl rfl rfl rfl ?_
      first | refine l_quon rfl rfl rfl rfl rfl (by omega) rfl ?_ | refine l_quou64 rfl rfl rfl rfl rfl (by omega) rfl ?_ | refine l_quou32 rfl rfl rfl rfl rfl (by omega) rfl ?_ | refine l_quo rfl rfl rfl rfl rfl (by omega) rfl ?_
      refine l_ixoi F 4 rfl rfl rfl rfl rfl rfl rfl (by omega) (fun m109 e109 ha109 hA109 => ?_)
      cases ha109
      refine l_op 2 rfl rfl rfl rfl rfl ?_
      refine l_ld0 rfl rfl rfl rfl rfl (by assumption) ?_
      first | have hpS := PnS.add hpS hS109 | have hpS := PnS.add hpS (OldC.sf (by assumption)) | skip
      refine l_ldc F 5 rfl rfl rfl rfl rfl rfl rfl ?_
      first | have hpS := PnS.add hpS hS10 | have hpS := PnS.add hpS (OldC.sf (by assumption)) | skip
      refine l_a64 rfl rfl rfl (by omega) rfl ?_
      refine l_c8 rfl rfl rfl (by omega) rfl ?_
      refine l_a8 rfl rfl rfl (by omega) rfl ?_
      refine l_ixoi F 4 rfl rfl rfl rfl rfl rfl rfl (by omega) (fun m116 e116 ha116 hA116 => ?_)
      cases ha116
      refine l_rs (by kernel_rfl) ?_
      refine l_stoi F 4 rfl rfl rfl rfl rfl rfl rfl (by omega) hD (fun s F => ?_)
      (try dsimp only [n_1, n_2, n_3, n_4, List.append_nil, pk, n_5, n_6] at F)
      rw [ed, hset] at F
      refine l_nil (WK.nx (by assumption) ?_)
      refine SeqK.nx (by assumption) ?_
      refine k_lin (fun W K => ?_)
      refine l_op 0 rfl rfl rfl rfl rfl ?_
      refine l_op 0 rfl rfl rfl rfl rfl ?_
      refine l_appi F 3 rfl rfl rfl rfl rfl rfl rfl (F.has 6 rfl) rfl (by omega) hD (fun x2 c2 s F => ?_)
      (try dsimp only [n_1, n_2, n_3, n_4, List.append_nil, pk, n_5, n_6] at F)
      refine l_op 0 rfl rfl rfl rfl rfl ?_
      refine l_nil (WK.nx (by assumption) ?_)
      refine BlkK.nx (by assumption) ?_
      refine SeqK.nx (by assumption) ?_
      refine k_lin (fun W K => ?_)
      refine l_op 0 rfl rfl rfl rfl rfl ?_
      refine l_a64 rfl rfl rfl (by omega) rfl ?_
      refine l_op 0 rfl rfl rfl rfl rfl ?_
      refine l_nil (WK.nx (by assumption) ?_)
      have e1 : (i + 1).toNat = i.toNat + 1 := by omega
      have e2 := dataR_take (ars := ars) hi
      have e3 : (dataR (ars.take i.toNat)).length + (putR (ars.getD i.toNat default).2 (szm (ars.getD i.toNat default).1)).length = (dataR (ars.take (i + 1).toNat)).length := by rw [e1, e2, List.length_append]
      rw [← e2, ← e1, e3] at F
      exact K0.nx (i + 1, x2, c2) (by dsimp only; rw [← e3]; exact (by repeat (first | exact trivial | refine And.intro rfl ?_))) ⟨F.pick [0, 1, 2, 3, 4] (by decide), by omega, by omega, fun j hj => by
        by_cases hji : (j : Int) < i
        · exact hok j hji
        · have : j = i.toNat := by omega
          rw [this]; exact ⟨hmayi, htells⟩⟩ (by first | omega | (simp only; omega))
    first | replace hc29 := ne_of_beq_false ((irr_eq _).symm.trans hc29) | simp only [irr_eq, beq_iff_eq, beq_eq_false_iff_ne, ne_eq, decide_eq_true_eq, decide_eq_false_iff_not] at hc29
    have hp0 : i.toNat % 2 = 0 := by omega
    have hxv : (pkz ms i.toNat).getD (i.toNat / 2) 0 = 0 := by rw [hpa, if_neg (by omega), if_neg (by omega)]; rfl
    rw [if_pos hp0, hxv] at hset
    refine k_lin (fun W K => ?_)
    refine l_op 0 rfl rfl rfl rfl rfl ?_
    refine l_op 0 rfl rfl rfl rfl rfl ?_
    first | refine l_quon rfl rfl rfl rfl rfl (by omega) rfl ?_ | refine l_quou64 rfl rfl rfl rfl rfl (by omega) rfl ?_ | refine l_quou32 rfl rfl rfl rfl rfl (by omega) rfl ?_ | refine l_quo rfl rfl rfl rfl rfl (by omega) rfl ?_
    refine l_op 2 rfl rfl rfl rfl rfl ?_
    refine l_ldc F 5 rfl rfl rfl rfl rfl rfl rfl ?_
    refine l_c8 rfl rfl rfl (by omega) rfl ?_
    refine l_ixoi F 4 rfl rfl rfl rfl rfl rfl rfl (by omega) (fun m123 e123 ha123 hA123 => ?_)
    cases ha123
    refine l_stoi F 4 rfl rfl rfl rfl rfl rfl rfl (by omega) hD (fun s F => ?_)
    (try dsimp only [n_1, n_2, n_3, n_4, List.append_nil, pk, n_5, n_6] at F)
    have hset0 : (pkz ms i.toNat).set (i.toNat / 2) (ars.getD i.toNat default).1 = pkz ms (i.toNat + 1) := by
      rw [show (0 : Int) + 1 * (ars.getD i.toNat default).1 = (ars.getD i.toNat default).1 by omega] at hset
      exact hset
    rw [ed, hset0] at F
    refine l_nil (WK.nx (by assumption) ?_)
    refine SeqK.nx (by assumption) ?_
    refine k_lin (fun W K => ?_)
    refine l_op 0 rfl rfl rfl rfl rfl ?_
    refine l_op 0 rfl rfl rfl rfl rfl ?_
    refine l_appi F 3 rfl rfl rfl rfl rfl rfl rfl (F.has 6 rfl) rfl (by omega) hD (fun x2 c2 s F => ?_)
    (try dsimp only [n_1, n_2, n_3, n_4, List.append_nil, pk, n_5, n_6] at F)
    refine l_op 0 rfl rfl rfl rfl rfl ?_
    refine l_nil (WK.nx (by assumption) ?_)
    refine BlkK.nx (by assumption) ?_
    refine SeqK.nx (by assumption) ?_
    refine k_lin (fun W K => ?_)
    refine l_op 0 rfl rfl rfl rfl rfl ?_
    refine l_a64 rfl rfl rfl (by omega) rfl ?_
    refine l_op 0 rfl rfl rfl rfl rfl ?_
    refine l_nil (WK.nx (by assumption) ?_)
    have e1 : (i + 1).toNat = i.toNat + 1 := by omega
    have e2 := dataR_take (ars := ars) hi
    have e3 : (dataR (ars.take i.toNat)).length + (putR (ars.getD i.toNat default).2 (szm (ars.getD i.toNat default).1)).length = (dataR (ars.take (i + 1).toNat)).length := by rw [e1, e2, List.length_append]
    rw [← e2, ← e1, e3] at F
    exact K0.nx (i + 1, x2, c2) (by dsimp only; rw [← e3]; exact (by repeat (first | exact trivial | refine And.intro rfl ?_))) ⟨F.pick [0, 1, 2, 3, 4] (by decide), by omega, by omega, fun j hj => by
      by_cases hji : (j : Int) < i
      · exact hok j hji
      · have : j = i.toNat := by omega
        rw [this]; exact ⟨hmayi, htells⟩⟩ (by first | omega | (simp only; omega))
  replace hc17 := of_decide_eq_false ((irr_eq _).symm.trans hc17)
  have hall : ars.take i.toNat = ars := List.take_of_length_le (by omega)
  have hall2 : pkz ms i.toNat = packR ms := by rw [show i.toNat = ms.length by omega, pkz_end]
  have hdl := dataR_len ars
  have hpk := packR_len ms
  have hr : encR sgR op ars = some (opB op ++ restR ars) := by
    unfold encR
    rw [hsg]
    simp only
    rw [if_neg (by omega), if_neg (by rw [okArgs_of _ _ (by omega) (fun j hj => hok j (by omega))]; decide)]
  have hob : (opB op).length ≤ 2 := by unfold opB putR; split <;> simp
  rw [hall2] at F
  have hdl2 : (dataR (ars.take i.toNat)).length ≤ 4 * ars.length := by rw [hall]; exact hdl
  refine k_exit ?_
  refine SeqK.et (by assumption) ?_
  refine LoopK.et (by assumption) ?_
  refine BlkK.et (by assumption) ?_
  refine SeqK.nx (by assumption) ?_
  refine k_seq (fun Q K => ?_)
  refine k_lin (fun W K => ?_)
  refine l_op 0 rfl rfl rfl rfl rfl ?_
  refine l_op 0 rfl rfl rfl rfl rfl ?_
  refine l_appi F 2 rfl rfl rfl rfl rfl rfl rfl (F.has 4 rfl) rfl (by omega) hD (fun x5 c5 s F => ?_)
  (try dsimp only [n_1, n_2, n_3, n_4, List.append_nil, pk, n_5, n_6] at F)
  refine l_op 0 rfl rfl rfl rfl rfl ?_
  refine l_appi F 2 rfl rfl rfl rfl rfl rfl rfl (F.has 3 rfl) rfl (by omega) hD (fun x6 c6 s F => ?_)
  (try dsimp only [n_1, n_2, n_3, n_4, List.append_nil, pk, n_5, n_6] at F)
  refine l_op 0 rfl rfl rfl rfl rfl ?_
  refine l_op 0 rfl rfl rfl rfl rfl ?_
  refine l_nil (WK.nx (by assumption) ?_)
  refine SeqK.nx (by assumption) ?_
  refine k_ret ?_
  refine FunK.rt (by assumption) rfl ?_
  -- leaf 14
  first
    | (rw [hr]; exact ⟨(none, 0), rfl, F.pick [0] (by decide), trivial⟩)
    | (rw [hr]
       have el : (opB op).length + km + (dataR (ars.take i.toNat)).length = (opB op ++ restR ars).length := by
         rw [hall]
         simp only [restR, List.length_append, hmd]; omega
       have er : opB op ++ packR ms ++ dataR (ars.take i.toNat) = opB op ++ restR ars := by rw [hall]; simp only [restR, hmd, List.append_assoc]
       rw [el, er] at F
       exact ⟨(x6, c6), by rw [el]; rfl, F.pick [2] (by decide), trivial⟩)

end Go.Proofs.Ytkemnodaadlonaa
