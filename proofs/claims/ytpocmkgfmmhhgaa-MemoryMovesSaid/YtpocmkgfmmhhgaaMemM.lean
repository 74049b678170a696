/- Moved bytes are what they were; filled ones are 0. No statement of the seat is proved in this text. -/
import Derived.Test.YtpocmkgfmmhhgaaMemJ
set_option linter.unusedVariables false
set_option linter.unusedSimpArgs false
set_option maxRecDepth 100000
set_option maxHeartbeats 8000000
namespace Go.Proofs.Ytpocmkgfmmhhgaa
open GAb Go

theorem putB_mid {bs C : List Int} {a : Nat} (h : a + C.length ≤ bs.length) : ((putB bs a C).drop a).take C.length = C := by
  unfold putB
  have e : (bs.take a).length = a := by rw [List.length_take]; omega
  rw [List.drop_append_of_le_length (by omega), List.drop_of_length_le (by omega), List.nil_append, List.take_append_of_le_length (Nat.le_refl _), List.take_of_length_le (Nat.le_refl _)]
theorem mo_cases (len n f t : Int) : ∃ w, moE len n f t = w ∧ ((w = 0 ∧ n = 0) ∨ (w = 90 ∧ n ≠ 0) ∨ (w = 91 ∧ n ≠ 0) ∨ (w = 0 ∧ n ≠ 0 ∧ f + n ≤ len ∧ 256 ≤ t ∧ t + n ≤ len)) := by
  unfold moE
  split
  · exact ⟨0, rfl, by omega⟩
  · split
    · exact ⟨90, rfl, by omega⟩
    · split
      · exact ⟨0, rfl, by omega⟩
      · exact ⟨91, rfl, by omega⟩
theorem fi_cases (len a n : Int) : ∃ w, fiE len a n = w ∧ ((w = 0 ∧ n = 0) ∨ (w = 91 ∧ n ≠ 0) ∨ (w = 0 ∧ n ≠ 0 ∧ 256 ≤ a ∧ a + n ≤ len)) := by
  unfold fiE
  split
  · exact ⟨0, rfl, by omega⟩
  · split
    · exact ⟨0, rfl, by omega⟩
    · exact ⟨91, rfl, by omega⟩
theorem moA_same {bs : List Int} {n f t : Int} (h : n = 0 ∨ moE bs.length n f t ≠ 0) : moA bs n f t = bs := if_neg (by omega)
theorem moA_put {bs : List Int} {n f t : Int} (h : n ≠ 0) (h0 : moE bs.length n f t = 0) : moA bs n f t = putB bs t.toNat ((bs.drop f.toNat).take n.toNat) := if_pos ⟨h, h0⟩
theorem fiA_same {bs : List Int} {a n : Int} (h : n = 0 ∨ fiE bs.length a n ≠ 0) : fiA bs a n = bs := if_neg (by omega)
theorem fiA_put {bs : List Int} {a n : Int} (h : n ≠ 0) (h0 : fiE bs.length a n = 0) : fiA bs a n = putB bs a.toNat (List.replicate n.toNat 0) := if_pos ⟨h, h0⟩
theorem iffb {w n : Int} (h : w = 0 ↔ n = 0) : irr (w == 0) = irr (n == 0) := by
  rw [irr_eq, irr_eq, Bool.eq_iff_iff, beq_iff_eq, beq_iff_eq]
  exact h
theorem moves_law {σ : AState} {q : Option Addr} {l c : Nat} {ts : List Act9} {n f t : Int} (h : OldA9 E0 σ q l c ts) (hn : U32 n) (hf : U32 f) (ht : U32 t) :
    SCall Try.prog E0 4 [.slice q l c, .int .u32 n, .int .u32 f, .int .u32 t] σ (fun v _ => v = .bool true) := by
  have hn' := hn
  have hf' := hf
  have ht' := ht
  obtain ⟨n0, n1⟩ := hn
  obtain ⟨f0, f1⟩ := hf
  obtain ⟨t0, t1⟩ := ht
  refine k_fun Try.func4 rfl (m := 191) rfl fun B hD Q K => ?_
  have F := Facts.nil E0 σ
  refine k_seq (fun Q K => ?_)
  refine k_lin (fun W K => ?_)
  refine l_op 0 rfl rfl rfl rfl rfl ?_
  refine l_nil (WK.nx (by assumption) ?_)
  refine SeqK.nx (by assumption) ?_
  refine k_seq (fun Q K => ?_)
  refine k_seq (fun Q K => ?_)
  refine k_lin (fun W K => ?_)
  refine l_op 0 rfl rfl rfl rfl rfl ?_
  refine l_callp F rfl rfl (by kernel_rfl) rfl rfl (huge9_call h) (fun hg s F hhg => ?_)
  (try dsimp only [n_1, n_2, n_3, n_4, List.append_nil, pk, n_5, n_6] at F)
  refine l_nil (WK.nx (by assumption) ?_)
  refine SeqK.nx (by assumption) ?_
  refine l_cond rfl rfl (fun hc1 => ?_) (fun hc1 => ?_)
  · try simp only [irr_eq, beq_iff_eq, bne_iff_ne, beq_eq_false_iff_ne, bne_eq_false_iff_eq, ne_eq, decide_eq_true_eq, decide_eq_false_iff_not, Bool.not_eq_true', Bool.not_eq_false'] at hc1
    refine k_seq (fun Q K => ?_)
    refine k_lin (fun W K => ?_)
    refine l_callp F rfl rfl (by kernel_rfl) rfl rfl (live9_call E0) (fun _ s F _ => ?_)
    (try dsimp only [n_1, n_2, n_3, n_4, List.append_nil, pk, n_5, n_6] at F)
    refine l_op 0 rfl rfl rfl rfl rfl ?_
    refine l_nil (WK.nx (by assumption) ?_)
    refine SeqK.nx (by assumption) ?_
    refine k_ret ?_
    refine SeqK.rt (by assumption) ?_
    refine FunK.rt (by assumption) rfl ?_
    -- leaf 1
    first
    | rfl
    | exact absurd (by assumption : true = false) (by decide)
    | (exfalso; omega)
    | exact absurd (iffb (w := w) (n := n) (by omega)) (by assumption)
    | exact absurd (iffb (w := v) (n := n) (by omega)) (by assumption)
  try simp only [irr_eq, beq_iff_eq, bne_iff_ne, beq_eq_false_iff_ne, bne_eq_false_iff_eq, ne_eq, decide_eq_true_eq, decide_eq_false_iff_not, Bool.not_eq_true', Bool.not_eq_false'] at hc1
  have hg2 := hhg (by assumption)
  refine k_skip ?_
  refine SeqK.nx (by assumption) ?_
  refine k_seq (fun Q K => ?_)
  refine k_lin (fun W K => ?_)
  refine l_op 0 rfl rfl rfl rfl rfl ?_
  refine l_callp F rfl rfl (by kernel_rfl) rfl rfl (begin9_call (h.to F) hg2.1 hg2.2) (fun y s F ok => ?_)
  obtain ⟨m, z⟩ := y
  replace F : Facts E0 σ s (mF m z) := F
  replace ok : MOK z := ok
  have hr := ok.room
  have hz := ok.size
  (try dsimp only [n_1, n_2, n_3, n_4, List.append_nil, pk, n_5, n_6] at F)
  refine l_op 0 rfl rfl rfl rfl rfl ?_
  refine l_nil (WK.nx (by assumption) ?_)
  refine SeqK.nx (by assumption) ?_
  refine k_seq (fun Q K => ?_)
  refine k_seq (fun Q K => ?_)
  refine k_lin (fun W K => ?_)
  refine l_op 0 rfl rfl rfl rfl rfl ?_
  refine l_cmp rfl rfl rfl rfl ?_
  refine l_nil (WK.nx (by assumption) ?_)
  refine SeqK.nx (by assumption) ?_
  refine l_cond rfl rfl (fun hc2 => ?_) (fun hc2 => ?_)
  · first | replace hc2 := eq_of_beq ((irr_eq _).symm.trans hc2) | simp only [irr_eq, beq_iff_eq, beq_eq_false_iff_ne, ne_eq, decide_eq_true_eq, decide_eq_false_iff_not] at hc2
    cases hc2
  first | replace hc2 := ne_of_beq_false ((irr_eq _).symm.trans hc2) | simp only [irr_eq, beq_iff_eq, beq_eq_false_iff_ne, ne_eq, decide_eq_true_eq, decide_eq_false_iff_not] at hc2
  refine k_skip ?_
  refine SeqK.nx (by assumption) ?_
  refine k_seq (fun Q K => ?_)
  refine k_lin (fun W K => ?_)
  refine l_op 0 rfl rfl rfl rfl rfl ?_
  first
  | refine l_callp F rfl rfl (by kernel_rfl) rfl rfl (mbytes_call (oldM_of F ok 0 1 2 3 4 rfl rfl rfl rfl rfl) ok) (fun y1 s F _ => ?_)
  | refine l_callp F rfl rfl (by kernel_rfl) rfl rfl (mbytes_call (oldM_of F ok1 1 2 3 4 5 rfl rfl rfl rfl rfl) ok1) (fun y2 s F _ => ?_)
  | refine l_callp F rfl rfl (by kernel_rfl) rfl rfl (mbytes_call (oldM_of F ok2 2 3 4 5 6 rfl rfl rfl rfl rfl) ok2) (fun y3 s F _ => ?_)
  (try dsimp only [n_1, n_2, n_3, n_4, List.append_nil, pk, n_5, n_6] at F)
  refine l_op 0 rfl rfl rfl rfl rfl ?_
  refine l_nil (WK.nx (by assumption) ?_)
  refine SeqK.nx (by assumption) ?_
  refine k_seq (fun Q K => ?_)
  refine k_lin (fun W K => ?_)
  refine l_op 0 rfl rfl rfl rfl rfl ?_
  refine l_op 0 rfl rfl rfl rfl rfl ?_
  refine l_op 0 rfl rfl rfl rfl rfl ?_
  refine l_op 0 rfl rfl rfl rfl rfl ?_
  refine l_call F [0, 1, 2, 3, 4] [5] (by decide) rfl rfl (by kernel_rfl) rfl rfl (move_call (F.sub [0, 1, 2, 3, 4] (by decide)) ok hn' hf' ht') hD (fun _ s F _ => ?_)
  have hml := moA_len z.bs (n := n) (f := f) (t := t) n0 f0
  have hml2 : (z.wb (moA z.bs n f t)).bs.length = z.bs.length := hml
  have ok1 : MOK (z.wb (moA z.bs n f t)) := ok.wb hml (moA_bytes ok.byt _ _ _)
  obtain ⟨w, hw, hwc⟩ := mo_cases z.bs.length n f t
  rw [hw]
  (try dsimp only [n_1, n_2, n_3, n_4, List.append_nil, pk, n_5, n_6] at F)
  refine l_op 0 rfl rfl rfl rfl rfl ?_
  refine l_nil (WK.nx (by assumption) ?_)
  refine SeqK.nx (by assumption) ?_
  refine k_seq (fun Q K => ?_)
  refine k_lin (fun W K => ?_)
  refine l_op 0 rfl rfl rfl rfl rfl ?_
  first
  | refine l_callp F rfl rfl (by kernel_rfl) rfl rfl (mbytes_call (oldM_of F ok 0 1 2 3 4 rfl rfl rfl rfl rfl) ok) (fun y1 s F _ => ?_)
  | refine l_callp F rfl rfl (by kernel_rfl) rfl rfl (mbytes_call (oldM_of F ok1 1 2 3 4 5 rfl rfl rfl rfl rfl) ok1) (fun y2 s F _ => ?_)
  | refine l_callp F rfl rfl (by kernel_rfl) rfl rfl (mbytes_call (oldM_of F ok2 2 3 4 5 6 rfl rfl rfl rfl rfl) ok2) (fun y3 s F _ => ?_)
  (try dsimp only [n_1, n_2, n_3, n_4, List.append_nil, pk, n_5, n_6] at F)
  refine l_op 0 rfl rfl rfl rfl rfl ?_
  refine l_nil (WK.nx (by assumption) ?_)
  refine SeqK.nx (by assumption) ?_
  refine k_seq (fun Q K => ?_)
  refine k_seq (fun Q K => ?_)
  refine k_lin (fun W K => ?_)
  refine l_op 0 rfl rfl rfl rfl rfl ?_
  refine l_callv rfl rfl (by kernel_rfl) rfl rfl num9_call ?_
  (try dsimp only [n_1, n_2, n_3, n_4, List.append_nil, pk, n_5, n_6] at F)
  refine l_cmp rfl rfl rfl rfl ?_
  refine l_op 0 rfl rfl rfl rfl rfl ?_
  refine l_guard rfl rfl rfl (fun hc3 => ?_) (fun hc3 => ?_)
  · first | replace hc3 := bne_iff_ne.1 ((irr_eq _).symm.trans hc3) | simp only [irr_eq, bne_iff_ne, bne_eq_false_iff_eq, ne_eq, decide_eq_true_eq, decide_eq_false_iff_not, Bool.not_eq_true', Bool.not_eq_false'] at hc3
    refine l_s rfl rfl ?_
    refine l_s rfl rfl ?_
    refine l_op 2 rfl rfl rfl rfl rfl ?_
    refine l_nil (WK.nx (by assumption) ?_)
    refine SeqK.nx (by assumption) ?_
    first | refine e_cond_t rfl rfl rfl ?_ | refine e_cond_t rfl rfl (by rw [irr_eq]; first | exact beq_iff_eq.2 (by assumption) | exact decide_eq_true (by assumption) | exact bne_iff_ne.2 (by assumption)) ?_
    refine k_seq (fun Q K => ?_)
    refine k_lin (fun W K => ?_)
    refine l_op 0 rfl rfl rfl rfl rfl ?_
    refine l_callv rfl rfl (by kernel_rfl) rfl rfl num9_call ?_
    (try dsimp only [n_1, n_2, n_3, n_4, List.append_nil, pk, n_5, n_6] at F)
    refine l_cmp rfl rfl rfl rfl ?_
    refine l_op 0 rfl rfl rfl rfl rfl ?_
    refine l_cmp rfl rfl rfl rfl ?_
    refine l_cmp rfl rfl rfl rfl ?_
    refine l_op 0 rfl rfl rfl rfl rfl ?_
    refine l_guard rfl rfl rfl (fun hc4 => ?_) (fun hc4 => ?_)
    · first | replace hc4 := bne_iff_ne.1 ((irr_eq _).symm.trans hc4) | simp only [irr_eq, bne_iff_ne, bne_eq_false_iff_eq, ne_eq, decide_eq_true_eq, decide_eq_false_iff_not, Bool.not_eq_true', Bool.not_eq_false'] at hc4
      refine l_s rfl rfl ?_
      refine l_s rfl rfl ?_
      refine l_s rfl rfl ?_
      refine l_s rfl rfl ?_
      refine l_op 2 rfl rfl rfl rfl rfl ?_
      refine l_nil (WK.nx (by assumption) ?_)
      refine SeqK.nx (by assumption) ?_
      first | refine e_cond_t rfl rfl rfl ?_ | refine e_cond_t rfl rfl (by rw [irr_eq]; first | exact beq_iff_eq.2 (by assumption) | exact decide_eq_true (by assumption) | exact bne_iff_ne.2 (by assumption)) ?_
      refine k_seq (fun Q K => ?_)
      refine k_lin (fun W K => ?_)
      refine l_op 0 rfl rfl rfl rfl rfl ?_
      refine l_nil (WK.nx (by assumption) ?_)
      refine SeqK.nx (by assumption) ?_
      refine k_ret ?_
      refine SeqK.rt (by assumption) ?_
      refine FunK.rt (by assumption) rfl ?_
      -- leaf 2
      first
      | rfl
      | exact absurd (by assumption : true = false) (by decide)
      | (exfalso; omega)
      | exact absurd (iffb (w := w) (n := n) (by omega)) (by assumption)
      | exact absurd (iffb (w := v) (n := n) (by omega)) (by assumption)
    first | replace hc4 := bne_eq_false_iff_eq.1 ((irr_eq _).symm.trans hc4) | simp only [irr_eq, bne_iff_ne, bne_eq_false_iff_eq, ne_eq, decide_eq_true_eq, decide_eq_false_iff_not, Bool.not_eq_true', Bool.not_eq_false'] at hc4
    refine l_op 0 rfl rfl rfl rfl rfl ?_
    refine l_op 0 rfl rfl rfl rfl rfl ?_
    refine l_callp F rfl rfl (by kernel_rfl) rfl rfl (same_call (xs := z.bs) (ys := moA z.bs n f t) (Old.pure (F.has 0 rfl)) (Old.pure (F.has 6 rfl))) (fun _ s F _ => ?_)
    (try dsimp only [n_1, n_2, n_3, n_4, List.append_nil, pk, n_5, n_6] at F)
    rw [show eqS z.bs (moA z.bs n f t) = true by rw [moA_same (by omega), eqS_self]]
    refine l_op 2 rfl rfl rfl rfl rfl ?_
    refine l_op 2 rfl rfl rfl rfl rfl ?_
    refine l_nil (WK.nx (by assumption) ?_)
    refine SeqK.nx (by assumption) ?_
    refine l_cond rfl rfl (fun hc5 => ?_) (fun hc5 => ?_)
    · try simp only [irr_eq, beq_iff_eq, bne_iff_ne, beq_eq_false_iff_ne, bne_eq_false_iff_eq, ne_eq, decide_eq_true_eq, decide_eq_false_iff_not, Bool.not_eq_true', Bool.not_eq_false'] at hc5
      refine k_seq (fun Q K => ?_)
      refine k_lin (fun W K => ?_)
      refine l_op 0 rfl rfl rfl rfl rfl ?_
      refine l_nil (WK.nx (by assumption) ?_)
      refine SeqK.nx (by assumption) ?_
      refine k_ret ?_
      refine SeqK.rt (by assumption) ?_
      refine FunK.rt (by assumption) rfl ?_
      -- leaf 3
      first
      | rfl
      | exact absurd (by assumption : true = false) (by decide)
      | (exfalso; omega)
      | exact absurd (iffb (w := w) (n := n) (by omega)) (by assumption)
      | exact absurd (iffb (w := v) (n := n) (by omega)) (by assumption)
    try simp only [irr_eq, beq_iff_eq, bne_iff_ne, beq_eq_false_iff_ne, bne_eq_false_iff_eq, ne_eq, decide_eq_true_eq, decide_eq_false_iff_not, Bool.not_eq_true', Bool.not_eq_false'] at hc5
    refine k_skip ?_
    refine SeqK.nx (by assumption) ?_
    refine k_seq (fun Q K => ?_)
    refine k_lin (fun W K => ?_)
    refine l_op 0 rfl rfl rfl rfl rfl ?_
    refine l_op 0 rfl rfl rfl rfl rfl ?_
    refine l_op 0 rfl rfl rfl rfl rfl ?_
    refine l_call F [1, 2, 3, 4, 5] [0, 6] (by decide) rfl rfl (by kernel_rfl) rfl rfl (fill_call (F.sub [1, 2, 3, 4, 5] (by decide)) ok1 ht' hn') hD (fun _ s F _ => ?_)
    have hfl := fiA_len (moA z.bs n f t) (a := t) n0
    have hfl2 : ((z.wb (moA z.bs n f t)).wb (fiA (moA z.bs n f t) t n)).bs.length = z.bs.length := hfl.trans hml
    have ok2 : MOK ((z.wb (moA z.bs n f t)).wb (fiA (moA z.bs n f t) t n)) := ok1.wb hfl (fiA_bytes ok1.byt _ _)
    obtain ⟨v, hv, hvc⟩ := fi_cases (moA z.bs n f t).length t n
    rw [show fiE (z.wb (moA z.bs n f t)).bs.length t n = v from hv]
    (try dsimp only [n_1, n_2, n_3, n_4, List.append_nil, pk, n_5, n_6] at F)
    refine l_op 0 rfl rfl rfl rfl rfl ?_
    refine l_nil (WK.nx (by assumption) ?_)
    refine SeqK.nx (by assumption) ?_
    refine k_seq (fun Q K => ?_)
    refine k_lin (fun W K => ?_)
    refine l_op 0 rfl rfl rfl rfl rfl ?_
    first
    | refine l_callp F rfl rfl (by kernel_rfl) rfl rfl (mbytes_call (oldM_of F ok 0 1 2 3 4 rfl rfl rfl rfl rfl) ok) (fun y1 s F _ => ?_)
    | refine l_callp F rfl rfl (by kernel_rfl) rfl rfl (mbytes_call (oldM_of F ok1 1 2 3 4 5 rfl rfl rfl rfl rfl) ok1) (fun y2 s F _ => ?_)
    | refine l_callp F rfl rfl (by kernel_rfl) rfl rfl (mbytes_call (oldM_of F ok2 2 3 4 5 6 rfl rfl rfl rfl rfl) ok2) (fun y3 s F _ => ?_)
    (try dsimp only [n_1, n_2, n_3, n_4, List.append_nil, pk, n_5, n_6] at F)
    refine l_op 0 rfl rfl rfl rfl rfl ?_
    refine l_nil (WK.nx (by assumption) ?_)
    refine SeqK.nx (by assumption) ?_
    refine k_seq (fun Q K => ?_)
    refine k_seq (fun Q K => ?_)
    refine k_lin (fun W K => ?_)
    refine l_op 0 rfl rfl rfl rfl rfl ?_
    refine l_callv rfl rfl (by kernel_rfl) rfl rfl num9_call ?_
    (try dsimp only [n_1, n_2, n_3, n_4, List.append_nil, pk, n_5, n_6] at F)
    refine l_cmp rfl rfl rfl rfl ?_
    refine l_op 0 rfl rfl rfl rfl rfl ?_
    refine l_guard rfl rfl rfl (fun hc6 => ?_) (fun hc6 => ?_)
    · first | replace hc6 := bne_iff_ne.1 ((irr_eq _).symm.trans hc6) | simp only [irr_eq, bne_iff_ne, bne_eq_false_iff_eq, ne_eq, decide_eq_true_eq, decide_eq_false_iff_not, Bool.not_eq_true', Bool.not_eq_false'] at hc6
      refine l_s rfl rfl ?_
      refine l_s rfl rfl ?_
      refine l_op 2 rfl rfl rfl rfl rfl ?_
      refine l_nil (WK.nx (by assumption) ?_)
      refine SeqK.nx (by assumption) ?_
      first | refine e_cond_t rfl rfl rfl ?_ | refine e_cond_t rfl rfl (by rw [irr_eq]; first | exact beq_iff_eq.2 (by assumption) | exact decide_eq_true (by assumption) | exact bne_iff_ne.2 (by assumption)) ?_
      refine k_seq (fun Q K => ?_)
      refine k_lin (fun W K => ?_)
      refine l_op 0 rfl rfl rfl rfl rfl ?_
      refine l_op 0 rfl rfl rfl rfl rfl ?_
      refine l_callp F rfl rfl (by kernel_rfl) rfl rfl (same_call (xs := (fiA (moA z.bs n f t) t n)) (ys := (moA z.bs n f t)) (Old.pure (F.has 7 rfl)) (Old.pure (F.has 1 rfl))) (fun _ s F _ => ?_)
      (try dsimp only [n_1, n_2, n_3, n_4, List.append_nil, pk, n_5, n_6] at F)
      rw [show eqS ((fiA (moA z.bs n f t) t n)) ((moA z.bs n f t)) = true by rw [fiA_same (by omega), eqS_self]]
      refine l_op 0 rfl rfl rfl rfl rfl ?_
      refine l_guard rfl rfl rfl (fun hc7 => ?_) (fun hc7 => ?_)
      · try simp only [irr_eq, beq_iff_eq, bne_iff_ne, beq_eq_false_iff_ne, bne_eq_false_iff_eq, ne_eq, decide_eq_true_eq, decide_eq_false_iff_not, Bool.not_eq_true', Bool.not_eq_false'] at hc7
        refine l_op 0 rfl rfl rfl rfl rfl ?_
        refine l_callv rfl rfl (by kernel_rfl) rfl rfl num9_call ?_
        (try dsimp only [n_1, n_2, n_3, n_4, List.append_nil, pk, n_5, n_6] at F)
        refine l_cmp rfl rfl rfl rfl ?_
        refine l_op 0 rfl rfl rfl rfl rfl ?_
        refine l_cmp rfl rfl rfl rfl ?_
        refine l_cmp rfl rfl rfl rfl ?_
        refine l_op 2 rfl rfl rfl rfl rfl ?_
        refine l_op 0 rfl rfl rfl rfl rfl ?_
        refine l_guard rfl rfl rfl (fun hc8 => ?_) (fun hc8 => ?_)
        · first | replace hc8 := eq_of_beq ((irr_eq _).symm.trans hc8) | simp only [irr_eq, beq_iff_eq, beq_eq_false_iff_ne, ne_eq, decide_eq_true_eq, decide_eq_false_iff_not] at hc8
          refine l_callp F rfl rfl (by kernel_rfl) rfl rfl (live9_call E0) (fun _ s F _ => ?_)
          (try dsimp only [n_1, n_2, n_3, n_4, List.append_nil, pk, n_5, n_6] at F)
          refine l_op 2 rfl rfl rfl rfl rfl ?_
          refine l_op 0 rfl rfl rfl rfl rfl ?_
          refine l_nil (WK.nx (by assumption) ?_)
          refine SeqK.nx (by assumption) ?_
          refine k_ret ?_
          refine SeqK.rt (by assumption) ?_
          refine FunK.rt (by assumption) rfl ?_
          -- leaf 4
          first
          | rfl
          | exact absurd (by assumption : true = false) (by decide)
          | (exfalso; omega)
          | exact absurd (iffb (w := w) (n := n) (by omega)) (by assumption)
          | exact absurd (iffb (w := v) (n := n) (by omega)) (by assumption)
        first | replace hc8 := ne_of_beq_false ((irr_eq _).symm.trans hc8) | simp only [irr_eq, beq_iff_eq, beq_eq_false_iff_ne, ne_eq, decide_eq_true_eq, decide_eq_false_iff_not] at hc8
        refine l_s rfl rfl ?_
        refine l_op 2 rfl rfl rfl rfl rfl ?_
        refine l_op 0 rfl rfl rfl rfl rfl ?_
        refine l_nil (WK.nx (by assumption) ?_)
        refine SeqK.nx (by assumption) ?_
        refine k_ret ?_
        refine SeqK.rt (by assumption) ?_
        refine FunK.rt (by assumption) rfl ?_
        -- leaf 5
        first
        | rfl
        | exact absurd (by assumption : true = false) (by decide)
        | (exfalso; omega)
        | exact absurd (iffb (w := w) (n := n) (by omega)) (by assumption)
        | exact absurd (iffb (w := v) (n := n) (by omega)) (by assumption)
      try simp only [irr_eq, beq_iff_eq, bne_iff_ne, beq_eq_false_iff_ne, bne_eq_false_iff_eq, ne_eq, decide_eq_true_eq, decide_eq_false_iff_not, Bool.not_eq_true', Bool.not_eq_false'] at hc7
      refine l_s rfl rfl ?_
      refine l_s rfl rfl ?_
      refine l_s rfl rfl ?_
      refine l_s rfl rfl ?_
      refine l_s rfl rfl ?_
      refine l_s rfl rfl ?_
      refine l_op 2 rfl rfl rfl rfl rfl ?_
      refine l_op 0 rfl rfl rfl rfl rfl ?_
      refine l_s rfl rfl ?_
      refine l_op 2 rfl rfl rfl rfl rfl ?_
      refine l_op 0 rfl rfl rfl rfl rfl ?_
      refine l_nil (WK.nx (by assumption) ?_)
      refine SeqK.nx (by assumption) ?_
      refine k_ret ?_
      refine SeqK.rt (by assumption) ?_
      refine FunK.rt (by assumption) rfl ?_
      -- leaf 6
      first
      | rfl
      | exact absurd (by assumption : true = false) (by decide)
      | (exfalso; omega)
      | exact absurd (iffb (w := w) (n := n) (by omega)) (by assumption)
      | exact absurd (iffb (w := v) (n := n) (by omega)) (by assumption)
    first | replace hc6 := bne_eq_false_iff_eq.1 ((irr_eq _).symm.trans hc6) | simp only [irr_eq, bne_iff_ne, bne_eq_false_iff_eq, ne_eq, decide_eq_true_eq, decide_eq_false_iff_not, Bool.not_eq_true', Bool.not_eq_false'] at hc6
    refine l_op 0 rfl rfl rfl rfl rfl ?_
    refine l_cmp rfl rfl rfl rfl ?_
    refine l_op 2 rfl rfl rfl rfl rfl ?_
    refine l_nil (WK.nx (by assumption) ?_)
    refine SeqK.nx (by assumption) ?_
    refine l_cond rfl rfl (fun hc9 => ?_) (fun hc9 => ?_)
    · first | replace hc9 := eq_of_beq ((irr_eq _).symm.trans hc9) | simp only [irr_eq, beq_iff_eq, beq_eq_false_iff_ne, ne_eq, decide_eq_true_eq, decide_eq_false_iff_not] at hc9
      refine k_seq (fun Q K => ?_)
      refine k_lin (fun W K => ?_)
      refine l_op 0 rfl rfl rfl rfl rfl ?_
      refine l_op 0 rfl rfl rfl rfl rfl ?_
      refine l_callp F rfl rfl (by kernel_rfl) rfl rfl (same_call (xs := (fiA (moA z.bs n f t) t n)) (ys := (moA z.bs n f t)) (Old.pure (F.has 7 rfl)) (Old.pure (F.has 1 rfl))) (fun _ s F _ => ?_)
      (try dsimp only [n_1, n_2, n_3, n_4, List.append_nil, pk, n_5, n_6] at F)
      rw [show eqS ((fiA (moA z.bs n f t) t n)) ((moA z.bs n f t)) = true by rw [fiA_same (by omega), eqS_self]]
      refine l_op 0 rfl rfl rfl rfl rfl ?_
      refine l_guard rfl rfl rfl (fun hc10 => ?_) (fun hc10 => ?_)
      · try simp only [irr_eq, beq_iff_eq, bne_iff_ne, beq_eq_false_iff_ne, bne_eq_false_iff_eq, ne_eq, decide_eq_true_eq, decide_eq_false_iff_not, Bool.not_eq_true', Bool.not_eq_false'] at hc10
        refine l_op 0 rfl rfl rfl rfl rfl ?_
        refine l_callv rfl rfl (by kernel_rfl) rfl rfl num9_call ?_
        (try dsimp only [n_1, n_2, n_3, n_4, List.append_nil, pk, n_5, n_6] at F)
        refine l_cmp rfl rfl rfl rfl ?_
        refine l_op 0 rfl rfl rfl rfl rfl ?_
        refine l_cmp rfl rfl rfl rfl ?_
        refine l_cmp rfl rfl rfl rfl ?_
        refine l_op 2 rfl rfl rfl rfl rfl ?_
        refine l_op 0 rfl rfl rfl rfl rfl ?_
        refine l_guard rfl rfl rfl (fun hc11 => ?_) (fun hc11 => ?_)
        · first | replace hc11 := eq_of_beq ((irr_eq _).symm.trans hc11) | simp only [irr_eq, beq_iff_eq, beq_eq_false_iff_ne, ne_eq, decide_eq_true_eq, decide_eq_false_iff_not] at hc11
          refine l_callp F rfl rfl (by kernel_rfl) rfl rfl (live9_call E0) (fun _ s F _ => ?_)
          (try dsimp only [n_1, n_2, n_3, n_4, List.append_nil, pk, n_5, n_6] at F)
          refine l_op 2 rfl rfl rfl rfl rfl ?_
          refine l_op 0 rfl rfl rfl rfl rfl ?_
          refine l_nil (WK.nx (by assumption) ?_)
          refine SeqK.nx (by assumption) ?_
          refine k_ret ?_
          refine SeqK.rt (by assumption) ?_
          refine FunK.rt (by assumption) rfl ?_
          -- leaf 7
          first
          | rfl
          | exact absurd (by assumption : true = false) (by decide)
          | (exfalso; omega)
          | exact absurd (iffb (w := w) (n := n) (by omega)) (by assumption)
          | exact absurd (iffb (w := v) (n := n) (by omega)) (by assumption)
        first | replace hc11 := ne_of_beq_false ((irr_eq _).symm.trans hc11) | simp only [irr_eq, beq_iff_eq, beq_eq_false_iff_ne, ne_eq, decide_eq_true_eq, decide_eq_false_iff_not] at hc11
        refine l_s rfl rfl ?_
        refine l_op 2 rfl rfl rfl rfl rfl ?_
        refine l_op 0 rfl rfl rfl rfl rfl ?_
        refine l_nil (WK.nx (by assumption) ?_)
        refine SeqK.nx (by assumption) ?_
        refine k_ret ?_
        refine SeqK.rt (by assumption) ?_
        refine FunK.rt (by assumption) rfl ?_
        -- leaf 8
        first
        | rfl
        | exact absurd (by assumption : true = false) (by decide)
        | (exfalso; omega)
        | exact absurd (iffb (w := w) (n := n) (by omega)) (by assumption)
        | exact absurd (iffb (w := v) (n := n) (by omega)) (by assumption)
      try simp only [irr_eq, beq_iff_eq, bne_iff_ne, beq_eq_false_iff_ne, bne_eq_false_iff_eq, ne_eq, decide_eq_true_eq, decide_eq_false_iff_not, Bool.not_eq_true', Bool.not_eq_false'] at hc10
      refine l_s rfl rfl ?_
      refine l_s rfl rfl ?_
      refine l_s rfl rfl ?_
      refine l_s rfl rfl ?_
      refine l_s rfl rfl ?_
      refine l_s rfl rfl ?_
      refine l_op 2 rfl rfl rfl rfl rfl ?_
      refine l_op 0 rfl rfl rfl rfl rfl ?_
      refine l_s rfl rfl ?_
      refine l_op 2 rfl rfl rfl rfl rfl ?_
      refine l_op 0 rfl rfl rfl rfl rfl ?_
      refine l_nil (WK.nx (by assumption) ?_)
      refine SeqK.nx (by assumption) ?_
      refine k_ret ?_
      refine SeqK.rt (by assumption) ?_
      refine FunK.rt (by assumption) rfl ?_
      -- leaf 9
      first
      | rfl
      | exact absurd (by assumption : true = false) (by decide)
      | (exfalso; omega)
      | exact absurd (iffb (w := w) (n := n) (by omega)) (by assumption)
      | exact absurd (iffb (w := v) (n := n) (by omega)) (by assumption)
    first | replace hc9 := ne_of_beq_false ((irr_eq _).symm.trans hc9) | simp only [irr_eq, beq_iff_eq, beq_eq_false_iff_ne, ne_eq, decide_eq_true_eq, decide_eq_false_iff_not] at hc9
    refine k_skip ?_
    refine SeqK.nx (by assumption) ?_
    refine k_seq (fun Q K => ?_)
    refine k_lin (fun W K => ?_)
    refine l_op 0 rfl rfl rfl rfl rfl ?_
    refine l_c64 rfl rfl rfl (by omega) rfl ?_
    refine l_op 0 rfl rfl rfl rfl rfl ?_
    refine l_c64 rfl rfl rfl (by omega) rfl ?_
    refine l_op 0 rfl rfl rfl rfl rfl ?_
    refine l_op 0 rfl rfl rfl rfl rfl ?_
    refine l_nil (WK.nx (by assumption) ?_)
    refine SeqK.nx (by assumption) ?_
    refine k_seq (fun Q K => ?_)
    refine k_linr mixed (by kernel_rfl) (fun W K => ?_)
    try have hpS := F.pns
    refine l_op 0 rfl rfl rfl rfl rfl ?_
    refine l_op 0 rfl rfl rfl rfl rfl ?_
    refine l_op 0 rfl rfl rfl rfl rfl ?_
    refine l_op 0 rfl rfl rfl rfl rfl ?_
    refine l_a64 rfl rfl rfl (by omega) rfl ?_
    refine l_sl (es := 1) (l := t.toNat) (h := (t + n).toNat) rfl rfl rfl rfl rfl rfl rfl rfl ⟨rfl, _, _, rfl, by omega, rfl⟩ (F.has 7 rfl) (by omega) ?_
    refine l_op 0 rfl rfl rfl rfl rfl ?_
    refine l_mk F rfl rfl rfl rfl rfl rfl rfl (by omega) (fun q164 s F => ?_)
    (try dsimp only [n_1, n_2, n_3, n_4, List.append_nil, pk, n_5, n_6] at F)
    have ez : zrow [Value.int .u8 0] n.toNat = u8l (List.replicate n.toNat 0) := by rw [zrow_one]; exact List.map_replicate.symm
    rw [ez] at F
    refine l_callp F rfl rfl (by kernel_rfl) rfl rfl (same_call (xs := ((fiA (moA z.bs n f t) t n).drop t.toNat).take ((t + n).toNat - t.toNat)) (ys := List.replicate n.toNat 0) (Old.pure ((F.has 7 rfl).part8 (lo := t.toNat) (hi := (t + n).toNat) (by omega) (by omega))) (Old.pure (F.has 8 rfl))) (fun _ s F _ => ?_)
    (try dsimp only [n_1, n_2, n_3, n_4, List.append_nil, pk, n_5, n_6] at F)
    rw [show eqS (((fiA (moA z.bs n f t) t n).drop t.toNat).take ((t + n).toNat - t.toNat)) (List.replicate n.toNat 0) = true by have ep := fiA_put (bs := (moA z.bs n f t)) (a := t) (by omega : n ≠ 0) (by omega); have hcl := List.length_replicate (n := n.toNat) (a := (0 : Int)); rw [show (t + n).toNat - t.toNat = n.toNat by omega, ep]; have hm := putB_mid (bs := (moA z.bs n f t)) (C := List.replicate n.toNat 0) (a := t.toNat) (by omega); rw [hcl] at hm; rw [hm, eqS_self]]
    refine l_op 0 rfl rfl rfl rfl rfl ?_
    refine l_guard rfl rfl rfl (fun hc12 => ?_) (fun hc12 => ?_)
    · try simp only [irr_eq, beq_iff_eq, bne_iff_ne, beq_eq_false_iff_ne, bne_eq_false_iff_eq, ne_eq, decide_eq_true_eq, decide_eq_false_iff_not, Bool.not_eq_true', Bool.not_eq_false'] at hc12
      refine l_op 0 rfl rfl rfl rfl rfl ?_
      refine l_op 0 rfl rfl rfl rfl rfl ?_
      refine l_slh (es := 1) rfl rfl rfl rfl rfl ⟨rfl, _, _, rfl, by omega, rfl⟩ (F.has 7 rfl) (by omega) ?_
      refine l_op 0 rfl rfl rfl rfl rfl ?_
      refine l_op 0 rfl rfl rfl rfl rfl ?_
      refine l_slh (es := 1) rfl rfl rfl rfl rfl ⟨rfl, _, _, rfl, by omega, rfl⟩ (F.has 1 rfl) (by omega) ?_
      refine l_callp F rfl rfl (by kernel_rfl) rfl rfl (same_call (xs := (fiA (moA z.bs n f t) t n).take t.toNat) (ys := (moA z.bs n f t).take t.toNat) (Old.pure ((F.has 7 rfl).upto8 (hi := t.toNat) (by omega))) (Old.pure ((F.has 1 rfl).upto8 (hi := t.toNat) (by omega)))) (fun _ s F _ => ?_)
      (try dsimp only [n_1, n_2, n_3, n_4, List.append_nil, pk, n_5, n_6] at F)
      rw [show eqS ((fiA (moA z.bs n f t) t n).take t.toNat) ((moA z.bs n f t).take t.toNat) = true by have ep := fiA_put (bs := (moA z.bs n f t)) (a := t) (by omega : n ≠ 0) (by omega); have hcl := List.length_replicate (n := n.toNat) (a := (0 : Int)); rw [ep, putB_take (by omega), eqS_self]]
      refine l_op 2 rfl rfl rfl rfl rfl ?_
      refine l_op 0 rfl rfl rfl rfl rfl ?_
      refine l_guard rfl rfl rfl (fun hc13 => ?_) (fun hc13 => ?_)
      · try simp only [irr_eq, beq_iff_eq, bne_iff_ne, beq_eq_false_iff_ne, bne_eq_false_iff_eq, ne_eq, decide_eq_true_eq, decide_eq_false_iff_not, Bool.not_eq_true', Bool.not_eq_false'] at hc13
        refine l_op 0 rfl rfl rfl rfl rfl ?_
        refine l_op 0 rfl rfl rfl rfl rfl ?_
        refine l_op 0 rfl rfl rfl rfl rfl ?_
        refine l_a64 rfl rfl rfl (by omega) rfl ?_
        refine l_sl (es := 1) (l := (t + n).toNat) rfl rfl rfl rfl rfl rfl rfl rfl rfl (F.has 7 rfl) (by omega) ?_
        refine l_op 0 rfl rfl rfl rfl rfl ?_
        refine l_op 0 rfl rfl rfl rfl rfl ?_
        refine l_op 0 rfl rfl rfl rfl rfl ?_
        refine l_a64 rfl rfl rfl (by omega) rfl ?_
        refine l_sl (es := 1) (l := (t + n).toNat) rfl rfl rfl rfl rfl rfl rfl rfl rfl (F.has 1 rfl) (by omega) ?_
        refine l_callp F rfl rfl (by kernel_rfl) rfl rfl (same_call (xs := (fiA (moA z.bs n f t) t n).drop (t + n).toNat) (ys := (moA z.bs n f t).drop (t + n).toNat) (Old.pure ((F.has 7 rfl).from8 (lo := (t + n).toNat) (by omega))) (Old.pure ((F.has 1 rfl).from8 (lo := (t + n).toNat) (by omega)))) (fun _ s F _ => ?_)
        (try dsimp only [n_1, n_2, n_3, n_4, List.append_nil, pk, n_5, n_6] at F)
        rw [show eqS ((fiA (moA z.bs n f t) t n).drop (t + n).toNat) ((moA z.bs n f t).drop (t + n).toNat) = true by have ep := fiA_put (bs := (moA z.bs n f t)) (a := t) (by omega : n ≠ 0) (by omega); have hcl := List.length_replicate (n := n.toNat) (a := (0 : Int)); rw [ep, show (t + n).toNat = t.toNat + (List.replicate n.toNat (0 : Int)).length by omega, putB_drop (by omega), eqS_self]]
        refine l_op 2 rfl rfl rfl rfl rfl ?_
        refine l_op 0 rfl rfl rfl rfl rfl ?_
        refine l_guard rfl rfl rfl (fun hc14 => ?_) (fun hc14 => ?_)
        · try simp only [irr_eq, beq_iff_eq, bne_iff_ne, beq_eq_false_iff_ne, bne_eq_false_iff_eq, ne_eq, decide_eq_true_eq, decide_eq_false_iff_not, Bool.not_eq_true', Bool.not_eq_false'] at hc14
          refine l_callp F rfl rfl (by kernel_rfl) rfl rfl (live9_call E0) (fun _ s F _ => ?_)
          (try dsimp only [n_1, n_2, n_3, n_4, List.append_nil, pk, n_5, n_6] at F)
          refine l_op 2 rfl rfl rfl rfl rfl ?_
          refine l_op 0 rfl rfl rfl rfl rfl ?_
          refine l_nil (WK.nx (by assumption) ?_)
          refine SeqK.nx (by assumption) ?_
          refine k_ret ?_
          refine FunK.rt (by assumption) rfl ?_
          -- leaf 10
          first
          | rfl
          | exact absurd (by assumption : true = false) (by decide)
          | (exfalso; omega)
          | exact absurd (iffb (w := w) (n := n) (by omega)) (by assumption)
          | exact absurd (iffb (w := v) (n := n) (by omega)) (by assumption)
        try simp only [irr_eq, beq_iff_eq, bne_iff_ne, beq_eq_false_iff_ne, bne_eq_false_iff_eq, ne_eq, decide_eq_true_eq, decide_eq_false_iff_not, Bool.not_eq_true', Bool.not_eq_false'] at hc14
        refine l_s rfl rfl ?_
        refine l_op 2 rfl rfl rfl rfl rfl ?_
        refine l_op 0 rfl rfl rfl rfl rfl ?_
        refine l_nil (WK.nx (by assumption) ?_)
        refine SeqK.nx (by assumption) ?_
        refine k_ret ?_
        refine FunK.rt (by assumption) rfl ?_
        -- leaf 11
        first
        | rfl
        | exact absurd (by assumption : true = false) (by decide)
        | (exfalso; omega)
        | exact absurd (iffb (w := w) (n := n) (by omega)) (by assumption)
        | exact absurd (iffb (w := v) (n := n) (by omega)) (by assumption)
      try simp only [irr_eq, beq_iff_eq, bne_iff_ne, beq_eq_false_iff_ne, bne_eq_false_iff_eq, ne_eq, decide_eq_true_eq, decide_eq_false_iff_not, Bool.not_eq_true', Bool.not_eq_false'] at hc13
      refine l_s rfl rfl ?_
      refine l_s rfl rfl ?_
      refine l_s rfl rfl ?_
      refine l_s rfl rfl ?_
      refine l_s rfl rfl ?_
      refine l_s rfl rfl ?_
      refine l_s rfl rfl ?_
      refine l_s rfl rfl ?_
      refine l_s rfl rfl ?_
      refine l_s rfl rfl ?_
      refine l_s rfl rfl ?_
      refine l_op 2 rfl rfl rfl rfl rfl ?_
      refine l_op 0 rfl rfl rfl rfl rfl ?_
      refine l_s rfl rfl ?_
      refine l_op 2 rfl rfl rfl rfl rfl ?_
      refine l_op 0 rfl rfl rfl rfl rfl ?_
      refine l_nil (WK.nx (by assumption) ?_)
      refine SeqK.nx (by assumption) ?_
      refine k_ret ?_
      refine FunK.rt (by assumption) rfl ?_
      -- leaf 12
      first
      | rfl
      | exact absurd (by assumption : true = false) (by decide)
      | (exfalso; omega)
      | exact absurd (iffb (w := w) (n := n) (by omega)) (by assumption)
      | exact absurd (iffb (w := v) (n := n) (by omega)) (by assumption)
    try simp only [irr_eq, beq_iff_eq, bne_iff_ne, beq_eq_false_iff_ne, bne_eq_false_iff_eq, ne_eq, decide_eq_true_eq, decide_eq_false_iff_not, Bool.not_eq_true', Bool.not_eq_false'] at hc12
    refine l_s rfl rfl ?_
    refine l_s rfl rfl ?_
    refine l_s rfl rfl ?_
    refine l_s rfl rfl ?_
    refine l_s rfl rfl ?_
    refine l_s rfl rfl ?_
    refine l_s rfl rfl ?_
    refine l_op 2 rfl rfl rfl rfl rfl ?_
    refine l_op 0 rfl rfl rfl rfl rfl ?_
    refine l_s rfl rfl ?_
    refine l_s rfl rfl ?_
    refine l_s rfl rfl ?_
    refine l_s rfl rfl ?_
    refine l_s rfl rfl ?_
    refine l_s rfl rfl ?_
    refine l_s rfl rfl ?_
    refine l_s rfl rfl ?_
    refine l_s rfl rfl ?_
    refine l_s rfl rfl ?_
    refine l_s rfl rfl ?_
    refine l_op 2 rfl rfl rfl rfl rfl ?_
    refine l_op 0 rfl rfl rfl rfl rfl ?_
    refine l_s rfl rfl ?_
    refine l_op 2 rfl rfl rfl rfl rfl ?_
    refine l_op 0 rfl rfl rfl rfl rfl ?_
    refine l_nil (WK.nx (by assumption) ?_)
    refine SeqK.nx (by assumption) ?_
    refine k_ret ?_
    refine FunK.rt (by assumption) rfl ?_
    -- leaf 13
    first
    | rfl
    | exact absurd (by assumption : true = false) (by decide)
    | (exfalso; omega)
    | exact absurd (iffb (w := w) (n := n) (by omega)) (by assumption)
    | exact absurd (iffb (w := v) (n := n) (by omega)) (by assumption)
  first | replace hc3 := bne_eq_false_iff_eq.1 ((irr_eq _).symm.trans hc3) | simp only [irr_eq, bne_iff_ne, bne_eq_false_iff_eq, ne_eq, decide_eq_true_eq, decide_eq_false_iff_not, Bool.not_eq_true', Bool.not_eq_false'] at hc3
  refine l_op 0 rfl rfl rfl rfl rfl ?_
  refine l_cmp rfl rfl rfl rfl ?_
  refine l_op 2 rfl rfl rfl rfl rfl ?_
  refine l_nil (WK.nx (by assumption) ?_)
  refine SeqK.nx (by assumption) ?_
  refine l_cond rfl rfl (fun hc15 => ?_) (fun hc15 => ?_)
  · first | replace hc15 := eq_of_beq ((irr_eq _).symm.trans hc15) | simp only [irr_eq, beq_iff_eq, beq_eq_false_iff_ne, ne_eq, decide_eq_true_eq, decide_eq_false_iff_not] at hc15
    refine k_seq (fun Q K => ?_)
    refine k_lin (fun W K => ?_)
    refine l_op 0 rfl rfl rfl rfl rfl ?_
    refine l_callv rfl rfl (by kernel_rfl) rfl rfl num9_call ?_
    (try dsimp only [n_1, n_2, n_3, n_4, List.append_nil, pk, n_5, n_6] at F)
    refine l_cmp rfl rfl rfl rfl ?_
    refine l_op 0 rfl rfl rfl rfl rfl ?_
    refine l_cmp rfl rfl rfl rfl ?_
    refine l_cmp rfl rfl rfl rfl ?_
    refine l_op 0 rfl rfl rfl rfl rfl ?_
    refine l_guard rfl rfl rfl (fun hc16 => ?_) (fun hc16 => ?_)
    · first | replace hc16 := bne_iff_ne.1 ((irr_eq _).symm.trans hc16) | simp only [irr_eq, bne_iff_ne, bne_eq_false_iff_eq, ne_eq, decide_eq_true_eq, decide_eq_false_iff_not, Bool.not_eq_true', Bool.not_eq_false'] at hc16
      refine l_s rfl rfl ?_
      refine l_s rfl rfl ?_
      refine l_s rfl rfl ?_
      refine l_s rfl rfl ?_
      refine l_op 2 rfl rfl rfl rfl rfl ?_
      refine l_nil (WK.nx (by assumption) ?_)
      refine SeqK.nx (by assumption) ?_
      first | refine e_cond_t rfl rfl rfl ?_ | refine e_cond_t rfl rfl (by rw [irr_eq]; first | exact beq_iff_eq.2 (by assumption) | exact decide_eq_true (by assumption) | exact bne_iff_ne.2 (by assumption)) ?_
      refine k_seq (fun Q K => ?_)
      refine k_lin (fun W K => ?_)
      refine l_op 0 rfl rfl rfl rfl rfl ?_
      refine l_nil (WK.nx (by assumption) ?_)
      refine SeqK.nx (by assumption) ?_
      refine k_ret ?_
      refine SeqK.rt (by assumption) ?_
      refine FunK.rt (by assumption) rfl ?_
      -- leaf 14
      first
      | rfl
      | exact absurd (by assumption : true = false) (by decide)
      | (exfalso; omega)
      | exact absurd (iffb (w := w) (n := n) (by omega)) (by assumption)
      | exact absurd (iffb (w := v) (n := n) (by omega)) (by assumption)
    first | replace hc16 := bne_eq_false_iff_eq.1 ((irr_eq _).symm.trans hc16) | simp only [irr_eq, bne_iff_ne, bne_eq_false_iff_eq, ne_eq, decide_eq_true_eq, decide_eq_false_iff_not, Bool.not_eq_true', Bool.not_eq_false'] at hc16
    refine l_op 0 rfl rfl rfl rfl rfl ?_
    refine l_op 0 rfl rfl rfl rfl rfl ?_
    refine l_callp F rfl rfl (by kernel_rfl) rfl rfl (same_call (xs := z.bs) (ys := moA z.bs n f t) (Old.pure (F.has 0 rfl)) (Old.pure (F.has 6 rfl))) (fun _ s F _ => ?_)
    (try dsimp only [n_1, n_2, n_3, n_4, List.append_nil, pk, n_5, n_6] at F)
    rw [show eqS z.bs (moA z.bs n f t) = true by rw [moA_same (by omega), eqS_self]]
    refine l_op 2 rfl rfl rfl rfl rfl ?_
    refine l_op 2 rfl rfl rfl rfl rfl ?_
    refine l_nil (WK.nx (by assumption) ?_)
    refine SeqK.nx (by assumption) ?_
    refine l_cond rfl rfl (fun hc17 => ?_) (fun hc17 => ?_)
    · try simp only [irr_eq, beq_iff_eq, bne_iff_ne, beq_eq_false_iff_ne, bne_eq_false_iff_eq, ne_eq, decide_eq_true_eq, decide_eq_false_iff_not, Bool.not_eq_true', Bool.not_eq_false'] at hc17
      refine k_seq (fun Q K => ?_)
      refine k_lin (fun W K => ?_)
      refine l_op 0 rfl rfl rfl rfl rfl ?_
      refine l_nil (WK.nx (by assumption) ?_)
      refine SeqK.nx (by assumption) ?_
      refine k_ret ?_
      refine SeqK.rt (by assumption) ?_
      refine FunK.rt (by assumption) rfl ?_
      -- leaf 15
      first
      | rfl
      | exact absurd (by assumption : true = false) (by decide)
      | (exfalso; omega)
      | exact absurd (iffb (w := w) (n := n) (by omega)) (by assumption)
      | exact absurd (iffb (w := v) (n := n) (by omega)) (by assumption)
    try simp only [irr_eq, beq_iff_eq, bne_iff_ne, beq_eq_false_iff_ne, bne_eq_false_iff_eq, ne_eq, decide_eq_true_eq, decide_eq_false_iff_not, Bool.not_eq_true', Bool.not_eq_false'] at hc17
    refine k_skip ?_
    refine SeqK.nx (by assumption) ?_
    refine k_seq (fun Q K => ?_)
    refine k_lin (fun W K => ?_)
    refine l_op 0 rfl rfl rfl rfl rfl ?_
    refine l_op 0 rfl rfl rfl rfl rfl ?_
    refine l_op 0 rfl rfl rfl rfl rfl ?_
    refine l_call F [1, 2, 3, 4, 5] [0, 6] (by decide) rfl rfl (by kernel_rfl) rfl rfl (fill_call (F.sub [1, 2, 3, 4, 5] (by decide)) ok1 ht' hn') hD (fun _ s F _ => ?_)
    have hfl := fiA_len (moA z.bs n f t) (a := t) n0
    have hfl2 : ((z.wb (moA z.bs n f t)).wb (fiA (moA z.bs n f t) t n)).bs.length = z.bs.length := hfl.trans hml
    have ok2 : MOK ((z.wb (moA z.bs n f t)).wb (fiA (moA z.bs n f t) t n)) := ok1.wb hfl (fiA_bytes ok1.byt _ _)
    obtain ⟨v, hv, hvc⟩ := fi_cases (moA z.bs n f t).length t n
    rw [show fiE (z.wb (moA z.bs n f t)).bs.length t n = v from hv]
    (try dsimp only [n_1, n_2, n_3, n_4, List.append_nil, pk, n_5, n_6] at F)
    refine l_op 0 rfl rfl rfl rfl rfl ?_
    refine l_nil (WK.nx (by assumption) ?_)
    refine SeqK.nx (by assumption) ?_
    refine k_seq (fun Q K => ?_)
    refine k_lin (fun W K => ?_)
    refine l_op 0 rfl rfl rfl rfl rfl ?_
    first
    | refine l_callp F rfl rfl (by kernel_rfl) rfl rfl (mbytes_call (oldM_of F ok 0 1 2 3 4 rfl rfl rfl rfl rfl) ok) (fun y1 s F _ => ?_)
    | refine l_callp F rfl rfl (by kernel_rfl) rfl rfl (mbytes_call (oldM_of F ok1 1 2 3 4 5 rfl rfl rfl rfl rfl) ok1) (fun y2 s F _ => ?_)
    | refine l_callp F rfl rfl (by kernel_rfl) rfl rfl (mbytes_call (oldM_of F ok2 2 3 4 5 6 rfl rfl rfl rfl rfl) ok2) (fun y3 s F _ => ?_)
    (try dsimp only [n_1, n_2, n_3, n_4, List.append_nil, pk, n_5, n_6] at F)
    refine l_op 0 rfl rfl rfl rfl rfl ?_
    refine l_nil (WK.nx (by assumption) ?_)
    refine SeqK.nx (by assumption) ?_
    refine k_seq (fun Q K => ?_)
    refine k_seq (fun Q K => ?_)
    refine k_lin (fun W K => ?_)
    refine l_op 0 rfl rfl rfl rfl rfl ?_
    refine l_callv rfl rfl (by kernel_rfl) rfl rfl num9_call ?_
    (try dsimp only [n_1, n_2, n_3, n_4, List.append_nil, pk, n_5, n_6] at F)
    refine l_cmp rfl rfl rfl rfl ?_
    refine l_op 0 rfl rfl rfl rfl rfl ?_
    refine l_guard rfl rfl rfl (fun hc18 => ?_) (fun hc18 => ?_)
    · first | replace hc18 := bne_iff_ne.1 ((irr_eq _).symm.trans hc18) | simp only [irr_eq, bne_iff_ne, bne_eq_false_iff_eq, ne_eq, decide_eq_true_eq, decide_eq_false_iff_not, Bool.not_eq_true', Bool.not_eq_false'] at hc18
      refine l_s rfl rfl ?_
      refine l_s rfl rfl ?_
      refine l_op 2 rfl rfl rfl rfl rfl ?_
      refine l_nil (WK.nx (by assumption) ?_)
      refine SeqK.nx (by assumption) ?_
      first | refine e_cond_t rfl rfl rfl ?_ | refine e_cond_t rfl rfl (by rw [irr_eq]; first | exact beq_iff_eq.2 (by assumption) | exact decide_eq_true (by assumption) | exact bne_iff_ne.2 (by assumption)) ?_
      refine k_seq (fun Q K => ?_)
      refine k_lin (fun W K => ?_)
      refine l_op 0 rfl rfl rfl rfl rfl ?_
      refine l_op 0 rfl rfl rfl rfl rfl ?_
      refine l_callp F rfl rfl (by kernel_rfl) rfl rfl (same_call (xs := (fiA (moA z.bs n f t) t n)) (ys := (moA z.bs n f t)) (Old.pure (F.has 7 rfl)) (Old.pure (F.has 1 rfl))) (fun _ s F _ => ?_)
      (try dsimp only [n_1, n_2, n_3, n_4, List.append_nil, pk, n_5, n_6] at F)
      rw [show eqS ((fiA (moA z.bs n f t) t n)) ((moA z.bs n f t)) = true by rw [fiA_same (by omega), eqS_self]]
      refine l_op 0 rfl rfl rfl rfl rfl ?_
      refine l_guard rfl rfl rfl (fun hc19 => ?_) (fun hc19 => ?_)
      · try simp only [irr_eq, beq_iff_eq, bne_iff_ne, beq_eq_false_iff_ne, bne_eq_false_iff_eq, ne_eq, decide_eq_true_eq, decide_eq_false_iff_not, Bool.not_eq_true', Bool.not_eq_false'] at hc19
        refine l_op 0 rfl rfl rfl rfl rfl ?_
        refine l_callv rfl rfl (by kernel_rfl) rfl rfl num9_call ?_
        (try dsimp only [n_1, n_2, n_3, n_4, List.append_nil, pk, n_5, n_6] at F)
        refine l_cmp rfl rfl rfl rfl ?_
        refine l_op 0 rfl rfl rfl rfl rfl ?_
        refine l_cmp rfl rfl rfl rfl ?_
        refine l_cmp rfl rfl rfl rfl ?_
        refine l_op 2 rfl rfl rfl rfl rfl ?_
        refine l_op 0 rfl rfl rfl rfl rfl ?_
        refine l_guard rfl rfl rfl (fun hc20 => ?_) (fun hc20 => ?_)
        · first | replace hc20 := eq_of_beq ((irr_eq _).symm.trans hc20) | simp only [irr_eq, beq_iff_eq, beq_eq_false_iff_ne, ne_eq, decide_eq_true_eq, decide_eq_false_iff_not] at hc20
          refine l_callp F rfl rfl (by kernel_rfl) rfl rfl (live9_call E0) (fun _ s F _ => ?_)
          (try dsimp only [n_1, n_2, n_3, n_4, List.append_nil, pk, n_5, n_6] at F)
          refine l_op 2 rfl rfl rfl rfl rfl ?_
          refine l_op 0 rfl rfl rfl rfl rfl ?_
          refine l_nil (WK.nx (by assumption) ?_)
          refine SeqK.nx (by assumption) ?_
          refine k_ret ?_
          refine SeqK.rt (by assumption) ?_
          refine FunK.rt (by assumption) rfl ?_
          -- leaf 16
          first
          | rfl
          | exact absurd (by assumption : true = false) (by decide)
          | (exfalso; omega)
          | exact absurd (iffb (w := w) (n := n) (by omega)) (by assumption)
          | exact absurd (iffb (w := v) (n := n) (by omega)) (by assumption)
        first | replace hc20 := ne_of_beq_false ((irr_eq _).symm.trans hc20) | simp only [irr_eq, beq_iff_eq, beq_eq_false_iff_ne, ne_eq, decide_eq_true_eq, decide_eq_false_iff_not] at hc20
        refine l_s rfl rfl ?_
        refine l_op 2 rfl rfl rfl rfl rfl ?_
        refine l_op 0 rfl rfl rfl rfl rfl ?_
        refine l_nil (WK.nx (by assumption) ?_)
        refine SeqK.nx (by assumption) ?_
        refine k_ret ?_
        refine SeqK.rt (by assumption) ?_
        refine FunK.rt (by assumption) rfl ?_
        -- leaf 17
        first
        | rfl
        | exact absurd (by assumption : true = false) (by decide)
        | (exfalso; omega)
        | exact absurd (iffb (w := w) (n := n) (by omega)) (by assumption)
        | exact absurd (iffb (w := v) (n := n) (by omega)) (by assumption)
      try simp only [irr_eq, beq_iff_eq, bne_iff_ne, beq_eq_false_iff_ne, bne_eq_false_iff_eq, ne_eq, decide_eq_true_eq, decide_eq_false_iff_not, Bool.not_eq_true', Bool.not_eq_false'] at hc19
      refine l_s rfl rfl ?_
      refine l_s rfl rfl ?_
      refine l_s rfl rfl ?_
      refine l_s rfl rfl ?_
      refine l_s rfl rfl ?_
      refine l_s rfl rfl ?_
      refine l_op 2 rfl rfl rfl rfl rfl ?_
      refine l_op 0 rfl rfl rfl rfl rfl ?_
      refine l_s rfl rfl ?_
      refine l_op 2 rfl rfl rfl rfl rfl ?_
      refine l_op 0 rfl rfl rfl rfl rfl ?_
      refine l_nil (WK.nx (by assumption) ?_)
      refine SeqK.nx (by assumption) ?_
      refine k_ret ?_
      refine SeqK.rt (by assumption) ?_
      refine FunK.rt (by assumption) rfl ?_
      -- leaf 18
      first
      | rfl
      | exact absurd (by assumption : true = false) (by decide)
      | (exfalso; omega)
      | exact absurd (iffb (w := w) (n := n) (by omega)) (by assumption)
      | exact absurd (iffb (w := v) (n := n) (by omega)) (by assumption)
    first | replace hc18 := bne_eq_false_iff_eq.1 ((irr_eq _).symm.trans hc18) | simp only [irr_eq, bne_iff_ne, bne_eq_false_iff_eq, ne_eq, decide_eq_true_eq, decide_eq_false_iff_not, Bool.not_eq_true', Bool.not_eq_false'] at hc18
    refine l_op 0 rfl rfl rfl rfl rfl ?_
    refine l_cmp rfl rfl rfl rfl ?_
    refine l_op 2 rfl rfl rfl rfl rfl ?_
    refine l_nil (WK.nx (by assumption) ?_)
    refine SeqK.nx (by assumption) ?_
    refine l_cond rfl rfl (fun hc21 => ?_) (fun hc21 => ?_)
    · first | replace hc21 := eq_of_beq ((irr_eq _).symm.trans hc21) | simp only [irr_eq, beq_iff_eq, beq_eq_false_iff_ne, ne_eq, decide_eq_true_eq, decide_eq_false_iff_not] at hc21
      refine k_seq (fun Q K => ?_)
      refine k_lin (fun W K => ?_)
      refine l_op 0 rfl rfl rfl rfl rfl ?_
      refine l_op 0 rfl rfl rfl rfl rfl ?_
      refine l_callp F rfl rfl (by kernel_rfl) rfl rfl (same_call (xs := (fiA (moA z.bs n f t) t n)) (ys := (moA z.bs n f t)) (Old.pure (F.has 7 rfl)) (Old.pure (F.has 1 rfl))) (fun _ s F _ => ?_)
      (try dsimp only [n_1, n_2, n_3, n_4, List.append_nil, pk, n_5, n_6] at F)
      rw [show eqS ((fiA (moA z.bs n f t) t n)) ((moA z.bs n f t)) = true by rw [fiA_same (by omega), eqS_self]]
      refine l_op 0 rfl rfl rfl rfl rfl ?_
      refine l_guard rfl rfl rfl (fun hc22 => ?_) (fun hc22 => ?_)
      · try simp only [irr_eq, beq_iff_eq, bne_iff_ne, beq_eq_false_iff_ne, bne_eq_false_iff_eq, ne_eq, decide_eq_true_eq, decide_eq_false_iff_not, Bool.not_eq_true', Bool.not_eq_false'] at hc22
        refine l_op 0 rfl rfl rfl rfl rfl ?_
        refine l_callv rfl rfl (by kernel_rfl) rfl rfl num9_call ?_
        (try dsimp only [n_1, n_2, n_3, n_4, List.append_nil, pk, n_5, n_6] at F)
        refine l_cmp rfl rfl rfl rfl ?_
        refine l_op 0 rfl rfl rfl rfl rfl ?_
        refine l_cmp rfl rfl rfl rfl ?_
        refine l_cmp rfl rfl rfl rfl ?_
        refine l_op 2 rfl rfl rfl rfl rfl ?_
        refine l_op 0 rfl rfl rfl rfl rfl ?_
        refine l_guard rfl rfl rfl (fun hc23 => ?_) (fun hc23 => ?_)
        · first | replace hc23 := eq_of_beq ((irr_eq _).symm.trans hc23) | simp only [irr_eq, beq_iff_eq, beq_eq_false_iff_ne, ne_eq, decide_eq_true_eq, decide_eq_false_iff_not] at hc23
          refine l_callp F rfl rfl (by kernel_rfl) rfl rfl (live9_call E0) (fun _ s F _ => ?_)
          (try dsimp only [n_1, n_2, n_3, n_4, List.append_nil, pk, n_5, n_6] at F)
          refine l_op 2 rfl rfl rfl rfl rfl ?_
          refine l_op 0 rfl rfl rfl rfl rfl ?_
          refine l_nil (WK.nx (by assumption) ?_)
          refine SeqK.nx (by assumption) ?_
          refine k_ret ?_
          refine SeqK.rt (by assumption) ?_
          refine FunK.rt (by assumption) rfl ?_
          -- leaf 19
          first
          | rfl
          | exact absurd (by assumption : true = false) (by decide)
          | (exfalso; omega)
          | exact absurd (iffb (w := w) (n := n) (by omega)) (by assumption)
          | exact absurd (iffb (w := v) (n := n) (by omega)) (by assumption)
        first | replace hc23 := ne_of_beq_false ((irr_eq _).symm.trans hc23) | simp only [irr_eq, beq_iff_eq, beq_eq_false_iff_ne, ne_eq, decide_eq_true_eq, decide_eq_false_iff_not] at hc23
        refine l_s rfl rfl ?_
        refine l_op 2 rfl rfl rfl rfl rfl ?_
        refine l_op 0 rfl rfl rfl rfl rfl ?_
        refine l_nil (WK.nx (by assumption) ?_)
        refine SeqK.nx (by assumption) ?_
        refine k_ret ?_
        refine SeqK.rt (by assumption) ?_
        refine FunK.rt (by assumption) rfl ?_
        -- leaf 20
        first
        | rfl
        | exact absurd (by assumption : true = false) (by decide)
        | (exfalso; omega)
        | exact absurd (iffb (w := w) (n := n) (by omega)) (by assumption)
        | exact absurd (iffb (w := v) (n := n) (by omega)) (by assumption)
      try simp only [irr_eq, beq_iff_eq, bne_iff_ne, beq_eq_false_iff_ne, bne_eq_false_iff_eq, ne_eq, decide_eq_true_eq, decide_eq_false_iff_not, Bool.not_eq_true', Bool.not_eq_false'] at hc22
      refine l_s rfl rfl ?_
      refine l_s rfl rfl ?_
      refine l_s rfl rfl ?_
      refine l_s rfl rfl ?_
      refine l_s rfl rfl ?_
      refine l_s rfl rfl ?_
      refine l_op 2 rfl rfl rfl rfl rfl ?_
      refine l_op 0 rfl rfl rfl rfl rfl ?_
      refine l_s rfl rfl ?_
      refine l_op 2 rfl rfl rfl rfl rfl ?_
      refine l_op 0 rfl rfl rfl rfl rfl ?_
      refine l_nil (WK.nx (by assumption) ?_)
      refine SeqK.nx (by assumption) ?_
      refine k_ret ?_
      refine SeqK.rt (by assumption) ?_
      refine FunK.rt (by assumption) rfl ?_
      -- leaf 21
      first
      | rfl
      | exact absurd (by assumption : true = false) (by decide)
      | (exfalso; omega)
      | exact absurd (iffb (w := w) (n := n) (by omega)) (by assumption)
      | exact absurd (iffb (w := v) (n := n) (by omega)) (by assumption)
    first | replace hc21 := ne_of_beq_false ((irr_eq _).symm.trans hc21) | simp only [irr_eq, beq_iff_eq, beq_eq_false_iff_ne, ne_eq, decide_eq_true_eq, decide_eq_false_iff_not] at hc21
    refine k_skip ?_
    refine SeqK.nx (by assumption) ?_
    refine k_seq (fun Q K => ?_)
    refine k_lin (fun W K => ?_)
    refine l_op 0 rfl rfl rfl rfl rfl ?_
    refine l_c64 rfl rfl rfl (by omega) rfl ?_
    refine l_op 0 rfl rfl rfl rfl rfl ?_
    refine l_c64 rfl rfl rfl (by omega) rfl ?_
    refine l_op 0 rfl rfl rfl rfl rfl ?_
    refine l_op 0 rfl rfl rfl rfl rfl ?_
    refine l_nil (WK.nx (by assumption) ?_)
    refine SeqK.nx (by assumption) ?_
    refine k_seq (fun Q K => ?_)
    refine k_linr mixed (by kernel_rfl) (fun W K => ?_)
    try have hpS := F.pns
    refine l_op 0 rfl rfl rfl rfl rfl ?_
    refine l_op 0 rfl rfl rfl rfl rfl ?_
    refine l_op 0 rfl rfl rfl rfl rfl ?_
    refine l_op 0 rfl rfl rfl rfl rfl ?_
    refine l_a64 rfl rfl rfl (by omega) rfl ?_
    refine l_sl (es := 1) (l := t.toNat) (h := (t + n).toNat) rfl rfl rfl rfl rfl rfl rfl rfl ⟨rfl, _, _, rfl, by omega, rfl⟩ (F.has 7 rfl) (by omega) ?_
    refine l_op 0 rfl rfl rfl rfl rfl ?_
    refine l_mk F rfl rfl rfl rfl rfl rfl rfl (by omega) (fun q164 s F => ?_)
    (try dsimp only [n_1, n_2, n_3, n_4, List.append_nil, pk, n_5, n_6] at F)
    have ez : zrow [Value.int .u8 0] n.toNat = u8l (List.replicate n.toNat 0) := by rw [zrow_one]; exact List.map_replicate.symm
    rw [ez] at F
    refine l_callp F rfl rfl (by kernel_rfl) rfl rfl (same_call (xs := ((fiA (moA z.bs n f t) t n).drop t.toNat).take ((t + n).toNat - t.toNat)) (ys := List.replicate n.toNat 0) (Old.pure ((F.has 7 rfl).part8 (lo := t.toNat) (hi := (t + n).toNat) (by omega) (by omega))) (Old.pure (F.has 8 rfl))) (fun _ s F _ => ?_)
    (try dsimp only [n_1, n_2, n_3, n_4, List.append_nil, pk, n_5, n_6] at F)
    rw [show eqS (((fiA (moA z.bs n f t) t n).drop t.toNat).take ((t + n).toNat - t.toNat)) (List.replicate n.toNat 0) = true by have ep := fiA_put (bs := (moA z.bs n f t)) (a := t) (by omega : n ≠ 0) (by omega); have hcl := List.length_replicate (n := n.toNat) (a := (0 : Int)); rw [show (t + n).toNat - t.toNat = n.toNat by omega, ep]; have hm := putB_mid (bs := (moA z.bs n f t)) (C := List.replicate n.toNat 0) (a := t.toNat) (by omega); rw [hcl] at hm; rw [hm, eqS_self]]
    refine l_op 0 rfl rfl rfl rfl rfl ?_
    refine l_guard rfl rfl rfl (fun hc24 => ?_) (fun hc24 => ?_)
    · try simp only [irr_eq, beq_iff_eq, bne_iff_ne, beq_eq_false_iff_ne, bne_eq_false_iff_eq, ne_eq, decide_eq_true_eq, decide_eq_false_iff_not, Bool.not_eq_true', Bool.not_eq_false'] at hc24
      refine l_op 0 rfl rfl rfl rfl rfl ?_
      refine l_op 0 rfl rfl rfl rfl rfl ?_
      refine l_slh (es := 1) rfl rfl rfl rfl rfl ⟨rfl, _, _, rfl, by omega, rfl⟩ (F.has 7 rfl) (by omega) ?_
      refine l_op 0 rfl rfl rfl rfl rfl ?_
      refine l_op 0 rfl rfl rfl rfl rfl ?_
      refine l_slh (es := 1) rfl rfl rfl rfl rfl ⟨rfl, _, _, rfl, by omega, rfl⟩ (F.has 1 rfl) (by omega) ?_
      refine l_callp F rfl rfl (by kernel_rfl) rfl rfl (same_call (xs := (fiA (moA z.bs n f t) t n).take t.toNat) (ys := (moA z.bs n f t).take t.toNat) (Old.pure ((F.has 7 rfl).upto8 (hi := t.toNat) (by omega))) (Old.pure ((F.has 1 rfl).upto8 (hi := t.toNat) (by omega)))) (fun _ s F _ => ?_)
      (try dsimp only [n_1, n_2, n_3, n_4, List.append_nil, pk, n_5, n_6] at F)
      rw [show eqS ((fiA (moA z.bs n f t) t n).take t.toNat) ((moA z.bs n f t).take t.toNat) = true by have ep := fiA_put (bs := (moA z.bs n f t)) (a := t) (by omega : n ≠ 0) (by omega); have hcl := List.length_replicate (n := n.toNat) (a := (0 : Int)); rw [ep, putB_take (by omega), eqS_self]]
      refine l_op 2 rfl rfl rfl rfl rfl ?_
      refine l_op 0 rfl rfl rfl rfl rfl ?_
      refine l_guard rfl rfl rfl (fun hc25 => ?_) (fun hc25 => ?_)
      · try simp only [irr_eq, beq_iff_eq, bne_iff_ne, beq_eq_false_iff_ne, bne_eq_false_iff_eq, ne_eq, decide_eq_true_eq, decide_eq_false_iff_not, Bool.not_eq_true', Bool.not_eq_false'] at hc25
        refine l_op 0 rfl rfl rfl rfl rfl ?_
        refine l_op 0 rfl rfl rfl rfl rfl ?_
        refine l_op 0 rfl rfl rfl rfl rfl ?_
        refine l_a64 rfl rfl rfl (by omega) rfl ?_
        refine l_sl (es := 1) (l := (t + n).toNat) rfl rfl rfl rfl rfl rfl rfl rfl rfl (F.has 7 rfl) (by omega) ?_
        refine l_op 0 rfl rfl rfl rfl rfl ?_
        refine l_op 0 rfl rfl rfl rfl rfl ?_
        refine l_op 0 rfl rfl rfl rfl rfl ?_
        refine l_a64 rfl rfl rfl (by omega) rfl ?_
        refine l_sl (es := 1) (l := (t + n).toNat) rfl rfl rfl rfl rfl rfl rfl rfl rfl (F.has 1 rfl) (by omega) ?_
        refine l_callp F rfl rfl (by kernel_rfl) rfl rfl (same_call (xs := (fiA (moA z.bs n f t) t n).drop (t + n).toNat) (ys := (moA z.bs n f t).drop (t + n).toNat) (Old.pure ((F.has 7 rfl).from8 (lo := (t + n).toNat) (by omega))) (Old.pure ((F.has 1 rfl).from8 (lo := (t + n).toNat) (by omega)))) (fun _ s F _ => ?_)
        (try dsimp only [n_1, n_2, n_3, n_4, List.append_nil, pk, n_5, n_6] at F)
        rw [show eqS ((fiA (moA z.bs n f t) t n).drop (t + n).toNat) ((moA z.bs n f t).drop (t + n).toNat) = true by have ep := fiA_put (bs := (moA z.bs n f t)) (a := t) (by omega : n ≠ 0) (by omega); have hcl := List.length_replicate (n := n.toNat) (a := (0 : Int)); rw [ep, show (t + n).toNat = t.toNat + (List.replicate n.toNat (0 : Int)).length by omega, putB_drop (by omega), eqS_self]]
        refine l_op 2 rfl rfl rfl rfl rfl ?_
        refine l_op 0 rfl rfl rfl rfl rfl ?_
        refine l_guard rfl rfl rfl (fun hc26 => ?_) (fun hc26 => ?_)
        · try simp only [irr_eq, beq_iff_eq, bne_iff_ne, beq_eq_false_iff_ne, bne_eq_false_iff_eq, ne_eq, decide_eq_true_eq, decide_eq_false_iff_not, Bool.not_eq_true', Bool.not_eq_false'] at hc26
          refine l_callp F rfl rfl (by kernel_rfl) rfl rfl (live9_call E0) (fun _ s F _ => ?_)
          (try dsimp only [n_1, n_2, n_3, n_4, List.append_nil, pk, n_5, n_6] at F)
          refine l_op 2 rfl rfl rfl rfl rfl ?_
          refine l_op 0 rfl rfl rfl rfl rfl ?_
          refine l_nil (WK.nx (by assumption) ?_)
          refine SeqK.nx (by assumption) ?_
          refine k_ret ?_
          refine FunK.rt (by assumption) rfl ?_
          -- leaf 22
          first
          | rfl
          | exact absurd (by assumption : true = false) (by decide)
          | (exfalso; omega)
          | exact absurd (iffb (w := w) (n := n) (by omega)) (by assumption)
          | exact absurd (iffb (w := v) (n := n) (by omega)) (by assumption)
        try simp only [irr_eq, beq_iff_eq, bne_iff_ne, beq_eq_false_iff_ne, bne_eq_false_iff_eq, ne_eq, decide_eq_true_eq, decide_eq_false_iff_not, Bool.not_eq_true', Bool.not_eq_false'] at hc26
        refine l_s rfl rfl ?_
        refine l_op 2 rfl rfl rfl rfl rfl ?_
        refine l_op 0 rfl rfl rfl rfl rfl ?_
        refine l_nil (WK.nx (by assumption) ?_)
        refine SeqK.nx (by assumption) ?_
        refine k_ret ?_
        refine FunK.rt (by assumption) rfl ?_
        -- leaf 23
        first
        | rfl
        | exact absurd (by assumption : true = false) (by decide)
        | (exfalso; omega)
        | exact absurd (iffb (w := w) (n := n) (by omega)) (by assumption)
        | exact absurd (iffb (w := v) (n := n) (by omega)) (by assumption)
      try simp only [irr_eq, beq_iff_eq, bne_iff_ne, beq_eq_false_iff_ne, bne_eq_false_iff_eq, ne_eq, decide_eq_true_eq, decide_eq_false_iff_not, Bool.not_eq_true', Bool.not_eq_false'] at hc25
      refine l_s rfl rfl ?_
      refine l_s rfl rfl ?_
      refine l_s rfl rfl ?_
      refine l_s rfl rfl ?_
      refine l_s rfl rfl ?_
      refine l_s rfl rfl ?_
      refine l_s rfl rfl ?_
      refine l_s rfl rfl ?_
      refine l_s rfl rfl ?_
      refine l_s rfl rfl ?_
      refine l_s rfl rfl ?_
      refine l_op 2 rfl rfl rfl rfl rfl ?_
      refine l_op 0 rfl rfl rfl rfl rfl ?_
      refine l_s rfl rfl ?_
      refine l_op 2 rfl rfl rfl rfl rfl ?_
      refine l_op 0 rfl rfl rfl rfl rfl ?_
      refine l_nil (WK.nx (by assumption) ?_)
      refine SeqK.nx (by assumption) ?_
      refine k_ret ?_
      refine FunK.rt (by assumption) rfl ?_
      -- leaf 24
      first
      | rfl
      | exact absurd (by assumption : true = false) (by decide)
      | (exfalso; omega)
      | exact absurd (iffb (w := w) (n := n) (by omega)) (by assumption)
      | exact absurd (iffb (w := v) (n := n) (by omega)) (by assumption)
    try simp only [irr_eq, beq_iff_eq, bne_iff_ne, beq_eq_false_iff_ne, bne_eq_false_iff_eq, ne_eq, decide_eq_true_eq, decide_eq_false_iff_not, Bool.not_eq_true', Bool.not_eq_false'] at hc24
    refine l_s rfl rfl ?_
    refine l_s rfl rfl ?_
    refine l_s rfl rfl ?_
    refine l_s rfl rfl ?_
    refine l_s rfl rfl ?_
    refine l_s rfl rfl ?_
    refine l_s rfl rfl ?_
    refine l_op 2 rfl rfl rfl rfl rfl ?_
    refine l_op 0 rfl rfl rfl rfl rfl ?_
    refine l_s rfl rfl ?_
    refine l_s rfl rfl ?_
    refine l_s rfl rfl ?_
    refine l_s rfl rfl ?_
    refine l_s rfl rfl ?_
    refine l_s rfl rfl ?_
    refine l_s rfl rfl ?_
    refine l_s rfl rfl ?_
    refine l_s rfl rfl ?_
    refine l_s rfl rfl ?_
    refine l_s rfl rfl ?_
    refine l_op 2 rfl rfl rfl rfl rfl ?_
    refine l_op 0 rfl rfl rfl rfl rfl ?_
    refine l_s rfl rfl ?_
    refine l_op 2 rfl rfl rfl rfl rfl ?_
    refine l_op 0 rfl rfl rfl rfl rfl ?_
    refine l_nil (WK.nx (by assumption) ?_)
    refine SeqK.nx (by assumption) ?_
    refine k_ret ?_
    refine FunK.rt (by assumption) rfl ?_
    -- leaf 25
    first
    | rfl
    | exact absurd (by assumption : true = false) (by decide)
    | (exfalso; omega)
    | exact absurd (iffb (w := w) (n := n) (by omega)) (by assumption)
    | exact absurd (iffb (w := v) (n := n) (by omega)) (by assumption)
  first | replace hc15 := ne_of_beq_false ((irr_eq _).symm.trans hc15) | simp only [irr_eq, beq_iff_eq, beq_eq_false_iff_ne, ne_eq, decide_eq_true_eq, decide_eq_false_iff_not] at hc15
  refine k_seq (fun Q K => ?_)
  refine k_lin (fun W K => ?_)
  refine l_op 0 rfl rfl rfl rfl rfl ?_
  refine l_c64 rfl rfl rfl (by omega) rfl ?_
  refine l_op 0 rfl rfl rfl rfl rfl ?_
  refine l_c64 rfl rfl rfl (by omega) rfl ?_
  refine l_op 0 rfl rfl rfl rfl rfl ?_
  refine l_c64 rfl rfl rfl (by omega) rfl ?_
  refine l_op 0 rfl rfl rfl rfl rfl ?_
  refine l_op 0 rfl rfl rfl rfl rfl ?_
  refine l_op 0 rfl rfl rfl rfl rfl ?_
  refine l_nil (WK.nx (by assumption) ?_)
  refine SeqK.nx (by assumption) ?_
  refine k_seq (fun Q K => ?_)
  refine k_linr mixed (by kernel_rfl) (fun W K => ?_)
  try have hpS := F.pns
  refine l_op 0 rfl rfl rfl rfl rfl ?_
  refine l_op 0 rfl rfl rfl rfl rfl ?_
  refine l_a64 rfl rfl rfl (by omega) rfl ?_
  refine l_op 0 rfl rfl rfl rfl rfl ?_
  first | refine l_op 2 rfl rfl rfl rfl rfl ?_ | refine l_ln rfl rfl rfl rfl ?_
  refine l_cmp rfl rfl rfl rfl ?_
  refine l_op 0 rfl rfl rfl rfl rfl ?_
  refine l_guard rfl rfl rfl (fun hc27 => ?_) (fun hc27 => ?_)
  · replace hc27 := of_decide_eq_true ((irr_eq _).symm.trans hc27)
    refine l_s rfl rfl ?_
    refine l_s rfl rfl ?_
    refine l_op 2 rfl rfl rfl rfl rfl ?_
    refine l_op 0 rfl rfl rfl rfl rfl ?_
    refine l_s rfl rfl ?_
    refine l_s rfl rfl ?_
    refine l_s rfl rfl ?_
    refine l_s rfl rfl ?_
    refine l_s rfl rfl ?_
    refine l_s rfl rfl ?_
    refine l_op 2 rfl rfl rfl rfl rfl ?_
    refine l_op 0 rfl rfl rfl rfl rfl ?_
    refine l_s rfl rfl ?_
    refine l_s rfl rfl ?_
    refine l_s rfl rfl ?_
    refine l_s rfl rfl ?_
    refine l_s rfl rfl ?_
    refine l_op 2 rfl rfl rfl rfl rfl ?_
    refine l_op 0 rfl rfl rfl rfl rfl ?_
    refine l_s rfl rfl ?_
    refine l_s rfl rfl ?_
    refine l_s rfl rfl ?_
    refine l_s rfl rfl ?_
    refine l_s rfl rfl ?_
    refine l_s rfl rfl ?_
    refine l_s rfl rfl ?_
    refine l_s rfl rfl ?_
    refine l_s rfl rfl ?_
    refine l_s rfl rfl ?_
    refine l_s rfl rfl ?_
    refine l_s rfl rfl ?_
    refine l_s rfl rfl ?_
    refine l_s rfl rfl ?_
    refine l_op 2 rfl rfl rfl rfl rfl ?_
    refine l_op 0 rfl rfl rfl rfl rfl ?_
    refine l_s rfl rfl ?_
    refine l_s rfl rfl ?_
    refine l_s rfl rfl ?_
    refine l_s rfl rfl ?_
    refine l_s rfl rfl ?_
    refine l_s rfl rfl ?_
    refine l_s rfl rfl ?_
    refine l_s rfl rfl ?_
    refine l_op 2 rfl rfl rfl rfl rfl ?_
    refine l_op 0 rfl rfl rfl rfl rfl ?_
    refine l_s rfl rfl ?_
    refine l_s rfl rfl ?_
    refine l_s rfl rfl ?_
    refine l_s rfl rfl ?_
    refine l_s rfl rfl ?_
    refine l_s rfl rfl ?_
    refine l_s rfl rfl ?_
    refine l_s rfl rfl ?_
    refine l_s rfl rfl ?_
    refine l_s rfl rfl ?_
    refine l_s rfl rfl ?_
    refine l_s rfl rfl ?_
    refine l_op 2 rfl rfl rfl rfl rfl ?_
    refine l_nil (WK.nx (by assumption) ?_)
    refine SeqK.nx (by assumption) ?_
    first | refine e_cond_t rfl rfl rfl ?_ | refine e_cond_t rfl rfl (by rw [irr_eq]; first | exact beq_iff_eq.2 (by assumption) | exact decide_eq_true (by assumption) | exact bne_iff_ne.2 (by assumption)) ?_
    refine k_seq (fun Q K => ?_)
    refine k_lin (fun W K => ?_)
    refine l_op 0 rfl rfl rfl rfl rfl ?_
    refine l_nil (WK.nx (by assumption) ?_)
    refine SeqK.nx (by assumption) ?_
    refine k_ret ?_
    refine SeqK.rt (by assumption) ?_
    refine FunK.rt (by assumption) rfl ?_
    -- leaf 26
    first
    | rfl
    | exact absurd (by assumption : true = false) (by decide)
    | (exfalso; omega)
    | exact absurd (iffb (w := w) (n := n) (by omega)) (by assumption)
    | exact absurd (iffb (w := v) (n := n) (by omega)) (by assumption)
  replace hc27 := of_decide_eq_false ((irr_eq _).symm.trans hc27)
  refine l_op 0 rfl rfl rfl rfl rfl ?_
  refine l_cmp rfl rfl rfl rfl ?_
  refine l_op 2 rfl rfl rfl rfl rfl ?_
  refine l_op 0 rfl rfl rfl rfl rfl ?_
  refine l_guard rfl rfl rfl (fun hc28 => ?_) (fun hc28 => ?_)
  · replace hc28 := of_decide_eq_true ((irr_eq _).symm.trans hc28)
    refine l_s rfl rfl ?_
    refine l_s rfl rfl ?_
    refine l_s rfl rfl ?_
    refine l_s rfl rfl ?_
    refine l_s rfl rfl ?_
    refine l_s rfl rfl ?_
    refine l_op 2 rfl rfl rfl rfl rfl ?_
    refine l_op 0 rfl rfl rfl rfl rfl ?_
    refine l_s rfl rfl ?_
    refine l_s rfl rfl ?_
    refine l_s rfl rfl ?_
    refine l_s rfl rfl ?_
    refine l_s rfl rfl ?_
    refine l_op 2 rfl rfl rfl rfl rfl ?_
    refine l_op 0 rfl rfl rfl rfl rfl ?_
    refine l_s rfl rfl ?_
    refine l_s rfl rfl ?_
    refine l_s rfl rfl ?_
    refine l_s rfl rfl ?_
    refine l_s rfl rfl ?_
    refine l_s rfl rfl ?_
    refine l_s rfl rfl ?_
    refine l_s rfl rfl ?_
    refine l_s rfl rfl ?_
    refine l_s rfl rfl ?_
    refine l_s rfl rfl ?_
    refine l_s rfl rfl ?_
    refine l_s rfl rfl ?_
    refine l_s rfl rfl ?_
    refine l_op 2 rfl rfl rfl rfl rfl ?_
    refine l_op 0 rfl rfl rfl rfl rfl ?_
    refine l_s rfl rfl ?_
    refine l_s rfl rfl ?_
    refine l_s rfl rfl ?_
    refine l_s rfl rfl ?_
    refine l_s rfl rfl ?_
    refine l_s rfl rfl ?_
    refine l_s rfl rfl ?_
    refine l_s rfl rfl ?_
    refine l_op 2 rfl rfl rfl rfl rfl ?_
    refine l_op 0 rfl rfl rfl rfl rfl ?_
    refine l_s rfl rfl ?_
    refine l_s rfl rfl ?_
    refine l_s rfl rfl ?_
    refine l_s rfl rfl ?_
    refine l_s rfl rfl ?_
    refine l_s rfl rfl ?_
    refine l_s rfl rfl ?_
    refine l_s rfl rfl ?_
    refine l_s rfl rfl ?_
    refine l_s rfl rfl ?_
    refine l_s rfl rfl ?_
    refine l_s rfl rfl ?_
    refine l_op 2 rfl rfl rfl rfl rfl ?_
    refine l_nil (WK.nx (by assumption) ?_)
    refine SeqK.nx (by assumption) ?_
    first | refine e_cond_t rfl rfl rfl ?_ | refine e_cond_t rfl rfl (by rw [irr_eq]; first | exact beq_iff_eq.2 (by assumption) | exact decide_eq_true (by assumption) | exact bne_iff_ne.2 (by assumption)) ?_
    refine k_seq (fun Q K => ?_)
    refine k_lin (fun W K => ?_)
    refine l_op 0 rfl rfl rfl rfl rfl ?_
    refine l_nil (WK.nx (by assumption) ?_)
    refine SeqK.nx (by assumption) ?_
    refine k_ret ?_
    refine SeqK.rt (by assumption) ?_
    refine FunK.rt (by assumption) rfl ?_
    -- leaf 27
    first
    | rfl
    | exact absurd (by assumption : true = false) (by decide)
    | (exfalso; omega)
    | exact absurd (iffb (w := w) (n := n) (by omega)) (by assumption)
    | exact absurd (iffb (w := v) (n := n) (by omega)) (by assumption)
  replace hc28 := of_decide_eq_false ((irr_eq _).symm.trans hc28)
  refine l_op 0 rfl rfl rfl rfl rfl ?_
  refine l_op 0 rfl rfl rfl rfl rfl ?_
  refine l_a64 rfl rfl rfl (by omega) rfl ?_
  refine l_op 0 rfl rfl rfl rfl rfl ?_
  first | refine l_op 2 rfl rfl rfl rfl rfl ?_ | refine l_ln rfl rfl rfl rfl ?_
  refine l_cmp rfl rfl rfl rfl ?_
  refine l_op 2 rfl rfl rfl rfl rfl ?_
  refine l_op 0 rfl rfl rfl rfl rfl ?_
  refine l_guard rfl rfl rfl (fun hc29 => ?_) (fun hc29 => ?_)
  · replace hc29 := of_decide_eq_true ((irr_eq _).symm.trans hc29)
    refine l_s rfl rfl ?_
    refine l_s rfl rfl ?_
    refine l_s rfl rfl ?_
    refine l_s rfl rfl ?_
    refine l_s rfl rfl ?_
    refine l_op 2 rfl rfl rfl rfl rfl ?_
    refine l_op 0 rfl rfl rfl rfl rfl ?_
    refine l_s rfl rfl ?_
    refine l_s rfl rfl ?_
    refine l_s rfl rfl ?_
    refine l_s rfl rfl ?_
    refine l_s rfl rfl ?_
    refine l_s rfl rfl ?_
    refine l_s rfl rfl ?_
    refine l_s rfl rfl ?_
    refine l_s rfl rfl ?_
    refine l_s rfl rfl ?_
    refine l_s rfl rfl ?_
    refine l_s rfl rfl ?_
    refine l_s rfl rfl ?_
    refine l_s rfl rfl ?_
    refine l_op 2 rfl rfl rfl rfl rfl ?_
    refine l_op 0 rfl rfl rfl rfl rfl ?_
    refine l_s rfl rfl ?_
    refine l_s rfl rfl ?_
    refine l_s rfl rfl ?_
    refine l_s rfl rfl ?_
    refine l_s rfl rfl ?_
    refine l_s rfl rfl ?_
    refine l_s rfl rfl ?_
    refine l_s rfl rfl ?_
    refine l_op 2 rfl rfl rfl rfl rfl ?_
    refine l_op 0 rfl rfl rfl rfl rfl ?_
    refine l_s rfl rfl ?_
    refine l_s rfl rfl ?_
    refine l_s rfl rfl ?_
    refine l_s rfl rfl ?_
    refine l_s rfl rfl ?_
    refine l_s rfl rfl ?_
    refine l_s rfl rfl ?_
    refine l_s rfl rfl ?_
    refine l_s rfl rfl ?_
    refine l_s rfl rfl ?_
    refine l_s rfl rfl ?_
    refine l_s rfl rfl ?_
    refine l_op 2 rfl rfl rfl rfl rfl ?_
    refine l_nil (WK.nx (by assumption) ?_)
    refine SeqK.nx (by assumption) ?_
    first | refine e_cond_t rfl rfl rfl ?_ | refine e_cond_t rfl rfl (by rw [irr_eq]; first | exact beq_iff_eq.2 (by assumption) | exact decide_eq_true (by assumption) | exact bne_iff_ne.2 (by assumption)) ?_
    refine k_seq (fun Q K => ?_)
    refine k_lin (fun W K => ?_)
    refine l_op 0 rfl rfl rfl rfl rfl ?_
    refine l_nil (WK.nx (by assumption) ?_)
    refine SeqK.nx (by assumption) ?_
    refine k_ret ?_
    refine SeqK.rt (by assumption) ?_
    refine FunK.rt (by assumption) rfl ?_
    -- leaf 28
    first
    | rfl
    | exact absurd (by assumption : true = false) (by decide)
    | (exfalso; omega)
    | exact absurd (iffb (w := w) (n := n) (by omega)) (by assumption)
    | exact absurd (iffb (w := v) (n := n) (by omega)) (by assumption)
  replace hc29 := of_decide_eq_false ((irr_eq _).symm.trans hc29)
  refine l_op 0 rfl rfl rfl rfl rfl ?_
  first | refine l_op 2 rfl rfl rfl rfl rfl ?_ | refine l_ln rfl rfl rfl rfl ?_
  refine l_op 0 rfl rfl rfl rfl rfl ?_
  first | refine l_op 2 rfl rfl rfl rfl rfl ?_ | refine l_ln rfl rfl rfl rfl ?_
  refine l_cmp rfl rfl rfl rfl ?_
  refine l_op 2 rfl rfl rfl rfl rfl ?_
  refine l_op 0 rfl rfl rfl rfl rfl ?_
  refine l_guard rfl rfl rfl (fun hc30 => ?_) (fun hc30 => ?_)
  · first | replace hc30 := bne_iff_ne.1 ((irr_eq _).symm.trans hc30) | simp only [irr_eq, bne_iff_ne, bne_eq_false_iff_eq, ne_eq, decide_eq_true_eq, decide_eq_false_iff_not, Bool.not_eq_true', Bool.not_eq_false'] at hc30
    refine l_s rfl rfl ?_
    refine l_s rfl rfl ?_
    refine l_s rfl rfl ?_
    refine l_s rfl rfl ?_
    refine l_s rfl rfl ?_
    refine l_s rfl rfl ?_
    refine l_s rfl rfl ?_
    refine l_s rfl rfl ?_
    refine l_s rfl rfl ?_
    refine l_s rfl rfl ?_
    refine l_s rfl rfl ?_
    refine l_s rfl rfl ?_
    refine l_s rfl rfl ?_
    refine l_s rfl rfl ?_
    refine l_op 2 rfl rfl rfl rfl rfl ?_
    refine l_op 0 rfl rfl rfl rfl rfl ?_
    refine l_s rfl rfl ?_
    refine l_s rfl rfl ?_
    refine l_s rfl rfl ?_
    refine l_s rfl rfl ?_
    refine l_s rfl rfl ?_
    refine l_s rfl rfl ?_
    refine l_s rfl rfl ?_
    refine l_s rfl rfl ?_
    refine l_op 2 rfl rfl rfl rfl rfl ?_
    refine l_op 0 rfl rfl rfl rfl rfl ?_
    refine l_s rfl rfl ?_
    refine l_s rfl rfl ?_
    refine l_s rfl rfl ?_
    refine l_s rfl rfl ?_
    refine l_s rfl rfl ?_
    refine l_s rfl rfl ?_
    refine l_s rfl rfl ?_
    refine l_s rfl rfl ?_
    refine l_s rfl rfl ?_
    refine l_s rfl rfl ?_
    refine l_s rfl rfl ?_
    refine l_s rfl rfl ?_
    refine l_op 2 rfl rfl rfl rfl rfl ?_
    refine l_nil (WK.nx (by assumption) ?_)
    refine SeqK.nx (by assumption) ?_
    first | refine e_cond_t rfl rfl rfl ?_ | refine e_cond_t rfl rfl (by rw [irr_eq]; first | exact beq_iff_eq.2 (by assumption) | exact decide_eq_true (by assumption) | exact bne_iff_ne.2 (by assumption)) ?_
    refine k_seq (fun Q K => ?_)
    refine k_lin (fun W K => ?_)
    refine l_op 0 rfl rfl rfl rfl rfl ?_
    refine l_nil (WK.nx (by assumption) ?_)
    refine SeqK.nx (by assumption) ?_
    refine k_ret ?_
    refine SeqK.rt (by assumption) ?_
    refine FunK.rt (by assumption) rfl ?_
    -- leaf 29
    first
    | rfl
    | exact absurd (by assumption : true = false) (by decide)
    | (exfalso; omega)
    | exact absurd (iffb (w := w) (n := n) (by omega)) (by assumption)
    | exact absurd (iffb (w := v) (n := n) (by omega)) (by assumption)
  first | replace hc30 := bne_eq_false_iff_eq.1 ((irr_eq _).symm.trans hc30) | simp only [irr_eq, bne_iff_ne, bne_eq_false_iff_eq, ne_eq, decide_eq_true_eq, decide_eq_false_iff_not, Bool.not_eq_true', Bool.not_eq_false'] at hc30
  refine l_op 0 rfl rfl rfl rfl rfl ?_
  refine l_op 0 rfl rfl rfl rfl rfl ?_
  refine l_op 0 rfl rfl rfl rfl rfl ?_
  refine l_op 0 rfl rfl rfl rfl rfl ?_
  refine l_a64 rfl rfl rfl (by omega) rfl ?_
  refine l_sl (es := 1) (l := t.toNat) (h := (t + n).toNat) rfl rfl rfl rfl rfl rfl rfl rfl ⟨rfl, _, _, rfl, by omega, rfl⟩ (F.has 6 rfl) (by omega) ?_
  refine l_op 0 rfl rfl rfl rfl rfl ?_
  refine l_op 0 rfl rfl rfl rfl rfl ?_
  refine l_op 0 rfl rfl rfl rfl rfl ?_
  refine l_op 0 rfl rfl rfl rfl rfl ?_
  refine l_a64 rfl rfl rfl (by omega) rfl ?_
  refine l_sl (es := 1) (l := f.toNat) (h := (f + n).toNat) rfl rfl rfl rfl rfl rfl rfl rfl ⟨rfl, _, _, rfl, by omega, rfl⟩ (F.has 0 rfl) (by omega) ?_
  refine l_callp F rfl rfl (by kernel_rfl) rfl rfl (same_call (xs := ((moA z.bs n f t).drop t.toNat).take ((t + n).toNat - t.toNat)) (ys := (z.bs.drop f.toNat).take ((f + n).toNat - f.toNat)) (Old.pure ((F.has 6 rfl).part8 (lo := t.toNat) (hi := (t + n).toNat) (by omega) (by omega))) (Old.pure ((F.has 0 rfl).part8 (lo := f.toNat) (hi := (f + n).toNat) (by omega) (by omega)))) (fun _ s F _ => ?_)
  (try dsimp only [n_1, n_2, n_3, n_4, List.append_nil, pk, n_5, n_6] at F)
  rw [show eqS (((moA z.bs n f t).drop t.toNat).take ((t + n).toNat - t.toNat)) ((z.bs.drop f.toNat).take ((f + n).toNat - f.toNat)) = true by have ep := moA_put (bs := z.bs) (f := f) (t := t) (by omega : n ≠ 0) (by omega); have hcl := cut_len z.bs f0 n0 (by omega); rw [show (t + n).toNat - t.toNat = n.toNat by omega, show (f + n).toNat - f.toNat = n.toNat by omega, ep]; have hm := putB_mid (bs := z.bs) (C := (z.bs.drop f.toNat).take n.toNat) (a := t.toNat) (by omega); rw [hcl] at hm; rw [hm, eqS_self]]
  refine l_op 2 rfl rfl rfl rfl rfl ?_
  refine l_op 2 rfl rfl rfl rfl rfl ?_
  refine l_op 0 rfl rfl rfl rfl rfl ?_
  refine l_guard rfl rfl rfl (fun hc31 => ?_) (fun hc31 => ?_)
  · try simp only [irr_eq, beq_iff_eq, bne_iff_ne, beq_eq_false_iff_ne, bne_eq_false_iff_eq, ne_eq, decide_eq_true_eq, decide_eq_false_iff_not, Bool.not_eq_true', Bool.not_eq_false'] at hc31
    refine l_s rfl rfl ?_
    refine l_s rfl rfl ?_
    refine l_s rfl rfl ?_
    refine l_s rfl rfl ?_
    refine l_s rfl rfl ?_
    refine l_s rfl rfl ?_
    refine l_s rfl rfl ?_
    refine l_s rfl rfl ?_
    refine l_op 2 rfl rfl rfl rfl rfl ?_
    refine l_op 0 rfl rfl rfl rfl rfl ?_
    refine l_s rfl rfl ?_
    refine l_s rfl rfl ?_
    refine l_s rfl rfl ?_
    refine l_s rfl rfl ?_
    refine l_s rfl rfl ?_
    refine l_s rfl rfl ?_
    refine l_s rfl rfl ?_
    refine l_s rfl rfl ?_
    refine l_s rfl rfl ?_
    refine l_s rfl rfl ?_
    refine l_s rfl rfl ?_
    refine l_s rfl rfl ?_
    refine l_op 2 rfl rfl rfl rfl rfl ?_
    refine l_nil (WK.nx (by assumption) ?_)
    refine SeqK.nx (by assumption) ?_
    first | refine e_cond_t rfl rfl rfl ?_ | refine e_cond_t rfl rfl (by rw [irr_eq]; first | exact beq_iff_eq.2 (by assumption) | exact decide_eq_true (by assumption) | exact bne_iff_ne.2 (by assumption)) ?_
    refine k_seq (fun Q K => ?_)
    refine k_lin (fun W K => ?_)
    refine l_op 0 rfl rfl rfl rfl rfl ?_
    refine l_nil (WK.nx (by assumption) ?_)
    refine SeqK.nx (by assumption) ?_
    refine k_ret ?_
    refine SeqK.rt (by assumption) ?_
    refine FunK.rt (by assumption) rfl ?_
    -- leaf 30
    first
    | rfl
    | exact absurd (by assumption : true = false) (by decide)
    | (exfalso; omega)
    | exact absurd (iffb (w := w) (n := n) (by omega)) (by assumption)
    | exact absurd (iffb (w := v) (n := n) (by omega)) (by assumption)
  try simp only [irr_eq, beq_iff_eq, bne_iff_ne, beq_eq_false_iff_ne, bne_eq_false_iff_eq, ne_eq, decide_eq_true_eq, decide_eq_false_iff_not, Bool.not_eq_true', Bool.not_eq_false'] at hc31
  refine l_op 0 rfl rfl rfl rfl rfl ?_
  refine l_op 0 rfl rfl rfl rfl rfl ?_
  refine l_slh (es := 1) rfl rfl rfl rfl rfl ⟨rfl, _, _, rfl, by omega, rfl⟩ (F.has 6 rfl) (by omega) ?_
  refine l_op 0 rfl rfl rfl rfl rfl ?_
  refine l_op 0 rfl rfl rfl rfl rfl ?_
  refine l_slh (es := 1) rfl rfl rfl rfl rfl ⟨rfl, _, _, rfl, by omega, rfl⟩ (F.has 0 rfl) (by omega) ?_
  refine l_callp F rfl rfl (by kernel_rfl) rfl rfl (same_call (xs := (moA z.bs n f t).take t.toNat) (ys := z.bs.take t.toNat) (Old.pure ((F.has 6 rfl).upto8 (hi := t.toNat) (by omega))) (Old.pure ((F.has 0 rfl).upto8 (hi := t.toNat) (by omega)))) (fun _ s F _ => ?_)
  (try dsimp only [n_1, n_2, n_3, n_4, List.append_nil, pk, n_5, n_6] at F)
  rw [show eqS ((moA z.bs n f t).take t.toNat) (z.bs.take t.toNat) = true by have ep := moA_put (bs := z.bs) (f := f) (t := t) (by omega : n ≠ 0) (by omega); have hcl := cut_len z.bs f0 n0 (by omega); rw [ep, putB_take (by omega), eqS_self]]
  refine l_op 2 rfl rfl rfl rfl rfl ?_
  refine l_op 2 rfl rfl rfl rfl rfl ?_
  refine l_op 0 rfl rfl rfl rfl rfl ?_
  refine l_guard rfl rfl rfl (fun hc32 => ?_) (fun hc32 => ?_)
  · try simp only [irr_eq, beq_iff_eq, bne_iff_ne, beq_eq_false_iff_ne, bne_eq_false_iff_eq, ne_eq, decide_eq_true_eq, decide_eq_false_iff_not, Bool.not_eq_true', Bool.not_eq_false'] at hc32
    refine l_s rfl rfl ?_
    refine l_s rfl rfl ?_
    refine l_s rfl rfl ?_
    refine l_s rfl rfl ?_
    refine l_s rfl rfl ?_
    refine l_s rfl rfl ?_
    refine l_s rfl rfl ?_
    refine l_s rfl rfl ?_
    refine l_s rfl rfl ?_
    refine l_s rfl rfl ?_
    refine l_s rfl rfl ?_
    refine l_s rfl rfl ?_
    refine l_op 2 rfl rfl rfl rfl rfl ?_
    refine l_nil (WK.nx (by assumption) ?_)
    refine SeqK.nx (by assumption) ?_
    first | refine e_cond_t rfl rfl rfl ?_ | refine e_cond_t rfl rfl (by rw [irr_eq]; first | exact beq_iff_eq.2 (by assumption) | exact decide_eq_true (by assumption) | exact bne_iff_ne.2 (by assumption)) ?_
    refine k_seq (fun Q K => ?_)
    refine k_lin (fun W K => ?_)
    refine l_op 0 rfl rfl rfl rfl rfl ?_
    refine l_nil (WK.nx (by assumption) ?_)
    refine SeqK.nx (by assumption) ?_
    refine k_ret ?_
    refine SeqK.rt (by assumption) ?_
    refine FunK.rt (by assumption) rfl ?_
    -- leaf 31
    first
    | rfl
    | exact absurd (by assumption : true = false) (by decide)
    | (exfalso; omega)
    | exact absurd (iffb (w := w) (n := n) (by omega)) (by assumption)
    | exact absurd (iffb (w := v) (n := n) (by omega)) (by assumption)
  try simp only [irr_eq, beq_iff_eq, bne_iff_ne, beq_eq_false_iff_ne, bne_eq_false_iff_eq, ne_eq, decide_eq_true_eq, decide_eq_false_iff_not, Bool.not_eq_true', Bool.not_eq_false'] at hc32
  refine l_op 0 rfl rfl rfl rfl rfl ?_
  refine l_op 0 rfl rfl rfl rfl rfl ?_
  refine l_op 0 rfl rfl rfl rfl rfl ?_
  refine l_a64 rfl rfl rfl (by omega) rfl ?_
  refine l_sl (es := 1) (l := (t + n).toNat) rfl rfl rfl rfl rfl rfl rfl rfl rfl (F.has 6 rfl) (by omega) ?_
  refine l_op 0 rfl rfl rfl rfl rfl ?_
  refine l_op 0 rfl rfl rfl rfl rfl ?_
  refine l_op 0 rfl rfl rfl rfl rfl ?_
  refine l_a64 rfl rfl rfl (by omega) rfl ?_
  refine l_sl (es := 1) (l := (t + n).toNat) rfl rfl rfl rfl rfl rfl rfl rfl rfl (F.has 0 rfl) (by omega) ?_
  refine l_callp F rfl rfl (by kernel_rfl) rfl rfl (same_call (xs := (moA z.bs n f t).drop (t + n).toNat) (ys := z.bs.drop (t + n).toNat) (Old.pure ((F.has 6 rfl).from8 (lo := (t + n).toNat) (by omega))) (Old.pure ((F.has 0 rfl).from8 (lo := (t + n).toNat) (by omega)))) (fun _ s F _ => ?_)
  (try dsimp only [n_1, n_2, n_3, n_4, List.append_nil, pk, n_5, n_6] at F)
  rw [show eqS ((moA z.bs n f t).drop (t + n).toNat) (z.bs.drop (t + n).toNat) = true by have ep := moA_put (bs := z.bs) (f := f) (t := t) (by omega : n ≠ 0) (by omega); have hcl := cut_len z.bs f0 n0 (by omega); rw [ep, show (t + n).toNat = t.toNat + ((z.bs.drop f.toNat).take n.toNat).length by omega, putB_drop (by omega), eqS_self]]
  refine l_op 2 rfl rfl rfl rfl rfl ?_
  refine l_op 2 rfl rfl rfl rfl rfl ?_
  refine l_nil (WK.nx (by assumption) ?_)
  refine SeqK.nx (by assumption) ?_
  refine l_cond rfl rfl (fun hc33 => ?_) (fun hc33 => ?_)
  · try simp only [irr_eq, beq_iff_eq, bne_iff_ne, beq_eq_false_iff_ne, bne_eq_false_iff_eq, ne_eq, decide_eq_true_eq, decide_eq_false_iff_not, Bool.not_eq_true', Bool.not_eq_false'] at hc33
    refine k_seq (fun Q K => ?_)
    refine k_lin (fun W K => ?_)
    refine l_op 0 rfl rfl rfl rfl rfl ?_
    refine l_nil (WK.nx (by assumption) ?_)
    refine SeqK.nx (by assumption) ?_
    refine k_ret ?_
    refine SeqK.rt (by assumption) ?_
    refine FunK.rt (by assumption) rfl ?_
    -- leaf 32
    first
    | rfl
    | exact absurd (by assumption : true = false) (by decide)
    | (exfalso; omega)
    | exact absurd (iffb (w := w) (n := n) (by omega)) (by assumption)
    | exact absurd (iffb (w := v) (n := n) (by omega)) (by assumption)
  try simp only [irr_eq, beq_iff_eq, bne_iff_ne, beq_eq_false_iff_ne, bne_eq_false_iff_eq, ne_eq, decide_eq_true_eq, decide_eq_false_iff_not, Bool.not_eq_true', Bool.not_eq_false'] at hc33
  refine k_skip ?_
  refine SeqK.nx (by assumption) ?_
  refine k_seq (fun Q K => ?_)
  refine k_lin (fun W K => ?_)
  refine l_op 0 rfl rfl rfl rfl rfl ?_
  refine l_op 0 rfl rfl rfl rfl rfl ?_
  refine l_op 0 rfl rfl rfl rfl rfl ?_
  refine l_call F [1, 2, 3, 4, 5] [0, 6] (by decide) rfl rfl (by kernel_rfl) rfl rfl (fill_call (F.sub [1, 2, 3, 4, 5] (by decide)) ok1 ht' hn') hD (fun _ s F _ => ?_)
  have hfl := fiA_len (moA z.bs n f t) (a := t) n0
  have hfl2 : ((z.wb (moA z.bs n f t)).wb (fiA (moA z.bs n f t) t n)).bs.length = z.bs.length := hfl.trans hml
  have ok2 : MOK ((z.wb (moA z.bs n f t)).wb (fiA (moA z.bs n f t) t n)) := ok1.wb hfl (fiA_bytes ok1.byt _ _)
  obtain ⟨v, hv, hvc⟩ := fi_cases (moA z.bs n f t).length t n
  rw [show fiE (z.wb (moA z.bs n f t)).bs.length t n = v from hv]
  (try dsimp only [n_1, n_2, n_3, n_4, List.append_nil, pk, n_5, n_6] at F)
  refine l_op 0 rfl rfl rfl rfl rfl ?_
  refine l_nil (WK.nx (by assumption) ?_)
  refine SeqK.nx (by assumption) ?_
  refine k_seq (fun Q K => ?_)
  refine k_lin (fun W K => ?_)
  refine l_op 0 rfl rfl rfl rfl rfl ?_
  first
  | refine l_callp F rfl rfl (by kernel_rfl) rfl rfl (mbytes_call (oldM_of F ok 0 1 2 3 4 rfl rfl rfl rfl rfl) ok) (fun y1 s F _ => ?_)
  | refine l_callp F rfl rfl (by kernel_rfl) rfl rfl (mbytes_call (oldM_of F ok1 1 2 3 4 5 rfl rfl rfl rfl rfl) ok1) (fun y2 s F _ => ?_)
  | refine l_callp F rfl rfl (by kernel_rfl) rfl rfl (mbytes_call (oldM_of F ok2 2 3 4 5 6 rfl rfl rfl rfl rfl) ok2) (fun y3 s F _ => ?_)
  (try dsimp only [n_1, n_2, n_3, n_4, List.append_nil, pk, n_5, n_6] at F)
  refine l_op 0 rfl rfl rfl rfl rfl ?_
  refine l_nil (WK.nx (by assumption) ?_)
  refine SeqK.nx (by assumption) ?_
  refine k_seq (fun Q K => ?_)
  refine k_seq (fun Q K => ?_)
  refine k_lin (fun W K => ?_)
  refine l_op 0 rfl rfl rfl rfl rfl ?_
  refine l_callv rfl rfl (by kernel_rfl) rfl rfl num9_call ?_
  (try dsimp only [n_1, n_2, n_3, n_4, List.append_nil, pk, n_5, n_6] at F)
  refine l_cmp rfl rfl rfl rfl ?_
  refine l_op 0 rfl rfl rfl rfl rfl ?_
  refine l_guard rfl rfl rfl (fun hc34 => ?_) (fun hc34 => ?_)
  · first | replace hc34 := bne_iff_ne.1 ((irr_eq _).symm.trans hc34) | simp only [irr_eq, bne_iff_ne, bne_eq_false_iff_eq, ne_eq, decide_eq_true_eq, decide_eq_false_iff_not, Bool.not_eq_true', Bool.not_eq_false'] at hc34
    refine l_s rfl rfl ?_
    refine l_s rfl rfl ?_
    refine l_op 2 rfl rfl rfl rfl rfl ?_
    refine l_nil (WK.nx (by assumption) ?_)
    refine SeqK.nx (by assumption) ?_
    first | refine e_cond_t rfl rfl rfl ?_ | refine e_cond_t rfl rfl (by rw [irr_eq]; first | exact beq_iff_eq.2 (by assumption) | exact decide_eq_true (by assumption) | exact bne_iff_ne.2 (by assumption)) ?_
    refine k_seq (fun Q K => ?_)
    refine k_lin (fun W K => ?_)
    refine l_op 0 rfl rfl rfl rfl rfl ?_
    refine l_op 0 rfl rfl rfl rfl rfl ?_
    refine l_callp F rfl rfl (by kernel_rfl) rfl rfl (same_call (xs := (fiA (moA z.bs n f t) t n)) (ys := (moA z.bs n f t)) (Old.pure (F.has 7 rfl)) (Old.pure (F.has 1 rfl))) (fun _ s F _ => ?_)
    (try dsimp only [n_1, n_2, n_3, n_4, List.append_nil, pk, n_5, n_6] at F)
    rw [show eqS ((fiA (moA z.bs n f t) t n)) ((moA z.bs n f t)) = true by rw [fiA_same (by omega), eqS_self]]
    refine l_op 0 rfl rfl rfl rfl rfl ?_
    refine l_guard rfl rfl rfl (fun hc35 => ?_) (fun hc35 => ?_)
    · try simp only [irr_eq, beq_iff_eq, bne_iff_ne, beq_eq_false_iff_ne, bne_eq_false_iff_eq, ne_eq, decide_eq_true_eq, decide_eq_false_iff_not, Bool.not_eq_true', Bool.not_eq_false'] at hc35
      refine l_op 0 rfl rfl rfl rfl rfl ?_
      refine l_callv rfl rfl (by kernel_rfl) rfl rfl num9_call ?_
      (try dsimp only [n_1, n_2, n_3, n_4, List.append_nil, pk, n_5, n_6] at F)
      refine l_cmp rfl rfl rfl rfl ?_
      refine l_op 0 rfl rfl rfl rfl rfl ?_
      refine l_cmp rfl rfl rfl rfl ?_
      refine l_cmp rfl rfl rfl rfl ?_
      refine l_op 2 rfl rfl rfl rfl rfl ?_
      refine l_op 0 rfl rfl rfl rfl rfl ?_
      refine l_guard rfl rfl rfl (fun hc36 => ?_) (fun hc36 => ?_)
      · first | replace hc36 := eq_of_beq ((irr_eq _).symm.trans hc36) | simp only [irr_eq, beq_iff_eq, beq_eq_false_iff_ne, ne_eq, decide_eq_true_eq, decide_eq_false_iff_not] at hc36
        refine l_callp F rfl rfl (by kernel_rfl) rfl rfl (live9_call E0) (fun _ s F _ => ?_)
        (try dsimp only [n_1, n_2, n_3, n_4, List.append_nil, pk, n_5, n_6] at F)
        refine l_op 2 rfl rfl rfl rfl rfl ?_
        refine l_op 0 rfl rfl rfl rfl rfl ?_
        refine l_nil (WK.nx (by assumption) ?_)
        refine SeqK.nx (by assumption) ?_
        refine k_ret ?_
        refine SeqK.rt (by assumption) ?_
        refine FunK.rt (by assumption) rfl ?_
        -- leaf 33
        first
        | rfl
        | exact absurd (by assumption : true = false) (by decide)
        | (exfalso; omega)
        | exact absurd (iffb (w := w) (n := n) (by omega)) (by assumption)
        | exact absurd (iffb (w := v) (n := n) (by omega)) (by assumption)
      first | replace hc36 := ne_of_beq_false ((irr_eq _).symm.trans hc36) | simp only [irr_eq, beq_iff_eq, beq_eq_false_iff_ne, ne_eq, decide_eq_true_eq, decide_eq_false_iff_not] at hc36
      refine l_s rfl rfl ?_
      refine l_op 2 rfl rfl rfl rfl rfl ?_
      refine l_op 0 rfl rfl rfl rfl rfl ?_
      refine l_nil (WK.nx (by assumption) ?_)
      refine SeqK.nx (by assumption) ?_
      refine k_ret ?_
      refine SeqK.rt (by assumption) ?_
      refine FunK.rt (by assumption) rfl ?_
      -- leaf 34
      first
      | rfl
      | exact absurd (by assumption : true = false) (by decide)
      | (exfalso; omega)
      | exact absurd (iffb (w := w) (n := n) (by omega)) (by assumption)
      | exact absurd (iffb (w := v) (n := n) (by omega)) (by assumption)
    try simp only [irr_eq, beq_iff_eq, bne_iff_ne, beq_eq_false_iff_ne, bne_eq_false_iff_eq, ne_eq, decide_eq_true_eq, decide_eq_false_iff_not, Bool.not_eq_true', Bool.not_eq_false'] at hc35
    refine l_s rfl rfl ?_
    refine l_s rfl rfl ?_
    refine l_s rfl rfl ?_
    refine l_s rfl rfl ?_
    refine l_s rfl rfl ?_
    refine l_s rfl rfl ?_
    refine l_op 2 rfl rfl rfl rfl rfl ?_
    refine l_op 0 rfl rfl rfl rfl rfl ?_
    refine l_s rfl rfl ?_
    refine l_op 2 rfl rfl rfl rfl rfl ?_
    refine l_op 0 rfl rfl rfl rfl rfl ?_
    refine l_nil (WK.nx (by assumption) ?_)
    refine SeqK.nx (by assumption) ?_
    refine k_ret ?_
    refine SeqK.rt (by assumption) ?_
    refine FunK.rt (by assumption) rfl ?_
    -- leaf 35
    first
    | rfl
    | exact absurd (by assumption : true = false) (by decide)
    | (exfalso; omega)
    | exact absurd (iffb (w := w) (n := n) (by omega)) (by assumption)
    | exact absurd (iffb (w := v) (n := n) (by omega)) (by assumption)
  first | replace hc34 := bne_eq_false_iff_eq.1 ((irr_eq _).symm.trans hc34) | simp only [irr_eq, bne_iff_ne, bne_eq_false_iff_eq, ne_eq, decide_eq_true_eq, decide_eq_false_iff_not, Bool.not_eq_true', Bool.not_eq_false'] at hc34
  refine l_op 0 rfl rfl rfl rfl rfl ?_
  refine l_cmp rfl rfl rfl rfl ?_
  refine l_op 2 rfl rfl rfl rfl rfl ?_
  refine l_nil (WK.nx (by assumption) ?_)
  refine SeqK.nx (by assumption) ?_
  refine l_cond rfl rfl (fun hc37 => ?_) (fun hc37 => ?_)
  · first | replace hc37 := eq_of_beq ((irr_eq _).symm.trans hc37) | simp only [irr_eq, beq_iff_eq, beq_eq_false_iff_ne, ne_eq, decide_eq_true_eq, decide_eq_false_iff_not] at hc37
    refine k_seq (fun Q K => ?_)
    refine k_lin (fun W K => ?_)
    refine l_op 0 rfl rfl rfl rfl rfl ?_
    refine l_op 0 rfl rfl rfl rfl rfl ?_
    refine l_callp F rfl rfl (by kernel_rfl) rfl rfl (same_call (xs := (fiA (moA z.bs n f t) t n)) (ys := (moA z.bs n f t)) (Old.pure (F.has 7 rfl)) (Old.pure (F.has 1 rfl))) (fun _ s F _ => ?_)
    (try dsimp only [n_1, n_2, n_3, n_4, List.append_nil, pk, n_5, n_6] at F)
    rw [show eqS ((fiA (moA z.bs n f t) t n)) ((moA z.bs n f t)) = true by rw [fiA_same (by omega), eqS_self]]
    refine l_op 0 rfl rfl rfl rfl rfl ?_
    refine l_guard rfl rfl rfl (fun hc38 => ?_) (fun hc38 => ?_)
    · try simp only [irr_eq, beq_iff_eq, bne_iff_ne, beq_eq_false_iff_ne, bne_eq_false_iff_eq, ne_eq, decide_eq_true_eq, decide_eq_false_iff_not, Bool.not_eq_true', Bool.not_eq_false'] at hc38
      refine l_op 0 rfl rfl rfl rfl rfl ?_
      refine l_callv rfl rfl (by kernel_rfl) rfl rfl num9_call ?_
      (try dsimp only [n_1, n_2, n_3, n_4, List.append_nil, pk, n_5, n_6] at F)
      refine l_cmp rfl rfl rfl rfl ?_
      refine l_op 0 rfl rfl rfl rfl rfl ?_
      refine l_cmp rfl rfl rfl rfl ?_
      refine l_cmp rfl rfl rfl rfl ?_
      refine l_op 2 rfl rfl rfl rfl rfl ?_
      refine l_op 0 rfl rfl rfl rfl rfl ?_
      refine l_guard rfl rfl rfl (fun hc39 => ?_) (fun hc39 => ?_)
      · first | replace hc39 := eq_of_beq ((irr_eq _).symm.trans hc39) | simp only [irr_eq, beq_iff_eq, beq_eq_false_iff_ne, ne_eq, decide_eq_true_eq, decide_eq_false_iff_not] at hc39
        refine l_callp F rfl rfl (by kernel_rfl) rfl rfl (live9_call E0) (fun _ s F _ => ?_)
        (try dsimp only [n_1, n_2, n_3, n_4, List.append_nil, pk, n_5, n_6] at F)
        refine l_op 2 rfl rfl rfl rfl rfl ?_
        refine l_op 0 rfl rfl rfl rfl rfl ?_
        refine l_nil (WK.nx (by assumption) ?_)
        refine SeqK.nx (by assumption) ?_
        refine k_ret ?_
        refine SeqK.rt (by assumption) ?_
        refine FunK.rt (by assumption) rfl ?_
        -- leaf 36
        first
        | rfl
        | exact absurd (by assumption : true = false) (by decide)
        | (exfalso; omega)
        | exact absurd (iffb (w := w) (n := n) (by omega)) (by assumption)
        | exact absurd (iffb (w := v) (n := n) (by omega)) (by assumption)
      first | replace hc39 := ne_of_beq_false ((irr_eq _).symm.trans hc39) | simp only [irr_eq, beq_iff_eq, beq_eq_false_iff_ne, ne_eq, decide_eq_true_eq, decide_eq_false_iff_not] at hc39
      refine l_s rfl rfl ?_
      refine l_op 2 rfl rfl rfl rfl rfl ?_
      refine l_op 0 rfl rfl rfl rfl rfl ?_
      refine l_nil (WK.nx (by assumption) ?_)
      refine SeqK.nx (by assumption) ?_
      refine k_ret ?_
      refine SeqK.rt (by assumption) ?_
      refine FunK.rt (by assumption) rfl ?_
      -- leaf 37
      first
      | rfl
      | exact absurd (by assumption : true = false) (by decide)
      | (exfalso; omega)
      | exact absurd (iffb (w := w) (n := n) (by omega)) (by assumption)
      | exact absurd (iffb (w := v) (n := n) (by omega)) (by assumption)
    try simp only [irr_eq, beq_iff_eq, bne_iff_ne, beq_eq_false_iff_ne, bne_eq_false_iff_eq, ne_eq, decide_eq_true_eq, decide_eq_false_iff_not, Bool.not_eq_true', Bool.not_eq_false'] at hc38
    refine l_s rfl rfl ?_
    refine l_s rfl rfl ?_
    refine l_s rfl rfl ?_
    refine l_s rfl rfl ?_
    refine l_s rfl rfl ?_
    refine l_s rfl rfl ?_
    refine l_op 2 rfl rfl rfl rfl rfl ?_
    refine l_op 0 rfl rfl rfl rfl rfl ?_
    refine l_s rfl rfl ?_
    refine l_op 2 rfl rfl rfl rfl rfl ?_
    refine l_op 0 rfl rfl rfl rfl rfl ?_
    refine l_nil (WK.nx (by assumption) ?_)
    refine SeqK.nx (by assumption) ?_
    refine k_ret ?_
    refine SeqK.rt (by assumption) ?_
    refine FunK.rt (by assumption) rfl ?_
    -- leaf 38
    first
    | rfl
    | exact absurd (by assumption : true = false) (by decide)
    | (exfalso; omega)
    | exact absurd (iffb (w := w) (n := n) (by omega)) (by assumption)
    | exact absurd (iffb (w := v) (n := n) (by omega)) (by assumption)
  first | replace hc37 := ne_of_beq_false ((irr_eq _).symm.trans hc37) | simp only [irr_eq, beq_iff_eq, beq_eq_false_iff_ne, ne_eq, decide_eq_true_eq, decide_eq_false_iff_not] at hc37
  refine k_skip ?_
  refine SeqK.nx (by assumption) ?_
  refine k_seq (fun Q K => ?_)
  refine k_lin (fun W K => ?_)
  refine l_op 0 rfl rfl rfl rfl rfl ?_
  refine l_c64 rfl rfl rfl (by omega) rfl ?_
  refine l_op 0 rfl rfl rfl rfl rfl ?_
  refine l_c64 rfl rfl rfl (by omega) rfl ?_
  refine l_op 0 rfl rfl rfl rfl rfl ?_
  refine l_op 0 rfl rfl rfl rfl rfl ?_
  refine l_nil (WK.nx (by assumption) ?_)
  refine SeqK.nx (by assumption) ?_
  refine k_seq (fun Q K => ?_)
  refine k_linr mixed (by kernel_rfl) (fun W K => ?_)
  try have hpS := F.pns
  refine l_op 0 rfl rfl rfl rfl rfl ?_
  refine l_op 0 rfl rfl rfl rfl rfl ?_
  refine l_op 0 rfl rfl rfl rfl rfl ?_
  refine l_op 0 rfl rfl rfl rfl rfl ?_
  refine l_a64 rfl rfl rfl (by omega) rfl ?_
  refine l_sl (es := 1) (l := t.toNat) (h := (t + n).toNat) rfl rfl rfl rfl rfl rfl rfl rfl ⟨rfl, _, _, rfl, by omega, rfl⟩ (F.has 7 rfl) (by omega) ?_
  refine l_op 0 rfl rfl rfl rfl rfl ?_
  refine l_mk F rfl rfl rfl rfl rfl rfl rfl (by omega) (fun q164 s F => ?_)
  (try dsimp only [n_1, n_2, n_3, n_4, List.append_nil, pk, n_5, n_6] at F)
  have ez : zrow [Value.int .u8 0] n.toNat = u8l (List.replicate n.toNat 0) := by rw [zrow_one]; exact List.map_replicate.symm
  rw [ez] at F
  refine l_callp F rfl rfl (by kernel_rfl) rfl rfl (same_call (xs := ((fiA (moA z.bs n f t) t n).drop t.toNat).take ((t + n).toNat - t.toNat)) (ys := List.replicate n.toNat 0) (Old.pure ((F.has 7 rfl).part8 (lo := t.toNat) (hi := (t + n).toNat) (by omega) (by omega))) (Old.pure (F.has 8 rfl))) (fun _ s F _ => ?_)
  (try dsimp only [n_1, n_2, n_3, n_4, List.append_nil, pk, n_5, n_6] at F)
  rw [show eqS (((fiA (moA z.bs n f t) t n).drop t.toNat).take ((t + n).toNat - t.toNat)) (List.replicate n.toNat 0) = true by have ep := fiA_put (bs := (moA z.bs n f t)) (a := t) (by omega : n ≠ 0) (by omega); have hcl := List.length_replicate (n := n.toNat) (a := (0 : Int)); rw [show (t + n).toNat - t.toNat = n.toNat by omega, ep]; have hm := putB_mid (bs := (moA z.bs n f t)) (C := List.replicate n.toNat 0) (a := t.toNat) (by omega); rw [hcl] at hm; rw [hm, eqS_self]]
  refine l_op 0 rfl rfl rfl rfl rfl ?_
  refine l_guard rfl rfl rfl (fun hc40 => ?_) (fun hc40 => ?_)
  · try simp only [irr_eq, beq_iff_eq, bne_iff_ne, beq_eq_false_iff_ne, bne_eq_false_iff_eq, ne_eq, decide_eq_true_eq, decide_eq_false_iff_not, Bool.not_eq_true', Bool.not_eq_false'] at hc40
    refine l_op 0 rfl rfl rfl rfl rfl ?_
    refine l_op 0 rfl rfl rfl rfl rfl ?_
    refine l_slh (es := 1) rfl rfl rfl rfl rfl ⟨rfl, _, _, rfl, by omega, rfl⟩ (F.has 7 rfl) (by omega) ?_
    refine l_op 0 rfl rfl rfl rfl rfl ?_
    refine l_op 0 rfl rfl rfl rfl rfl ?_
    refine l_slh (es := 1) rfl rfl rfl rfl rfl ⟨rfl, _, _, rfl, by omega, rfl⟩ (F.has 1 rfl) (by omega) ?_
    refine l_callp F rfl rfl (by kernel_rfl) rfl rfl (same_call (xs := (fiA (moA z.bs n f t) t n).take t.toNat) (ys := (moA z.bs n f t).take t.toNat) (Old.pure ((F.has 7 rfl).upto8 (hi := t.toNat) (by omega))) (Old.pure ((F.has 1 rfl).upto8 (hi := t.toNat) (by omega)))) (fun _ s F _ => ?_)
    (try dsimp only [n_1, n_2, n_3, n_4, List.append_nil, pk, n_5, n_6] at F)
    rw [show eqS ((fiA (moA z.bs n f t) t n).take t.toNat) ((moA z.bs n f t).take t.toNat) = true by have ep := fiA_put (bs := (moA z.bs n f t)) (a := t) (by omega : n ≠ 0) (by omega); have hcl := List.length_replicate (n := n.toNat) (a := (0 : Int)); rw [ep, putB_take (by omega), eqS_self]]
    refine l_op 2 rfl rfl rfl rfl rfl ?_
    refine l_op 0 rfl rfl rfl rfl rfl ?_
    refine l_guard rfl rfl rfl (fun hc41 => ?_) (fun hc41 => ?_)
    · try simp only [irr_eq, beq_iff_eq, bne_iff_ne, beq_eq_false_iff_ne, bne_eq_false_iff_eq, ne_eq, decide_eq_true_eq, decide_eq_false_iff_not, Bool.not_eq_true', Bool.not_eq_false'] at hc41
      refine l_op 0 rfl rfl rfl rfl rfl ?_
      refine l_op 0 rfl rfl rfl rfl rfl ?_
      refine l_op 0 rfl rfl rfl rfl rfl ?_
      refine l_a64 rfl rfl rfl (by omega) rfl ?_
      refine l_sl (es := 1) (l := (t + n).toNat) rfl rfl rfl rfl rfl rfl rfl rfl rfl (F.has 7 rfl) (by omega) ?_
      refine l_op 0 rfl rfl rfl rfl rfl ?_
      refine l_op 0 rfl rfl rfl rfl rfl ?_
      refine l_op 0 rfl rfl rfl rfl rfl ?_
      refine l_a64 rfl rfl rfl (by omega) rfl ?_
      refine l_sl (es := 1) (l := (t + n).toNat) rfl rfl rfl rfl rfl rfl rfl rfl rfl (F.has 1 rfl) (by omega) ?_
      refine l_callp F rfl rfl (by kernel_rfl) rfl rfl (same_call (xs := (fiA (moA z.bs n f t) t n).drop (t + n).toNat) (ys := (moA z.bs n f t).drop (t + n).toNat) (Old.pure ((F.has 7 rfl).from8 (lo := (t + n).toNat) (by omega))) (Old.pure ((F.has 1 rfl).from8 (lo := (t + n).toNat) (by omega)))) (fun _ s F _ => ?_)
      (try dsimp only [n_1, n_2, n_3, n_4, List.append_nil, pk, n_5, n_6] at F)
      rw [show eqS ((fiA (moA z.bs n f t) t n).drop (t + n).toNat) ((moA z.bs n f t).drop (t + n).toNat) = true by have ep := fiA_put (bs := (moA z.bs n f t)) (a := t) (by omega : n ≠ 0) (by omega); have hcl := List.length_replicate (n := n.toNat) (a := (0 : Int)); rw [ep, show (t + n).toNat = t.toNat + (List.replicate n.toNat (0 : Int)).length by omega, putB_drop (by omega), eqS_self]]
      refine l_op 2 rfl rfl rfl rfl rfl ?_
      refine l_op 0 rfl rfl rfl rfl rfl ?_
      refine l_guard rfl rfl rfl (fun hc42 => ?_) (fun hc42 => ?_)
      · try simp only [irr_eq, beq_iff_eq, bne_iff_ne, beq_eq_false_iff_ne, bne_eq_false_iff_eq, ne_eq, decide_eq_true_eq, decide_eq_false_iff_not, Bool.not_eq_true', Bool.not_eq_false'] at hc42
        refine l_callp F rfl rfl (by kernel_rfl) rfl rfl (live9_call E0) (fun _ s F _ => ?_)
        (try dsimp only [n_1, n_2, n_3, n_4, List.append_nil, pk, n_5, n_6] at F)
        refine l_op 2 rfl rfl rfl rfl rfl ?_
        refine l_op 0 rfl rfl rfl rfl rfl ?_
        refine l_nil (WK.nx (by assumption) ?_)
        refine SeqK.nx (by assumption) ?_
        refine k_ret ?_
        refine FunK.rt (by assumption) rfl ?_
        -- leaf 39
        first
        | rfl
        | exact absurd (by assumption : true = false) (by decide)
        | (exfalso; omega)
        | exact absurd (iffb (w := w) (n := n) (by omega)) (by assumption)
        | exact absurd (iffb (w := v) (n := n) (by omega)) (by assumption)
      try simp only [irr_eq, beq_iff_eq, bne_iff_ne, beq_eq_false_iff_ne, bne_eq_false_iff_eq, ne_eq, decide_eq_true_eq, decide_eq_false_iff_not, Bool.not_eq_true', Bool.not_eq_false'] at hc42
      refine l_s rfl rfl ?_
      refine l_op 2 rfl rfl rfl rfl rfl ?_
      refine l_op 0 rfl rfl rfl rfl rfl ?_
      refine l_nil (WK.nx (by assumption) ?_)
      refine SeqK.nx (by assumption) ?_
      refine k_ret ?_
      refine FunK.rt (by assumption) rfl ?_
      -- leaf 40
      first
      | rfl
      | exact absurd (by assumption : true = false) (by decide)
      | (exfalso; omega)
      | exact absurd (iffb (w := w) (n := n) (by omega)) (by assumption)
      | exact absurd (iffb (w := v) (n := n) (by omega)) (by assumption)
    try simp only [irr_eq, beq_iff_eq, bne_iff_ne, beq_eq_false_iff_ne, bne_eq_false_iff_eq, ne_eq, decide_eq_true_eq, decide_eq_false_iff_not, Bool.not_eq_true', Bool.not_eq_false'] at hc41
    refine l_s rfl rfl ?_
    refine l_s rfl rfl ?_
    refine l_s rfl rfl ?_
    refine l_s rfl rfl ?_
    refine l_s rfl rfl ?_
    refine l_s rfl rfl ?_
    refine l_s rfl rfl ?_
    refine l_s rfl rfl ?_
    refine l_s rfl rfl ?_
    refine l_s rfl rfl ?_
    refine l_s rfl rfl ?_
    refine l_op 2 rfl rfl rfl rfl rfl ?_
    refine l_op 0 rfl rfl rfl rfl rfl ?_
    refine l_s rfl rfl ?_
    refine l_op 2 rfl rfl rfl rfl rfl ?_
    refine l_op 0 rfl rfl rfl rfl rfl ?_
    refine l_nil (WK.nx (by assumption) ?_)
    refine SeqK.nx (by assumption) ?_
    refine k_ret ?_
    refine FunK.rt (by assumption) rfl ?_
    -- leaf 41
    first
    | rfl
    | exact absurd (by assumption : true = false) (by decide)
    | (exfalso; omega)
    | exact absurd (iffb (w := w) (n := n) (by omega)) (by assumption)
    | exact absurd (iffb (w := v) (n := n) (by omega)) (by assumption)
  try simp only [irr_eq, beq_iff_eq, bne_iff_ne, beq_eq_false_iff_ne, bne_eq_false_iff_eq, ne_eq, decide_eq_true_eq, decide_eq_false_iff_not, Bool.not_eq_true', Bool.not_eq_false'] at hc40
  refine l_s rfl rfl ?_
  refine l_s rfl rfl ?_
  refine l_s rfl rfl ?_
  refine l_s rfl rfl ?_
  refine l_s rfl rfl ?_
  refine l_s rfl rfl ?_
  refine l_s rfl rfl ?_
  refine l_op 2 rfl rfl rfl rfl rfl ?_
  refine l_op 0 rfl rfl rfl rfl rfl ?_
  refine l_s rfl rfl ?_
  refine l_s rfl rfl ?_
  refine l_s rfl rfl ?_
  refine l_s rfl rfl ?_
  refine l_s rfl rfl ?_
  refine l_s rfl rfl ?_
  refine l_s rfl rfl ?_
  refine l_s rfl rfl ?_
  refine l_s rfl rfl ?_
  refine l_s rfl rfl ?_
  refine l_s rfl rfl ?_
  refine l_op 2 rfl rfl rfl rfl rfl ?_
  refine l_op 0 rfl rfl rfl rfl rfl ?_
  refine l_s rfl rfl ?_
  refine l_op 2 rfl rfl rfl rfl rfl ?_
  refine l_op 0 rfl rfl rfl rfl rfl ?_
  refine l_nil (WK.nx (by assumption) ?_)
  refine SeqK.nx (by assumption) ?_
  refine k_ret ?_
  refine FunK.rt (by assumption) rfl ?_
  -- leaf 42
  first
  | rfl
  | exact absurd (by assumption : true = false) (by decide)
  | (exfalso; omega)
  | exact absurd (iffb (w := w) (n := n) (by omega)) (by assumption)
  | exact absurd (iffb (w := v) (n := n) (by omega)) (by assumption)

end Go.Proofs.Ytpocmkgfmmhhgaa
