/- The memory behind some acts. No statement of the seat is proved in this text. -/
import Derived.Test.YtpocmkgfmmhhgaaMemH
set_option linter.unusedVariables false
set_option linter.unusedSimpArgs false
set_option maxRecDepth 100000
set_option maxHeartbeats 8000000
namespace Go.Proofs.Ytpocmkgfmmhhgaa
open GAb Go

theorem wrE_ok {len a n : Int} (h : wrE len a n = 0) : (n = 1 ∨ n = 2 ∨ n = 4) ∧ 256 ≤ a ∧ a + n ≤ len := by
  unfold wrE at h
  split at h
  · cases h
  · split at h
    · exact ⟨by omega, by omega⟩
    · cases h
theorem wrA_len (bs : List Int) (a n x : Int) : (wrA bs a n x).length = bs.length := by
  unfold wrA
  split
  · obtain ⟨h1, h2, h3⟩ := wrE_ok (by assumption)
    have := putR_n (x := x) (n := n) (by omega)
    exact putB_len (by omega)
  · rfl
theorem wrA_bytes {bs : List Int} (h : Bytes bs) (a n x : Int) : Bytes (wrA bs a n x) := by
  unfold wrA
  split
  · exact putB_bytes h (bytes_putm x n)
  · exact h
theorem fiE_ok {len a n : Int} (h : fiE len a n = 0) (hn : n ≠ 0) : 256 ≤ a ∧ a + n ≤ len := by
  unfold fiE at h
  rw [if_neg hn] at h
  split at h
  · assumption
  · cases h
theorem bytes_rep (n : Nat) : Bytes (List.replicate n 0) := bytesm_mem.2 fun x hx => by rw [(List.mem_replicate.1 hx).2]; exact ⟨Int.le_refl _, by decide⟩
theorem fiA_len (bs : List Int) {a n : Int} (hn : 0 ≤ n) : (fiA bs a n).length = bs.length := by
  unfold fiA
  split
  · rename_i h
    obtain ⟨h1, h2⟩ := fiE_ok h.2 h.1
    exact putB_len (by rw [List.length_replicate]; omega)
  · rfl
theorem fiA_bytes {bs : List Int} (h : Bytes bs) (a n : Int) : Bytes (fiA bs a n) := by
  unfold fiA
  split
  · exact putB_bytes h (bytes_rep _)
  · exact h
theorem moE_ok {len n f t : Int} (h : moE len n f t = 0) (hn : n ≠ 0) : f + n ≤ len ∧ 256 ≤ t ∧ t + n ≤ len := by
  unfold moE at h
  rw [if_neg hn] at h
  split at h
  · cases h
  · split at h
    · omega
    · cases h
theorem cut_len (bs : List Int) {f n : Int} (hf : 0 ≤ f) (hn : 0 ≤ n) (h : f + n ≤ bs.length) : ((bs.drop f.toNat).take n.toNat).length = n.toNat := by
  rw [List.length_take, List.length_drop]; omega
theorem cut_bytes {bs : List Int} (h : Bytes bs) (i j : Nat) : Bytes ((bs.drop i).take j) := bytesm_mem.2 fun x hx => bytesm_mem.1 h x (List.mem_of_mem_drop (List.mem_of_mem_take hx))
theorem moA_len (bs : List Int) {n f t : Int} (hn : 0 ≤ n) (hf : 0 ≤ f) : (moA bs n f t).length = bs.length := by
  unfold moA
  split
  · rename_i h
    obtain ⟨h1, h2, h3⟩ := moE_ok h.2 h.1
    have := cut_len bs hf hn h1
    exact putB_len (by omega)
  · rfl
theorem moA_bytes {bs : List Int} (h : Bytes bs) (n f t : Int) : Bytes (moA bs n f t) := by
  unfold moA
  split
  · exact putB_bytes h (cut_bytes h _ _)
  · exact h
theorem rsz_ok {z : MZ} (ok : MOK z) {n : Int} {y : Nat × Nat × Nat} (hy : (rszB z n).length ≤ y.2.1 ∧ y.2.1 ≤ y.2.2 ∧ (rszB z n).length ≤ 1048576) : MOK (z.wg y (rszB z n)) := by
  refine ok.wg hy ?_ ?_
  · unfold rszB
    split
    · rename_i h
      have h := of_decide_eq_true h
      rw [growB_len]; omega
    · exact ok.size
  · unfold rszB
    split
    · exact growB_bytes ok.byt _
    · exact ok.byt
theorem MOK.wp {z : MZ} (ok : MOK z) {a n : Int} (ha : U32 a) (hn : U32 n) : MOK { z with f1 := a, t1 := a + n } := by
  obtain ⟨h1, h2, h3, h4, h5, h6, h7⟩ := ok
  obtain ⟨a0, a1⟩ := ha
  obtain ⟨n0, n1⟩ := hn
  exact ⟨by show 0 ≤ a ∧ a ≤ 4294967295 ∧ 0 ≤ a + n ∧ a + n ≤ 8589934590; omega, h2, h3, h4, h5, h6, h7⟩
theorem begin9_call {σ : AState} {a : Option Addr} {l c : Nat} {ts : List Act9} (h : OldA9 E0 σ a l c ts) (hl : l ≤ 120) (hb : ∀ t ∈ ts, t.rl ≤ 65536 ∧ t.ll ≤ 65536) :
    SCall Try.prog E0 10 [.slice a l c] σ (Ret E0 σ (fun (y : Nat × MZ) => .pointer (some ⟨y.1, 0, none⟩)) (fun y => mF y.1 y.2) fun y => MOK y.2) := by
  have hlen := h.len
  have ho := h.old
  refine k_fun Try.func10 rfl (m := 102) rfl fun B hD Q K => ?_
  have F := Facts.nil E0 σ
  refine k_seq (fun Q K => ?_)
  refine k_lin (fun W K => ?_)
  refine l_op 0 rfl rfl rfl rfl rfl ?_
  refine l_nil (WK.nx (by assumption) ?_)
  refine SeqK.nx (by assumption) ?_
  refine k_seq (fun Q K => ?_)
  refine k_lin (fun W K => ?_)
  refine l_callp F rfl rfl (by kernel_rfl) rfl rfl small_call (fun ys s F _ => ?_)
  (try dsimp only [n_1, n_2, n_3, n_4, List.append_nil, pk, n_5, n_6] at F)
  refine l_callp F rfl rfl (by kernel_rfl) rfl rfl (mnew_call (Old.pure (F.has 0 rfl))) (fun y s F _ => ?_)
  (try dsimp only [n_1, n_2, n_3, n_4, List.append_nil, pk, n_5, n_6] at F)
  refine l_op 0 rfl rfl rfl rfl rfl ?_
  refine l_op 2 rfl rfl rfl rfl rfl ?_
  refine l_op 2 rfl rfl rfl rfl rfl ?_
  refine l_op 2 rfl rfl rfl rfl rfl ?_
  refine l_op 0 rfl rfl rfl rfl rfl ?_
  refine l_op 0 rfl rfl rfl rfl rfl ?_
  refine l_op 0 rfl rfl rfl rfl rfl ?_
  refine l_nil (WK.nx (by assumption) ?_)
  refine SeqK.nx (by assumption) ?_
  refine k_seq (fun Q K => ?_)
  refine k_seq (fun Q K => ?_)
  refine k_lin (fun W K => ?_)
  refine l_op 0 rfl rfl rfl rfl rfl ?_
  refine l_callv rfl rfl (by kernel_rfl) rfl rfl num9_call ?_
  (try dsimp only [n_1, n_2, n_3, n_4, List.append_nil, pk, n_5, n_6] at F)
  refine l_cmp rfl rfl rfl rfl ?_
  refine l_op 0 rfl rfl rfl rfl rfl ?_
  refine l_guard rfl rfl rfl (fun hc1 => ?_) (fun hc1 => ?_)
  · first | replace hc1 := bne_iff_ne.1 ((irr_eq _).symm.trans hc1) | simp only [irr_eq, bne_iff_ne, bne_eq_false_iff_eq, ne_eq, decide_eq_true_eq, decide_eq_false_iff_not, Bool.not_eq_true', Bool.not_eq_false'] at hc1
    refine l_s rfl rfl ?_
    refine l_s rfl rfl ?_
    refine l_op 2 rfl rfl rfl rfl rfl ?_
    refine l_nil (WK.nx (by assumption) ?_)
    refine SeqK.nx (by assumption) ?_
    first | refine e_cond_t rfl rfl rfl ?_ | refine e_cond_t rfl rfl (by rw [irr_eq]; first | exact beq_iff_eq.2 (by assumption) | exact decide_eq_true (by assumption) | exact bne_iff_ne.2 (by assumption)) ?_
    refine k_seq (fun Q K => ?_)
    refine k_lin (fun W K => ?_)
    refine l_op 0 rfl rfl rfl rfl rfl ?_
    refine l_nil (WK.nx (by assumption) ?_)
    refine SeqK.nx (by assumption) ?_
    refine k_ret ?_
    refine SeqK.rt (by assumption) ?_
    refine FunK.rt (by assumption) rfl ?_
    -- leaf 1
    first
    | exact absurd rfl hc1
    | exact ⟨(y.1, z), rfl, F, ok⟩
  first | replace hc1 := bne_eq_false_iff_eq.1 ((irr_eq _).symm.trans hc1) | simp only [irr_eq, bne_iff_ne, bne_eq_false_iff_eq, ne_eq, decide_eq_true_eq, decide_eq_false_iff_not, Bool.not_eq_true', Bool.not_eq_false'] at hc1
  refine l_op 0 rfl rfl rfl rfl rfl ?_
  refine l_cmp rfl rfl rfl rfl ?_
  refine l_op 2 rfl rfl rfl rfl rfl ?_
  refine l_nil (WK.nx (by assumption) ?_)
  refine SeqK.nx (by assumption) ?_
  refine l_cond rfl rfl (fun hc2 => ?_) (fun hc2 => ?_)
  · first | replace hc2 := eq_of_beq ((irr_eq _).symm.trans hc2) | simp only [irr_eq, beq_iff_eq, beq_eq_false_iff_ne, ne_eq, decide_eq_true_eq, decide_eq_false_iff_not] at hc2
    exfalso; simp_all; done
  first | replace hc2 := ne_of_beq_false ((irr_eq _).symm.trans hc2) | simp only [irr_eq, beq_iff_eq, beq_eq_false_iff_ne, ne_eq, decide_eq_true_eq, decide_eq_false_iff_not] at hc2
  refine k_skip ?_
  refine SeqK.nx (by assumption) ?_
  refine k_seq (fun Q K => ?_)
  refine k_seq (fun Q K => ?_)
  refine k_lin (fun W K => ?_)
  refine l_op 0 rfl rfl rfl rfl rfl ?_
  refine l_nil (WK.nx (by assumption) ?_)
  refine SeqK.nx (by assumption) ?_
  refine k_block (fun Q K => ?_)
  refine k_loop (α := Nat × MZ) (fun ⟨i, z⟩ s => Facts E0 σ s (mF y.1 z) ∧ MOK z ∧ i ≤ l) (fun ⟨i, z⟩ => [(0, .slice a l c), (3, .pointer (some ⟨y.1, 0, none⟩)), (6, .int .i64 i)]) (fun ⟨i, _⟩ => l - i) (0, z0 y) ⟨F.pick [1, 2, 3, 4, 5] (by decide), z0_ok y, by omega⟩ (by repeat (first | exact trivial | refine And.intro rfl ?_)) ?_
  clear F
  rintro ⟨i, z⟩ env s Q K0 ⟨F, ok, i1⟩
  refine k_seq (fun Q K => ?_)
  refine k_seq (fun Q K => ?_)
  refine k_lin (fun W K => ?_)
  refine l_op 0 rfl rfl rfl rfl rfl ?_
  refine l_op 0 rfl rfl rfl rfl rfl ?_
  first | refine l_op 2 rfl rfl rfl rfl rfl ?_ | refine l_ln rfl rfl rfl rfl ?_
  refine l_cmp rfl rfl rfl rfl ?_
  refine l_nil (WK.nx (by assumption) ?_)
  refine SeqK.nx (by assumption) ?_
  refine l_cond rfl rfl (fun hc3 => ?_) (fun hc3 => ?_)
  · replace hc3 := of_decide_eq_true ((irr_eq _).symm.trans hc3)
    have hmem := mem9 (ts := ts) (i := (i : Int).toNat) (by omega)
    obtain ⟨u1, u2, u3⟩ := h.u32 _ hmem
    have hbt := hb _ hmem
    refine k_skip ?_
    refine SeqK.nx (by assumption) ?_
    refine k_seq (fun Q K => ?_)
    refine k_block (fun Q K => ?_)
    refine k_seq (fun Q K => ?_)
    refine k_lin (fun W K => ?_)
    refine l_op 0 rfl rfl rfl rfl rfl ?_
    refine l_op 0 rfl rfl rfl rfl rfl ?_
    refine l_ixr (e := eA9) rfl rfl rfl rfl rfl rfl (F.old ho) ⟨eA9_len, by decide⟩ (by omega) (fun m29 b29 hA29 => ?_)
    refine l_lda rfl rfl rfl rfl rfl (by assumption) ?_
    refine l_al F rfl rfl rfl rfl (fun q7 s F => ?_)
    (try dsimp only [n_1, n_2, n_3, n_4, List.append_nil, pk, n_5, n_6] at F)
    refine l_stca F 5 rfl rfl rfl rfl rfl rfl rfl rfl rfl rfl hD rfl (fun s F => ?_)
    (try dsimp only [n_1, n_2, n_3, n_4, List.append_nil, pk, n_5, n_6] at F)
    refine l_nil (WK.nx (by assumption) ?_)
    refine SeqK.nx (by assumption) ?_
    refine k_seq (fun Q K => ?_)
    refine k_lin (fun W K => ?_)
    refine l_op 2 rfl rfl rfl rfl rfl ?_
    refine l_ldc F 5 rfl rfl rfl rfl rfl rfl rfl ?_
    refine l_nil (WK.nx (by assumption) ?_)
    refine SeqK.nx (by assumption) ?_
    refine k_block (fun Q K => ?_)
    refine k_seq (fun Q K => ?_)
    refine k_lin (fun W K => ?_)
    refine l_cmp rfl rfl rfl rfl ?_
    refine l_op 0 rfl rfl rfl rfl rfl ?_
    refine l_nil (WK.nx (by assumption) ?_)
    refine SeqK.nx (by assumption) ?_
    refine l_cond rfl rfl (fun hc4 => ?_) (fun hc4 => ?_)
    · first | replace hc4 := eq_of_beq ((irr_eq _).symm.trans hc4) | simp only [irr_eq, beq_iff_eq, beq_eq_false_iff_ne, ne_eq, decide_eq_true_eq, decide_eq_false_iff_not] at hc4
      refine k_lin (fun W K => ?_)
      refine l_op 0 rfl rfl rfl rfl rfl ?_
      refine l_op 2 rfl rfl rfl rfl rfl ?_
      refine l_ldc F 5 rfl rfl rfl rfl rfl rfl rfl ?_
      refine l_op 2 rfl rfl rfl rfl rfl ?_
      refine l_ldc F 5 rfl rfl rfl rfl rfl rfl rfl ?_
      refine l_op 2 rfl rfl rfl rfl rfl ?_
      refine l_ldc F 5 rfl rfl rfl rfl rfl rfl rfl ?_
      refine l_call F [0, 1, 2, 3, 4] [5] (by decide) rfl rfl (by kernel_rfl) rfl rfl (write_call (F.sub [0, 1, 2, 3, 4] (by decide)) ok u1 u3) hD (fun u s F hu => ?_)
      obtain ⟨z', F, ok'⟩ : ∃ z', Facts E0 σ s (mF y.1 z') ∧ MOK z' := ⟨_, F.pick [1, 2, 3, 4, 5] (by decide), ok.wb (wrA_len ..) (wrA_bytes ok.byt _ _ _)⟩
      (try dsimp only [n_1, n_2, n_3, n_4, List.append_nil, pk, n_5, n_6] at F)
      refine l_nil (WK.nx (by assumption) ?_)
      refine BlkK.nx (by assumption) ?_
      refine BlkK.nx (by assumption) ?_
      refine SeqK.nx (by assumption) ?_
      refine k_lin (fun W K => ?_)
      refine l_op 0 rfl rfl rfl rfl rfl ?_
      refine l_a64 rfl rfl rfl (by omega) rfl ?_
      refine l_op 0 rfl rfl rfl rfl rfl ?_
      refine l_nil (WK.nx (by assumption) ?_)
      have e : (i : Int) + 1 = ((i + 1 : Nat) : Int) := by omega
      rw [e]
      first
      | exact K0.nx (i + 1, z') (by repeat (first | exact trivial | refine And.intro rfl ?_)) ⟨F, ok', by omega⟩ (by first | omega | (simp only; omega))
      | exact K0.nx (i + 1, z) (by repeat (first | exact trivial | refine And.intro rfl ?_)) ⟨F.pick [0, 1, 2, 3, 4] (by decide), ok, by omega⟩ (by first | omega | (simp only; omega))
    first | replace hc4 := ne_of_beq_false ((irr_eq _).symm.trans hc4) | simp only [irr_eq, beq_iff_eq, beq_eq_false_iff_ne, ne_eq, decide_eq_true_eq, decide_eq_false_iff_not] at hc4
    refine k_seq (fun Q K => ?_)
    refine k_lin (fun W K => ?_)
    refine l_cmp rfl rfl rfl rfl ?_
    refine l_op 0 rfl rfl rfl rfl rfl ?_
    refine l_nil (WK.nx (by assumption) ?_)
    refine SeqK.nx (by assumption) ?_
    refine l_cond rfl rfl (fun hc5 => ?_) (fun hc5 => ?_)
    · first | replace hc5 := eq_of_beq ((irr_eq _).symm.trans hc5) | simp only [irr_eq, beq_iff_eq, beq_eq_false_iff_ne, ne_eq, decide_eq_true_eq, decide_eq_false_iff_not] at hc5
      refine k_lin (fun W K => ?_)
      refine l_op 0 rfl rfl rfl rfl rfl ?_
      refine l_op 2 rfl rfl rfl rfl rfl ?_
      refine l_ldc F 5 rfl rfl rfl rfl rfl rfl rfl ?_
      refine l_op 2 rfl rfl rfl rfl rfl ?_
      refine l_ldc F 5 rfl rfl rfl rfl rfl rfl rfl ?_
      refine l_call F [0, 1, 2, 3, 4] [5] (by decide) rfl rfl (by kernel_rfl) rfl rfl (fill_call (F.sub [0, 1, 2, 3, 4] (by decide)) ok u1 u3) hD (fun u s F hu => ?_)
      obtain ⟨z', F, ok'⟩ : ∃ z', Facts E0 σ s (mF y.1 z') ∧ MOK z' := ⟨_, F.pick [1, 2, 3, 4, 5] (by decide), ok.wb (fiA_len _ u3.1) (fiA_bytes ok.byt _ _)⟩
      (try dsimp only [n_1, n_2, n_3, n_4, List.append_nil, pk, n_5, n_6] at F)
      refine l_nil (WK.nx (by assumption) ?_)
      refine BlkK.nx (by assumption) ?_
      refine BlkK.nx (by assumption) ?_
      refine SeqK.nx (by assumption) ?_
      refine k_lin (fun W K => ?_)
      refine l_op 0 rfl rfl rfl rfl rfl ?_
      refine l_a64 rfl rfl rfl (by omega) rfl ?_
      refine l_op 0 rfl rfl rfl rfl rfl ?_
      refine l_nil (WK.nx (by assumption) ?_)
      have e : (i : Int) + 1 = ((i + 1 : Nat) : Int) := by omega
      rw [e]
      first
      | exact K0.nx (i + 1, z') (by repeat (first | exact trivial | refine And.intro rfl ?_)) ⟨F, ok', by omega⟩ (by first | omega | (simp only; omega))
      | exact K0.nx (i + 1, z) (by repeat (first | exact trivial | refine And.intro rfl ?_)) ⟨F.pick [0, 1, 2, 3, 4] (by decide), ok, by omega⟩ (by first | omega | (simp only; omega))
    first | replace hc5 := ne_of_beq_false ((irr_eq _).symm.trans hc5) | simp only [irr_eq, beq_iff_eq, beq_eq_false_iff_ne, ne_eq, decide_eq_true_eq, decide_eq_false_iff_not] at hc5
    refine k_seq (fun Q K => ?_)
    refine k_lin (fun W K => ?_)
    refine l_cmp rfl rfl rfl rfl ?_
    refine l_op 0 rfl rfl rfl rfl rfl ?_
    refine l_nil (WK.nx (by assumption) ?_)
    refine SeqK.nx (by assumption) ?_
    refine l_cond rfl rfl (fun hc6 => ?_) (fun hc6 => ?_)
    · first | replace hc6 := eq_of_beq ((irr_eq _).symm.trans hc6) | simp only [irr_eq, beq_iff_eq, beq_eq_false_iff_ne, ne_eq, decide_eq_true_eq, decide_eq_false_iff_not] at hc6
      refine k_lin (fun W K => ?_)
      refine l_op 0 rfl rfl rfl rfl rfl ?_
      refine l_op 2 rfl rfl rfl rfl rfl ?_
      refine l_ldc F 5 rfl rfl rfl rfl rfl rfl rfl ?_
      refine l_op 2 rfl rfl rfl rfl rfl ?_
      refine l_ldc F 5 rfl rfl rfl rfl rfl rfl rfl ?_
      refine l_op 2 rfl rfl rfl rfl rfl ?_
      refine l_ldc F 5 rfl rfl rfl rfl rfl rfl rfl ?_
      refine l_call F [0, 1, 2, 3, 4] [5] (by decide) rfl rfl (by kernel_rfl) rfl rfl (move_call (F.sub [0, 1, 2, 3, 4] (by decide)) ok u3 u1 u2) hD (fun u s F hu => ?_)
      obtain ⟨z', F, ok'⟩ : ∃ z', Facts E0 σ s (mF y.1 z') ∧ MOK z' := ⟨_, F.pick [1, 2, 3, 4, 5] (by decide), ok.wb (moA_len _ u3.1 u1.1) (moA_bytes ok.byt _ _ _)⟩
      (try dsimp only [n_1, n_2, n_3, n_4, List.append_nil, pk, n_5, n_6] at F)
      refine l_nil (WK.nx (by assumption) ?_)
      refine BlkK.nx (by assumption) ?_
      refine BlkK.nx (by assumption) ?_
      refine SeqK.nx (by assumption) ?_
      refine k_lin (fun W K => ?_)
      refine l_op 0 rfl rfl rfl rfl rfl ?_
      refine l_a64 rfl rfl rfl (by omega) rfl ?_
      refine l_op 0 rfl rfl rfl rfl rfl ?_
      refine l_nil (WK.nx (by assumption) ?_)
      have e : (i : Int) + 1 = ((i + 1 : Nat) : Int) := by omega
      rw [e]
      first
      | exact K0.nx (i + 1, z') (by repeat (first | exact trivial | refine And.intro rfl ?_)) ⟨F, ok', by omega⟩ (by first | omega | (simp only; omega))
      | exact K0.nx (i + 1, z) (by repeat (first | exact trivial | refine And.intro rfl ?_)) ⟨F.pick [0, 1, 2, 3, 4] (by decide), ok, by omega⟩ (by first | omega | (simp only; omega))
    first | replace hc6 := ne_of_beq_false ((irr_eq _).symm.trans hc6) | simp only [irr_eq, beq_iff_eq, beq_eq_false_iff_ne, ne_eq, decide_eq_true_eq, decide_eq_false_iff_not] at hc6
    refine k_seq (fun Q K => ?_)
    refine k_lin (fun W K => ?_)
    refine l_cmp rfl rfl rfl rfl ?_
    refine l_op 0 rfl rfl rfl rfl rfl ?_
    refine l_nil (WK.nx (by assumption) ?_)
    refine SeqK.nx (by assumption) ?_
    refine l_cond rfl rfl (fun hc7 => ?_) (fun hc7 => ?_)
    · first | replace hc7 := eq_of_beq ((irr_eq _).symm.trans hc7) | simp only [irr_eq, beq_iff_eq, beq_eq_false_iff_ne, ne_eq, decide_eq_true_eq, decide_eq_false_iff_not] at hc7
      refine k_lin (fun W K => ?_)
      refine l_op 0 rfl rfl rfl rfl rfl ?_
      refine l_op 2 rfl rfl rfl rfl rfl ?_
      refine l_ldc F 5 rfl rfl rfl rfl rfl rfl rfl ?_
      refine l_call F [0, 1, 2, 3, 4] [5] (by decide) rfl rfl (by kernel_rfl) rfl rfl (resize_call (F.sub [0, 1, 2, 3, 4] (by decide)) ok u1) hD (fun u s F hu => ?_)
      obtain ⟨z', F, ok'⟩ : ∃ z', Facts E0 σ s (mF y.1 z') ∧ MOK z' := ⟨_, F.pick [1, 2, 3, 4, 5] (by decide), rsz_ok ok hu⟩
      (try dsimp only [n_1, n_2, n_3, n_4, List.append_nil, pk, n_5, n_6] at F)
      refine l_nil (WK.nx (by assumption) ?_)
      refine BlkK.nx (by assumption) ?_
      refine BlkK.nx (by assumption) ?_
      refine SeqK.nx (by assumption) ?_
      refine k_lin (fun W K => ?_)
      refine l_op 0 rfl rfl rfl rfl rfl ?_
      refine l_a64 rfl rfl rfl (by omega) rfl ?_
      refine l_op 0 rfl rfl rfl rfl rfl ?_
      refine l_nil (WK.nx (by assumption) ?_)
      have e : (i : Int) + 1 = ((i + 1 : Nat) : Int) := by omega
      rw [e]
      first
      | exact K0.nx (i + 1, z') (by repeat (first | exact trivial | refine And.intro rfl ?_)) ⟨F, ok', by omega⟩ (by first | omega | (simp only; omega))
      | exact K0.nx (i + 1, z) (by repeat (first | exact trivial | refine And.intro rfl ?_)) ⟨F.pick [0, 1, 2, 3, 4] (by decide), ok, by omega⟩ (by first | omega | (simp only; omega))
    first | replace hc7 := ne_of_beq_false ((irr_eq _).symm.trans hc7) | simp only [irr_eq, beq_iff_eq, beq_eq_false_iff_ne, ne_eq, decide_eq_true_eq, decide_eq_false_iff_not] at hc7
    refine k_seq (fun Q K => ?_)
    refine k_lin (fun W K => ?_)
    refine l_cmp rfl rfl rfl rfl ?_
    refine l_op 0 rfl rfl rfl rfl rfl ?_
    refine l_nil (WK.nx (by assumption) ?_)
    refine SeqK.nx (by assumption) ?_
    refine l_cond rfl rfl (fun hc8 => ?_) (fun hc8 => ?_)
    · first | replace hc8 := eq_of_beq ((irr_eq _).symm.trans hc8) | simp only [irr_eq, beq_iff_eq, beq_eq_false_iff_ne, ne_eq, decide_eq_true_eq, decide_eq_false_iff_not] at hc8
      refine k_lin (fun W K => ?_)
      refine l_op 0 rfl rfl rfl rfl rfl ?_
      refine l_op 2 rfl rfl rfl rfl rfl ?_
      refine l_ldc F 5 rfl rfl rfl rfl rfl rfl rfl ?_
      refine l_call F [0, 1, 2, 3, 4] [5] (by decide) rfl rfl (by kernel_rfl) rfl rfl (mmalloc_call (F.sub [0, 1, 2, 3, 4] (by decide)) ok u3) hD (fun u s F hu => ?_)
      obtain ⟨z', F, ok'⟩ : ∃ z', Facts E0 σ s (mF y.1 z') ∧ MOK z' := ⟨_, F.pick [1, 2, 3, 4, 5] (by decide), hu.ok⟩
      (try dsimp only [n_1, n_2, n_3, n_4, List.append_nil, pk, n_5, n_6] at F)
      refine l_nil (WK.nx (by assumption) ?_)
      refine BlkK.nx (by assumption) ?_
      refine BlkK.nx (by assumption) ?_
      refine SeqK.nx (by assumption) ?_
      refine k_lin (fun W K => ?_)
      refine l_op 0 rfl rfl rfl rfl rfl ?_
      refine l_a64 rfl rfl rfl (by omega) rfl ?_
      refine l_op 0 rfl rfl rfl rfl rfl ?_
      refine l_nil (WK.nx (by assumption) ?_)
      have e : (i : Int) + 1 = ((i + 1 : Nat) : Int) := by omega
      rw [e]
      first
      | exact K0.nx (i + 1, z') (by repeat (first | exact trivial | refine And.intro rfl ?_)) ⟨F, ok', by omega⟩ (by first | omega | (simp only; omega))
      | exact K0.nx (i + 1, z) (by repeat (first | exact trivial | refine And.intro rfl ?_)) ⟨F.pick [0, 1, 2, 3, 4] (by decide), ok, by omega⟩ (by first | omega | (simp only; omega))
    first | replace hc8 := ne_of_beq_false ((irr_eq _).symm.trans hc8) | simp only [irr_eq, beq_iff_eq, beq_eq_false_iff_ne, ne_eq, decide_eq_true_eq, decide_eq_false_iff_not] at hc8
    refine k_seq (fun Q K => ?_)
    refine k_lin (fun W K => ?_)
    refine l_cmp rfl rfl rfl rfl ?_
    refine l_op 0 rfl rfl rfl rfl rfl ?_
    refine l_nil (WK.nx (by assumption) ?_)
    refine SeqK.nx (by assumption) ?_
    refine l_cond rfl rfl (fun hc9 => ?_) (fun hc9 => ?_)
    · first | replace hc9 := eq_of_beq ((irr_eq _).symm.trans hc9) | simp only [irr_eq, beq_iff_eq, beq_eq_false_iff_ne, ne_eq, decide_eq_true_eq, decide_eq_false_iff_not] at hc9
      refine k_lin (fun W K => ?_)
      refine l_op 0 rfl rfl rfl rfl rfl ?_
      refine l_op 2 rfl rfl rfl rfl rfl ?_
      refine l_ldc F 5 rfl rfl rfl rfl rfl rfl rfl ?_
      refine l_call F [0, 1, 2, 3, 4] [5] (by decide) rfl rfl (by kernel_rfl) rfl rfl (mfree_call (F.sub [0, 1, 2, 3, 4] (by decide)) ok u1) hD (fun u s F hu => ?_)
      obtain ⟨z', F, ok'⟩ : ∃ z', Facts E0 σ s (mF y.1 z') ∧ MOK z' := ⟨_, F.pick [1, 2, 3, 4, 5] (by decide), hu.ok⟩
      (try dsimp only [n_1, n_2, n_3, n_4, List.append_nil, pk, n_5, n_6] at F)
      refine l_nil (WK.nx (by assumption) ?_)
      refine BlkK.nx (by assumption) ?_
      refine BlkK.nx (by assumption) ?_
      refine SeqK.nx (by assumption) ?_
      refine k_lin (fun W K => ?_)
      refine l_op 0 rfl rfl rfl rfl rfl ?_
      refine l_a64 rfl rfl rfl (by omega) rfl ?_
      refine l_op 0 rfl rfl rfl rfl rfl ?_
      refine l_nil (WK.nx (by assumption) ?_)
      have e : (i : Int) + 1 = ((i + 1 : Nat) : Int) := by omega
      rw [e]
      first
      | exact K0.nx (i + 1, z') (by repeat (first | exact trivial | refine And.intro rfl ?_)) ⟨F, ok', by omega⟩ (by first | omega | (simp only; omega))
      | exact K0.nx (i + 1, z) (by repeat (first | exact trivial | refine And.intro rfl ?_)) ⟨F.pick [0, 1, 2, 3, 4] (by decide), ok, by omega⟩ (by first | omega | (simp only; omega))
    first | replace hc9 := ne_of_beq_false ((irr_eq _).symm.trans hc9) | simp only [irr_eq, beq_iff_eq, beq_eq_false_iff_ne, ne_eq, decide_eq_true_eq, decide_eq_false_iff_not] at hc9
    refine k_seq (fun Q K => ?_)
    refine k_lin (fun W K => ?_)
    refine l_cmp rfl rfl rfl rfl ?_
    refine l_op 0 rfl rfl rfl rfl rfl ?_
    refine l_nil (WK.nx (by assumption) ?_)
    refine SeqK.nx (by assumption) ?_
    refine l_cond rfl rfl (fun hc10 => ?_) (fun hc10 => ?_)
    · first | replace hc10 := eq_of_beq ((irr_eq _).symm.trans hc10) | simp only [irr_eq, beq_iff_eq, beq_eq_false_iff_ne, ne_eq, decide_eq_true_eq, decide_eq_false_iff_not] at hc10
      refine k_lin (fun W K => ?_)
      refine l_op 0 rfl rfl rfl rfl rfl ?_
      refine l_op 2 rfl rfl rfl rfl rfl ?_
      refine l_ldc F 5 rfl rfl rfl rfl rfl rfl rfl ?_
      refine l_op 2 rfl rfl rfl rfl rfl ?_
      refine l_ldc F 5 rfl rfl rfl rfl rfl rfl rfl ?_
      refine l_call F [0, 1, 2, 3, 4] [5] (by decide) rfl rfl (by kernel_rfl) rfl rfl (protect_call (F.sub [0, 1, 2, 3, 4] (by decide)) u1 u3) hD (fun u s F hu => ?_)
      obtain ⟨z', F, ok'⟩ : ∃ z', Facts E0 σ s (mF y.1 z') ∧ MOK z' := ⟨_, F.pick [1, 2, 3, 4, 5] (by decide), ok.wp u1 u3⟩
      (try dsimp only [n_1, n_2, n_3, n_4, List.append_nil, pk, n_5, n_6] at F)
      refine l_nil (WK.nx (by assumption) ?_)
      refine BlkK.nx (by assumption) ?_
      refine BlkK.nx (by assumption) ?_
      refine SeqK.nx (by assumption) ?_
      refine k_lin (fun W K => ?_)
      refine l_op 0 rfl rfl rfl rfl rfl ?_
      refine l_a64 rfl rfl rfl (by omega) rfl ?_
      refine l_op 0 rfl rfl rfl rfl rfl ?_
      refine l_nil (WK.nx (by assumption) ?_)
      have e : (i : Int) + 1 = ((i + 1 : Nat) : Int) := by omega
      rw [e]
      first
      | exact K0.nx (i + 1, z') (by repeat (first | exact trivial | refine And.intro rfl ?_)) ⟨F, ok', by omega⟩ (by first | omega | (simp only; omega))
      | exact K0.nx (i + 1, z) (by repeat (first | exact trivial | refine And.intro rfl ?_)) ⟨F.pick [0, 1, 2, 3, 4] (by decide), ok, by omega⟩ (by first | omega | (simp only; omega))
    first | replace hc10 := ne_of_beq_false ((irr_eq _).symm.trans hc10) | simp only [irr_eq, beq_iff_eq, beq_eq_false_iff_ne, ne_eq, decide_eq_true_eq, decide_eq_false_iff_not] at hc10
    refine k_seq (fun Q K => ?_)
    refine k_lin (fun W K => ?_)
    refine l_cmp rfl rfl rfl rfl ?_
    refine l_op 0 rfl rfl rfl rfl rfl ?_
    refine l_nil (WK.nx (by assumption) ?_)
    refine SeqK.nx (by assumption) ?_
    refine l_cond rfl rfl (fun hc11 => ?_) (fun hc11 => ?_)
    · first | replace hc11 := eq_of_beq ((irr_eq _).symm.trans hc11) | simp only [irr_eq, beq_iff_eq, beq_eq_false_iff_ne, ne_eq, decide_eq_true_eq, decide_eq_false_iff_not] at hc11
      refine k_lin (fun W K => ?_)
      refine l_op 0 rfl rfl rfl rfl rfl ?_
      refine l_call F [0, 1, 2, 3, 4] [5] (by decide) rfl rfl (by kernel_rfl) rfl rfl (restart_call (F.sub [0, 1, 2, 3, 4] (by decide)) ok) hD (fun u s F hu => ?_)
      obtain ⟨z', F, ok'⟩ : ∃ z', Facts E0 σ s (mF y.1 z') ∧ MOK z' := ⟨_, F.pick [1, 2, 3, 4, 5] (by decide), hu.ok⟩
      (try dsimp only [n_1, n_2, n_3, n_4, List.append_nil, pk, n_5, n_6] at F)
      refine l_nil (WK.nx (by assumption) ?_)
      refine BlkK.nx (by assumption) ?_
      refine BlkK.nx (by assumption) ?_
      refine SeqK.nx (by assumption) ?_
      refine k_lin (fun W K => ?_)
      refine l_op 0 rfl rfl rfl rfl rfl ?_
      refine l_a64 rfl rfl rfl (by omega) rfl ?_
      refine l_op 0 rfl rfl rfl rfl rfl ?_
      refine l_nil (WK.nx (by assumption) ?_)
      have e : (i : Int) + 1 = ((i + 1 : Nat) : Int) := by omega
      rw [e]
      first
      | exact K0.nx (i + 1, z') (by repeat (first | exact trivial | refine And.intro rfl ?_)) ⟨F, ok', by omega⟩ (by first | omega | (simp only; omega))
      | exact K0.nx (i + 1, z) (by repeat (first | exact trivial | refine And.intro rfl ?_)) ⟨F.pick [0, 1, 2, 3, 4] (by decide), ok, by omega⟩ (by first | omega | (simp only; omega))
    first | replace hc11 := ne_of_beq_false ((irr_eq _).symm.trans hc11) | simp only [irr_eq, beq_iff_eq, beq_eq_false_iff_ne, ne_eq, decide_eq_true_eq, decide_eq_false_iff_not] at hc11
    refine k_seq (fun Q K => ?_)
    refine k_lin (fun W K => ?_)
    refine l_cmp rfl rfl rfl rfl ?_
    refine l_op 0 rfl rfl rfl rfl rfl ?_
    refine l_nil (WK.nx (by assumption) ?_)
    refine SeqK.nx (by assumption) ?_
    refine l_cond rfl rfl (fun hc12 => ?_) (fun hc12 => ?_)
    · first | replace hc12 := eq_of_beq ((irr_eq _).symm.trans hc12) | simp only [irr_eq, beq_iff_eq, beq_eq_false_iff_ne, ne_eq, decide_eq_true_eq, decide_eq_false_iff_not] at hc12
      refine k_lin (fun W K => ?_)
      refine l_op 0 rfl rfl rfl rfl rfl ?_
      refine l_op 2 rfl rfl rfl rfl rfl ?_
      refine l_ldc F 5 rfl rfl rfl rfl rfl rfl rfl ?_
      refine l_op 2 rfl rfl rfl rfl rfl ?_
      refine l_ldc F 5 rfl rfl rfl rfl rfl rfl rfl ?_
      refine l_op 2 rfl rfl rfl rfl rfl ?_
      refine l_ldc F 5 rfl rfl rfl rfl rfl rfl rfl ?_
      refine l_call F [0, 1, 2, 3, 4] [5] (by decide) rfl rfl (by kernel_rfl) rfl rfl (mload_call (F.sub [0, 1, 2, 3, 4] (by decide)) ok (F.oldO (h.ram _ hmem) [0, 1, 2, 3, 4]) (h.byt _ hmem) (by omega) u1 ((h.blk _ hmem).1.len eB_len (by decide)) (F.oldO (h.blk _ hmem) [0, 1, 2, 3, 4]) (h.bok _ hmem)) hD (fun u s F hu => ?_)
      obtain ⟨z', F, ok'⟩ : ∃ z', Facts E0 σ s (mF y.1 z') ∧ MOK z' := ⟨_, F.pick [1, 2, 3, 4, 5] (by decide), hu⟩
      (try dsimp only [n_1, n_2, n_3, n_4, List.append_nil, pk, n_5, n_6] at F)
      refine l_nil (WK.nx (by assumption) ?_)
      refine BlkK.nx (by assumption) ?_
      refine BlkK.nx (by assumption) ?_
      refine SeqK.nx (by assumption) ?_
      refine k_lin (fun W K => ?_)
      refine l_op 0 rfl rfl rfl rfl rfl ?_
      refine l_a64 rfl rfl rfl (by omega) rfl ?_
      refine l_op 0 rfl rfl rfl rfl rfl ?_
      refine l_nil (WK.nx (by assumption) ?_)
      have e : (i : Int) + 1 = ((i + 1 : Nat) : Int) := by omega
      rw [e]
      first
      | exact K0.nx (i + 1, z') (by repeat (first | exact trivial | refine And.intro rfl ?_)) ⟨F, ok', by omega⟩ (by first | omega | (simp only; omega))
      | exact K0.nx (i + 1, z) (by repeat (first | exact trivial | refine And.intro rfl ?_)) ⟨F.pick [0, 1, 2, 3, 4] (by decide), ok, by omega⟩ (by first | omega | (simp only; omega))
    first | replace hc12 := ne_of_beq_false ((irr_eq _).symm.trans hc12) | simp only [irr_eq, beq_iff_eq, beq_eq_false_iff_ne, ne_eq, decide_eq_true_eq, decide_eq_false_iff_not] at hc12
    refine k_skip ?_
    refine BlkK.nx (by assumption) ?_
    refine BlkK.nx (by assumption) ?_
    refine SeqK.nx (by assumption) ?_
    refine k_lin (fun W K => ?_)
    refine l_op 0 rfl rfl rfl rfl rfl ?_
    refine l_a64 rfl rfl rfl (by omega) rfl ?_
    refine l_op 0 rfl rfl rfl rfl rfl ?_
    refine l_nil (WK.nx (by assumption) ?_)
    have e : (i : Int) + 1 = ((i + 1 : Nat) : Int) := by omega
    rw [e]
    first
    | exact K0.nx (i + 1, z') (by repeat (first | exact trivial | refine And.intro rfl ?_)) ⟨F, ok', by omega⟩ (by first | omega | (simp only; omega))
    | exact K0.nx (i + 1, z) (by repeat (first | exact trivial | refine And.intro rfl ?_)) ⟨F.pick [0, 1, 2, 3, 4] (by decide), ok, by omega⟩ (by first | omega | (simp only; omega))
  replace hc3 := of_decide_eq_false ((irr_eq _).symm.trans hc3)
  refine k_exit ?_
  refine SeqK.et (by assumption) ?_
  refine LoopK.et (by assumption) ?_
  refine BlkK.et (by assumption) ?_
  refine SeqK.nx (by assumption) ?_
  refine k_seq (fun Q K => ?_)
  refine k_lin (fun W K => ?_)
  refine l_op 0 rfl rfl rfl rfl rfl ?_
  refine l_op 0 rfl rfl rfl rfl rfl ?_
  refine l_nil (WK.nx (by assumption) ?_)
  refine SeqK.nx (by assumption) ?_
  refine k_ret ?_
  refine FunK.rt (by assumption) rfl ?_
  -- leaf 2
  first
  | exact absurd rfl hc1
  | exact ⟨(y.1, z), rfl, F, ok⟩

end Go.Proofs.Ytpocmkgfmmhhgaa
