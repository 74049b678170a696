/- A container's first chunk, where chunks begin: by the program. No statement of the seat is proved in this text. -/
import Derived.Test.YtkmkbpnlccomnaaBlC
set_option linter.unusedVariables false
set_option linter.unusedSimpArgs false
set_option maxRecDepth 100000
set_option maxHeartbeats 4000000
namespace Go.Proofs.Ytkmkbpnlccomnaa
open GAb Go

theorem getP {ts : List CK} {i : Nat} (h : i < ts.length) : (ts.map plK).getD i default = plK (ts.getD i default) := by
  simp [List.getD, h]
theorem sneq_iff {s t : ByteArray} {xs : List Int} (hx : Bytes xs) (he : strOfNums xs = t) : (s.toList == t.toList) = true ↔ ltr s = xs := by
  subst he; rw [sbeq_iff, ltr_str hx]
theorem kindB_b : Bytes kindB := bytes_mem.2 fun x hx => by simp [kindB] at hx; omega
theorem ridxB_b : Bytes ridxB := bytes_mem.2 fun x hx => by simp [ridxB] at hx; omega
theorem kindB_s : strOfNums kindB = { data := #[73, 70, 82, 83] } := by decide
theorem ridxB_s : strOfNums ridxB = { data := #[82, 73, 100, 120] } := by decide

theorem index_call {σ : AState} {a : Option Addr} {l c : Nat} {ts : List CK} (h : OldK E0 σ a l c ts) (hb : ∀ t ∈ ts, t.l ≤ 2000000) :
    SCall Try.prog E0 31 [.slice a l c] σ (Ret E0 σ (fun (_ : Unit) => .tuple #[.int .i64 (idxR (ts.map plK)).1, .int .i64 (idxR (ts.map plK)).2]) (fun _ => []) fun _ => True) := by
  have htl := h.len
  have ho := h.old
  have hml : (ts.map plK).length = l := by rw [List.length_map]; exact htl
  refine k_fun Try.func31 rfl (m := 43) rfl fun B hD Q K => ?_
  have F := Facts.nil E0 σ
  refine k_seq (fun Q K => ?_)
  refine k_lin (fun W K => ?_)
  refine l_op 0 rfl rfl rfl rfl rfl ?_
  refine l_op 0 rfl rfl rfl rfl rfl ?_
  refine l_nil (WK.nx (by assumption) ?_)
  refine SeqK.nx (by assumption) ?_
  refine k_seq (fun Q K => ?_)
  refine k_seq (fun Q K => ?_)
  refine k_lin (fun W K => ?_)
  refine l_op 0 rfl rfl rfl rfl rfl ?_
  first | refine l_op 2 rfl rfl rfl rfl rfl ?_ | refine l_ln rfl rfl rfl rfl ?_
  refine l_cmp rfl rfl rfl rfl ?_
  refine l_op 0 rfl rfl rfl rfl rfl ?_
  refine l_guard rfl rfl rfl (fun hc1 => ?_) (fun hc1 => ?_)
  · first | replace hc1 := eq_of_beq ((irr_eq _).symm.trans hc1) | simp only [irr_eq, beq_iff_eq, beq_eq_false_iff_ne, ne_eq, decide_eq_true_eq, decide_eq_false_iff_not] at hc1
    have hr : idxR (ts.map plK) = (0, 61) := by unfold idxR; rw [if_pos (.inl (by omega))]
    refine l_s rfl rfl ?_
    refine l_s rfl rfl ?_
    refine l_s rfl rfl ?_
    refine l_s rfl rfl ?_
    refine l_s rfl rfl ?_
    refine l_op 2 rfl rfl rfl rfl rfl ?_
    refine l_nil (WK.nx (by assumption) ?_)
    refine SeqK.nx (by assumption) ?_
    first | refine e_cond_t rfl rfl rfl ?_ | refine e_cond_t rfl rfl (by rw [irr_eq]; first | exact beq_iff_eq.2 (by assumption) | exact decide_eq_true (by assumption) | exact bne_iff_ne.2 (by assumption)) ?_
    refine k_seq (fun Q K => ?_)
    refine k_lin (fun W K => ?_)
    refine l_op 0 rfl rfl rfl rfl rfl ?_
    refine l_op 0 rfl rfl rfl rfl rfl ?_
    refine l_nil (WK.nx (by assumption) ?_)
    refine SeqK.nx (by assumption) ?_
    refine k_ret ?_
    refine SeqK.rt (by assumption) ?_
    refine FunK.rt (by assumption) rfl ?_
    -- leaf 1
    exact ⟨(), by rw [hr]; rfl, F.pick [] (by decide), trivial⟩
  first | replace hc1 := ne_of_beq_false ((irr_eq _).symm.trans hc1) | simp only [irr_eq, beq_iff_eq, beq_eq_false_iff_ne, ne_eq, decide_eq_true_eq, decide_eq_false_iff_not] at hc1
  have hg : (ts.map plK).getD 0 default = plK (ts.getD 0 default) := getP (by omega)
  have hd := h.dat _ (OldK.mem (ts := ts) (i := 0) (by omega))
  have hB := h.byt _ (OldK.mem (ts := ts) (i := 0) (by omega))
  have hdl := hd.len8
  have hl2 := hb _ (OldK.mem (ts := ts) (i := 0) (by omega))
  have hbd := beR_bd hB 0
  refine l_op 0 rfl rfl rfl rfl rfl ?_
  refine l_ixr (e := eK) rfl rfl rfl rfl rfl rfl (F.old ho) ⟨eK_len, by decide⟩ (by omega) (fun m11 b11 hA0 => ?_)
  have hA11 : AtR _ m11 b11 (eK (ts.getD 0 default)) := hA0
  clear hA0
  refine l_op 2 rfl rfl rfl rfl rfl ?_
  refine l_ld0 rfl rfl rfl rfl rfl (by assumption) ?_
  refine l_cmp rfl rfl rfl rfl ?_
  refine l_op 2 rfl rfl rfl rfl rfl ?_
  refine l_nil (WK.nx (by assumption) ?_)
  refine SeqK.nx (by assumption) ?_
  refine l_cond rfl rfl (fun hc2 => ?_) (fun hc2 => ?_)
  · first | replace hc2 := bne_iff_ne.1 ((irr_eq _).symm.trans hc2) | simp only [irr_eq, bne_iff_ne, bne_eq_false_iff_eq, ne_eq, decide_eq_true_eq, decide_eq_false_iff_not, Bool.not_eq_true', Bool.not_eq_false'] at hc2
    have hr : idxR (ts.map plK) = (0, 61) := by unfold idxR; rw [if_pos (.inr (by rw [hg]; exact fun q => hc2 (beq_iff_eq.1 ((sneq_iff ridxB_b ridxB_s).2 q))))]
    refine k_seq (fun Q K => ?_)
    refine k_lin (fun W K => ?_)
    refine l_op 0 rfl rfl rfl rfl rfl ?_
    refine l_op 0 rfl rfl rfl rfl rfl ?_
    refine l_nil (WK.nx (by assumption) ?_)
    refine SeqK.nx (by assumption) ?_
    refine k_ret ?_
    refine SeqK.rt (by assumption) ?_
    refine FunK.rt (by assumption) rfl ?_
    -- leaf 2
    exact ⟨(), by rw [hr]; rfl, F.pick [] (by decide), trivial⟩
  first | replace hc2 := bne_eq_false_iff_eq.1 ((irr_eq _).symm.trans hc2) | simp only [irr_eq, bne_iff_ne, bne_eq_false_iff_eq, ne_eq, decide_eq_true_eq, decide_eq_false_iff_not, Bool.not_eq_true', Bool.not_eq_false'] at hc2
  have q1 : ((ts.map plK).getD 0 default).1 = ridxB := by rw [hg]; exact (sneq_iff ridxB_b ridxB_s).1 (beq_iff_eq.2 hc2)
  have q2 : ¬ ((ts.map plK).length = 0 ∨ ((ts.map plK).getD 0 default).1 ≠ ridxB) := by
    rintro (q | q)
    · omega
    · exact q q1
  have q3 : ((ts.map plK).getD 0 default).2 = (ts.getD 0 default).d := by rw [hg]
  refine k_skip ?_
  refine SeqK.nx (by assumption) ?_
  refine k_seq (fun Q K => ?_)
  refine k_lin (fun W K => ?_)
  refine l_op 0 rfl rfl rfl rfl rfl ?_
  refine l_ixr (e := eK) rfl rfl rfl rfl rfl rfl (F.old ho) ⟨eK_len, by decide⟩ (by omega) (fun m18 b18 hA0 => ?_)
  have hA18 : AtR _ m18 b18 (eK (ts.getD 0 default)) := hA0
  clear hA0
  refine l_op 2 rfl rfl rfl rfl rfl ?_
  refine l_ldj rfl rfl rfl rfl rfl rfl (by assumption) rfl ?_
  refine l_callp F rfl rfl (by kernel_rfl) rfl rfl (wbe_call (at_ := 0) (n := 4) (Old.pure (F.old hd)) hB (by omega)) (fun y s F _ => ?_)
  (try dsimp only [n_1, n_2, n_3, n_4, List.append_nil, pk, n_5, n_6] at F)
  refine l_op 0 rfl rfl rfl rfl rfl ?_
  refine l_op 2 rfl rfl rfl rfl rfl ?_
  refine l_op 2 rfl rfl rfl rfl rfl ?_
  refine l_op 0 rfl rfl rfl rfl rfl ?_
  refine l_op 0 rfl rfl rfl rfl rfl ?_
  refine l_nil (WK.nx (by assumption) ?_)
  refine SeqK.nx (by assumption) ?_
  refine k_seq (fun Q K => ?_)
  refine k_seq (fun Q K => ?_)
  refine k_lin (fun W K => ?_)
  refine l_op 0 rfl rfl rfl rfl rfl ?_
  refine l_cmp rfl rfl rfl rfl ?_
  refine l_op 0 rfl rfl rfl rfl rfl ?_
  refine l_guard rfl rfl rfl (fun hc3 => ?_) (fun hc3 => ?_)
  · first | replace hc3 := bne_iff_ne.1 ((irr_eq _).symm.trans hc3) | simp only [irr_eq, bne_iff_ne, bne_eq_false_iff_eq, ne_eq, decide_eq_true_eq, decide_eq_false_iff_not, Bool.not_eq_true', Bool.not_eq_false'] at hc3
    have hlt : ((ts.getD 0 default).d.length : Int) < 4 := by
      rcases Nat.lt_or_ge (ts.getD 0 default).d.length 4 with q | q
      · omega
      · exact (hc3 (by rw [beR_ok ⟨by omega, by omega⟩])).elim
    have hr : idxR (ts.map plK) = (0, 61) := by
      unfold idxR
      rw [if_neg q2, q3, if_pos (.inl hlt)]
    refine l_s rfl rfl ?_
    refine l_s rfl rfl ?_
    refine l_s rfl rfl ?_
    refine l_s rfl rfl ?_
    refine l_s rfl rfl ?_
    refine l_s rfl rfl ?_
    refine l_s rfl rfl ?_
    refine l_s rfl rfl ?_
    refine l_s rfl rfl ?_
    refine l_s rfl rfl ?_
    refine l_s rfl rfl ?_
    refine l_op 2 rfl rfl rfl rfl rfl ?_
    refine l_nil (WK.nx (by assumption) ?_)
    refine SeqK.nx (by assumption) ?_
    first | refine e_cond_t rfl rfl rfl ?_ | refine e_cond_t rfl rfl (by rw [irr_eq]; first | exact beq_iff_eq.2 (by assumption) | exact decide_eq_true (by assumption) | exact bne_iff_ne.2 (by assumption)) ?_
    refine k_seq (fun Q K => ?_)
    refine k_lin (fun W K => ?_)
    refine l_op 0 rfl rfl rfl rfl rfl ?_
    refine l_op 0 rfl rfl rfl rfl rfl ?_
    refine l_nil (WK.nx (by assumption) ?_)
    refine SeqK.nx (by assumption) ?_
    refine k_ret ?_
    refine SeqK.rt (by assumption) ?_
    refine FunK.rt (by assumption) rfl ?_
    -- leaf 3
    exact ⟨(), by rw [hr]; rfl, F.pick [] (by decide), trivial⟩
  first | replace hc3 := bne_eq_false_iff_eq.1 ((irr_eq _).symm.trans hc3) | simp only [irr_eq, bne_iff_ne, bne_eq_false_iff_eq, ne_eq, decide_eq_true_eq, decide_eq_false_iff_not, Bool.not_eq_true', Bool.not_eq_false'] at hc3
  have q4 : 4 ≤ (ts.getD 0 default).d.length := by
    rcases Nat.lt_or_ge (ts.getD 0 default).d.length 4 with q | q
    · have : beR (ts.getD 0 default).d 0 4 = (0, 2) := by unfold beR; rw [if_neg (by omega), if_pos (by omega)]
      rw [this] at hc3
      exact absurd hc3 (by decide)
    · exact q
  have q5 : (beR (ts.getD 0 default).d 0 4).1 = be (ts.getD 0 default).d 0 4 := by rw [beR_ok ⟨by omega, by omega⟩]; rfl
  refine l_op 0 rfl rfl rfl rfl rfl ?_
  refine l_ixr (e := eK) rfl rfl rfl rfl rfl rfl (F.old ho) ⟨eK_len, by decide⟩ (by omega) (fun m28 b28 hA0 => ?_)
  have hA28 : AtR _ m28 b28 (eK (ts.getD 0 default)) := hA0
  clear hA0
  refine l_op 2 rfl rfl rfl rfl rfl ?_
  refine l_ldj rfl rfl rfl rfl rfl rfl (by assumption) rfl ?_
  first | refine l_op 2 rfl rfl rfl rfl rfl ?_ | refine l_ln rfl rfl rfl rfl ?_
  refine l_cu64 rfl rfl rfl (by omega) rfl ?_
  refine l_op 0 rfl rfl rfl rfl rfl ?_
  refine l_cu64 rfl rfl rfl (by omega) rfl ?_
  refine l_au64 rfl rfl rfl (by omega) rfl ?_
  refine l_au64 rfl rfl rfl (by omega) rfl ?_
  refine l_cmp rfl rfl rfl rfl ?_
  refine l_op 2 rfl rfl rfl rfl rfl ?_
  refine l_nil (WK.nx (by assumption) ?_)
  refine SeqK.nx (by assumption) ?_
  refine l_cond rfl rfl (fun hc4 => ?_) (fun hc4 => ?_)
  · first | replace hc4 := bne_iff_ne.1 ((irr_eq _).symm.trans hc4) | simp only [irr_eq, bne_iff_ne, bne_eq_false_iff_eq, ne_eq, decide_eq_true_eq, decide_eq_false_iff_not, Bool.not_eq_true', Bool.not_eq_false'] at hc4
    have hr : idxR (ts.map plK) = (0, 61) := by
      unfold idxR
      rw [if_neg q2, q3, if_pos (.inr (by omega))]
    refine k_seq (fun Q K => ?_)
    refine k_lin (fun W K => ?_)
    refine l_op 0 rfl rfl rfl rfl rfl ?_
    refine l_op 0 rfl rfl rfl rfl rfl ?_
    refine l_nil (WK.nx (by assumption) ?_)
    refine SeqK.nx (by assumption) ?_
    refine k_ret ?_
    refine SeqK.rt (by assumption) ?_
    refine FunK.rt (by assumption) rfl ?_
    -- leaf 4
    exact ⟨(), by rw [hr]; rfl, F.pick [] (by decide), trivial⟩
  first | replace hc4 := bne_eq_false_iff_eq.1 ((irr_eq _).symm.trans hc4) | simp only [irr_eq, bne_iff_ne, bne_eq_false_iff_eq, ne_eq, decide_eq_true_eq, decide_eq_false_iff_not, Bool.not_eq_true', Bool.not_eq_false'] at hc4
  have q6 : ¬ (((ts.getD 0 default).d.length : Int) < 4 ∨ ((ts.getD 0 default).d.length : Int) ≠ 4 + 12 * be (ts.getD 0 default).d 0 4) := by omega
  refine k_skip ?_
  refine SeqK.nx (by assumption) ?_
  refine k_seq (fun Q K => ?_)
  refine k_seq (fun Q K => ?_)
  refine k_lin (fun W K => ?_)
  refine l_op 0 rfl rfl rfl rfl rfl ?_
  refine l_cmp rfl rfl rfl rfl ?_
  refine l_nil (WK.nx (by assumption) ?_)
  refine SeqK.nx (by assumption) ?_
  refine l_cond rfl rfl (fun hc5 => ?_) (fun hc5 => ?_)
  · replace hc5 := of_decide_eq_true ((irr_eq _).symm.trans hc5)
    have hr : idxR (ts.map plK) = (0, 4) := by
      unfold idxR
      rw [if_neg q2, q3, if_neg q6, if_pos (by omega)]
    refine k_seq (fun Q K => ?_)
    refine k_lin (fun W K => ?_)
    refine l_op 0 rfl rfl rfl rfl rfl ?_
    refine l_op 0 rfl rfl rfl rfl rfl ?_
    refine l_nil (WK.nx (by assumption) ?_)
    refine SeqK.nx (by assumption) ?_
    refine k_ret ?_
    refine SeqK.rt (by assumption) ?_
    refine FunK.rt (by assumption) rfl ?_
    -- leaf 5
    exact ⟨(), by rw [hr]; rfl, F.pick [] (by decide), trivial⟩
  replace hc5 := of_decide_eq_false ((irr_eq _).symm.trans hc5)
  have hr : idxR (ts.map plK) = ((beR (ts.getD 0 default).d 0 4).1, 0) := by
    unfold idxR
    rw [if_neg q2, q3, if_neg q6, if_neg (by omega), q5]
  refine k_skip ?_
  refine SeqK.nx (by assumption) ?_
  refine k_seq (fun Q K => ?_)
  refine k_lin (fun W K => ?_)
  refine l_op 0 rfl rfl rfl rfl rfl ?_
  refine l_c64 rfl rfl rfl (by omega) rfl ?_
  refine l_op 0 rfl rfl rfl rfl rfl ?_
  refine l_op 0 rfl rfl rfl rfl rfl ?_
  refine l_nil (WK.nx (by assumption) ?_)
  refine SeqK.nx (by assumption) ?_
  refine k_ret ?_
  refine FunK.rt (by assumption) rfl ?_
  -- leaf 6
  exact ⟨(), by rw [hr]; rfl, F.pick [] (by decide), trivial⟩

theorem i64s_one (zs : List Int) : (zs.map (Value.int .i64)).all Value.oneCell' = true := by
  rw [List.all_map, List.all_eq_true]; intro x _; rfl
theorem places_call {σ : AState} {a : Option Addr} {l c : Nat} {ts : List CK} (h : OldK E0 σ a l c ts) (hb : ∀ t ∈ ts, t.l ≤ 2000000) (hn : l ≤ 1000000) :
    SCall Try.prog E0 32 [.slice a l c] σ (Ret E0 σ (fun (y : Option Addr × Nat) => .slice y.1 l y.2) (fun y => [own y.1 l y.2 1 ((plcL (ts.map plK) l).map (.int .i64))]) fun _ => True) := by
  have htl := h.len
  have ho := h.old
  have hml : (ts.map plK).length = l := by rw [List.length_map]; exact htl
  refine k_fun Try.func32 rfl (m := 23) rfl fun B hD Q K => ?_
  have F := (Facts.nil E0 σ).nilrow 1
  refine k_seq (fun Q K => ?_)
  refine k_lin (fun W K => ?_)
  refine l_op 0 rfl rfl rfl rfl rfl ?_
  refine l_nil (WK.nx (by assumption) ?_)
  refine SeqK.nx (by assumption) ?_
  refine k_seq (fun Q K => ?_)
  refine k_lin (fun W K => ?_)
  refine l_op 0 rfl rfl rfl rfl rfl ?_
  refine l_nil (WK.nx (by assumption) ?_)
  refine SeqK.nx (by assumption) ?_
  refine k_seq (fun Q K => ?_)
  refine k_lin (fun W K => ?_)
  refine l_op 0 rfl rfl rfl rfl rfl ?_
  refine l_nil (WK.nx (by assumption) ?_)
  refine SeqK.nx (by assumption) ?_
  refine k_seq (fun Q K => ?_)
  refine k_seq (fun Q K => ?_)
  refine k_lin (fun W K => ?_)
  refine l_op 0 rfl rfl rfl rfl rfl ?_
  first | refine l_op 2 rfl rfl rfl rfl rfl ?_ | refine l_ln rfl rfl rfl rfl ?_
  refine l_op 0 rfl rfl rfl rfl rfl ?_
  refine l_nil (WK.nx (by assumption) ?_)
  refine SeqK.nx (by assumption) ?_
  refine k_block (fun Q K => ?_)
  refine k_loop (α := Int × Int × Option Addr × Nat × Nat) (fun ⟨i, p, x, n, d⟩ s => Facts E0 σ s [own x n d 1 ((plcL (ts.map plK) i.toNat).map (.int .i64))] ∧ 0 ≤ i ∧ i ≤ l ∧ (n : Int) = i ∧ p = plcP (ts.map plK) i.toNat ∧ p ≤ 12 + 3000000 * i) (fun ⟨i, p, x, n, d⟩ => [(3, .slice x n d), (4, .int .i64 p), (7, .slice a l c), (8, .int .i64 l), (9, .int .i64 i)]) (fun ⟨i, _⟩ => (l - i).toNat) (0, 12, none, 0, 0) ⟨F, by omega, by omega, by omega, by simp [plcP, lenP], by omega⟩ (by repeat (first | exact trivial | refine And.intro rfl ?_)) ?_
  clear F
  rintro ⟨i, p, x, n, d⟩ env s Q K0 ⟨F, i0, i1, hni, hp, hp2⟩
  have hp0 : 12 ≤ p := by rw [hp]; unfold plcP; have := lenP_nn ((ts.map plK).take i.toNat); omega
  refine k_seq (fun Q K => ?_)
  refine k_lin (fun W K => ?_)
  refine l_cmp rfl rfl rfl rfl ?_
  refine l_nil (WK.nx (by assumption) ?_)
  refine SeqK.nx (by assumption) ?_
  refine k_seq (fun Q K => ?_)
  refine l_cond rfl rfl (fun hc1 => ?_) (fun hc1 => ?_)
  · replace hc1 := of_decide_eq_true ((irr_eq _).symm.trans hc1)
    have e1 : (i + 1).toNat = i.toNat + 1 := by omega
    have hst := lenP_take (l := ts.map plK) (i := i.toNat) (by omega)
    rw [getP (by omega)] at hst
    have hd := (h.dat _ (OldK.mem (ts := ts) (i := i.toNat) (by omega))).len8
    have hl2 := hb _ (OldK.mem (ts := ts) (i := i.toNat) (by omega))
    refine k_skip ?_
    refine SeqK.nx (by assumption) ?_
    refine k_seq (fun Q K => ?_)
    refine k_block (fun Q K => ?_)
    refine k_seq (fun Q K => ?_)
    refine k_lin (fun W K => ?_)
    refine l_ixr (e := eK) rfl rfl rfl rfl rfl rfl (F.old ho) ⟨eK_len, by decide⟩ (by omega) (fun m11 b11 hA11 => ?_)
    refine l_lda rfl rfl rfl rfl rfl (by assumption) ?_
    refine l_al F rfl rfl rfl rfl (fun q6 s F => ?_)
    (try dsimp only [n_1, n_2, n_3, n_4, List.append_nil, pk, n_5, n_6] at F)
    refine l_stca F 1 rfl rfl rfl rfl rfl rfl rfl rfl rfl rfl hD rfl (fun s F => ?_)
    (try dsimp only [n_1, n_2, n_3, n_4, List.append_nil, pk, n_5, n_6] at F)
    refine l_nil (WK.nx (by assumption) ?_)
    refine SeqK.nx (by assumption) ?_
    refine k_seq (fun Q K => ?_)
    refine k_lin (fun W K => ?_)
    refine l_op 0 rfl rfl rfl rfl rfl ?_
    refine l_op 0 rfl rfl rfl rfl rfl ?_
    refine l_lit F rfl rfl rfl rfl (fun q15 s F => ?_)
    (try dsimp only [n_1, n_2, n_3, n_4, List.append_nil, pk, n_5, n_6] at F)
    refine l_appi (xs := plcL (ts.map plK) i.toNat) F 0 rfl rfl rfl rfl rfl rfl rfl (ys := [p]) (F.has 2 rfl) rfl (by omega) hD (fun x2 c2 s F => ?_)
    refine l_op 0 rfl rfl rfl rfl rfl ?_
    refine l_nil (WK.nx (by assumption) ?_)
    refine SeqK.nx (by assumption) ?_
    refine k_lin (fun W K => ?_)
    refine l_op 0 rfl rfl rfl rfl rfl ?_
    refine l_ldca F 1 rfl rfl rfl rfl rfl rfl rfl ?_
    refine l_callp F rfl rfl (by kernel_rfl) rfl rfl (size_call2 (by omega)) (fun _ s F _ => ?_)
    (try dsimp only [n_1, n_2, n_3, n_4, List.append_nil, pk, n_5, n_6] at F)
    refine l_a64 rfl rfl rfl (by omega) rfl ?_
    refine l_op 0 rfl rfl rfl rfl rfl ?_
    refine l_nil (WK.nx (by assumption) ?_)
    refine BlkK.nx (by assumption) ?_
    refine SeqK.nx (by assumption) ?_
    refine k_lin (fun W K => ?_)
    refine l_a64 rfl rfl rfl (by omega) rfl ?_
    refine l_op 0 rfl rfl rfl rfl rfl ?_
    refine l_nil (WK.nx (by assumption) ?_)
    have F9 := F.pick [0] (by decide)
    refine K0.nx (i + 1, p + (8 + ((ts.getD i.toNat default).l : Int) + ((ts.getD i.toNat default).l : Int) % 2), x2, n + 1, c2) (by repeat (first | exact trivial | refine And.intro rfl ?_)) ⟨?_, by omega, by omega, by omega, ?_, by omega⟩ (by first | omega | (simp only; omega))
    · rw [e1, plcL_succ, ← hp]; exact F9
    · rw [e1, hp]; unfold plcP; rw [hst]; simp only [hd]; omega
  replace hc1 := of_decide_eq_false ((irr_eq _).symm.trans hc1)
  refine k_exit ?_
  refine SeqK.et (by assumption) ?_
  refine LoopK.et (by assumption) ?_
  refine BlkK.et (by assumption) ?_
  refine SeqK.nx (by assumption) ?_
  refine k_seq (fun Q K => ?_)
  refine k_lin (fun W K => ?_)
  refine l_op 0 rfl rfl rfl rfl rfl ?_
  refine l_op 0 rfl rfl rfl rfl rfl ?_
  refine l_nil (WK.nx (by assumption) ?_)
  refine SeqK.nx (by assumption) ?_
  refine k_ret ?_
  refine FunK.rt (by assumption) rfl ?_
  -- leaf 1
  refine ⟨(x, d), ?_, ?_, trivial⟩
  · exact congrArg (fun k => Value.slice x k d) (by omega)
  · rw [show i.toNat = l by omega, show n = l by omega] at F; exact F

end Go.Proofs.Ytkmkbpnlccomnaa
