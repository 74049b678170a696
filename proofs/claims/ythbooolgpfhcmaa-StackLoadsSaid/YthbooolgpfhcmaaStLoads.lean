/- The law of loads: which bytes are a stack, and what is loaded can be left. No statement of the seat is proved in this text. -/
import Derived.Test.YthbooolgpfhcmaaStD
import Derived.Test.YthbooolgpfhcmaaLive
set_option linter.unusedVariables false
set_option linter.unusedSimpArgs false
set_option maxRecDepth 100000
set_option maxHeartbeats 4000000
namespace Go.Proofs.Ythbooolgpfhcmaa
open GAb Go

theorem num_call {σ : AState} {x : Int} : SCall Try.prog (fun _ => False) 14 [.int .i64 x] σ (fun v s => v = .int .i64 x ∧ s = σ) := by
  refine k_fun Try.func14 rfl (m := 4) rfl fun B hD Q K => ?_
  refine k_seq (fun Q K => ?_)
  refine k_lin (fun W K => ?_)
  refine l_op 0 rfl rfl rfl rfl rfl ?_
  refine l_nil (WK.nx (by assumption) ?_)
  refine SeqK.nx (by assumption) ?_
  refine k_seq (fun Q K => ?_)
  refine k_lin (fun W K => ?_)
  refine l_op 0 rfl rfl rfl rfl rfl ?_
  refine l_op 0 rfl rfl rfl rfl rfl ?_
  refine l_nil (WK.nx (by assumption) ?_)
  refine SeqK.nx (by assumption) ?_
  refine k_ret ?_
  refine FunK.rt (by assumption) rfl ?_
  -- leaf 1
  exact ⟨rfl, rfl⟩
theorem at4_take {bs : List Int} {k : Nat} {p : Int} (h0 : 0 ≤ p) (h1 : p + 4 ≤ k) (h2 : k ≤ bs.length) : at4 (bs.take k) p = at4 bs p := by
  have hl : (bs.take k).length = k := by rw [List.length_take]; omega
  unfold at4 beR
  rw [if_neg (by omega), if_neg (by omega), if_neg (by omega), if_neg (by omega)]
  have g : ∀ j : Nat, j < 4 → (bs.take k).getD (p.toNat + j) 0 = bs.getD (p.toNat + j) 0 := fun j hj => by
    simp [List.getD, List.getElem?_take, show p.toNat + j < k by omega]
  show be (bs.take k) p.toNat 4 = be bs p.toNat 4
  simp only [be, g 0 (by omega), g 1 (by omega), g 2 (by omega), g 3 (by omega)]
theorem uns_on {bs : List Int} {n n' : Nat} {fp fp' x y z e : Int} {on' : Bool} (h : UnsR bs n fp true x y z e n' fp' on') (h1 : 4 ≤ (n - (fp + at4 bs fp)) / 4) (h2 : at4 bs (n - 16 + 12) = fp) :
    x = at4 bs (n - 16) ∧ y = at4 bs (n - 16 + 4) ∧ z = at4 bs (n - 16 + 8) ∧ e = 0 ∧ n' = n - 16 ∧ fp' = at4 bs (n - 16 + 12) ∧ on' = true := by
  rcases h with h | h | h | h
  · omega
  · cases h.1
  · exact absurd h2 h.2.2.1
  · exact h.2
theorem uns_off {bs : List Int} {n n' : Nat} {fp fp' x y z e : Int} {on' : Bool} (h : UnsR bs n fp false x y z e n' fp' on') : e = 5 ∧ n = 0 ∧ n' = 0 ∧ on' = false ∨ e = 0 ∧ 16 ≤ n ∧ n' = n - 16 ∧ fp' = at4 bs (n - 16 + 12) ∧ on' = true := by
  rcases h with h | h | h | h
  · cases h.1
  · obtain ⟨h1, h2, h3, h4, h5, h6, h7, h8, h9⟩ := h
    exact .inl ⟨h6, h2, by omega, h9⟩
  · cases h.1
  · obtain ⟨h1, h2, h3, h4, h5, h6, h7, h8⟩ := h
    rcases h1 with h1 | h1
    · cases h1.1
    · exact .inr ⟨h5, h1.2, h6, h7, h8⟩

theorem pr_ext (ys : List Int) : ∀ (k i : Nat) (xs : List Int), xs.length ≤ k → pr i xs ≠ 0 → pr i (xs ++ ys) = pr i xs := by
  intro k
  induction k with
  | zero =>
    intro i xs h hp
    obtain rfl : xs = [] := List.eq_nil_of_length_eq_zero (by omega)
    exact (hp rfl).elim
  | succ k ih =>
    intro i xs h hp
    match xs, h, hp with
    | [], _, hp => exact (hp rfl).elim
    | [_], _, hp => exact (hp rfl).elim
    | x :: y :: r, h, hp =>
      show pr i (x :: y :: (r ++ ys)) = _
      unfold pr at hp ⊢
      split
      · rfl
      · split
        · rfl
        · rename_i h1 h2
          rw [if_neg h1, if_neg h2] at hp
          exact ih _ _ (by simp at h; omega) hp
theorem fmtN_mono {bs : List Int} {f t t' : Int} (h : fmtN bs f t ≠ 0) (h1 : t ≤ t') (h0 : 0 ≤ f) : fmtN bs f t' = fmtN bs f t := by
  have e : fmtB bs f t' = fmtB bs f t ++ ((bs.drop (f + 8).toNat).drop (t.toNat - (f + 8).toNat)).take (t'.toNat - (f + 8).toNat - (t.toNat - (f + 8).toNat)) := by
    unfold fmtB
    rw [← List.take_add]
    congr 1; omega
  unfold fmtN at h ⊢
  rw [e]
  exact pr_ext _ _ 0 _ (Nat.le_refl _) h
theorem frame_mono {bs : List Int} {f t t' : Int} (h : FrameOK bs f t) (h1 : t ≤ t') (h0 : 0 ≤ f) (h2 : t' ≤ bs.length) : FrameOK bs f t' := by
  obtain ⟨a1, a2, a3, a4, a5, a6⟩ := h
  have e := fmtN_mono a3 h1 h0
  have eF : fmtF bs f t' = fmtF bs f t := by unfold fmtF; rw [e]
  have eP : fmtP bs f t' = fmtP bs f t := by unfold fmtP; rw [eF]
  have eS : fmtS bs f t' = fmtS bs f t := by unfold fmtS; rw [eF]
  exact ⟨a1, by omega, by rw [e]; exact a3, by rw [eP, eS]; exact a4, by rw [eP]; exact a5, by rw [eP, eS]; omega⟩
theorem lentO {O : Nat → Prop} {σ : AState} {a : Option Addr} {l c : Nat} {xs : List Int} (hxl : xs.length = l) (h1 : Old O σ a (l + 1) c 1 (u8l (xs ++ [77]))) : Old O σ a l c 1 (u8l xs) := by
  have := h1.upto8 (hi := l) (by omega)
  rw [List.take_append_of_le_length (by omega), List.take_of_length_le (by omega)] at this
  exact this
theorem loads_law {σ : AState} {b : Option Addr} {l d : Nat} {xs : List Int} {size : Int} (h : Old E0 σ b l d 1 (u8l xs)) (hB : Bytes xs) :
    SCall Try.prog E0 4 [.int .i64 size, .slice b l d] σ (fun v _ => v = .bool true) := by
  have hxl := h.len8
  refine k_fun Try.func4 rfl (m := 109) rfl fun B hD Q K => ?_
  have F := Facts.nil E0 σ
  refine k_seq (fun Q K => ?_)
  refine k_lin (fun W K => ?_)
  refine l_op 0 rfl rfl rfl rfl rfl ?_
  refine l_nil (WK.nx (by assumption) ?_)
  refine SeqK.nx (by assumption) ?_
  refine k_seq (fun Q K => ?_)
  refine k_seq (fun Q K => ?_)
  refine k_lin (fun W K => ?_)
  refine l_op 0 rfl rfl rfl rfl rfl ?_
  refine l_cmp rfl rfl rfl rfl ?_
  refine l_op 0 rfl rfl rfl rfl rfl ?_
  refine l_guard rfl rfl rfl (fun hc1 => ?_) (fun hc1 => ?_)
  · replace hc1 := of_decide_eq_true ((irr_eq _).symm.trans hc1)
    refine l_s rfl rfl ?_
    refine l_s rfl rfl ?_
    refine l_op 2 rfl rfl rfl rfl rfl ?_
    refine l_op 0 rfl rfl rfl rfl rfl ?_
    refine l_s rfl rfl ?_
    refine l_s rfl rfl ?_
    refine l_s rfl rfl ?_
    refine l_op 2 rfl rfl rfl rfl rfl ?_
    refine l_nil (WK.nx (by assumption) ?_)
    refine SeqK.nx (by assumption) ?_
    first | refine e_cond_t rfl rfl rfl ?_ | refine e_cond_t rfl rfl (by rw [irr_eq]; first | exact beq_iff_eq.2 (by assumption) | exact decide_eq_true (by assumption) | exact bne_iff_ne.2 (by assumption)) ?_
    refine k_seq (fun Q K => ?_)
    refine k_lin (fun W K => ?_)
    refine l_callv rfl rfl (by kernel_rfl) rfl rfl (live_call _ _) ?_
    (try dsimp only [n_1, n_2, n_3, n_4, List.append_nil, pk, n_5, n_6] at F)
    refine l_op 0 rfl rfl rfl rfl rfl ?_
    refine l_nil (WK.nx (by assumption) ?_)
    refine SeqK.nx (by assumption) ?_
    refine k_ret ?_
    refine SeqK.rt (by assumption) ?_
    refine FunK.rt (by assumption) rfl ?_
    -- leaf 1
    first | rfl | (exfalso; omega) | (exfalso; have := eqS_self xs; simp_all; done)
  replace hc1 := of_decide_eq_false ((irr_eq _).symm.trans hc1)
  refine l_op 0 rfl rfl rfl rfl rfl ?_
  refine l_cmp rfl rfl rfl rfl ?_
  refine l_op 2 rfl rfl rfl rfl rfl ?_
  refine l_op 0 rfl rfl rfl rfl rfl ?_
  refine l_guard rfl rfl rfl (fun hc2 => ?_) (fun hc2 => ?_)
  · replace hc2 := of_decide_eq_true ((irr_eq _).symm.trans hc2)
    refine l_s rfl rfl ?_
    refine l_s rfl rfl ?_
    refine l_s rfl rfl ?_
    refine l_op 2 rfl rfl rfl rfl rfl ?_
    refine l_nil (WK.nx (by assumption) ?_)
    refine SeqK.nx (by assumption) ?_
    first | refine e_cond_t rfl rfl rfl ?_ | refine e_cond_t rfl rfl (by rw [irr_eq]; first | exact beq_iff_eq.2 (by assumption) | exact decide_eq_true (by assumption) | exact bne_iff_ne.2 (by assumption)) ?_
    refine k_seq (fun Q K => ?_)
    refine k_lin (fun W K => ?_)
    refine l_callv rfl rfl (by kernel_rfl) rfl rfl (live_call _ _) ?_
    (try dsimp only [n_1, n_2, n_3, n_4, List.append_nil, pk, n_5, n_6] at F)
    refine l_op 0 rfl rfl rfl rfl rfl ?_
    refine l_nil (WK.nx (by assumption) ?_)
    refine SeqK.nx (by assumption) ?_
    refine k_ret ?_
    refine SeqK.rt (by assumption) ?_
    refine FunK.rt (by assumption) rfl ?_
    -- leaf 2
    first | rfl | (exfalso; omega) | (exfalso; have := eqS_self xs; simp_all; done)
  replace hc2 := of_decide_eq_false ((irr_eq _).symm.trans hc2)
  refine l_op 0 rfl rfl rfl rfl rfl ?_
  first | refine l_op 2 rfl rfl rfl rfl rfl ?_ | refine l_ln rfl rfl rfl rfl ?_
  refine l_cmp rfl rfl rfl rfl ?_
  refine l_op 2 rfl rfl rfl rfl rfl ?_
  refine l_nil (WK.nx (by assumption) ?_)
  refine SeqK.nx (by assumption) ?_
  refine l_cond rfl rfl (fun hc3 => ?_) (fun hc3 => ?_)
  · replace hc3 := of_decide_eq_true ((irr_eq _).symm.trans hc3)
    refine k_seq (fun Q K => ?_)
    refine k_lin (fun W K => ?_)
    refine l_callv rfl rfl (by kernel_rfl) rfl rfl (live_call _ _) ?_
    (try dsimp only [n_1, n_2, n_3, n_4, List.append_nil, pk, n_5, n_6] at F)
    refine l_op 0 rfl rfl rfl rfl rfl ?_
    refine l_nil (WK.nx (by assumption) ?_)
    refine SeqK.nx (by assumption) ?_
    refine k_ret ?_
    refine SeqK.rt (by assumption) ?_
    refine FunK.rt (by assumption) rfl ?_
    -- leaf 3
    first | rfl | (exfalso; omega) | (exfalso; have := eqS_self xs; simp_all; done)
  replace hc3 := of_decide_eq_false ((irr_eq _).symm.trans hc3)
  refine k_skip ?_
  refine SeqK.nx (by assumption) ?_
  refine k_seq (fun Q K => ?_)
  refine k_lin (fun W K => ?_)
  refine l_op 0 rfl rfl rfl rfl rfl ?_
  refine l_callp F rfl rfl (by kernel_rfl) rfl rfl (new_call (size := size) (by omega)) (fun m s F _ => ?_)
  (try dsimp only [n_1, n_2, n_3, n_4, List.append_nil, pk, n_5, n_6] at F)
  refine l_op 0 rfl rfl rfl rfl rfl ?_
  refine l_op 2 rfl rfl rfl rfl rfl ?_
  refine l_op 2 rfl rfl rfl rfl rfl ?_
  refine l_op 0 rfl rfl rfl rfl rfl ?_
  refine l_op 0 rfl rfl rfl rfl rfl ?_
  refine l_nil (WK.nx (by assumption) ?_)
  refine SeqK.nx (by assumption) ?_
  refine k_seq (fun Q K => ?_)
  refine k_seq (fun Q K => ?_)
  refine k_lin (fun W K => ?_)
  refine l_op 0 rfl rfl rfl rfl rfl ?_
  refine l_callv rfl rfl (by kernel_rfl) rfl rfl num_call ?_
  (try dsimp only [n_1, n_2, n_3, n_4, List.append_nil, pk, n_5, n_6] at F)
  refine l_cmp rfl rfl rfl rfl ?_
  refine l_op 0 rfl rfl rfl rfl rfl ?_
  refine l_guard rfl rfl rfl (fun hc4 => ?_) (fun hc4 => ?_)
  · exact absurd ((irr_eq _).symm.trans hc4) (by decide)
  first | replace hc4 := bne_eq_false_iff_eq.1 ((irr_eq _).symm.trans hc4) | simp only [irr_eq, bne_iff_ne, bne_eq_false_iff_eq, ne_eq, decide_eq_true_eq, decide_eq_false_iff_not, Bool.not_eq_true', Bool.not_eq_false'] at hc4
  refine l_op 0 rfl rfl rfl rfl rfl ?_
  refine l_cmp rfl rfl rfl rfl ?_
  refine l_op 2 rfl rfl rfl rfl rfl ?_
  refine l_nil (WK.nx (by assumption) ?_)
  refine SeqK.nx (by assumption) ?_
  refine l_cond rfl rfl (fun hc5 => ?_) (fun hc5 => ?_)
  · exact absurd ((irr_eq _).symm.trans hc5) (by decide)
  first | replace hc5 := ne_of_beq_false ((irr_eq _).symm.trans hc5) | simp only [irr_eq, beq_iff_eq, beq_eq_false_iff_ne, ne_eq, decide_eq_true_eq, decide_eq_false_iff_not] at hc5
  refine k_skip ?_
  refine SeqK.nx (by assumption) ?_
  refine k_seq (fun Q K => ?_)
  refine k_lin (fun W K => ?_)
  refine l_op 0 rfl rfl rfl rfl rfl ?_
  refine l_callp F rfl rfl (by kernel_rfl) rfl rfl (lent_call (Old.pure (F.old h)) (by omega)) (fun y s F _ => ?_)
  obtain ⟨y1, y2⟩ := y
  (try dsimp only [n_1, n_2, n_3, n_4, List.append_nil, pk, n_5, n_6] at F)
  refine l_op 0 rfl rfl rfl rfl rfl ?_
  refine l_nil (WK.nx (by assumption) ?_)
  refine SeqK.nx (by assumption) ?_
  refine k_seq (fun Q K => ?_)
  refine k_lin (fun W K => ?_)
  refine l_op 0 rfl rfl rfl rfl rfl ?_
  refine l_op 0 rfl rfl rfl rfl rfl ?_
  refine l_call F [0, 1] [2] (by decide) rfl rfl (by kernel_rfl) rfl rfl (load_call (xs := xs) (F.sub [0, 1] (by decide)) (lentO hxl (F.oldK [0, 1] 2 rfl (by decide))) hB (by omega)) hD (fun y s F hy => ?_)
  obtain ⟨e, a, n, c, bs, fp, on⟩ := y
  dsimp only [stF] at F hy
  (try dsimp only [n_1, n_2, n_3, n_4, List.append_nil, pk, n_5, n_6] at F)
  refine l_op 0 rfl rfl rfl rfl rfl ?_
  refine l_nil (WK.nx (by assumption) ?_)
  refine SeqK.nx (by assumption) ?_
  refine k_seq (fun Q K => ?_)
  refine k_seq (fun Q K => ?_)
  refine k_lin (fun W K => ?_)
  refine l_op 0 rfl rfl rfl rfl rfl ?_
  refine l_op 0 rfl rfl rfl rfl rfl ?_
  refine l_callp F rfl rfl (by kernel_rfl) rfl rfl (kept_call (xs := xs) (Old.pure (F.has 0 rfl)) (Old.pure (F.old h)) rfl (by omega)) (fun _ s F _ => ?_)
  (try dsimp only [n_1, n_2, n_3, n_4, List.append_nil, pk, n_5, n_6] at F)
  refine l_op 2 rfl rfl rfl rfl rfl ?_
  refine l_nil (WK.nx (by assumption) ?_)
  refine SeqK.nx (by assumption) ?_
  refine l_cond rfl rfl (fun hc6 => ?_) (fun hc6 => ?_)
  · exact absurd hc6 (by decide)
  try simp only [irr_eq, beq_iff_eq, bne_iff_ne, beq_eq_false_iff_ne, bne_eq_false_iff_eq, ne_eq, decide_eq_true_eq, decide_eq_false_iff_not, Bool.not_eq_true', Bool.not_eq_false'] at hc6
  refine k_skip ?_
  refine SeqK.nx (by assumption) ?_
  refine k_seq (fun Q K => ?_)
  refine k_seq (fun Q K => ?_)
  refine k_lin (fun W K => ?_)
  refine l_op 0 rfl rfl rfl rfl rfl ?_
  refine l_op 0 rfl rfl rfl rfl rfl ?_
  refine l_callp F rfl rfl (by kernel_rfl) rfl rfl (right_call (size := size) (Old.pure (F.old h)) hB (by omega)) (fun yr s F hr => ?_)
  (try dsimp only [n_1, n_2, n_3, n_4, List.append_nil, pk, n_5, n_6] at F)
  refine l_op 2 rfl rfl rfl rfl rfl ?_
  refine l_nil (WK.nx (by assumption) ?_)
  refine SeqK.nx (by assumption) ?_
  refine l_cond rfl rfl (fun hc7 => ?_) (fun hc7 => ?_)
  · try simp only [irr_eq, beq_iff_eq, bne_iff_ne, beq_eq_false_iff_ne, bne_eq_false_iff_eq, ne_eq, decide_eq_true_eq, decide_eq_false_iff_not, Bool.not_eq_true', Bool.not_eq_false'] at hc7
    have hnr : ¬ RightR xs size := fun h => by rw [← hr] at h; simp_all
    obtain ⟨rfl, rfl, rfl, rfl, rfl, rfl, rfl⟩ : e = 102 ∧ a = none ∧ n = 0 ∧ c = 0 ∧ bs = [] ∧ fp = 0 ∧ on = false := by
      rcases hy with h | h
      · exact (hnr h.1).elim
      · simpa only [Prod.mk.injEq] using h.2
    refine k_seq (fun Q K => ?_)
    refine k_lin (fun W K => ?_)
    refine l_op 0 rfl rfl rfl rfl rfl ?_
    refine l_callv rfl rfl (by kernel_rfl) rfl rfl num_call ?_
    (try dsimp only [n_1, n_2, n_3, n_4, List.append_nil, pk, n_5, n_6] at F)
    refine l_cmp rfl rfl rfl rfl ?_
    refine l_op 0 rfl rfl rfl rfl rfl ?_
    refine l_guard rfl rfl rfl (fun hc8 => ?_) (fun hc8 => ?_)
    · first | replace hc8 := eq_of_beq ((irr_eq _).symm.trans hc8) | simp only [irr_eq, beq_iff_eq, beq_eq_false_iff_ne, ne_eq, decide_eq_true_eq, decide_eq_false_iff_not] at hc8
      refine l_op 0 rfl rfl rfl rfl rfl ?_
      refine l_callp F rfl rfl (by kernel_rfl) rfl rfl (top_call (F.cel0 1 rfl) (by omega)) (fun _ s F _ => ?_)
      (try dsimp only [n_1, n_2, n_3, n_4, List.append_nil, pk, n_5, n_6] at F)
      refine l_cmp rfl rfl rfl rfl ?_
      refine l_op 2 rfl rfl rfl rfl rfl ?_
      refine l_op 0 rfl rfl rfl rfl rfl ?_
      refine l_guard rfl rfl rfl (fun hc9 => ?_) (fun hc9 => ?_)
      · first | replace hc9 := eq_of_beq ((irr_eq _).symm.trans hc9) | simp only [irr_eq, beq_iff_eq, beq_eq_false_iff_ne, ne_eq, decide_eq_true_eq, decide_eq_false_iff_not] at hc9
        refine l_callv rfl rfl (by kernel_rfl) rfl rfl (live_call _ _) ?_
        (try dsimp only [n_1, n_2, n_3, n_4, List.append_nil, pk, n_5, n_6] at F)
        refine l_op 2 rfl rfl rfl rfl rfl ?_
        refine l_op 0 rfl rfl rfl rfl rfl ?_
        refine l_nil (WK.nx (by assumption) ?_)
        refine SeqK.nx (by assumption) ?_
        refine k_ret ?_
        refine SeqK.rt (by assumption) ?_
        refine FunK.rt (by assumption) rfl ?_
        -- leaf 4
        first | rfl | (exfalso; omega) | (exfalso; have := eqS_self xs; simp_all; done)
      first | replace hc9 := ne_of_beq_false ((irr_eq _).symm.trans hc9) | simp only [irr_eq, beq_iff_eq, beq_eq_false_iff_ne, ne_eq, decide_eq_true_eq, decide_eq_false_iff_not] at hc9
      refine l_s rfl rfl ?_
      refine l_op 2 rfl rfl rfl rfl rfl ?_
      refine l_op 0 rfl rfl rfl rfl rfl ?_
      refine l_nil (WK.nx (by assumption) ?_)
      refine SeqK.nx (by assumption) ?_
      refine k_ret ?_
      refine SeqK.rt (by assumption) ?_
      refine FunK.rt (by assumption) rfl ?_
      -- leaf 5
      first | rfl | (exfalso; omega) | (exfalso; have := eqS_self xs; simp_all; done)
    first | replace hc8 := ne_of_beq_false ((irr_eq _).symm.trans hc8) | simp only [irr_eq, beq_iff_eq, beq_eq_false_iff_ne, ne_eq, decide_eq_true_eq, decide_eq_false_iff_not] at hc8
    refine l_s rfl rfl ?_
    refine l_s rfl rfl ?_
    refine l_s rfl rfl ?_
    refine l_op 2 rfl rfl rfl rfl rfl ?_
    refine l_op 0 rfl rfl rfl rfl rfl ?_
    refine l_s rfl rfl ?_
    refine l_op 2 rfl rfl rfl rfl rfl ?_
    refine l_op 0 rfl rfl rfl rfl rfl ?_
    refine l_nil (WK.nx (by assumption) ?_)
    refine SeqK.nx (by assumption) ?_
    refine k_ret ?_
    refine SeqK.rt (by assumption) ?_
    refine FunK.rt (by assumption) rfl ?_
    -- leaf 6
    first | rfl | (exfalso; omega) | (exfalso; have := eqS_self xs; simp_all; done)
  try simp only [irr_eq, beq_iff_eq, bne_iff_ne, beq_eq_false_iff_ne, bne_eq_false_iff_eq, ne_eq, decide_eq_true_eq, decide_eq_false_iff_not, Bool.not_eq_true', Bool.not_eq_false'] at hc7
  have hR : RightR xs size := hr.1 (by simp_all)
  obtain ⟨rfl, rfl, rfl, rfl, rfl⟩ : e = 0 ∧ l = n ∧ xs = bs ∧ fp = at4 xs (l - 4) ∧ on = true := by
    rcases hy with h | h
    · exact ⟨h.2.1, h.2.2.1.symm, h.2.2.2.1.symm, h.2.2.2.2⟩
    · exact (h.1 hR).elim
  obtain ⟨r1, r2, r3, r4⟩ := hR
  rw [hxl] at r1 r2 r3 r4
  refine k_skip ?_
  refine SeqK.nx (by assumption) ?_
  refine k_seq (fun Q K => ?_)
  refine k_seq (fun Q K => ?_)
  refine k_lin (fun W K => ?_)
  refine l_op 0 rfl rfl rfl rfl rfl ?_
  refine l_callv rfl rfl (by kernel_rfl) rfl rfl num_call ?_
  (try dsimp only [n_1, n_2, n_3, n_4, List.append_nil, pk, n_5, n_6] at F)
  refine l_cmp rfl rfl rfl rfl ?_
  refine l_op 0 rfl rfl rfl rfl rfl ?_
  refine l_guard rfl rfl rfl (fun hc10 => ?_) (fun hc10 => ?_)
  · first | replace hc10 := bne_iff_ne.1 ((irr_eq _).symm.trans hc10) | simp only [irr_eq, bne_iff_ne, bne_eq_false_iff_eq, ne_eq, decide_eq_true_eq, decide_eq_false_iff_not, Bool.not_eq_true', Bool.not_eq_false'] at hc10
    refine l_s rfl rfl ?_
    refine l_s rfl rfl ?_
    refine l_s rfl rfl ?_
    refine l_s rfl rfl ?_
    refine l_s rfl rfl ?_
    refine l_op 2 rfl rfl rfl rfl rfl ?_
    refine l_nil (WK.nx (by assumption) ?_)
    refine SeqK.nx (by assumption) ?_
    first | refine e_cond_t rfl rfl rfl ?_ | refine e_cond_t rfl rfl (by rw [irr_eq]; first | exact beq_iff_eq.2 (by assumption) | exact decide_eq_true (by assumption) | exact bne_iff_ne.2 (by assumption)) ?_
    refine k_seq (fun Q K => ?_)
    refine k_lin (fun W K => ?_)
    refine l_op 0 rfl rfl rfl rfl rfl ?_
    refine l_nil (WK.nx (by assumption) ?_)
    refine SeqK.nx (by assumption) ?_
    refine k_ret ?_
    refine SeqK.rt (by assumption) ?_
    refine FunK.rt (by assumption) rfl ?_
    -- leaf 7
    first | rfl | (exfalso; omega) | (exfalso; have := eqS_self xs; simp_all; done)
  first | replace hc10 := bne_eq_false_iff_eq.1 ((irr_eq _).symm.trans hc10) | simp only [irr_eq, bne_iff_ne, bne_eq_false_iff_eq, ne_eq, decide_eq_true_eq, decide_eq_false_iff_not, Bool.not_eq_true', Bool.not_eq_false'] at hc10
  refine l_op 0 rfl rfl rfl rfl rfl ?_
  refine l_callp F rfl rfl (by kernel_rfl) rfl rfl (bytes_call (F.cel0 1 rfl) (Old.pure (F.has 2 rfl)) (by omega)) (fun yb s F _ => ?_)
  (try dsimp only [n_1, n_2, n_3, n_4, List.append_nil, pk, n_5, n_6] at F)
  refine l_op 0 rfl rfl rfl rfl rfl ?_
  refine l_callp F rfl rfl (by kernel_rfl) rfl rfl (same_call (Old.pure (F.has 3 rfl)) (Old.pure (F.old h))) (fun _ s F _ => ?_)
  (try dsimp only [n_1, n_2, n_3, n_4, List.append_nil, pk, n_5, n_6] at F)
  refine l_op 2 rfl rfl rfl rfl rfl ?_
  refine l_op 2 rfl rfl rfl rfl rfl ?_
  refine l_nil (WK.nx (by assumption) ?_)
  refine SeqK.nx (by assumption) ?_
  refine l_cond rfl rfl (fun hc11 => ?_) (fun hc11 => ?_)
  · try simp only [irr_eq, beq_iff_eq, bne_iff_ne, beq_eq_false_iff_ne, bne_eq_false_iff_eq, ne_eq, decide_eq_true_eq, decide_eq_false_iff_not, Bool.not_eq_true', Bool.not_eq_false'] at hc11
    refine k_seq (fun Q K => ?_)
    refine k_lin (fun W K => ?_)
    refine l_op 0 rfl rfl rfl rfl rfl ?_
    refine l_nil (WK.nx (by assumption) ?_)
    refine SeqK.nx (by assumption) ?_
    refine k_ret ?_
    refine SeqK.rt (by assumption) ?_
    refine FunK.rt (by assumption) rfl ?_
    -- leaf 8
    first | rfl | (exfalso; omega) | (exfalso; have := eqS_self xs; simp_all; done)
  try simp only [irr_eq, beq_iff_eq, bne_iff_ne, beq_eq_false_iff_ne, bne_eq_false_iff_eq, ne_eq, decide_eq_true_eq, decide_eq_false_iff_not, Bool.not_eq_true', Bool.not_eq_false'] at hc11
  refine k_skip ?_
  refine SeqK.nx (by assumption) ?_
  refine k_seq (fun Q K => ?_)
  refine k_seq (fun Q K => ?_)
  refine k_lin (fun W K => ?_)
  refine l_op 0 rfl rfl rfl rfl rfl ?_
  refine l_nil (WK.nx (by assumption) ?_)
  refine SeqK.nx (by assumption) ?_
  refine k_block (fun Q K => ?_)
  have F0 := F.pick [1, 2] (by decide)
  clear F
  refine k_loop (α := Int × Nat × Int) (fun ⟨i, n, fp⟩ s => Facts E0 σ s [cel m (sC a n c size fp true), own a n c 1 (u8l (xs.take n))] ∧ 0 ≤ i ∧ n ≤ l ∧ (i = 0 ∧ n = l ∧ fp = at4 xs (l - 4) ∧ Chain xs fp (l - 16) ∨ 1 ≤ i ∧ Chain xs fp n ∧ n + 16 * i ≤ l)) (fun ⟨i, n, fp⟩ => [(1, .slice b l d), (5, .pointer (some ⟨m, 0, none⟩)), (9, .int .i64 i)]) (fun ⟨i, n, fp⟩ => (l + 1 - i).toNat) (0, l, at4 xs (l - 4)) ⟨by rw [List.take_of_length_le (by omega)]; exact F0, by omega, by omega, .inl ⟨rfl, rfl, rfl, r4⟩⟩ (by repeat (first | exact trivial | refine And.intro rfl ?_)) ?_
  clear F0
  rintro ⟨i, n, fp⟩ env s Q K0 ⟨F, i0, n1, hI⟩
  have hb := at4_bd hB fp
  have hb4 := at4_bd hB ((l : Int) - 4)
  have hpf : 0 ≤ fp := by
    rcases hI with h | h
    · have := at4_bd hB ((l : Int) - 4); omega
    · rcases h.2.1.ge with h | h <;> omega
  have hfr : FrameOK xs fp n := by
    rcases hI with h | h
    · exact frame_mono h.2.2.2.frame (by omega) (by omega) (by omega)
    · exact h.2.1.frame
  have hfl := hfr.2.1
  have hp0 := (at4_bd hB (fp - 4)).1
  have hat : at4 (xs.take n) fp = at4 xs fp := at4_take hpf (by omega) (by omega)
  refine k_seq (fun Q K => ?_)
  refine k_seq (fun Q K => ?_)
  refine k_lin (fun W K => ?_)
  refine l_op 0 rfl rfl rfl rfl rfl ?_
  refine l_op 0 rfl rfl rfl rfl rfl ?_
  first | refine l_op 2 rfl rfl rfl rfl rfl ?_ | refine l_ln rfl rfl rfl rfl ?_
  refine l_cmp rfl rfl rfl rfl ?_
  refine l_nil (WK.nx (by assumption) ?_)
  refine SeqK.nx (by assumption) ?_
  refine l_cond rfl rfl (fun hc12 => ?_) (fun hc12 => ?_)
  · replace hc12 := of_decide_eq_true ((irr_eq _).symm.trans hc12)
    refine k_skip ?_
    refine SeqK.nx (by assumption) ?_
    refine k_seq (fun Q K => ?_)
    refine k_block (fun Q K => ?_)
    refine k_seq (fun Q K => ?_)
    refine k_seq (fun Q K => ?_)
    refine k_lin (fun W K => ?_)
    refine l_op 0 rfl rfl rfl rfl rfl ?_
    refine l_cmp rfl rfl rfl rfl ?_
    refine l_op 0 rfl rfl rfl rfl rfl ?_
    refine l_guard rfl rfl rfl (fun hc13 => ?_) (fun hc13 => ?_)
    · replace hc13 := of_decide_eq_true ((irr_eq _).symm.trans hc13)
      refine l_op 0 rfl rfl rfl rfl rfl ?_
      refine l_call F [0, 1] [] (by decide) rfl rfl (by kernel_rfl) rfl rfl (leave_call (F.sub [0, 1] (by decide)) (by omega) (by omega) (fun _ => ⟨by omega, by omega⟩)) hD (fun y s F hy => ?_)
      obtain ⟨e1, n1, fp1, on1⟩ := y
      obtain ⟨rfl, hn1, rfl, rfl⟩ : e1 = 0 ∧ (n1 : Int) = fp ∧ fp1 = 0 ∧ on1 = false := by
        rcases hy with h | h
        · cases h.1
        · exact h.2
      have hI : Chain xs fp n ∧ n + 16 * i ≤ l := by rcases hI with h | h; omega; exact h.2
      obtain ⟨hch, hni⟩ := hI
      have hge := hch.ge
      dsimp only at F
      rw [List.take_take, Nat.min_eq_left (by omega)] at F
      have hbA := at4_bd hB (fp - 4)
      (try dsimp only [n_1, n_2, n_3, n_4, List.append_nil, pk, n_5, n_6] at F)
      refine l_callv rfl rfl (by kernel_rfl) rfl rfl num_call ?_
      (try dsimp only [n_1, n_2, n_3, n_4, List.append_nil, pk, n_5, n_6] at F)
      refine l_cmp rfl rfl rfl rfl ?_
      refine l_op 2 rfl rfl rfl rfl rfl ?_
      refine l_nil (WK.nx (by assumption) ?_)
      refine SeqK.nx (by assumption) ?_
      refine l_cond rfl rfl (fun hc14 => ?_) (fun hc14 => ?_)
      · first | replace hc14 := bne_iff_ne.1 ((irr_eq _).symm.trans hc14) | simp only [irr_eq, bne_iff_ne, bne_eq_false_iff_eq, ne_eq, decide_eq_true_eq, decide_eq_false_iff_not, Bool.not_eq_true', Bool.not_eq_false'] at hc14
        refine k_seq (fun Q K => ?_)
        refine k_lin (fun W K => ?_)
        refine l_op 0 rfl rfl rfl rfl rfl ?_
        refine l_nil (WK.nx (by assumption) ?_)
        refine SeqK.nx (by assumption) ?_
        refine k_ret ?_
        refine SeqK.rt (by assumption) ?_
        refine BlkK.rt (by assumption) ?_
        refine SeqK.rt (by assumption) ?_
        refine LoopK.rt (by assumption) ?_
        refine BlkK.rt (by assumption) ?_
        refine SeqK.rt (by assumption) ?_
        refine FunK.rt (by assumption) rfl ?_
        -- leaf 9
        first | rfl | (exfalso; omega) | (exfalso; have := eqS_self xs; simp_all; done)
      first | replace hc14 := bne_eq_false_iff_eq.1 ((irr_eq _).symm.trans hc14) | simp only [irr_eq, bne_iff_ne, bne_eq_false_iff_eq, ne_eq, decide_eq_true_eq, decide_eq_false_iff_not, Bool.not_eq_true', Bool.not_eq_false'] at hc14
      refine k_skip ?_
      refine SeqK.nx (by assumption) ?_
      refine k_seq (fun Q K => ?_)
      refine k_lin (fun W K => ?_)
      refine l_op 0 rfl rfl rfl rfl rfl ?_
      first
        | (refine l_call F [0, 1] [] (by decide) rfl rfl (by kernel_rfl) rfl rfl (unstub_call (fp := 0) (F.sub [0, 1] (by decide)) (hB.take _) (by omega) (by omega) (fun h => by cases h) (fun _ => by omega)) hD (fun y s F hy => ?_)
           obtain ⟨x2, y2, z2, e2, n2, fp2, on2⟩ := y
           dsimp only [unsF, unsV, unsP] at F hy ⊢
           have hy := uns_off hy
           rw [List.take_take] at F)
        | (obtain ⟨rfl, rfl, rfl, hch⟩ : i = 0 ∧ l = n ∧ fp = at4 xs (l - 4) ∧ Chain xs fp (l - 16) := by rcases hI with h | h; exact ⟨h.1, h.2.1.symm, h.2.2⟩; omega
           have hfr2 := hch.frame.2.2.2
           have htl : xs.take l = xs := List.take_of_length_le (by omega)
           rw [htl] at F
           have hbA := at4_bd hB ((l : Int) - 16 + 12)
           refine l_call F [0, 1] [] (by decide) rfl rfl (by kernel_rfl) rfl rfl (unstub_call (fp := at4 xs (l - 4)) (F.sub [0, 1] (by decide)) hB (by omega) (by omega) (fun h => by omega) (fun h => by cases h)) hD (fun y s F hy => ?_)
           obtain ⟨x2, y2, z2, e2, n2, fp2, on2⟩ := y
           dsimp only [unsF, unsV, unsP] at F hy ⊢
           have hy := uns_on hy (by omega) (by rw [show (l : Int) - 16 + 12 = l - 4 by omega]))
      (try dsimp only [n_1, n_2, n_3, n_4, List.append_nil, pk, n_5, n_6] at F)
      refine l_op 0 rfl rfl rfl rfl rfl ?_
      refine l_op 2 rfl rfl rfl rfl rfl ?_
      refine l_op 2 rfl rfl rfl rfl rfl ?_
      refine l_op 2 rfl rfl rfl rfl rfl ?_
      refine l_op 2 rfl rfl rfl rfl rfl ?_
      refine l_op 0 rfl rfl rfl rfl rfl ?_
      refine l_op 0 rfl rfl rfl rfl rfl ?_
      refine l_op 0 rfl rfl rfl rfl rfl ?_
      refine l_op 0 rfl rfl rfl rfl rfl ?_
      refine l_nil (WK.nx (by assumption) ?_)
      refine SeqK.nx (by assumption) ?_
      refine k_seq (fun Q K => ?_)
      refine k_seq (fun Q K => ?_)
      refine k_lin (fun W K => ?_)
      refine l_op 0 rfl rfl rfl rfl rfl ?_
      refine l_callv rfl rfl (by kernel_rfl) rfl rfl num_call ?_
      (try dsimp only [n_1, n_2, n_3, n_4, List.append_nil, pk, n_5, n_6] at F)
      refine l_cmp rfl rfl rfl rfl ?_
      refine l_nil (WK.nx (by assumption) ?_)
      refine SeqK.nx (by assumption) ?_
      refine l_cond rfl rfl (fun hc15 => ?_) (fun hc15 => ?_)
      · first | replace hc15 := eq_of_beq ((irr_eq _).symm.trans hc15) | simp only [irr_eq, beq_iff_eq, beq_eq_false_iff_ne, ne_eq, decide_eq_true_eq, decide_eq_false_iff_not] at hc15
        refine k_seq (fun Q K => ?_)
        refine k_lin (fun W K => ?_)
        refine l_op 0 rfl rfl rfl rfl rfl ?_
        refine l_cmp rfl rfl rfl rfl ?_
        refine l_op 0 rfl rfl rfl rfl rfl ?_
        refine l_guard rfl rfl rfl (fun hc16 => ?_) (fun hc16 => ?_)
        · replace hc16 := of_decide_eq_true ((irr_eq _).symm.trans hc16)
          refine l_op 0 rfl rfl rfl rfl rfl ?_
          refine l_callp F rfl rfl (by kernel_rfl) rfl rfl (top_call (F.cel0 0 rfl) (by omega)) (fun _ s F _ => ?_)
          (try dsimp only [n_1, n_2, n_3, n_4, List.append_nil, pk, n_5, n_6] at F)
          refine l_cmp rfl rfl rfl rfl ?_
          refine l_op 2 rfl rfl rfl rfl rfl ?_
          refine l_op 0 rfl rfl rfl rfl rfl ?_
          refine l_guard rfl rfl rfl (fun hc17 => ?_) (fun hc17 => ?_)
          · first | replace hc17 := eq_of_beq ((irr_eq _).symm.trans hc17) | simp only [irr_eq, beq_iff_eq, beq_eq_false_iff_ne, ne_eq, decide_eq_true_eq, decide_eq_false_iff_not] at hc17
            refine l_callv rfl rfl (by kernel_rfl) rfl rfl (live_call _ _) ?_
            (try dsimp only [n_1, n_2, n_3, n_4, List.append_nil, pk, n_5, n_6] at F)
            refine l_op 2 rfl rfl rfl rfl rfl ?_
            refine l_op 0 rfl rfl rfl rfl rfl ?_
            refine l_nil (WK.nx (by assumption) ?_)
            refine SeqK.nx (by assumption) ?_
            refine k_ret ?_
            refine SeqK.rt (by assumption) ?_
            refine BlkK.rt (by assumption) ?_
            refine SeqK.rt (by assumption) ?_
            refine LoopK.rt (by assumption) ?_
            refine BlkK.rt (by assumption) ?_
            refine SeqK.rt (by assumption) ?_
            refine FunK.rt (by assumption) rfl ?_
            -- leaf 10
            first | rfl | (exfalso; omega) | (exfalso; have := eqS_self xs; simp_all; done)
          first | replace hc17 := ne_of_beq_false ((irr_eq _).symm.trans hc17) | simp only [irr_eq, beq_iff_eq, beq_eq_false_iff_ne, ne_eq, decide_eq_true_eq, decide_eq_false_iff_not] at hc17
          refine l_s rfl rfl ?_
          refine l_op 2 rfl rfl rfl rfl rfl ?_
          refine l_op 0 rfl rfl rfl rfl rfl ?_
          refine l_nil (WK.nx (by assumption) ?_)
          refine SeqK.nx (by assumption) ?_
          refine k_ret ?_
          refine SeqK.rt (by assumption) ?_
          refine BlkK.rt (by assumption) ?_
          refine SeqK.rt (by assumption) ?_
          refine LoopK.rt (by assumption) ?_
          refine BlkK.rt (by assumption) ?_
          refine SeqK.rt (by assumption) ?_
          refine FunK.rt (by assumption) rfl ?_
          -- leaf 11
          first | rfl | (exfalso; omega) | (exfalso; have := eqS_self xs; simp_all; done)
        replace hc16 := of_decide_eq_false ((irr_eq _).symm.trans hc16)
        refine l_s rfl rfl ?_
        refine l_s rfl rfl ?_
        refine l_s rfl rfl ?_
        refine l_op 2 rfl rfl rfl rfl rfl ?_
        refine l_op 0 rfl rfl rfl rfl rfl ?_
        refine l_s rfl rfl ?_
        refine l_op 2 rfl rfl rfl rfl rfl ?_
        refine l_op 0 rfl rfl rfl rfl rfl ?_
        refine l_nil (WK.nx (by assumption) ?_)
        refine SeqK.nx (by assumption) ?_
        refine k_ret ?_
        refine SeqK.rt (by assumption) ?_
        refine BlkK.rt (by assumption) ?_
        refine SeqK.rt (by assumption) ?_
        refine LoopK.rt (by assumption) ?_
        refine BlkK.rt (by assumption) ?_
        refine SeqK.rt (by assumption) ?_
        refine FunK.rt (by assumption) rfl ?_
        -- leaf 12
        first | rfl | (exfalso; omega) | (exfalso; have := eqS_self xs; simp_all; done)
      first | replace hc15 := ne_of_beq_false ((irr_eq _).symm.trans hc15) | simp only [irr_eq, beq_iff_eq, beq_eq_false_iff_ne, ne_eq, decide_eq_true_eq, decide_eq_false_iff_not] at hc15
      refine k_skip ?_
      refine SeqK.nx (by assumption) ?_
      refine k_seq (fun Q K => ?_)
      refine k_lin (fun W K => ?_)
      refine l_op 0 rfl rfl rfl rfl rfl ?_
      refine l_callv rfl rfl (by kernel_rfl) rfl rfl num_call ?_
      (try dsimp only [n_1, n_2, n_3, n_4, List.append_nil, pk, n_5, n_6] at F)
      refine l_cmp rfl rfl rfl rfl ?_
      refine l_nil (WK.nx (by assumption) ?_)
      refine SeqK.nx (by assumption) ?_
      refine l_cond rfl rfl (fun hc18 => ?_) (fun hc18 => ?_)
      · first | replace hc18 := bne_iff_ne.1 ((irr_eq _).symm.trans hc18) | simp only [irr_eq, bne_iff_ne, bne_eq_false_iff_eq, ne_eq, decide_eq_true_eq, decide_eq_false_iff_not, Bool.not_eq_true', Bool.not_eq_false'] at hc18
        refine k_seq (fun Q K => ?_)
        refine k_lin (fun W K => ?_)
        refine l_op 0 rfl rfl rfl rfl rfl ?_
        refine l_nil (WK.nx (by assumption) ?_)
        refine SeqK.nx (by assumption) ?_
        refine k_ret ?_
        refine BlkK.rt (by assumption) ?_
        refine SeqK.rt (by assumption) ?_
        refine LoopK.rt (by assumption) ?_
        refine BlkK.rt (by assumption) ?_
        refine SeqK.rt (by assumption) ?_
        refine FunK.rt (by assumption) rfl ?_
        -- leaf 13
        first | rfl | (exfalso; omega) | (exfalso; have := eqS_self xs; simp_all; done)
      first | replace hc18 := bne_eq_false_iff_eq.1 ((irr_eq _).symm.trans hc18) | simp only [irr_eq, bne_iff_ne, bne_eq_false_iff_eq, ne_eq, decide_eq_true_eq, decide_eq_false_iff_not, Bool.not_eq_true', Bool.not_eq_false'] at hc18
      refine k_skip ?_
      refine BlkK.nx (by assumption) ?_
      refine SeqK.nx (by assumption) ?_
      refine k_lin (fun W K => ?_)
      refine l_op 0 rfl rfl rfl rfl rfl ?_
      (first | refine l_a64 rfl rfl rfl (by omega) rfl ?_ | refine l_a32 rfl rfl rfl (by omega) rfl ?_ | refine l_a8 rfl rfl rfl (by omega) rfl ?_ | refine l_au64 rfl rfl rfl (by omega) rfl ?_ | refine l_op 1 rfl rfl rfl rfl rfl ?_)
      refine l_op 0 rfl rfl rfl rfl rfl ?_
      refine l_nil (WK.nx (by assumption) ?_)
      first
        | (obtain ⟨h1, h2, h3, h4, rfl⟩ : e2 = 0 ∧ 16 ≤ n1 ∧ n2 = n1 - 16 ∧ fp2 = at4 (xs.take n1) (n1 - 16 + 12) ∧ on2 = true := by rcases hy with h | h; omega; exact h
           have hf0 : fp ≠ 0 := by omega
           obtain ⟨g1, g2⟩ := hch.prev hf0
           have e4 : fp2 = at4 xs (fp - 4) := by
             rw [h4, at4_take (by omega) (by omega) (by omega)]; congr 1; omega
           rw [Nat.min_eq_left (by omega)] at F
           exact K0.nx (i + 1, n2, fp2) (by repeat (first | exact trivial | refine And.intro rfl ?_)) ⟨F, by omega, by omega, .inr ⟨by omega, by rw [e4, show ((n2 : Nat) : Int) = fp - 16 by omega]; exact g2, by omega⟩⟩ (by first | omega | (simp only; omega)))
        | (obtain ⟨_, _, _, _, h3, h4, rfl⟩ := hy
           exact K0.nx (0 + 1, n2, fp2) (by repeat (first | exact trivial | refine And.intro rfl ?_)) ⟨F, by omega, by omega, .inr ⟨by omega, by rw [h4, show (l : Int) - 16 + 12 = l - 4 by omega, show ((n2 : Nat) : Int) = l - 16 by omega]; exact hch, by omega⟩⟩ (by first | omega | (simp only; omega)))
    replace hc13 := of_decide_eq_false ((irr_eq _).symm.trans hc13)
    refine l_s rfl rfl ?_
    refine l_s rfl rfl ?_
    refine l_s rfl rfl ?_
    refine l_s rfl rfl ?_
    refine l_op 2 rfl rfl rfl rfl rfl ?_
    refine l_nil (WK.nx (by assumption) ?_)
    refine SeqK.nx (by assumption) ?_
    first | refine e_cond_f rfl rfl rfl ?_ | refine e_cond_f rfl rfl (by rw [irr_eq]; first | exact beq_eq_false_iff_ne.2 (by assumption) | exact decide_eq_false (by assumption) | exact bne_eq_false_iff_eq.2 (by assumption)) ?_
    refine k_skip ?_
    refine SeqK.nx (by assumption) ?_
    refine k_seq (fun Q K => ?_)
    refine k_lin (fun W K => ?_)
    refine l_op 0 rfl rfl rfl rfl rfl ?_
    first
      | (refine l_call F [0, 1] [] (by decide) rfl rfl (by kernel_rfl) rfl rfl (unstub_call (fp := 0) (F.sub [0, 1] (by decide)) (hB.take _) (by omega) (by omega) (fun h => by cases h) (fun _ => by omega)) hD (fun y s F hy => ?_)
         obtain ⟨x2, y2, z2, e2, n2, fp2, on2⟩ := y
         dsimp only [unsF, unsV, unsP] at F hy ⊢
         have hy := uns_off hy
         rw [List.take_take] at F)
      | (obtain ⟨rfl, rfl, rfl, hch⟩ : i = 0 ∧ l = n ∧ fp = at4 xs (l - 4) ∧ Chain xs fp (l - 16) := by rcases hI with h | h; exact ⟨h.1, h.2.1.symm, h.2.2⟩; omega
         have hfr2 := hch.frame.2.2.2
         have htl : xs.take l = xs := List.take_of_length_le (by omega)
         rw [htl] at F
         have hbA := at4_bd hB ((l : Int) - 16 + 12)
         refine l_call F [0, 1] [] (by decide) rfl rfl (by kernel_rfl) rfl rfl (unstub_call (fp := at4 xs (l - 4)) (F.sub [0, 1] (by decide)) hB (by omega) (by omega) (fun h => by omega) (fun h => by cases h)) hD (fun y s F hy => ?_)
         obtain ⟨x2, y2, z2, e2, n2, fp2, on2⟩ := y
         dsimp only [unsF, unsV, unsP] at F hy ⊢
         have hy := uns_on hy (by omega) (by rw [show (l : Int) - 16 + 12 = l - 4 by omega]))
    (try dsimp only [n_1, n_2, n_3, n_4, List.append_nil, pk, n_5, n_6] at F)
    refine l_op 0 rfl rfl rfl rfl rfl ?_
    refine l_op 2 rfl rfl rfl rfl rfl ?_
    refine l_op 2 rfl rfl rfl rfl rfl ?_
    refine l_op 2 rfl rfl rfl rfl rfl ?_
    refine l_op 2 rfl rfl rfl rfl rfl ?_
    refine l_op 0 rfl rfl rfl rfl rfl ?_
    refine l_op 0 rfl rfl rfl rfl rfl ?_
    refine l_op 0 rfl rfl rfl rfl rfl ?_
    refine l_op 0 rfl rfl rfl rfl rfl ?_
    refine l_nil (WK.nx (by assumption) ?_)
    refine SeqK.nx (by assumption) ?_
    refine k_seq (fun Q K => ?_)
    refine k_seq (fun Q K => ?_)
    refine k_lin (fun W K => ?_)
    refine l_op 0 rfl rfl rfl rfl rfl ?_
    refine l_callv rfl rfl (by kernel_rfl) rfl rfl num_call ?_
    (try dsimp only [n_1, n_2, n_3, n_4, List.append_nil, pk, n_5, n_6] at F)
    refine l_cmp rfl rfl rfl rfl ?_
    refine l_nil (WK.nx (by assumption) ?_)
    refine SeqK.nx (by assumption) ?_
    refine l_cond rfl rfl (fun hc19 => ?_) (fun hc19 => ?_)
    · first | replace hc19 := eq_of_beq ((irr_eq _).symm.trans hc19) | simp only [irr_eq, beq_iff_eq, beq_eq_false_iff_ne, ne_eq, decide_eq_true_eq, decide_eq_false_iff_not] at hc19
      refine k_seq (fun Q K => ?_)
      refine k_lin (fun W K => ?_)
      refine l_op 0 rfl rfl rfl rfl rfl ?_
      refine l_cmp rfl rfl rfl rfl ?_
      refine l_op 0 rfl rfl rfl rfl rfl ?_
      refine l_guard rfl rfl rfl (fun hc20 => ?_) (fun hc20 => ?_)
      · replace hc20 := of_decide_eq_true ((irr_eq _).symm.trans hc20)
        refine l_op 0 rfl rfl rfl rfl rfl ?_
        refine l_callp F rfl rfl (by kernel_rfl) rfl rfl (top_call (F.cel0 0 rfl) (by omega)) (fun _ s F _ => ?_)
        (try dsimp only [n_1, n_2, n_3, n_4, List.append_nil, pk, n_5, n_6] at F)
        refine l_cmp rfl rfl rfl rfl ?_
        refine l_op 2 rfl rfl rfl rfl rfl ?_
        refine l_op 0 rfl rfl rfl rfl rfl ?_
        refine l_guard rfl rfl rfl (fun hc21 => ?_) (fun hc21 => ?_)
        · first | replace hc21 := eq_of_beq ((irr_eq _).symm.trans hc21) | simp only [irr_eq, beq_iff_eq, beq_eq_false_iff_ne, ne_eq, decide_eq_true_eq, decide_eq_false_iff_not] at hc21
          refine l_callv rfl rfl (by kernel_rfl) rfl rfl (live_call _ _) ?_
          (try dsimp only [n_1, n_2, n_3, n_4, List.append_nil, pk, n_5, n_6] at F)
          refine l_op 2 rfl rfl rfl rfl rfl ?_
          refine l_op 0 rfl rfl rfl rfl rfl ?_
          refine l_nil (WK.nx (by assumption) ?_)
          refine SeqK.nx (by assumption) ?_
          refine k_ret ?_
          refine SeqK.rt (by assumption) ?_
          refine BlkK.rt (by assumption) ?_
          refine SeqK.rt (by assumption) ?_
          refine LoopK.rt (by assumption) ?_
          refine BlkK.rt (by assumption) ?_
          refine SeqK.rt (by assumption) ?_
          refine FunK.rt (by assumption) rfl ?_
          -- leaf 14
          first | rfl | (exfalso; omega) | (exfalso; have := eqS_self xs; simp_all; done)
        first | replace hc21 := ne_of_beq_false ((irr_eq _).symm.trans hc21) | simp only [irr_eq, beq_iff_eq, beq_eq_false_iff_ne, ne_eq, decide_eq_true_eq, decide_eq_false_iff_not] at hc21
        refine l_s rfl rfl ?_
        refine l_op 2 rfl rfl rfl rfl rfl ?_
        refine l_op 0 rfl rfl rfl rfl rfl ?_
        refine l_nil (WK.nx (by assumption) ?_)
        refine SeqK.nx (by assumption) ?_
        refine k_ret ?_
        refine SeqK.rt (by assumption) ?_
        refine BlkK.rt (by assumption) ?_
        refine SeqK.rt (by assumption) ?_
        refine LoopK.rt (by assumption) ?_
        refine BlkK.rt (by assumption) ?_
        refine SeqK.rt (by assumption) ?_
        refine FunK.rt (by assumption) rfl ?_
        -- leaf 15
        first | rfl | (exfalso; omega) | (exfalso; have := eqS_self xs; simp_all; done)
      replace hc20 := of_decide_eq_false ((irr_eq _).symm.trans hc20)
      refine l_s rfl rfl ?_
      refine l_s rfl rfl ?_
      refine l_s rfl rfl ?_
      refine l_op 2 rfl rfl rfl rfl rfl ?_
      refine l_op 0 rfl rfl rfl rfl rfl ?_
      refine l_s rfl rfl ?_
      refine l_op 2 rfl rfl rfl rfl rfl ?_
      refine l_op 0 rfl rfl rfl rfl rfl ?_
      refine l_nil (WK.nx (by assumption) ?_)
      refine SeqK.nx (by assumption) ?_
      refine k_ret ?_
      refine SeqK.rt (by assumption) ?_
      refine BlkK.rt (by assumption) ?_
      refine SeqK.rt (by assumption) ?_
      refine LoopK.rt (by assumption) ?_
      refine BlkK.rt (by assumption) ?_
      refine SeqK.rt (by assumption) ?_
      refine FunK.rt (by assumption) rfl ?_
      -- leaf 16
      first | rfl | (exfalso; omega) | (exfalso; have := eqS_self xs; simp_all; done)
    first | replace hc19 := ne_of_beq_false ((irr_eq _).symm.trans hc19) | simp only [irr_eq, beq_iff_eq, beq_eq_false_iff_ne, ne_eq, decide_eq_true_eq, decide_eq_false_iff_not] at hc19
    refine k_skip ?_
    refine SeqK.nx (by assumption) ?_
    refine k_seq (fun Q K => ?_)
    refine k_lin (fun W K => ?_)
    refine l_op 0 rfl rfl rfl rfl rfl ?_
    refine l_callv rfl rfl (by kernel_rfl) rfl rfl num_call ?_
    (try dsimp only [n_1, n_2, n_3, n_4, List.append_nil, pk, n_5, n_6] at F)
    refine l_cmp rfl rfl rfl rfl ?_
    refine l_nil (WK.nx (by assumption) ?_)
    refine SeqK.nx (by assumption) ?_
    refine l_cond rfl rfl (fun hc22 => ?_) (fun hc22 => ?_)
    · first | replace hc22 := bne_iff_ne.1 ((irr_eq _).symm.trans hc22) | simp only [irr_eq, bne_iff_ne, bne_eq_false_iff_eq, ne_eq, decide_eq_true_eq, decide_eq_false_iff_not, Bool.not_eq_true', Bool.not_eq_false'] at hc22
      refine k_seq (fun Q K => ?_)
      refine k_lin (fun W K => ?_)
      refine l_op 0 rfl rfl rfl rfl rfl ?_
      refine l_nil (WK.nx (by assumption) ?_)
      refine SeqK.nx (by assumption) ?_
      refine k_ret ?_
      refine BlkK.rt (by assumption) ?_
      refine SeqK.rt (by assumption) ?_
      refine LoopK.rt (by assumption) ?_
      refine BlkK.rt (by assumption) ?_
      refine SeqK.rt (by assumption) ?_
      refine FunK.rt (by assumption) rfl ?_
      -- leaf 17
      first | rfl | (exfalso; omega) | (exfalso; have := eqS_self xs; simp_all; done)
    first | replace hc22 := bne_eq_false_iff_eq.1 ((irr_eq _).symm.trans hc22) | simp only [irr_eq, bne_iff_ne, bne_eq_false_iff_eq, ne_eq, decide_eq_true_eq, decide_eq_false_iff_not, Bool.not_eq_true', Bool.not_eq_false'] at hc22
    refine k_skip ?_
    refine BlkK.nx (by assumption) ?_
    refine SeqK.nx (by assumption) ?_
    refine k_lin (fun W K => ?_)
    refine l_op 0 rfl rfl rfl rfl rfl ?_
    (first | refine l_a64 rfl rfl rfl (by omega) rfl ?_ | refine l_a32 rfl rfl rfl (by omega) rfl ?_ | refine l_a8 rfl rfl rfl (by omega) rfl ?_ | refine l_au64 rfl rfl rfl (by omega) rfl ?_ | refine l_op 1 rfl rfl rfl rfl rfl ?_)
    refine l_op 0 rfl rfl rfl rfl rfl ?_
    refine l_nil (WK.nx (by assumption) ?_)
    first
      | (obtain ⟨h1, h2, h3, h4, rfl⟩ : e2 = 0 ∧ 16 ≤ n1 ∧ n2 = n1 - 16 ∧ fp2 = at4 (xs.take n1) (n1 - 16 + 12) ∧ on2 = true := by rcases hy with h | h; omega; exact h
         have hf0 : fp ≠ 0 := by omega
         obtain ⟨g1, g2⟩ := hch.prev hf0
         have e4 : fp2 = at4 xs (fp - 4) := by
           rw [h4, at4_take (by omega) (by omega) (by omega)]; congr 1; omega
         rw [Nat.min_eq_left (by omega)] at F
         exact K0.nx (i + 1, n2, fp2) (by repeat (first | exact trivial | refine And.intro rfl ?_)) ⟨F, by omega, by omega, .inr ⟨by omega, by rw [e4, show ((n2 : Nat) : Int) = fp - 16 by omega]; exact g2, by omega⟩⟩ (by first | omega | (simp only; omega)))
      | (obtain ⟨_, _, _, _, h3, h4, rfl⟩ := hy
         exact K0.nx (0 + 1, n2, fp2) (by repeat (first | exact trivial | refine And.intro rfl ?_)) ⟨F, by omega, by omega, .inr ⟨by omega, by rw [h4, show (l : Int) - 16 + 12 = l - 4 by omega, show ((n2 : Nat) : Int) = l - 16 by omega]; exact hch, by omega⟩⟩ (by first | omega | (simp only; omega)))
  replace hc12 := of_decide_eq_false ((irr_eq _).symm.trans hc12)
  omega

end Go.Proofs.Ythbooolgpfhcmaa
