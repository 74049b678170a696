/- A block is put among blocks. No statement of the seat is proved in this text. -/
import Derived.Test.YtocfmecenpeoiaaGreatWd
set_option linter.unusedVariables false
set_option linter.unusedSimpArgs false
set_option maxRecDepth 100000
set_option maxHeartbeats 4000000
namespace GAb
open Go
/-- A block's cells. -/
abbrev eB (x : Int × Int) : List Value := [.int .u32 x.1, .int .u32 x.2]
theorem eB_len (x : Int × Int) : (eB x).length = 2 := rfl
theorem eB_one (bl : List (Int × Int)) : (rows eB bl).all Value.oneCell' = true := by
  rw [List.all_eq_true]
  intro v hv
  obtain ⟨x, _, hx⟩ := List.mem_flatMap.1 hv
  simp at hx
  rcases hx with rfl | rfl <;> rfl
theorem Facts.lenB {O : Nat → Prop} {σ0 σ : AState} {L : List Fact} (F : Facts O σ0 σ L) (k : Nat) {a : Option Addr} {l c : Nat} {bl : List (Int × Int)} (hk : L[k]? = some (own a l c 2 (rows eB bl))) : bl.length = l := (F.has k hk).len eB_len (by decide)

end GAb
namespace Go.Proofs.YtocfmecenpeoiaaGreat
open GAb Go

theorem all_take {p : Value → Bool} {l : List Value} (h : l.all p = true) (k : Nat) : (l.take k).all p = true := by
  rw [List.all_eq_true] at h ⊢; exact fun v hv => h v (List.mem_of_mem_take hv)
theorem all_drop {p : Value → Bool} {l : List Value} (h : l.all p = true) (k : Nat) : (l.drop k).all p = true := by
  rw [List.all_eq_true] at h ⊢; exact fun v hv => h v (List.mem_of_mem_drop hv)
theorem splice_mid {V X Z : List Value} {p : Nat} (hp : p ≤ V.length) (hZ : Z.length = X.length + (V.length - p)) : splice (splice (V.take p ++ Z) p X) (p + X.length) (V.drop p) = V.take p ++ X ++ V.drop p := by
  have hp' : (V.take p).length = p := by rw [List.length_take]; omega
  have h1 : splice (V.take p ++ Z) p X = (V.take p ++ X) ++ Z.drop X.length := by
    unfold splice
    rw [List.take_append_of_le_length (by omega), List.take_of_length_le (by omega), List.drop_append, hp', show p + X.length - p = X.length by omega, List.drop_of_length_le (l := V.take p) (by omega), List.nil_append, List.append_assoc]
  have hl : (V.take p ++ X).length = p + X.length := by rw [List.length_append, hp']
  rw [h1]
  have h2 : ((V.take p ++ X) ++ Z.drop X.length).drop (p + X.length + (V.drop p).length) = [] := by
    apply List.drop_of_length_le
    rw [List.length_append, hl, List.length_drop, List.length_drop]; omega
  unfold splice
  rw [h2, List.append_nil, List.take_append_of_le_length (by omega), List.take_of_length_le (by omega)]
theorem splice_mid2 {V X ws : List Value} {p : Nat} (hp : p ≤ V.length) (hw : ws.length = X.length) : splice (splice (V ++ ws) (p + X.length) (V.drop p)) p X = V.take p ++ X ++ V.drop p := by
  have h2 : (V ++ ws).drop (p + X.length + (V.drop p).length) = [] := by
    apply List.drop_of_length_le
    rw [List.length_append, List.length_drop]; omega
  have h1 : splice (V ++ ws) (p + X.length) (V.drop p) = (V ++ ws).take (p + X.length) ++ V.drop p := by
    unfold splice
    rw [h2, List.append_nil]
  have hl : ((V ++ ws).take (p + X.length)).length = p + X.length := by rw [List.length_take, List.length_append]; omega
  rw [h1]
  unfold splice
  rw [List.take_append_of_le_length (by omega), List.take_take, Nat.min_eq_left (by omega), List.take_append_of_le_length hp, List.drop_append, hl, List.drop_of_length_le (l := (V ++ ws).take (p + X.length)) (by omega), Nat.sub_self, List.drop_zero, List.nil_append, List.append_assoc]
theorem rows_mid (bl : List (Int × Int)) (i : Nat) (x : Int × Int) : (rows eB bl).take (i * 2) ++ eB x ++ (rows eB bl).drop (i * 2) = rows eB (bl.take i ++ x :: bl.drop i) := by
  rw [rows_take eB_len, rows_drop eB_len]
  simp [rows]

theorem insert_call {O : Nat → Prop} {σ : AState} {a : Option Addr} {n c q : Nat} {bl : List (Int × Int)} {x : Int × Int} {i : Int} (F : Facts O σ σ [own a n c 2 (rows eB bl), own (some ⟨q, 0, some 0⟩) 1 1 2 (eB x)]) (hEx : Ex a) (hi : 0 ≤ i ∧ i ≤ n) (hn : n ≤ 1000000) :
    SCall Tryz.prog O 152 [.slice a n c, .int .i64 i, .slice (some ⟨q, 0, some 0⟩) 1 1] σ (Ret O σ (fun (y : Option Addr × Nat) => .slice y.1 (n + 1) y.2) (fun y => [own y.1 (n + 1) y.2 2 (rows eB (bl.take i.toNat ++ x :: bl.drop i.toNat))]) fun y => Ex y.1) := by
  have hbl := F.lenB 0 rfl
  have hr : rows eB [x] = eB x := by simp [rows]
  have hone : (eB x).all Value.oneCell' = true := by rw [← hr]; exact eB_one [x]
  rcases hEx with rfl | ⟨m0, rfl⟩
  · have hO : Has σ none n c 2 _ := F.has 0 rfl
    have hn0 : n = 0 := by
      obtain ⟨zs, h1, h2⟩ := hO
      rcases h1 with ⟨_, rfl, _⟩ | ⟨_, _, _, h, _⟩
      · rfl
      · cases h
    refine k_fun Tryz.func152 rfl (m := 95) rfl fun B hD Q K => ?_
    refine k_seq fun Q K => k_lin fun W K => ?_
    refine l_op 0 rfl rfl rfl rfl rfl ?_
    refine l_nil (WK.nx ‹_› (SeqK.nx ‹_› ?_))
    refine k_seq fun Q K => k_lin fun W K => ?_
    iterate 2 refine l_op 0 rfl rfl rfl rfl rfl ?_
    first | refine l_sl rfl rfl rfl rfl rfl rfl rfl rfl rfl (F.old (by assumption)) (by omega) ?_ | refine l_sl rfl rfl rfl rfl rfl rfl rfl rfl rfl (F.has 0 rfl) (by omega) ?_ | refine l_sl rfl rfl rfl rfl rfl rfl rfl rfl rfl (F.has 1 rfl) (by omega) ?_ | refine l_sl rfl rfl rfl rfl rfl rfl rfl rfl rfl (F.has 2 rfl) (by omega) ?_ | refine l_sl rfl rfl rfl rfl rfl rfl rfl rfl rfl (F.has 3 rfl) (by omega) ?_
    refine l_nil (WK.nx ‹_› (SeqK.nx ‹_› ?_))
    refine k_seq fun Q K => k_lin fun W K => ?_
    refine l_op 0 rfl rfl rfl rfl rfl ?_
    first | refine l_op 2 rfl rfl rfl rfl rfl ?_ | refine l_ln rfl rfl rfl rfl ?_
    refine l_op 0 rfl rfl rfl rfl rfl ?_
    refine l_nil (WK.nx ‹_› (SeqK.nx ‹_› ?_))
    refine k_seq fun Q K => k_seq fun Q K => k_lin fun W K => ?_
    refine l_op 0 rfl rfl rfl rfl rfl ?_
    refine l_cmp rfl rfl rfl rfl ?_
    refine l_nil (WK.nx ‹_› (SeqK.nx ‹_› ?_))
    refine l_cond rfl rfl (fun hc1 => ?_) (fun hc1 => ?_)
    · first | replace hc1 := eq_of_beq ((irr_eq _).symm.trans hc1) | simp only [irr_eq, beq_iff_eq, beq_eq_false_iff_ne, ne_eq, decide_eq_true_eq, decide_eq_false_iff_not] at hc1
      omega
    first | replace hc1 := ne_of_beq_false ((irr_eq _).symm.trans hc1) | simp only [irr_eq, beq_iff_eq, beq_eq_false_iff_ne, ne_eq, decide_eq_true_eq, decide_eq_false_iff_not] at hc1
    refine k_skip (SeqK.nx ‹_› ?_)
    refine k_seq fun Q K => k_lin fun W K => ?_
    refine l_op 0 rfl rfl rfl rfl rfl ?_
    first | refine l_op 2 rfl rfl rfl rfl rfl ?_ | refine l_ln rfl rfl rfl rfl ?_
    refine l_op 0 rfl rfl rfl rfl rfl ?_
    refine l_nil (WK.nx ‹_› (SeqK.nx ‹_› ?_))
    refine k_seq fun Q K => k_seq fun Q K => k_lin fun W K => ?_
    iterate 2 refine l_op 0 rfl rfl rfl rfl rfl ?_
    refine l_cmp rfl rfl rfl rfl ?_
    refine l_nil (WK.nx ‹_› (SeqK.nx ‹_› ?_))
    refine l_cond rfl rfl (fun hc2 => ?_) (fun hc2 => ?_)
    · first | replace hc2 := eq_of_beq ((irr_eq _).symm.trans hc2) | simp only [irr_eq, beq_iff_eq, beq_eq_false_iff_ne, ne_eq, decide_eq_true_eq, decide_eq_false_iff_not] at hc2
      refine k_seq fun Q K => k_lin fun W K => ?_
      iterate 2 refine l_op 0 rfl rfl rfl rfl rfl ?_
      refine l_appx (es := 2) F 0 rfl rfl rfl rfl rfl rfl rfl (.inl rfl) rfl rfl (F.has 1 rfl) hone rfl (by omega) hD (fun x2 c2 s hx2 F => ?_)
      (try dsimp only [n_1, n_2, n_3, n_4, List.append_nil, pk, n_5, n_6] at F)
      refine l_op 0 rfl rfl rfl rfl rfl ?_
      refine l_nil (WK.nx ‹_› (SeqK.nx ‹_› (k_ret (SeqK.rt ‹_› ?_))))
      refine FunK.rt (by assumption) rfl ?_
      -- leaf 1
      have hb0 : bl = [] := List.eq_nil_of_length_eq_zero (by omega)
      subst hb0
      have F' : Facts O σ s [own x2 (n + 1) c2 2 (rows eB [] ++ eB x)] := F.pick [0] (by decide)
      have he : rows eB ([].take i.toNat ++ x :: [].drop i.toNat) = rows eB [] ++ eB x := by simp [rows]
      exact ⟨(x2, c2), rfl, by rw [he]; exact F', hx2⟩
    first | replace hc2 := ne_of_beq_false ((irr_eq _).symm.trans hc2) | simp only [irr_eq, beq_iff_eq, beq_eq_false_iff_ne, ne_eq, decide_eq_true_eq, decide_eq_false_iff_not] at hc2
    omega
  · have hrl : (rows eB bl).length = n * 2 := by rw [rows_length eB_len, hbl]
    have hle := Nat.mul_le_mul_right 2 (show i.toNat ≤ n by omega)
    refine k_fun Tryz.func152 rfl (m := 95) rfl fun B hD Q K => ?_
    refine k_seq fun Q K => k_lin fun W K => ?_
    refine l_op 0 rfl rfl rfl rfl rfl ?_
    refine l_nil (WK.nx ‹_› (SeqK.nx ‹_› ?_))
    refine k_seq fun Q K => k_lin fun W K => ?_
    iterate 2 refine l_op 0 rfl rfl rfl rfl rfl ?_
    first | refine l_sl (es := 2) rfl rfl rfl rfl rfl rfl rfl rfl rfl (F.old (by assumption)) (by omega) ?_ | refine l_sl (es := 2) rfl rfl rfl rfl rfl rfl rfl rfl rfl (F.has 0 rfl) (by omega) ?_ | refine l_sl (es := 2) rfl rfl rfl rfl rfl rfl rfl rfl rfl (F.has 1 rfl) (by omega) ?_ | refine l_sl (es := 2) rfl rfl rfl rfl rfl rfl rfl rfl rfl (F.has 2 rfl) (by omega) ?_ | refine l_sl (es := 2) rfl rfl rfl rfl rfl rfl rfl rfl rfl (F.has 3 rfl) (by omega) ?_
    refine l_nil (WK.nx ‹_› (SeqK.nx ‹_› ?_))
    refine k_seq fun Q K => k_lin fun W K => ?_
    refine l_op 0 rfl rfl rfl rfl rfl ?_
    first | refine l_op 2 rfl rfl rfl rfl rfl ?_ | refine l_ln rfl rfl rfl rfl ?_
    refine l_op 0 rfl rfl rfl rfl rfl ?_
    refine l_nil (WK.nx ‹_› (SeqK.nx ‹_› ?_))
    refine k_seq fun Q K => k_seq fun Q K => k_lin fun W K => ?_
    refine l_op 0 rfl rfl rfl rfl rfl ?_
    refine l_cmp rfl rfl rfl rfl ?_
    refine l_nil (WK.nx ‹_› (SeqK.nx ‹_› ?_))
    refine l_cond rfl rfl (fun hc1 => ?_) (fun hc1 => ?_)
    · first | replace hc1 := eq_of_beq ((irr_eq _).symm.trans hc1) | simp only [irr_eq, beq_iff_eq, beq_eq_false_iff_ne, ne_eq, decide_eq_true_eq, decide_eq_false_iff_not] at hc1
      omega
    first | replace hc1 := ne_of_beq_false ((irr_eq _).symm.trans hc1) | simp only [irr_eq, beq_iff_eq, beq_eq_false_iff_ne, ne_eq, decide_eq_true_eq, decide_eq_false_iff_not] at hc1
    refine k_skip (SeqK.nx ‹_› ?_)
    refine k_seq fun Q K => k_lin fun W K => ?_
    refine l_op 0 rfl rfl rfl rfl rfl ?_
    first | refine l_op 2 rfl rfl rfl rfl rfl ?_ | refine l_ln rfl rfl rfl rfl ?_
    refine l_op 0 rfl rfl rfl rfl rfl ?_
    refine l_nil (WK.nx ‹_› (SeqK.nx ‹_› ?_))
    refine k_seq fun Q K => k_seq fun Q K => k_lin fun W K => ?_
    iterate 2 refine l_op 0 rfl rfl rfl rfl rfl ?_
    refine l_cmp rfl rfl rfl rfl ?_
    refine l_nil (WK.nx ‹_› (SeqK.nx ‹_› ?_))
    refine l_cond rfl rfl (fun hc2 => ?_) (fun hc2 => ?_)
    · first | replace hc2 := eq_of_beq ((irr_eq _).symm.trans hc2) | simp only [irr_eq, beq_iff_eq, beq_eq_false_iff_ne, ne_eq, decide_eq_true_eq, decide_eq_false_iff_not] at hc2
      refine k_seq fun Q K => k_lin fun W K => ?_
      iterate 2 refine l_op 0 rfl rfl rfl rfl rfl ?_
      refine l_appx (es := 2) F 0 rfl rfl rfl rfl rfl rfl rfl (.inr ⟨_, rfl⟩) rfl rfl (F.has 1 rfl) hone rfl (by omega) hD (fun x2 c2 s hx2 F => ?_)
      (try dsimp only [n_1, n_2, n_3, n_4, List.append_nil, pk, n_5, n_6] at F)
      refine l_op 0 rfl rfl rfl rfl rfl ?_
      refine l_nil (WK.nx ‹_› (SeqK.nx ‹_› (k_ret (SeqK.rt ‹_› ?_))))
      refine FunK.rt (by assumption) rfl ?_
      -- leaf 1
      have hc : bl.take i.toNat ++ x :: bl.drop i.toNat = bl ++ [x] := by rw [List.take_of_length_le (by omega), List.drop_of_length_le (by omega)]
      exact ⟨(x2, c2), rfl, by rw [hc, rows_append, hr]; exact F.pick [0] (by decide), hx2⟩
    first | replace hc2 := ne_of_beq_false ((irr_eq _).symm.trans hc2) | simp only [irr_eq, beq_iff_eq, beq_eq_false_iff_ne, ne_eq, decide_eq_true_eq, decide_eq_false_iff_not] at hc2
    refine k_skip (SeqK.nx ‹_› ?_)
    refine k_seq fun Q K => k_seq fun Q K => k_lin fun W K => ?_
    iterate 2 refine l_op 0 rfl rfl rfl rfl rfl ?_
    (first | refine l_a64 rfl rfl rfl (by omega) rfl ?_ | refine l_a32 rfl rfl rfl (by omega) rfl ?_ | refine l_a8 rfl rfl rfl (by omega) rfl ?_ | refine l_au64 rfl rfl rfl (by omega) rfl ?_ | refine l_op 1 rfl rfl rfl rfl rfl ?_)
    refine l_op 0 rfl rfl rfl rfl rfl ?_
    first | refine l_op 2 rfl rfl rfl rfl rfl ?_ | refine l_cp0 rfl rfl rfl rfl ?_
    refine l_cmp rfl rfl rfl rfl ?_
    refine l_nil (WK.nx ‹_› (SeqK.nx ‹_› ?_))
    refine l_cond rfl rfl (fun hc3 => ?_) (fun hc3 => ?_)
    · replace hc3 := of_decide_eq_true ((irr_eq _).symm.trans hc3)
      refine k_seq fun Q K => k_lin fun W K => ?_
      iterate 2 refine l_op 0 rfl rfl rfl rfl rfl ?_
      first | refine l_slh (es := 2) rfl rfl rfl rfl rfl ⟨rfl, _, _, rfl, by omega, rfl⟩ (F.old (by assumption)) (by omega) ?_ | refine l_slh (es := 2) rfl rfl rfl rfl rfl ⟨rfl, _, _, rfl, by omega, rfl⟩ (F.has 0 rfl) (by omega) ?_ | refine l_slh (es := 2) rfl rfl rfl rfl rfl ⟨rfl, _, _, rfl, by omega, rfl⟩ (F.has 1 rfl) (by omega) ?_ | refine l_slh (es := 2) rfl rfl rfl rfl rfl ⟨rfl, _, _, rfl, by omega, rfl⟩ (F.has 2 rfl) (by omega) ?_ | refine l_slh (es := 2) rfl rfl rfl rfl rfl ⟨rfl, _, _, rfl, by omega, rfl⟩ (F.has 3 rfl) (by omega) ?_
      iterate 2 refine l_op 0 rfl rfl rfl rfl rfl ?_
      (first | refine l_a64 rfl rfl rfl (by omega) rfl ?_ | refine l_a32 rfl rfl rfl (by omega) rfl ?_ | refine l_a8 rfl rfl rfl (by omega) rfl ?_ | refine l_au64 rfl rfl rfl (by omega) rfl ?_ | refine l_op 1 rfl rfl rfl rfl rfl ?_)
      refine l_op 0 rfl rfl rfl rfl rfl ?_
      (first | refine l_a64 rfl rfl rfl (by omega) rfl ?_ | refine l_a32 rfl rfl rfl (by omega) rfl ?_ | refine l_a8 rfl rfl rfl (by omega) rfl ?_ | refine l_au64 rfl rfl rfl (by omega) rfl ?_ | refine l_op 1 rfl rfl rfl rfl rfl ?_)
      refine l_appz (es := 2) F rfl rfl rfl rfl rfl rfl (.inr ⟨_, rfl⟩) ((F.has 0 rfl).upto (by omega)) rfl (by omega) (by omega) rfl (by omega) (fun q2 c2 s F => ?_)
      (try dsimp only [n_1, n_2, n_3, n_4, List.append_nil, pk, n_5, n_6] at F)
      refine l_op 0 rfl rfl rfl rfl rfl ?_
      refine l_nil (WK.nx ‹_› (SeqK.nx ‹_› ?_))
      refine k_seq fun Q K => k_lin fun W K => ?_
      iterate 2 refine l_op 0 rfl rfl rfl rfl rfl ?_
      first | refine l_sl (es := 2) rfl rfl rfl rfl rfl rfl rfl rfl rfl (F.old (by assumption)) (by omega) ?_ | refine l_sl (es := 2) rfl rfl rfl rfl rfl rfl rfl rfl rfl (F.has 0 rfl) (by omega) ?_ | refine l_sl (es := 2) rfl rfl rfl rfl rfl rfl rfl rfl rfl (F.has 1 rfl) (by omega) ?_ | refine l_sl (es := 2) rfl rfl rfl rfl rfl rfl rfl rfl rfl (F.has 2 rfl) (by omega) ?_ | refine l_sl (es := 2) rfl rfl rfl rfl rfl rfl rfl rfl rfl (F.has 3 rfl) (by omega) ?_
      refine l_op 0 rfl rfl rfl rfl rfl ?_
      refine l_cpo (es := 2) F 2 rfl rfl rfl rfl rfl rfl rfl (F.has 1 rfl) (all_take hone _) (by dsimp only; omega) hD (fun s F => ?_)
      (try dsimp only [n_1, n_2, n_3, n_4, List.append_nil, pk, n_5, n_6] at F)
      have x1 : (eB x).take (min 1 (i.toNat + ((n : Int) + 1 - i).toNat - i.toNat) * 2) = eB x := List.take_of_length_le (by rw [eB_len]; omega)
      have x3 : 0 + i.toNat * 2 = i.toNat * 2 := by omega
      rw [x3] at F
      simp only [Int.natCast_one] at F
      rw [x1] at F
      refine l_nil (WK.nx ‹_› (SeqK.nx ‹_› ?_))
      refine k_seq fun Q K => ?_
      refine k_linr mixed (by kernel_rfl) (fun W K => ?_)
      try have hpS := F.pns
      iterate 3 refine l_op 0 rfl rfl rfl rfl rfl ?_
      (first | refine l_a64 rfl rfl rfl (by omega) rfl ?_ | refine l_a32 rfl rfl rfl (by omega) rfl ?_ | refine l_a8 rfl rfl rfl (by omega) rfl ?_ | refine l_au64 rfl rfl rfl (by omega) rfl ?_ | refine l_op 1 rfl rfl rfl rfl rfl ?_)
      first | refine l_sl (es := 2) rfl rfl rfl rfl rfl rfl rfl rfl rfl (F.old (by assumption)) (by omega) ?_ | refine l_sl (es := 2) rfl rfl rfl rfl rfl rfl rfl rfl rfl (F.has 0 rfl) (by omega) ?_ | refine l_sl (es := 2) rfl rfl rfl rfl rfl rfl rfl rfl rfl (F.has 1 rfl) (by omega) ?_ | refine l_sl (es := 2) rfl rfl rfl rfl rfl rfl rfl rfl rfl (F.has 2 rfl) (by omega) ?_ | refine l_sl (es := 2) rfl rfl rfl rfl rfl rfl rfl rfl rfl (F.has 3 rfl) (by omega) ?_
      iterate 2 refine l_op 0 rfl rfl rfl rfl rfl ?_
      first | refine l_sl (es := 2) rfl rfl rfl rfl rfl rfl rfl rfl rfl (F.old (by assumption)) (by omega) ?_ | refine l_sl (es := 2) rfl rfl rfl rfl rfl rfl rfl rfl rfl (F.has 0 rfl) (by omega) ?_ | refine l_sl (es := 2) rfl rfl rfl rfl rfl rfl rfl rfl rfl (F.has 1 rfl) (by omega) ?_ | refine l_sl (es := 2) rfl rfl rfl rfl rfl rfl rfl rfl rfl (F.has 2 rfl) (by omega) ?_ | refine l_sl (es := 2) rfl rfl rfl rfl rfl rfl rfl rfl rfl (F.has 3 rfl) (by omega) ?_
      refine l_cpo (es := 2) F 2 rfl rfl rfl rfl rfl rfl rfl ((F.has 0 rfl).part (lo := i.toNat) (hi := n) (by omega) (by omega)) (all_take (all_take (all_drop (eB_one bl) _) _) _) (by dsimp only; omega) hD (fun s F => ?_)
      (try dsimp only [n_1, n_2, n_3, n_4, List.append_nil, pk, n_5, n_6] at F)
      have x2 : (((rows eB bl).drop (i.toNat * 2)).take ((n - i.toNat) * 2)).take (min (n - i.toNat) (i.toNat + ((n : Int) + 1 - i).toNat - (i + 1).toNat) * 2) = (rows eB bl).drop (i.toNat * 2) := by
        rw [List.take_of_length_le (l := (rows eB bl).drop (i.toNat * 2)) (by rw [List.length_drop, hrl]; omega), List.take_of_length_le (by rw [List.length_drop, hrl]; omega)]
      have x4 : 0 + (i + 1).toNat * 2 = i.toNat * 2 + (eB x).length := by rw [eB_len]; omega
      simp only [Int.natCast_one] at F
      rw [x2, x4, splice_mid (by omega) (by rw [zrow_length, hrl]; simp only [List.length_cons, List.length_nil]; omega), rows_mid] at F
      refine l_nil (WK.nx ‹_› (SeqK.nx ‹_› ?_))
      refine k_seq fun Q K => k_lin fun W K => ?_
      iterate 2 refine l_op 0 rfl rfl rfl rfl rfl ?_
      refine l_nil (WK.nx ‹_› (SeqK.nx ‹_› (k_ret (SeqK.rt ‹_› ?_))))
      refine FunK.rt (by assumption) rfl ?_
      -- leaf 2
      have hl : i.toNat + ((n : Int) + 1 - i).toNat = n + 1 := by omega
      simp only [Int.natCast_one] at F ⊢
      rw [hl] at F ⊢
      exact ⟨(some ⟨q2, 0, some 0⟩, c2), rfl, F.pick [2] (by decide), .inr ⟨_, rfl⟩⟩
    replace hc3 := of_decide_eq_false ((irr_eq _).symm.trans hc3)
    refine k_skip (SeqK.nx ‹_› ?_)
    refine k_seq fun Q K => k_lin fun W K => ?_
    iterate 3 refine l_op 0 rfl rfl rfl rfl rfl ?_
    (first | refine l_a64 rfl rfl rfl (by omega) rfl ?_ | refine l_a32 rfl rfl rfl (by omega) rfl ?_ | refine l_a8 rfl rfl rfl (by omega) rfl ?_ | refine l_au64 rfl rfl rfl (by omega) rfl ?_ | refine l_op 1 rfl rfl rfl rfl rfl ?_)
    obtain ⟨ws, hws, F⟩ := F.more 0 rfl (h := n + 1) (by omega) (by omega)
    (try dsimp only [n_1, n_2, n_3, n_4, List.append_nil, pk, n_5, n_6] at F)
    refine l_slh (es := 2) rfl rfl rfl rfl rfl ⟨rfl, _, _, rfl, by omega, rfl⟩ (F.has 0 rfl) (by omega) ?_
    refine l_op 0 rfl rfl rfl rfl rfl ?_
    refine l_nil (WK.nx ‹_› (SeqK.nx ‹_› ?_))
    refine k_seq fun Q K => k_seq fun Q K => k_lin fun W K => ?_
    iterate 4 refine l_op 0 rfl rfl rfl rfl rfl ?_
    (first | refine l_a64 rfl rfl rfl (by omega) rfl ?_ | refine l_a32 rfl rfl rfl (by omega) rfl ?_ | refine l_a8 rfl rfl rfl (by omega) rfl ?_ | refine l_au64 rfl rfl rfl (by omega) rfl ?_ | refine l_op 1 rfl rfl rfl rfl rfl ?_)
    first | refine l_sl (es := 2) rfl rfl rfl rfl rfl rfl rfl rfl rfl (F.old (by assumption)) (by omega) ?_ | refine l_sl (es := 2) rfl rfl rfl rfl rfl rfl rfl rfl rfl (F.has 0 rfl) (by omega) ?_ | refine l_sl (es := 2) rfl rfl rfl rfl rfl rfl rfl rfl rfl (F.has 1 rfl) (by omega) ?_ | refine l_sl (es := 2) rfl rfl rfl rfl rfl rfl rfl rfl rfl (F.has 2 rfl) (by omega) ?_ | refine l_sl (es := 2) rfl rfl rfl rfl rfl rfl rfl rfl rfl (F.has 3 rfl) (by omega) ?_
    refine l_ovl (tS := 39) (tR := 4) (te := 99) (sz := 2) F rfl rfl Tryz.func174 ⟨⟨by kernel_rfl, by kernel_rfl⟩, by kernel_rfl⟩ (by kernel_rfl) rfl rfl rfl rfl (k1 := 1) (k2 := 0) rfl rfl (by decide) (by decide) (by omega) ?_
    refine l_op 2 rfl rfl rfl rfl rfl ?_
    refine l_nil (WK.nx ‹_› (SeqK.nx ‹_› ?_))
    refine l_cond rfl rfl (fun hc4 => ?_) (fun hc4 => ?_)
    · try simp only [i_1, i_2, i_3, i_4, i_5, ne_eq, i_6, i_7, i_8, i_9] at hc4
      refine k_seq fun Q K => ?_
      refine k_linr mixed (by kernel_rfl) (fun W K => ?_)
      try have hpS := F.pns
      iterate 3 refine l_op 0 rfl rfl rfl rfl rfl ?_
      (first | refine l_a64 rfl rfl rfl (by omega) rfl ?_ | refine l_a32 rfl rfl rfl (by omega) rfl ?_ | refine l_a8 rfl rfl rfl (by omega) rfl ?_ | refine l_au64 rfl rfl rfl (by omega) rfl ?_ | refine l_op 1 rfl rfl rfl rfl rfl ?_)
      first | refine l_sl (es := 2) rfl rfl rfl rfl rfl rfl rfl rfl rfl (F.old (by assumption)) (by omega) ?_ | refine l_sl (es := 2) rfl rfl rfl rfl rfl rfl rfl rfl rfl (F.has 0 rfl) (by omega) ?_ | refine l_sl (es := 2) rfl rfl rfl rfl rfl rfl rfl rfl rfl (F.has 1 rfl) (by omega) ?_ | refine l_sl (es := 2) rfl rfl rfl rfl rfl rfl rfl rfl rfl (F.has 2 rfl) (by omega) ?_ | refine l_sl (es := 2) rfl rfl rfl rfl rfl rfl rfl rfl rfl (F.has 3 rfl) (by omega) ?_
      iterate 2 refine l_op 0 rfl rfl rfl rfl rfl ?_
      first | refine l_sl (es := 2) rfl rfl rfl rfl rfl rfl rfl rfl rfl (F.old (by assumption)) (by omega) ?_ | refine l_sl (es := 2) rfl rfl rfl rfl rfl rfl rfl rfl rfl (F.has 0 rfl) (by omega) ?_ | refine l_sl (es := 2) rfl rfl rfl rfl rfl rfl rfl rfl rfl (F.has 1 rfl) (by omega) ?_ | refine l_sl (es := 2) rfl rfl rfl rfl rfl rfl rfl rfl rfl (F.has 2 rfl) (by omega) ?_ | refine l_sl (es := 2) rfl rfl rfl rfl rfl rfl rfl rfl rfl (F.has 3 rfl) (by omega) ?_
      have y1 : (((rows eB bl ++ ws).drop (i.toNat * 2)).take ((n + 1 - i.toNat) * 2)).take (min (((n : Int) + (1 : Nat)).toNat - i.toNat) (((n : Int) + (1 : Nat)).toNat - (i + (1 : Nat)).toNat) * 2) = (rows eB bl).drop (i.toNat * 2) := by
        rw [List.take_take, List.drop_append_of_le_length (by omega), List.take_append_of_le_length (by rw [List.length_drop, hrl]; omega), List.take_of_length_le (by rw [List.length_drop, hrl]; omega)]
      refine l_cpo (es := 2) F 0 rfl rfl rfl rfl rfl rfl rfl ((F.has 0 rfl).part (lo := i.toNat) (hi := n + 1) (by omega) (by omega)) (by rw [y1]; exact all_drop (eB_one bl) _) (by dsimp only; omega) hD (fun s F => ?_)
      (try dsimp only [n_1, n_2, n_3, n_4, List.append_nil, pk, n_5, n_6] at F)
      rw [y1] at F
      refine l_nil (WK.nx ‹_› (SeqK.nx ‹_› ?_))
      refine k_seq fun Q K => k_lin fun W K => ?_
      iterate 2 refine l_op 0 rfl rfl rfl rfl rfl ?_
      first | refine l_sl (es := 2) rfl rfl rfl rfl rfl rfl rfl rfl rfl (F.old (by assumption)) (by omega) ?_ | refine l_sl (es := 2) rfl rfl rfl rfl rfl rfl rfl rfl rfl (F.has 0 rfl) (by omega) ?_ | refine l_sl (es := 2) rfl rfl rfl rfl rfl rfl rfl rfl rfl (F.has 1 rfl) (by omega) ?_ | refine l_sl (es := 2) rfl rfl rfl rfl rfl rfl rfl rfl rfl (F.has 2 rfl) (by omega) ?_ | refine l_sl (es := 2) rfl rfl rfl rfl rfl rfl rfl rfl rfl (F.has 3 rfl) (by omega) ?_
      refine l_op 0 rfl rfl rfl rfl rfl ?_
      refine l_cpo (es := 2) F 0 rfl rfl rfl rfl rfl rfl rfl (F.has 1 rfl) (all_take hone _) (by dsimp only; omega) hD (fun s F => ?_)
      (try dsimp only [n_1, n_2, n_3, n_4, List.append_nil, pk, n_5, n_6] at F)
      have y2 : (eB x).take (min 1 (((n : Int) + (1 : Nat)).toNat - i.toNat) * 2) = eB x := List.take_of_length_le (by rw [eB_len]; omega)
      have y3 : 0 + i.toNat * 2 = i.toNat * 2 := by omega
      have y4 : 0 + (i + (1 : Nat)).toNat * 2 = i.toNat * 2 + (eB x).length := by rw [eB_len]; omega
      rw [y2, y3, y4, splice_mid2 (by omega) (by rw [hws, eB_len]; omega), rows_mid] at F
      refine l_nil (WK.nx ‹_› (SeqK.nx ‹_› ?_))
      refine k_seq fun Q K => k_lin fun W K => ?_
      iterate 2 refine l_op 0 rfl rfl rfl rfl rfl ?_
      refine l_nil (WK.nx ‹_› (SeqK.nx ‹_› (k_ret (SeqK.rt ‹_› ?_))))
      refine FunK.rt (by assumption) rfl ?_
      -- leaf 3
      have hl : ((n : Int) + (1 : Nat)).toNat = n + 1 := by omega
      rw [hl]
      exact ⟨(some ⟨m0, 0, some 0⟩, c), rfl, F.pick [0] (by decide), .inr ⟨_, rfl⟩⟩
    cases hc4

end Go.Proofs.YtocfmecenpeoiaaGreat
