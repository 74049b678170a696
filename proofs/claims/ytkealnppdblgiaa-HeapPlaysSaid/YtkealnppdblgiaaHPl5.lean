/- The document's heap: a block is asked for. No statement of the seat is proved in this text. -/
import Derived.Test.YtkealnppdblgiaaHPl4
set_option linter.unusedVariables false
set_option linter.unusedSimpArgs false
set_option maxRecDepth 100000
set_option maxHeartbeats 4000000
-- macs
namespace Go.Proofs.Ytkealnppdblgiaa
open GAb Go

theorem freeB_iff {L : List (Int × Int)} {a n : Int} : freeB L a n = true ↔ freeAt L a n := by
  unfold freeB freeAt
  rw [List.all_eq_true]
  constructor
  · intro h b hb hc
    have := h b hb
    simp only [Bool.not_eq_true', Bool.and_eq_false_iff, decide_eq_false_iff_not] at this
    omega
  · intro h b hb
    have := h b hb
    simp only [Bool.not_eq_true', Bool.and_eq_false_iff, decide_eq_false_iff_not]
    omega
theorem freeAt_perm {L bl : List (Int × Int)} (hP : L.Perm bl) {a n : Int} : freeAt L a n ↔ freeAt bl a n :=
  ⟨fun h b hb => h b (hP.mem_iff.2 hb), fun h b hb => h b (hP.mem_iff.1 hb)⟩
def lstep (L : List (Int × Int)) (n acc : Int) (b : Int × Int) : Int := if (acc < 0 ∨ b.1 + b.2 < acc) ∧ freeB L (b.1 + b.2) n = true then b.1 + b.2 else acc
/-- The least free place among the start and the ends. -/
def lfR (L : List (Int × Int)) (n st : Int) (xs : List (Int × Int)) : Int := xs.foldl (lstep L n) (if freeB L st n = true then st else -1)
theorem lfR_take {L xs : List (Int × Int)} {n st : Int} {i : Nat} (h : i < xs.length) : lfR L n st (xs.take (i + 1)) = lstep L n (lfR L n st (xs.take i)) (xs.getD i default) := by
  unfold lfR
  rw [List.take_succ_eq_append_getElem h, List.foldl_append]
  simp [List.getD, h]
def LInv (L : List (Int × Int)) (n acc : Int) (S : Int → Prop) : Prop := (acc < 0 → ∀ a, S a → ¬ freeAt L a n) ∧ (0 ≤ acc → S acc ∧ freeAt L acc n ∧ ∀ a, S a → freeAt L a n → acc ≤ a)
theorem linv_step {L : List (Int × Int)} {n acc : Int} {S : Int → Prop} (h : LInv L n acc S) {b : Int × Int} (hb : 0 ≤ b.1 + b.2) : LInv L n (lstep L n acc b) (fun a => S a ∨ a = b.1 + b.2) := by
  obtain ⟨h1, h2⟩ := h
  unfold lstep
  split
  · rename_i hc
    obtain ⟨hc1, hc2⟩ := hc
    rw [freeB_iff] at hc2
    refine ⟨fun hn => by omega, fun _ => ⟨.inr rfl, hc2, fun a ha hf => ?_⟩⟩
    rcases ha with ha | rfl
    · by_cases hneg : acc < 0
      · exact absurd hf (h1 hneg a ha)
      · have := (h2 (by omega)).2.2 a ha hf
        omega
    · exact Int.le_refl _
  · rename_i hc
    refine ⟨fun hn a ha => ?_, fun hp => ⟨.inl (h2 hp).1, (h2 hp).2.1, fun a ha hf => ?_⟩⟩
    · rcases ha with ha | rfl
      · exact h1 hn a ha
      · intro hf
        exact hc ⟨.inl hn, freeB_iff.2 hf⟩
    · rcases ha with ha | rfl
      · exact (h2 hp).2.2 a ha hf
      · by_cases hlt : b.1 + b.2 < acc
        · exact absurd ⟨.inr hlt, freeB_iff.2 hf⟩ hc
        · omega
theorem linv_fold {L : List (Int × Int)} {n : Int} : ∀ (xs : List (Int × Int)) (acc : Int) (S : Int → Prop), (∀ b ∈ xs, 0 ≤ b.1 + b.2) → LInv L n acc S → LInv L n (xs.foldl (lstep L n) acc) (fun a => S a ∨ ∃ b ∈ xs, a = b.1 + b.2)
  | [], acc, S, _, h => by
    have e : (fun a => S a ∨ ∃ b ∈ ([] : List (Int × Int)), a = b.1 + b.2) = S := by funext a; simp
    rw [e]; exact h
  | b :: xs, acc, S, hb, h => by
    have h1 := linv_step h (hb b (by simp))
    have h2 := linv_fold xs (lstep L n acc b) _ (fun x hx => hb x (by simp [hx])) h1
    have e : (fun a => (S a ∨ a = b.1 + b.2) ∨ ∃ x ∈ xs, a = x.1 + x.2) = (fun a => S a ∨ ∃ x ∈ b :: xs, a = x.1 + x.2) := by
      funext a
      simp only [List.mem_cons, exists_eq_or_imp, or_assoc]
    rw [e] at h2
    exact h2
theorem linv_all {L : List (Int × Int)} {n st : Int} (hs : 0 ≤ st) (xs : List (Int × Int)) (hb : ∀ b ∈ xs, 0 ≤ b.1 + b.2) : LInv L n (lfR L n st xs) (fun a => a = st ∨ ∃ b ∈ xs, a = b.1 + b.2) := by
  unfold lfR
  refine linv_fold xs _ (fun a => a = st) hb ?_
  split
  · rename_i hf
    exact ⟨fun h => by omega, fun _ => ⟨rfl, freeB_iff.1 hf, fun a ha _ => by omega⟩⟩
  · rename_i hf
    exact ⟨fun _ a ha hf' => hf (freeB_iff.2 (by rw [ha] at hf'; exact hf')), fun h => by omega⟩
/-- It is the place that the program finds. -/
theorem lfR_place {L bl : List (Int × Int)} (hP : L.Perm bl) {en n st : Int} (hn : 0 < n) (hB : BlkOK bl) (hs : 0 ≤ st) (hr : rightL en st bl = true) : lfR L n st L = (placeR n st bl).1 := by
  have hb : ∀ b ∈ L, 0 ≤ b.1 + b.2 := fun b hb => by
    obtain ⟨⟨a1, _⟩, ⟨a3, _⟩⟩ := hB b (hP.mem_iff.1 hb)
    omega
  obtain ⟨i1, i2⟩ := linv_all (n := n) hs L hb
  obtain ⟨p1, p2, p3⟩ := placeR_spec hn hB hr
  have hcand : ∀ a, (a = st ∨ ∃ b ∈ L, a = b.1 + b.2) ↔ (a = st ∨ ∃ b ∈ bl, a = b.1 + b.2) := fun a => by
    constructor
    · rintro (h | ⟨b, hb, h⟩)
      · exact .inl h
      · exact .inr ⟨b, hP.mem_iff.1 hb, h⟩
    · rintro (h | ⟨b, hb, h⟩)
      · exact .inl h
      · exact .inr ⟨b, hP.mem_iff.2 hb, h⟩
  have hpf := (freeAt_perm hP).2 p2
  by_cases hneg : lfR L n st L < 0
  · exact absurd hpf (i1 hneg _ ((hcand _).2 p1))
  · obtain ⟨j1, j2, j3⟩ := i2 (by omega)
    have h1 := j3 _ ((hcand _).2 p1) hpf
    have h2 := p3 _ ((hcand _).1 j1) ((freeAt_perm hP).1 j2)
    omega
theorem perm_ins {L bl : List (Int × Int)} (hP : L.Perm bl) (i : Int) (x : Int × Int) : (L ++ [x]).Perm (ins bl i x) := by
  unfold ins
  have h1 : (L ++ [x]).Perm (x :: L) := List.perm_append_comm
  have h2 : (x :: L).Perm (x :: bl) := hP.cons x
  have h3 : (bl.take i.toNat ++ x :: bl.drop i.toNat).Perm (x :: (bl.take i.toNat ++ bl.drop i.toNat)) := List.perm_middle
  rw [List.take_append_drop] at h3
  exact h1.trans (h2.trans h3.symm)
theorem lst_yes {L : List (Int × Int)} {n acc : Int} {b : Int × Int} (h : acc < 0 ∨ b.1 + b.2 < acc) (hf : freeB L (b.1 + b.2) n = true) : lstep L n acc b = b.1 + b.2 := if_pos ⟨h, hf⟩
theorem lst_no1 {L : List (Int × Int)} {n acc : Int} {b : Int × Int} (h1 : ¬ acc < 0) (h2 : ¬ b.1 + b.2 < acc) : lstep L n acc b = acc := if_neg (fun h => by omega)
theorem lst_no2 {L : List (Int × Int)} {n acc : Int} {b : Int × Int} (hf : freeB L (b.1 + b.2) n = false) : lstep L n acc b = acc := if_neg (fun h => by rw [hf] at h; cases h.2)

def MG (most st en : Int) (bl L : List (Int × Int)) (n e sv tv : Int) : Prop :=
  U32 sv ∧ U32 tv ∧ tv ≤ most ∧ lfR L n sv L = (placeR n sv bl).1 ∧ mallocR most st en bl n e = mallocA most st en sv tv bl n ∧ 0 ≤ (placeR n sv bl).1 ∧ (placeR n sv bl).1 ≤ tv
/-- The document's Malloc, where the program's blocks are the same ones. -/
theorem rmalloc_call {O : Nat → Prop} {σ : AState} {m c : Nat} {a : Option Addr} {most st en n e : Int} {L bl : List (Int × Int)} (F : Facts O σ σ (rF m a c most st en L)) (hP : L.Perm bl) (hok : HOK most st en bl) (hm : U32 most) (hu : U32 n) (hv : U32 e) :
    SCall Try.prog O 34 [.pointer (some ⟨m, 0, none⟩), .int .u32 n, .int .u32 e] σ (Ret O σ (fun (_ : Option Addr × Nat × List (Int × Int)) => mV (mallocR most st en bl n e)) (fun y => rF m y.1 y.2.1 most (mallocR most st en bl n e).st (mallocR most st en bl n e).en y.2.2) fun y => y.2.2.Perm (mallocR most st en bl n e).bl) := by
  obtain ⟨m0, m1⟩ := hm
  have hu' := hu
  obtain ⟨n0, n1⟩ := hu
  obtain ⟨v0, v1⟩ := hv
  have hlen : L.length = bl.length := hP.length_eq
  have hl4 := hok.len
  obtain ⟨s0, s1⟩ := hok.ust
  obtain ⟨e0, e1⟩ := hok.uen
  have hBL : BlkOK L := fun x hx => hok.blk x (hP.mem_iff.1 hx)
  refine k_fun Try.func34 rfl (m := 152) rfl fun B hD Q K => ?_
  refine k_seq (fun Q K => ?_)
  refine k_lin (fun W K => ?_)
  refine l_op 0 rfl rfl rfl rfl rfl ?_
  refine l_op 0 rfl rfl rfl rfl rfl ?_
  refine l_nil (WK.nx (by assumption) ?_)
  refine SeqK.nx (by assumption) ?_
  refine k_seq (fun Q K => ?_)
  refine k_seq (fun Q K => ?_)
  refine k_lin (fun W K => ?_)
  refine l_op 0 rfl rfl rfl rfl rfl ?_
  refine l_cmp rfl rfl rfl rfl ?_
  refine l_op 0 rfl rfl rfl rfl rfl ?_
  refine l_guard rfl rfl rfl (fun hc1 => ?_) (fun hc1 => ?_)
  · first | replace hc1 := eq_of_beq ((irr_eq _).symm.trans hc1) | simp only [irr_eq, beq_iff_eq, beq_eq_false_iff_ne, ne_eq, decide_eq_true_eq, decide_eq_false_iff_not] at hc1
    refine l_s rfl rfl ?_
    refine l_s rfl rfl ?_
    refine l_s rfl rfl ?_
    refine l_s rfl rfl ?_
    refine l_s rfl rfl ?_
    refine l_s rfl rfl ?_
    refine l_op 2 rfl rfl rfl rfl rfl ?_
    refine l_nil (WK.nx (by assumption) ?_)
    refine SeqK.nx (by assumption) ?_
    first | refine e_cond_t rfl rfl rfl ?_ | refine e_cond_t rfl rfl (by rw [irr_eq]; first | exact beq_iff_eq.2 (by assumption) | exact decide_eq_true (by assumption) | exact bne_iff_ne.2 (by assumption)) ?_
    refine k_seq (fun Q K => ?_)
    refine k_lin (fun W K => ?_)
    refine l_op 0 rfl rfl rfl rfl rfl ?_
    refine l_op 0 rfl rfl rfl rfl rfl ?_
    refine l_nil (WK.nx (by assumption) ?_)
    refine SeqK.nx (by assumption) ?_
    refine k_ret ?_
    refine SeqK.rt (by assumption) ?_
    refine FunK.rt (by assumption) rfl ?_
    -- leaf 1
    first
      | (have hr : mallocR most st en bl n e = ⟨0, false, st, en, bl⟩ := mallocR_none (by omega)
         rw [hr]; exact ⟨(a, c, L), rfl, F.pick [0, 1] (by decide), hP⟩)
      | (have hr : mallocR most st en bl n e = ⟨0, false, st, en, bl⟩ := by subst hbl; exact mallocR_none (.inr (.inr ⟨rfl, by omega⟩))
         rw [hr]; exact ⟨(a, c, L), rfl, F.pick [0, 1] (by decide), hP⟩)
      | (have hr : mallocR most st en bl n e = ⟨0, false, st, en, bl⟩ := by rw [hmr]; exact mallocA_no hix (by omega) (by omega)
         rw [hr]; exact ⟨(a, c, L), rfl, F.pick [0, 1] (by decide), hP⟩)
      | (have hr : mallocR most st en bl n e = ⟨p, true, sv, p + n + 256 - (p + n) % 256, ins bl ix (p, n)⟩ := by
           rw [hmr, mallocA_top hix (by omega) (by omega) m1]
           rw [show (p + n + 255) / 256 * 256 = p + n + 256 - (p + n) % 256 by omega]
         rw [hr]
         have hl1 : (L ++ [(p, n)]).length = 0 + L.length + 1 := by simp
         have hr1 : rows eB (L ++ [(p, n)]) = rows eB L ++ rows eB [(p, n)] := rows_append _ _ _
         refine ⟨(x147, c147, L ++ [(p, n)]), rfl, ?_, perm_ins hP _ _⟩
         show Facts O σ s [cel m (rC x147 c147 most _ _ (L ++ [(p, n)])), own x147 (L ++ [(p, n)]).length c147 2 (rows eB (L ++ [(p, n)]))]
         rw [hr1]
         unfold rC
         rw [hl1]
         exact F.pick [0, 2] (by decide))
      | (have hr : mallocR most st en bl n e = ⟨p, true, sv, p + n, ins bl ix (p, n)⟩ := by
           rw [hmr, mallocA_top hix (by omega) (by omega) m1]
           rw [show (p + n + 255) / 256 * 256 = p + n by omega]
         rw [hr]
         have hl1 : (L ++ [(p, n)]).length = 0 + L.length + 1 := by simp
         have hr1 : rows eB (L ++ [(p, n)]) = rows eB L ++ rows eB [(p, n)] := rows_append _ _ _
         refine ⟨(x147, c147, L ++ [(p, n)]), rfl, ?_, perm_ins hP _ _⟩
         show Facts O σ s [cel m (rC x147 c147 most _ _ (L ++ [(p, n)])), own x147 (L ++ [(p, n)]).length c147 2 (rows eB (L ++ [(p, n)]))]
         rw [hr1]
         unfold rC
         rw [hl1]
         exact F.pick [0, 2] (by decide))
      | (have hr : mallocR most st en bl n e = ⟨p, true, sv, tv, ins bl ix (p, n)⟩ := by
           rw [hmr, mallocA_in hix (by omega)]
         rw [hr]
         have hl1 : (L ++ [(p, n)]).length = 0 + L.length + 1 := by simp
         have hr1 : rows eB (L ++ [(p, n)]) = rows eB L ++ rows eB [(p, n)] := rows_append _ _ _
         refine ⟨(x147, c147, L ++ [(p, n)]), rfl, ?_, perm_ins hP _ _⟩
         show Facts O σ s [cel m (rC x147 c147 most _ _ (L ++ [(p, n)])), own x147 (L ++ [(p, n)]).length c147 2 (rows eB (L ++ [(p, n)]))]
         rw [hr1]
         unfold rC
         rw [hl1]
         exact F.pick [0, 2] (by decide))
  first | replace hc1 := ne_of_beq_false ((irr_eq _).symm.trans hc1) | simp only [irr_eq, beq_iff_eq, beq_eq_false_iff_ne, ne_eq, decide_eq_true_eq, decide_eq_false_iff_not] at hc1
  refine l_op 0 rfl rfl rfl rfl rfl ?_
  refine l_op 2 rfl rfl rfl rfl rfl ?_
  refine l_op 2 rfl rfl rfl rfl rfl ?_
  refine l_ldc F 0 rfl rfl rfl rfl rfl rfl rfl ?_
  first | refine l_op 2 rfl rfl rfl rfl rfl ?_ | refine l_ln rfl rfl rfl rfl ?_
  refine l_cmp rfl rfl rfl rfl ?_
  refine l_op 2 rfl rfl rfl rfl rfl ?_
  refine l_nil (WK.nx (by assumption) ?_)
  refine SeqK.nx (by assumption) ?_
  refine l_cond rfl rfl (fun hc2 => ?_) (fun hc2 => ?_)
  · replace hc2 := of_decide_eq_true ((irr_eq _).symm.trans hc2)
    refine k_seq (fun Q K => ?_)
    refine k_lin (fun W K => ?_)
    refine l_op 0 rfl rfl rfl rfl rfl ?_
    refine l_op 0 rfl rfl rfl rfl rfl ?_
    refine l_nil (WK.nx (by assumption) ?_)
    refine SeqK.nx (by assumption) ?_
    refine k_ret ?_
    refine SeqK.rt (by assumption) ?_
    refine FunK.rt (by assumption) rfl ?_
    -- leaf 2
    first
      | (have hr : mallocR most st en bl n e = ⟨0, false, st, en, bl⟩ := mallocR_none (by omega)
         rw [hr]; exact ⟨(a, c, L), rfl, F.pick [0, 1] (by decide), hP⟩)
      | (have hr : mallocR most st en bl n e = ⟨0, false, st, en, bl⟩ := by subst hbl; exact mallocR_none (.inr (.inr ⟨rfl, by omega⟩))
         rw [hr]; exact ⟨(a, c, L), rfl, F.pick [0, 1] (by decide), hP⟩)
      | (have hr : mallocR most st en bl n e = ⟨0, false, st, en, bl⟩ := by rw [hmr]; exact mallocA_no hix (by omega) (by omega)
         rw [hr]; exact ⟨(a, c, L), rfl, F.pick [0, 1] (by decide), hP⟩)
      | (have hr : mallocR most st en bl n e = ⟨p, true, sv, p + n + 256 - (p + n) % 256, ins bl ix (p, n)⟩ := by
           rw [hmr, mallocA_top hix (by omega) (by omega) m1]
           rw [show (p + n + 255) / 256 * 256 = p + n + 256 - (p + n) % 256 by omega]
         rw [hr]
         have hl1 : (L ++ [(p, n)]).length = 0 + L.length + 1 := by simp
         have hr1 : rows eB (L ++ [(p, n)]) = rows eB L ++ rows eB [(p, n)] := rows_append _ _ _
         refine ⟨(x147, c147, L ++ [(p, n)]), rfl, ?_, perm_ins hP _ _⟩
         show Facts O σ s [cel m (rC x147 c147 most _ _ (L ++ [(p, n)])), own x147 (L ++ [(p, n)]).length c147 2 (rows eB (L ++ [(p, n)]))]
         rw [hr1]
         unfold rC
         rw [hl1]
         exact F.pick [0, 2] (by decide))
      | (have hr : mallocR most st en bl n e = ⟨p, true, sv, p + n, ins bl ix (p, n)⟩ := by
           rw [hmr, mallocA_top hix (by omega) (by omega) m1]
           rw [show (p + n + 255) / 256 * 256 = p + n by omega]
         rw [hr]
         have hl1 : (L ++ [(p, n)]).length = 0 + L.length + 1 := by simp
         have hr1 : rows eB (L ++ [(p, n)]) = rows eB L ++ rows eB [(p, n)] := rows_append _ _ _
         refine ⟨(x147, c147, L ++ [(p, n)]), rfl, ?_, perm_ins hP _ _⟩
         show Facts O σ s [cel m (rC x147 c147 most _ _ (L ++ [(p, n)])), own x147 (L ++ [(p, n)]).length c147 2 (rows eB (L ++ [(p, n)]))]
         rw [hr1]
         unfold rC
         rw [hl1]
         exact F.pick [0, 2] (by decide))
      | (have hr : mallocR most st en bl n e = ⟨p, true, sv, tv, ins bl ix (p, n)⟩ := by
           rw [hmr, mallocA_in hix (by omega)]
         rw [hr]
         have hl1 : (L ++ [(p, n)]).length = 0 + L.length + 1 := by simp
         have hr1 : rows eB (L ++ [(p, n)]) = rows eB L ++ rows eB [(p, n)] := rows_append _ _ _
         refine ⟨(x147, c147, L ++ [(p, n)]), rfl, ?_, perm_ins hP _ _⟩
         show Facts O σ s [cel m (rC x147 c147 most _ _ (L ++ [(p, n)])), own x147 (L ++ [(p, n)]).length c147 2 (rows eB (L ++ [(p, n)]))]
         rw [hr1]
         unfold rC
         rw [hl1]
         exact F.pick [0, 2] (by decide))
  replace hc2 := of_decide_eq_false ((irr_eq _).symm.trans hc2)
  refine k_skip ?_
  refine SeqK.nx (by assumption) ?_
  refine k_seq (fun Q K => ?_)
  refine k_linm [0, 1, 2, 4, 5, 6, 3, 8, 7, 9] mixed (by kernel_rfl) (fun W K => ?_)
  try have hpS := F.pns
  refine l_op 0 rfl rfl rfl rfl rfl ?_
  refine l_op 2 rfl rfl rfl rfl rfl ?_
  refine l_op 2 rfl rfl rfl rfl rfl ?_
  refine l_op 0 rfl rfl rfl rfl rfl ?_
  refine l_op 2 rfl rfl rfl rfl rfl ?_
  refine l_op 2 rfl rfl rfl rfl rfl ?_
  refine l_ldc F 0 rfl rfl rfl rfl rfl rfl rfl ?_
  first | have hpS := PnS.add hpS hS24 | have hpS := PnS.add hpS (OldC.sf (by assumption)) | skip
  refine l_op 0 rfl rfl rfl rfl rfl ?_
  refine l_ldc F 0 rfl rfl rfl rfl rfl rfl rfl ?_
  first | have hpS := PnS.add hpS hS28 | have hpS := PnS.add hpS (OldC.sf (by assumption)) | skip
  refine l_op 0 rfl rfl rfl rfl rfl ?_
  refine l_nil (WK.nx (by assumption) ?_)
  refine SeqK.nx (by assumption) ?_
  refine k_seq (fun Q K => ?_)
  refine k_seq (fun Q K => ?_)
  refine k_lin (fun W K => ?_)
  refine l_op 0 rfl rfl rfl rfl rfl ?_
  refine l_op 2 rfl rfl rfl rfl rfl ?_
  refine l_op 2 rfl rfl rfl rfl rfl ?_
  refine l_ldc F 0 rfl rfl rfl rfl rfl rfl rfl ?_
  first | refine l_op 2 rfl rfl rfl rfl rfl ?_ | refine l_ln rfl rfl rfl rfl ?_
  refine l_cmp rfl rfl rfl rfl ?_
  refine l_nil (WK.nx (by assumption) ?_)
  refine SeqK.nx (by assumption) ?_
  refine l_cond rfl rfl (fun hc3 => ?_) (fun hc3 => ?_)
  · first | replace hc3 := eq_of_beq ((irr_eq _).symm.trans hc3) | simp only [irr_eq, beq_iff_eq, beq_eq_false_iff_ne, ne_eq, decide_eq_true_eq, decide_eq_false_iff_not] at hc3
    have hbl : bl = [] := List.eq_nil_of_length_eq_zero (by omega)
    have hLn : L = [] := List.eq_nil_of_length_eq_zero (by omega)
    refine k_seq (fun Q K => ?_)
    refine k_seq (fun Q K => ?_)
    refine k_lin (fun W K => ?_)
    refine l_op 0 rfl rfl rfl rfl rfl ?_
    refine l_cmp rfl rfl rfl rfl ?_
    refine l_op 0 rfl rfl rfl rfl rfl ?_
    refine l_guard rfl rfl rfl (fun hc4 => ?_) (fun hc4 => ?_)
    · first | replace hc4 := eq_of_beq ((irr_eq _).symm.trans hc4) | simp only [irr_eq, beq_iff_eq, beq_eq_false_iff_ne, ne_eq, decide_eq_true_eq, decide_eq_false_iff_not] at hc4
      refine l_s rfl rfl ?_
      refine l_s rfl rfl ?_
      refine l_s rfl rfl ?_
      refine l_op 2 rfl rfl rfl rfl rfl ?_
      refine l_op 0 rfl rfl rfl rfl rfl ?_
      refine l_s rfl rfl ?_
      refine l_s rfl rfl ?_
      refine l_s rfl rfl ?_
      refine l_s rfl rfl ?_
      refine l_s rfl rfl ?_
      refine l_s rfl rfl ?_
      refine l_s rfl rfl ?_
      refine l_op 2 rfl rfl rfl rfl rfl ?_
      refine l_nil (WK.nx (by assumption) ?_)
      refine SeqK.nx (by assumption) ?_
      first | refine e_cond_t rfl rfl rfl ?_ | refine e_cond_t rfl rfl (by rw [irr_eq]; first | exact beq_iff_eq.2 (by assumption) | exact decide_eq_true (by assumption) | exact bne_iff_ne.2 (by assumption)) ?_
      refine k_seq (fun Q K => ?_)
      refine k_lin (fun W K => ?_)
      refine l_op 0 rfl rfl rfl rfl rfl ?_
      refine l_op 0 rfl rfl rfl rfl rfl ?_
      refine l_nil (WK.nx (by assumption) ?_)
      refine SeqK.nx (by assumption) ?_
      refine k_ret ?_
      refine SeqK.rt (by assumption) ?_
      refine SeqK.rt (by assumption) ?_
      refine FunK.rt (by assumption) rfl ?_
      -- leaf 3
      first
        | (have hr : mallocR most st en bl n e = ⟨0, false, st, en, bl⟩ := mallocR_none (by omega)
           rw [hr]; exact ⟨(a, c, L), rfl, F.pick [0, 1] (by decide), hP⟩)
        | (have hr : mallocR most st en bl n e = ⟨0, false, st, en, bl⟩ := by subst hbl; exact mallocR_none (.inr (.inr ⟨rfl, by omega⟩))
           rw [hr]; exact ⟨(a, c, L), rfl, F.pick [0, 1] (by decide), hP⟩)
        | (have hr : mallocR most st en bl n e = ⟨0, false, st, en, bl⟩ := by rw [hmr]; exact mallocA_no hix (by omega) (by omega)
           rw [hr]; exact ⟨(a, c, L), rfl, F.pick [0, 1] (by decide), hP⟩)
        | (have hr : mallocR most st en bl n e = ⟨p, true, sv, p + n + 256 - (p + n) % 256, ins bl ix (p, n)⟩ := by
             rw [hmr, mallocA_top hix (by omega) (by omega) m1]
             rw [show (p + n + 255) / 256 * 256 = p + n + 256 - (p + n) % 256 by omega]
           rw [hr]
           have hl1 : (L ++ [(p, n)]).length = 0 + L.length + 1 := by simp
           have hr1 : rows eB (L ++ [(p, n)]) = rows eB L ++ rows eB [(p, n)] := rows_append _ _ _
           refine ⟨(x147, c147, L ++ [(p, n)]), rfl, ?_, perm_ins hP _ _⟩
           show Facts O σ s [cel m (rC x147 c147 most _ _ (L ++ [(p, n)])), own x147 (L ++ [(p, n)]).length c147 2 (rows eB (L ++ [(p, n)]))]
           rw [hr1]
           unfold rC
           rw [hl1]
           exact F.pick [0, 2] (by decide))
        | (have hr : mallocR most st en bl n e = ⟨p, true, sv, p + n, ins bl ix (p, n)⟩ := by
             rw [hmr, mallocA_top hix (by omega) (by omega) m1]
             rw [show (p + n + 255) / 256 * 256 = p + n by omega]
           rw [hr]
           have hl1 : (L ++ [(p, n)]).length = 0 + L.length + 1 := by simp
           have hr1 : rows eB (L ++ [(p, n)]) = rows eB L ++ rows eB [(p, n)] := rows_append _ _ _
           refine ⟨(x147, c147, L ++ [(p, n)]), rfl, ?_, perm_ins hP _ _⟩
           show Facts O σ s [cel m (rC x147 c147 most _ _ (L ++ [(p, n)])), own x147 (L ++ [(p, n)]).length c147 2 (rows eB (L ++ [(p, n)]))]
           rw [hr1]
           unfold rC
           rw [hl1]
           exact F.pick [0, 2] (by decide))
        | (have hr : mallocR most st en bl n e = ⟨p, true, sv, tv, ins bl ix (p, n)⟩ := by
             rw [hmr, mallocA_in hix (by omega)]
           rw [hr]
           have hl1 : (L ++ [(p, n)]).length = 0 + L.length + 1 := by simp
           have hr1 : rows eB (L ++ [(p, n)]) = rows eB L ++ rows eB [(p, n)] := rows_append _ _ _
           refine ⟨(x147, c147, L ++ [(p, n)]), rfl, ?_, perm_ins hP _ _⟩
           show Facts O σ s [cel m (rC x147 c147 most _ _ (L ++ [(p, n)])), own x147 (L ++ [(p, n)]).length c147 2 (rows eB (L ++ [(p, n)]))]
           rw [hr1]
           unfold rC
           rw [hl1]
           exact F.pick [0, 2] (by decide))
    first | replace hc4 := ne_of_beq_false ((irr_eq _).symm.trans hc4) | simp only [irr_eq, beq_iff_eq, beq_eq_false_iff_ne, ne_eq, decide_eq_true_eq, decide_eq_false_iff_not] at hc4
    refine l_op 0 rfl rfl rfl rfl rfl ?_
    first | refine l_remn rfl rfl rfl rfl rfl (by omega) rfl ?_ | refine l_rem rfl rfl rfl rfl rfl (by omega) rfl ?_
    refine l_cmp rfl rfl rfl rfl ?_
    refine l_op 2 rfl rfl rfl rfl rfl ?_
    refine l_op 0 rfl rfl rfl rfl rfl ?_
    refine l_guard rfl rfl rfl (fun hc5 => ?_) (fun hc5 => ?_)
    · first | replace hc5 := bne_iff_ne.1 ((irr_eq _).symm.trans hc5) | simp only [irr_eq, bne_iff_ne, bne_eq_false_iff_eq, ne_eq, decide_eq_true_eq, decide_eq_false_iff_not, Bool.not_eq_true', Bool.not_eq_false'] at hc5
      refine l_s rfl rfl ?_
      refine l_s rfl rfl ?_
      refine l_s rfl rfl ?_
      refine l_s rfl rfl ?_
      refine l_s rfl rfl ?_
      refine l_s rfl rfl ?_
      refine l_s rfl rfl ?_
      refine l_op 2 rfl rfl rfl rfl rfl ?_
      refine l_nil (WK.nx (by assumption) ?_)
      refine SeqK.nx (by assumption) ?_
      first | refine e_cond_t rfl rfl rfl ?_ | refine e_cond_t rfl rfl (by rw [irr_eq]; first | exact beq_iff_eq.2 (by assumption) | exact decide_eq_true (by assumption) | exact bne_iff_ne.2 (by assumption)) ?_
      refine k_seq (fun Q K => ?_)
      refine k_lin (fun W K => ?_)
      refine l_op 0 rfl rfl rfl rfl rfl ?_
      refine l_op 0 rfl rfl rfl rfl rfl ?_
      refine l_nil (WK.nx (by assumption) ?_)
      refine SeqK.nx (by assumption) ?_
      refine k_ret ?_
      refine SeqK.rt (by assumption) ?_
      refine SeqK.rt (by assumption) ?_
      refine FunK.rt (by assumption) rfl ?_
      -- leaf 4
      first
        | (have hr : mallocR most st en bl n e = ⟨0, false, st, en, bl⟩ := mallocR_none (by omega)
           rw [hr]; exact ⟨(a, c, L), rfl, F.pick [0, 1] (by decide), hP⟩)
        | (have hr : mallocR most st en bl n e = ⟨0, false, st, en, bl⟩ := by subst hbl; exact mallocR_none (.inr (.inr ⟨rfl, by omega⟩))
           rw [hr]; exact ⟨(a, c, L), rfl, F.pick [0, 1] (by decide), hP⟩)
        | (have hr : mallocR most st en bl n e = ⟨0, false, st, en, bl⟩ := by rw [hmr]; exact mallocA_no hix (by omega) (by omega)
           rw [hr]; exact ⟨(a, c, L), rfl, F.pick [0, 1] (by decide), hP⟩)
        | (have hr : mallocR most st en bl n e = ⟨p, true, sv, p + n + 256 - (p + n) % 256, ins bl ix (p, n)⟩ := by
             rw [hmr, mallocA_top hix (by omega) (by omega) m1]
             rw [show (p + n + 255) / 256 * 256 = p + n + 256 - (p + n) % 256 by omega]
           rw [hr]
           have hl1 : (L ++ [(p, n)]).length = 0 + L.length + 1 := by simp
           have hr1 : rows eB (L ++ [(p, n)]) = rows eB L ++ rows eB [(p, n)] := rows_append _ _ _
           refine ⟨(x147, c147, L ++ [(p, n)]), rfl, ?_, perm_ins hP _ _⟩
           show Facts O σ s [cel m (rC x147 c147 most _ _ (L ++ [(p, n)])), own x147 (L ++ [(p, n)]).length c147 2 (rows eB (L ++ [(p, n)]))]
           rw [hr1]
           unfold rC
           rw [hl1]
           exact F.pick [0, 2] (by decide))
        | (have hr : mallocR most st en bl n e = ⟨p, true, sv, p + n, ins bl ix (p, n)⟩ := by
             rw [hmr, mallocA_top hix (by omega) (by omega) m1]
             rw [show (p + n + 255) / 256 * 256 = p + n by omega]
           rw [hr]
           have hl1 : (L ++ [(p, n)]).length = 0 + L.length + 1 := by simp
           have hr1 : rows eB (L ++ [(p, n)]) = rows eB L ++ rows eB [(p, n)] := rows_append _ _ _
           refine ⟨(x147, c147, L ++ [(p, n)]), rfl, ?_, perm_ins hP _ _⟩
           show Facts O σ s [cel m (rC x147 c147 most _ _ (L ++ [(p, n)])), own x147 (L ++ [(p, n)]).length c147 2 (rows eB (L ++ [(p, n)]))]
           rw [hr1]
           unfold rC
           rw [hl1]
           exact F.pick [0, 2] (by decide))
        | (have hr : mallocR most st en bl n e = ⟨p, true, sv, tv, ins bl ix (p, n)⟩ := by
             rw [hmr, mallocA_in hix (by omega)]
           rw [hr]
           have hl1 : (L ++ [(p, n)]).length = 0 + L.length + 1 := by simp
           have hr1 : rows eB (L ++ [(p, n)]) = rows eB L ++ rows eB [(p, n)] := rows_append _ _ _
           refine ⟨(x147, c147, L ++ [(p, n)]), rfl, ?_, perm_ins hP _ _⟩
           show Facts O σ s [cel m (rC x147 c147 most _ _ (L ++ [(p, n)])), own x147 (L ++ [(p, n)]).length c147 2 (rows eB (L ++ [(p, n)]))]
           rw [hr1]
           unfold rC
           rw [hl1]
           exact F.pick [0, 2] (by decide))
    first | replace hc5 := bne_eq_false_iff_eq.1 ((irr_eq _).symm.trans hc5) | simp only [irr_eq, bne_iff_ne, bne_eq_false_iff_eq, ne_eq, decide_eq_true_eq, decide_eq_false_iff_not, Bool.not_eq_true', Bool.not_eq_false'] at hc5
    refine l_op 0 rfl rfl rfl rfl rfl ?_
    refine l_c64 rfl rfl rfl (by omega) rfl ?_
    refine l_op 0 rfl rfl rfl rfl rfl ?_
    refine l_op 2 rfl rfl rfl rfl rfl ?_
    refine l_op 2 rfl rfl rfl rfl rfl ?_
    refine l_ldc F 0 rfl rfl rfl rfl rfl rfl rfl ?_
    refine l_cmp rfl rfl rfl rfl ?_
    refine l_op 2 rfl rfl rfl rfl rfl ?_
    refine l_nil (WK.nx (by assumption) ?_)
    refine SeqK.nx (by assumption) ?_
    refine l_cond rfl rfl (fun hc6 => ?_) (fun hc6 => ?_)
    · replace hc6 := of_decide_eq_true ((irr_eq _).symm.trans hc6)
      refine k_seq (fun Q K => ?_)
      refine k_lin (fun W K => ?_)
      refine l_op 0 rfl rfl rfl rfl rfl ?_
      refine l_op 0 rfl rfl rfl rfl rfl ?_
      refine l_nil (WK.nx (by assumption) ?_)
      refine SeqK.nx (by assumption) ?_
      refine k_ret ?_
      refine SeqK.rt (by assumption) ?_
      refine SeqK.rt (by assumption) ?_
      refine FunK.rt (by assumption) rfl ?_
      -- leaf 5
      first
        | (have hr : mallocR most st en bl n e = ⟨0, false, st, en, bl⟩ := mallocR_none (by omega)
           rw [hr]; exact ⟨(a, c, L), rfl, F.pick [0, 1] (by decide), hP⟩)
        | (have hr : mallocR most st en bl n e = ⟨0, false, st, en, bl⟩ := by subst hbl; exact mallocR_none (.inr (.inr ⟨rfl, by omega⟩))
           rw [hr]; exact ⟨(a, c, L), rfl, F.pick [0, 1] (by decide), hP⟩)
        | (have hr : mallocR most st en bl n e = ⟨0, false, st, en, bl⟩ := by rw [hmr]; exact mallocA_no hix (by omega) (by omega)
           rw [hr]; exact ⟨(a, c, L), rfl, F.pick [0, 1] (by decide), hP⟩)
        | (have hr : mallocR most st en bl n e = ⟨p, true, sv, p + n + 256 - (p + n) % 256, ins bl ix (p, n)⟩ := by
             rw [hmr, mallocA_top hix (by omega) (by omega) m1]
             rw [show (p + n + 255) / 256 * 256 = p + n + 256 - (p + n) % 256 by omega]
           rw [hr]
           have hl1 : (L ++ [(p, n)]).length = 0 + L.length + 1 := by simp
           have hr1 : rows eB (L ++ [(p, n)]) = rows eB L ++ rows eB [(p, n)] := rows_append _ _ _
           refine ⟨(x147, c147, L ++ [(p, n)]), rfl, ?_, perm_ins hP _ _⟩
           show Facts O σ s [cel m (rC x147 c147 most _ _ (L ++ [(p, n)])), own x147 (L ++ [(p, n)]).length c147 2 (rows eB (L ++ [(p, n)]))]
           rw [hr1]
           unfold rC
           rw [hl1]
           exact F.pick [0, 2] (by decide))
        | (have hr : mallocR most st en bl n e = ⟨p, true, sv, p + n, ins bl ix (p, n)⟩ := by
             rw [hmr, mallocA_top hix (by omega) (by omega) m1]
             rw [show (p + n + 255) / 256 * 256 = p + n by omega]
           rw [hr]
           have hl1 : (L ++ [(p, n)]).length = 0 + L.length + 1 := by simp
           have hr1 : rows eB (L ++ [(p, n)]) = rows eB L ++ rows eB [(p, n)] := rows_append _ _ _
           refine ⟨(x147, c147, L ++ [(p, n)]), rfl, ?_, perm_ins hP _ _⟩
           show Facts O σ s [cel m (rC x147 c147 most _ _ (L ++ [(p, n)])), own x147 (L ++ [(p, n)]).length c147 2 (rows eB (L ++ [(p, n)]))]
           rw [hr1]
           unfold rC
           rw [hl1]
           exact F.pick [0, 2] (by decide))
        | (have hr : mallocR most st en bl n e = ⟨p, true, sv, tv, ins bl ix (p, n)⟩ := by
             rw [hmr, mallocA_in hix (by omega)]
           rw [hr]
           have hl1 : (L ++ [(p, n)]).length = 0 + L.length + 1 := by simp
           have hr1 : rows eB (L ++ [(p, n)]) = rows eB L ++ rows eB [(p, n)] := rows_append _ _ _
           refine ⟨(x147, c147, L ++ [(p, n)]), rfl, ?_, perm_ins hP _ _⟩
           show Facts O σ s [cel m (rC x147 c147 most _ _ (L ++ [(p, n)])), own x147 (L ++ [(p, n)]).length c147 2 (rows eB (L ++ [(p, n)]))]
           rw [hr1]
           unfold rC
           rw [hl1]
           exact F.pick [0, 2] (by decide))
    replace hc6 := of_decide_eq_false ((irr_eq _).symm.trans hc6)
    have hgood : MG most st en bl L n e e e := by
      subst hbl
      obtain rfl := hLn
      refine ⟨⟨v0, v1⟩, ⟨v0, v1⟩, by omega, ?_, mallocR_new (by omega) (by omega) (by omega) (by omega), v0, Int.le_refl _⟩
      exact lfR_place (en := e) (.refl _) (by omega) (fun x h => by cases h) v0 (by simp [rightL])
    refine k_skip ?_
    refine SeqK.nx (by assumption) ?_
    refine k_lin (fun W K => ?_)
    refine l_op 0 rfl rfl rfl rfl rfl ?_
    refine l_c64 rfl rfl rfl (by omega) rfl ?_
    refine l_op 0 rfl rfl rfl rfl rfl ?_
    refine l_c64 rfl rfl rfl (by omega) rfl ?_
    refine l_op 0 rfl rfl rfl rfl rfl ?_
    refine l_op 0 rfl rfl rfl rfl rfl ?_
    refine l_nil (WK.nx (by assumption) ?_)
    refine SeqK.nx (by assumption) ?_
    refine k_seq (fun Q K => ?_)
    refine k_lin (fun W K => ?_)
    refine l_op 0 rfl rfl rfl rfl rfl ?_
    refine l_nil (WK.nx (by assumption) ?_)
    refine SeqK.nx (by assumption) ?_
    refine k_seq (fun Q K => ?_)
    refine k_seq (fun Q K => ?_)
    refine k_lin (fun W K => ?_)
    refine l_op 0 rfl rfl rfl rfl rfl ?_
    refine l_nil (WK.nx (by assumption) ?_)
    refine SeqK.nx (by assumption) ?_
    refine k_block (fun Q K => ?_)
    first
      | refine k_loop (α := Int × Int × Int × Int) (fun ⟨i, p, sv, tv⟩ s => Facts O σ s (rF m a c most st en L) ∧ -1 ≤ i ∧ i ≤ L.length ∧ -1 ≤ p ∧ p ≤ 8589934590 ∧ MG most st en bl L n e sv tv ∧ (i = -1 ∧ p = -1 ∨ 0 ≤ i ∧ p = lfR L n sv (L.take i.toNat))) (fun ⟨i, p, sv, tv⟩ => [(0, .pointer (some ⟨m, 0, none⟩)), (1, .int .u32 n), (8, .int .i64 sv), (9, .int .i64 tv), (10, .int .i64 p), (11, .int .i64 i)]) (fun ⟨i, _⟩ => (L.length - i).toNat) (-1, -1, e, e) ⟨F, by omega, by omega, by omega, by omega, hgood, .inl ⟨rfl, rfl⟩⟩ (by repeat (first | exact trivial | refine And.intro rfl ?_)) ?_
      | refine k_loop (α := Int × Int × Int × Int) (fun ⟨i, p, sv, tv⟩ s => Facts O σ s (rF m a c most st en L) ∧ -1 ≤ i ∧ i ≤ L.length ∧ -1 ≤ p ∧ p ≤ 8589934590 ∧ MG most st en bl L n e sv tv ∧ (i = -1 ∧ p = -1 ∨ 0 ≤ i ∧ p = lfR L n sv (L.take i.toNat))) (fun ⟨i, p, sv, tv⟩ => [(0, .pointer (some ⟨m, 0, none⟩)), (1, .int .u32 n), (8, .int .i64 sv), (9, .int .i64 tv), (10, .int .i64 p), (11, .int .i64 i)]) (fun ⟨i, _⟩ => (L.length - i).toNat) (-1, -1, st, en) ⟨F, by omega, by omega, by omega, by omega, hgood, .inl ⟨rfl, rfl⟩⟩ (by repeat (first | exact trivial | refine And.intro rfl ?_)) ?_
    clear F hgood
    rintro ⟨i, p, sv, tv⟩ env s Q K0 ⟨F, i0, i1, p0, p1, hg, hip⟩
    obtain ⟨⟨sv0, sv1⟩, ⟨tv0, tv1⟩, tvm, hlf, hmr, hp0, hpt⟩ := hg
    obtain ⟨⟨b0, b1⟩, ⟨b2, b3⟩⟩ := hBL.at i.toNat
    refine k_seq (fun Q K => ?_)
    refine k_seq (fun Q K => ?_)
    refine k_lin (fun W K => ?_)
    refine l_op 0 rfl rfl rfl rfl rfl ?_
    refine l_op 0 rfl rfl rfl rfl rfl ?_
    refine l_op 2 rfl rfl rfl rfl rfl ?_
    refine l_op 2 rfl rfl rfl rfl rfl ?_
    refine l_ldc F 0 rfl rfl rfl rfl rfl rfl rfl ?_
    first | refine l_op 2 rfl rfl rfl rfl rfl ?_ | refine l_ln rfl rfl rfl rfl ?_
    refine l_cmp rfl rfl rfl rfl ?_
    refine l_nil (WK.nx (by assumption) ?_)
    refine SeqK.nx (by assumption) ?_
    refine l_cond rfl rfl (fun hc7 => ?_) (fun hc7 => ?_)
    · replace hc7 := of_decide_eq_true ((irr_eq _).symm.trans hc7)
      refine k_skip ?_
      refine SeqK.nx (by assumption) ?_
      refine k_seq (fun Q K => ?_)
      refine k_block (fun Q K => ?_)
      refine k_seq (fun Q K => ?_)
      refine k_lin (fun W K => ?_)
      refine l_op 0 rfl rfl rfl rfl rfl ?_
      refine l_op 0 rfl rfl rfl rfl rfl ?_
      refine l_nil (WK.nx (by assumption) ?_)
      refine SeqK.nx (by assumption) ?_
      refine k_seq (fun Q K => ?_)
      refine k_seq (fun Q K => ?_)
      refine k_lin (fun W K => ?_)
      refine l_op 0 rfl rfl rfl rfl rfl ?_
      refine l_cmp rfl rfl rfl rfl ?_
      refine l_nil (WK.nx (by assumption) ?_)
      refine SeqK.nx (by assumption) ?_
      refine l_cond rfl rfl (fun hc8 => ?_) (fun hc8 => ?_)
      · replace hc8 := of_decide_eq_true ((irr_eq _).symm.trans hc8)
        have hpp : p = lfR L n sv (L.take i.toNat) := by rcases hip with h | h; omega; exact h.2
        have htk := lfR_take (L := L) (n := n) (st := sv) (xs := L) (i := i.toNat) (by omega)
        rw [← hpp] at htk
        refine k_linm [0, 1, 2, 4, 9, 10, 11, 13, 3, 5, 6, 7, 8, 12, 14, 15, 16, 17, 18, 19] mixed (by kernel_rfl) (fun W K => ?_)
        try have hpS := F.pns
        refine l_op 0 rfl rfl rfl rfl rfl ?_
        refine l_op 2 rfl rfl rfl rfl rfl ?_
        refine l_op 2 rfl rfl rfl rfl rfl ?_
        refine l_op 0 rfl rfl rfl rfl rfl ?_
        refine l_op 0 rfl rfl rfl rfl rfl ?_
        refine l_op 2 rfl rfl rfl rfl rfl ?_
        refine l_op 2 rfl rfl rfl rfl rfl ?_
        refine l_op 0 rfl rfl rfl rfl rfl ?_
        refine l_ldc F 0 rfl rfl rfl rfl rfl rfl rfl ?_
        first | have hpS := PnS.add hpS hS70 | have hpS := PnS.add hpS (OldC.sf (by assumption)) | skip
        refine l_ixr (e := eB) rfl rfl rfl rfl rfl rfl (F.has 1 rfl) ⟨eB_len, by decide⟩ (by omega) (fun m74 b74 hA74 => ?_)
        refine l_op 2 rfl rfl rfl rfl rfl ?_
        refine l_ld0 rfl rfl rfl rfl rfl (by assumption) ?_
        first | have hpS := PnS.add hpS hS74 | have hpS := PnS.add hpS (OldC.sf (by assumption)) | skip
        refine l_c64 rfl rfl rfl (by omega) rfl ?_
        refine l_ldc F 0 rfl rfl rfl rfl rfl rfl rfl ?_
        first | have hpS := PnS.add hpS hS79 | have hpS := PnS.add hpS (OldC.sf (by assumption)) | skip
        refine l_ixr (e := eB) rfl rfl rfl rfl rfl rfl (F.has 1 rfl) ⟨eB_len, by decide⟩ (by omega) (fun m83 b83 hA83 => ?_)
        refine l_op 2 rfl rfl rfl rfl rfl ?_
        refine l_ldj rfl rfl rfl rfl rfl rfl (by assumption) rfl ?_
        first | have hpS := PnS.add hpS hS83 | have hpS := PnS.add hpS (OldC.sf (by assumption)) | skip
        refine l_c64 rfl rfl rfl (by omega) rfl ?_
        refine l_a64 rfl rfl rfl (by omega) rfl ?_
        refine l_op 0 rfl rfl rfl rfl rfl ?_
        refine l_nil (WK.nx (by assumption) ?_)
        refine SeqK.nx (by assumption) ?_
        refine k_seq (fun Q K => ?_)
        refine k_lin (fun W K => ?_)
        refine l_op 0 rfl rfl rfl rfl rfl ?_
        refine l_cmp rfl rfl rfl rfl ?_
        refine l_op 0 rfl rfl rfl rfl rfl ?_
        refine l_guard rfl rfl rfl (fun hc9 => ?_) (fun hc9 => ?_)
        · replace hc9 := of_decide_eq_true ((irr_eq _).symm.trans hc9)
          refine l_s rfl rfl ?_
          refine l_s rfl rfl ?_
          refine l_s rfl rfl ?_
          refine l_op 2 rfl rfl rfl rfl rfl ?_
          refine l_op 0 rfl rfl rfl rfl rfl ?_
          refine l_op 0 rfl rfl rfl rfl rfl ?_
          refine l_op 0 rfl rfl rfl rfl rfl ?_
          refine l_op 0 rfl rfl rfl rfl rfl ?_
          refine l_c64 rfl rfl rfl (by omega) rfl ?_
          refine l_callp F rfl rfl (by kernel_rfl) rfl rfl (rfree_call (F.cel0 0 rfl) (Old.pure (F.has 1 rfl)) hBL (by omega) ⟨by omega, by omega⟩ hu') (fun _ s F _ => ?_)
          (try dsimp only [n_1, n_2, n_3, n_4, List.append_nil, pk, n_5, n_6] at F)
          refine l_op 2 rfl rfl rfl rfl rfl ?_
          refine l_nil (WK.nx (by assumption) ?_)
          refine SeqK.nx (by assumption) ?_
          refine l_cond rfl rfl (fun hc10 => ?_) (fun hc10 => ?_)
          · try simp only [irr_eq, beq_iff_eq, bne_iff_ne, beq_eq_false_iff_ne, bne_eq_false_iff_eq, ne_eq, decide_eq_true_eq, decide_eq_false_iff_not, Bool.not_eq_true', Bool.not_eq_false'] at hc10
            refine k_lin (fun W K => ?_)
            refine l_op 0 rfl rfl rfl rfl rfl ?_
            refine l_op 0 rfl rfl rfl rfl rfl ?_
            refine l_nil (WK.nx (by assumption) ?_)
            refine BlkK.nx (by assumption) ?_
            refine SeqK.nx (by assumption) ?_
            refine k_lin (fun W K => ?_)
            refine l_op 0 rfl rfl rfl rfl rfl ?_
            refine l_a64 rfl rfl rfl (by omega) rfl ?_
            refine l_op 0 rfl rfl rfl rfl rfl ?_
            refine l_nil (WK.nx (by assumption) ?_)
            have hg : MG most st en bl L n e sv tv := ⟨⟨sv0, sv1⟩, ⟨tv0, tv1⟩, tvm, hlf, hmr, hp0, hpt⟩
            first
              | (have e1 : (i + 1).toNat = i.toNat + 1 := by omega
                 first
                   | (rw [lst_yes (by omega) (by assumption), ← e1] at htk
                      exact K0.nx (i + 1, (L.getD i.toNat default).1 + (L.getD i.toNat default).2, sv, tv) (by repeat (first | exact trivial | refine And.intro rfl ?_)) ⟨F.pick [0, 1] (by decide), by omega, by omega, by omega, by omega, hg, .inr ⟨by omega, htk.symm⟩⟩ (by first | omega | (simp only; omega)))
                   | (rw [lst_no1 (by omega) (by omega), ← e1] at htk
                      exact K0.nx (i + 1, p, sv, tv) (by repeat (first | exact trivial | refine And.intro rfl ?_)) ⟨F.pick [0, 1] (by decide), by omega, by omega, by omega, by omega, hg, .inr ⟨by omega, htk.symm⟩⟩ (by first | omega | (simp only; omega)))
                   | (rw [lst_no2 (by assumption), ← e1] at htk
                      exact K0.nx (i + 1, p, sv, tv) (by repeat (first | exact trivial | refine And.intro rfl ?_)) ⟨F.pick [0, 1] (by decide), by omega, by omega, by omega, by omega, hg, .inr ⟨by omega, htk.symm⟩⟩ (by first | omega | (simp only; omega))))
              | (obtain ⟨hi1, hp1⟩ := hpp
                 subst hi1; subst hp1
                 first
                   | exact K0.nx (-1 + 1, sv, sv, tv) (by repeat (first | exact trivial | refine And.intro rfl ?_)) ⟨F.pick [0, 1] (by decide), by omega, by omega, by omega, by omega, hg, .inr ⟨by omega, (if_pos (by assumption)).symm⟩⟩ (by first | omega | (simp only; omega))
                   | exact K0.nx (-1 + 1, -1, sv, tv) (by repeat (first | exact trivial | refine And.intro rfl ?_)) ⟨F.pick [0, 1] (by decide), by omega, by omega, by omega, by omega, hg, .inr ⟨by omega, (if_neg (by simp_all)).symm⟩⟩ (by first | omega | (simp only; omega)))
          try simp only [irr_eq, beq_iff_eq, bne_iff_ne, beq_eq_false_iff_ne, bne_eq_false_iff_eq, ne_eq, decide_eq_true_eq, decide_eq_false_iff_not, Bool.not_eq_true', Bool.not_eq_false'] at hc10
          refine k_skip ?_
          refine BlkK.nx (by assumption) ?_
          refine SeqK.nx (by assumption) ?_
          refine k_lin (fun W K => ?_)
          refine l_op 0 rfl rfl rfl rfl rfl ?_
          refine l_a64 rfl rfl rfl (by omega) rfl ?_
          refine l_op 0 rfl rfl rfl rfl rfl ?_
          refine l_nil (WK.nx (by assumption) ?_)
          have hg : MG most st en bl L n e sv tv := ⟨⟨sv0, sv1⟩, ⟨tv0, tv1⟩, tvm, hlf, hmr, hp0, hpt⟩
          first
            | (have e1 : (i + 1).toNat = i.toNat + 1 := by omega
               first
                 | (rw [lst_yes (by omega) (by assumption), ← e1] at htk
                    exact K0.nx (i + 1, (L.getD i.toNat default).1 + (L.getD i.toNat default).2, sv, tv) (by repeat (first | exact trivial | refine And.intro rfl ?_)) ⟨F.pick [0, 1] (by decide), by omega, by omega, by omega, by omega, hg, .inr ⟨by omega, htk.symm⟩⟩ (by first | omega | (simp only; omega)))
                 | (rw [lst_no1 (by omega) (by omega), ← e1] at htk
                    exact K0.nx (i + 1, p, sv, tv) (by repeat (first | exact trivial | refine And.intro rfl ?_)) ⟨F.pick [0, 1] (by decide), by omega, by omega, by omega, by omega, hg, .inr ⟨by omega, htk.symm⟩⟩ (by first | omega | (simp only; omega)))
                 | (rw [lst_no2 (by assumption), ← e1] at htk
                    exact K0.nx (i + 1, p, sv, tv) (by repeat (first | exact trivial | refine And.intro rfl ?_)) ⟨F.pick [0, 1] (by decide), by omega, by omega, by omega, by omega, hg, .inr ⟨by omega, htk.symm⟩⟩ (by first | omega | (simp only; omega))))
            | (obtain ⟨hi1, hp1⟩ := hpp
               subst hi1; subst hp1
               first
                 | exact K0.nx (-1 + 1, sv, sv, tv) (by repeat (first | exact trivial | refine And.intro rfl ?_)) ⟨F.pick [0, 1] (by decide), by omega, by omega, by omega, by omega, hg, .inr ⟨by omega, (if_pos (by assumption)).symm⟩⟩ (by first | omega | (simp only; omega))
                 | exact K0.nx (-1 + 1, -1, sv, tv) (by repeat (first | exact trivial | refine And.intro rfl ?_)) ⟨F.pick [0, 1] (by decide), by omega, by omega, by omega, by omega, hg, .inr ⟨by omega, (if_neg (by simp_all)).symm⟩⟩ (by first | omega | (simp only; omega)))
        replace hc9 := of_decide_eq_false ((irr_eq _).symm.trans hc9)
        refine l_op 0 rfl rfl rfl rfl rfl ?_
        refine l_op 0 rfl rfl rfl rfl rfl ?_
        refine l_cmp rfl rfl rfl rfl ?_
        refine l_op 2 rfl rfl rfl rfl rfl ?_
        refine l_op 0 rfl rfl rfl rfl rfl ?_
        refine l_guard rfl rfl rfl (fun hc11 => ?_) (fun hc11 => ?_)
        · replace hc11 := of_decide_eq_true ((irr_eq _).symm.trans hc11)
          refine l_op 0 rfl rfl rfl rfl rfl ?_
          refine l_op 0 rfl rfl rfl rfl rfl ?_
          refine l_op 0 rfl rfl rfl rfl rfl ?_
          refine l_c64 rfl rfl rfl (by omega) rfl ?_
          refine l_callp F rfl rfl (by kernel_rfl) rfl rfl (rfree_call (F.cel0 0 rfl) (Old.pure (F.has 1 rfl)) hBL (by omega) ⟨by omega, by omega⟩ hu') (fun _ s F _ => ?_)
          (try dsimp only [n_1, n_2, n_3, n_4, List.append_nil, pk, n_5, n_6] at F)
          refine l_op 2 rfl rfl rfl rfl rfl ?_
          refine l_nil (WK.nx (by assumption) ?_)
          refine SeqK.nx (by assumption) ?_
          refine l_cond rfl rfl (fun hc12 => ?_) (fun hc12 => ?_)
          · try simp only [irr_eq, beq_iff_eq, bne_iff_ne, beq_eq_false_iff_ne, bne_eq_false_iff_eq, ne_eq, decide_eq_true_eq, decide_eq_false_iff_not, Bool.not_eq_true', Bool.not_eq_false'] at hc12
            refine k_lin (fun W K => ?_)
            refine l_op 0 rfl rfl rfl rfl rfl ?_
            refine l_op 0 rfl rfl rfl rfl rfl ?_
            refine l_nil (WK.nx (by assumption) ?_)
            refine BlkK.nx (by assumption) ?_
            refine SeqK.nx (by assumption) ?_
            refine k_lin (fun W K => ?_)
            refine l_op 0 rfl rfl rfl rfl rfl ?_
            refine l_a64 rfl rfl rfl (by omega) rfl ?_
            refine l_op 0 rfl rfl rfl rfl rfl ?_
            refine l_nil (WK.nx (by assumption) ?_)
            have hg : MG most st en bl L n e sv tv := ⟨⟨sv0, sv1⟩, ⟨tv0, tv1⟩, tvm, hlf, hmr, hp0, hpt⟩
            first
              | (have e1 : (i + 1).toNat = i.toNat + 1 := by omega
                 first
                   | (rw [lst_yes (by omega) (by assumption), ← e1] at htk
                      exact K0.nx (i + 1, (L.getD i.toNat default).1 + (L.getD i.toNat default).2, sv, tv) (by repeat (first | exact trivial | refine And.intro rfl ?_)) ⟨F.pick [0, 1] (by decide), by omega, by omega, by omega, by omega, hg, .inr ⟨by omega, htk.symm⟩⟩ (by first | omega | (simp only; omega)))
                   | (rw [lst_no1 (by omega) (by omega), ← e1] at htk
                      exact K0.nx (i + 1, p, sv, tv) (by repeat (first | exact trivial | refine And.intro rfl ?_)) ⟨F.pick [0, 1] (by decide), by omega, by omega, by omega, by omega, hg, .inr ⟨by omega, htk.symm⟩⟩ (by first | omega | (simp only; omega)))
                   | (rw [lst_no2 (by assumption), ← e1] at htk
                      exact K0.nx (i + 1, p, sv, tv) (by repeat (first | exact trivial | refine And.intro rfl ?_)) ⟨F.pick [0, 1] (by decide), by omega, by omega, by omega, by omega, hg, .inr ⟨by omega, htk.symm⟩⟩ (by first | omega | (simp only; omega))))
              | (obtain ⟨hi1, hp1⟩ := hpp
                 subst hi1; subst hp1
                 first
                   | exact K0.nx (-1 + 1, sv, sv, tv) (by repeat (first | exact trivial | refine And.intro rfl ?_)) ⟨F.pick [0, 1] (by decide), by omega, by omega, by omega, by omega, hg, .inr ⟨by omega, (if_pos (by assumption)).symm⟩⟩ (by first | omega | (simp only; omega))
                   | exact K0.nx (-1 + 1, -1, sv, tv) (by repeat (first | exact trivial | refine And.intro rfl ?_)) ⟨F.pick [0, 1] (by decide), by omega, by omega, by omega, by omega, hg, .inr ⟨by omega, (if_neg (by simp_all)).symm⟩⟩ (by first | omega | (simp only; omega)))
          try simp only [irr_eq, beq_iff_eq, bne_iff_ne, beq_eq_false_iff_ne, bne_eq_false_iff_eq, ne_eq, decide_eq_true_eq, decide_eq_false_iff_not, Bool.not_eq_true', Bool.not_eq_false'] at hc12
          refine k_skip ?_
          refine BlkK.nx (by assumption) ?_
          refine SeqK.nx (by assumption) ?_
          refine k_lin (fun W K => ?_)
          refine l_op 0 rfl rfl rfl rfl rfl ?_
          refine l_a64 rfl rfl rfl (by omega) rfl ?_
          refine l_op 0 rfl rfl rfl rfl rfl ?_
          refine l_nil (WK.nx (by assumption) ?_)
          have hg : MG most st en bl L n e sv tv := ⟨⟨sv0, sv1⟩, ⟨tv0, tv1⟩, tvm, hlf, hmr, hp0, hpt⟩
          first
            | (have e1 : (i + 1).toNat = i.toNat + 1 := by omega
               first
                 | (rw [lst_yes (by omega) (by assumption), ← e1] at htk
                    exact K0.nx (i + 1, (L.getD i.toNat default).1 + (L.getD i.toNat default).2, sv, tv) (by repeat (first | exact trivial | refine And.intro rfl ?_)) ⟨F.pick [0, 1] (by decide), by omega, by omega, by omega, by omega, hg, .inr ⟨by omega, htk.symm⟩⟩ (by first | omega | (simp only; omega)))
                 | (rw [lst_no1 (by omega) (by omega), ← e1] at htk
                    exact K0.nx (i + 1, p, sv, tv) (by repeat (first | exact trivial | refine And.intro rfl ?_)) ⟨F.pick [0, 1] (by decide), by omega, by omega, by omega, by omega, hg, .inr ⟨by omega, htk.symm⟩⟩ (by first | omega | (simp only; omega)))
                 | (rw [lst_no2 (by assumption), ← e1] at htk
                    exact K0.nx (i + 1, p, sv, tv) (by repeat (first | exact trivial | refine And.intro rfl ?_)) ⟨F.pick [0, 1] (by decide), by omega, by omega, by omega, by omega, hg, .inr ⟨by omega, htk.symm⟩⟩ (by first | omega | (simp only; omega))))
            | (obtain ⟨hi1, hp1⟩ := hpp
               subst hi1; subst hp1
               first
                 | exact K0.nx (-1 + 1, sv, sv, tv) (by repeat (first | exact trivial | refine And.intro rfl ?_)) ⟨F.pick [0, 1] (by decide), by omega, by omega, by omega, by omega, hg, .inr ⟨by omega, (if_pos (by assumption)).symm⟩⟩ (by first | omega | (simp only; omega))
                 | exact K0.nx (-1 + 1, -1, sv, tv) (by repeat (first | exact trivial | refine And.intro rfl ?_)) ⟨F.pick [0, 1] (by decide), by omega, by omega, by omega, by omega, hg, .inr ⟨by omega, (if_neg (by simp_all)).symm⟩⟩ (by first | omega | (simp only; omega)))
        replace hc11 := of_decide_eq_false ((irr_eq _).symm.trans hc11)
        refine l_s rfl rfl ?_
        refine l_s rfl rfl ?_
        refine l_s rfl rfl ?_
        refine l_s rfl rfl ?_
        refine l_s rfl rfl ?_
        refine l_op 2 rfl rfl rfl rfl rfl ?_
        refine l_nil (WK.nx (by assumption) ?_)
        refine SeqK.nx (by assumption) ?_
        first | refine e_cond_f rfl rfl rfl ?_ | refine e_cond_f rfl rfl (by rw [irr_eq]; first | exact beq_eq_false_iff_ne.2 (by assumption) | exact decide_eq_false (by assumption) | exact bne_eq_false_iff_eq.2 (by assumption)) ?_
        refine k_skip ?_
        refine BlkK.nx (by assumption) ?_
        refine SeqK.nx (by assumption) ?_
        refine k_lin (fun W K => ?_)
        refine l_op 0 rfl rfl rfl rfl rfl ?_
        refine l_a64 rfl rfl rfl (by omega) rfl ?_
        refine l_op 0 rfl rfl rfl rfl rfl ?_
        refine l_nil (WK.nx (by assumption) ?_)
        have hg : MG most st en bl L n e sv tv := ⟨⟨sv0, sv1⟩, ⟨tv0, tv1⟩, tvm, hlf, hmr, hp0, hpt⟩
        first
          | (have e1 : (i + 1).toNat = i.toNat + 1 := by omega
             first
               | (rw [lst_yes (by omega) (by assumption), ← e1] at htk
                  exact K0.nx (i + 1, (L.getD i.toNat default).1 + (L.getD i.toNat default).2, sv, tv) (by repeat (first | exact trivial | refine And.intro rfl ?_)) ⟨F.pick [0, 1] (by decide), by omega, by omega, by omega, by omega, hg, .inr ⟨by omega, htk.symm⟩⟩ (by first | omega | (simp only; omega)))
               | (rw [lst_no1 (by omega) (by omega), ← e1] at htk
                  exact K0.nx (i + 1, p, sv, tv) (by repeat (first | exact trivial | refine And.intro rfl ?_)) ⟨F.pick [0, 1] (by decide), by omega, by omega, by omega, by omega, hg, .inr ⟨by omega, htk.symm⟩⟩ (by first | omega | (simp only; omega)))
               | (rw [lst_no2 (by assumption), ← e1] at htk
                  exact K0.nx (i + 1, p, sv, tv) (by repeat (first | exact trivial | refine And.intro rfl ?_)) ⟨F.pick [0, 1] (by decide), by omega, by omega, by omega, by omega, hg, .inr ⟨by omega, htk.symm⟩⟩ (by first | omega | (simp only; omega))))
          | (obtain ⟨hi1, hp1⟩ := hpp
             subst hi1; subst hp1
             first
               | exact K0.nx (-1 + 1, sv, sv, tv) (by repeat (first | exact trivial | refine And.intro rfl ?_)) ⟨F.pick [0, 1] (by decide), by omega, by omega, by omega, by omega, hg, .inr ⟨by omega, (if_pos (by assumption)).symm⟩⟩ (by first | omega | (simp only; omega))
               | exact K0.nx (-1 + 1, -1, sv, tv) (by repeat (first | exact trivial | refine And.intro rfl ?_)) ⟨F.pick [0, 1] (by decide), by omega, by omega, by omega, by omega, hg, .inr ⟨by omega, (if_neg (by simp_all)).symm⟩⟩ (by first | omega | (simp only; omega)))
      replace hc8 := of_decide_eq_false ((irr_eq _).symm.trans hc8)
      have hpp : i = -1 ∧ p = -1 := by rcases hip with h | h; exact h; omega
      refine k_skip ?_
      refine SeqK.nx (by assumption) ?_
      refine k_seq (fun Q K => ?_)
      refine k_lin (fun W K => ?_)
      refine l_op 0 rfl rfl rfl rfl rfl ?_
      refine l_cmp rfl rfl rfl rfl ?_
      refine l_op 0 rfl rfl rfl rfl rfl ?_
      refine l_guard rfl rfl rfl (fun hc13 => ?_) (fun hc13 => ?_)
      · replace hc13 := of_decide_eq_true ((irr_eq _).symm.trans hc13)
        refine l_s rfl rfl ?_
        refine l_s rfl rfl ?_
        refine l_s rfl rfl ?_
        refine l_op 2 rfl rfl rfl rfl rfl ?_
        refine l_op 0 rfl rfl rfl rfl rfl ?_
        refine l_op 0 rfl rfl rfl rfl rfl ?_
        refine l_op 0 rfl rfl rfl rfl rfl ?_
        refine l_op 0 rfl rfl rfl rfl rfl ?_
        refine l_c64 rfl rfl rfl (by omega) rfl ?_
        refine l_callp F rfl rfl (by kernel_rfl) rfl rfl (rfree_call (F.cel0 0 rfl) (Old.pure (F.has 1 rfl)) hBL (by omega) ⟨by omega, by omega⟩ hu') (fun _ s F _ => ?_)
        (try dsimp only [n_1, n_2, n_3, n_4, List.append_nil, pk, n_5, n_6] at F)
        refine l_op 2 rfl rfl rfl rfl rfl ?_
        refine l_nil (WK.nx (by assumption) ?_)
        refine SeqK.nx (by assumption) ?_
        refine l_cond rfl rfl (fun hc14 => ?_) (fun hc14 => ?_)
        · try simp only [irr_eq, beq_iff_eq, bne_iff_ne, beq_eq_false_iff_ne, bne_eq_false_iff_eq, ne_eq, decide_eq_true_eq, decide_eq_false_iff_not, Bool.not_eq_true', Bool.not_eq_false'] at hc14
          refine k_lin (fun W K => ?_)
          refine l_op 0 rfl rfl rfl rfl rfl ?_
          refine l_op 0 rfl rfl rfl rfl rfl ?_
          refine l_nil (WK.nx (by assumption) ?_)
          refine BlkK.nx (by assumption) ?_
          refine SeqK.nx (by assumption) ?_
          refine k_lin (fun W K => ?_)
          refine l_op 0 rfl rfl rfl rfl rfl ?_
          refine l_a64 rfl rfl rfl (by omega) rfl ?_
          refine l_op 0 rfl rfl rfl rfl rfl ?_
          refine l_nil (WK.nx (by assumption) ?_)
          have hg : MG most st en bl L n e sv tv := ⟨⟨sv0, sv1⟩, ⟨tv0, tv1⟩, tvm, hlf, hmr, hp0, hpt⟩
          first
            | (have e1 : (i + 1).toNat = i.toNat + 1 := by omega
               first
                 | (rw [lst_yes (by omega) (by assumption), ← e1] at htk
                    exact K0.nx (i + 1, (L.getD i.toNat default).1 + (L.getD i.toNat default).2, sv, tv) (by repeat (first | exact trivial | refine And.intro rfl ?_)) ⟨F.pick [0, 1] (by decide), by omega, by omega, by omega, by omega, hg, .inr ⟨by omega, htk.symm⟩⟩ (by first | omega | (simp only; omega)))
                 | (rw [lst_no1 (by omega) (by omega), ← e1] at htk
                    exact K0.nx (i + 1, p, sv, tv) (by repeat (first | exact trivial | refine And.intro rfl ?_)) ⟨F.pick [0, 1] (by decide), by omega, by omega, by omega, by omega, hg, .inr ⟨by omega, htk.symm⟩⟩ (by first | omega | (simp only; omega)))
                 | (rw [lst_no2 (by assumption), ← e1] at htk
                    exact K0.nx (i + 1, p, sv, tv) (by repeat (first | exact trivial | refine And.intro rfl ?_)) ⟨F.pick [0, 1] (by decide), by omega, by omega, by omega, by omega, hg, .inr ⟨by omega, htk.symm⟩⟩ (by first | omega | (simp only; omega))))
            | (obtain ⟨hi1, hp1⟩ := hpp
               subst hi1; subst hp1
               first
                 | exact K0.nx (-1 + 1, sv, sv, tv) (by repeat (first | exact trivial | refine And.intro rfl ?_)) ⟨F.pick [0, 1] (by decide), by omega, by omega, by omega, by omega, hg, .inr ⟨by omega, (if_pos (by assumption)).symm⟩⟩ (by first | omega | (simp only; omega))
                 | exact K0.nx (-1 + 1, -1, sv, tv) (by repeat (first | exact trivial | refine And.intro rfl ?_)) ⟨F.pick [0, 1] (by decide), by omega, by omega, by omega, by omega, hg, .inr ⟨by omega, (if_neg (by simp_all)).symm⟩⟩ (by first | omega | (simp only; omega)))
        try simp only [irr_eq, beq_iff_eq, bne_iff_ne, beq_eq_false_iff_ne, bne_eq_false_iff_eq, ne_eq, decide_eq_true_eq, decide_eq_false_iff_not, Bool.not_eq_true', Bool.not_eq_false'] at hc14
        refine k_skip ?_
        refine BlkK.nx (by assumption) ?_
        refine SeqK.nx (by assumption) ?_
        refine k_lin (fun W K => ?_)
        refine l_op 0 rfl rfl rfl rfl rfl ?_
        refine l_a64 rfl rfl rfl (by omega) rfl ?_
        refine l_op 0 rfl rfl rfl rfl rfl ?_
        refine l_nil (WK.nx (by assumption) ?_)
        have hg : MG most st en bl L n e sv tv := ⟨⟨sv0, sv1⟩, ⟨tv0, tv1⟩, tvm, hlf, hmr, hp0, hpt⟩
        first
          | (have e1 : (i + 1).toNat = i.toNat + 1 := by omega
             first
               | (rw [lst_yes (by omega) (by assumption), ← e1] at htk
                  exact K0.nx (i + 1, (L.getD i.toNat default).1 + (L.getD i.toNat default).2, sv, tv) (by repeat (first | exact trivial | refine And.intro rfl ?_)) ⟨F.pick [0, 1] (by decide), by omega, by omega, by omega, by omega, hg, .inr ⟨by omega, htk.symm⟩⟩ (by first | omega | (simp only; omega)))
               | (rw [lst_no1 (by omega) (by omega), ← e1] at htk
                  exact K0.nx (i + 1, p, sv, tv) (by repeat (first | exact trivial | refine And.intro rfl ?_)) ⟨F.pick [0, 1] (by decide), by omega, by omega, by omega, by omega, hg, .inr ⟨by omega, htk.symm⟩⟩ (by first | omega | (simp only; omega)))
               | (rw [lst_no2 (by assumption), ← e1] at htk
                  exact K0.nx (i + 1, p, sv, tv) (by repeat (first | exact trivial | refine And.intro rfl ?_)) ⟨F.pick [0, 1] (by decide), by omega, by omega, by omega, by omega, hg, .inr ⟨by omega, htk.symm⟩⟩ (by first | omega | (simp only; omega))))
          | (obtain ⟨hi1, hp1⟩ := hpp
             subst hi1; subst hp1
             first
               | exact K0.nx (-1 + 1, sv, sv, tv) (by repeat (first | exact trivial | refine And.intro rfl ?_)) ⟨F.pick [0, 1] (by decide), by omega, by omega, by omega, by omega, hg, .inr ⟨by omega, (if_pos (by assumption)).symm⟩⟩ (by first | omega | (simp only; omega))
               | exact K0.nx (-1 + 1, -1, sv, tv) (by repeat (first | exact trivial | refine And.intro rfl ?_)) ⟨F.pick [0, 1] (by decide), by omega, by omega, by omega, by omega, hg, .inr ⟨by omega, (if_neg (by simp_all)).symm⟩⟩ (by first | omega | (simp only; omega)))
      replace hc13 := of_decide_eq_false ((irr_eq _).symm.trans hc13)
      refine l_op 0 rfl rfl rfl rfl rfl ?_
      refine l_op 0 rfl rfl rfl rfl rfl ?_
      refine l_cmp rfl rfl rfl rfl ?_
      refine l_op 2 rfl rfl rfl rfl rfl ?_
      refine l_op 0 rfl rfl rfl rfl rfl ?_
      refine l_guard rfl rfl rfl (fun hc15 => ?_) (fun hc15 => ?_)
      · replace hc15 := of_decide_eq_true ((irr_eq _).symm.trans hc15)
        refine l_op 0 rfl rfl rfl rfl rfl ?_
        refine l_op 0 rfl rfl rfl rfl rfl ?_
        refine l_op 0 rfl rfl rfl rfl rfl ?_
        refine l_c64 rfl rfl rfl (by omega) rfl ?_
        refine l_callp F rfl rfl (by kernel_rfl) rfl rfl (rfree_call (F.cel0 0 rfl) (Old.pure (F.has 1 rfl)) hBL (by omega) ⟨by omega, by omega⟩ hu') (fun _ s F _ => ?_)
        (try dsimp only [n_1, n_2, n_3, n_4, List.append_nil, pk, n_5, n_6] at F)
        refine l_op 2 rfl rfl rfl rfl rfl ?_
        refine l_nil (WK.nx (by assumption) ?_)
        refine SeqK.nx (by assumption) ?_
        refine l_cond rfl rfl (fun hc16 => ?_) (fun hc16 => ?_)
        · try simp only [irr_eq, beq_iff_eq, bne_iff_ne, beq_eq_false_iff_ne, bne_eq_false_iff_eq, ne_eq, decide_eq_true_eq, decide_eq_false_iff_not, Bool.not_eq_true', Bool.not_eq_false'] at hc16
          refine k_lin (fun W K => ?_)
          refine l_op 0 rfl rfl rfl rfl rfl ?_
          refine l_op 0 rfl rfl rfl rfl rfl ?_
          refine l_nil (WK.nx (by assumption) ?_)
          refine BlkK.nx (by assumption) ?_
          refine SeqK.nx (by assumption) ?_
          refine k_lin (fun W K => ?_)
          refine l_op 0 rfl rfl rfl rfl rfl ?_
          refine l_a64 rfl rfl rfl (by omega) rfl ?_
          refine l_op 0 rfl rfl rfl rfl rfl ?_
          refine l_nil (WK.nx (by assumption) ?_)
          have hg : MG most st en bl L n e sv tv := ⟨⟨sv0, sv1⟩, ⟨tv0, tv1⟩, tvm, hlf, hmr, hp0, hpt⟩
          first
            | (have e1 : (i + 1).toNat = i.toNat + 1 := by omega
               first
                 | (rw [lst_yes (by omega) (by assumption), ← e1] at htk
                    exact K0.nx (i + 1, (L.getD i.toNat default).1 + (L.getD i.toNat default).2, sv, tv) (by repeat (first | exact trivial | refine And.intro rfl ?_)) ⟨F.pick [0, 1] (by decide), by omega, by omega, by omega, by omega, hg, .inr ⟨by omega, htk.symm⟩⟩ (by first | omega | (simp only; omega)))
                 | (rw [lst_no1 (by omega) (by omega), ← e1] at htk
                    exact K0.nx (i + 1, p, sv, tv) (by repeat (first | exact trivial | refine And.intro rfl ?_)) ⟨F.pick [0, 1] (by decide), by omega, by omega, by omega, by omega, hg, .inr ⟨by omega, htk.symm⟩⟩ (by first | omega | (simp only; omega)))
                 | (rw [lst_no2 (by assumption), ← e1] at htk
                    exact K0.nx (i + 1, p, sv, tv) (by repeat (first | exact trivial | refine And.intro rfl ?_)) ⟨F.pick [0, 1] (by decide), by omega, by omega, by omega, by omega, hg, .inr ⟨by omega, htk.symm⟩⟩ (by first | omega | (simp only; omega))))
            | (obtain ⟨hi1, hp1⟩ := hpp
               subst hi1; subst hp1
               first
                 | exact K0.nx (-1 + 1, sv, sv, tv) (by repeat (first | exact trivial | refine And.intro rfl ?_)) ⟨F.pick [0, 1] (by decide), by omega, by omega, by omega, by omega, hg, .inr ⟨by omega, (if_pos (by assumption)).symm⟩⟩ (by first | omega | (simp only; omega))
                 | exact K0.nx (-1 + 1, -1, sv, tv) (by repeat (first | exact trivial | refine And.intro rfl ?_)) ⟨F.pick [0, 1] (by decide), by omega, by omega, by omega, by omega, hg, .inr ⟨by omega, (if_neg (by simp_all)).symm⟩⟩ (by first | omega | (simp only; omega)))
        try simp only [irr_eq, beq_iff_eq, bne_iff_ne, beq_eq_false_iff_ne, bne_eq_false_iff_eq, ne_eq, decide_eq_true_eq, decide_eq_false_iff_not, Bool.not_eq_true', Bool.not_eq_false'] at hc16
        refine k_skip ?_
        refine BlkK.nx (by assumption) ?_
        refine SeqK.nx (by assumption) ?_
        refine k_lin (fun W K => ?_)
        refine l_op 0 rfl rfl rfl rfl rfl ?_
        refine l_a64 rfl rfl rfl (by omega) rfl ?_
        refine l_op 0 rfl rfl rfl rfl rfl ?_
        refine l_nil (WK.nx (by assumption) ?_)
        have hg : MG most st en bl L n e sv tv := ⟨⟨sv0, sv1⟩, ⟨tv0, tv1⟩, tvm, hlf, hmr, hp0, hpt⟩
        first
          | (have e1 : (i + 1).toNat = i.toNat + 1 := by omega
             first
               | (rw [lst_yes (by omega) (by assumption), ← e1] at htk
                  exact K0.nx (i + 1, (L.getD i.toNat default).1 + (L.getD i.toNat default).2, sv, tv) (by repeat (first | exact trivial | refine And.intro rfl ?_)) ⟨F.pick [0, 1] (by decide), by omega, by omega, by omega, by omega, hg, .inr ⟨by omega, htk.symm⟩⟩ (by first | omega | (simp only; omega)))
               | (rw [lst_no1 (by omega) (by omega), ← e1] at htk
                  exact K0.nx (i + 1, p, sv, tv) (by repeat (first | exact trivial | refine And.intro rfl ?_)) ⟨F.pick [0, 1] (by decide), by omega, by omega, by omega, by omega, hg, .inr ⟨by omega, htk.symm⟩⟩ (by first | omega | (simp only; omega)))
               | (rw [lst_no2 (by assumption), ← e1] at htk
                  exact K0.nx (i + 1, p, sv, tv) (by repeat (first | exact trivial | refine And.intro rfl ?_)) ⟨F.pick [0, 1] (by decide), by omega, by omega, by omega, by omega, hg, .inr ⟨by omega, htk.symm⟩⟩ (by first | omega | (simp only; omega))))
          | (obtain ⟨hi1, hp1⟩ := hpp
             subst hi1; subst hp1
             first
               | exact K0.nx (-1 + 1, sv, sv, tv) (by repeat (first | exact trivial | refine And.intro rfl ?_)) ⟨F.pick [0, 1] (by decide), by omega, by omega, by omega, by omega, hg, .inr ⟨by omega, (if_pos (by assumption)).symm⟩⟩ (by first | omega | (simp only; omega))
               | exact K0.nx (-1 + 1, -1, sv, tv) (by repeat (first | exact trivial | refine And.intro rfl ?_)) ⟨F.pick [0, 1] (by decide), by omega, by omega, by omega, by omega, hg, .inr ⟨by omega, (if_neg (by simp_all)).symm⟩⟩ (by first | omega | (simp only; omega)))
      replace hc15 := of_decide_eq_false ((irr_eq _).symm.trans hc15)
      refine l_s rfl rfl ?_
      refine l_s rfl rfl ?_
      refine l_s rfl rfl ?_
      refine l_s rfl rfl ?_
      refine l_s rfl rfl ?_
      refine l_op 2 rfl rfl rfl rfl rfl ?_
      refine l_nil (WK.nx (by assumption) ?_)
      refine SeqK.nx (by assumption) ?_
      first | refine e_cond_f rfl rfl rfl ?_ | refine e_cond_f rfl rfl (by rw [irr_eq]; first | exact beq_eq_false_iff_ne.2 (by assumption) | exact decide_eq_false (by assumption) | exact bne_eq_false_iff_eq.2 (by assumption)) ?_
      refine k_skip ?_
      refine BlkK.nx (by assumption) ?_
      refine SeqK.nx (by assumption) ?_
      refine k_lin (fun W K => ?_)
      refine l_op 0 rfl rfl rfl rfl rfl ?_
      refine l_a64 rfl rfl rfl (by omega) rfl ?_
      refine l_op 0 rfl rfl rfl rfl rfl ?_
      refine l_nil (WK.nx (by assumption) ?_)
      have hg : MG most st en bl L n e sv tv := ⟨⟨sv0, sv1⟩, ⟨tv0, tv1⟩, tvm, hlf, hmr, hp0, hpt⟩
      first
        | (have e1 : (i + 1).toNat = i.toNat + 1 := by omega
           first
             | (rw [lst_yes (by omega) (by assumption), ← e1] at htk
                exact K0.nx (i + 1, (L.getD i.toNat default).1 + (L.getD i.toNat default).2, sv, tv) (by repeat (first | exact trivial | refine And.intro rfl ?_)) ⟨F.pick [0, 1] (by decide), by omega, by omega, by omega, by omega, hg, .inr ⟨by omega, htk.symm⟩⟩ (by first | omega | (simp only; omega)))
             | (rw [lst_no1 (by omega) (by omega), ← e1] at htk
                exact K0.nx (i + 1, p, sv, tv) (by repeat (first | exact trivial | refine And.intro rfl ?_)) ⟨F.pick [0, 1] (by decide), by omega, by omega, by omega, by omega, hg, .inr ⟨by omega, htk.symm⟩⟩ (by first | omega | (simp only; omega)))
             | (rw [lst_no2 (by assumption), ← e1] at htk
                exact K0.nx (i + 1, p, sv, tv) (by repeat (first | exact trivial | refine And.intro rfl ?_)) ⟨F.pick [0, 1] (by decide), by omega, by omega, by omega, by omega, hg, .inr ⟨by omega, htk.symm⟩⟩ (by first | omega | (simp only; omega))))
        | (obtain ⟨hi1, hp1⟩ := hpp
           subst hi1; subst hp1
           first
             | exact K0.nx (-1 + 1, sv, sv, tv) (by repeat (first | exact trivial | refine And.intro rfl ?_)) ⟨F.pick [0, 1] (by decide), by omega, by omega, by omega, by omega, hg, .inr ⟨by omega, (if_pos (by assumption)).symm⟩⟩ (by first | omega | (simp only; omega))
             | exact K0.nx (-1 + 1, -1, sv, tv) (by repeat (first | exact trivial | refine And.intro rfl ?_)) ⟨F.pick [0, 1] (by decide), by omega, by omega, by omega, by omega, hg, .inr ⟨by omega, (if_neg (by simp_all)).symm⟩⟩ (by first | omega | (simp only; omega)))
    replace hc7 := of_decide_eq_false ((irr_eq _).symm.trans hc7)
    have hpp : p = (placeR n sv bl).1 := by
      rcases hip with h | h
      · omega
      · rw [h.2, List.take_of_length_le (by omega), hlf]
    rw [← hpp] at hp0 hpt
    obtain ⟨ix, hix⟩ : ∃ ix, placeR n sv bl = (p, ix) := ⟨(placeR n sv bl).2, by rw [hpp]⟩
    refine k_exit ?_
    refine SeqK.et (by assumption) ?_
    refine LoopK.et (by assumption) ?_
    refine BlkK.et (by assumption) ?_
    refine SeqK.nx (by assumption) ?_
    refine k_seq (fun Q K => ?_)
    refine k_seq (fun Q K => ?_)
    refine k_lin (fun W K => ?_)
    refine l_op 0 rfl rfl rfl rfl rfl ?_
    refine l_op 0 rfl rfl rfl rfl rfl ?_
    refine l_c64 rfl rfl rfl (by omega) rfl ?_
    refine l_a64 rfl rfl rfl (by omega) rfl ?_
    refine l_op 0 rfl rfl rfl rfl rfl ?_
    refine l_cmp rfl rfl rfl rfl ?_
    refine l_nil (WK.nx (by assumption) ?_)
    refine SeqK.nx (by assumption) ?_
    refine l_cond rfl rfl (fun hc17 => ?_) (fun hc17 => ?_)
    · replace hc17 := of_decide_eq_true ((irr_eq _).symm.trans hc17)
      refine k_seq (fun Q K => ?_)
      refine k_lin (fun W K => ?_)
      refine l_op 0 rfl rfl rfl rfl rfl ?_
      refine l_op 0 rfl rfl rfl rfl rfl ?_
      refine l_c64 rfl rfl rfl (by omega) rfl ?_
      refine l_a64 rfl rfl rfl (by omega) rfl ?_
      refine l_op 0 rfl rfl rfl rfl rfl ?_
      refine l_nil (WK.nx (by assumption) ?_)
      refine SeqK.nx (by assumption) ?_
      refine k_seq (fun Q K => ?_)
      refine k_seq (fun Q K => ?_)
      refine k_lin (fun W K => ?_)
      refine l_op 0 rfl rfl rfl rfl rfl ?_
      first | refine l_remn rfl rfl rfl rfl rfl (by omega) rfl ?_ | refine l_rem rfl rfl rfl rfl rfl (by omega) rfl ?_
      refine l_cmp rfl rfl rfl rfl ?_
      refine l_nil (WK.nx (by assumption) ?_)
      refine SeqK.nx (by assumption) ?_
      refine l_cond rfl rfl (fun hc18 => ?_) (fun hc18 => ?_)
      · first | replace hc18 := bne_iff_ne.1 ((irr_eq _).symm.trans hc18) | simp only [irr_eq, bne_iff_ne, bne_eq_false_iff_eq, ne_eq, decide_eq_true_eq, decide_eq_false_iff_not, Bool.not_eq_true', Bool.not_eq_false'] at hc18
        refine k_lin (fun W K => ?_)
        refine l_op 0 rfl rfl rfl rfl rfl ?_
        refine l_a64 rfl rfl rfl (by omega) rfl ?_
        refine l_op 0 rfl rfl rfl rfl rfl ?_
        first | refine l_remn rfl rfl rfl rfl rfl (by omega) rfl ?_ | refine l_rem rfl rfl rfl rfl rfl (by omega) rfl ?_
        refine l_a64 rfl rfl rfl (by omega) rfl ?_
        refine l_op 0 rfl rfl rfl rfl rfl ?_
        refine l_nil (WK.nx (by assumption) ?_)
        refine SeqK.nx (by assumption) ?_
        refine k_seq (fun Q K => ?_)
        refine k_lin (fun W K => ?_)
        refine l_op 0 rfl rfl rfl rfl rfl ?_
        refine l_op 0 rfl rfl rfl rfl rfl ?_
        refine l_op 2 rfl rfl rfl rfl rfl ?_
        refine l_op 2 rfl rfl rfl rfl rfl ?_
        refine l_ldc F 0 rfl rfl rfl rfl rfl rfl rfl ?_
        refine l_cmp rfl rfl rfl rfl ?_
        refine l_nil (WK.nx (by assumption) ?_)
        refine SeqK.nx (by assumption) ?_
        refine l_cond rfl rfl (fun hc19 => ?_) (fun hc19 => ?_)
        · replace hc19 := of_decide_eq_true ((irr_eq _).symm.trans hc19)
          refine k_seq (fun Q K => ?_)
          refine k_lin (fun W K => ?_)
          refine l_op 0 rfl rfl rfl rfl rfl ?_
          refine l_op 0 rfl rfl rfl rfl rfl ?_
          refine l_nil (WK.nx (by assumption) ?_)
          refine SeqK.nx (by assumption) ?_
          refine k_ret ?_
          refine SeqK.rt (by assumption) ?_
          refine FunK.rt (by assumption) rfl ?_
          -- leaf 6
          first
            | (have hr : mallocR most st en bl n e = ⟨0, false, st, en, bl⟩ := mallocR_none (by omega)
               rw [hr]; exact ⟨(a, c, L), rfl, F.pick [0, 1] (by decide), hP⟩)
            | (have hr : mallocR most st en bl n e = ⟨0, false, st, en, bl⟩ := by subst hbl; exact mallocR_none (.inr (.inr ⟨rfl, by omega⟩))
               rw [hr]; exact ⟨(a, c, L), rfl, F.pick [0, 1] (by decide), hP⟩)
            | (have hr : mallocR most st en bl n e = ⟨0, false, st, en, bl⟩ := by rw [hmr]; exact mallocA_no hix (by omega) (by omega)
               rw [hr]; exact ⟨(a, c, L), rfl, F.pick [0, 1] (by decide), hP⟩)
            | (have hr : mallocR most st en bl n e = ⟨p, true, sv, p + n + 256 - (p + n) % 256, ins bl ix (p, n)⟩ := by
                 rw [hmr, mallocA_top hix (by omega) (by omega) m1]
                 rw [show (p + n + 255) / 256 * 256 = p + n + 256 - (p + n) % 256 by omega]
               rw [hr]
               have hl1 : (L ++ [(p, n)]).length = 0 + L.length + 1 := by simp
               have hr1 : rows eB (L ++ [(p, n)]) = rows eB L ++ rows eB [(p, n)] := rows_append _ _ _
               refine ⟨(x147, c147, L ++ [(p, n)]), rfl, ?_, perm_ins hP _ _⟩
               show Facts O σ s [cel m (rC x147 c147 most _ _ (L ++ [(p, n)])), own x147 (L ++ [(p, n)]).length c147 2 (rows eB (L ++ [(p, n)]))]
               rw [hr1]
               unfold rC
               rw [hl1]
               exact F.pick [0, 2] (by decide))
            | (have hr : mallocR most st en bl n e = ⟨p, true, sv, p + n, ins bl ix (p, n)⟩ := by
                 rw [hmr, mallocA_top hix (by omega) (by omega) m1]
                 rw [show (p + n + 255) / 256 * 256 = p + n by omega]
               rw [hr]
               have hl1 : (L ++ [(p, n)]).length = 0 + L.length + 1 := by simp
               have hr1 : rows eB (L ++ [(p, n)]) = rows eB L ++ rows eB [(p, n)] := rows_append _ _ _
               refine ⟨(x147, c147, L ++ [(p, n)]), rfl, ?_, perm_ins hP _ _⟩
               show Facts O σ s [cel m (rC x147 c147 most _ _ (L ++ [(p, n)])), own x147 (L ++ [(p, n)]).length c147 2 (rows eB (L ++ [(p, n)]))]
               rw [hr1]
               unfold rC
               rw [hl1]
               exact F.pick [0, 2] (by decide))
            | (have hr : mallocR most st en bl n e = ⟨p, true, sv, tv, ins bl ix (p, n)⟩ := by
                 rw [hmr, mallocA_in hix (by omega)]
               rw [hr]
               have hl1 : (L ++ [(p, n)]).length = 0 + L.length + 1 := by simp
               have hr1 : rows eB (L ++ [(p, n)]) = rows eB L ++ rows eB [(p, n)] := rows_append _ _ _
               refine ⟨(x147, c147, L ++ [(p, n)]), rfl, ?_, perm_ins hP _ _⟩
               show Facts O σ s [cel m (rC x147 c147 most _ _ (L ++ [(p, n)])), own x147 (L ++ [(p, n)]).length c147 2 (rows eB (L ++ [(p, n)]))]
               rw [hr1]
               unfold rC
               rw [hl1]
               exact F.pick [0, 2] (by decide))
        replace hc19 := of_decide_eq_false ((irr_eq _).symm.trans hc19)
        refine k_skip ?_
        refine SeqK.nx (by assumption) ?_
        refine k_seq (fun Q K => ?_)
        refine k_lin (fun W K => ?_)
        refine l_op 0 rfl rfl rfl rfl rfl ?_
        refine l_op 0 rfl rfl rfl rfl rfl ?_
        refine l_op 0 rfl rfl rfl rfl rfl ?_
        refine l_op 0 rfl rfl rfl rfl rfl ?_
        refine l_op 2 rfl rfl rfl rfl rfl ?_
        refine l_op 2 rfl rfl rfl rfl rfl ?_
        refine l_stc F 0 rfl rfl rfl rfl rfl rfl rfl rfl rfl hD (fun s F => ?_)
        (try dsimp only [n_1, n_2, n_3, n_4, List.append_nil, pk, n_5, n_6] at F)
        refine l_op 2 rfl rfl rfl rfl rfl ?_
        refine l_op 2 rfl rfl rfl rfl rfl ?_
        refine l_stc F 0 rfl rfl rfl rfl rfl rfl rfl rfl rfl hD (fun s F => ?_)
        (try dsimp only [n_1, n_2, n_3, n_4, List.append_nil, pk, n_5, n_6] at F)
        refine l_nil (WK.nx (by assumption) ?_)
        refine SeqK.nx (by assumption) ?_
        refine k_seq (fun Q K => ?_)
        refine k_lin (fun W K => ?_)
        refine l_op 0 rfl rfl rfl rfl rfl ?_
        refine l_lit (k := 2) F rfl rfl rfl rfl (fun q136 s F => ?_)
        (try dsimp only [n_1, n_2, n_3, n_4, List.append_nil, pk, n_5, n_6] at F)
        refine l_op 0 rfl rfl rfl rfl rfl ?_
        refine l_op 2 rfl rfl rfl rfl rfl ?_
        refine l_op 2 rfl rfl rfl rfl rfl ?_
        refine l_ldc F 0 rfl rfl rfl rfl rfl rfl rfl ?_
        refine l_app (es := 2) (vs := []) F 2 rfl rfl rfl rfl rfl rfl rfl (F.has 1 rfl) (eB_one L) rfl (by omega) hD (fun x141 c141 s F => ?_)
        (try dsimp only [n_1, n_2, n_3, n_4, List.append_nil, pk, n_5, n_6] at F)
        refine l_op 0 rfl rfl rfl rfl rfl ?_
        refine l_c32 rfl rfl rfl (by omega) rfl ?_
        refine l_op 0 rfl rfl rfl rfl rfl ?_
        refine l_bld rfl rfl rfl rfl ?_
        refine l_lit (k := 2) F rfl rfl rfl rfl (fun q146 s F => ?_)
        (try dsimp only [n_1, n_2, n_3, n_4, List.append_nil, pk, n_5, n_6] at F)
        refine l_app (es := 2) (ns := rows eB [(p, n)]) F 2 rfl rfl rfl rfl rfl rfl rfl (F.has 3 rfl) (eB_one [(p, n)]) rfl (by omega) hD (fun x147 c147 s F => ?_)
        (try dsimp only [n_1, n_2, n_3, n_4, List.append_nil, pk, n_5, n_6] at F)
        refine l_op 2 rfl rfl rfl rfl rfl ?_
        refine l_op 2 rfl rfl rfl rfl rfl ?_
        refine l_stc F 0 rfl rfl rfl rfl rfl rfl rfl rfl rfl hD (fun s F => ?_)
        (try dsimp only [n_1, n_2, n_3, n_4, List.append_nil, pk, n_5, n_6] at F)
        refine l_nil (WK.nx (by assumption) ?_)
        refine SeqK.nx (by assumption) ?_
        refine k_seq (fun Q K => ?_)
        refine k_lin (fun W K => ?_)
        refine l_op 0 rfl rfl rfl rfl rfl ?_
        refine l_c32 rfl rfl rfl (by omega) rfl ?_
        refine l_op 0 rfl rfl rfl rfl rfl ?_
        refine l_op 0 rfl rfl rfl rfl rfl ?_
        refine l_nil (WK.nx (by assumption) ?_)
        refine SeqK.nx (by assumption) ?_
        refine k_ret ?_
        refine FunK.rt (by assumption) rfl ?_
        -- leaf 7
        first
          | (have hr : mallocR most st en bl n e = ⟨0, false, st, en, bl⟩ := mallocR_none (by omega)
             rw [hr]; exact ⟨(a, c, L), rfl, F.pick [0, 1] (by decide), hP⟩)
          | (have hr : mallocR most st en bl n e = ⟨0, false, st, en, bl⟩ := by subst hbl; exact mallocR_none (.inr (.inr ⟨rfl, by omega⟩))
             rw [hr]; exact ⟨(a, c, L), rfl, F.pick [0, 1] (by decide), hP⟩)
          | (have hr : mallocR most st en bl n e = ⟨0, false, st, en, bl⟩ := by rw [hmr]; exact mallocA_no hix (by omega) (by omega)
             rw [hr]; exact ⟨(a, c, L), rfl, F.pick [0, 1] (by decide), hP⟩)
          | (have hr : mallocR most st en bl n e = ⟨p, true, sv, p + n + 256 - (p + n) % 256, ins bl ix (p, n)⟩ := by
               rw [hmr, mallocA_top hix (by omega) (by omega) m1]
               rw [show (p + n + 255) / 256 * 256 = p + n + 256 - (p + n) % 256 by omega]
             rw [hr]
             have hl1 : (L ++ [(p, n)]).length = 0 + L.length + 1 := by simp
             have hr1 : rows eB (L ++ [(p, n)]) = rows eB L ++ rows eB [(p, n)] := rows_append _ _ _
             refine ⟨(x147, c147, L ++ [(p, n)]), rfl, ?_, perm_ins hP _ _⟩
             show Facts O σ s [cel m (rC x147 c147 most _ _ (L ++ [(p, n)])), own x147 (L ++ [(p, n)]).length c147 2 (rows eB (L ++ [(p, n)]))]
             rw [hr1]
             unfold rC
             rw [hl1]
             exact F.pick [0, 2] (by decide))
          | (have hr : mallocR most st en bl n e = ⟨p, true, sv, p + n, ins bl ix (p, n)⟩ := by
               rw [hmr, mallocA_top hix (by omega) (by omega) m1]
               rw [show (p + n + 255) / 256 * 256 = p + n by omega]
             rw [hr]
             have hl1 : (L ++ [(p, n)]).length = 0 + L.length + 1 := by simp
             have hr1 : rows eB (L ++ [(p, n)]) = rows eB L ++ rows eB [(p, n)] := rows_append _ _ _
             refine ⟨(x147, c147, L ++ [(p, n)]), rfl, ?_, perm_ins hP _ _⟩
             show Facts O σ s [cel m (rC x147 c147 most _ _ (L ++ [(p, n)])), own x147 (L ++ [(p, n)]).length c147 2 (rows eB (L ++ [(p, n)]))]
             rw [hr1]
             unfold rC
             rw [hl1]
             exact F.pick [0, 2] (by decide))
          | (have hr : mallocR most st en bl n e = ⟨p, true, sv, tv, ins bl ix (p, n)⟩ := by
               rw [hmr, mallocA_in hix (by omega)]
             rw [hr]
             have hl1 : (L ++ [(p, n)]).length = 0 + L.length + 1 := by simp
             have hr1 : rows eB (L ++ [(p, n)]) = rows eB L ++ rows eB [(p, n)] := rows_append _ _ _
             refine ⟨(x147, c147, L ++ [(p, n)]), rfl, ?_, perm_ins hP _ _⟩
             show Facts O σ s [cel m (rC x147 c147 most _ _ (L ++ [(p, n)])), own x147 (L ++ [(p, n)]).length c147 2 (rows eB (L ++ [(p, n)]))]
             rw [hr1]
             unfold rC
             rw [hl1]
             exact F.pick [0, 2] (by decide))
      first | replace hc18 := bne_eq_false_iff_eq.1 ((irr_eq _).symm.trans hc18) | simp only [irr_eq, bne_iff_ne, bne_eq_false_iff_eq, ne_eq, decide_eq_true_eq, decide_eq_false_iff_not, Bool.not_eq_true', Bool.not_eq_false'] at hc18
      refine k_skip ?_
      refine SeqK.nx (by assumption) ?_
      refine k_seq (fun Q K => ?_)
      refine k_lin (fun W K => ?_)
      refine l_op 0 rfl rfl rfl rfl rfl ?_
      refine l_op 0 rfl rfl rfl rfl rfl ?_
      refine l_op 2 rfl rfl rfl rfl rfl ?_
      refine l_op 2 rfl rfl rfl rfl rfl ?_
      refine l_ldc F 0 rfl rfl rfl rfl rfl rfl rfl ?_
      refine l_cmp rfl rfl rfl rfl ?_
      refine l_nil (WK.nx (by assumption) ?_)
      refine SeqK.nx (by assumption) ?_
      refine l_cond rfl rfl (fun hc20 => ?_) (fun hc20 => ?_)
      · replace hc20 := of_decide_eq_true ((irr_eq _).symm.trans hc20)
        refine k_seq (fun Q K => ?_)
        refine k_lin (fun W K => ?_)
        refine l_op 0 rfl rfl rfl rfl rfl ?_
        refine l_op 0 rfl rfl rfl rfl rfl ?_
        refine l_nil (WK.nx (by assumption) ?_)
        refine SeqK.nx (by assumption) ?_
        refine k_ret ?_
        refine SeqK.rt (by assumption) ?_
        refine FunK.rt (by assumption) rfl ?_
        -- leaf 8
        first
          | (have hr : mallocR most st en bl n e = ⟨0, false, st, en, bl⟩ := mallocR_none (by omega)
             rw [hr]; exact ⟨(a, c, L), rfl, F.pick [0, 1] (by decide), hP⟩)
          | (have hr : mallocR most st en bl n e = ⟨0, false, st, en, bl⟩ := by subst hbl; exact mallocR_none (.inr (.inr ⟨rfl, by omega⟩))
             rw [hr]; exact ⟨(a, c, L), rfl, F.pick [0, 1] (by decide), hP⟩)
          | (have hr : mallocR most st en bl n e = ⟨0, false, st, en, bl⟩ := by rw [hmr]; exact mallocA_no hix (by omega) (by omega)
             rw [hr]; exact ⟨(a, c, L), rfl, F.pick [0, 1] (by decide), hP⟩)
          | (have hr : mallocR most st en bl n e = ⟨p, true, sv, p + n + 256 - (p + n) % 256, ins bl ix (p, n)⟩ := by
               rw [hmr, mallocA_top hix (by omega) (by omega) m1]
               rw [show (p + n + 255) / 256 * 256 = p + n + 256 - (p + n) % 256 by omega]
             rw [hr]
             have hl1 : (L ++ [(p, n)]).length = 0 + L.length + 1 := by simp
             have hr1 : rows eB (L ++ [(p, n)]) = rows eB L ++ rows eB [(p, n)] := rows_append _ _ _
             refine ⟨(x147, c147, L ++ [(p, n)]), rfl, ?_, perm_ins hP _ _⟩
             show Facts O σ s [cel m (rC x147 c147 most _ _ (L ++ [(p, n)])), own x147 (L ++ [(p, n)]).length c147 2 (rows eB (L ++ [(p, n)]))]
             rw [hr1]
             unfold rC
             rw [hl1]
             exact F.pick [0, 2] (by decide))
          | (have hr : mallocR most st en bl n e = ⟨p, true, sv, p + n, ins bl ix (p, n)⟩ := by
               rw [hmr, mallocA_top hix (by omega) (by omega) m1]
               rw [show (p + n + 255) / 256 * 256 = p + n by omega]
             rw [hr]
             have hl1 : (L ++ [(p, n)]).length = 0 + L.length + 1 := by simp
             have hr1 : rows eB (L ++ [(p, n)]) = rows eB L ++ rows eB [(p, n)] := rows_append _ _ _
             refine ⟨(x147, c147, L ++ [(p, n)]), rfl, ?_, perm_ins hP _ _⟩
             show Facts O σ s [cel m (rC x147 c147 most _ _ (L ++ [(p, n)])), own x147 (L ++ [(p, n)]).length c147 2 (rows eB (L ++ [(p, n)]))]
             rw [hr1]
             unfold rC
             rw [hl1]
             exact F.pick [0, 2] (by decide))
          | (have hr : mallocR most st en bl n e = ⟨p, true, sv, tv, ins bl ix (p, n)⟩ := by
               rw [hmr, mallocA_in hix (by omega)]
             rw [hr]
             have hl1 : (L ++ [(p, n)]).length = 0 + L.length + 1 := by simp
             have hr1 : rows eB (L ++ [(p, n)]) = rows eB L ++ rows eB [(p, n)] := rows_append _ _ _
             refine ⟨(x147, c147, L ++ [(p, n)]), rfl, ?_, perm_ins hP _ _⟩
             show Facts O σ s [cel m (rC x147 c147 most _ _ (L ++ [(p, n)])), own x147 (L ++ [(p, n)]).length c147 2 (rows eB (L ++ [(p, n)]))]
             rw [hr1]
             unfold rC
             rw [hl1]
             exact F.pick [0, 2] (by decide))
      replace hc20 := of_decide_eq_false ((irr_eq _).symm.trans hc20)
      refine k_skip ?_
      refine SeqK.nx (by assumption) ?_
      refine k_seq (fun Q K => ?_)
      refine k_lin (fun W K => ?_)
      refine l_op 0 rfl rfl rfl rfl rfl ?_
      refine l_op 0 rfl rfl rfl rfl rfl ?_
      refine l_op 0 rfl rfl rfl rfl rfl ?_
      refine l_op 0 rfl rfl rfl rfl rfl ?_
      refine l_op 2 rfl rfl rfl rfl rfl ?_
      refine l_op 2 rfl rfl rfl rfl rfl ?_
      refine l_stc F 0 rfl rfl rfl rfl rfl rfl rfl rfl rfl hD (fun s F => ?_)
      (try dsimp only [n_1, n_2, n_3, n_4, List.append_nil, pk, n_5, n_6] at F)
      refine l_op 2 rfl rfl rfl rfl rfl ?_
      refine l_op 2 rfl rfl rfl rfl rfl ?_
      refine l_stc F 0 rfl rfl rfl rfl rfl rfl rfl rfl rfl hD (fun s F => ?_)
      (try dsimp only [n_1, n_2, n_3, n_4, List.append_nil, pk, n_5, n_6] at F)
      refine l_nil (WK.nx (by assumption) ?_)
      refine SeqK.nx (by assumption) ?_
      refine k_seq (fun Q K => ?_)
      refine k_lin (fun W K => ?_)
      refine l_op 0 rfl rfl rfl rfl rfl ?_
      refine l_lit (k := 2) F rfl rfl rfl rfl (fun q136 s F => ?_)
      (try dsimp only [n_1, n_2, n_3, n_4, List.append_nil, pk, n_5, n_6] at F)
      refine l_op 0 rfl rfl rfl rfl rfl ?_
      refine l_op 2 rfl rfl rfl rfl rfl ?_
      refine l_op 2 rfl rfl rfl rfl rfl ?_
      refine l_ldc F 0 rfl rfl rfl rfl rfl rfl rfl ?_
      refine l_app (es := 2) (vs := []) F 2 rfl rfl rfl rfl rfl rfl rfl (F.has 1 rfl) (eB_one L) rfl (by omega) hD (fun x141 c141 s F => ?_)
      (try dsimp only [n_1, n_2, n_3, n_4, List.append_nil, pk, n_5, n_6] at F)
      refine l_op 0 rfl rfl rfl rfl rfl ?_
      refine l_c32 rfl rfl rfl (by omega) rfl ?_
      refine l_op 0 rfl rfl rfl rfl rfl ?_
      refine l_bld rfl rfl rfl rfl ?_
      refine l_lit (k := 2) F rfl rfl rfl rfl (fun q146 s F => ?_)
      (try dsimp only [n_1, n_2, n_3, n_4, List.append_nil, pk, n_5, n_6] at F)
      refine l_app (es := 2) (ns := rows eB [(p, n)]) F 2 rfl rfl rfl rfl rfl rfl rfl (F.has 3 rfl) (eB_one [(p, n)]) rfl (by omega) hD (fun x147 c147 s F => ?_)
      (try dsimp only [n_1, n_2, n_3, n_4, List.append_nil, pk, n_5, n_6] at F)
      refine l_op 2 rfl rfl rfl rfl rfl ?_
      refine l_op 2 rfl rfl rfl rfl rfl ?_
      refine l_stc F 0 rfl rfl rfl rfl rfl rfl rfl rfl rfl hD (fun s F => ?_)
      (try dsimp only [n_1, n_2, n_3, n_4, List.append_nil, pk, n_5, n_6] at F)
      refine l_nil (WK.nx (by assumption) ?_)
      refine SeqK.nx (by assumption) ?_
      refine k_seq (fun Q K => ?_)
      refine k_lin (fun W K => ?_)
      refine l_op 0 rfl rfl rfl rfl rfl ?_
      refine l_c32 rfl rfl rfl (by omega) rfl ?_
      refine l_op 0 rfl rfl rfl rfl rfl ?_
      refine l_op 0 rfl rfl rfl rfl rfl ?_
      refine l_nil (WK.nx (by assumption) ?_)
      refine SeqK.nx (by assumption) ?_
      refine k_ret ?_
      refine FunK.rt (by assumption) rfl ?_
      -- leaf 9
      first
        | (have hr : mallocR most st en bl n e = ⟨0, false, st, en, bl⟩ := mallocR_none (by omega)
           rw [hr]; exact ⟨(a, c, L), rfl, F.pick [0, 1] (by decide), hP⟩)
        | (have hr : mallocR most st en bl n e = ⟨0, false, st, en, bl⟩ := by subst hbl; exact mallocR_none (.inr (.inr ⟨rfl, by omega⟩))
           rw [hr]; exact ⟨(a, c, L), rfl, F.pick [0, 1] (by decide), hP⟩)
        | (have hr : mallocR most st en bl n e = ⟨0, false, st, en, bl⟩ := by rw [hmr]; exact mallocA_no hix (by omega) (by omega)
           rw [hr]; exact ⟨(a, c, L), rfl, F.pick [0, 1] (by decide), hP⟩)
        | (have hr : mallocR most st en bl n e = ⟨p, true, sv, p + n + 256 - (p + n) % 256, ins bl ix (p, n)⟩ := by
             rw [hmr, mallocA_top hix (by omega) (by omega) m1]
             rw [show (p + n + 255) / 256 * 256 = p + n + 256 - (p + n) % 256 by omega]
           rw [hr]
           have hl1 : (L ++ [(p, n)]).length = 0 + L.length + 1 := by simp
           have hr1 : rows eB (L ++ [(p, n)]) = rows eB L ++ rows eB [(p, n)] := rows_append _ _ _
           refine ⟨(x147, c147, L ++ [(p, n)]), rfl, ?_, perm_ins hP _ _⟩
           show Facts O σ s [cel m (rC x147 c147 most _ _ (L ++ [(p, n)])), own x147 (L ++ [(p, n)]).length c147 2 (rows eB (L ++ [(p, n)]))]
           rw [hr1]
           unfold rC
           rw [hl1]
           exact F.pick [0, 2] (by decide))
        | (have hr : mallocR most st en bl n e = ⟨p, true, sv, p + n, ins bl ix (p, n)⟩ := by
             rw [hmr, mallocA_top hix (by omega) (by omega) m1]
             rw [show (p + n + 255) / 256 * 256 = p + n by omega]
           rw [hr]
           have hl1 : (L ++ [(p, n)]).length = 0 + L.length + 1 := by simp
           have hr1 : rows eB (L ++ [(p, n)]) = rows eB L ++ rows eB [(p, n)] := rows_append _ _ _
           refine ⟨(x147, c147, L ++ [(p, n)]), rfl, ?_, perm_ins hP _ _⟩
           show Facts O σ s [cel m (rC x147 c147 most _ _ (L ++ [(p, n)])), own x147 (L ++ [(p, n)]).length c147 2 (rows eB (L ++ [(p, n)]))]
           rw [hr1]
           unfold rC
           rw [hl1]
           exact F.pick [0, 2] (by decide))
        | (have hr : mallocR most st en bl n e = ⟨p, true, sv, tv, ins bl ix (p, n)⟩ := by
             rw [hmr, mallocA_in hix (by omega)]
           rw [hr]
           have hl1 : (L ++ [(p, n)]).length = 0 + L.length + 1 := by simp
           have hr1 : rows eB (L ++ [(p, n)]) = rows eB L ++ rows eB [(p, n)] := rows_append _ _ _
           refine ⟨(x147, c147, L ++ [(p, n)]), rfl, ?_, perm_ins hP _ _⟩
           show Facts O σ s [cel m (rC x147 c147 most _ _ (L ++ [(p, n)])), own x147 (L ++ [(p, n)]).length c147 2 (rows eB (L ++ [(p, n)]))]
           rw [hr1]
           unfold rC
           rw [hl1]
           exact F.pick [0, 2] (by decide))
    replace hc17 := of_decide_eq_false ((irr_eq _).symm.trans hc17)
    refine k_skip ?_
    refine SeqK.nx (by assumption) ?_
    refine k_seq (fun Q K => ?_)
    refine k_lin (fun W K => ?_)
    refine l_op 0 rfl rfl rfl rfl rfl ?_
    refine l_op 0 rfl rfl rfl rfl rfl ?_
    refine l_op 0 rfl rfl rfl rfl rfl ?_
    refine l_op 0 rfl rfl rfl rfl rfl ?_
    refine l_op 2 rfl rfl rfl rfl rfl ?_
    refine l_op 2 rfl rfl rfl rfl rfl ?_
    refine l_stc F 0 rfl rfl rfl rfl rfl rfl rfl rfl rfl hD (fun s F => ?_)
    (try dsimp only [n_1, n_2, n_3, n_4, List.append_nil, pk, n_5, n_6] at F)
    refine l_op 2 rfl rfl rfl rfl rfl ?_
    refine l_op 2 rfl rfl rfl rfl rfl ?_
    refine l_stc F 0 rfl rfl rfl rfl rfl rfl rfl rfl rfl hD (fun s F => ?_)
    (try dsimp only [n_1, n_2, n_3, n_4, List.append_nil, pk, n_5, n_6] at F)
    refine l_nil (WK.nx (by assumption) ?_)
    refine SeqK.nx (by assumption) ?_
    refine k_seq (fun Q K => ?_)
    refine k_lin (fun W K => ?_)
    refine l_op 0 rfl rfl rfl rfl rfl ?_
    refine l_lit (k := 2) F rfl rfl rfl rfl (fun q136 s F => ?_)
    (try dsimp only [n_1, n_2, n_3, n_4, List.append_nil, pk, n_5, n_6] at F)
    refine l_op 0 rfl rfl rfl rfl rfl ?_
    refine l_op 2 rfl rfl rfl rfl rfl ?_
    refine l_op 2 rfl rfl rfl rfl rfl ?_
    refine l_ldc F 0 rfl rfl rfl rfl rfl rfl rfl ?_
    refine l_app (es := 2) (vs := []) F 2 rfl rfl rfl rfl rfl rfl rfl (F.has 1 rfl) (eB_one L) rfl (by omega) hD (fun x141 c141 s F => ?_)
    (try dsimp only [n_1, n_2, n_3, n_4, List.append_nil, pk, n_5, n_6] at F)
    refine l_op 0 rfl rfl rfl rfl rfl ?_
    refine l_c32 rfl rfl rfl (by omega) rfl ?_
    refine l_op 0 rfl rfl rfl rfl rfl ?_
    refine l_bld rfl rfl rfl rfl ?_
    refine l_lit (k := 2) F rfl rfl rfl rfl (fun q146 s F => ?_)
    (try dsimp only [n_1, n_2, n_3, n_4, List.append_nil, pk, n_5, n_6] at F)
    refine l_app (es := 2) (ns := rows eB [(p, n)]) F 2 rfl rfl rfl rfl rfl rfl rfl (F.has 3 rfl) (eB_one [(p, n)]) rfl (by omega) hD (fun x147 c147 s F => ?_)
    (try dsimp only [n_1, n_2, n_3, n_4, List.append_nil, pk, n_5, n_6] at F)
    refine l_op 2 rfl rfl rfl rfl rfl ?_
    refine l_op 2 rfl rfl rfl rfl rfl ?_
    refine l_stc F 0 rfl rfl rfl rfl rfl rfl rfl rfl rfl hD (fun s F => ?_)
    (try dsimp only [n_1, n_2, n_3, n_4, List.append_nil, pk, n_5, n_6] at F)
    refine l_nil (WK.nx (by assumption) ?_)
    refine SeqK.nx (by assumption) ?_
    refine k_seq (fun Q K => ?_)
    refine k_lin (fun W K => ?_)
    refine l_op 0 rfl rfl rfl rfl rfl ?_
    refine l_c32 rfl rfl rfl (by omega) rfl ?_
    refine l_op 0 rfl rfl rfl rfl rfl ?_
    refine l_op 0 rfl rfl rfl rfl rfl ?_
    refine l_nil (WK.nx (by assumption) ?_)
    refine SeqK.nx (by assumption) ?_
    refine k_ret ?_
    refine FunK.rt (by assumption) rfl ?_
    -- leaf 10
    first
      | (have hr : mallocR most st en bl n e = ⟨0, false, st, en, bl⟩ := mallocR_none (by omega)
         rw [hr]; exact ⟨(a, c, L), rfl, F.pick [0, 1] (by decide), hP⟩)
      | (have hr : mallocR most st en bl n e = ⟨0, false, st, en, bl⟩ := by subst hbl; exact mallocR_none (.inr (.inr ⟨rfl, by omega⟩))
         rw [hr]; exact ⟨(a, c, L), rfl, F.pick [0, 1] (by decide), hP⟩)
      | (have hr : mallocR most st en bl n e = ⟨0, false, st, en, bl⟩ := by rw [hmr]; exact mallocA_no hix (by omega) (by omega)
         rw [hr]; exact ⟨(a, c, L), rfl, F.pick [0, 1] (by decide), hP⟩)
      | (have hr : mallocR most st en bl n e = ⟨p, true, sv, p + n + 256 - (p + n) % 256, ins bl ix (p, n)⟩ := by
           rw [hmr, mallocA_top hix (by omega) (by omega) m1]
           rw [show (p + n + 255) / 256 * 256 = p + n + 256 - (p + n) % 256 by omega]
         rw [hr]
         have hl1 : (L ++ [(p, n)]).length = 0 + L.length + 1 := by simp
         have hr1 : rows eB (L ++ [(p, n)]) = rows eB L ++ rows eB [(p, n)] := rows_append _ _ _
         refine ⟨(x147, c147, L ++ [(p, n)]), rfl, ?_, perm_ins hP _ _⟩
         show Facts O σ s [cel m (rC x147 c147 most _ _ (L ++ [(p, n)])), own x147 (L ++ [(p, n)]).length c147 2 (rows eB (L ++ [(p, n)]))]
         rw [hr1]
         unfold rC
         rw [hl1]
         exact F.pick [0, 2] (by decide))
      | (have hr : mallocR most st en bl n e = ⟨p, true, sv, p + n, ins bl ix (p, n)⟩ := by
           rw [hmr, mallocA_top hix (by omega) (by omega) m1]
           rw [show (p + n + 255) / 256 * 256 = p + n by omega]
         rw [hr]
         have hl1 : (L ++ [(p, n)]).length = 0 + L.length + 1 := by simp
         have hr1 : rows eB (L ++ [(p, n)]) = rows eB L ++ rows eB [(p, n)] := rows_append _ _ _
         refine ⟨(x147, c147, L ++ [(p, n)]), rfl, ?_, perm_ins hP _ _⟩
         show Facts O σ s [cel m (rC x147 c147 most _ _ (L ++ [(p, n)])), own x147 (L ++ [(p, n)]).length c147 2 (rows eB (L ++ [(p, n)]))]
         rw [hr1]
         unfold rC
         rw [hl1]
         exact F.pick [0, 2] (by decide))
      | (have hr : mallocR most st en bl n e = ⟨p, true, sv, tv, ins bl ix (p, n)⟩ := by
           rw [hmr, mallocA_in hix (by omega)]
         rw [hr]
         have hl1 : (L ++ [(p, n)]).length = 0 + L.length + 1 := by simp
         have hr1 : rows eB (L ++ [(p, n)]) = rows eB L ++ rows eB [(p, n)] := rows_append _ _ _
         refine ⟨(x147, c147, L ++ [(p, n)]), rfl, ?_, perm_ins hP _ _⟩
         show Facts O σ s [cel m (rC x147 c147 most _ _ (L ++ [(p, n)])), own x147 (L ++ [(p, n)]).length c147 2 (rows eB (L ++ [(p, n)]))]
         rw [hr1]
         unfold rC
         rw [hl1]
         exact F.pick [0, 2] (by decide))
  first | replace hc3 := ne_of_beq_false ((irr_eq _).symm.trans hc3) | simp only [irr_eq, beq_iff_eq, beq_eq_false_iff_ne, ne_eq, decide_eq_true_eq, decide_eq_false_iff_not] at hc3
  have hgood : MG most st en bl L n e st en := by
    have hne : bl ≠ [] := fun h => by rw [h] at hlen; simp only [List.length_nil] at hlen; omega
    obtain ⟨q1, q2, q3, q4, q5⟩ := hok.on hne
    have hpi := placeR_in (n := n) hok.blk q5
    exact ⟨⟨s0, s1⟩, ⟨e0, e1⟩, q4, lfR_place hP (by omega) hok.blk s0 q5, mallocR_on (by omega) hne (by omega), by omega, by omega⟩
  refine k_skip ?_
  refine SeqK.nx (by assumption) ?_
  refine k_seq (fun Q K => ?_)
  refine k_lin (fun W K => ?_)
  refine l_op 0 rfl rfl rfl rfl rfl ?_
  refine l_nil (WK.nx (by assumption) ?_)
  refine SeqK.nx (by assumption) ?_
  refine k_seq (fun Q K => ?_)
  refine k_seq (fun Q K => ?_)
  refine k_lin (fun W K => ?_)
  refine l_op 0 rfl rfl rfl rfl rfl ?_
  refine l_nil (WK.nx (by assumption) ?_)
  refine SeqK.nx (by assumption) ?_
  refine k_block (fun Q K => ?_)
  first
    | refine k_loop (α := Int × Int × Int × Int) (fun ⟨i, p, sv, tv⟩ s => Facts O σ s (rF m a c most st en L) ∧ -1 ≤ i ∧ i ≤ L.length ∧ -1 ≤ p ∧ p ≤ 8589934590 ∧ MG most st en bl L n e sv tv ∧ (i = -1 ∧ p = -1 ∨ 0 ≤ i ∧ p = lfR L n sv (L.take i.toNat))) (fun ⟨i, p, sv, tv⟩ => [(0, .pointer (some ⟨m, 0, none⟩)), (1, .int .u32 n), (8, .int .i64 sv), (9, .int .i64 tv), (10, .int .i64 p), (11, .int .i64 i)]) (fun ⟨i, _⟩ => (L.length - i).toNat) (-1, -1, e, e) ⟨F, by omega, by omega, by omega, by omega, hgood, .inl ⟨rfl, rfl⟩⟩ (by repeat (first | exact trivial | refine And.intro rfl ?_)) ?_
    | refine k_loop (α := Int × Int × Int × Int) (fun ⟨i, p, sv, tv⟩ s => Facts O σ s (rF m a c most st en L) ∧ -1 ≤ i ∧ i ≤ L.length ∧ -1 ≤ p ∧ p ≤ 8589934590 ∧ MG most st en bl L n e sv tv ∧ (i = -1 ∧ p = -1 ∨ 0 ≤ i ∧ p = lfR L n sv (L.take i.toNat))) (fun ⟨i, p, sv, tv⟩ => [(0, .pointer (some ⟨m, 0, none⟩)), (1, .int .u32 n), (8, .int .i64 sv), (9, .int .i64 tv), (10, .int .i64 p), (11, .int .i64 i)]) (fun ⟨i, _⟩ => (L.length - i).toNat) (-1, -1, st, en) ⟨F, by omega, by omega, by omega, by omega, hgood, .inl ⟨rfl, rfl⟩⟩ (by repeat (first | exact trivial | refine And.intro rfl ?_)) ?_
  clear F hgood
  rintro ⟨i, p, sv, tv⟩ env s Q K0 ⟨F, i0, i1, p0, p1, hg, hip⟩
  obtain ⟨⟨sv0, sv1⟩, ⟨tv0, tv1⟩, tvm, hlf, hmr, hp0, hpt⟩ := hg
  obtain ⟨⟨b0, b1⟩, ⟨b2, b3⟩⟩ := hBL.at i.toNat
  refine k_seq (fun Q K => ?_)
  refine k_seq (fun Q K => ?_)
  refine k_lin (fun W K => ?_)
  refine l_op 0 rfl rfl rfl rfl rfl ?_
  refine l_op 0 rfl rfl rfl rfl rfl ?_
  refine l_op 2 rfl rfl rfl rfl rfl ?_
  refine l_op 2 rfl rfl rfl rfl rfl ?_
  refine l_ldc F 0 rfl rfl rfl rfl rfl rfl rfl ?_
  first | refine l_op 2 rfl rfl rfl rfl rfl ?_ | refine l_ln rfl rfl rfl rfl ?_
  refine l_cmp rfl rfl rfl rfl ?_
  refine l_nil (WK.nx (by assumption) ?_)
  refine SeqK.nx (by assumption) ?_
  refine l_cond rfl rfl (fun hc21 => ?_) (fun hc21 => ?_)
  · replace hc21 := of_decide_eq_true ((irr_eq _).symm.trans hc21)
    refine k_skip ?_
    refine SeqK.nx (by assumption) ?_
    refine k_seq (fun Q K => ?_)
    refine k_block (fun Q K => ?_)
    refine k_seq (fun Q K => ?_)
    refine k_lin (fun W K => ?_)
    refine l_op 0 rfl rfl rfl rfl rfl ?_
    refine l_op 0 rfl rfl rfl rfl rfl ?_
    refine l_nil (WK.nx (by assumption) ?_)
    refine SeqK.nx (by assumption) ?_
    refine k_seq (fun Q K => ?_)
    refine k_seq (fun Q K => ?_)
    refine k_lin (fun W K => ?_)
    refine l_op 0 rfl rfl rfl rfl rfl ?_
    refine l_cmp rfl rfl rfl rfl ?_
    refine l_nil (WK.nx (by assumption) ?_)
    refine SeqK.nx (by assumption) ?_
    refine l_cond rfl rfl (fun hc22 => ?_) (fun hc22 => ?_)
    · replace hc22 := of_decide_eq_true ((irr_eq _).symm.trans hc22)
      have hpp : p = lfR L n sv (L.take i.toNat) := by rcases hip with h | h; omega; exact h.2
      have htk := lfR_take (L := L) (n := n) (st := sv) (xs := L) (i := i.toNat) (by omega)
      rw [← hpp] at htk
      refine k_linm [0, 1, 2, 4, 9, 10, 11, 13, 3, 5, 6, 7, 8, 12, 14, 15, 16, 17, 18, 19] mixed (by kernel_rfl) (fun W K => ?_)
      try have hpS := F.pns
      refine l_op 0 rfl rfl rfl rfl rfl ?_
      refine l_op 2 rfl rfl rfl rfl rfl ?_
      refine l_op 2 rfl rfl rfl rfl rfl ?_
      refine l_op 0 rfl rfl rfl rfl rfl ?_
      refine l_op 0 rfl rfl rfl rfl rfl ?_
      refine l_op 2 rfl rfl rfl rfl rfl ?_
      refine l_op 2 rfl rfl rfl rfl rfl ?_
      refine l_op 0 rfl rfl rfl rfl rfl ?_
      refine l_ldc F 0 rfl rfl rfl rfl rfl rfl rfl ?_
      first | have hpS := PnS.add hpS hS70 | have hpS := PnS.add hpS (OldC.sf (by assumption)) | skip
      refine l_ixr (e := eB) rfl rfl rfl rfl rfl rfl (F.has 1 rfl) ⟨eB_len, by decide⟩ (by omega) (fun m74 b74 hA74 => ?_)
      refine l_op 2 rfl rfl rfl rfl rfl ?_
      refine l_ld0 rfl rfl rfl rfl rfl (by assumption) ?_
      first | have hpS := PnS.add hpS hS74 | have hpS := PnS.add hpS (OldC.sf (by assumption)) | skip
      refine l_c64 rfl rfl rfl (by omega) rfl ?_
      refine l_ldc F 0 rfl rfl rfl rfl rfl rfl rfl ?_
      first | have hpS := PnS.add hpS hS79 | have hpS := PnS.add hpS (OldC.sf (by assumption)) | skip
      refine l_ixr (e := eB) rfl rfl rfl rfl rfl rfl (F.has 1 rfl) ⟨eB_len, by decide⟩ (by omega) (fun m83 b83 hA83 => ?_)
      refine l_op 2 rfl rfl rfl rfl rfl ?_
      refine l_ldj rfl rfl rfl rfl rfl rfl (by assumption) rfl ?_
      first | have hpS := PnS.add hpS hS83 | have hpS := PnS.add hpS (OldC.sf (by assumption)) | skip
      refine l_c64 rfl rfl rfl (by omega) rfl ?_
      refine l_a64 rfl rfl rfl (by omega) rfl ?_
      refine l_op 0 rfl rfl rfl rfl rfl ?_
      refine l_nil (WK.nx (by assumption) ?_)
      refine SeqK.nx (by assumption) ?_
      refine k_seq (fun Q K => ?_)
      refine k_lin (fun W K => ?_)
      refine l_op 0 rfl rfl rfl rfl rfl ?_
      refine l_cmp rfl rfl rfl rfl ?_
      refine l_op 0 rfl rfl rfl rfl rfl ?_
      refine l_guard rfl rfl rfl (fun hc23 => ?_) (fun hc23 => ?_)
      · replace hc23 := of_decide_eq_true ((irr_eq _).symm.trans hc23)
        refine l_s rfl rfl ?_
        refine l_s rfl rfl ?_
        refine l_s rfl rfl ?_
        refine l_op 2 rfl rfl rfl rfl rfl ?_
        refine l_op 0 rfl rfl rfl rfl rfl ?_
        refine l_op 0 rfl rfl rfl rfl rfl ?_
        refine l_op 0 rfl rfl rfl rfl rfl ?_
        refine l_op 0 rfl rfl rfl rfl rfl ?_
        refine l_c64 rfl rfl rfl (by omega) rfl ?_
        refine l_callp F rfl rfl (by kernel_rfl) rfl rfl (rfree_call (F.cel0 0 rfl) (Old.pure (F.has 1 rfl)) hBL (by omega) ⟨by omega, by omega⟩ hu') (fun _ s F _ => ?_)
        (try dsimp only [n_1, n_2, n_3, n_4, List.append_nil, pk, n_5, n_6] at F)
        refine l_op 2 rfl rfl rfl rfl rfl ?_
        refine l_nil (WK.nx (by assumption) ?_)
        refine SeqK.nx (by assumption) ?_
        refine l_cond rfl rfl (fun hc24 => ?_) (fun hc24 => ?_)
        · try simp only [irr_eq, beq_iff_eq, bne_iff_ne, beq_eq_false_iff_ne, bne_eq_false_iff_eq, ne_eq, decide_eq_true_eq, decide_eq_false_iff_not, Bool.not_eq_true', Bool.not_eq_false'] at hc24
          refine k_lin (fun W K => ?_)
          refine l_op 0 rfl rfl rfl rfl rfl ?_
          refine l_op 0 rfl rfl rfl rfl rfl ?_
          refine l_nil (WK.nx (by assumption) ?_)
          refine BlkK.nx (by assumption) ?_
          refine SeqK.nx (by assumption) ?_
          refine k_lin (fun W K => ?_)
          refine l_op 0 rfl rfl rfl rfl rfl ?_
          refine l_a64 rfl rfl rfl (by omega) rfl ?_
          refine l_op 0 rfl rfl rfl rfl rfl ?_
          refine l_nil (WK.nx (by assumption) ?_)
          have hg : MG most st en bl L n e sv tv := ⟨⟨sv0, sv1⟩, ⟨tv0, tv1⟩, tvm, hlf, hmr, hp0, hpt⟩
          first
            | (have e1 : (i + 1).toNat = i.toNat + 1 := by omega
               first
                 | (rw [lst_yes (by omega) (by assumption), ← e1] at htk
                    exact K0.nx (i + 1, (L.getD i.toNat default).1 + (L.getD i.toNat default).2, sv, tv) (by repeat (first | exact trivial | refine And.intro rfl ?_)) ⟨F.pick [0, 1] (by decide), by omega, by omega, by omega, by omega, hg, .inr ⟨by omega, htk.symm⟩⟩ (by first | omega | (simp only; omega)))
                 | (rw [lst_no1 (by omega) (by omega), ← e1] at htk
                    exact K0.nx (i + 1, p, sv, tv) (by repeat (first | exact trivial | refine And.intro rfl ?_)) ⟨F.pick [0, 1] (by decide), by omega, by omega, by omega, by omega, hg, .inr ⟨by omega, htk.symm⟩⟩ (by first | omega | (simp only; omega)))
                 | (rw [lst_no2 (by assumption), ← e1] at htk
                    exact K0.nx (i + 1, p, sv, tv) (by repeat (first | exact trivial | refine And.intro rfl ?_)) ⟨F.pick [0, 1] (by decide), by omega, by omega, by omega, by omega, hg, .inr ⟨by omega, htk.symm⟩⟩ (by first | omega | (simp only; omega))))
            | (obtain ⟨hi1, hp1⟩ := hpp
               subst hi1; subst hp1
               first
                 | exact K0.nx (-1 + 1, sv, sv, tv) (by repeat (first | exact trivial | refine And.intro rfl ?_)) ⟨F.pick [0, 1] (by decide), by omega, by omega, by omega, by omega, hg, .inr ⟨by omega, (if_pos (by assumption)).symm⟩⟩ (by first | omega | (simp only; omega))
                 | exact K0.nx (-1 + 1, -1, sv, tv) (by repeat (first | exact trivial | refine And.intro rfl ?_)) ⟨F.pick [0, 1] (by decide), by omega, by omega, by omega, by omega, hg, .inr ⟨by omega, (if_neg (by simp_all)).symm⟩⟩ (by first | omega | (simp only; omega)))
        try simp only [irr_eq, beq_iff_eq, bne_iff_ne, beq_eq_false_iff_ne, bne_eq_false_iff_eq, ne_eq, decide_eq_true_eq, decide_eq_false_iff_not, Bool.not_eq_true', Bool.not_eq_false'] at hc24
        refine k_skip ?_
        refine BlkK.nx (by assumption) ?_
        refine SeqK.nx (by assumption) ?_
        refine k_lin (fun W K => ?_)
        refine l_op 0 rfl rfl rfl rfl rfl ?_
        refine l_a64 rfl rfl rfl (by omega) rfl ?_
        refine l_op 0 rfl rfl rfl rfl rfl ?_
        refine l_nil (WK.nx (by assumption) ?_)
        have hg : MG most st en bl L n e sv tv := ⟨⟨sv0, sv1⟩, ⟨tv0, tv1⟩, tvm, hlf, hmr, hp0, hpt⟩
        first
          | (have e1 : (i + 1).toNat = i.toNat + 1 := by omega
             first
               | (rw [lst_yes (by omega) (by assumption), ← e1] at htk
                  exact K0.nx (i + 1, (L.getD i.toNat default).1 + (L.getD i.toNat default).2, sv, tv) (by repeat (first | exact trivial | refine And.intro rfl ?_)) ⟨F.pick [0, 1] (by decide), by omega, by omega, by omega, by omega, hg, .inr ⟨by omega, htk.symm⟩⟩ (by first | omega | (simp only; omega)))
               | (rw [lst_no1 (by omega) (by omega), ← e1] at htk
                  exact K0.nx (i + 1, p, sv, tv) (by repeat (first | exact trivial | refine And.intro rfl ?_)) ⟨F.pick [0, 1] (by decide), by omega, by omega, by omega, by omega, hg, .inr ⟨by omega, htk.symm⟩⟩ (by first | omega | (simp only; omega)))
               | (rw [lst_no2 (by assumption), ← e1] at htk
                  exact K0.nx (i + 1, p, sv, tv) (by repeat (first | exact trivial | refine And.intro rfl ?_)) ⟨F.pick [0, 1] (by decide), by omega, by omega, by omega, by omega, hg, .inr ⟨by omega, htk.symm⟩⟩ (by first | omega | (simp only; omega))))
          | (obtain ⟨hi1, hp1⟩ := hpp
             subst hi1; subst hp1
             first
               | exact K0.nx (-1 + 1, sv, sv, tv) (by repeat (first | exact trivial | refine And.intro rfl ?_)) ⟨F.pick [0, 1] (by decide), by omega, by omega, by omega, by omega, hg, .inr ⟨by omega, (if_pos (by assumption)).symm⟩⟩ (by first | omega | (simp only; omega))
               | exact K0.nx (-1 + 1, -1, sv, tv) (by repeat (first | exact trivial | refine And.intro rfl ?_)) ⟨F.pick [0, 1] (by decide), by omega, by omega, by omega, by omega, hg, .inr ⟨by omega, (if_neg (by simp_all)).symm⟩⟩ (by first | omega | (simp only; omega)))
      replace hc23 := of_decide_eq_false ((irr_eq _).symm.trans hc23)
      refine l_op 0 rfl rfl rfl rfl rfl ?_
      refine l_op 0 rfl rfl rfl rfl rfl ?_
      refine l_cmp rfl rfl rfl rfl ?_
      refine l_op 2 rfl rfl rfl rfl rfl ?_
      refine l_op 0 rfl rfl rfl rfl rfl ?_
      refine l_guard rfl rfl rfl (fun hc25 => ?_) (fun hc25 => ?_)
      · replace hc25 := of_decide_eq_true ((irr_eq _).symm.trans hc25)
        refine l_op 0 rfl rfl rfl rfl rfl ?_
        refine l_op 0 rfl rfl rfl rfl rfl ?_
        refine l_op 0 rfl rfl rfl rfl rfl ?_
        refine l_c64 rfl rfl rfl (by omega) rfl ?_
        refine l_callp F rfl rfl (by kernel_rfl) rfl rfl (rfree_call (F.cel0 0 rfl) (Old.pure (F.has 1 rfl)) hBL (by omega) ⟨by omega, by omega⟩ hu') (fun _ s F _ => ?_)
        (try dsimp only [n_1, n_2, n_3, n_4, List.append_nil, pk, n_5, n_6] at F)
        refine l_op 2 rfl rfl rfl rfl rfl ?_
        refine l_nil (WK.nx (by assumption) ?_)
        refine SeqK.nx (by assumption) ?_
        refine l_cond rfl rfl (fun hc26 => ?_) (fun hc26 => ?_)
        · try simp only [irr_eq, beq_iff_eq, bne_iff_ne, beq_eq_false_iff_ne, bne_eq_false_iff_eq, ne_eq, decide_eq_true_eq, decide_eq_false_iff_not, Bool.not_eq_true', Bool.not_eq_false'] at hc26
          refine k_lin (fun W K => ?_)
          refine l_op 0 rfl rfl rfl rfl rfl ?_
          refine l_op 0 rfl rfl rfl rfl rfl ?_
          refine l_nil (WK.nx (by assumption) ?_)
          refine BlkK.nx (by assumption) ?_
          refine SeqK.nx (by assumption) ?_
          refine k_lin (fun W K => ?_)
          refine l_op 0 rfl rfl rfl rfl rfl ?_
          refine l_a64 rfl rfl rfl (by omega) rfl ?_
          refine l_op 0 rfl rfl rfl rfl rfl ?_
          refine l_nil (WK.nx (by assumption) ?_)
          have hg : MG most st en bl L n e sv tv := ⟨⟨sv0, sv1⟩, ⟨tv0, tv1⟩, tvm, hlf, hmr, hp0, hpt⟩
          first
            | (have e1 : (i + 1).toNat = i.toNat + 1 := by omega
               first
                 | (rw [lst_yes (by omega) (by assumption), ← e1] at htk
                    exact K0.nx (i + 1, (L.getD i.toNat default).1 + (L.getD i.toNat default).2, sv, tv) (by repeat (first | exact trivial | refine And.intro rfl ?_)) ⟨F.pick [0, 1] (by decide), by omega, by omega, by omega, by omega, hg, .inr ⟨by omega, htk.symm⟩⟩ (by first | omega | (simp only; omega)))
                 | (rw [lst_no1 (by omega) (by omega), ← e1] at htk
                    exact K0.nx (i + 1, p, sv, tv) (by repeat (first | exact trivial | refine And.intro rfl ?_)) ⟨F.pick [0, 1] (by decide), by omega, by omega, by omega, by omega, hg, .inr ⟨by omega, htk.symm⟩⟩ (by first | omega | (simp only; omega)))
                 | (rw [lst_no2 (by assumption), ← e1] at htk
                    exact K0.nx (i + 1, p, sv, tv) (by repeat (first | exact trivial | refine And.intro rfl ?_)) ⟨F.pick [0, 1] (by decide), by omega, by omega, by omega, by omega, hg, .inr ⟨by omega, htk.symm⟩⟩ (by first | omega | (simp only; omega))))
            | (obtain ⟨hi1, hp1⟩ := hpp
               subst hi1; subst hp1
               first
                 | exact K0.nx (-1 + 1, sv, sv, tv) (by repeat (first | exact trivial | refine And.intro rfl ?_)) ⟨F.pick [0, 1] (by decide), by omega, by omega, by omega, by omega, hg, .inr ⟨by omega, (if_pos (by assumption)).symm⟩⟩ (by first | omega | (simp only; omega))
                 | exact K0.nx (-1 + 1, -1, sv, tv) (by repeat (first | exact trivial | refine And.intro rfl ?_)) ⟨F.pick [0, 1] (by decide), by omega, by omega, by omega, by omega, hg, .inr ⟨by omega, (if_neg (by simp_all)).symm⟩⟩ (by first | omega | (simp only; omega)))
        try simp only [irr_eq, beq_iff_eq, bne_iff_ne, beq_eq_false_iff_ne, bne_eq_false_iff_eq, ne_eq, decide_eq_true_eq, decide_eq_false_iff_not, Bool.not_eq_true', Bool.not_eq_false'] at hc26
        refine k_skip ?_
        refine BlkK.nx (by assumption) ?_
        refine SeqK.nx (by assumption) ?_
        refine k_lin (fun W K => ?_)
        refine l_op 0 rfl rfl rfl rfl rfl ?_
        refine l_a64 rfl rfl rfl (by omega) rfl ?_
        refine l_op 0 rfl rfl rfl rfl rfl ?_
        refine l_nil (WK.nx (by assumption) ?_)
        have hg : MG most st en bl L n e sv tv := ⟨⟨sv0, sv1⟩, ⟨tv0, tv1⟩, tvm, hlf, hmr, hp0, hpt⟩
        first
          | (have e1 : (i + 1).toNat = i.toNat + 1 := by omega
             first
               | (rw [lst_yes (by omega) (by assumption), ← e1] at htk
                  exact K0.nx (i + 1, (L.getD i.toNat default).1 + (L.getD i.toNat default).2, sv, tv) (by repeat (first | exact trivial | refine And.intro rfl ?_)) ⟨F.pick [0, 1] (by decide), by omega, by omega, by omega, by omega, hg, .inr ⟨by omega, htk.symm⟩⟩ (by first | omega | (simp only; omega)))
               | (rw [lst_no1 (by omega) (by omega), ← e1] at htk
                  exact K0.nx (i + 1, p, sv, tv) (by repeat (first | exact trivial | refine And.intro rfl ?_)) ⟨F.pick [0, 1] (by decide), by omega, by omega, by omega, by omega, hg, .inr ⟨by omega, htk.symm⟩⟩ (by first | omega | (simp only; omega)))
               | (rw [lst_no2 (by assumption), ← e1] at htk
                  exact K0.nx (i + 1, p, sv, tv) (by repeat (first | exact trivial | refine And.intro rfl ?_)) ⟨F.pick [0, 1] (by decide), by omega, by omega, by omega, by omega, hg, .inr ⟨by omega, htk.symm⟩⟩ (by first | omega | (simp only; omega))))
          | (obtain ⟨hi1, hp1⟩ := hpp
             subst hi1; subst hp1
             first
               | exact K0.nx (-1 + 1, sv, sv, tv) (by repeat (first | exact trivial | refine And.intro rfl ?_)) ⟨F.pick [0, 1] (by decide), by omega, by omega, by omega, by omega, hg, .inr ⟨by omega, (if_pos (by assumption)).symm⟩⟩ (by first | omega | (simp only; omega))
               | exact K0.nx (-1 + 1, -1, sv, tv) (by repeat (first | exact trivial | refine And.intro rfl ?_)) ⟨F.pick [0, 1] (by decide), by omega, by omega, by omega, by omega, hg, .inr ⟨by omega, (if_neg (by simp_all)).symm⟩⟩ (by first | omega | (simp only; omega)))
      replace hc25 := of_decide_eq_false ((irr_eq _).symm.trans hc25)
      refine l_s rfl rfl ?_
      refine l_s rfl rfl ?_
      refine l_s rfl rfl ?_
      refine l_s rfl rfl ?_
      refine l_s rfl rfl ?_
      refine l_op 2 rfl rfl rfl rfl rfl ?_
      refine l_nil (WK.nx (by assumption) ?_)
      refine SeqK.nx (by assumption) ?_
      first | refine e_cond_f rfl rfl rfl ?_ | refine e_cond_f rfl rfl (by rw [irr_eq]; first | exact beq_eq_false_iff_ne.2 (by assumption) | exact decide_eq_false (by assumption) | exact bne_eq_false_iff_eq.2 (by assumption)) ?_
      refine k_skip ?_
      refine BlkK.nx (by assumption) ?_
      refine SeqK.nx (by assumption) ?_
      refine k_lin (fun W K => ?_)
      refine l_op 0 rfl rfl rfl rfl rfl ?_
      refine l_a64 rfl rfl rfl (by omega) rfl ?_
      refine l_op 0 rfl rfl rfl rfl rfl ?_
      refine l_nil (WK.nx (by assumption) ?_)
      have hg : MG most st en bl L n e sv tv := ⟨⟨sv0, sv1⟩, ⟨tv0, tv1⟩, tvm, hlf, hmr, hp0, hpt⟩
      first
        | (have e1 : (i + 1).toNat = i.toNat + 1 := by omega
           first
             | (rw [lst_yes (by omega) (by assumption), ← e1] at htk
                exact K0.nx (i + 1, (L.getD i.toNat default).1 + (L.getD i.toNat default).2, sv, tv) (by repeat (first | exact trivial | refine And.intro rfl ?_)) ⟨F.pick [0, 1] (by decide), by omega, by omega, by omega, by omega, hg, .inr ⟨by omega, htk.symm⟩⟩ (by first | omega | (simp only; omega)))
             | (rw [lst_no1 (by omega) (by omega), ← e1] at htk
                exact K0.nx (i + 1, p, sv, tv) (by repeat (first | exact trivial | refine And.intro rfl ?_)) ⟨F.pick [0, 1] (by decide), by omega, by omega, by omega, by omega, hg, .inr ⟨by omega, htk.symm⟩⟩ (by first | omega | (simp only; omega)))
             | (rw [lst_no2 (by assumption), ← e1] at htk
                exact K0.nx (i + 1, p, sv, tv) (by repeat (first | exact trivial | refine And.intro rfl ?_)) ⟨F.pick [0, 1] (by decide), by omega, by omega, by omega, by omega, hg, .inr ⟨by omega, htk.symm⟩⟩ (by first | omega | (simp only; omega))))
        | (obtain ⟨hi1, hp1⟩ := hpp
           subst hi1; subst hp1
           first
             | exact K0.nx (-1 + 1, sv, sv, tv) (by repeat (first | exact trivial | refine And.intro rfl ?_)) ⟨F.pick [0, 1] (by decide), by omega, by omega, by omega, by omega, hg, .inr ⟨by omega, (if_pos (by assumption)).symm⟩⟩ (by first | omega | (simp only; omega))
             | exact K0.nx (-1 + 1, -1, sv, tv) (by repeat (first | exact trivial | refine And.intro rfl ?_)) ⟨F.pick [0, 1] (by decide), by omega, by omega, by omega, by omega, hg, .inr ⟨by omega, (if_neg (by simp_all)).symm⟩⟩ (by first | omega | (simp only; omega)))
    replace hc22 := of_decide_eq_false ((irr_eq _).symm.trans hc22)
    have hpp : i = -1 ∧ p = -1 := by rcases hip with h | h; exact h; omega
    refine k_skip ?_
    refine SeqK.nx (by assumption) ?_
    refine k_seq (fun Q K => ?_)
    refine k_lin (fun W K => ?_)
    refine l_op 0 rfl rfl rfl rfl rfl ?_
    refine l_cmp rfl rfl rfl rfl ?_
    refine l_op 0 rfl rfl rfl rfl rfl ?_
    refine l_guard rfl rfl rfl (fun hc27 => ?_) (fun hc27 => ?_)
    · replace hc27 := of_decide_eq_true ((irr_eq _).symm.trans hc27)
      refine l_s rfl rfl ?_
      refine l_s rfl rfl ?_
      refine l_s rfl rfl ?_
      refine l_op 2 rfl rfl rfl rfl rfl ?_
      refine l_op 0 rfl rfl rfl rfl rfl ?_
      refine l_op 0 rfl rfl rfl rfl rfl ?_
      refine l_op 0 rfl rfl rfl rfl rfl ?_
      refine l_op 0 rfl rfl rfl rfl rfl ?_
      refine l_c64 rfl rfl rfl (by omega) rfl ?_
      refine l_callp F rfl rfl (by kernel_rfl) rfl rfl (rfree_call (F.cel0 0 rfl) (Old.pure (F.has 1 rfl)) hBL (by omega) ⟨by omega, by omega⟩ hu') (fun _ s F _ => ?_)
      (try dsimp only [n_1, n_2, n_3, n_4, List.append_nil, pk, n_5, n_6] at F)
      refine l_op 2 rfl rfl rfl rfl rfl ?_
      refine l_nil (WK.nx (by assumption) ?_)
      refine SeqK.nx (by assumption) ?_
      refine l_cond rfl rfl (fun hc28 => ?_) (fun hc28 => ?_)
      · try simp only [irr_eq, beq_iff_eq, bne_iff_ne, beq_eq_false_iff_ne, bne_eq_false_iff_eq, ne_eq, decide_eq_true_eq, decide_eq_false_iff_not, Bool.not_eq_true', Bool.not_eq_false'] at hc28
        refine k_lin (fun W K => ?_)
        refine l_op 0 rfl rfl rfl rfl rfl ?_
        refine l_op 0 rfl rfl rfl rfl rfl ?_
        refine l_nil (WK.nx (by assumption) ?_)
        refine BlkK.nx (by assumption) ?_
        refine SeqK.nx (by assumption) ?_
        refine k_lin (fun W K => ?_)
        refine l_op 0 rfl rfl rfl rfl rfl ?_
        refine l_a64 rfl rfl rfl (by omega) rfl ?_
        refine l_op 0 rfl rfl rfl rfl rfl ?_
        refine l_nil (WK.nx (by assumption) ?_)
        have hg : MG most st en bl L n e sv tv := ⟨⟨sv0, sv1⟩, ⟨tv0, tv1⟩, tvm, hlf, hmr, hp0, hpt⟩
        first
          | (have e1 : (i + 1).toNat = i.toNat + 1 := by omega
             first
               | (rw [lst_yes (by omega) (by assumption), ← e1] at htk
                  exact K0.nx (i + 1, (L.getD i.toNat default).1 + (L.getD i.toNat default).2, sv, tv) (by repeat (first | exact trivial | refine And.intro rfl ?_)) ⟨F.pick [0, 1] (by decide), by omega, by omega, by omega, by omega, hg, .inr ⟨by omega, htk.symm⟩⟩ (by first | omega | (simp only; omega)))
               | (rw [lst_no1 (by omega) (by omega), ← e1] at htk
                  exact K0.nx (i + 1, p, sv, tv) (by repeat (first | exact trivial | refine And.intro rfl ?_)) ⟨F.pick [0, 1] (by decide), by omega, by omega, by omega, by omega, hg, .inr ⟨by omega, htk.symm⟩⟩ (by first | omega | (simp only; omega)))
               | (rw [lst_no2 (by assumption), ← e1] at htk
                  exact K0.nx (i + 1, p, sv, tv) (by repeat (first | exact trivial | refine And.intro rfl ?_)) ⟨F.pick [0, 1] (by decide), by omega, by omega, by omega, by omega, hg, .inr ⟨by omega, htk.symm⟩⟩ (by first | omega | (simp only; omega))))
          | (obtain ⟨hi1, hp1⟩ := hpp
             subst hi1; subst hp1
             first
               | exact K0.nx (-1 + 1, sv, sv, tv) (by repeat (first | exact trivial | refine And.intro rfl ?_)) ⟨F.pick [0, 1] (by decide), by omega, by omega, by omega, by omega, hg, .inr ⟨by omega, (if_pos (by assumption)).symm⟩⟩ (by first | omega | (simp only; omega))
               | exact K0.nx (-1 + 1, -1, sv, tv) (by repeat (first | exact trivial | refine And.intro rfl ?_)) ⟨F.pick [0, 1] (by decide), by omega, by omega, by omega, by omega, hg, .inr ⟨by omega, (if_neg (by simp_all)).symm⟩⟩ (by first | omega | (simp only; omega)))
      try simp only [irr_eq, beq_iff_eq, bne_iff_ne, beq_eq_false_iff_ne, bne_eq_false_iff_eq, ne_eq, decide_eq_true_eq, decide_eq_false_iff_not, Bool.not_eq_true', Bool.not_eq_false'] at hc28
      refine k_skip ?_
      refine BlkK.nx (by assumption) ?_
      refine SeqK.nx (by assumption) ?_
      refine k_lin (fun W K => ?_)
      refine l_op 0 rfl rfl rfl rfl rfl ?_
      refine l_a64 rfl rfl rfl (by omega) rfl ?_
      refine l_op 0 rfl rfl rfl rfl rfl ?_
      refine l_nil (WK.nx (by assumption) ?_)
      have hg : MG most st en bl L n e sv tv := ⟨⟨sv0, sv1⟩, ⟨tv0, tv1⟩, tvm, hlf, hmr, hp0, hpt⟩
      first
        | (have e1 : (i + 1).toNat = i.toNat + 1 := by omega
           first
             | (rw [lst_yes (by omega) (by assumption), ← e1] at htk
                exact K0.nx (i + 1, (L.getD i.toNat default).1 + (L.getD i.toNat default).2, sv, tv) (by repeat (first | exact trivial | refine And.intro rfl ?_)) ⟨F.pick [0, 1] (by decide), by omega, by omega, by omega, by omega, hg, .inr ⟨by omega, htk.symm⟩⟩ (by first | omega | (simp only; omega)))
             | (rw [lst_no1 (by omega) (by omega), ← e1] at htk
                exact K0.nx (i + 1, p, sv, tv) (by repeat (first | exact trivial | refine And.intro rfl ?_)) ⟨F.pick [0, 1] (by decide), by omega, by omega, by omega, by omega, hg, .inr ⟨by omega, htk.symm⟩⟩ (by first | omega | (simp only; omega)))
             | (rw [lst_no2 (by assumption), ← e1] at htk
                exact K0.nx (i + 1, p, sv, tv) (by repeat (first | exact trivial | refine And.intro rfl ?_)) ⟨F.pick [0, 1] (by decide), by omega, by omega, by omega, by omega, hg, .inr ⟨by omega, htk.symm⟩⟩ (by first | omega | (simp only; omega))))
        | (obtain ⟨hi1, hp1⟩ := hpp
           subst hi1; subst hp1
           first
             | exact K0.nx (-1 + 1, sv, sv, tv) (by repeat (first | exact trivial | refine And.intro rfl ?_)) ⟨F.pick [0, 1] (by decide), by omega, by omega, by omega, by omega, hg, .inr ⟨by omega, (if_pos (by assumption)).symm⟩⟩ (by first | omega | (simp only; omega))
             | exact K0.nx (-1 + 1, -1, sv, tv) (by repeat (first | exact trivial | refine And.intro rfl ?_)) ⟨F.pick [0, 1] (by decide), by omega, by omega, by omega, by omega, hg, .inr ⟨by omega, (if_neg (by simp_all)).symm⟩⟩ (by first | omega | (simp only; omega)))
    replace hc27 := of_decide_eq_false ((irr_eq _).symm.trans hc27)
    refine l_op 0 rfl rfl rfl rfl rfl ?_
    refine l_op 0 rfl rfl rfl rfl rfl ?_
    refine l_cmp rfl rfl rfl rfl ?_
    refine l_op 2 rfl rfl rfl rfl rfl ?_
    refine l_op 0 rfl rfl rfl rfl rfl ?_
    refine l_guard rfl rfl rfl (fun hc29 => ?_) (fun hc29 => ?_)
    · replace hc29 := of_decide_eq_true ((irr_eq _).symm.trans hc29)
      refine l_op 0 rfl rfl rfl rfl rfl ?_
      refine l_op 0 rfl rfl rfl rfl rfl ?_
      refine l_op 0 rfl rfl rfl rfl rfl ?_
      refine l_c64 rfl rfl rfl (by omega) rfl ?_
      refine l_callp F rfl rfl (by kernel_rfl) rfl rfl (rfree_call (F.cel0 0 rfl) (Old.pure (F.has 1 rfl)) hBL (by omega) ⟨by omega, by omega⟩ hu') (fun _ s F _ => ?_)
      (try dsimp only [n_1, n_2, n_3, n_4, List.append_nil, pk, n_5, n_6] at F)
      refine l_op 2 rfl rfl rfl rfl rfl ?_
      refine l_nil (WK.nx (by assumption) ?_)
      refine SeqK.nx (by assumption) ?_
      refine l_cond rfl rfl (fun hc30 => ?_) (fun hc30 => ?_)
      · try simp only [irr_eq, beq_iff_eq, bne_iff_ne, beq_eq_false_iff_ne, bne_eq_false_iff_eq, ne_eq, decide_eq_true_eq, decide_eq_false_iff_not, Bool.not_eq_true', Bool.not_eq_false'] at hc30
        refine k_lin (fun W K => ?_)
        refine l_op 0 rfl rfl rfl rfl rfl ?_
        refine l_op 0 rfl rfl rfl rfl rfl ?_
        refine l_nil (WK.nx (by assumption) ?_)
        refine BlkK.nx (by assumption) ?_
        refine SeqK.nx (by assumption) ?_
        refine k_lin (fun W K => ?_)
        refine l_op 0 rfl rfl rfl rfl rfl ?_
        refine l_a64 rfl rfl rfl (by omega) rfl ?_
        refine l_op 0 rfl rfl rfl rfl rfl ?_
        refine l_nil (WK.nx (by assumption) ?_)
        have hg : MG most st en bl L n e sv tv := ⟨⟨sv0, sv1⟩, ⟨tv0, tv1⟩, tvm, hlf, hmr, hp0, hpt⟩
        first
          | (have e1 : (i + 1).toNat = i.toNat + 1 := by omega
             first
               | (rw [lst_yes (by omega) (by assumption), ← e1] at htk
                  exact K0.nx (i + 1, (L.getD i.toNat default).1 + (L.getD i.toNat default).2, sv, tv) (by repeat (first | exact trivial | refine And.intro rfl ?_)) ⟨F.pick [0, 1] (by decide), by omega, by omega, by omega, by omega, hg, .inr ⟨by omega, htk.symm⟩⟩ (by first | omega | (simp only; omega)))
               | (rw [lst_no1 (by omega) (by omega), ← e1] at htk
                  exact K0.nx (i + 1, p, sv, tv) (by repeat (first | exact trivial | refine And.intro rfl ?_)) ⟨F.pick [0, 1] (by decide), by omega, by omega, by omega, by omega, hg, .inr ⟨by omega, htk.symm⟩⟩ (by first | omega | (simp only; omega)))
               | (rw [lst_no2 (by assumption), ← e1] at htk
                  exact K0.nx (i + 1, p, sv, tv) (by repeat (first | exact trivial | refine And.intro rfl ?_)) ⟨F.pick [0, 1] (by decide), by omega, by omega, by omega, by omega, hg, .inr ⟨by omega, htk.symm⟩⟩ (by first | omega | (simp only; omega))))
          | (obtain ⟨hi1, hp1⟩ := hpp
             subst hi1; subst hp1
             first
               | exact K0.nx (-1 + 1, sv, sv, tv) (by repeat (first | exact trivial | refine And.intro rfl ?_)) ⟨F.pick [0, 1] (by decide), by omega, by omega, by omega, by omega, hg, .inr ⟨by omega, (if_pos (by assumption)).symm⟩⟩ (by first | omega | (simp only; omega))
               | exact K0.nx (-1 + 1, -1, sv, tv) (by repeat (first | exact trivial | refine And.intro rfl ?_)) ⟨F.pick [0, 1] (by decide), by omega, by omega, by omega, by omega, hg, .inr ⟨by omega, (if_neg (by simp_all)).symm⟩⟩ (by first | omega | (simp only; omega)))
      try simp only [irr_eq, beq_iff_eq, bne_iff_ne, beq_eq_false_iff_ne, bne_eq_false_iff_eq, ne_eq, decide_eq_true_eq, decide_eq_false_iff_not, Bool.not_eq_true', Bool.not_eq_false'] at hc30
      refine k_skip ?_
      refine BlkK.nx (by assumption) ?_
      refine SeqK.nx (by assumption) ?_
      refine k_lin (fun W K => ?_)
      refine l_op 0 rfl rfl rfl rfl rfl ?_
      refine l_a64 rfl rfl rfl (by omega) rfl ?_
      refine l_op 0 rfl rfl rfl rfl rfl ?_
      refine l_nil (WK.nx (by assumption) ?_)
      have hg : MG most st en bl L n e sv tv := ⟨⟨sv0, sv1⟩, ⟨tv0, tv1⟩, tvm, hlf, hmr, hp0, hpt⟩
      first
        | (have e1 : (i + 1).toNat = i.toNat + 1 := by omega
           first
             | (rw [lst_yes (by omega) (by assumption), ← e1] at htk
                exact K0.nx (i + 1, (L.getD i.toNat default).1 + (L.getD i.toNat default).2, sv, tv) (by repeat (first | exact trivial | refine And.intro rfl ?_)) ⟨F.pick [0, 1] (by decide), by omega, by omega, by omega, by omega, hg, .inr ⟨by omega, htk.symm⟩⟩ (by first | omega | (simp only; omega)))
             | (rw [lst_no1 (by omega) (by omega), ← e1] at htk
                exact K0.nx (i + 1, p, sv, tv) (by repeat (first | exact trivial | refine And.intro rfl ?_)) ⟨F.pick [0, 1] (by decide), by omega, by omega, by omega, by omega, hg, .inr ⟨by omega, htk.symm⟩⟩ (by first | omega | (simp only; omega)))
             | (rw [lst_no2 (by assumption), ← e1] at htk
                exact K0.nx (i + 1, p, sv, tv) (by repeat (first | exact trivial | refine And.intro rfl ?_)) ⟨F.pick [0, 1] (by decide), by omega, by omega, by omega, by omega, hg, .inr ⟨by omega, htk.symm⟩⟩ (by first | omega | (simp only; omega))))
        | (obtain ⟨hi1, hp1⟩ := hpp
           subst hi1; subst hp1
           first
             | exact K0.nx (-1 + 1, sv, sv, tv) (by repeat (first | exact trivial | refine And.intro rfl ?_)) ⟨F.pick [0, 1] (by decide), by omega, by omega, by omega, by omega, hg, .inr ⟨by omega, (if_pos (by assumption)).symm⟩⟩ (by first | omega | (simp only; omega))
             | exact K0.nx (-1 + 1, -1, sv, tv) (by repeat (first | exact trivial | refine And.intro rfl ?_)) ⟨F.pick [0, 1] (by decide), by omega, by omega, by omega, by omega, hg, .inr ⟨by omega, (if_neg (by simp_all)).symm⟩⟩ (by first | omega | (simp only; omega)))
    replace hc29 := of_decide_eq_false ((irr_eq _).symm.trans hc29)
    refine l_s rfl rfl ?_
    refine l_s rfl rfl ?_
    refine l_s rfl rfl ?_
    refine l_s rfl rfl ?_
    refine l_s rfl rfl ?_
    refine l_op 2 rfl rfl rfl rfl rfl ?_
    refine l_nil (WK.nx (by assumption) ?_)
    refine SeqK.nx (by assumption) ?_
    first | refine e_cond_f rfl rfl rfl ?_ | refine e_cond_f rfl rfl (by rw [irr_eq]; first | exact beq_eq_false_iff_ne.2 (by assumption) | exact decide_eq_false (by assumption) | exact bne_eq_false_iff_eq.2 (by assumption)) ?_
    refine k_skip ?_
    refine BlkK.nx (by assumption) ?_
    refine SeqK.nx (by assumption) ?_
    refine k_lin (fun W K => ?_)
    refine l_op 0 rfl rfl rfl rfl rfl ?_
    refine l_a64 rfl rfl rfl (by omega) rfl ?_
    refine l_op 0 rfl rfl rfl rfl rfl ?_
    refine l_nil (WK.nx (by assumption) ?_)
    have hg : MG most st en bl L n e sv tv := ⟨⟨sv0, sv1⟩, ⟨tv0, tv1⟩, tvm, hlf, hmr, hp0, hpt⟩
    first
      | (have e1 : (i + 1).toNat = i.toNat + 1 := by omega
         first
           | (rw [lst_yes (by omega) (by assumption), ← e1] at htk
              exact K0.nx (i + 1, (L.getD i.toNat default).1 + (L.getD i.toNat default).2, sv, tv) (by repeat (first | exact trivial | refine And.intro rfl ?_)) ⟨F.pick [0, 1] (by decide), by omega, by omega, by omega, by omega, hg, .inr ⟨by omega, htk.symm⟩⟩ (by first | omega | (simp only; omega)))
           | (rw [lst_no1 (by omega) (by omega), ← e1] at htk
              exact K0.nx (i + 1, p, sv, tv) (by repeat (first | exact trivial | refine And.intro rfl ?_)) ⟨F.pick [0, 1] (by decide), by omega, by omega, by omega, by omega, hg, .inr ⟨by omega, htk.symm⟩⟩ (by first | omega | (simp only; omega)))
           | (rw [lst_no2 (by assumption), ← e1] at htk
              exact K0.nx (i + 1, p, sv, tv) (by repeat (first | exact trivial | refine And.intro rfl ?_)) ⟨F.pick [0, 1] (by decide), by omega, by omega, by omega, by omega, hg, .inr ⟨by omega, htk.symm⟩⟩ (by first | omega | (simp only; omega))))
      | (obtain ⟨hi1, hp1⟩ := hpp
         subst hi1; subst hp1
         first
           | exact K0.nx (-1 + 1, sv, sv, tv) (by repeat (first | exact trivial | refine And.intro rfl ?_)) ⟨F.pick [0, 1] (by decide), by omega, by omega, by omega, by omega, hg, .inr ⟨by omega, (if_pos (by assumption)).symm⟩⟩ (by first | omega | (simp only; omega))
           | exact K0.nx (-1 + 1, -1, sv, tv) (by repeat (first | exact trivial | refine And.intro rfl ?_)) ⟨F.pick [0, 1] (by decide), by omega, by omega, by omega, by omega, hg, .inr ⟨by omega, (if_neg (by simp_all)).symm⟩⟩ (by first | omega | (simp only; omega)))
  replace hc21 := of_decide_eq_false ((irr_eq _).symm.trans hc21)
  have hpp : p = (placeR n sv bl).1 := by
    rcases hip with h | h
    · omega
    · rw [h.2, List.take_of_length_le (by omega), hlf]
  rw [← hpp] at hp0 hpt
  obtain ⟨ix, hix⟩ : ∃ ix, placeR n sv bl = (p, ix) := ⟨(placeR n sv bl).2, by rw [hpp]⟩
  refine k_exit ?_
  refine SeqK.et (by assumption) ?_
  refine LoopK.et (by assumption) ?_
  refine BlkK.et (by assumption) ?_
  refine SeqK.nx (by assumption) ?_
  refine k_seq (fun Q K => ?_)
  refine k_seq (fun Q K => ?_)
  refine k_lin (fun W K => ?_)
  refine l_op 0 rfl rfl rfl rfl rfl ?_
  refine l_op 0 rfl rfl rfl rfl rfl ?_
  refine l_c64 rfl rfl rfl (by omega) rfl ?_
  refine l_a64 rfl rfl rfl (by omega) rfl ?_
  refine l_op 0 rfl rfl rfl rfl rfl ?_
  refine l_cmp rfl rfl rfl rfl ?_
  refine l_nil (WK.nx (by assumption) ?_)
  refine SeqK.nx (by assumption) ?_
  refine l_cond rfl rfl (fun hc31 => ?_) (fun hc31 => ?_)
  · replace hc31 := of_decide_eq_true ((irr_eq _).symm.trans hc31)
    refine k_seq (fun Q K => ?_)
    refine k_lin (fun W K => ?_)
    refine l_op 0 rfl rfl rfl rfl rfl ?_
    refine l_op 0 rfl rfl rfl rfl rfl ?_
    refine l_c64 rfl rfl rfl (by omega) rfl ?_
    refine l_a64 rfl rfl rfl (by omega) rfl ?_
    refine l_op 0 rfl rfl rfl rfl rfl ?_
    refine l_nil (WK.nx (by assumption) ?_)
    refine SeqK.nx (by assumption) ?_
    refine k_seq (fun Q K => ?_)
    refine k_seq (fun Q K => ?_)
    refine k_lin (fun W K => ?_)
    refine l_op 0 rfl rfl rfl rfl rfl ?_
    first | refine l_remn rfl rfl rfl rfl rfl (by omega) rfl ?_ | refine l_rem rfl rfl rfl rfl rfl (by omega) rfl ?_
    refine l_cmp rfl rfl rfl rfl ?_
    refine l_nil (WK.nx (by assumption) ?_)
    refine SeqK.nx (by assumption) ?_
    refine l_cond rfl rfl (fun hc32 => ?_) (fun hc32 => ?_)
    · first | replace hc32 := bne_iff_ne.1 ((irr_eq _).symm.trans hc32) | simp only [irr_eq, bne_iff_ne, bne_eq_false_iff_eq, ne_eq, decide_eq_true_eq, decide_eq_false_iff_not, Bool.not_eq_true', Bool.not_eq_false'] at hc32
      refine k_lin (fun W K => ?_)
      refine l_op 0 rfl rfl rfl rfl rfl ?_
      refine l_a64 rfl rfl rfl (by omega) rfl ?_
      refine l_op 0 rfl rfl rfl rfl rfl ?_
      first | refine l_remn rfl rfl rfl rfl rfl (by omega) rfl ?_ | refine l_rem rfl rfl rfl rfl rfl (by omega) rfl ?_
      refine l_a64 rfl rfl rfl (by omega) rfl ?_
      refine l_op 0 rfl rfl rfl rfl rfl ?_
      refine l_nil (WK.nx (by assumption) ?_)
      refine SeqK.nx (by assumption) ?_
      refine k_seq (fun Q K => ?_)
      refine k_lin (fun W K => ?_)
      refine l_op 0 rfl rfl rfl rfl rfl ?_
      refine l_op 0 rfl rfl rfl rfl rfl ?_
      refine l_op 2 rfl rfl rfl rfl rfl ?_
      refine l_op 2 rfl rfl rfl rfl rfl ?_
      refine l_ldc F 0 rfl rfl rfl rfl rfl rfl rfl ?_
      refine l_cmp rfl rfl rfl rfl ?_
      refine l_nil (WK.nx (by assumption) ?_)
      refine SeqK.nx (by assumption) ?_
      refine l_cond rfl rfl (fun hc33 => ?_) (fun hc33 => ?_)
      · replace hc33 := of_decide_eq_true ((irr_eq _).symm.trans hc33)
        refine k_seq (fun Q K => ?_)
        refine k_lin (fun W K => ?_)
        refine l_op 0 rfl rfl rfl rfl rfl ?_
        refine l_op 0 rfl rfl rfl rfl rfl ?_
        refine l_nil (WK.nx (by assumption) ?_)
        refine SeqK.nx (by assumption) ?_
        refine k_ret ?_
        refine SeqK.rt (by assumption) ?_
        refine FunK.rt (by assumption) rfl ?_
        -- leaf 11
        first
          | (have hr : mallocR most st en bl n e = ⟨0, false, st, en, bl⟩ := mallocR_none (by omega)
             rw [hr]; exact ⟨(a, c, L), rfl, F.pick [0, 1] (by decide), hP⟩)
          | (have hr : mallocR most st en bl n e = ⟨0, false, st, en, bl⟩ := by subst hbl; exact mallocR_none (.inr (.inr ⟨rfl, by omega⟩))
             rw [hr]; exact ⟨(a, c, L), rfl, F.pick [0, 1] (by decide), hP⟩)
          | (have hr : mallocR most st en bl n e = ⟨0, false, st, en, bl⟩ := by rw [hmr]; exact mallocA_no hix (by omega) (by omega)
             rw [hr]; exact ⟨(a, c, L), rfl, F.pick [0, 1] (by decide), hP⟩)
          | (have hr : mallocR most st en bl n e = ⟨p, true, sv, p + n + 256 - (p + n) % 256, ins bl ix (p, n)⟩ := by
               rw [hmr, mallocA_top hix (by omega) (by omega) m1]
               rw [show (p + n + 255) / 256 * 256 = p + n + 256 - (p + n) % 256 by omega]
             rw [hr]
             have hl1 : (L ++ [(p, n)]).length = 0 + L.length + 1 := by simp
             have hr1 : rows eB (L ++ [(p, n)]) = rows eB L ++ rows eB [(p, n)] := rows_append _ _ _
             refine ⟨(x147, c147, L ++ [(p, n)]), rfl, ?_, perm_ins hP _ _⟩
             show Facts O σ s [cel m (rC x147 c147 most _ _ (L ++ [(p, n)])), own x147 (L ++ [(p, n)]).length c147 2 (rows eB (L ++ [(p, n)]))]
             rw [hr1]
             unfold rC
             rw [hl1]
             exact F.pick [0, 2] (by decide))
          | (have hr : mallocR most st en bl n e = ⟨p, true, sv, p + n, ins bl ix (p, n)⟩ := by
               rw [hmr, mallocA_top hix (by omega) (by omega) m1]
               rw [show (p + n + 255) / 256 * 256 = p + n by omega]
             rw [hr]
             have hl1 : (L ++ [(p, n)]).length = 0 + L.length + 1 := by simp
             have hr1 : rows eB (L ++ [(p, n)]) = rows eB L ++ rows eB [(p, n)] := rows_append _ _ _
             refine ⟨(x147, c147, L ++ [(p, n)]), rfl, ?_, perm_ins hP _ _⟩
             show Facts O σ s [cel m (rC x147 c147 most _ _ (L ++ [(p, n)])), own x147 (L ++ [(p, n)]).length c147 2 (rows eB (L ++ [(p, n)]))]
             rw [hr1]
             unfold rC
             rw [hl1]
             exact F.pick [0, 2] (by decide))
          | (have hr : mallocR most st en bl n e = ⟨p, true, sv, tv, ins bl ix (p, n)⟩ := by
               rw [hmr, mallocA_in hix (by omega)]
             rw [hr]
             have hl1 : (L ++ [(p, n)]).length = 0 + L.length + 1 := by simp
             have hr1 : rows eB (L ++ [(p, n)]) = rows eB L ++ rows eB [(p, n)] := rows_append _ _ _
             refine ⟨(x147, c147, L ++ [(p, n)]), rfl, ?_, perm_ins hP _ _⟩
             show Facts O σ s [cel m (rC x147 c147 most _ _ (L ++ [(p, n)])), own x147 (L ++ [(p, n)]).length c147 2 (rows eB (L ++ [(p, n)]))]
             rw [hr1]
             unfold rC
             rw [hl1]
             exact F.pick [0, 2] (by decide))
      replace hc33 := of_decide_eq_false ((irr_eq _).symm.trans hc33)
      refine k_skip ?_
      refine SeqK.nx (by assumption) ?_
      refine k_seq (fun Q K => ?_)
      refine k_lin (fun W K => ?_)
      refine l_op 0 rfl rfl rfl rfl rfl ?_
      refine l_op 0 rfl rfl rfl rfl rfl ?_
      refine l_op 0 rfl rfl rfl rfl rfl ?_
      refine l_op 0 rfl rfl rfl rfl rfl ?_
      refine l_op 2 rfl rfl rfl rfl rfl ?_
      refine l_op 2 rfl rfl rfl rfl rfl ?_
      refine l_stc F 0 rfl rfl rfl rfl rfl rfl rfl rfl rfl hD (fun s F => ?_)
      (try dsimp only [n_1, n_2, n_3, n_4, List.append_nil, pk, n_5, n_6] at F)
      refine l_op 2 rfl rfl rfl rfl rfl ?_
      refine l_op 2 rfl rfl rfl rfl rfl ?_
      refine l_stc F 0 rfl rfl rfl rfl rfl rfl rfl rfl rfl hD (fun s F => ?_)
      (try dsimp only [n_1, n_2, n_3, n_4, List.append_nil, pk, n_5, n_6] at F)
      refine l_nil (WK.nx (by assumption) ?_)
      refine SeqK.nx (by assumption) ?_
      refine k_seq (fun Q K => ?_)
      refine k_lin (fun W K => ?_)
      refine l_op 0 rfl rfl rfl rfl rfl ?_
      refine l_lit (k := 2) F rfl rfl rfl rfl (fun q136 s F => ?_)
      (try dsimp only [n_1, n_2, n_3, n_4, List.append_nil, pk, n_5, n_6] at F)
      refine l_op 0 rfl rfl rfl rfl rfl ?_
      refine l_op 2 rfl rfl rfl rfl rfl ?_
      refine l_op 2 rfl rfl rfl rfl rfl ?_
      refine l_ldc F 0 rfl rfl rfl rfl rfl rfl rfl ?_
      refine l_app (es := 2) (vs := []) F 2 rfl rfl rfl rfl rfl rfl rfl (F.has 1 rfl) (eB_one L) rfl (by omega) hD (fun x141 c141 s F => ?_)
      (try dsimp only [n_1, n_2, n_3, n_4, List.append_nil, pk, n_5, n_6] at F)
      refine l_op 0 rfl rfl rfl rfl rfl ?_
      refine l_c32 rfl rfl rfl (by omega) rfl ?_
      refine l_op 0 rfl rfl rfl rfl rfl ?_
      refine l_bld rfl rfl rfl rfl ?_
      refine l_lit (k := 2) F rfl rfl rfl rfl (fun q146 s F => ?_)
      (try dsimp only [n_1, n_2, n_3, n_4, List.append_nil, pk, n_5, n_6] at F)
      refine l_app (es := 2) (ns := rows eB [(p, n)]) F 2 rfl rfl rfl rfl rfl rfl rfl (F.has 3 rfl) (eB_one [(p, n)]) rfl (by omega) hD (fun x147 c147 s F => ?_)
      (try dsimp only [n_1, n_2, n_3, n_4, List.append_nil, pk, n_5, n_6] at F)
      refine l_op 2 rfl rfl rfl rfl rfl ?_
      refine l_op 2 rfl rfl rfl rfl rfl ?_
      refine l_stc F 0 rfl rfl rfl rfl rfl rfl rfl rfl rfl hD (fun s F => ?_)
      (try dsimp only [n_1, n_2, n_3, n_4, List.append_nil, pk, n_5, n_6] at F)
      refine l_nil (WK.nx (by assumption) ?_)
      refine SeqK.nx (by assumption) ?_
      refine k_seq (fun Q K => ?_)
      refine k_lin (fun W K => ?_)
      refine l_op 0 rfl rfl rfl rfl rfl ?_
      refine l_c32 rfl rfl rfl (by omega) rfl ?_
      refine l_op 0 rfl rfl rfl rfl rfl ?_
      refine l_op 0 rfl rfl rfl rfl rfl ?_
      refine l_nil (WK.nx (by assumption) ?_)
      refine SeqK.nx (by assumption) ?_
      refine k_ret ?_
      refine FunK.rt (by assumption) rfl ?_
      -- leaf 12
      first
        | (have hr : mallocR most st en bl n e = ⟨0, false, st, en, bl⟩ := mallocR_none (by omega)
           rw [hr]; exact ⟨(a, c, L), rfl, F.pick [0, 1] (by decide), hP⟩)
        | (have hr : mallocR most st en bl n e = ⟨0, false, st, en, bl⟩ := by subst hbl; exact mallocR_none (.inr (.inr ⟨rfl, by omega⟩))
           rw [hr]; exact ⟨(a, c, L), rfl, F.pick [0, 1] (by decide), hP⟩)
        | (have hr : mallocR most st en bl n e = ⟨0, false, st, en, bl⟩ := by rw [hmr]; exact mallocA_no hix (by omega) (by omega)
           rw [hr]; exact ⟨(a, c, L), rfl, F.pick [0, 1] (by decide), hP⟩)
        | (have hr : mallocR most st en bl n e = ⟨p, true, sv, p + n + 256 - (p + n) % 256, ins bl ix (p, n)⟩ := by
             rw [hmr, mallocA_top hix (by omega) (by omega) m1]
             rw [show (p + n + 255) / 256 * 256 = p + n + 256 - (p + n) % 256 by omega]
           rw [hr]
           have hl1 : (L ++ [(p, n)]).length = 0 + L.length + 1 := by simp
           have hr1 : rows eB (L ++ [(p, n)]) = rows eB L ++ rows eB [(p, n)] := rows_append _ _ _
           refine ⟨(x147, c147, L ++ [(p, n)]), rfl, ?_, perm_ins hP _ _⟩
           show Facts O σ s [cel m (rC x147 c147 most _ _ (L ++ [(p, n)])), own x147 (L ++ [(p, n)]).length c147 2 (rows eB (L ++ [(p, n)]))]
           rw [hr1]
           unfold rC
           rw [hl1]
           exact F.pick [0, 2] (by decide))
        | (have hr : mallocR most st en bl n e = ⟨p, true, sv, p + n, ins bl ix (p, n)⟩ := by
             rw [hmr, mallocA_top hix (by omega) (by omega) m1]
             rw [show (p + n + 255) / 256 * 256 = p + n by omega]
           rw [hr]
           have hl1 : (L ++ [(p, n)]).length = 0 + L.length + 1 := by simp
           have hr1 : rows eB (L ++ [(p, n)]) = rows eB L ++ rows eB [(p, n)] := rows_append _ _ _
           refine ⟨(x147, c147, L ++ [(p, n)]), rfl, ?_, perm_ins hP _ _⟩
           show Facts O σ s [cel m (rC x147 c147 most _ _ (L ++ [(p, n)])), own x147 (L ++ [(p, n)]).length c147 2 (rows eB (L ++ [(p, n)]))]
           rw [hr1]
           unfold rC
           rw [hl1]
           exact F.pick [0, 2] (by decide))
        | (have hr : mallocR most st en bl n e = ⟨p, true, sv, tv, ins bl ix (p, n)⟩ := by
             rw [hmr, mallocA_in hix (by omega)]
           rw [hr]
           have hl1 : (L ++ [(p, n)]).length = 0 + L.length + 1 := by simp
           have hr1 : rows eB (L ++ [(p, n)]) = rows eB L ++ rows eB [(p, n)] := rows_append _ _ _
           refine ⟨(x147, c147, L ++ [(p, n)]), rfl, ?_, perm_ins hP _ _⟩
           show Facts O σ s [cel m (rC x147 c147 most _ _ (L ++ [(p, n)])), own x147 (L ++ [(p, n)]).length c147 2 (rows eB (L ++ [(p, n)]))]
           rw [hr1]
           unfold rC
           rw [hl1]
           exact F.pick [0, 2] (by decide))
    first | replace hc32 := bne_eq_false_iff_eq.1 ((irr_eq _).symm.trans hc32) | simp only [irr_eq, bne_iff_ne, bne_eq_false_iff_eq, ne_eq, decide_eq_true_eq, decide_eq_false_iff_not, Bool.not_eq_true', Bool.not_eq_false'] at hc32
    refine k_skip ?_
    refine SeqK.nx (by assumption) ?_
    refine k_seq (fun Q K => ?_)
    refine k_lin (fun W K => ?_)
    refine l_op 0 rfl rfl rfl rfl rfl ?_
    refine l_op 0 rfl rfl rfl rfl rfl ?_
    refine l_op 2 rfl rfl rfl rfl rfl ?_
    refine l_op 2 rfl rfl rfl rfl rfl ?_
    refine l_ldc F 0 rfl rfl rfl rfl rfl rfl rfl ?_
    refine l_cmp rfl rfl rfl rfl ?_
    refine l_nil (WK.nx (by assumption) ?_)
    refine SeqK.nx (by assumption) ?_
    refine l_cond rfl rfl (fun hc34 => ?_) (fun hc34 => ?_)
    · replace hc34 := of_decide_eq_true ((irr_eq _).symm.trans hc34)
      refine k_seq (fun Q K => ?_)
      refine k_lin (fun W K => ?_)
      refine l_op 0 rfl rfl rfl rfl rfl ?_
      refine l_op 0 rfl rfl rfl rfl rfl ?_
      refine l_nil (WK.nx (by assumption) ?_)
      refine SeqK.nx (by assumption) ?_
      refine k_ret ?_
      refine SeqK.rt (by assumption) ?_
      refine FunK.rt (by assumption) rfl ?_
      -- leaf 13
      first
        | (have hr : mallocR most st en bl n e = ⟨0, false, st, en, bl⟩ := mallocR_none (by omega)
           rw [hr]; exact ⟨(a, c, L), rfl, F.pick [0, 1] (by decide), hP⟩)
        | (have hr : mallocR most st en bl n e = ⟨0, false, st, en, bl⟩ := by subst hbl; exact mallocR_none (.inr (.inr ⟨rfl, by omega⟩))
           rw [hr]; exact ⟨(a, c, L), rfl, F.pick [0, 1] (by decide), hP⟩)
        | (have hr : mallocR most st en bl n e = ⟨0, false, st, en, bl⟩ := by rw [hmr]; exact mallocA_no hix (by omega) (by omega)
           rw [hr]; exact ⟨(a, c, L), rfl, F.pick [0, 1] (by decide), hP⟩)
        | (have hr : mallocR most st en bl n e = ⟨p, true, sv, p + n + 256 - (p + n) % 256, ins bl ix (p, n)⟩ := by
             rw [hmr, mallocA_top hix (by omega) (by omega) m1]
             rw [show (p + n + 255) / 256 * 256 = p + n + 256 - (p + n) % 256 by omega]
           rw [hr]
           have hl1 : (L ++ [(p, n)]).length = 0 + L.length + 1 := by simp
           have hr1 : rows eB (L ++ [(p, n)]) = rows eB L ++ rows eB [(p, n)] := rows_append _ _ _
           refine ⟨(x147, c147, L ++ [(p, n)]), rfl, ?_, perm_ins hP _ _⟩
           show Facts O σ s [cel m (rC x147 c147 most _ _ (L ++ [(p, n)])), own x147 (L ++ [(p, n)]).length c147 2 (rows eB (L ++ [(p, n)]))]
           rw [hr1]
           unfold rC
           rw [hl1]
           exact F.pick [0, 2] (by decide))
        | (have hr : mallocR most st en bl n e = ⟨p, true, sv, p + n, ins bl ix (p, n)⟩ := by
             rw [hmr, mallocA_top hix (by omega) (by omega) m1]
             rw [show (p + n + 255) / 256 * 256 = p + n by omega]
           rw [hr]
           have hl1 : (L ++ [(p, n)]).length = 0 + L.length + 1 := by simp
           have hr1 : rows eB (L ++ [(p, n)]) = rows eB L ++ rows eB [(p, n)] := rows_append _ _ _
           refine ⟨(x147, c147, L ++ [(p, n)]), rfl, ?_, perm_ins hP _ _⟩
           show Facts O σ s [cel m (rC x147 c147 most _ _ (L ++ [(p, n)])), own x147 (L ++ [(p, n)]).length c147 2 (rows eB (L ++ [(p, n)]))]
           rw [hr1]
           unfold rC
           rw [hl1]
           exact F.pick [0, 2] (by decide))
        | (have hr : mallocR most st en bl n e = ⟨p, true, sv, tv, ins bl ix (p, n)⟩ := by
             rw [hmr, mallocA_in hix (by omega)]
           rw [hr]
           have hl1 : (L ++ [(p, n)]).length = 0 + L.length + 1 := by simp
           have hr1 : rows eB (L ++ [(p, n)]) = rows eB L ++ rows eB [(p, n)] := rows_append _ _ _
           refine ⟨(x147, c147, L ++ [(p, n)]), rfl, ?_, perm_ins hP _ _⟩
           show Facts O σ s [cel m (rC x147 c147 most _ _ (L ++ [(p, n)])), own x147 (L ++ [(p, n)]).length c147 2 (rows eB (L ++ [(p, n)]))]
           rw [hr1]
           unfold rC
           rw [hl1]
           exact F.pick [0, 2] (by decide))
    replace hc34 := of_decide_eq_false ((irr_eq _).symm.trans hc34)
    refine k_skip ?_
    refine SeqK.nx (by assumption) ?_
    refine k_seq (fun Q K => ?_)
    refine k_lin (fun W K => ?_)
    refine l_op 0 rfl rfl rfl rfl rfl ?_
    refine l_op 0 rfl rfl rfl rfl rfl ?_
    refine l_op 0 rfl rfl rfl rfl rfl ?_
    refine l_op 0 rfl rfl rfl rfl rfl ?_
    refine l_op 2 rfl rfl rfl rfl rfl ?_
    refine l_op 2 rfl rfl rfl rfl rfl ?_
    refine l_stc F 0 rfl rfl rfl rfl rfl rfl rfl rfl rfl hD (fun s F => ?_)
    (try dsimp only [n_1, n_2, n_3, n_4, List.append_nil, pk, n_5, n_6] at F)
    refine l_op 2 rfl rfl rfl rfl rfl ?_
    refine l_op 2 rfl rfl rfl rfl rfl ?_
    refine l_stc F 0 rfl rfl rfl rfl rfl rfl rfl rfl rfl hD (fun s F => ?_)
    (try dsimp only [n_1, n_2, n_3, n_4, List.append_nil, pk, n_5, n_6] at F)
    refine l_nil (WK.nx (by assumption) ?_)
    refine SeqK.nx (by assumption) ?_
    refine k_seq (fun Q K => ?_)
    refine k_lin (fun W K => ?_)
    refine l_op 0 rfl rfl rfl rfl rfl ?_
    refine l_lit (k := 2) F rfl rfl rfl rfl (fun q136 s F => ?_)
    (try dsimp only [n_1, n_2, n_3, n_4, List.append_nil, pk, n_5, n_6] at F)
    refine l_op 0 rfl rfl rfl rfl rfl ?_
    refine l_op 2 rfl rfl rfl rfl rfl ?_
    refine l_op 2 rfl rfl rfl rfl rfl ?_
    refine l_ldc F 0 rfl rfl rfl rfl rfl rfl rfl ?_
    refine l_app (es := 2) (vs := []) F 2 rfl rfl rfl rfl rfl rfl rfl (F.has 1 rfl) (eB_one L) rfl (by omega) hD (fun x141 c141 s F => ?_)
    (try dsimp only [n_1, n_2, n_3, n_4, List.append_nil, pk, n_5, n_6] at F)
    refine l_op 0 rfl rfl rfl rfl rfl ?_
    refine l_c32 rfl rfl rfl (by omega) rfl ?_
    refine l_op 0 rfl rfl rfl rfl rfl ?_
    refine l_bld rfl rfl rfl rfl ?_
    refine l_lit (k := 2) F rfl rfl rfl rfl (fun q146 s F => ?_)
    (try dsimp only [n_1, n_2, n_3, n_4, List.append_nil, pk, n_5, n_6] at F)
    refine l_app (es := 2) (ns := rows eB [(p, n)]) F 2 rfl rfl rfl rfl rfl rfl rfl (F.has 3 rfl) (eB_one [(p, n)]) rfl (by omega) hD (fun x147 c147 s F => ?_)
    (try dsimp only [n_1, n_2, n_3, n_4, List.append_nil, pk, n_5, n_6] at F)
    refine l_op 2 rfl rfl rfl rfl rfl ?_
    refine l_op 2 rfl rfl rfl rfl rfl ?_
    refine l_stc F 0 rfl rfl rfl rfl rfl rfl rfl rfl rfl hD (fun s F => ?_)
    (try dsimp only [n_1, n_2, n_3, n_4, List.append_nil, pk, n_5, n_6] at F)
    refine l_nil (WK.nx (by assumption) ?_)
    refine SeqK.nx (by assumption) ?_
    refine k_seq (fun Q K => ?_)
    refine k_lin (fun W K => ?_)
    refine l_op 0 rfl rfl rfl rfl rfl ?_
    refine l_c32 rfl rfl rfl (by omega) rfl ?_
    refine l_op 0 rfl rfl rfl rfl rfl ?_
    refine l_op 0 rfl rfl rfl rfl rfl ?_
    refine l_nil (WK.nx (by assumption) ?_)
    refine SeqK.nx (by assumption) ?_
    refine k_ret ?_
    refine FunK.rt (by assumption) rfl ?_
    -- leaf 14
    first
      | (have hr : mallocR most st en bl n e = ⟨0, false, st, en, bl⟩ := mallocR_none (by omega)
         rw [hr]; exact ⟨(a, c, L), rfl, F.pick [0, 1] (by decide), hP⟩)
      | (have hr : mallocR most st en bl n e = ⟨0, false, st, en, bl⟩ := by subst hbl; exact mallocR_none (.inr (.inr ⟨rfl, by omega⟩))
         rw [hr]; exact ⟨(a, c, L), rfl, F.pick [0, 1] (by decide), hP⟩)
      | (have hr : mallocR most st en bl n e = ⟨0, false, st, en, bl⟩ := by rw [hmr]; exact mallocA_no hix (by omega) (by omega)
         rw [hr]; exact ⟨(a, c, L), rfl, F.pick [0, 1] (by decide), hP⟩)
      | (have hr : mallocR most st en bl n e = ⟨p, true, sv, p + n + 256 - (p + n) % 256, ins bl ix (p, n)⟩ := by
           rw [hmr, mallocA_top hix (by omega) (by omega) m1]
           rw [show (p + n + 255) / 256 * 256 = p + n + 256 - (p + n) % 256 by omega]
         rw [hr]
         have hl1 : (L ++ [(p, n)]).length = 0 + L.length + 1 := by simp
         have hr1 : rows eB (L ++ [(p, n)]) = rows eB L ++ rows eB [(p, n)] := rows_append _ _ _
         refine ⟨(x147, c147, L ++ [(p, n)]), rfl, ?_, perm_ins hP _ _⟩
         show Facts O σ s [cel m (rC x147 c147 most _ _ (L ++ [(p, n)])), own x147 (L ++ [(p, n)]).length c147 2 (rows eB (L ++ [(p, n)]))]
         rw [hr1]
         unfold rC
         rw [hl1]
         exact F.pick [0, 2] (by decide))
      | (have hr : mallocR most st en bl n e = ⟨p, true, sv, p + n, ins bl ix (p, n)⟩ := by
           rw [hmr, mallocA_top hix (by omega) (by omega) m1]
           rw [show (p + n + 255) / 256 * 256 = p + n by omega]
         rw [hr]
         have hl1 : (L ++ [(p, n)]).length = 0 + L.length + 1 := by simp
         have hr1 : rows eB (L ++ [(p, n)]) = rows eB L ++ rows eB [(p, n)] := rows_append _ _ _
         refine ⟨(x147, c147, L ++ [(p, n)]), rfl, ?_, perm_ins hP _ _⟩
         show Facts O σ s [cel m (rC x147 c147 most _ _ (L ++ [(p, n)])), own x147 (L ++ [(p, n)]).length c147 2 (rows eB (L ++ [(p, n)]))]
         rw [hr1]
         unfold rC
         rw [hl1]
         exact F.pick [0, 2] (by decide))
      | (have hr : mallocR most st en bl n e = ⟨p, true, sv, tv, ins bl ix (p, n)⟩ := by
           rw [hmr, mallocA_in hix (by omega)]
         rw [hr]
         have hl1 : (L ++ [(p, n)]).length = 0 + L.length + 1 := by simp
         have hr1 : rows eB (L ++ [(p, n)]) = rows eB L ++ rows eB [(p, n)] := rows_append _ _ _
         refine ⟨(x147, c147, L ++ [(p, n)]), rfl, ?_, perm_ins hP _ _⟩
         show Facts O σ s [cel m (rC x147 c147 most _ _ (L ++ [(p, n)])), own x147 (L ++ [(p, n)]).length c147 2 (rows eB (L ++ [(p, n)]))]
         rw [hr1]
         unfold rC
         rw [hl1]
         exact F.pick [0, 2] (by decide))
  replace hc31 := of_decide_eq_false ((irr_eq _).symm.trans hc31)
  refine k_skip ?_
  refine SeqK.nx (by assumption) ?_
  refine k_seq (fun Q K => ?_)
  refine k_lin (fun W K => ?_)
  refine l_op 0 rfl rfl rfl rfl rfl ?_
  refine l_op 0 rfl rfl rfl rfl rfl ?_
  refine l_op 0 rfl rfl rfl rfl rfl ?_
  refine l_op 0 rfl rfl rfl rfl rfl ?_
  refine l_op 2 rfl rfl rfl rfl rfl ?_
  refine l_op 2 rfl rfl rfl rfl rfl ?_
  refine l_stc F 0 rfl rfl rfl rfl rfl rfl rfl rfl rfl hD (fun s F => ?_)
  (try dsimp only [n_1, n_2, n_3, n_4, List.append_nil, pk, n_5, n_6] at F)
  refine l_op 2 rfl rfl rfl rfl rfl ?_
  refine l_op 2 rfl rfl rfl rfl rfl ?_
  refine l_stc F 0 rfl rfl rfl rfl rfl rfl rfl rfl rfl hD (fun s F => ?_)
  (try dsimp only [n_1, n_2, n_3, n_4, List.append_nil, pk, n_5, n_6] at F)
  refine l_nil (WK.nx (by assumption) ?_)
  refine SeqK.nx (by assumption) ?_
  refine k_seq (fun Q K => ?_)
  refine k_lin (fun W K => ?_)
  refine l_op 0 rfl rfl rfl rfl rfl ?_
  refine l_lit (k := 2) F rfl rfl rfl rfl (fun q136 s F => ?_)
  (try dsimp only [n_1, n_2, n_3, n_4, List.append_nil, pk, n_5, n_6] at F)
  refine l_op 0 rfl rfl rfl rfl rfl ?_
  refine l_op 2 rfl rfl rfl rfl rfl ?_
  refine l_op 2 rfl rfl rfl rfl rfl ?_
  refine l_ldc F 0 rfl rfl rfl rfl rfl rfl rfl ?_
  refine l_app (es := 2) (vs := []) F 2 rfl rfl rfl rfl rfl rfl rfl (F.has 1 rfl) (eB_one L) rfl (by omega) hD (fun x141 c141 s F => ?_)
  (try dsimp only [n_1, n_2, n_3, n_4, List.append_nil, pk, n_5, n_6] at F)
  refine l_op 0 rfl rfl rfl rfl rfl ?_
  refine l_c32 rfl rfl rfl (by omega) rfl ?_
  refine l_op 0 rfl rfl rfl rfl rfl ?_
  refine l_bld rfl rfl rfl rfl ?_
  refine l_lit (k := 2) F rfl rfl rfl rfl (fun q146 s F => ?_)
  (try dsimp only [n_1, n_2, n_3, n_4, List.append_nil, pk, n_5, n_6] at F)
  refine l_app (es := 2) (ns := rows eB [(p, n)]) F 2 rfl rfl rfl rfl rfl rfl rfl (F.has 3 rfl) (eB_one [(p, n)]) rfl (by omega) hD (fun x147 c147 s F => ?_)
  (try dsimp only [n_1, n_2, n_3, n_4, List.append_nil, pk, n_5, n_6] at F)
  refine l_op 2 rfl rfl rfl rfl rfl ?_
  refine l_op 2 rfl rfl rfl rfl rfl ?_
  refine l_stc F 0 rfl rfl rfl rfl rfl rfl rfl rfl rfl hD (fun s F => ?_)
  (try dsimp only [n_1, n_2, n_3, n_4, List.append_nil, pk, n_5, n_6] at F)
  refine l_nil (WK.nx (by assumption) ?_)
  refine SeqK.nx (by assumption) ?_
  refine k_seq (fun Q K => ?_)
  refine k_lin (fun W K => ?_)
  refine l_op 0 rfl rfl rfl rfl rfl ?_
  refine l_c32 rfl rfl rfl (by omega) rfl ?_
  refine l_op 0 rfl rfl rfl rfl rfl ?_
  refine l_op 0 rfl rfl rfl rfl rfl ?_
  refine l_nil (WK.nx (by assumption) ?_)
  refine SeqK.nx (by assumption) ?_
  refine k_ret ?_
  refine FunK.rt (by assumption) rfl ?_
  -- leaf 15
  first
    | (have hr : mallocR most st en bl n e = ⟨0, false, st, en, bl⟩ := mallocR_none (by omega)
       rw [hr]; exact ⟨(a, c, L), rfl, F.pick [0, 1] (by decide), hP⟩)
    | (have hr : mallocR most st en bl n e = ⟨0, false, st, en, bl⟩ := by subst hbl; exact mallocR_none (.inr (.inr ⟨rfl, by omega⟩))
       rw [hr]; exact ⟨(a, c, L), rfl, F.pick [0, 1] (by decide), hP⟩)
    | (have hr : mallocR most st en bl n e = ⟨0, false, st, en, bl⟩ := by rw [hmr]; exact mallocA_no hix (by omega) (by omega)
       rw [hr]; exact ⟨(a, c, L), rfl, F.pick [0, 1] (by decide), hP⟩)
    | (have hr : mallocR most st en bl n e = ⟨p, true, sv, p + n + 256 - (p + n) % 256, ins bl ix (p, n)⟩ := by
         rw [hmr, mallocA_top hix (by omega) (by omega) m1]
         rw [show (p + n + 255) / 256 * 256 = p + n + 256 - (p + n) % 256 by omega]
       rw [hr]
       have hl1 : (L ++ [(p, n)]).length = 0 + L.length + 1 := by simp
       have hr1 : rows eB (L ++ [(p, n)]) = rows eB L ++ rows eB [(p, n)] := rows_append _ _ _
       refine ⟨(x147, c147, L ++ [(p, n)]), rfl, ?_, perm_ins hP _ _⟩
       show Facts O σ s [cel m (rC x147 c147 most _ _ (L ++ [(p, n)])), own x147 (L ++ [(p, n)]).length c147 2 (rows eB (L ++ [(p, n)]))]
       rw [hr1]
       unfold rC
       rw [hl1]
       exact F.pick [0, 2] (by decide))
    | (have hr : mallocR most st en bl n e = ⟨p, true, sv, p + n, ins bl ix (p, n)⟩ := by
         rw [hmr, mallocA_top hix (by omega) (by omega) m1]
         rw [show (p + n + 255) / 256 * 256 = p + n by omega]
       rw [hr]
       have hl1 : (L ++ [(p, n)]).length = 0 + L.length + 1 := by simp
       have hr1 : rows eB (L ++ [(p, n)]) = rows eB L ++ rows eB [(p, n)] := rows_append _ _ _
       refine ⟨(x147, c147, L ++ [(p, n)]), rfl, ?_, perm_ins hP _ _⟩
       show Facts O σ s [cel m (rC x147 c147 most _ _ (L ++ [(p, n)])), own x147 (L ++ [(p, n)]).length c147 2 (rows eB (L ++ [(p, n)]))]
       rw [hr1]
       unfold rC
       rw [hl1]
       exact F.pick [0, 2] (by decide))
    | (have hr : mallocR most st en bl n e = ⟨p, true, sv, tv, ins bl ix (p, n)⟩ := by
         rw [hmr, mallocA_in hix (by omega)]
       rw [hr]
       have hl1 : (L ++ [(p, n)]).length = 0 + L.length + 1 := by simp
       have hr1 : rows eB (L ++ [(p, n)]) = rows eB L ++ rows eB [(p, n)] := rows_append _ _ _
       refine ⟨(x147, c147, L ++ [(p, n)]), rfl, ?_, perm_ins hP _ _⟩
       show Facts O σ s [cel m (rC x147 c147 most _ _ (L ++ [(p, n)])), own x147 (L ++ [(p, n)]).length c147 2 (rows eB (L ++ [(p, n)]))]
       rw [hr1]
       unfold rC
       rw [hl1]
       exact F.pick [0, 2] (by decide))

end Go.Proofs.Ytkealnppdblgiaa
