/- The document's letters, numbers and forms. No statement of the seat is proved in this text. -/
import Derived.Test.YtkmkbpnlccomnaaIffL
import Derived.Test.YtkmkbpnlccomnaaIffD
import Derived.Test.YtkmkbpnlccomnaaLibBe
set_option linter.unusedVariables false
set_option linter.unusedSimpArgs false
set_option maxRecDepth 100000
set_option maxHeartbeats 4000000
namespace Go.Proofs.Ytkmkbpnlccomnaa
open GAb Go

abbrev goodL (s : List Int) (j : Nat) : Prop := 32 ≤ s.getD j 0 ∧ s.getD j 0 ≤ 126
theorem rid_call {σ : AState} {s : ByteArray} (hs : s.size ≤ 1000000000) : SCall Try.prog E0 36 [.string s] σ (Ret E0 σ (fun (_ : Unit) => .bool (irr (idR (ltr s)))) (fun _ => []) fun _ => True) := by
  have hsl := ltr_length s
  refine k_fun Try.func36 rfl (m := 30) rfl fun B hD Q K => ?_
  have F := Facts.nil E0 σ
  refine k_seq (fun Q K => ?_)
  refine k_lin (fun W K => ?_)
  refine l_op 0 rfl rfl rfl rfl rfl ?_
  refine l_nil (WK.nx (by assumption) ?_)
  refine SeqK.nx (by assumption) ?_
  refine k_seq (fun Q K => ?_)
  refine k_lin (fun W K => ?_)
  refine l_op 0 rfl rfl rfl rfl rfl ?_
  refine l_nil (WK.nx (by assumption) ?_)
  refine SeqK.nx (by assumption) ?_
  refine k_seq (fun Q K => ?_)
  refine k_seq (fun Q K => ?_)
  refine k_lin (fun W K => ?_)
  refine l_op 0 rfl rfl rfl rfl rfl ?_
  refine l_nil (WK.nx (by assumption) ?_)
  refine SeqK.nx (by assumption) ?_
  refine k_block (fun Q K => ?_)
  refine k_loop (α := Int × Int) (fun ⟨i, n⟩ s' => Facts E0 σ s' [] ∧ 0 ≤ i ∧ i ≤ s.size ∧ 0 ≤ n ∧ n ≤ i ∧ (n = i ↔ ∀ j : Nat, (j : Int) < i → goodL (ltr s) j)) (fun ⟨i, n⟩ => [(0, .string s), (3, .int .i64 n), (4, .int .i64 i)]) (fun ⟨i, n⟩ => (s.size - i).toNat) (0, 0) ⟨F, by omega, by omega, by omega, by omega, fun _ j hj => by omega, fun _ => rfl⟩ (by repeat (first | exact trivial | refine And.intro rfl ?_)) ?_
  clear F
  rintro ⟨i, n⟩ env s' Q K0 ⟨F, i0, i1, n0, n1, hj⟩
  have hbd := ltr_bd s i.toNat
  refine k_seq (fun Q K => ?_)
  refine k_seq (fun Q K => ?_)
  refine k_lin (fun W K => ?_)
  refine l_op 0 rfl rfl rfl rfl rfl ?_
  refine l_op 0 rfl rfl rfl rfl rfl ?_
  first | refine l_op 2 rfl rfl rfl rfl rfl ?_ | refine l_ln rfl rfl rfl rfl ?_
  refine l_cmp rfl rfl rfl rfl ?_
  refine l_nil (WK.nx (by assumption) ?_)
  refine SeqK.nx (by assumption) ?_
  refine l_cond rfl rfl (fun hc1 => ?_) (fun hc1 => ?_)
  · replace hc1 := of_decide_eq_true ((irr_eq _).symm.trans hc1)
    refine k_skip ?_
    refine SeqK.nx (by assumption) ?_
    refine k_seq (fun Q K => ?_)
    refine k_block (fun Q K => ?_)
    refine k_seq (fun Q K => ?_)
    refine k_lin (fun W K => ?_)
    refine l_op 0 rfl rfl rfl rfl rfl ?_
    refine l_op 0 rfl rfl rfl rfl rfl ?_
    refine l_sx rfl rfl rfl rfl rfl (by omega) ?_
    refine l_cmp rfl rfl rfl rfl ?_
    refine l_op 0 rfl rfl rfl rfl rfl ?_
    refine l_guard rfl rfl rfl (fun hc2 => ?_) (fun hc2 => ?_)
    · replace hc2 := of_decide_eq_true ((irr_eq _).symm.trans hc2)
      refine l_op 0 rfl rfl rfl rfl rfl ?_
      refine l_op 0 rfl rfl rfl rfl rfl ?_
      refine l_sx rfl rfl rfl rfl rfl (by omega) ?_
      refine l_cmp rfl rfl rfl rfl ?_
      refine l_op 2 rfl rfl rfl rfl rfl ?_
      refine l_nil (WK.nx (by assumption) ?_)
      refine SeqK.nx (by assumption) ?_
      refine l_cond rfl rfl (fun hc3 => ?_) (fun hc3 => ?_)
      · replace hc3 := of_decide_eq_true ((irr_eq _).symm.trans hc3)
        refine k_lin (fun W K => ?_)
        refine l_op 0 rfl rfl rfl rfl rfl ?_
        refine l_a64 rfl rfl rfl (by omega) rfl ?_
        refine l_op 0 rfl rfl rfl rfl rfl ?_
        refine l_nil (WK.nx (by assumption) ?_)
        refine BlkK.nx (by assumption) ?_
        refine SeqK.nx (by assumption) ?_
        refine k_lin (fun W K => ?_)
        refine l_op 0 rfl rfl rfl rfl rfl ?_
        refine l_a64 rfl rfl rfl (by omega) rfl ?_
        refine l_op 0 rfl rfl rfl rfl rfl ?_
        refine l_nil (WK.nx (by assumption) ?_)
        first
          | (have hg : goodL (ltr s) i.toNat := ⟨by omega, by omega⟩
             refine K0.nx (i + 1, n + 1) (by repeat (first | exact trivial | refine And.intro rfl ?_)) ⟨F, by omega, by omega, by omega, by omega, fun h j hji => ?_, fun h => ?_⟩ (by first | omega | (simp only; omega))
             · by_cases e : j = i.toNat
               · subst e; exact hg
               · exact hj.1 (by omega) j (by omega)
             · have := hj.2 fun j hji => h j (by omega)
               omega)
          | (have hg : ¬ goodL (ltr s) i.toNat := fun h => by have := h.1; have := h.2; omega
             refine K0.nx (i + 1, n) (by repeat (first | exact trivial | refine And.intro rfl ?_)) ⟨F, by omega, by omega, by omega, by omega, fun h => ?_, fun h => ?_⟩ (by first | omega | (simp only; omega))
             · omega
             · exact (hg (h i.toNat (by omega))).elim)
      replace hc3 := of_decide_eq_false ((irr_eq _).symm.trans hc3)
      refine k_skip ?_
      refine BlkK.nx (by assumption) ?_
      refine SeqK.nx (by assumption) ?_
      refine k_lin (fun W K => ?_)
      refine l_op 0 rfl rfl rfl rfl rfl ?_
      refine l_a64 rfl rfl rfl (by omega) rfl ?_
      refine l_op 0 rfl rfl rfl rfl rfl ?_
      refine l_nil (WK.nx (by assumption) ?_)
      first
        | (have hg : goodL (ltr s) i.toNat := ⟨by omega, by omega⟩
           refine K0.nx (i + 1, n + 1) (by repeat (first | exact trivial | refine And.intro rfl ?_)) ⟨F, by omega, by omega, by omega, by omega, fun h j hji => ?_, fun h => ?_⟩ (by first | omega | (simp only; omega))
           · by_cases e : j = i.toNat
             · subst e; exact hg
             · exact hj.1 (by omega) j (by omega)
           · have := hj.2 fun j hji => h j (by omega)
             omega)
        | (have hg : ¬ goodL (ltr s) i.toNat := fun h => by have := h.1; have := h.2; omega
           refine K0.nx (i + 1, n) (by repeat (first | exact trivial | refine And.intro rfl ?_)) ⟨F, by omega, by omega, by omega, by omega, fun h => ?_, fun h => ?_⟩ (by first | omega | (simp only; omega))
           · omega
           · exact (hg (h i.toNat (by omega))).elim)
    replace hc2 := of_decide_eq_false ((irr_eq _).symm.trans hc2)
    refine l_s rfl rfl ?_
    refine l_s rfl rfl ?_
    refine l_s rfl rfl ?_
    refine l_s rfl rfl ?_
    refine l_op 2 rfl rfl rfl rfl rfl ?_
    refine l_nil (WK.nx (by assumption) ?_)
    refine SeqK.nx (by assumption) ?_
    first | refine e_cond_f rfl rfl rfl ?_ | refine e_cond_f rfl rfl (by rw [irr_eq]; first | exact beq_eq_false_iff_ne.2 (by assumption) | exact decide_eq_false (by assumption) | exact bne_eq_false_iff_eq.2 (by assumption)) ?_
    refine k_skip ?_
    refine BlkK.nx (by assumption) ?_
    refine SeqK.nx (by assumption) ?_
    refine k_lin (fun W K => ?_)
    refine l_op 0 rfl rfl rfl rfl rfl ?_
    refine l_a64 rfl rfl rfl (by omega) rfl ?_
    refine l_op 0 rfl rfl rfl rfl rfl ?_
    refine l_nil (WK.nx (by assumption) ?_)
    first
      | (have hg : goodL (ltr s) i.toNat := ⟨by omega, by omega⟩
         refine K0.nx (i + 1, n + 1) (by repeat (first | exact trivial | refine And.intro rfl ?_)) ⟨F, by omega, by omega, by omega, by omega, fun h j hji => ?_, fun h => ?_⟩ (by first | omega | (simp only; omega))
         · by_cases e : j = i.toNat
           · subst e; exact hg
           · exact hj.1 (by omega) j (by omega)
         · have := hj.2 fun j hji => h j (by omega)
           omega)
      | (have hg : ¬ goodL (ltr s) i.toNat := fun h => by have := h.1; have := h.2; omega
         refine K0.nx (i + 1, n) (by repeat (first | exact trivial | refine And.intro rfl ?_)) ⟨F, by omega, by omega, by omega, by omega, fun h => ?_, fun h => ?_⟩ (by first | omega | (simp only; omega))
         · omega
         · exact (hg (h i.toNat (by omega))).elim)
  replace hc1 := of_decide_eq_false ((irr_eq _).symm.trans hc1)
  refine k_exit ?_
  refine SeqK.et (by assumption) ?_
  refine LoopK.et (by assumption) ?_
  refine BlkK.et (by assumption) ?_
  refine SeqK.nx (by assumption) ?_
  refine k_seq (fun Q K => ?_)
  refine k_lin (fun W K => ?_)
  refine l_op 0 rfl rfl rfl rfl rfl ?_
  refine l_cmp rfl rfl rfl rfl ?_
  refine l_op 0 rfl rfl rfl rfl rfl ?_
  refine l_guard rfl rfl rfl (fun hc4 => ?_) (fun hc4 => ?_)
  · first | replace hc4 := eq_of_beq ((irr_eq _).symm.trans hc4) | simp only [irr_eq, beq_iff_eq, beq_eq_false_iff_ne, ne_eq, decide_eq_true_eq, decide_eq_false_iff_not] at hc4
    refine l_op 0 rfl rfl rfl rfl rfl ?_
    first | refine l_op 2 rfl rfl rfl rfl rfl ?_ | refine l_ln rfl rfl rfl rfl ?_
    refine l_cmp rfl rfl rfl rfl ?_
    refine l_op 2 rfl rfl rfl rfl rfl ?_
    refine l_op 0 rfl rfl rfl rfl rfl ?_
    refine l_nil (WK.nx (by assumption) ?_)
    refine SeqK.nx (by assumption) ?_
    refine k_ret ?_
    refine FunK.rt (by assumption) rfl ?_
    -- leaf 1
    refine ⟨(), ?_, F.pick [] (by decide), trivial⟩
    show Value.bool _ = Value.bool (irr (idR (ltr s)))
    first
      | (have h : idR (ltr s) = false := by
           rw [← Bool.not_eq_true]
           intro h
           obtain ⟨h1, h2⟩ := idR_iff.1 h
           have := hj.2 fun j hji => h2 j (by omega)
           omega
         rw [h, irr_eq]; done)
      | (have hn4 : n = 4 := by assumption
         refine congrArg Value.bool ?_
         rw [irr_eq, irr_eq]
         have hc : ((s.size : Int) == 4) = idR (ltr s) := by
           rw [Bool.eq_iff_iff, beq_iff_eq, idR_iff]
           refine ⟨fun h => ⟨by omega, fun j hj4 => hj.1 (by omega) j (by omega)⟩, fun h => by omega⟩
         exact hc)
  first | replace hc4 := ne_of_beq_false ((irr_eq _).symm.trans hc4) | simp only [irr_eq, beq_iff_eq, beq_eq_false_iff_ne, ne_eq, decide_eq_true_eq, decide_eq_false_iff_not] at hc4
  refine l_s rfl rfl ?_
  refine l_s rfl rfl ?_
  refine l_s rfl rfl ?_
  refine l_op 2 rfl rfl rfl rfl rfl ?_
  refine l_op 0 rfl rfl rfl rfl rfl ?_
  refine l_nil (WK.nx (by assumption) ?_)
  refine SeqK.nx (by assumption) ?_
  refine k_ret ?_
  refine FunK.rt (by assumption) rfl ?_
  -- leaf 2
  refine ⟨(), ?_, F.pick [] (by decide), trivial⟩
  show Value.bool _ = Value.bool (irr (idR (ltr s)))
  first
    | (have h : idR (ltr s) = false := by
         rw [← Bool.not_eq_true]
         intro h
         obtain ⟨h1, h2⟩ := idR_iff.1 h
         have := hj.2 fun j hji => h2 j (by omega)
         omega
       rw [h, irr_eq]; done)
    | (have hn4 : n = 4 := by assumption
       refine congrArg Value.bool ?_
       rw [irr_eq, irr_eq]
       have hc : ((s.size : Int) == 4) = idR (ltr s) := by
         rw [Bool.eq_iff_iff, beq_iff_eq, idR_iff]
         refine ⟨fun h => ⟨by omega, fun j hj4 => hj.1 (by omega) j (by omega)⟩, fun h => by omega⟩
       exact hc)
theorem beR_bd {bs : List Int} (hB : Bytes bs) (p : Int) : 0 ≤ (beR bs p 4).1 ∧ (beR bs p 4).1 ≤ 4294967295 := by
  unfold beR
  split
  · exact ⟨by decide, by decide⟩
  split
  · exact ⟨by decide, by decide⟩
  · exact be_lt4 hB _ (k := 4) (by omega)
theorem number_call {σ : AState} {a : Option Addr} {l c : Nat} {bs : List Int} {p : Int} (hl : Old E0 σ a l c 1 (u8l bs)) (hB : Bytes bs) (hn : l ≤ 2000000) :
    SCall Try.prog E0 40 [.slice a l c, .int .i64 p] σ (Ret E0 σ (fun (_ : Unit) => .int .i64 (beR bs p 4).1) (fun _ => []) fun _ => True) := by
  have hbd := beR_bd hB p
  refine k_fun Try.func40 rfl (m := 15) rfl fun B hD Q K => ?_
  have F := Facts.nil E0 σ
  refine k_seq (fun Q K => ?_)
  refine k_lin (fun W K => ?_)
  refine l_op 0 rfl rfl rfl rfl rfl ?_
  refine l_nil (WK.nx (by assumption) ?_)
  refine SeqK.nx (by assumption) ?_
  refine k_seq (fun Q K => ?_)
  refine k_lin (fun W K => ?_)
  refine l_op 0 rfl rfl rfl rfl rfl ?_
  refine l_op 0 rfl rfl rfl rfl rfl ?_
  refine l_callp F rfl rfl (by kernel_rfl) rfl rfl (rbe_call (at_ := p) (n := 4) (Old.pure (F.old hl)) hB (by omega)) (fun y s F _ => ?_)
  (try dsimp only [n_1, n_2, n_3, n_4, List.append_nil, pk, n_5, n_6] at F)
  refine l_op 0 rfl rfl rfl rfl rfl ?_
  refine l_op 2 rfl rfl rfl rfl rfl ?_
  refine l_op 2 rfl rfl rfl rfl rfl ?_
  refine l_op 0 rfl rfl rfl rfl rfl ?_
  refine l_op 0 rfl rfl rfl rfl rfl ?_
  refine l_nil (WK.nx (by assumption) ?_)
  refine SeqK.nx (by assumption) ?_
  refine k_seq (fun Q K => ?_)
  refine k_lin (fun W K => ?_)
  refine l_op 0 rfl rfl rfl rfl rfl ?_
  refine l_c64 (z := (beR bs p 4).1) rfl rfl rfl (by omega) rfl ?_
  refine l_op 0 rfl rfl rfl rfl rfl ?_
  refine l_nil (WK.nx (by assumption) ?_)
  refine SeqK.nx (by assumption) ?_
  refine k_ret ?_
  refine FunK.rt (by assumption) rfl ?_
  -- leaf 1
  exact ⟨(), rfl, F, trivial⟩
theorem go_bad {bs : List Int} {k : Nat} {p e at_ : Int} {acc : List (List Int × List Int)} (hk : 0 < k) (hp : p < bs.length) (hn : acc.length ≠ 1024) (hE : chunkE bs p = (e, at_)) (he : e ≠ 0) (hgo : goK bs k p acc = goK bs bs.length 12 []) (hh : (headR bs).1 = 0) : parseR bs = (e, at_, [], []) := by
  rw [goK_eq hk, if_pos hp, if_neg hn, hE, if_pos he] at hgo
  rw [parse_go hh hgo.symm, if_pos he]

theorem take_min {bs : List Int} : (∀ j : Nat, j < min bs.length 4 → bs.getD j 0 = ([70, 79, 82, 77] : List Int).getD j 0) ↔ bs.take (min bs.length 4) = ([70, 79, 82, 77] : List Int).take (min bs.length 4) := by
  constructor
  · intro h
    refine List.ext_getElem? fun j => ?_
    simp only [List.getElem?_take]
    by_cases hj : j < min bs.length 4
    · rw [if_pos hj, if_pos hj]
      have := h j hj
      have h2 : j < ([70, 79, 82, 77] : List Int).length := by simp; omega
      simp only [List.getD, List.getElem?_eq_getElem (show j < bs.length by omega), List.getElem?_eq_getElem h2, Option.getD_some] at this
      rw [List.getElem?_eq_getElem (by omega), List.getElem?_eq_getElem h2, this]
    · rw [if_neg hj, if_neg hj]
  · intro h j hj
    have := congrArg (fun L => L.getD j 0) h
    simp only [List.getD, List.getElem?_take, if_pos hj] at this
    exact this

end Go.Proofs.Ytkmkbpnlccomnaa
