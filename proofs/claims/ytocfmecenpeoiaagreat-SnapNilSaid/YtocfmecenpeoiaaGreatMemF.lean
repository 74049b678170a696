/- A memory starts again, by the program (has; what become leaves, in plain terms). No statement of the seat is proved in this text. -/
import Derived.Test.YtocfmecenpeoiaaGreatMemD
set_option linter.unusedVariables false
set_option linter.unusedSimpArgs false
set_option maxRecDepth 100000
set_option maxHeartbeats 4000000
namespace Go.Proofs.YtocfmecenpeoiaaGreat
open GAb Go

theorem has_call {σ : AState} {f t x : Int} : SCall Tryz.prog E0 166 [.agg #[.int .u64 f, .int .u64 t], .int .u64 x] σ (Ret E0 σ (fun (_ : Unit) => .bool (irr (decide (f ≤ x ∧ x < t)))) (fun _ => []) fun _ => True) := by
  refine k_fun Tryz.func166 rfl (m := 15) rfl fun B hD Q K => ?_
  have F := Facts.nil E0 σ
  refine k_seq fun Q K => k_lin fun W K => ?_
  refine l_bx F rfl rfl rfl rfl rfl (fun q2 s F => ?_)
  (try dsimp only [n_1, n_2, n_3, n_4, List.append_nil, pk, n_5, n_6] at F)
  refine l_op 0 rfl rfl rfl rfl rfl ?_
  refine l_nil (WK.nx ‹_› (SeqK.nx ‹_› ?_))
  refine k_seq fun Q K => k_lin fun W K => ?_
  refine l_op 2 rfl rfl rfl rfl rfl ?_
  refine l_ldc F 0 rfl rfl rfl rfl rfl rfl rfl ?_
  refine l_op 0 rfl rfl rfl rfl rfl ?_
  refine l_cmp rfl rfl rfl rfl ?_
  refine l_op 0 rfl rfl rfl rfl rfl ?_
  refine l_guard rfl rfl rfl (fun hc1 => ?_) (fun hc1 => ?_)
  · replace hc1 := of_decide_eq_true ((irr_eq _).symm.trans hc1)
    refine l_op 0 rfl rfl rfl rfl rfl ?_
    refine l_op 2 rfl rfl rfl rfl rfl ?_
    refine l_ldc F 0 rfl rfl rfl rfl rfl rfl rfl ?_
    refine l_cmp rfl rfl rfl rfl ?_
    refine l_op 2 rfl rfl rfl rfl rfl ?_
    refine l_op 0 rfl rfl rfl rfl rfl ?_
    refine l_nil (WK.nx ‹_› (SeqK.nx ‹_› (k_ret ?_)))
    refine FunK.rt (by assumption) rfl ?_
    -- leaf 1
    (have e : irr (decide (f ≤ x ∧ x < t)) = irr (decide (x < t)) := by
       by_cases hq : x < t
       · rw [decide_eq_true hq, decide_eq_true ⟨by omega, hq⟩]
       · rw [decide_eq_false hq, decide_eq_false (fun k => hq k.2)]
     rw [e]; exact ⟨(), rfl, F.pick [] (by decide), trivial⟩)
  replace hc1 := of_decide_eq_false ((irr_eq _).symm.trans hc1)
  iterate 4 refine l_s rfl rfl ?_
  refine l_op 2 rfl rfl rfl rfl rfl ?_
  refine l_op 0 rfl rfl rfl rfl rfl ?_
  refine l_nil (WK.nx ‹_› (SeqK.nx ‹_› (k_ret ?_)))
  refine FunK.rt (by assumption) rfl ?_
  -- leaf 2
  (have e : irr (decide (f ≤ x ∧ x < t)) = false := by rw [irr_eq]; exact decide_eq_false (by omega)
   rw [e]; exact ⟨(), rfl, F.pick [] (by decide), trivial⟩)
theorem mixB_start (f : Int) (old b : List Int) : mixB f f old b = b := by
  apply List.ext_getElem
  · rw [mixB_len]
  · intro i h1 h2
    simp only [mixB, List.getElem_map, List.getElem_range]
    rw [if_neg (by omega)]
    simp [List.getD, h2]
theorem mixB_step {f : Int} {i : Nat} {old b : List Int} (hf : f ≤ i) (h1 : i < old.length) (h2 : i < b.length) : (mixB f i old b).set i (old.getD i 0) = mixB f ((i : Int) + 1) old b := by
  apply List.ext_getElem
  · rw [List.length_set, mixB_len, mixB_len]
  · intro k h3 h4
    rw [List.getElem_set]
    by_cases hk : i = k
    · subst hk
      simp only [mixB, List.getElem_map, List.getElem_range]
      rw [if_pos trivial, if_pos ⟨hf, by omega, h1⟩]
    · rw [if_neg hk]
      simp only [mixB, List.getElem_map, List.getElem_range]
      by_cases hc : f ≤ k ∧ (k : Int) < i ∧ k < old.length
      · rw [if_pos hc, if_pos ⟨hc.1, by omega, hc.2.2⟩]
      · rw [if_neg hc, if_neg (fun h => hc ⟨h.1, by omega, h.2.2⟩)]
theorem mixB_end {f t u : Int} {old b : List Int} (h : ∀ i : Nat, f ≤ i → i < b.length → i < old.length → ((i : Int) < t ↔ (i : Int) < u)) : mixB f t old b = mixB f u old b := by
  unfold mixB
  apply List.map_congr_left
  intro i hi
  rw [List.mem_range] at hi
  by_cases hc : f ≤ i ∧ (i : Int) < t ∧ i < old.length
  · rw [if_pos hc, if_pos ⟨hc.1, (h i hc.1 hi hc.2.2).1 hc.2.1, hc.2.2⟩]
  · rw [if_neg hc, if_neg (fun k => hc ⟨k.1, (h i k.1 hi k.2.2).2 k.2.1, k.2.2⟩)]

end Go.Proofs.YtocfmecenpeoiaaGreat
