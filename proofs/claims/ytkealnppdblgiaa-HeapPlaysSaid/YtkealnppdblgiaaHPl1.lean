/- Not huge: each act's blocks are few. No statement of the seat is proved in this text. -/
import Derived.Test.YtkealnppdblgiaaHBackLaw
set_option linter.unusedVariables false
set_option linter.unusedSimpArgs false
set_option maxRecDepth 100000
set_option maxHeartbeats 4000000
namespace Go.Proofs.Ytkealnppdblgiaa
open GAb Go

def sumL (ts : List Act) : Int := ((ts.map (·.l)).sum : Nat)
theorem sumL_mem {ts : List Act} {t : Act} (h : t ∈ ts) : (t.l : Int) ≤ sumL ts := by
  unfold sumL
  induction ts with
  | nil => cases h
  | cons x ts ih =>
    rw [List.map_cons, List.sum_cons]
    rcases List.mem_cons.1 h with rfl | h
    · omega
    · have := ih h; omega
theorem sumL_take {ts : List Act} {i : Nat} (hi : i < ts.length) : sumL (ts.take (i + 1)) = sumL (ts.take i) + (ts.getD i default).l := by
  unfold sumL
  rw [List.take_succ_eq_append_getElem hi, List.map_append, List.sum_append]
  simp only [List.map_cons, List.map_nil, List.sum_cons, List.sum_nil, List.getD, List.getElem?_eq_getElem hi, Option.getD_some]
  omega
theorem hugeS_call {σ : AState} {a : Option Addr} {l c : Nat} {ts : List Act} (h : OldA σ a l c ts) :
    SCall Try.prog E0 10 [.slice a l c] σ (Ret E0 σ (fun (b : Bool) => .bool b) (fun _ => []) fun b => b = false → ts.length ≤ 200 ∧ ∀ t ∈ ts, t.l ≤ 9000) := by
  obtain rfl := h.len
  have ho := h.old
  have hc : ∀ i : Nat, i < ts.length → (ts.getD i default).l ≤ 17592186044416 := fun i hi => by
    have := h.cap _ (List.getElem_mem hi)
    simpa only [List.getD, List.getElem?_eq_getElem hi, Option.getD_some] using this
  refine k_fun Try.func10 rfl (m := 30) rfl fun B hD Q K => ?_
  have F := Facts.nil E0 σ
  refine k_seq (fun Q K => ?_)
  refine k_lin (fun W K => ?_)
  refine l_op 0 rfl rfl rfl rfl rfl ?_
  refine l_nil (WK.nx (by assumption) ?_)
  refine SeqK.nx (by assumption) ?_
  refine k_seq (fun Q K => ?_)
  refine k_lin (fun W K => ?_)
  refine l_op 0 rfl rfl rfl rfl rfl ?_
  refine l_nil (WK.nx (by assumption) ?_)
  refine SeqK.nx (by assumption) ?_
  refine k_seq (fun Q K => ?_)
  refine k_seq (fun Q K => ?_)
  refine k_lin (fun W K => ?_)
  refine l_op 0 rfl rfl rfl rfl rfl ?_
  refine l_nil (WK.nx (by assumption) ?_)
  refine SeqK.nx (by assumption) ?_
  refine k_block (fun Q K => ?_)
  refine k_loop (α := Int) (fun i s => Facts E0 σ s [] ∧ 0 ≤ i ∧ i ≤ ts.length ∧ i ≤ 201 ∧ 0 ≤ sumL (ts.take i.toNat) ∧ sumL (ts.take i.toNat) ≤ i * 17592186044416) (fun i => [(0, .slice a ts.length c), (3, .int .i64 (sumL (ts.take i.toNat))), (4, .int .i64 i)]) (fun i => (ts.length - i).toNat) 0 ⟨F, by omega, by omega, by omega, by simp [sumL], by simp [sumL]⟩ (by repeat (first | exact trivial | refine And.intro rfl ?_)) ?_
  clear F
  rintro i env s Q K0 ⟨F, i0, i1, i2, n0, n1⟩
  refine k_seq (fun Q K => ?_)
  refine k_seq (fun Q K => ?_)
  refine k_lin (fun W K => ?_)
  refine l_op 0 rfl rfl rfl rfl rfl ?_
  refine l_op 0 rfl rfl rfl rfl rfl ?_
  first | refine l_op 2 rfl rfl rfl rfl rfl ?_ | refine l_ln rfl rfl rfl rfl ?_
  refine l_cmp rfl rfl rfl rfl ?_
  refine l_op 0 rfl rfl rfl rfl rfl ?_
  refine l_guard rfl rfl rfl (fun hc1 => ?_) (fun hc1 => ?_)
  · replace hc1 := of_decide_eq_true ((irr_eq _).symm.trans hc1)
    have hci := hc i.toNat (by omega)
    refine l_op 0 rfl rfl rfl rfl rfl ?_
    refine l_cmp rfl rfl rfl rfl ?_
    refine l_op 2 rfl rfl rfl rfl rfl ?_
    refine l_nil (WK.nx (by assumption) ?_)
    refine SeqK.nx (by assumption) ?_
    refine l_cond rfl rfl (fun hc2 => ?_) (fun hc2 => ?_)
    · replace hc2 := of_decide_eq_true ((irr_eq _).symm.trans hc2)
      refine k_skip ?_
      refine SeqK.nx (by assumption) ?_
      refine k_seq (fun Q K => ?_)
      refine k_block (fun Q K => ?_)
      refine k_lin (fun W K => ?_)
      refine l_op 0 rfl rfl rfl rfl rfl ?_
      refine l_op 0 rfl rfl rfl rfl rfl ?_
      refine l_op 0 rfl rfl rfl rfl rfl ?_
      refine l_ixr (e := eA) rfl rfl rfl rfl rfl rfl (F.old ho) ⟨eA_len, by decide⟩ (by omega) (fun m18 b18 hA18 => ?_)
      refine l_op 2 rfl rfl rfl rfl rfl ?_
      refine l_ldj rfl rfl rfl rfl rfl rfl (by assumption) rfl ?_
      first | refine l_op 2 rfl rfl rfl rfl rfl ?_ | refine l_ln rfl rfl rfl rfl ?_
      refine l_a64 rfl rfl rfl (by omega) rfl ?_
      refine l_op 0 rfl rfl rfl rfl rfl ?_
      refine l_nil (WK.nx (by assumption) ?_)
      refine BlkK.nx (by assumption) ?_
      refine SeqK.nx (by assumption) ?_
      refine k_lin (fun W K => ?_)
      refine l_op 0 rfl rfl rfl rfl rfl ?_
      refine l_a64 rfl rfl rfl (by omega) rfl ?_
      refine l_op 0 rfl rfl rfl rfl rfl ?_
      refine l_nil (WK.nx (by assumption) ?_)
      have e1 : (i + 1).toNat = i.toNat + 1 := by omega
      have e2 := sumL_take (ts := ts) (i := i.toNat) (by omega)
      rw [← e1] at e2
      have F' := F.pick [] (by decide)
      exact K0.nx (i + 1) (by rw [e2]; exact (by repeat (first | exact trivial | refine And.intro rfl ?_))) ⟨F', by omega, by omega, by omega, by omega, by omega⟩ (by first | omega | (simp only; omega))
    replace hc2 := of_decide_eq_false ((irr_eq _).symm.trans hc2)
    refine k_exit ?_
    refine SeqK.et (by assumption) ?_
    refine LoopK.et (by assumption) ?_
    refine BlkK.et (by assumption) ?_
    refine SeqK.nx (by assumption) ?_
    refine k_seq (fun Q K => ?_)
    refine k_lin (fun W K => ?_)
    refine l_op 0 rfl rfl rfl rfl rfl ?_
    first | refine l_op 2 rfl rfl rfl rfl rfl ?_ | refine l_ln rfl rfl rfl rfl ?_
    refine l_cmp rfl rfl rfl rfl ?_
    refine l_op 0 rfl rfl rfl rfl rfl ?_
    refine l_guard rfl rfl rfl (fun hc3 => ?_) (fun hc3 => ?_)
    · replace hc3 := of_decide_eq_true ((irr_eq _).symm.trans hc3)
      refine l_s rfl rfl ?_
      refine l_s rfl rfl ?_
      refine l_op 2 rfl rfl rfl rfl rfl ?_
      refine l_op 0 rfl rfl rfl rfl rfl ?_
      refine l_nil (WK.nx (by assumption) ?_)
      refine SeqK.nx (by assumption) ?_
      refine k_ret ?_
      refine FunK.rt (by assumption) rfl ?_
      -- leaf 1
      first
      | exact ⟨true, rfl, F.pick [] (by decide), fun h => by cases h⟩
      | (refine ⟨_, rfl, F.pick [] (by decide), fun hb => ?_⟩
         rw [irr_eq, decide_eq_false_iff_not] at hb
         first
           | (exfalso; omega)
           | (rw [hall] at hb
              exact ⟨by omega, fun t ht => by have := sumL_mem ht; omega⟩))
    replace hc3 := of_decide_eq_false ((irr_eq _).symm.trans hc3)
    refine l_op 0 rfl rfl rfl rfl rfl ?_
    refine l_cmp rfl rfl rfl rfl ?_
    refine l_op 2 rfl rfl rfl rfl rfl ?_
    refine l_op 0 rfl rfl rfl rfl rfl ?_
    refine l_nil (WK.nx (by assumption) ?_)
    refine SeqK.nx (by assumption) ?_
    refine k_ret ?_
    refine FunK.rt (by assumption) rfl ?_
    -- leaf 2
    first
    | exact ⟨true, rfl, F.pick [] (by decide), fun h => by cases h⟩
    | (refine ⟨_, rfl, F.pick [] (by decide), fun hb => ?_⟩
       rw [irr_eq, decide_eq_false_iff_not] at hb
       first
         | (exfalso; omega)
         | (rw [hall] at hb
            exact ⟨by omega, fun t ht => by have := sumL_mem ht; omega⟩))
  replace hc1 := of_decide_eq_false ((irr_eq _).symm.trans hc1)
  have hall : ts.take i.toNat = ts := List.take_of_length_le (by omega)
  rw [hall] at n0 n1
  refine l_s rfl rfl ?_
  refine l_s rfl rfl ?_
  refine l_op 2 rfl rfl rfl rfl rfl ?_
  refine l_nil (WK.nx (by assumption) ?_)
  refine SeqK.nx (by assumption) ?_
  first | refine e_cond_f rfl rfl rfl ?_ | refine e_cond_f rfl rfl (by rw [irr_eq]; first | exact beq_eq_false_iff_ne.2 (by assumption) | exact decide_eq_false (by assumption) | exact bne_eq_false_iff_eq.2 (by assumption)) ?_
  refine k_exit ?_
  refine SeqK.et (by assumption) ?_
  refine LoopK.et (by assumption) ?_
  refine BlkK.et (by assumption) ?_
  refine SeqK.nx (by assumption) ?_
  refine k_seq (fun Q K => ?_)
  refine k_lin (fun W K => ?_)
  refine l_op 0 rfl rfl rfl rfl rfl ?_
  first | refine l_op 2 rfl rfl rfl rfl rfl ?_ | refine l_ln rfl rfl rfl rfl ?_
  refine l_cmp rfl rfl rfl rfl ?_
  refine l_op 0 rfl rfl rfl rfl rfl ?_
  refine l_guard rfl rfl rfl (fun hc4 => ?_) (fun hc4 => ?_)
  · replace hc4 := of_decide_eq_true ((irr_eq _).symm.trans hc4)
    refine l_s rfl rfl ?_
    refine l_s rfl rfl ?_
    refine l_op 2 rfl rfl rfl rfl rfl ?_
    refine l_op 0 rfl rfl rfl rfl rfl ?_
    refine l_nil (WK.nx (by assumption) ?_)
    refine SeqK.nx (by assumption) ?_
    refine k_ret ?_
    refine FunK.rt (by assumption) rfl ?_
    -- leaf 3
    first
    | exact ⟨true, rfl, F.pick [] (by decide), fun h => by cases h⟩
    | (refine ⟨_, rfl, F.pick [] (by decide), fun hb => ?_⟩
       rw [irr_eq, decide_eq_false_iff_not] at hb
       first
         | (exfalso; omega)
         | (rw [hall] at hb
            exact ⟨by omega, fun t ht => by have := sumL_mem ht; omega⟩))
  replace hc4 := of_decide_eq_false ((irr_eq _).symm.trans hc4)
  refine l_op 0 rfl rfl rfl rfl rfl ?_
  refine l_cmp rfl rfl rfl rfl ?_
  refine l_op 2 rfl rfl rfl rfl rfl ?_
  refine l_op 0 rfl rfl rfl rfl rfl ?_
  refine l_nil (WK.nx (by assumption) ?_)
  refine SeqK.nx (by assumption) ?_
  refine k_ret ?_
  refine FunK.rt (by assumption) rfl ?_
  -- leaf 4
  first
  | exact ⟨true, rfl, F.pick [] (by decide), fun h => by cases h⟩
  | (refine ⟨_, rfl, F.pick [] (by decide), fun hb => ?_⟩
     rw [irr_eq, decide_eq_false_iff_not] at hb
     first
       | (exfalso; omega)
       | (rw [hall] at hb
          exact ⟨by omega, fun t ht => by have := sumL_mem ht; omega⟩))

end Go.Proofs.Ytkealnppdblgiaa
