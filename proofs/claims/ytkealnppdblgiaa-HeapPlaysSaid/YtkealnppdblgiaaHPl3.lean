/- The document's heap: its small functions. No statement of the seat is proved in this text. -/
import Derived.Test.YtkealnppdblgiaaHPl2
set_option linter.unusedVariables false
set_option linter.unusedSimpArgs false
set_option maxRecDepth 100000
set_option maxHeartbeats 4000000
namespace Go.Proofs.Ytkealnppdblgiaa
open GAb Go

/-- The document's heap: its cells, its blocks in the order in which they came. -/
abbrev rC (a : Option Addr) (c : Nat) (most st en : Int) (bl : List (Int × Int)) : List Value := [.int .i64 most, .int .i64 st, .int .i64 en, .slice a bl.length c]
abbrev rF (m : Nat) (a : Option Addr) (c : Nat) (most st en : Int) (bl : List (Int × Int)) : List Fact := [cel m (rC a c most st en bl), own a bl.length c 2 (rows eB bl)]
def freeB (bl : List (Int × Int)) (a n : Int) : Bool := bl.all fun b => !(decide (a < b.1 + b.2) && decide (b.1 < a + n))
theorem freeB_drop {bl : List (Int × Int)} {a n : Int} {i : Nat} (hi : i < bl.length) : freeB (bl.drop i) a n = (!(decide (a < (bl.getD i default).1 + (bl.getD i default).2) && decide ((bl.getD i default).1 < a + n)) && freeB (bl.drop (i + 1)) a n) := by
  rw [List.drop_eq_getElem_cons hi]
  simp only [freeB, List.all_cons, List.getD, List.getElem?_eq_getElem hi, Option.getD_some]
theorem rfree_call {σ : AState} {m c : Nat} {a : Option Addr} {most st en p n : Int} {bl : List (Int × Int)} (hc : OldC E0 σ m (rC a c most st en bl)) (hl : Old E0 σ a bl.length c 2 (rows eB bl)) (hB : BlkOK bl) (hn : bl.length ≤ 1000000) (hp : 0 ≤ p ∧ p ≤ 100000000000) (hu : U32 n) :
    SCall Try.prog E0 39 [.pointer (some ⟨m, 0, none⟩), .int .i64 p, .int .i64 n] σ (Ret E0 σ (fun (_ : Unit) => .bool (irr (freeB bl p n))) (fun _ => []) fun _ => True) := by
  obtain ⟨p0, p1⟩ := hp
  obtain ⟨n0, n1⟩ := hu
  refine k_fun Try.func39 rfl (m := 49) rfl fun B hD Q K => ?_
  have F := Facts.nil E0 σ
  refine k_seq (fun Q K => ?_)
  refine k_lin (fun W K => ?_)
  refine l_op 0 rfl rfl rfl rfl rfl ?_
  refine l_nil (WK.nx (by assumption) ?_)
  refine SeqK.nx (by assumption) ?_
  refine k_seq (fun Q K => ?_)
  refine k_seq (fun Q K => ?_)
  refine k_lin (fun W K => ?_)
  refine l_op 0 rfl rfl rfl rfl rfl ?_
  refine l_nil (WK.nx (by assumption) ?_)
  refine SeqK.nx (by assumption) ?_
  refine k_block (fun Q K => ?_)
  refine k_loop (α := Int) (fun i s => Facts E0 σ s [] ∧ 0 ≤ i ∧ i ≤ bl.length ∧ freeB bl p n = freeB (bl.drop i.toNat) p n) (fun i => [(0, .pointer (some ⟨m, 0, none⟩)), (1, .int .i64 p), (2, .int .i64 n), (7, .int .i64 i)]) (fun i => (bl.length - i).toNat) 0 ⟨F, by omega, by omega, by simp⟩ (by repeat (first | exact trivial | refine And.intro rfl ?_)) ?_
  clear F
  rintro i env s Q K0 ⟨F, i0, i1, hI⟩
  obtain ⟨⟨b0, b1⟩, ⟨b2, b3⟩⟩ := hB.at i.toNat
  refine k_seq (fun Q K => ?_)
  refine k_seq (fun Q K => ?_)
  refine k_lin (fun W K => ?_)
  refine l_op 0 rfl rfl rfl rfl rfl ?_
  refine l_op 0 rfl rfl rfl rfl rfl ?_
  refine l_op 2 rfl rfl rfl rfl rfl ?_
  refine l_op 2 rfl rfl rfl rfl rfl ?_
  refine l_ldo F (by assumption) rfl rfl rfl rfl rfl rfl ?_
  first | refine l_op 2 rfl rfl rfl rfl rfl ?_ | refine l_ln rfl rfl rfl rfl ?_
  refine l_cmp rfl rfl rfl rfl ?_
  refine l_nil (WK.nx (by assumption) ?_)
  refine SeqK.nx (by assumption) ?_
  refine l_cond rfl rfl (fun hc1 => ?_) (fun hc1 => ?_)
  · replace hc1 := of_decide_eq_true ((irr_eq _).symm.trans hc1)
    rw [freeB_drop (by omega)] at hI
    refine k_skip ?_
    refine SeqK.nx (by assumption) ?_
    refine k_seq (fun Q K => ?_)
    refine k_block (fun Q K => ?_)
    refine k_seq (fun Q K => ?_)
    refine k_linm [0, 1, 2, 4, 9, 10, 11, 13, 3, 5, 6, 7, 8, 18, 12, 14, 15, 16, 17, 19] mixed (by kernel_rfl) (fun W K => ?_)
    try have hpS := F.pns
    refine l_op 0 rfl rfl rfl rfl rfl ?_
    refine l_op 2 rfl rfl rfl rfl rfl ?_
    refine l_op 2 rfl rfl rfl rfl rfl ?_
    refine l_op 0 rfl rfl rfl rfl rfl ?_
    refine l_op 0 rfl rfl rfl rfl rfl ?_
    refine l_op 2 rfl rfl rfl rfl rfl ?_
    refine l_op 2 rfl rfl rfl rfl rfl ?_
    refine l_op 0 rfl rfl rfl rfl rfl ?_
    refine l_ldo F (by assumption) rfl rfl rfl rfl rfl rfl ?_
    first | have hpS := PnS.add hpS hS20 | have hpS := PnS.add hpS (OldC.sf (by assumption)) | skip
    first | refine l_ixrs (e := eB) F hl ⟨eB_len, by decide⟩ rfl rfl rfl rfl rfl rfl (by omega) (fun m24 b24 hA24 hS24 => ?_) | refine l_ixr (e := eB) rfl rfl rfl rfl rfl rfl (F.old hl) ⟨eB_len, by decide⟩ (by omega) (fun m24 b24 hA24 => ?_)
    refine l_op 2 rfl rfl rfl rfl rfl ?_
    refine l_ld0 rfl rfl rfl rfl rfl (by assumption) ?_
    first | have hpS := PnS.add hpS hS24 | have hpS := PnS.add hpS (OldC.sf (by assumption)) | skip
    refine l_c64 rfl rfl rfl (by omega) rfl ?_
    refine l_op 0 rfl rfl rfl rfl rfl ?_
    refine l_ldo F (by assumption) rfl rfl rfl rfl rfl rfl ?_
    first | have hpS := PnS.add hpS hS29 | have hpS := PnS.add hpS (OldC.sf (by assumption)) | skip
    first | refine l_ixrs (e := eB) F hl ⟨eB_len, by decide⟩ rfl rfl rfl rfl rfl rfl (by omega) (fun m33 b33 hA33 hS33 => ?_) | refine l_ixr (e := eB) rfl rfl rfl rfl rfl rfl (F.old hl) ⟨eB_len, by decide⟩ (by omega) (fun m33 b33 hA33 => ?_)
    refine l_op 2 rfl rfl rfl rfl rfl ?_
    refine l_ldj rfl rfl rfl rfl rfl rfl (by assumption) rfl ?_
    first | have hpS := PnS.add hpS hS33 | have hpS := PnS.add hpS (OldC.sf (by assumption)) | skip
    refine l_c64 rfl rfl rfl (by omega) rfl ?_
    refine l_op 0 rfl rfl rfl rfl rfl ?_
    refine l_nil (WK.nx (by assumption) ?_)
    refine SeqK.nx (by assumption) ?_
    refine k_seq (fun Q K => ?_)
    refine k_lin (fun W K => ?_)
    refine l_op 0 rfl rfl rfl rfl rfl ?_
    refine l_op 0 rfl rfl rfl rfl rfl ?_
    refine l_op 0 rfl rfl rfl rfl rfl ?_
    refine l_a64 rfl rfl rfl (by omega) rfl ?_
    refine l_cmp rfl rfl rfl rfl ?_
    refine l_op 0 rfl rfl rfl rfl rfl ?_
    refine l_guard rfl rfl rfl (fun hc2 => ?_) (fun hc2 => ?_)
    · replace hc2 := of_decide_eq_true ((irr_eq _).symm.trans hc2)
      refine l_op 0 rfl rfl rfl rfl rfl ?_
      refine l_op 0 rfl rfl rfl rfl rfl ?_
      refine l_op 0 rfl rfl rfl rfl rfl ?_
      refine l_a64 rfl rfl rfl (by omega) rfl ?_
      refine l_cmp rfl rfl rfl rfl ?_
      refine l_op 2 rfl rfl rfl rfl rfl ?_
      refine l_nil (WK.nx (by assumption) ?_)
      refine SeqK.nx (by assumption) ?_
      refine l_cond rfl rfl (fun hc3 => ?_) (fun hc3 => ?_)
      · replace hc3 := of_decide_eq_true ((irr_eq _).symm.trans hc3)
        refine k_seq (fun Q K => ?_)
        refine k_lin (fun W K => ?_)
        refine l_op 0 rfl rfl rfl rfl rfl ?_
        refine l_nil (WK.nx (by assumption) ?_)
        refine SeqK.nx (by assumption) ?_
        refine k_ret ?_
        refine BlkK.rt (by assumption) ?_
        refine SeqK.rt (by assumption) ?_
        refine LoopK.rt (by assumption) ?_
        refine BlkK.rt (by assumption) ?_
        refine SeqK.rt (by assumption) ?_
        refine FunK.rt (by assumption) rfl ?_
        -- leaf 1
        refine ⟨(), ?_, F.pick [] (by decide), trivial⟩
        show Value.bool _ = Value.bool _
        rw [irr_eq, hI]
        first
          | rfl
          | (rw [decide_eq_true hc2, decide_eq_true hc3]; rfl)
      replace hc3 := of_decide_eq_false ((irr_eq _).symm.trans hc3)
      refine k_skip ?_
      refine BlkK.nx (by assumption) ?_
      refine SeqK.nx (by assumption) ?_
      refine k_lin (fun W K => ?_)
      refine l_op 0 rfl rfl rfl rfl rfl ?_
      refine l_a64 rfl rfl rfl (by omega) rfl ?_
      refine l_op 0 rfl rfl rfl rfl rfl ?_
      refine l_nil (WK.nx (by assumption) ?_)
      have e1 : (i + 1).toNat = i.toNat + 1 := by omega
      have hz : (decide (p < (bl.getD i.toNat default).1 + (bl.getD i.toNat default).2) && decide ((bl.getD i.toNat default).1 < p + n)) = false := by
        first
          | (rw [decide_eq_false hc2]; rfl)
          | (rw [decide_eq_false hc3, Bool.and_false])
      rw [hz] at hI
      exact K0.nx (i + 1) (by repeat (first | exact trivial | refine And.intro rfl ?_)) ⟨F.pick [] (by decide), by omega, by omega, by rw [e1]; exact hI⟩ (by first | omega | (simp only; omega))
    replace hc2 := of_decide_eq_false ((irr_eq _).symm.trans hc2)
    refine l_s rfl rfl ?_
    refine l_s rfl rfl ?_
    refine l_s rfl rfl ?_
    refine l_s rfl rfl ?_
    refine l_s rfl rfl ?_
    refine l_op 2 rfl rfl rfl rfl rfl ?_
    refine l_nil (WK.nx (by assumption) ?_)
    refine SeqK.nx (by assumption) ?_
    first | refine e_cond_f rfl rfl rfl ?_ | refine e_cond_f rfl rfl (by rw [irr_eq]; first | exact beq_eq_false_iff_ne.2 (by assumption) | exact decide_eq_false (by assumption) | exact bne_eq_false_iff_eq.2 (by assumption)) ?_
    refine k_skip ?_
    refine BlkK.nx (by assumption) ?_
    refine SeqK.nx (by assumption) ?_
    refine k_lin (fun W K => ?_)
    refine l_op 0 rfl rfl rfl rfl rfl ?_
    refine l_a64 rfl rfl rfl (by omega) rfl ?_
    refine l_op 0 rfl rfl rfl rfl rfl ?_
    refine l_nil (WK.nx (by assumption) ?_)
    have e1 : (i + 1).toNat = i.toNat + 1 := by omega
    have hz : (decide (p < (bl.getD i.toNat default).1 + (bl.getD i.toNat default).2) && decide ((bl.getD i.toNat default).1 < p + n)) = false := by
      first
        | (rw [decide_eq_false hc2]; rfl)
        | (rw [decide_eq_false hc3, Bool.and_false])
    rw [hz] at hI
    exact K0.nx (i + 1) (by repeat (first | exact trivial | refine And.intro rfl ?_)) ⟨F.pick [] (by decide), by omega, by omega, by rw [e1]; exact hI⟩ (by first | omega | (simp only; omega))
  replace hc1 := of_decide_eq_false ((irr_eq _).symm.trans hc1)
  rw [List.drop_of_length_le (by omega)] at hI
  refine k_exit ?_
  refine SeqK.et (by assumption) ?_
  refine LoopK.et (by assumption) ?_
  refine BlkK.et (by assumption) ?_
  refine SeqK.nx (by assumption) ?_
  refine k_seq (fun Q K => ?_)
  refine k_lin (fun W K => ?_)
  refine l_op 0 rfl rfl rfl rfl rfl ?_
  refine l_nil (WK.nx (by assumption) ?_)
  refine SeqK.nx (by assumption) ?_
  refine k_ret ?_
  refine FunK.rt (by assumption) rfl ?_
  -- leaf 2
  refine ⟨(), ?_, F.pick [] (by decide), trivial⟩
  show Value.bool _ = Value.bool _
  rw [irr_eq, hI]
  first
    | rfl
    | (rw [decide_eq_true hc2, decide_eq_true hc3]; rfl)

end Go.Proofs.Ytkealnppdblgiaa
