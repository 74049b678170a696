/- The document's heap: a block is freed, a heap is loaded. No statement of the seat is proved in this text. -/
import Derived.Test.YtkealnppdblgiaaHPl3
import Derived.Test.YtkealnppdblgiaaWd
set_option linter.unusedVariables false
set_option linter.unusedSimpArgs false
set_option maxRecDepth 100000
set_option maxHeartbeats 4000000
-- macs
namespace Go.Proofs.Ytkealnppdblgiaa
open GAb Go

/-- The blocks that do not begin there. -/
def offB (bl : List (Int × Int)) (ad : Int) : List (Int × Int) := bl.filter fun b => decide (b.1 ≠ ad)
theorem offB_take {bl : List (Int × Int)} {ad : Int} {i : Nat} (h : i < bl.length) : offB (bl.take (i + 1)) ad = if (bl.getD i default).1 ≠ ad then offB (bl.take i) ad ++ [bl.getD i default] else offB (bl.take i) ad := by
  unfold offB
  rw [List.take_succ_eq_append_getElem h, List.filter_append]
  have e : bl.getD i default = bl[i] := by simp [List.getD, h]
  rw [e]
  split
  · rename_i hne
    rw [List.filter_cons_of_pos (by simpa using hne)]; rfl
  · rename_i hne
    rw [List.filter_cons_of_neg (by simpa using hne)]; simp
theorem offB_len (bl : List (Int × Int)) (ad : Int) (i : Nat) : (offB (bl.take i) ad).length ≤ i := by
  have h1 : (offB (bl.take i) ad).length ≤ (bl.take i).length := List.length_filter_le _ _
  rw [List.length_take] at h1
  omega
def rfreeR (st en : Int) (bl : List (Int × Int)) (ad : Int) : Int × Int × Int × List (Int × Int) :=
  if (offB bl ad).length = bl.length then (5, st, en, bl) else if (offB bl ad).length = 0 then (0, 0, 0, offB bl ad) else (0, st, en, offB bl ad)
theorem rFree_call {O : Nat → Prop} {σ : AState} {m c : Nat} {a : Option Addr} {most st en ad : Int} {bl : List (Int × Int)} (F : Facts O σ σ (rF m a c most st en bl)) (hn : bl.length ≤ 1000000) :
    SCall Try.prog O 35 [.pointer (some ⟨m, 0, none⟩), .int .u32 ad] σ (Ret O σ (fun (_ : Option Addr × Nat) => .int .i64 (rfreeR st en bl ad).1) (fun y => rF m y.1 y.2 most (rfreeR st en bl ad).2.1 (rfreeR st en bl ad).2.2.1 (rfreeR st en bl ad).2.2.2) fun _ => True) := by
  refine k_fun Try.func35 rfl (m := 57) rfl fun B hD Q K => ?_
  refine k_seq (fun Q K => ?_)
  refine k_lin (fun W K => ?_)
  refine l_op 0 rfl rfl rfl rfl rfl ?_
  refine l_nil (WK.nx (by assumption) ?_)
  refine SeqK.nx (by assumption) ?_
  refine k_seq (fun Q K => ?_)
  refine k_lin (fun W K => ?_)
  refine l_op 0 rfl rfl rfl rfl rfl ?_
  refine l_nil (WK.nx (by assumption) ?_)
  refine SeqK.nx (by assumption) ?_
  refine k_seq (fun Q K => ?_)
  refine k_seq (fun Q K => ?_)
  refine k_lin (fun W K => ?_)
  refine l_op 0 rfl rfl rfl rfl rfl ?_
  refine l_nil (WK.nx (by assumption) ?_)
  refine SeqK.nx (by assumption) ?_
  refine k_block (fun Q K => ?_)
  have F := F.nilrow 2
  refine k_loop (α := Int × Option Addr × Nat) (fun ⟨i, x, k⟩ s => Facts O σ s [cel m (rC a c most st en bl), own a bl.length c 2 (rows eB bl), own x (offB (bl.take i.toNat) ad).length k 2 (rows eB (offB (bl.take i.toNat) ad))] ∧ 0 ≤ i ∧ i ≤ bl.length) (fun ⟨i, x, k⟩ => [(0, .pointer (some ⟨m, 0, none⟩)), (1, .int .u32 ad), (5, .slice x (offB (bl.take i.toNat) ad).length k), (6, .int .i64 i)]) (fun ⟨i, _⟩ => (bl.length - i).toNat) (0, none, 0) ⟨F, by omega, by omega⟩ (by repeat (first | exact trivial | refine And.intro rfl ?_)) ?_
  clear F
  rintro ⟨i, x, k⟩ env s Q K0 ⟨F, i0, i1⟩
  refine k_seq (fun Q K => ?_)
  refine k_seq (fun Q K => ?_)
  refine k_lin (fun W K => ?_)
  refine l_op 0 rfl rfl rfl rfl rfl ?_
  refine l_op 0 rfl rfl rfl rfl rfl ?_
  refine l_op 2 rfl rfl rfl rfl rfl ?_
  refine l_op 2 rfl rfl rfl rfl rfl ?_
  refine l_ldc F 0 rfl rfl rfl rfl rfl rfl rfl ?_
  first | refine l_op 2 rfl rfl rfl rfl rfl ?_ | refine l_ln rfl rfl rfl rfl ?_
  refine l_cmp rfl rfl rfl rfl ?_
  refine l_nil (WK.nx (by assumption) ?_)
  refine SeqK.nx (by assumption) ?_
  refine l_cond rfl rfl (fun hc1 => ?_) (fun hc1 => ?_)
  · replace hc1 := of_decide_eq_true ((irr_eq _).symm.trans hc1)
    have hi : i.toNat < bl.length := by omega
    have hof := offB_take (ad := ad) hi
    have hol := offB_len bl ad i.toNat
    refine k_skip ?_
    refine SeqK.nx (by assumption) ?_
    refine k_seq (fun Q K => ?_)
    refine k_block (fun Q K => ?_)
    refine k_seq (fun Q K => ?_)
    refine k_lin (fun W K => ?_)
    refine l_op 0 rfl rfl rfl rfl rfl ?_
    refine l_op 2 rfl rfl rfl rfl rfl ?_
    refine l_op 2 rfl rfl rfl rfl rfl ?_
    refine l_ldc F 0 rfl rfl rfl rfl rfl rfl rfl ?_
    refine l_op 0 rfl rfl rfl rfl rfl ?_
    refine l_ixr (e := eB) rfl rfl rfl rfl rfl rfl (F.has 1 rfl) ⟨eB_len, by decide⟩ (by omega) (fun m21 b21 hA21 => ?_)
    refine l_op 2 rfl rfl rfl rfl rfl ?_
    refine l_ld0 rfl rfl rfl rfl rfl (by assumption) ?_
    refine l_op 0 rfl rfl rfl rfl rfl ?_
    refine l_cmp rfl rfl rfl rfl ?_
    refine l_nil (WK.nx (by assumption) ?_)
    refine SeqK.nx (by assumption) ?_
    refine l_cond rfl rfl (fun hc2 => ?_) (fun hc2 => ?_)
    · first | replace hc2 := bne_iff_ne.1 ((irr_eq _).symm.trans hc2) | simp only [irr_eq, bne_iff_ne, bne_eq_false_iff_eq, ne_eq, decide_eq_true_eq, decide_eq_false_iff_not, Bool.not_eq_true', Bool.not_eq_false'] at hc2
      rw [if_pos hc2] at hof
      refine k_lin (fun W K => ?_)
      refine l_op 0 rfl rfl rfl rfl rfl ?_
      refine l_op 0 rfl rfl rfl rfl rfl ?_
      refine l_op 2 rfl rfl rfl rfl rfl ?_
      refine l_op 2 rfl rfl rfl rfl rfl ?_
      refine l_ldc F 0 rfl rfl rfl rfl rfl rfl rfl ?_
      refine l_op 0 rfl rfl rfl rfl rfl ?_
      refine l_ixr (e := eB) rfl rfl rfl rfl rfl rfl (F.has 1 rfl) ⟨eB_len, by decide⟩ (by omega) (fun m32 b32 hA32 => ?_)
      refine l_lda (ws := eB (bl.getD i.toNat default)) rfl rfl rfl rfl rfl hA32 ?_
      refine l_lit (k := 2) F rfl rfl rfl rfl (fun q34 s F => ?_)
      (try dsimp only [n_1, n_2, n_3, n_4, List.append_nil, pk, n_5, n_6] at F)
      refine l_app (es := 2) (ns := rows eB [bl.getD i.toNat default]) F 2 rfl rfl rfl rfl rfl rfl rfl (F.has 3 rfl) (eB_one [bl.getD i.toNat default]) rfl (by omega) hD (fun x2 c2 s F => ?_)
      (try dsimp only [n_1, n_2, n_3, n_4, List.append_nil, pk, n_5, n_6] at F)
      refine l_op 0 rfl rfl rfl rfl rfl ?_
      refine l_nil (WK.nx (by assumption) ?_)
      refine BlkK.nx (by assumption) ?_
      refine SeqK.nx (by assumption) ?_
      refine k_lin (fun W K => ?_)
      refine l_op 0 rfl rfl rfl rfl rfl ?_
      refine l_a64 rfl rfl rfl (by omega) rfl ?_
      refine l_op 0 rfl rfl rfl rfl rfl ?_
      refine l_nil (WK.nx (by assumption) ?_)
      have e1 : (i + 1).toNat = i.toNat + 1 := by omega
      first
        | (have hol2 : (offB (bl.take (i + 1).toNat) ad).length = (offB (bl.take i.toNat) ad).length + 1 := by rw [e1, hof]; simp
           rw [← rows_append, ← hof, ← e1, ← hol2] at F
           exact K0.nx (i + 1, x2, c2) (by dsimp only; rw [hol2]; exact (by repeat (first | exact trivial | refine And.intro rfl ?_))) ⟨F.pick [0, 1, 2] (by decide), by omega, by omega⟩ (by first | omega | (simp only; omega)))
        | (rw [← hof, ← e1] at F
           exact K0.nx (i + 1, x, k) (by dsimp only; rw [e1, hof]; exact (by repeat (first | exact trivial | refine And.intro rfl ?_))) ⟨F.pick [0, 1, 2] (by decide), by omega, by omega⟩ (by first | omega | (simp only; omega)))
    first | replace hc2 := bne_eq_false_iff_eq.1 ((irr_eq _).symm.trans hc2) | simp only [irr_eq, bne_iff_ne, bne_eq_false_iff_eq, ne_eq, decide_eq_true_eq, decide_eq_false_iff_not, Bool.not_eq_true', Bool.not_eq_false'] at hc2
    rw [if_neg (by omega)] at hof
    refine k_skip ?_
    refine BlkK.nx (by assumption) ?_
    refine SeqK.nx (by assumption) ?_
    refine k_lin (fun W K => ?_)
    refine l_op 0 rfl rfl rfl rfl rfl ?_
    refine l_a64 rfl rfl rfl (by omega) rfl ?_
    refine l_op 0 rfl rfl rfl rfl rfl ?_
    refine l_nil (WK.nx (by assumption) ?_)
    have e1 : (i + 1).toNat = i.toNat + 1 := by omega
    first
      | (have hol2 : (offB (bl.take (i + 1).toNat) ad).length = (offB (bl.take i.toNat) ad).length + 1 := by rw [e1, hof]; simp
         rw [← rows_append, ← hof, ← e1, ← hol2] at F
         exact K0.nx (i + 1, x2, c2) (by dsimp only; rw [hol2]; exact (by repeat (first | exact trivial | refine And.intro rfl ?_))) ⟨F.pick [0, 1, 2] (by decide), by omega, by omega⟩ (by first | omega | (simp only; omega)))
      | (rw [← hof, ← e1] at F
         exact K0.nx (i + 1, x, k) (by dsimp only; rw [e1, hof]; exact (by repeat (first | exact trivial | refine And.intro rfl ?_))) ⟨F.pick [0, 1, 2] (by decide), by omega, by omega⟩ (by first | omega | (simp only; omega)))
  replace hc1 := of_decide_eq_false ((irr_eq _).symm.trans hc1)
  have hall : bl.take i.toNat = bl := List.take_of_length_le (by omega)
  rw [hall] at F
  refine k_exit ?_
  refine SeqK.et (by assumption) ?_
  refine LoopK.et (by assumption) ?_
  refine BlkK.et (by assumption) ?_
  refine SeqK.nx (by assumption) ?_
  refine k_seq (fun Q K => ?_)
  refine k_seq (fun Q K => ?_)
  refine k_lin (fun W K => ?_)
  refine l_op 0 rfl rfl rfl rfl rfl ?_
  first | refine l_op 2 rfl rfl rfl rfl rfl ?_ | refine l_ln rfl rfl rfl rfl ?_
  refine l_op 0 rfl rfl rfl rfl rfl ?_
  refine l_op 2 rfl rfl rfl rfl rfl ?_
  refine l_op 2 rfl rfl rfl rfl rfl ?_
  refine l_ldc F 0 rfl rfl rfl rfl rfl rfl rfl ?_
  first | refine l_op 2 rfl rfl rfl rfl rfl ?_ | refine l_ln rfl rfl rfl rfl ?_
  refine l_cmp rfl rfl rfl rfl ?_
  refine l_nil (WK.nx (by assumption) ?_)
  refine SeqK.nx (by assumption) ?_
  refine l_cond rfl rfl (fun hc3 => ?_) (fun hc3 => ?_)
  · first | replace hc3 := eq_of_beq ((irr_eq _).symm.trans hc3) | simp only [irr_eq, beq_iff_eq, beq_eq_false_iff_ne, ne_eq, decide_eq_true_eq, decide_eq_false_iff_not] at hc3
    have hr : rfreeR st en bl ad = (5, st, en, bl) := by unfold rfreeR; rw [if_pos (by rw [hall] at hc3; omega)]
    refine k_seq (fun Q K => ?_)
    refine k_lin (fun W K => ?_)
    refine l_op 0 rfl rfl rfl rfl rfl ?_
    refine l_nil (WK.nx (by assumption) ?_)
    refine SeqK.nx (by assumption) ?_
    refine k_ret ?_
    refine SeqK.rt (by assumption) ?_
    refine FunK.rt (by assumption) rfl ?_
    -- leaf 1
    rw [hr]
    first
      | exact ⟨(a, c), rfl, F.pick [0, 1] (by decide), trivial⟩
      | (rw [hall] at F; exact ⟨(x, k), rfl, F.pick [0, 2] (by decide), trivial⟩)
  first | replace hc3 := ne_of_beq_false ((irr_eq _).symm.trans hc3) | simp only [irr_eq, beq_iff_eq, beq_eq_false_iff_ne, ne_eq, decide_eq_true_eq, decide_eq_false_iff_not] at hc3
  have hne : (offB bl ad).length ≠ bl.length := by rw [hall] at hc3; omega
  refine k_skip ?_
  refine SeqK.nx (by assumption) ?_
  refine k_seq (fun Q K => ?_)
  refine k_lin (fun W K => ?_)
  refine l_op 0 rfl rfl rfl rfl rfl ?_
  refine l_op 0 rfl rfl rfl rfl rfl ?_
  refine l_op 2 rfl rfl rfl rfl rfl ?_
  refine l_op 2 rfl rfl rfl rfl rfl ?_
  refine l_stc F 0 rfl rfl rfl rfl rfl rfl rfl rfl rfl hD (fun s F => ?_)
  (try dsimp only [n_1, n_2, n_3, n_4, List.append_nil, pk, n_5, n_6] at F)
  refine l_nil (WK.nx (by assumption) ?_)
  refine SeqK.nx (by assumption) ?_
  refine k_seq (fun Q K => ?_)
  refine k_seq (fun Q K => ?_)
  refine k_lin (fun W K => ?_)
  refine l_op 0 rfl rfl rfl rfl rfl ?_
  first | refine l_op 2 rfl rfl rfl rfl rfl ?_ | refine l_ln rfl rfl rfl rfl ?_
  refine l_cmp rfl rfl rfl rfl ?_
  refine l_nil (WK.nx (by assumption) ?_)
  refine SeqK.nx (by assumption) ?_
  refine l_cond rfl rfl (fun hc4 => ?_) (fun hc4 => ?_)
  · first | replace hc4 := eq_of_beq ((irr_eq _).symm.trans hc4) | simp only [irr_eq, beq_iff_eq, beq_eq_false_iff_ne, ne_eq, decide_eq_true_eq, decide_eq_false_iff_not] at hc4
    have hr : rfreeR st en bl ad = (0, 0, 0, offB bl ad) := by unfold rfreeR; rw [if_neg hne, if_pos (by rw [hall] at hc4; omega)]
    refine k_lin (fun W K => ?_)
    refine l_op 0 rfl rfl rfl rfl rfl ?_
    refine l_op 0 rfl rfl rfl rfl rfl ?_
    refine l_op 2 rfl rfl rfl rfl rfl ?_
    refine l_op 2 rfl rfl rfl rfl rfl ?_
    refine l_stc F 0 rfl rfl rfl rfl rfl rfl rfl rfl rfl hD (fun s F => ?_)
    (try dsimp only [n_1, n_2, n_3, n_4, List.append_nil, pk, n_5, n_6] at F)
    refine l_op 2 rfl rfl rfl rfl rfl ?_
    refine l_op 2 rfl rfl rfl rfl rfl ?_
    refine l_stc F 0 rfl rfl rfl rfl rfl rfl rfl rfl rfl hD (fun s F => ?_)
    (try dsimp only [n_1, n_2, n_3, n_4, List.append_nil, pk, n_5, n_6] at F)
    refine l_nil (WK.nx (by assumption) ?_)
    refine SeqK.nx (by assumption) ?_
    refine k_seq (fun Q K => ?_)
    refine k_lin (fun W K => ?_)
    refine l_op 0 rfl rfl rfl rfl rfl ?_
    refine l_nil (WK.nx (by assumption) ?_)
    refine SeqK.nx (by assumption) ?_
    refine k_ret ?_
    refine FunK.rt (by assumption) rfl ?_
    -- leaf 2
    rw [hr]
    first
      | exact ⟨(a, c), rfl, F.pick [0, 1] (by decide), trivial⟩
      | (rw [hall] at F; exact ⟨(x, k), rfl, F.pick [0, 2] (by decide), trivial⟩)
  first | replace hc4 := ne_of_beq_false ((irr_eq _).symm.trans hc4) | simp only [irr_eq, beq_iff_eq, beq_eq_false_iff_ne, ne_eq, decide_eq_true_eq, decide_eq_false_iff_not] at hc4
  have hr : rfreeR st en bl ad = (0, st, en, offB bl ad) := by unfold rfreeR; rw [if_neg hne, if_neg (by rw [hall] at hc4; omega)]
  refine k_skip ?_
  refine SeqK.nx (by assumption) ?_
  refine k_seq (fun Q K => ?_)
  refine k_lin (fun W K => ?_)
  refine l_op 0 rfl rfl rfl rfl rfl ?_
  refine l_nil (WK.nx (by assumption) ?_)
  refine SeqK.nx (by assumption) ?_
  refine k_ret ?_
  refine FunK.rt (by assumption) rfl ?_
  -- leaf 3
  rw [hr]
  first
    | exact ⟨(a, c), rfl, F.pick [0, 1] (by decide), trivial⟩
    | (rw [hall] at F; exact ⟨(x, k), rfl, F.pick [0, 2] (by decide), trivial⟩)
/-- Loaded as the document says. -/
theorem rload_call {O : Nat → Prop} {σ : AState} {m c0 : Nat} {a0 : Option Addr} {most st0 en0 : Int} {bl0 : List (Int × Int)} {st en : Int} {a : Option Addr} {c : Nat} {xs : List (Int × Int)} (F : Facts O σ σ (rF m a0 c0 most st0 en0 bl0)) (hl : Old O σ a xs.length c 2 (rows eB xs)) (hB : BlkOK xs) (hs : U32 st) (he : U32 en) (hn : xs.length ≤ 1000000) :
    SCall Try.prog O 36 [.pointer (some ⟨m, 0, none⟩), .int .u32 st, .int .u32 en, .slice a xs.length c] σ (Ret O σ (fun (_ : Option Addr × Nat) => .int .i64 (loadR most st0 en0 bl0 st en xs).ret) (fun y => rF m y.1 y.2 most (loadR most st0 en0 bl0 st en xs).st (loadR most st0 en0 bl0 st en xs).en (loadR most st0 en0 bl0 st en xs).bl) fun _ => True) := by
  obtain ⟨s0, s1⟩ := hs
  obtain ⟨e0, e1⟩ := he
  refine k_fun Try.func36 rfl (m := 108) rfl fun B hD Q K => ?_
  refine k_seq (fun Q K => ?_)
  refine k_lin (fun W K => ?_)
  refine l_op 0 rfl rfl rfl rfl rfl ?_
  refine l_nil (WK.nx (by assumption) ?_)
  refine SeqK.nx (by assumption) ?_
  refine k_seq (fun Q K => ?_)
  refine k_seq (fun Q K => ?_)
  refine k_lin (fun W K => ?_)
  refine l_op 0 rfl rfl rfl rfl rfl ?_
  first | refine l_op 2 rfl rfl rfl rfl rfl ?_ | refine l_ln rfl rfl rfl rfl ?_
  refine l_cmp rfl rfl rfl rfl ?_
  refine l_nil (WK.nx (by assumption) ?_)
  refine SeqK.nx (by assumption) ?_
  refine l_cond rfl rfl (fun hc1 => ?_) (fun hc1 => ?_)
  · replace hc1 := of_decide_eq_true ((irr_eq _).symm.trans hc1)
    refine k_seq (fun Q K => ?_)
    refine k_lin (fun W K => ?_)
    refine l_op 0 rfl rfl rfl rfl rfl ?_
    refine l_nil (WK.nx (by assumption) ?_)
    refine SeqK.nx (by assumption) ?_
    refine k_ret ?_
    refine SeqK.rt (by assumption) ?_
    refine FunK.rt (by assumption) rfl ?_
    -- leaf 1
    first
      | (have hr : loadR most st0 en0 bl0 st en xs = ⟨4, false, st0, en0, bl0⟩ := if_pos (by omega)
         rw [hr]; exact ⟨(a0, c0), rfl, F.pick [0, 1] (by decide), trivial⟩)
      | (have hf : rightR most st en xs = false := by
           first
             | (unfold rightR
                by_cases h0 : (xs.length : Int) = 0
                · rw [if_pos h0]; exact decide_eq_false (by omega)
                · rw [if_neg h0, if_pos (by omega)])
             | (rw [hpl (by omega), rightL_drop (by omega), if_pos (by omega)])
             | (have h0 : xs.length ≠ 0 := fun h0 => by have := hp0 h0; omega
                rw [hpl h0, List.drop_of_length_le (by omega), rightL]
                exact decide_eq_false (by omega))
         have hr : loadR most st0 en0 bl0 st en xs = ⟨1, false, st0, en0, bl0⟩ := by unfold loadR; rw [if_neg (by omega), if_pos hf]
         rw [hr]; exact ⟨(a0, c0), rfl, F.pick [0, 1] (by decide), trivial⟩)
      | (have hf : rightR most st en xs = true := by
           by_cases h0 : xs.length = 0
           · unfold rightR
             rw [if_pos (by omega)]
             exact decide_eq_true (by omega)
           · rw [hpl h0, List.drop_of_length_le (by omega), rightL]
             exact decide_eq_true (by omega)
         have hr : loadR most st0 en0 bl0 st en xs = ⟨0, true, st, en, xs⟩ := by unfold loadR; rw [if_neg (by omega), if_neg (by rw [hf]; decide)]
         rw [hr]
         exact ⟨(x2, c2), rfl, by rw [Nat.zero_add] at F; exact F.pick [0, 2] (by decide), trivial⟩)
      | (exfalso; omega)
  replace hc1 := of_decide_eq_false ((irr_eq _).symm.trans hc1)
  refine k_skip ?_
  refine SeqK.nx (by assumption) ?_
  refine k_seq (fun Q K => ?_)
  refine k_seq (fun Q K => ?_)
  refine k_lin (fun W K => ?_)
  refine l_op 0 rfl rfl rfl rfl rfl ?_
  first | refine l_op 2 rfl rfl rfl rfl rfl ?_ | refine l_ln rfl rfl rfl rfl ?_
  refine l_cmp rfl rfl rfl rfl ?_
  refine l_op 0 rfl rfl rfl rfl rfl ?_
  refine l_guard rfl rfl rfl (fun hc2 => ?_) (fun hc2 => ?_)
  · first | replace hc2 := eq_of_beq ((irr_eq _).symm.trans hc2) | simp only [irr_eq, beq_iff_eq, beq_eq_false_iff_ne, ne_eq, decide_eq_true_eq, decide_eq_false_iff_not] at hc2
    refine l_op 0 rfl rfl rfl rfl rfl ?_
    refine l_cmp rfl rfl rfl rfl ?_
    refine l_op 0 rfl rfl rfl rfl rfl ?_
    refine l_guard rfl rfl rfl (fun hc3 => ?_) (fun hc3 => ?_)
    · first | replace hc3 := bne_iff_ne.1 ((irr_eq _).symm.trans hc3) | simp only [irr_eq, bne_iff_ne, bne_eq_false_iff_eq, ne_eq, decide_eq_true_eq, decide_eq_false_iff_not, Bool.not_eq_true', Bool.not_eq_false'] at hc3
      refine l_s rfl rfl ?_
      refine l_s rfl rfl ?_
      refine l_op 2 rfl rfl rfl rfl rfl ?_
      refine l_op 2 rfl rfl rfl rfl rfl ?_
      refine l_nil (WK.nx (by assumption) ?_)
      refine SeqK.nx (by assumption) ?_
      first | refine e_cond_t rfl rfl rfl ?_ | refine e_cond_t rfl rfl (by rw [irr_eq]; first | exact beq_iff_eq.2 (by assumption) | exact decide_eq_true (by assumption) | exact bne_iff_ne.2 (by assumption)) ?_
      refine k_seq (fun Q K => ?_)
      refine k_lin (fun W K => ?_)
      refine l_op 0 rfl rfl rfl rfl rfl ?_
      refine l_nil (WK.nx (by assumption) ?_)
      refine SeqK.nx (by assumption) ?_
      refine k_ret ?_
      refine SeqK.rt (by assumption) ?_
      refine FunK.rt (by assumption) rfl ?_
      -- leaf 2
      first
        | (have hr : loadR most st0 en0 bl0 st en xs = ⟨4, false, st0, en0, bl0⟩ := if_pos (by omega)
           rw [hr]; exact ⟨(a0, c0), rfl, F.pick [0, 1] (by decide), trivial⟩)
        | (have hf : rightR most st en xs = false := by
             first
               | (unfold rightR
                  by_cases h0 : (xs.length : Int) = 0
                  · rw [if_pos h0]; exact decide_eq_false (by omega)
                  · rw [if_neg h0, if_pos (by omega)])
               | (rw [hpl (by omega), rightL_drop (by omega), if_pos (by omega)])
               | (have h0 : xs.length ≠ 0 := fun h0 => by have := hp0 h0; omega
                  rw [hpl h0, List.drop_of_length_le (by omega), rightL]
                  exact decide_eq_false (by omega))
           have hr : loadR most st0 en0 bl0 st en xs = ⟨1, false, st0, en0, bl0⟩ := by unfold loadR; rw [if_neg (by omega), if_pos hf]
           rw [hr]; exact ⟨(a0, c0), rfl, F.pick [0, 1] (by decide), trivial⟩)
        | (have hf : rightR most st en xs = true := by
             by_cases h0 : xs.length = 0
             · unfold rightR
               rw [if_pos (by omega)]
               exact decide_eq_true (by omega)
             · rw [hpl h0, List.drop_of_length_le (by omega), rightL]
               exact decide_eq_true (by omega)
           have hr : loadR most st0 en0 bl0 st en xs = ⟨0, true, st, en, xs⟩ := by unfold loadR; rw [if_neg (by omega), if_neg (by rw [hf]; decide)]
           rw [hr]
           exact ⟨(x2, c2), rfl, by rw [Nat.zero_add] at F; exact F.pick [0, 2] (by decide), trivial⟩)
        | (exfalso; omega)
    first | replace hc3 := bne_eq_false_iff_eq.1 ((irr_eq _).symm.trans hc3) | simp only [irr_eq, bne_iff_ne, bne_eq_false_iff_eq, ne_eq, decide_eq_true_eq, decide_eq_false_iff_not, Bool.not_eq_true', Bool.not_eq_false'] at hc3
    refine l_op 0 rfl rfl rfl rfl rfl ?_
    refine l_cmp rfl rfl rfl rfl ?_
    refine l_op 2 rfl rfl rfl rfl rfl ?_
    refine l_op 2 rfl rfl rfl rfl rfl ?_
    refine l_nil (WK.nx (by assumption) ?_)
    refine SeqK.nx (by assumption) ?_
    refine l_cond rfl rfl (fun hc4 => ?_) (fun hc4 => ?_)
    · first | replace hc4 := bne_iff_ne.1 ((irr_eq _).symm.trans hc4) | simp only [irr_eq, bne_iff_ne, bne_eq_false_iff_eq, ne_eq, decide_eq_true_eq, decide_eq_false_iff_not, Bool.not_eq_true', Bool.not_eq_false'] at hc4
      refine k_seq (fun Q K => ?_)
      refine k_lin (fun W K => ?_)
      refine l_op 0 rfl rfl rfl rfl rfl ?_
      refine l_nil (WK.nx (by assumption) ?_)
      refine SeqK.nx (by assumption) ?_
      refine k_ret ?_
      refine SeqK.rt (by assumption) ?_
      refine FunK.rt (by assumption) rfl ?_
      -- leaf 3
      first
        | (have hr : loadR most st0 en0 bl0 st en xs = ⟨4, false, st0, en0, bl0⟩ := if_pos (by omega)
           rw [hr]; exact ⟨(a0, c0), rfl, F.pick [0, 1] (by decide), trivial⟩)
        | (have hf : rightR most st en xs = false := by
             first
               | (unfold rightR
                  by_cases h0 : (xs.length : Int) = 0
                  · rw [if_pos h0]; exact decide_eq_false (by omega)
                  · rw [if_neg h0, if_pos (by omega)])
               | (rw [hpl (by omega), rightL_drop (by omega), if_pos (by omega)])
               | (have h0 : xs.length ≠ 0 := fun h0 => by have := hp0 h0; omega
                  rw [hpl h0, List.drop_of_length_le (by omega), rightL]
                  exact decide_eq_false (by omega))
           have hr : loadR most st0 en0 bl0 st en xs = ⟨1, false, st0, en0, bl0⟩ := by unfold loadR; rw [if_neg (by omega), if_pos hf]
           rw [hr]; exact ⟨(a0, c0), rfl, F.pick [0, 1] (by decide), trivial⟩)
        | (have hf : rightR most st en xs = true := by
             by_cases h0 : xs.length = 0
             · unfold rightR
               rw [if_pos (by omega)]
               exact decide_eq_true (by omega)
             · rw [hpl h0, List.drop_of_length_le (by omega), rightL]
               exact decide_eq_true (by omega)
           have hr : loadR most st0 en0 bl0 st en xs = ⟨0, true, st, en, xs⟩ := by unfold loadR; rw [if_neg (by omega), if_neg (by rw [hf]; decide)]
           rw [hr]
           exact ⟨(x2, c2), rfl, by rw [Nat.zero_add] at F; exact F.pick [0, 2] (by decide), trivial⟩)
        | (exfalso; omega)
    first | replace hc4 := bne_eq_false_iff_eq.1 ((irr_eq _).symm.trans hc4) | simp only [irr_eq, bne_iff_ne, bne_eq_false_iff_eq, ne_eq, decide_eq_true_eq, decide_eq_false_iff_not, Bool.not_eq_true', Bool.not_eq_false'] at hc4
    refine k_skip ?_
    refine SeqK.nx (by assumption) ?_
    refine k_seq (fun Q K => ?_)
    refine k_seq (fun Q K => ?_)
    refine k_lin (fun W K => ?_)
    refine l_op 0 rfl rfl rfl rfl rfl ?_
    first | refine l_op 2 rfl rfl rfl rfl rfl ?_ | refine l_ln rfl rfl rfl rfl ?_
    refine l_cmp rfl rfl rfl rfl ?_
    refine l_op 0 rfl rfl rfl rfl rfl ?_
    refine l_guard rfl rfl rfl (fun hc5 => ?_) (fun hc5 => ?_)
    · replace hc5 := of_decide_eq_true ((irr_eq _).symm.trans hc5)
      refine l_op 0 rfl rfl rfl rfl rfl ?_
      refine l_cmp rfl rfl rfl rfl ?_
      refine l_op 0 rfl rfl rfl rfl rfl ?_
      refine l_guard rfl rfl rfl (fun hc6 => ?_) (fun hc6 => ?_)
      · first | replace hc6 := eq_of_beq ((irr_eq _).symm.trans hc6) | simp only [irr_eq, beq_iff_eq, beq_eq_false_iff_ne, ne_eq, decide_eq_true_eq, decide_eq_false_iff_not] at hc6
        refine l_s rfl rfl ?_
        refine l_s rfl rfl ?_
        refine l_s rfl rfl ?_
        refine l_op 2 rfl rfl rfl rfl rfl ?_
        refine l_op 0 rfl rfl rfl rfl rfl ?_
        refine l_s rfl rfl ?_
        refine l_s rfl rfl ?_
        refine l_s rfl rfl ?_
        refine l_op 2 rfl rfl rfl rfl rfl ?_
        refine l_op 0 rfl rfl rfl rfl rfl ?_
        refine l_s rfl rfl ?_
        refine l_s rfl rfl ?_
        refine l_s rfl rfl ?_
        refine l_s rfl rfl ?_
        refine l_s rfl rfl ?_
        refine l_s rfl rfl ?_
        refine l_s rfl rfl ?_
        refine l_op 2 rfl rfl rfl rfl rfl ?_
        refine l_op 2 rfl rfl rfl rfl rfl ?_
        refine l_nil (WK.nx (by assumption) ?_)
        refine SeqK.nx (by assumption) ?_
        first | refine e_cond_t rfl rfl rfl ?_ | refine e_cond_t rfl rfl (by rw [irr_eq]; first | exact beq_iff_eq.2 (by assumption) | exact decide_eq_true (by assumption) | exact bne_iff_ne.2 (by assumption)) ?_
        refine k_seq (fun Q K => ?_)
        refine k_lin (fun W K => ?_)
        refine l_op 0 rfl rfl rfl rfl rfl ?_
        refine l_nil (WK.nx (by assumption) ?_)
        refine SeqK.nx (by assumption) ?_
        refine k_ret ?_
        refine SeqK.rt (by assumption) ?_
        refine FunK.rt (by assumption) rfl ?_
        -- leaf 4
        first
          | (have hr : loadR most st0 en0 bl0 st en xs = ⟨4, false, st0, en0, bl0⟩ := if_pos (by omega)
             rw [hr]; exact ⟨(a0, c0), rfl, F.pick [0, 1] (by decide), trivial⟩)
          | (have hf : rightR most st en xs = false := by
               first
                 | (unfold rightR
                    by_cases h0 : (xs.length : Int) = 0
                    · rw [if_pos h0]; exact decide_eq_false (by omega)
                    · rw [if_neg h0, if_pos (by omega)])
                 | (rw [hpl (by omega), rightL_drop (by omega), if_pos (by omega)])
                 | (have h0 : xs.length ≠ 0 := fun h0 => by have := hp0 h0; omega
                    rw [hpl h0, List.drop_of_length_le (by omega), rightL]
                    exact decide_eq_false (by omega))
             have hr : loadR most st0 en0 bl0 st en xs = ⟨1, false, st0, en0, bl0⟩ := by unfold loadR; rw [if_neg (by omega), if_pos hf]
             rw [hr]; exact ⟨(a0, c0), rfl, F.pick [0, 1] (by decide), trivial⟩)
          | (have hf : rightR most st en xs = true := by
               by_cases h0 : xs.length = 0
               · unfold rightR
                 rw [if_pos (by omega)]
                 exact decide_eq_true (by omega)
               · rw [hpl h0, List.drop_of_length_le (by omega), rightL]
                 exact decide_eq_true (by omega)
             have hr : loadR most st0 en0 bl0 st en xs = ⟨0, true, st, en, xs⟩ := by unfold loadR; rw [if_neg (by omega), if_neg (by rw [hf]; decide)]
             rw [hr]
             exact ⟨(x2, c2), rfl, by rw [Nat.zero_add] at F; exact F.pick [0, 2] (by decide), trivial⟩)
          | (exfalso; omega)
      first | replace hc6 := ne_of_beq_false ((irr_eq _).symm.trans hc6) | simp only [irr_eq, beq_iff_eq, beq_eq_false_iff_ne, ne_eq, decide_eq_true_eq, decide_eq_false_iff_not] at hc6
      refine l_op 0 rfl rfl rfl rfl rfl ?_
      first | refine l_remn rfl rfl rfl rfl rfl (by omega) rfl ?_ | refine l_rem rfl rfl rfl rfl rfl (by omega) rfl ?_
      refine l_cmp rfl rfl rfl rfl ?_
      refine l_op 2 rfl rfl rfl rfl rfl ?_
      refine l_op 0 rfl rfl rfl rfl rfl ?_
      refine l_guard rfl rfl rfl (fun hc7 => ?_) (fun hc7 => ?_)
      · first | replace hc7 := bne_iff_ne.1 ((irr_eq _).symm.trans hc7) | simp only [irr_eq, bne_iff_ne, bne_eq_false_iff_eq, ne_eq, decide_eq_true_eq, decide_eq_false_iff_not, Bool.not_eq_true', Bool.not_eq_false'] at hc7
        refine l_s rfl rfl ?_
        refine l_s rfl rfl ?_
        refine l_s rfl rfl ?_
        refine l_op 2 rfl rfl rfl rfl rfl ?_
        refine l_op 0 rfl rfl rfl rfl rfl ?_
        refine l_s rfl rfl ?_
        refine l_s rfl rfl ?_
        refine l_s rfl rfl ?_
        refine l_s rfl rfl ?_
        refine l_s rfl rfl ?_
        refine l_s rfl rfl ?_
        refine l_s rfl rfl ?_
        refine l_op 2 rfl rfl rfl rfl rfl ?_
        refine l_op 2 rfl rfl rfl rfl rfl ?_
        refine l_nil (WK.nx (by assumption) ?_)
        refine SeqK.nx (by assumption) ?_
        first | refine e_cond_t rfl rfl rfl ?_ | refine e_cond_t rfl rfl (by rw [irr_eq]; first | exact beq_iff_eq.2 (by assumption) | exact decide_eq_true (by assumption) | exact bne_iff_ne.2 (by assumption)) ?_
        refine k_seq (fun Q K => ?_)
        refine k_lin (fun W K => ?_)
        refine l_op 0 rfl rfl rfl rfl rfl ?_
        refine l_nil (WK.nx (by assumption) ?_)
        refine SeqK.nx (by assumption) ?_
        refine k_ret ?_
        refine SeqK.rt (by assumption) ?_
        refine FunK.rt (by assumption) rfl ?_
        -- leaf 5
        first
          | (have hr : loadR most st0 en0 bl0 st en xs = ⟨4, false, st0, en0, bl0⟩ := if_pos (by omega)
             rw [hr]; exact ⟨(a0, c0), rfl, F.pick [0, 1] (by decide), trivial⟩)
          | (have hf : rightR most st en xs = false := by
               first
                 | (unfold rightR
                    by_cases h0 : (xs.length : Int) = 0
                    · rw [if_pos h0]; exact decide_eq_false (by omega)
                    · rw [if_neg h0, if_pos (by omega)])
                 | (rw [hpl (by omega), rightL_drop (by omega), if_pos (by omega)])
                 | (have h0 : xs.length ≠ 0 := fun h0 => by have := hp0 h0; omega
                    rw [hpl h0, List.drop_of_length_le (by omega), rightL]
                    exact decide_eq_false (by omega))
             have hr : loadR most st0 en0 bl0 st en xs = ⟨1, false, st0, en0, bl0⟩ := by unfold loadR; rw [if_neg (by omega), if_pos hf]
             rw [hr]; exact ⟨(a0, c0), rfl, F.pick [0, 1] (by decide), trivial⟩)
          | (have hf : rightR most st en xs = true := by
               by_cases h0 : xs.length = 0
               · unfold rightR
                 rw [if_pos (by omega)]
                 exact decide_eq_true (by omega)
               · rw [hpl h0, List.drop_of_length_le (by omega), rightL]
                 exact decide_eq_true (by omega)
             have hr : loadR most st0 en0 bl0 st en xs = ⟨0, true, st, en, xs⟩ := by unfold loadR; rw [if_neg (by omega), if_neg (by rw [hf]; decide)]
             rw [hr]
             exact ⟨(x2, c2), rfl, by rw [Nat.zero_add] at F; exact F.pick [0, 2] (by decide), trivial⟩)
          | (exfalso; omega)
      first | replace hc7 := bne_eq_false_iff_eq.1 ((irr_eq _).symm.trans hc7) | simp only [irr_eq, bne_iff_ne, bne_eq_false_iff_eq, ne_eq, decide_eq_true_eq, decide_eq_false_iff_not, Bool.not_eq_true', Bool.not_eq_false'] at hc7
      refine l_op 0 rfl rfl rfl rfl rfl ?_
      first | refine l_remn rfl rfl rfl rfl rfl (by omega) rfl ?_ | refine l_rem rfl rfl rfl rfl rfl (by omega) rfl ?_
      refine l_cmp rfl rfl rfl rfl ?_
      refine l_op 2 rfl rfl rfl rfl rfl ?_
      refine l_op 0 rfl rfl rfl rfl rfl ?_
      refine l_guard rfl rfl rfl (fun hc8 => ?_) (fun hc8 => ?_)
      · first | replace hc8 := bne_iff_ne.1 ((irr_eq _).symm.trans hc8) | simp only [irr_eq, bne_iff_ne, bne_eq_false_iff_eq, ne_eq, decide_eq_true_eq, decide_eq_false_iff_not, Bool.not_eq_true', Bool.not_eq_false'] at hc8
        refine l_s rfl rfl ?_
        refine l_s rfl rfl ?_
        refine l_s rfl rfl ?_
        refine l_s rfl rfl ?_
        refine l_s rfl rfl ?_
        refine l_s rfl rfl ?_
        refine l_s rfl rfl ?_
        refine l_op 2 rfl rfl rfl rfl rfl ?_
        refine l_op 2 rfl rfl rfl rfl rfl ?_
        refine l_nil (WK.nx (by assumption) ?_)
        refine SeqK.nx (by assumption) ?_
        first | refine e_cond_t rfl rfl rfl ?_ | refine e_cond_t rfl rfl (by rw [irr_eq]; first | exact beq_iff_eq.2 (by assumption) | exact decide_eq_true (by assumption) | exact bne_iff_ne.2 (by assumption)) ?_
        refine k_seq (fun Q K => ?_)
        refine k_lin (fun W K => ?_)
        refine l_op 0 rfl rfl rfl rfl rfl ?_
        refine l_nil (WK.nx (by assumption) ?_)
        refine SeqK.nx (by assumption) ?_
        refine k_ret ?_
        refine SeqK.rt (by assumption) ?_
        refine FunK.rt (by assumption) rfl ?_
        -- leaf 6
        first
          | (have hr : loadR most st0 en0 bl0 st en xs = ⟨4, false, st0, en0, bl0⟩ := if_pos (by omega)
             rw [hr]; exact ⟨(a0, c0), rfl, F.pick [0, 1] (by decide), trivial⟩)
          | (have hf : rightR most st en xs = false := by
               first
                 | (unfold rightR
                    by_cases h0 : (xs.length : Int) = 0
                    · rw [if_pos h0]; exact decide_eq_false (by omega)
                    · rw [if_neg h0, if_pos (by omega)])
                 | (rw [hpl (by omega), rightL_drop (by omega), if_pos (by omega)])
                 | (have h0 : xs.length ≠ 0 := fun h0 => by have := hp0 h0; omega
                    rw [hpl h0, List.drop_of_length_le (by omega), rightL]
                    exact decide_eq_false (by omega))
             have hr : loadR most st0 en0 bl0 st en xs = ⟨1, false, st0, en0, bl0⟩ := by unfold loadR; rw [if_neg (by omega), if_pos hf]
             rw [hr]; exact ⟨(a0, c0), rfl, F.pick [0, 1] (by decide), trivial⟩)
          | (have hf : rightR most st en xs = true := by
               by_cases h0 : xs.length = 0
               · unfold rightR
                 rw [if_pos (by omega)]
                 exact decide_eq_true (by omega)
               · rw [hpl h0, List.drop_of_length_le (by omega), rightL]
                 exact decide_eq_true (by omega)
             have hr : loadR most st0 en0 bl0 st en xs = ⟨0, true, st, en, xs⟩ := by unfold loadR; rw [if_neg (by omega), if_neg (by rw [hf]; decide)]
             rw [hr]
             exact ⟨(x2, c2), rfl, by rw [Nat.zero_add] at F; exact F.pick [0, 2] (by decide), trivial⟩)
          | (exfalso; omega)
      first | replace hc8 := bne_eq_false_iff_eq.1 ((irr_eq _).symm.trans hc8) | simp only [irr_eq, bne_iff_ne, bne_eq_false_iff_eq, ne_eq, decide_eq_true_eq, decide_eq_false_iff_not, Bool.not_eq_true', Bool.not_eq_false'] at hc8
      refine l_op 0 rfl rfl rfl rfl rfl ?_
      refine l_c64 rfl rfl rfl (by omega) rfl ?_
      refine l_op 0 rfl rfl rfl rfl rfl ?_
      refine l_op 2 rfl rfl rfl rfl rfl ?_
      refine l_op 2 rfl rfl rfl rfl rfl ?_
      refine l_ldc F 0 rfl rfl rfl rfl rfl rfl rfl ?_
      refine l_cmp rfl rfl rfl rfl ?_
      refine l_op 2 rfl rfl rfl rfl rfl ?_
      refine l_op 2 rfl rfl rfl rfl rfl ?_
      refine l_nil (WK.nx (by assumption) ?_)
      refine SeqK.nx (by assumption) ?_
      refine l_cond rfl rfl (fun hc9 => ?_) (fun hc9 => ?_)
      · replace hc9 := of_decide_eq_true ((irr_eq _).symm.trans hc9)
        refine k_seq (fun Q K => ?_)
        refine k_lin (fun W K => ?_)
        refine l_op 0 rfl rfl rfl rfl rfl ?_
        refine l_nil (WK.nx (by assumption) ?_)
        refine SeqK.nx (by assumption) ?_
        refine k_ret ?_
        refine SeqK.rt (by assumption) ?_
        refine FunK.rt (by assumption) rfl ?_
        -- leaf 7
        first
          | (have hr : loadR most st0 en0 bl0 st en xs = ⟨4, false, st0, en0, bl0⟩ := if_pos (by omega)
             rw [hr]; exact ⟨(a0, c0), rfl, F.pick [0, 1] (by decide), trivial⟩)
          | (have hf : rightR most st en xs = false := by
               first
                 | (unfold rightR
                    by_cases h0 : (xs.length : Int) = 0
                    · rw [if_pos h0]; exact decide_eq_false (by omega)
                    · rw [if_neg h0, if_pos (by omega)])
                 | (rw [hpl (by omega), rightL_drop (by omega), if_pos (by omega)])
                 | (have h0 : xs.length ≠ 0 := fun h0 => by have := hp0 h0; omega
                    rw [hpl h0, List.drop_of_length_le (by omega), rightL]
                    exact decide_eq_false (by omega))
             have hr : loadR most st0 en0 bl0 st en xs = ⟨1, false, st0, en0, bl0⟩ := by unfold loadR; rw [if_neg (by omega), if_pos hf]
             rw [hr]; exact ⟨(a0, c0), rfl, F.pick [0, 1] (by decide), trivial⟩)
          | (have hf : rightR most st en xs = true := by
               by_cases h0 : xs.length = 0
               · unfold rightR
                 rw [if_pos (by omega)]
                 exact decide_eq_true (by omega)
               · rw [hpl h0, List.drop_of_length_le (by omega), rightL]
                 exact decide_eq_true (by omega)
             have hr : loadR most st0 en0 bl0 st en xs = ⟨0, true, st, en, xs⟩ := by unfold loadR; rw [if_neg (by omega), if_neg (by rw [hf]; decide)]
             rw [hr]
             exact ⟨(x2, c2), rfl, by rw [Nat.zero_add] at F; exact F.pick [0, 2] (by decide), trivial⟩)
          | (exfalso; omega)
      replace hc9 := of_decide_eq_false ((irr_eq _).symm.trans hc9)
      refine k_skip ?_
      refine SeqK.nx (by assumption) ?_
      refine k_seq (fun Q K => ?_)
      refine k_lin (fun W K => ?_)
      refine l_op 0 rfl rfl rfl rfl rfl ?_
      refine l_c64 rfl rfl rfl (by omega) rfl ?_
      refine l_op 0 rfl rfl rfl rfl rfl ?_
      refine l_nil (WK.nx (by assumption) ?_)
      refine SeqK.nx (by assumption) ?_
      refine k_seq (fun Q K => ?_)
      refine k_seq (fun Q K => ?_)
      refine k_lin (fun W K => ?_)
      refine l_op 0 rfl rfl rfl rfl rfl ?_
      refine l_nil (WK.nx (by assumption) ?_)
      refine SeqK.nx (by assumption) ?_
      refine k_block (fun Q K => ?_)
      have hR0 : rightR most st en xs = if (xs.length : Int) = 0 then decide (st = 0 ∧ en = 0) else rightL en st xs := by
        unfold rightR
        by_cases h0 : (xs.length : Int) = 0
        · rw [if_pos h0, if_pos h0]
        · rw [if_neg h0, if_neg h0, if_neg (by omega)]
      refine k_loop (α := Int × Int) (fun ⟨i, p⟩ s => Facts O σ s (rF m a0 c0 most st0 en0 bl0) ∧ 0 ≤ i ∧ i ≤ xs.length ∧ 0 ≤ p ∧ p ≤ 8589934590 ∧ (xs.length = 0 → p = st) ∧ (xs.length ≠ 0 → rightR most st en xs = rightL en p (xs.drop i.toNat))) (fun ⟨i, p⟩ => [(0, .pointer (some ⟨m, 0, none⟩)), (1, .int .u32 st), (2, .int .u32 en), (3, .slice a xs.length c), (9, .int .i64 p), (10, .int .i64 i)]) (fun ⟨i, _⟩ => (xs.length - i).toNat) (0, st) ⟨F, by omega, by omega, by omega, by omega, fun _ => rfl, fun h => by rw [hR0, if_neg (by omega)]; rfl⟩ (by repeat (first | exact trivial | refine And.intro rfl ?_)) ?_
      clear F
      rintro ⟨i, p⟩ env s Q K0 ⟨F, i0, i1, p0, p1, hp0, hpl⟩
      obtain ⟨⟨b0, b1⟩, ⟨b2, b3⟩⟩ := hB.at i.toNat
      refine k_seq (fun Q K => ?_)
      refine k_seq (fun Q K => ?_)
      refine k_lin (fun W K => ?_)
      refine l_op 0 rfl rfl rfl rfl rfl ?_
      refine l_op 0 rfl rfl rfl rfl rfl ?_
      first | refine l_op 2 rfl rfl rfl rfl rfl ?_ | refine l_ln rfl rfl rfl rfl ?_
      refine l_cmp rfl rfl rfl rfl ?_
      refine l_nil (WK.nx (by assumption) ?_)
      refine SeqK.nx (by assumption) ?_
      refine l_cond rfl rfl (fun hc10 => ?_) (fun hc10 => ?_)
      · replace hc10 := of_decide_eq_true ((irr_eq _).symm.trans hc10)
        refine k_skip ?_
        refine SeqK.nx (by assumption) ?_
        refine k_seq (fun Q K => ?_)
        refine k_block (fun Q K => ?_)
        refine k_seq (fun Q K => ?_)
        refine k_seq (fun Q K => ?_)
        refine k_lin (fun W K => ?_)
        refine l_op 0 rfl rfl rfl rfl rfl ?_
        refine l_op 0 rfl rfl rfl rfl rfl ?_
        refine l_ixr (e := eB) rfl rfl rfl rfl rfl rfl (F.old hl) ⟨eB_len, by decide⟩ (by omega) (fun m61 b61 hA61 => ?_)
        refine l_op 2 rfl rfl rfl rfl rfl ?_
        refine l_ldj rfl rfl rfl rfl rfl rfl (by assumption) rfl ?_
        refine l_cmp rfl rfl rfl rfl ?_
        refine l_op 0 rfl rfl rfl rfl rfl ?_
        refine l_guard rfl rfl rfl (fun hc11 => ?_) (fun hc11 => ?_)
        · first | replace hc11 := eq_of_beq ((irr_eq _).symm.trans hc11) | simp only [irr_eq, beq_iff_eq, beq_eq_false_iff_ne, ne_eq, decide_eq_true_eq, decide_eq_false_iff_not] at hc11
          refine l_s rfl rfl ?_
          refine l_s rfl rfl ?_
          refine l_s rfl rfl ?_
          refine l_s rfl rfl ?_
          refine l_s rfl rfl ?_
          refine l_s rfl rfl ?_
          refine l_s rfl rfl ?_
          refine l_s rfl rfl ?_
          refine l_op 2 rfl rfl rfl rfl rfl ?_
          refine l_nil (WK.nx (by assumption) ?_)
          refine SeqK.nx (by assumption) ?_
          first | refine e_cond_t rfl rfl rfl ?_ | refine e_cond_t rfl rfl (by rw [irr_eq]; first | exact beq_iff_eq.2 (by assumption) | exact decide_eq_true (by assumption) | exact bne_iff_ne.2 (by assumption)) ?_
          refine k_seq (fun Q K => ?_)
          refine k_lin (fun W K => ?_)
          refine l_op 0 rfl rfl rfl rfl rfl ?_
          refine l_nil (WK.nx (by assumption) ?_)
          refine SeqK.nx (by assumption) ?_
          refine k_ret ?_
          refine SeqK.rt (by assumption) ?_
          refine BlkK.rt (by assumption) ?_
          refine SeqK.rt (by assumption) ?_
          refine LoopK.rt (by assumption) ?_
          refine BlkK.rt (by assumption) ?_
          refine SeqK.rt (by assumption) ?_
          refine FunK.rt (by assumption) rfl ?_
          -- leaf 8
          first
            | (have hr : loadR most st0 en0 bl0 st en xs = ⟨4, false, st0, en0, bl0⟩ := if_pos (by omega)
               rw [hr]; exact ⟨(a0, c0), rfl, F.pick [0, 1] (by decide), trivial⟩)
            | (have hf : rightR most st en xs = false := by
                 first
                   | (unfold rightR
                      by_cases h0 : (xs.length : Int) = 0
                      · rw [if_pos h0]; exact decide_eq_false (by omega)
                      · rw [if_neg h0, if_pos (by omega)])
                   | (rw [hpl (by omega), rightL_drop (by omega), if_pos (by omega)])
                   | (have h0 : xs.length ≠ 0 := fun h0 => by have := hp0 h0; omega
                      rw [hpl h0, List.drop_of_length_le (by omega), rightL]
                      exact decide_eq_false (by omega))
               have hr : loadR most st0 en0 bl0 st en xs = ⟨1, false, st0, en0, bl0⟩ := by unfold loadR; rw [if_neg (by omega), if_pos hf]
               rw [hr]; exact ⟨(a0, c0), rfl, F.pick [0, 1] (by decide), trivial⟩)
            | (have hf : rightR most st en xs = true := by
                 by_cases h0 : xs.length = 0
                 · unfold rightR
                   rw [if_pos (by omega)]
                   exact decide_eq_true (by omega)
                 · rw [hpl h0, List.drop_of_length_le (by omega), rightL]
                   exact decide_eq_true (by omega)
               have hr : loadR most st0 en0 bl0 st en xs = ⟨0, true, st, en, xs⟩ := by unfold loadR; rw [if_neg (by omega), if_neg (by rw [hf]; decide)]
               rw [hr]
               exact ⟨(x2, c2), rfl, by rw [Nat.zero_add] at F; exact F.pick [0, 2] (by decide), trivial⟩)
            | (exfalso; omega)
        first | replace hc11 := ne_of_beq_false ((irr_eq _).symm.trans hc11) | simp only [irr_eq, beq_iff_eq, beq_eq_false_iff_ne, ne_eq, decide_eq_true_eq, decide_eq_false_iff_not] at hc11
        refine l_op 0 rfl rfl rfl rfl rfl ?_
        refine l_op 0 rfl rfl rfl rfl rfl ?_
        refine l_ixr (e := eB) rfl rfl rfl rfl rfl rfl (F.old hl) ⟨eB_len, by decide⟩ (by omega) (fun m68 b68 hA68 => ?_)
        refine l_op 2 rfl rfl rfl rfl rfl ?_
        refine l_ld0 rfl rfl rfl rfl rfl (by assumption) ?_
        refine l_c64 rfl rfl rfl (by omega) rfl ?_
        refine l_op 0 rfl rfl rfl rfl rfl ?_
        refine l_cmp rfl rfl rfl rfl ?_
        refine l_op 2 rfl rfl rfl rfl rfl ?_
        refine l_nil (WK.nx (by assumption) ?_)
        refine SeqK.nx (by assumption) ?_
        refine l_cond rfl rfl (fun hc12 => ?_) (fun hc12 => ?_)
        · replace hc12 := of_decide_eq_true ((irr_eq _).symm.trans hc12)
          refine k_seq (fun Q K => ?_)
          refine k_lin (fun W K => ?_)
          refine l_op 0 rfl rfl rfl rfl rfl ?_
          refine l_nil (WK.nx (by assumption) ?_)
          refine SeqK.nx (by assumption) ?_
          refine k_ret ?_
          refine SeqK.rt (by assumption) ?_
          refine BlkK.rt (by assumption) ?_
          refine SeqK.rt (by assumption) ?_
          refine LoopK.rt (by assumption) ?_
          refine BlkK.rt (by assumption) ?_
          refine SeqK.rt (by assumption) ?_
          refine FunK.rt (by assumption) rfl ?_
          -- leaf 9
          first
            | (have hr : loadR most st0 en0 bl0 st en xs = ⟨4, false, st0, en0, bl0⟩ := if_pos (by omega)
               rw [hr]; exact ⟨(a0, c0), rfl, F.pick [0, 1] (by decide), trivial⟩)
            | (have hf : rightR most st en xs = false := by
                 first
                   | (unfold rightR
                      by_cases h0 : (xs.length : Int) = 0
                      · rw [if_pos h0]; exact decide_eq_false (by omega)
                      · rw [if_neg h0, if_pos (by omega)])
                   | (rw [hpl (by omega), rightL_drop (by omega), if_pos (by omega)])
                   | (have h0 : xs.length ≠ 0 := fun h0 => by have := hp0 h0; omega
                      rw [hpl h0, List.drop_of_length_le (by omega), rightL]
                      exact decide_eq_false (by omega))
               have hr : loadR most st0 en0 bl0 st en xs = ⟨1, false, st0, en0, bl0⟩ := by unfold loadR; rw [if_neg (by omega), if_pos hf]
               rw [hr]; exact ⟨(a0, c0), rfl, F.pick [0, 1] (by decide), trivial⟩)
            | (have hf : rightR most st en xs = true := by
                 by_cases h0 : xs.length = 0
                 · unfold rightR
                   rw [if_pos (by omega)]
                   exact decide_eq_true (by omega)
                 · rw [hpl h0, List.drop_of_length_le (by omega), rightL]
                   exact decide_eq_true (by omega)
               have hr : loadR most st0 en0 bl0 st en xs = ⟨0, true, st, en, xs⟩ := by unfold loadR; rw [if_neg (by omega), if_neg (by rw [hf]; decide)]
               rw [hr]
               exact ⟨(x2, c2), rfl, by rw [Nat.zero_add] at F; exact F.pick [0, 2] (by decide), trivial⟩)
            | (exfalso; omega)
        replace hc12 := of_decide_eq_false ((irr_eq _).symm.trans hc12)
        refine k_skip ?_
        refine SeqK.nx (by assumption) ?_
        refine k_linm [0, 1, 2, 3, 6, 7, 8, 9, 4, 5, 10, 11, 12, 13] mixed (by kernel_rfl) (fun W K => ?_)
        try have hpS := F.pns
        refine l_op 0 rfl rfl rfl rfl rfl ?_
        refine l_op 0 rfl rfl rfl rfl rfl ?_
        refine l_ixr (e := eB) rfl rfl rfl rfl rfl rfl (F.old hl) ⟨eB_len, by decide⟩ (by omega) (fun m77 b77 hA77 => ?_)
        refine l_op 2 rfl rfl rfl rfl rfl ?_
        refine l_op 0 rfl rfl rfl rfl rfl ?_
        refine l_op 0 rfl rfl rfl rfl rfl ?_
        refine l_ixr (e := eB) rfl rfl rfl rfl rfl rfl (F.old hl) ⟨eB_len, by decide⟩ (by omega) (fun m83 b83 hA83 => ?_)
        refine l_op 2 rfl rfl rfl rfl rfl ?_
        refine l_ld0 rfl rfl rfl rfl rfl (by assumption) ?_
        first | have hpS := PnS.add hpS hS77 | have hpS := PnS.add hpS (OldC.sf (by assumption)) | skip
        refine l_c64 rfl rfl rfl (by omega) rfl ?_
        refine l_ldj rfl rfl rfl rfl rfl rfl (by assumption) rfl ?_
        first | have hpS := PnS.add hpS hS83 | have hpS := PnS.add hpS (OldC.sf (by assumption)) | skip
        refine l_c64 rfl rfl rfl (by omega) rfl ?_
        refine l_a64 rfl rfl rfl (by omega) rfl ?_
        refine l_op 0 rfl rfl rfl rfl rfl ?_
        refine l_nil (WK.nx (by assumption) ?_)
        refine BlkK.nx (by assumption) ?_
        refine SeqK.nx (by assumption) ?_
        refine k_lin (fun W K => ?_)
        refine l_op 0 rfl rfl rfl rfl rfl ?_
        refine l_a64 rfl rfl rfl (by omega) rfl ?_
        refine l_op 0 rfl rfl rfl rfl rfl ?_
        refine l_nil (WK.nx (by assumption) ?_)
        have e1 : (i + 1).toNat = i.toNat + 1 := by omega
        exact K0.nx (i + 1, _) (by repeat (first | exact trivial | refine And.intro rfl ?_)) ⟨F.pick [0, 1] (by decide), by omega, by omega, by omega, by omega, fun h => by omega, fun h => by
          have h2 := hpl h
          rw [rightL_drop (by omega), if_neg (by omega)] at h2
          rw [h2, e1]⟩ (by first | omega | (simp only; omega))
      replace hc10 := of_decide_eq_false ((irr_eq _).symm.trans hc10)
      refine k_exit ?_
      refine SeqK.et (by assumption) ?_
      refine LoopK.et (by assumption) ?_
      refine BlkK.et (by assumption) ?_
      refine SeqK.nx (by assumption) ?_
      refine k_seq (fun Q K => ?_)
      refine k_seq (fun Q K => ?_)
      refine k_lin (fun W K => ?_)
      refine l_op 0 rfl rfl rfl rfl rfl ?_
      refine l_op 0 rfl rfl rfl rfl rfl ?_
      refine l_c64 rfl rfl rfl (by omega) rfl ?_
      refine l_cmp rfl rfl rfl rfl ?_
      refine l_nil (WK.nx (by assumption) ?_)
      refine SeqK.nx (by assumption) ?_
      refine l_cond rfl rfl (fun hc13 => ?_) (fun hc13 => ?_)
      · replace hc13 := of_decide_eq_true ((irr_eq _).symm.trans hc13)
        refine k_seq (fun Q K => ?_)
        refine k_lin (fun W K => ?_)
        refine l_op 0 rfl rfl rfl rfl rfl ?_
        refine l_nil (WK.nx (by assumption) ?_)
        refine SeqK.nx (by assumption) ?_
        refine k_ret ?_
        refine SeqK.rt (by assumption) ?_
        refine FunK.rt (by assumption) rfl ?_
        -- leaf 10
        first
          | (have hr : loadR most st0 en0 bl0 st en xs = ⟨4, false, st0, en0, bl0⟩ := if_pos (by omega)
             rw [hr]; exact ⟨(a0, c0), rfl, F.pick [0, 1] (by decide), trivial⟩)
          | (have hf : rightR most st en xs = false := by
               first
                 | (unfold rightR
                    by_cases h0 : (xs.length : Int) = 0
                    · rw [if_pos h0]; exact decide_eq_false (by omega)
                    · rw [if_neg h0, if_pos (by omega)])
                 | (rw [hpl (by omega), rightL_drop (by omega), if_pos (by omega)])
                 | (have h0 : xs.length ≠ 0 := fun h0 => by have := hp0 h0; omega
                    rw [hpl h0, List.drop_of_length_le (by omega), rightL]
                    exact decide_eq_false (by omega))
             have hr : loadR most st0 en0 bl0 st en xs = ⟨1, false, st0, en0, bl0⟩ := by unfold loadR; rw [if_neg (by omega), if_pos hf]
             rw [hr]; exact ⟨(a0, c0), rfl, F.pick [0, 1] (by decide), trivial⟩)
          | (have hf : rightR most st en xs = true := by
               by_cases h0 : xs.length = 0
               · unfold rightR
                 rw [if_pos (by omega)]
                 exact decide_eq_true (by omega)
               · rw [hpl h0, List.drop_of_length_le (by omega), rightL]
                 exact decide_eq_true (by omega)
             have hr : loadR most st0 en0 bl0 st en xs = ⟨0, true, st, en, xs⟩ := by unfold loadR; rw [if_neg (by omega), if_neg (by rw [hf]; decide)]
             rw [hr]
             exact ⟨(x2, c2), rfl, by rw [Nat.zero_add] at F; exact F.pick [0, 2] (by decide), trivial⟩)
          | (exfalso; omega)
      replace hc13 := of_decide_eq_false ((irr_eq _).symm.trans hc13)
      refine k_skip ?_
      refine SeqK.nx (by assumption) ?_
      refine k_seq (fun Q K => ?_)
      refine k_lin (fun W K => ?_)
      refine l_op 0 rfl rfl rfl rfl rfl ?_
      refine l_op 0 rfl rfl rfl rfl rfl ?_
      refine l_op 0 rfl rfl rfl rfl rfl ?_
      refine l_c64 rfl rfl rfl (by omega) rfl ?_
      refine l_op 0 rfl rfl rfl rfl rfl ?_
      refine l_c64 rfl rfl rfl (by omega) rfl ?_
      refine l_op 2 rfl rfl rfl rfl rfl ?_
      refine l_op 2 rfl rfl rfl rfl rfl ?_
      refine l_stc F 0 rfl rfl rfl rfl rfl rfl rfl rfl rfl hD (fun s F => ?_)
      (try dsimp only [n_1, n_2, n_3, n_4, List.append_nil, pk, n_5, n_6] at F)
      refine l_op 2 rfl rfl rfl rfl rfl ?_
      refine l_op 2 rfl rfl rfl rfl rfl ?_
      refine l_stc F 0 rfl rfl rfl rfl rfl rfl rfl rfl rfl hD (fun s F => ?_)
      (try dsimp only [n_1, n_2, n_3, n_4, List.append_nil, pk, n_5, n_6] at F)
      refine l_nil (WK.nx (by assumption) ?_)
      refine SeqK.nx (by assumption) ?_
      refine k_seq (fun Q K => ?_)
      refine k_lin (fun W K => ?_)
      refine l_op 0 rfl rfl rfl rfl rfl ?_
      refine l_lit (k := 2) F rfl rfl rfl rfl (fun q103 s F => ?_)
      (try dsimp only [n_1, n_2, n_3, n_4, List.append_nil, pk, n_5, n_6] at F)
      refine l_op 0 rfl rfl rfl rfl rfl ?_
      refine l_app (es := 2) (vs := []) F 2 rfl rfl rfl rfl rfl rfl rfl (F.old hl) (eB_one xs) rfl (by omega) hD (fun x2 c2 s F => ?_)
      (try dsimp only [n_1, n_2, n_3, n_4, List.append_nil, pk, n_5, n_6] at F)
      refine l_op 2 rfl rfl rfl rfl rfl ?_
      refine l_op 2 rfl rfl rfl rfl rfl ?_
      refine l_stc F 0 rfl rfl rfl rfl rfl rfl rfl rfl rfl hD (fun s F => ?_)
      (try dsimp only [n_1, n_2, n_3, n_4, List.append_nil, pk, n_5, n_6] at F)
      refine l_nil (WK.nx (by assumption) ?_)
      refine SeqK.nx (by assumption) ?_
      refine k_seq (fun Q K => ?_)
      refine k_lin (fun W K => ?_)
      refine l_op 0 rfl rfl rfl rfl rfl ?_
      refine l_nil (WK.nx (by assumption) ?_)
      refine SeqK.nx (by assumption) ?_
      refine k_ret ?_
      refine FunK.rt (by assumption) rfl ?_
      -- leaf 11
      first
        | (have hr : loadR most st0 en0 bl0 st en xs = ⟨4, false, st0, en0, bl0⟩ := if_pos (by omega)
           rw [hr]; exact ⟨(a0, c0), rfl, F.pick [0, 1] (by decide), trivial⟩)
        | (have hf : rightR most st en xs = false := by
             first
               | (unfold rightR
                  by_cases h0 : (xs.length : Int) = 0
                  · rw [if_pos h0]; exact decide_eq_false (by omega)
                  · rw [if_neg h0, if_pos (by omega)])
               | (rw [hpl (by omega), rightL_drop (by omega), if_pos (by omega)])
               | (have h0 : xs.length ≠ 0 := fun h0 => by have := hp0 h0; omega
                  rw [hpl h0, List.drop_of_length_le (by omega), rightL]
                  exact decide_eq_false (by omega))
           have hr : loadR most st0 en0 bl0 st en xs = ⟨1, false, st0, en0, bl0⟩ := by unfold loadR; rw [if_neg (by omega), if_pos hf]
           rw [hr]; exact ⟨(a0, c0), rfl, F.pick [0, 1] (by decide), trivial⟩)
        | (have hf : rightR most st en xs = true := by
             by_cases h0 : xs.length = 0
             · unfold rightR
               rw [if_pos (by omega)]
               exact decide_eq_true (by omega)
             · rw [hpl h0, List.drop_of_length_le (by omega), rightL]
               exact decide_eq_true (by omega)
           have hr : loadR most st0 en0 bl0 st en xs = ⟨0, true, st, en, xs⟩ := by unfold loadR; rw [if_neg (by omega), if_neg (by rw [hf]; decide)]
           rw [hr]
           exact ⟨(x2, c2), rfl, by rw [Nat.zero_add] at F; exact F.pick [0, 2] (by decide), trivial⟩)
        | (exfalso; omega)
    replace hc5 := of_decide_eq_false ((irr_eq _).symm.trans hc5)
    refine l_s rfl rfl ?_
    refine l_s rfl rfl ?_
    refine l_s rfl rfl ?_
    refine l_s rfl rfl ?_
    refine l_s rfl rfl ?_
    refine l_s rfl rfl ?_
    refine l_s rfl rfl ?_
    refine l_s rfl rfl ?_
    refine l_s rfl rfl ?_
    refine l_s rfl rfl ?_
    refine l_s rfl rfl ?_
    refine l_s rfl rfl ?_
    refine l_s rfl rfl ?_
    refine l_s rfl rfl ?_
    refine l_s rfl rfl ?_
    refine l_s rfl rfl ?_
    refine l_s rfl rfl ?_
    refine l_s rfl rfl ?_
    refine l_s rfl rfl ?_
    refine l_s rfl rfl ?_
    refine l_s rfl rfl ?_
    refine l_op 2 rfl rfl rfl rfl rfl ?_
    refine l_nil (WK.nx (by assumption) ?_)
    refine SeqK.nx (by assumption) ?_
    first | refine e_cond_f rfl rfl rfl ?_ | refine e_cond_f rfl rfl (by rw [irr_eq]; first | exact beq_eq_false_iff_ne.2 (by assumption) | exact decide_eq_false (by assumption) | exact bne_eq_false_iff_eq.2 (by assumption)) ?_
    refine k_skip ?_
    refine SeqK.nx (by assumption) ?_
    refine k_seq (fun Q K => ?_)
    refine k_lin (fun W K => ?_)
    refine l_op 0 rfl rfl rfl rfl rfl ?_
    refine l_c64 rfl rfl rfl (by omega) rfl ?_
    refine l_op 0 rfl rfl rfl rfl rfl ?_
    refine l_nil (WK.nx (by assumption) ?_)
    refine SeqK.nx (by assumption) ?_
    refine k_seq (fun Q K => ?_)
    refine k_seq (fun Q K => ?_)
    refine k_lin (fun W K => ?_)
    refine l_op 0 rfl rfl rfl rfl rfl ?_
    refine l_nil (WK.nx (by assumption) ?_)
    refine SeqK.nx (by assumption) ?_
    refine k_block (fun Q K => ?_)
    have hR0 : rightR most st en xs = if (xs.length : Int) = 0 then decide (st = 0 ∧ en = 0) else rightL en st xs := by
      unfold rightR
      by_cases h0 : (xs.length : Int) = 0
      · rw [if_pos h0, if_pos h0]
      · rw [if_neg h0, if_neg h0, if_neg (by omega)]
    refine k_loop (α := Int × Int) (fun ⟨i, p⟩ s => Facts O σ s (rF m a0 c0 most st0 en0 bl0) ∧ 0 ≤ i ∧ i ≤ xs.length ∧ 0 ≤ p ∧ p ≤ 8589934590 ∧ (xs.length = 0 → p = st) ∧ (xs.length ≠ 0 → rightR most st en xs = rightL en p (xs.drop i.toNat))) (fun ⟨i, p⟩ => [(0, .pointer (some ⟨m, 0, none⟩)), (1, .int .u32 st), (2, .int .u32 en), (3, .slice a xs.length c), (9, .int .i64 p), (10, .int .i64 i)]) (fun ⟨i, _⟩ => (xs.length - i).toNat) (0, st) ⟨F, by omega, by omega, by omega, by omega, fun _ => rfl, fun h => by rw [hR0, if_neg (by omega)]; rfl⟩ (by repeat (first | exact trivial | refine And.intro rfl ?_)) ?_
    clear F
    rintro ⟨i, p⟩ env s Q K0 ⟨F, i0, i1, p0, p1, hp0, hpl⟩
    obtain ⟨⟨b0, b1⟩, ⟨b2, b3⟩⟩ := hB.at i.toNat
    refine k_seq (fun Q K => ?_)
    refine k_seq (fun Q K => ?_)
    refine k_lin (fun W K => ?_)
    refine l_op 0 rfl rfl rfl rfl rfl ?_
    refine l_op 0 rfl rfl rfl rfl rfl ?_
    first | refine l_op 2 rfl rfl rfl rfl rfl ?_ | refine l_ln rfl rfl rfl rfl ?_
    refine l_cmp rfl rfl rfl rfl ?_
    refine l_nil (WK.nx (by assumption) ?_)
    refine SeqK.nx (by assumption) ?_
    refine l_cond rfl rfl (fun hc14 => ?_) (fun hc14 => ?_)
    · replace hc14 := of_decide_eq_true ((irr_eq _).symm.trans hc14)
      refine k_skip ?_
      refine SeqK.nx (by assumption) ?_
      refine k_seq (fun Q K => ?_)
      refine k_block (fun Q K => ?_)
      refine k_seq (fun Q K => ?_)
      refine k_seq (fun Q K => ?_)
      refine k_lin (fun W K => ?_)
      refine l_op 0 rfl rfl rfl rfl rfl ?_
      refine l_op 0 rfl rfl rfl rfl rfl ?_
      refine l_ixr (e := eB) rfl rfl rfl rfl rfl rfl (F.old hl) ⟨eB_len, by decide⟩ (by omega) (fun m61 b61 hA61 => ?_)
      refine l_op 2 rfl rfl rfl rfl rfl ?_
      refine l_ldj rfl rfl rfl rfl rfl rfl (by assumption) rfl ?_
      refine l_cmp rfl rfl rfl rfl ?_
      refine l_op 0 rfl rfl rfl rfl rfl ?_
      refine l_guard rfl rfl rfl (fun hc15 => ?_) (fun hc15 => ?_)
      · first | replace hc15 := eq_of_beq ((irr_eq _).symm.trans hc15) | simp only [irr_eq, beq_iff_eq, beq_eq_false_iff_ne, ne_eq, decide_eq_true_eq, decide_eq_false_iff_not] at hc15
        refine l_s rfl rfl ?_
        refine l_s rfl rfl ?_
        refine l_s rfl rfl ?_
        refine l_s rfl rfl ?_
        refine l_s rfl rfl ?_
        refine l_s rfl rfl ?_
        refine l_s rfl rfl ?_
        refine l_s rfl rfl ?_
        refine l_op 2 rfl rfl rfl rfl rfl ?_
        refine l_nil (WK.nx (by assumption) ?_)
        refine SeqK.nx (by assumption) ?_
        first | refine e_cond_t rfl rfl rfl ?_ | refine e_cond_t rfl rfl (by rw [irr_eq]; first | exact beq_iff_eq.2 (by assumption) | exact decide_eq_true (by assumption) | exact bne_iff_ne.2 (by assumption)) ?_
        refine k_seq (fun Q K => ?_)
        refine k_lin (fun W K => ?_)
        refine l_op 0 rfl rfl rfl rfl rfl ?_
        refine l_nil (WK.nx (by assumption) ?_)
        refine SeqK.nx (by assumption) ?_
        refine k_ret ?_
        refine SeqK.rt (by assumption) ?_
        refine BlkK.rt (by assumption) ?_
        refine SeqK.rt (by assumption) ?_
        refine LoopK.rt (by assumption) ?_
        refine BlkK.rt (by assumption) ?_
        refine SeqK.rt (by assumption) ?_
        refine FunK.rt (by assumption) rfl ?_
        -- leaf 12
        first
          | (have hr : loadR most st0 en0 bl0 st en xs = ⟨4, false, st0, en0, bl0⟩ := if_pos (by omega)
             rw [hr]; exact ⟨(a0, c0), rfl, F.pick [0, 1] (by decide), trivial⟩)
          | (have hf : rightR most st en xs = false := by
               first
                 | (unfold rightR
                    by_cases h0 : (xs.length : Int) = 0
                    · rw [if_pos h0]; exact decide_eq_false (by omega)
                    · rw [if_neg h0, if_pos (by omega)])
                 | (rw [hpl (by omega), rightL_drop (by omega), if_pos (by omega)])
                 | (have h0 : xs.length ≠ 0 := fun h0 => by have := hp0 h0; omega
                    rw [hpl h0, List.drop_of_length_le (by omega), rightL]
                    exact decide_eq_false (by omega))
             have hr : loadR most st0 en0 bl0 st en xs = ⟨1, false, st0, en0, bl0⟩ := by unfold loadR; rw [if_neg (by omega), if_pos hf]
             rw [hr]; exact ⟨(a0, c0), rfl, F.pick [0, 1] (by decide), trivial⟩)
          | (have hf : rightR most st en xs = true := by
               by_cases h0 : xs.length = 0
               · unfold rightR
                 rw [if_pos (by omega)]
                 exact decide_eq_true (by omega)
               · rw [hpl h0, List.drop_of_length_le (by omega), rightL]
                 exact decide_eq_true (by omega)
             have hr : loadR most st0 en0 bl0 st en xs = ⟨0, true, st, en, xs⟩ := by unfold loadR; rw [if_neg (by omega), if_neg (by rw [hf]; decide)]
             rw [hr]
             exact ⟨(x2, c2), rfl, by rw [Nat.zero_add] at F; exact F.pick [0, 2] (by decide), trivial⟩)
          | (exfalso; omega)
      first | replace hc15 := ne_of_beq_false ((irr_eq _).symm.trans hc15) | simp only [irr_eq, beq_iff_eq, beq_eq_false_iff_ne, ne_eq, decide_eq_true_eq, decide_eq_false_iff_not] at hc15
      refine l_op 0 rfl rfl rfl rfl rfl ?_
      refine l_op 0 rfl rfl rfl rfl rfl ?_
      refine l_ixr (e := eB) rfl rfl rfl rfl rfl rfl (F.old hl) ⟨eB_len, by decide⟩ (by omega) (fun m68 b68 hA68 => ?_)
      refine l_op 2 rfl rfl rfl rfl rfl ?_
      refine l_ld0 rfl rfl rfl rfl rfl (by assumption) ?_
      refine l_c64 rfl rfl rfl (by omega) rfl ?_
      refine l_op 0 rfl rfl rfl rfl rfl ?_
      refine l_cmp rfl rfl rfl rfl ?_
      refine l_op 2 rfl rfl rfl rfl rfl ?_
      refine l_nil (WK.nx (by assumption) ?_)
      refine SeqK.nx (by assumption) ?_
      refine l_cond rfl rfl (fun hc16 => ?_) (fun hc16 => ?_)
      · replace hc16 := of_decide_eq_true ((irr_eq _).symm.trans hc16)
        refine k_seq (fun Q K => ?_)
        refine k_lin (fun W K => ?_)
        refine l_op 0 rfl rfl rfl rfl rfl ?_
        refine l_nil (WK.nx (by assumption) ?_)
        refine SeqK.nx (by assumption) ?_
        refine k_ret ?_
        refine SeqK.rt (by assumption) ?_
        refine BlkK.rt (by assumption) ?_
        refine SeqK.rt (by assumption) ?_
        refine LoopK.rt (by assumption) ?_
        refine BlkK.rt (by assumption) ?_
        refine SeqK.rt (by assumption) ?_
        refine FunK.rt (by assumption) rfl ?_
        -- leaf 13
        first
          | (have hr : loadR most st0 en0 bl0 st en xs = ⟨4, false, st0, en0, bl0⟩ := if_pos (by omega)
             rw [hr]; exact ⟨(a0, c0), rfl, F.pick [0, 1] (by decide), trivial⟩)
          | (have hf : rightR most st en xs = false := by
               first
                 | (unfold rightR
                    by_cases h0 : (xs.length : Int) = 0
                    · rw [if_pos h0]; exact decide_eq_false (by omega)
                    · rw [if_neg h0, if_pos (by omega)])
                 | (rw [hpl (by omega), rightL_drop (by omega), if_pos (by omega)])
                 | (have h0 : xs.length ≠ 0 := fun h0 => by have := hp0 h0; omega
                    rw [hpl h0, List.drop_of_length_le (by omega), rightL]
                    exact decide_eq_false (by omega))
             have hr : loadR most st0 en0 bl0 st en xs = ⟨1, false, st0, en0, bl0⟩ := by unfold loadR; rw [if_neg (by omega), if_pos hf]
             rw [hr]; exact ⟨(a0, c0), rfl, F.pick [0, 1] (by decide), trivial⟩)
          | (have hf : rightR most st en xs = true := by
               by_cases h0 : xs.length = 0
               · unfold rightR
                 rw [if_pos (by omega)]
                 exact decide_eq_true (by omega)
               · rw [hpl h0, List.drop_of_length_le (by omega), rightL]
                 exact decide_eq_true (by omega)
             have hr : loadR most st0 en0 bl0 st en xs = ⟨0, true, st, en, xs⟩ := by unfold loadR; rw [if_neg (by omega), if_neg (by rw [hf]; decide)]
             rw [hr]
             exact ⟨(x2, c2), rfl, by rw [Nat.zero_add] at F; exact F.pick [0, 2] (by decide), trivial⟩)
          | (exfalso; omega)
      replace hc16 := of_decide_eq_false ((irr_eq _).symm.trans hc16)
      refine k_skip ?_
      refine SeqK.nx (by assumption) ?_
      refine k_linm [0, 1, 2, 3, 6, 7, 8, 9, 4, 5, 10, 11, 12, 13] mixed (by kernel_rfl) (fun W K => ?_)
      try have hpS := F.pns
      refine l_op 0 rfl rfl rfl rfl rfl ?_
      refine l_op 0 rfl rfl rfl rfl rfl ?_
      refine l_ixr (e := eB) rfl rfl rfl rfl rfl rfl (F.old hl) ⟨eB_len, by decide⟩ (by omega) (fun m77 b77 hA77 => ?_)
      refine l_op 2 rfl rfl rfl rfl rfl ?_
      refine l_op 0 rfl rfl rfl rfl rfl ?_
      refine l_op 0 rfl rfl rfl rfl rfl ?_
      refine l_ixr (e := eB) rfl rfl rfl rfl rfl rfl (F.old hl) ⟨eB_len, by decide⟩ (by omega) (fun m83 b83 hA83 => ?_)
      refine l_op 2 rfl rfl rfl rfl rfl ?_
      refine l_ld0 rfl rfl rfl rfl rfl (by assumption) ?_
      first | have hpS := PnS.add hpS hS77 | have hpS := PnS.add hpS (OldC.sf (by assumption)) | skip
      refine l_c64 rfl rfl rfl (by omega) rfl ?_
      refine l_ldj rfl rfl rfl rfl rfl rfl (by assumption) rfl ?_
      first | have hpS := PnS.add hpS hS83 | have hpS := PnS.add hpS (OldC.sf (by assumption)) | skip
      refine l_c64 rfl rfl rfl (by omega) rfl ?_
      refine l_a64 rfl rfl rfl (by omega) rfl ?_
      refine l_op 0 rfl rfl rfl rfl rfl ?_
      refine l_nil (WK.nx (by assumption) ?_)
      refine BlkK.nx (by assumption) ?_
      refine SeqK.nx (by assumption) ?_
      refine k_lin (fun W K => ?_)
      refine l_op 0 rfl rfl rfl rfl rfl ?_
      refine l_a64 rfl rfl rfl (by omega) rfl ?_
      refine l_op 0 rfl rfl rfl rfl rfl ?_
      refine l_nil (WK.nx (by assumption) ?_)
      have e1 : (i + 1).toNat = i.toNat + 1 := by omega
      exact K0.nx (i + 1, _) (by repeat (first | exact trivial | refine And.intro rfl ?_)) ⟨F.pick [0, 1] (by decide), by omega, by omega, by omega, by omega, fun h => by omega, fun h => by
        have h2 := hpl h
        rw [rightL_drop (by omega), if_neg (by omega)] at h2
        rw [h2, e1]⟩ (by first | omega | (simp only; omega))
    replace hc14 := of_decide_eq_false ((irr_eq _).symm.trans hc14)
    refine k_exit ?_
    refine SeqK.et (by assumption) ?_
    refine LoopK.et (by assumption) ?_
    refine BlkK.et (by assumption) ?_
    refine SeqK.nx (by assumption) ?_
    refine k_seq (fun Q K => ?_)
    refine k_seq (fun Q K => ?_)
    refine k_lin (fun W K => ?_)
    refine l_op 0 rfl rfl rfl rfl rfl ?_
    refine l_op 0 rfl rfl rfl rfl rfl ?_
    refine l_c64 rfl rfl rfl (by omega) rfl ?_
    refine l_cmp rfl rfl rfl rfl ?_
    refine l_nil (WK.nx (by assumption) ?_)
    refine SeqK.nx (by assumption) ?_
    refine l_cond rfl rfl (fun hc17 => ?_) (fun hc17 => ?_)
    · replace hc17 := of_decide_eq_true ((irr_eq _).symm.trans hc17)
      refine k_seq (fun Q K => ?_)
      refine k_lin (fun W K => ?_)
      refine l_op 0 rfl rfl rfl rfl rfl ?_
      refine l_nil (WK.nx (by assumption) ?_)
      refine SeqK.nx (by assumption) ?_
      refine k_ret ?_
      refine SeqK.rt (by assumption) ?_
      refine FunK.rt (by assumption) rfl ?_
      -- leaf 14
      first
        | (have hr : loadR most st0 en0 bl0 st en xs = ⟨4, false, st0, en0, bl0⟩ := if_pos (by omega)
           rw [hr]; exact ⟨(a0, c0), rfl, F.pick [0, 1] (by decide), trivial⟩)
        | (have hf : rightR most st en xs = false := by
             first
               | (unfold rightR
                  by_cases h0 : (xs.length : Int) = 0
                  · rw [if_pos h0]; exact decide_eq_false (by omega)
                  · rw [if_neg h0, if_pos (by omega)])
               | (rw [hpl (by omega), rightL_drop (by omega), if_pos (by omega)])
               | (have h0 : xs.length ≠ 0 := fun h0 => by have := hp0 h0; omega
                  rw [hpl h0, List.drop_of_length_le (by omega), rightL]
                  exact decide_eq_false (by omega))
           have hr : loadR most st0 en0 bl0 st en xs = ⟨1, false, st0, en0, bl0⟩ := by unfold loadR; rw [if_neg (by omega), if_pos hf]
           rw [hr]; exact ⟨(a0, c0), rfl, F.pick [0, 1] (by decide), trivial⟩)
        | (have hf : rightR most st en xs = true := by
             by_cases h0 : xs.length = 0
             · unfold rightR
               rw [if_pos (by omega)]
               exact decide_eq_true (by omega)
             · rw [hpl h0, List.drop_of_length_le (by omega), rightL]
               exact decide_eq_true (by omega)
           have hr : loadR most st0 en0 bl0 st en xs = ⟨0, true, st, en, xs⟩ := by unfold loadR; rw [if_neg (by omega), if_neg (by rw [hf]; decide)]
           rw [hr]
           exact ⟨(x2, c2), rfl, by rw [Nat.zero_add] at F; exact F.pick [0, 2] (by decide), trivial⟩)
        | (exfalso; omega)
    replace hc17 := of_decide_eq_false ((irr_eq _).symm.trans hc17)
    refine k_skip ?_
    refine SeqK.nx (by assumption) ?_
    refine k_seq (fun Q K => ?_)
    refine k_lin (fun W K => ?_)
    refine l_op 0 rfl rfl rfl rfl rfl ?_
    refine l_op 0 rfl rfl rfl rfl rfl ?_
    refine l_op 0 rfl rfl rfl rfl rfl ?_
    refine l_c64 rfl rfl rfl (by omega) rfl ?_
    refine l_op 0 rfl rfl rfl rfl rfl ?_
    refine l_c64 rfl rfl rfl (by omega) rfl ?_
    refine l_op 2 rfl rfl rfl rfl rfl ?_
    refine l_op 2 rfl rfl rfl rfl rfl ?_
    refine l_stc F 0 rfl rfl rfl rfl rfl rfl rfl rfl rfl hD (fun s F => ?_)
    (try dsimp only [n_1, n_2, n_3, n_4, List.append_nil, pk, n_5, n_6] at F)
    refine l_op 2 rfl rfl rfl rfl rfl ?_
    refine l_op 2 rfl rfl rfl rfl rfl ?_
    refine l_stc F 0 rfl rfl rfl rfl rfl rfl rfl rfl rfl hD (fun s F => ?_)
    (try dsimp only [n_1, n_2, n_3, n_4, List.append_nil, pk, n_5, n_6] at F)
    refine l_nil (WK.nx (by assumption) ?_)
    refine SeqK.nx (by assumption) ?_
    refine k_seq (fun Q K => ?_)
    refine k_lin (fun W K => ?_)
    refine l_op 0 rfl rfl rfl rfl rfl ?_
    refine l_lit (k := 2) F rfl rfl rfl rfl (fun q103 s F => ?_)
    (try dsimp only [n_1, n_2, n_3, n_4, List.append_nil, pk, n_5, n_6] at F)
    refine l_op 0 rfl rfl rfl rfl rfl ?_
    refine l_app (es := 2) (vs := []) F 2 rfl rfl rfl rfl rfl rfl rfl (F.old hl) (eB_one xs) rfl (by omega) hD (fun x2 c2 s F => ?_)
    (try dsimp only [n_1, n_2, n_3, n_4, List.append_nil, pk, n_5, n_6] at F)
    refine l_op 2 rfl rfl rfl rfl rfl ?_
    refine l_op 2 rfl rfl rfl rfl rfl ?_
    refine l_stc F 0 rfl rfl rfl rfl rfl rfl rfl rfl rfl hD (fun s F => ?_)
    (try dsimp only [n_1, n_2, n_3, n_4, List.append_nil, pk, n_5, n_6] at F)
    refine l_nil (WK.nx (by assumption) ?_)
    refine SeqK.nx (by assumption) ?_
    refine k_seq (fun Q K => ?_)
    refine k_lin (fun W K => ?_)
    refine l_op 0 rfl rfl rfl rfl rfl ?_
    refine l_nil (WK.nx (by assumption) ?_)
    refine SeqK.nx (by assumption) ?_
    refine k_ret ?_
    refine FunK.rt (by assumption) rfl ?_
    -- leaf 15
    first
      | (have hr : loadR most st0 en0 bl0 st en xs = ⟨4, false, st0, en0, bl0⟩ := if_pos (by omega)
         rw [hr]; exact ⟨(a0, c0), rfl, F.pick [0, 1] (by decide), trivial⟩)
      | (have hf : rightR most st en xs = false := by
           first
             | (unfold rightR
                by_cases h0 : (xs.length : Int) = 0
                · rw [if_pos h0]; exact decide_eq_false (by omega)
                · rw [if_neg h0, if_pos (by omega)])
             | (rw [hpl (by omega), rightL_drop (by omega), if_pos (by omega)])
             | (have h0 : xs.length ≠ 0 := fun h0 => by have := hp0 h0; omega
                rw [hpl h0, List.drop_of_length_le (by omega), rightL]
                exact decide_eq_false (by omega))
         have hr : loadR most st0 en0 bl0 st en xs = ⟨1, false, st0, en0, bl0⟩ := by unfold loadR; rw [if_neg (by omega), if_pos hf]
         rw [hr]; exact ⟨(a0, c0), rfl, F.pick [0, 1] (by decide), trivial⟩)
      | (have hf : rightR most st en xs = true := by
           by_cases h0 : xs.length = 0
           · unfold rightR
             rw [if_pos (by omega)]
             exact decide_eq_true (by omega)
           · rw [hpl h0, List.drop_of_length_le (by omega), rightL]
             exact decide_eq_true (by omega)
         have hr : loadR most st0 en0 bl0 st en xs = ⟨0, true, st, en, xs⟩ := by unfold loadR; rw [if_neg (by omega), if_neg (by rw [hf]; decide)]
         rw [hr]
         exact ⟨(x2, c2), rfl, by rw [Nat.zero_add] at F; exact F.pick [0, 2] (by decide), trivial⟩)
      | (exfalso; omega)
  first | replace hc2 := ne_of_beq_false ((irr_eq _).symm.trans hc2) | simp only [irr_eq, beq_iff_eq, beq_eq_false_iff_ne, ne_eq, decide_eq_true_eq, decide_eq_false_iff_not] at hc2
  refine l_s rfl rfl ?_
  refine l_s rfl rfl ?_
  refine l_s rfl rfl ?_
  refine l_s rfl rfl ?_
  refine l_s rfl rfl ?_
  refine l_s rfl rfl ?_
  refine l_op 2 rfl rfl rfl rfl rfl ?_
  refine l_nil (WK.nx (by assumption) ?_)
  refine SeqK.nx (by assumption) ?_
  first | refine e_cond_f rfl rfl rfl ?_ | refine e_cond_f rfl rfl (by rw [irr_eq]; first | exact beq_eq_false_iff_ne.2 (by assumption) | exact decide_eq_false (by assumption) | exact bne_eq_false_iff_eq.2 (by assumption)) ?_
  refine k_skip ?_
  refine SeqK.nx (by assumption) ?_
  refine k_seq (fun Q K => ?_)
  refine k_seq (fun Q K => ?_)
  refine k_lin (fun W K => ?_)
  refine l_op 0 rfl rfl rfl rfl rfl ?_
  first | refine l_op 2 rfl rfl rfl rfl rfl ?_ | refine l_ln rfl rfl rfl rfl ?_
  refine l_cmp rfl rfl rfl rfl ?_
  refine l_op 0 rfl rfl rfl rfl rfl ?_
  refine l_guard rfl rfl rfl (fun hc18 => ?_) (fun hc18 => ?_)
  · replace hc18 := of_decide_eq_true ((irr_eq _).symm.trans hc18)
    refine l_op 0 rfl rfl rfl rfl rfl ?_
    refine l_cmp rfl rfl rfl rfl ?_
    refine l_op 0 rfl rfl rfl rfl rfl ?_
    refine l_guard rfl rfl rfl (fun hc19 => ?_) (fun hc19 => ?_)
    · first | replace hc19 := eq_of_beq ((irr_eq _).symm.trans hc19) | simp only [irr_eq, beq_iff_eq, beq_eq_false_iff_ne, ne_eq, decide_eq_true_eq, decide_eq_false_iff_not] at hc19
      refine l_s rfl rfl ?_
      refine l_s rfl rfl ?_
      refine l_s rfl rfl ?_
      refine l_op 2 rfl rfl rfl rfl rfl ?_
      refine l_op 0 rfl rfl rfl rfl rfl ?_
      refine l_s rfl rfl ?_
      refine l_s rfl rfl ?_
      refine l_s rfl rfl ?_
      refine l_op 2 rfl rfl rfl rfl rfl ?_
      refine l_op 0 rfl rfl rfl rfl rfl ?_
      refine l_s rfl rfl ?_
      refine l_s rfl rfl ?_
      refine l_s rfl rfl ?_
      refine l_s rfl rfl ?_
      refine l_s rfl rfl ?_
      refine l_s rfl rfl ?_
      refine l_s rfl rfl ?_
      refine l_op 2 rfl rfl rfl rfl rfl ?_
      refine l_op 2 rfl rfl rfl rfl rfl ?_
      refine l_nil (WK.nx (by assumption) ?_)
      refine SeqK.nx (by assumption) ?_
      first | refine e_cond_t rfl rfl rfl ?_ | refine e_cond_t rfl rfl (by rw [irr_eq]; first | exact beq_iff_eq.2 (by assumption) | exact decide_eq_true (by assumption) | exact bne_iff_ne.2 (by assumption)) ?_
      refine k_seq (fun Q K => ?_)
      refine k_lin (fun W K => ?_)
      refine l_op 0 rfl rfl rfl rfl rfl ?_
      refine l_nil (WK.nx (by assumption) ?_)
      refine SeqK.nx (by assumption) ?_
      refine k_ret ?_
      refine SeqK.rt (by assumption) ?_
      refine FunK.rt (by assumption) rfl ?_
      -- leaf 16
      first
        | (have hr : loadR most st0 en0 bl0 st en xs = ⟨4, false, st0, en0, bl0⟩ := if_pos (by omega)
           rw [hr]; exact ⟨(a0, c0), rfl, F.pick [0, 1] (by decide), trivial⟩)
        | (have hf : rightR most st en xs = false := by
             first
               | (unfold rightR
                  by_cases h0 : (xs.length : Int) = 0
                  · rw [if_pos h0]; exact decide_eq_false (by omega)
                  · rw [if_neg h0, if_pos (by omega)])
               | (rw [hpl (by omega), rightL_drop (by omega), if_pos (by omega)])
               | (have h0 : xs.length ≠ 0 := fun h0 => by have := hp0 h0; omega
                  rw [hpl h0, List.drop_of_length_le (by omega), rightL]
                  exact decide_eq_false (by omega))
           have hr : loadR most st0 en0 bl0 st en xs = ⟨1, false, st0, en0, bl0⟩ := by unfold loadR; rw [if_neg (by omega), if_pos hf]
           rw [hr]; exact ⟨(a0, c0), rfl, F.pick [0, 1] (by decide), trivial⟩)
        | (have hf : rightR most st en xs = true := by
             by_cases h0 : xs.length = 0
             · unfold rightR
               rw [if_pos (by omega)]
               exact decide_eq_true (by omega)
             · rw [hpl h0, List.drop_of_length_le (by omega), rightL]
               exact decide_eq_true (by omega)
           have hr : loadR most st0 en0 bl0 st en xs = ⟨0, true, st, en, xs⟩ := by unfold loadR; rw [if_neg (by omega), if_neg (by rw [hf]; decide)]
           rw [hr]
           exact ⟨(x2, c2), rfl, by rw [Nat.zero_add] at F; exact F.pick [0, 2] (by decide), trivial⟩)
        | (exfalso; omega)
    first | replace hc19 := ne_of_beq_false ((irr_eq _).symm.trans hc19) | simp only [irr_eq, beq_iff_eq, beq_eq_false_iff_ne, ne_eq, decide_eq_true_eq, decide_eq_false_iff_not] at hc19
    refine l_op 0 rfl rfl rfl rfl rfl ?_
    first | refine l_remn rfl rfl rfl rfl rfl (by omega) rfl ?_ | refine l_rem rfl rfl rfl rfl rfl (by omega) rfl ?_
    refine l_cmp rfl rfl rfl rfl ?_
    refine l_op 2 rfl rfl rfl rfl rfl ?_
    refine l_op 0 rfl rfl rfl rfl rfl ?_
    refine l_guard rfl rfl rfl (fun hc20 => ?_) (fun hc20 => ?_)
    · first | replace hc20 := bne_iff_ne.1 ((irr_eq _).symm.trans hc20) | simp only [irr_eq, bne_iff_ne, bne_eq_false_iff_eq, ne_eq, decide_eq_true_eq, decide_eq_false_iff_not, Bool.not_eq_true', Bool.not_eq_false'] at hc20
      refine l_s rfl rfl ?_
      refine l_s rfl rfl ?_
      refine l_s rfl rfl ?_
      refine l_op 2 rfl rfl rfl rfl rfl ?_
      refine l_op 0 rfl rfl rfl rfl rfl ?_
      refine l_s rfl rfl ?_
      refine l_s rfl rfl ?_
      refine l_s rfl rfl ?_
      refine l_s rfl rfl ?_
      refine l_s rfl rfl ?_
      refine l_s rfl rfl ?_
      refine l_s rfl rfl ?_
      refine l_op 2 rfl rfl rfl rfl rfl ?_
      refine l_op 2 rfl rfl rfl rfl rfl ?_
      refine l_nil (WK.nx (by assumption) ?_)
      refine SeqK.nx (by assumption) ?_
      first | refine e_cond_t rfl rfl rfl ?_ | refine e_cond_t rfl rfl (by rw [irr_eq]; first | exact beq_iff_eq.2 (by assumption) | exact decide_eq_true (by assumption) | exact bne_iff_ne.2 (by assumption)) ?_
      refine k_seq (fun Q K => ?_)
      refine k_lin (fun W K => ?_)
      refine l_op 0 rfl rfl rfl rfl rfl ?_
      refine l_nil (WK.nx (by assumption) ?_)
      refine SeqK.nx (by assumption) ?_
      refine k_ret ?_
      refine SeqK.rt (by assumption) ?_
      refine FunK.rt (by assumption) rfl ?_
      -- leaf 17
      first
        | (have hr : loadR most st0 en0 bl0 st en xs = ⟨4, false, st0, en0, bl0⟩ := if_pos (by omega)
           rw [hr]; exact ⟨(a0, c0), rfl, F.pick [0, 1] (by decide), trivial⟩)
        | (have hf : rightR most st en xs = false := by
             first
               | (unfold rightR
                  by_cases h0 : (xs.length : Int) = 0
                  · rw [if_pos h0]; exact decide_eq_false (by omega)
                  · rw [if_neg h0, if_pos (by omega)])
               | (rw [hpl (by omega), rightL_drop (by omega), if_pos (by omega)])
               | (have h0 : xs.length ≠ 0 := fun h0 => by have := hp0 h0; omega
                  rw [hpl h0, List.drop_of_length_le (by omega), rightL]
                  exact decide_eq_false (by omega))
           have hr : loadR most st0 en0 bl0 st en xs = ⟨1, false, st0, en0, bl0⟩ := by unfold loadR; rw [if_neg (by omega), if_pos hf]
           rw [hr]; exact ⟨(a0, c0), rfl, F.pick [0, 1] (by decide), trivial⟩)
        | (have hf : rightR most st en xs = true := by
             by_cases h0 : xs.length = 0
             · unfold rightR
               rw [if_pos (by omega)]
               exact decide_eq_true (by omega)
             · rw [hpl h0, List.drop_of_length_le (by omega), rightL]
               exact decide_eq_true (by omega)
           have hr : loadR most st0 en0 bl0 st en xs = ⟨0, true, st, en, xs⟩ := by unfold loadR; rw [if_neg (by omega), if_neg (by rw [hf]; decide)]
           rw [hr]
           exact ⟨(x2, c2), rfl, by rw [Nat.zero_add] at F; exact F.pick [0, 2] (by decide), trivial⟩)
        | (exfalso; omega)
    first | replace hc20 := bne_eq_false_iff_eq.1 ((irr_eq _).symm.trans hc20) | simp only [irr_eq, bne_iff_ne, bne_eq_false_iff_eq, ne_eq, decide_eq_true_eq, decide_eq_false_iff_not, Bool.not_eq_true', Bool.not_eq_false'] at hc20
    refine l_op 0 rfl rfl rfl rfl rfl ?_
    first | refine l_remn rfl rfl rfl rfl rfl (by omega) rfl ?_ | refine l_rem rfl rfl rfl rfl rfl (by omega) rfl ?_
    refine l_cmp rfl rfl rfl rfl ?_
    refine l_op 2 rfl rfl rfl rfl rfl ?_
    refine l_op 0 rfl rfl rfl rfl rfl ?_
    refine l_guard rfl rfl rfl (fun hc21 => ?_) (fun hc21 => ?_)
    · first | replace hc21 := bne_iff_ne.1 ((irr_eq _).symm.trans hc21) | simp only [irr_eq, bne_iff_ne, bne_eq_false_iff_eq, ne_eq, decide_eq_true_eq, decide_eq_false_iff_not, Bool.not_eq_true', Bool.not_eq_false'] at hc21
      refine l_s rfl rfl ?_
      refine l_s rfl rfl ?_
      refine l_s rfl rfl ?_
      refine l_s rfl rfl ?_
      refine l_s rfl rfl ?_
      refine l_s rfl rfl ?_
      refine l_s rfl rfl ?_
      refine l_op 2 rfl rfl rfl rfl rfl ?_
      refine l_op 2 rfl rfl rfl rfl rfl ?_
      refine l_nil (WK.nx (by assumption) ?_)
      refine SeqK.nx (by assumption) ?_
      first | refine e_cond_t rfl rfl rfl ?_ | refine e_cond_t rfl rfl (by rw [irr_eq]; first | exact beq_iff_eq.2 (by assumption) | exact decide_eq_true (by assumption) | exact bne_iff_ne.2 (by assumption)) ?_
      refine k_seq (fun Q K => ?_)
      refine k_lin (fun W K => ?_)
      refine l_op 0 rfl rfl rfl rfl rfl ?_
      refine l_nil (WK.nx (by assumption) ?_)
      refine SeqK.nx (by assumption) ?_
      refine k_ret ?_
      refine SeqK.rt (by assumption) ?_
      refine FunK.rt (by assumption) rfl ?_
      -- leaf 18
      first
        | (have hr : loadR most st0 en0 bl0 st en xs = ⟨4, false, st0, en0, bl0⟩ := if_pos (by omega)
           rw [hr]; exact ⟨(a0, c0), rfl, F.pick [0, 1] (by decide), trivial⟩)
        | (have hf : rightR most st en xs = false := by
             first
               | (unfold rightR
                  by_cases h0 : (xs.length : Int) = 0
                  · rw [if_pos h0]; exact decide_eq_false (by omega)
                  · rw [if_neg h0, if_pos (by omega)])
               | (rw [hpl (by omega), rightL_drop (by omega), if_pos (by omega)])
               | (have h0 : xs.length ≠ 0 := fun h0 => by have := hp0 h0; omega
                  rw [hpl h0, List.drop_of_length_le (by omega), rightL]
                  exact decide_eq_false (by omega))
           have hr : loadR most st0 en0 bl0 st en xs = ⟨1, false, st0, en0, bl0⟩ := by unfold loadR; rw [if_neg (by omega), if_pos hf]
           rw [hr]; exact ⟨(a0, c0), rfl, F.pick [0, 1] (by decide), trivial⟩)
        | (have hf : rightR most st en xs = true := by
             by_cases h0 : xs.length = 0
             · unfold rightR
               rw [if_pos (by omega)]
               exact decide_eq_true (by omega)
             · rw [hpl h0, List.drop_of_length_le (by omega), rightL]
               exact decide_eq_true (by omega)
           have hr : loadR most st0 en0 bl0 st en xs = ⟨0, true, st, en, xs⟩ := by unfold loadR; rw [if_neg (by omega), if_neg (by rw [hf]; decide)]
           rw [hr]
           exact ⟨(x2, c2), rfl, by rw [Nat.zero_add] at F; exact F.pick [0, 2] (by decide), trivial⟩)
        | (exfalso; omega)
    first | replace hc21 := bne_eq_false_iff_eq.1 ((irr_eq _).symm.trans hc21) | simp only [irr_eq, bne_iff_ne, bne_eq_false_iff_eq, ne_eq, decide_eq_true_eq, decide_eq_false_iff_not, Bool.not_eq_true', Bool.not_eq_false'] at hc21
    refine l_op 0 rfl rfl rfl rfl rfl ?_
    refine l_c64 rfl rfl rfl (by omega) rfl ?_
    refine l_op 0 rfl rfl rfl rfl rfl ?_
    refine l_op 2 rfl rfl rfl rfl rfl ?_
    refine l_op 2 rfl rfl rfl rfl rfl ?_
    refine l_ldc F 0 rfl rfl rfl rfl rfl rfl rfl ?_
    refine l_cmp rfl rfl rfl rfl ?_
    refine l_op 2 rfl rfl rfl rfl rfl ?_
    refine l_op 2 rfl rfl rfl rfl rfl ?_
    refine l_nil (WK.nx (by assumption) ?_)
    refine SeqK.nx (by assumption) ?_
    refine l_cond rfl rfl (fun hc22 => ?_) (fun hc22 => ?_)
    · replace hc22 := of_decide_eq_true ((irr_eq _).symm.trans hc22)
      refine k_seq (fun Q K => ?_)
      refine k_lin (fun W K => ?_)
      refine l_op 0 rfl rfl rfl rfl rfl ?_
      refine l_nil (WK.nx (by assumption) ?_)
      refine SeqK.nx (by assumption) ?_
      refine k_ret ?_
      refine SeqK.rt (by assumption) ?_
      refine FunK.rt (by assumption) rfl ?_
      -- leaf 19
      first
        | (have hr : loadR most st0 en0 bl0 st en xs = ⟨4, false, st0, en0, bl0⟩ := if_pos (by omega)
           rw [hr]; exact ⟨(a0, c0), rfl, F.pick [0, 1] (by decide), trivial⟩)
        | (have hf : rightR most st en xs = false := by
             first
               | (unfold rightR
                  by_cases h0 : (xs.length : Int) = 0
                  · rw [if_pos h0]; exact decide_eq_false (by omega)
                  · rw [if_neg h0, if_pos (by omega)])
               | (rw [hpl (by omega), rightL_drop (by omega), if_pos (by omega)])
               | (have h0 : xs.length ≠ 0 := fun h0 => by have := hp0 h0; omega
                  rw [hpl h0, List.drop_of_length_le (by omega), rightL]
                  exact decide_eq_false (by omega))
           have hr : loadR most st0 en0 bl0 st en xs = ⟨1, false, st0, en0, bl0⟩ := by unfold loadR; rw [if_neg (by omega), if_pos hf]
           rw [hr]; exact ⟨(a0, c0), rfl, F.pick [0, 1] (by decide), trivial⟩)
        | (have hf : rightR most st en xs = true := by
             by_cases h0 : xs.length = 0
             · unfold rightR
               rw [if_pos (by omega)]
               exact decide_eq_true (by omega)
             · rw [hpl h0, List.drop_of_length_le (by omega), rightL]
               exact decide_eq_true (by omega)
           have hr : loadR most st0 en0 bl0 st en xs = ⟨0, true, st, en, xs⟩ := by unfold loadR; rw [if_neg (by omega), if_neg (by rw [hf]; decide)]
           rw [hr]
           exact ⟨(x2, c2), rfl, by rw [Nat.zero_add] at F; exact F.pick [0, 2] (by decide), trivial⟩)
        | (exfalso; omega)
    replace hc22 := of_decide_eq_false ((irr_eq _).symm.trans hc22)
    refine k_skip ?_
    refine SeqK.nx (by assumption) ?_
    refine k_seq (fun Q K => ?_)
    refine k_lin (fun W K => ?_)
    refine l_op 0 rfl rfl rfl rfl rfl ?_
    refine l_c64 rfl rfl rfl (by omega) rfl ?_
    refine l_op 0 rfl rfl rfl rfl rfl ?_
    refine l_nil (WK.nx (by assumption) ?_)
    refine SeqK.nx (by assumption) ?_
    refine k_seq (fun Q K => ?_)
    refine k_seq (fun Q K => ?_)
    refine k_lin (fun W K => ?_)
    refine l_op 0 rfl rfl rfl rfl rfl ?_
    refine l_nil (WK.nx (by assumption) ?_)
    refine SeqK.nx (by assumption) ?_
    refine k_block (fun Q K => ?_)
    have hR0 : rightR most st en xs = if (xs.length : Int) = 0 then decide (st = 0 ∧ en = 0) else rightL en st xs := by
      unfold rightR
      by_cases h0 : (xs.length : Int) = 0
      · rw [if_pos h0, if_pos h0]
      · rw [if_neg h0, if_neg h0, if_neg (by omega)]
    refine k_loop (α := Int × Int) (fun ⟨i, p⟩ s => Facts O σ s (rF m a0 c0 most st0 en0 bl0) ∧ 0 ≤ i ∧ i ≤ xs.length ∧ 0 ≤ p ∧ p ≤ 8589934590 ∧ (xs.length = 0 → p = st) ∧ (xs.length ≠ 0 → rightR most st en xs = rightL en p (xs.drop i.toNat))) (fun ⟨i, p⟩ => [(0, .pointer (some ⟨m, 0, none⟩)), (1, .int .u32 st), (2, .int .u32 en), (3, .slice a xs.length c), (9, .int .i64 p), (10, .int .i64 i)]) (fun ⟨i, _⟩ => (xs.length - i).toNat) (0, st) ⟨F, by omega, by omega, by omega, by omega, fun _ => rfl, fun h => by rw [hR0, if_neg (by omega)]; rfl⟩ (by repeat (first | exact trivial | refine And.intro rfl ?_)) ?_
    clear F
    rintro ⟨i, p⟩ env s Q K0 ⟨F, i0, i1, p0, p1, hp0, hpl⟩
    obtain ⟨⟨b0, b1⟩, ⟨b2, b3⟩⟩ := hB.at i.toNat
    refine k_seq (fun Q K => ?_)
    refine k_seq (fun Q K => ?_)
    refine k_lin (fun W K => ?_)
    refine l_op 0 rfl rfl rfl rfl rfl ?_
    refine l_op 0 rfl rfl rfl rfl rfl ?_
    first | refine l_op 2 rfl rfl rfl rfl rfl ?_ | refine l_ln rfl rfl rfl rfl ?_
    refine l_cmp rfl rfl rfl rfl ?_
    refine l_nil (WK.nx (by assumption) ?_)
    refine SeqK.nx (by assumption) ?_
    refine l_cond rfl rfl (fun hc23 => ?_) (fun hc23 => ?_)
    · replace hc23 := of_decide_eq_true ((irr_eq _).symm.trans hc23)
      refine k_skip ?_
      refine SeqK.nx (by assumption) ?_
      refine k_seq (fun Q K => ?_)
      refine k_block (fun Q K => ?_)
      refine k_seq (fun Q K => ?_)
      refine k_seq (fun Q K => ?_)
      refine k_lin (fun W K => ?_)
      refine l_op 0 rfl rfl rfl rfl rfl ?_
      refine l_op 0 rfl rfl rfl rfl rfl ?_
      refine l_ixr (e := eB) rfl rfl rfl rfl rfl rfl (F.old hl) ⟨eB_len, by decide⟩ (by omega) (fun m61 b61 hA61 => ?_)
      refine l_op 2 rfl rfl rfl rfl rfl ?_
      refine l_ldj rfl rfl rfl rfl rfl rfl (by assumption) rfl ?_
      refine l_cmp rfl rfl rfl rfl ?_
      refine l_op 0 rfl rfl rfl rfl rfl ?_
      refine l_guard rfl rfl rfl (fun hc24 => ?_) (fun hc24 => ?_)
      · first | replace hc24 := eq_of_beq ((irr_eq _).symm.trans hc24) | simp only [irr_eq, beq_iff_eq, beq_eq_false_iff_ne, ne_eq, decide_eq_true_eq, decide_eq_false_iff_not] at hc24
        refine l_s rfl rfl ?_
        refine l_s rfl rfl ?_
        refine l_s rfl rfl ?_
        refine l_s rfl rfl ?_
        refine l_s rfl rfl ?_
        refine l_s rfl rfl ?_
        refine l_s rfl rfl ?_
        refine l_s rfl rfl ?_
        refine l_op 2 rfl rfl rfl rfl rfl ?_
        refine l_nil (WK.nx (by assumption) ?_)
        refine SeqK.nx (by assumption) ?_
        first | refine e_cond_t rfl rfl rfl ?_ | refine e_cond_t rfl rfl (by rw [irr_eq]; first | exact beq_iff_eq.2 (by assumption) | exact decide_eq_true (by assumption) | exact bne_iff_ne.2 (by assumption)) ?_
        refine k_seq (fun Q K => ?_)
        refine k_lin (fun W K => ?_)
        refine l_op 0 rfl rfl rfl rfl rfl ?_
        refine l_nil (WK.nx (by assumption) ?_)
        refine SeqK.nx (by assumption) ?_
        refine k_ret ?_
        refine SeqK.rt (by assumption) ?_
        refine BlkK.rt (by assumption) ?_
        refine SeqK.rt (by assumption) ?_
        refine LoopK.rt (by assumption) ?_
        refine BlkK.rt (by assumption) ?_
        refine SeqK.rt (by assumption) ?_
        refine FunK.rt (by assumption) rfl ?_
        -- leaf 20
        first
          | (have hr : loadR most st0 en0 bl0 st en xs = ⟨4, false, st0, en0, bl0⟩ := if_pos (by omega)
             rw [hr]; exact ⟨(a0, c0), rfl, F.pick [0, 1] (by decide), trivial⟩)
          | (have hf : rightR most st en xs = false := by
               first
                 | (unfold rightR
                    by_cases h0 : (xs.length : Int) = 0
                    · rw [if_pos h0]; exact decide_eq_false (by omega)
                    · rw [if_neg h0, if_pos (by omega)])
                 | (rw [hpl (by omega), rightL_drop (by omega), if_pos (by omega)])
                 | (have h0 : xs.length ≠ 0 := fun h0 => by have := hp0 h0; omega
                    rw [hpl h0, List.drop_of_length_le (by omega), rightL]
                    exact decide_eq_false (by omega))
             have hr : loadR most st0 en0 bl0 st en xs = ⟨1, false, st0, en0, bl0⟩ := by unfold loadR; rw [if_neg (by omega), if_pos hf]
             rw [hr]; exact ⟨(a0, c0), rfl, F.pick [0, 1] (by decide), trivial⟩)
          | (have hf : rightR most st en xs = true := by
               by_cases h0 : xs.length = 0
               · unfold rightR
                 rw [if_pos (by omega)]
                 exact decide_eq_true (by omega)
               · rw [hpl h0, List.drop_of_length_le (by omega), rightL]
                 exact decide_eq_true (by omega)
             have hr : loadR most st0 en0 bl0 st en xs = ⟨0, true, st, en, xs⟩ := by unfold loadR; rw [if_neg (by omega), if_neg (by rw [hf]; decide)]
             rw [hr]
             exact ⟨(x2, c2), rfl, by rw [Nat.zero_add] at F; exact F.pick [0, 2] (by decide), trivial⟩)
          | (exfalso; omega)
      first | replace hc24 := ne_of_beq_false ((irr_eq _).symm.trans hc24) | simp only [irr_eq, beq_iff_eq, beq_eq_false_iff_ne, ne_eq, decide_eq_true_eq, decide_eq_false_iff_not] at hc24
      refine l_op 0 rfl rfl rfl rfl rfl ?_
      refine l_op 0 rfl rfl rfl rfl rfl ?_
      refine l_ixr (e := eB) rfl rfl rfl rfl rfl rfl (F.old hl) ⟨eB_len, by decide⟩ (by omega) (fun m68 b68 hA68 => ?_)
      refine l_op 2 rfl rfl rfl rfl rfl ?_
      refine l_ld0 rfl rfl rfl rfl rfl (by assumption) ?_
      refine l_c64 rfl rfl rfl (by omega) rfl ?_
      refine l_op 0 rfl rfl rfl rfl rfl ?_
      refine l_cmp rfl rfl rfl rfl ?_
      refine l_op 2 rfl rfl rfl rfl rfl ?_
      refine l_nil (WK.nx (by assumption) ?_)
      refine SeqK.nx (by assumption) ?_
      refine l_cond rfl rfl (fun hc25 => ?_) (fun hc25 => ?_)
      · replace hc25 := of_decide_eq_true ((irr_eq _).symm.trans hc25)
        refine k_seq (fun Q K => ?_)
        refine k_lin (fun W K => ?_)
        refine l_op 0 rfl rfl rfl rfl rfl ?_
        refine l_nil (WK.nx (by assumption) ?_)
        refine SeqK.nx (by assumption) ?_
        refine k_ret ?_
        refine SeqK.rt (by assumption) ?_
        refine BlkK.rt (by assumption) ?_
        refine SeqK.rt (by assumption) ?_
        refine LoopK.rt (by assumption) ?_
        refine BlkK.rt (by assumption) ?_
        refine SeqK.rt (by assumption) ?_
        refine FunK.rt (by assumption) rfl ?_
        -- leaf 21
        first
          | (have hr : loadR most st0 en0 bl0 st en xs = ⟨4, false, st0, en0, bl0⟩ := if_pos (by omega)
             rw [hr]; exact ⟨(a0, c0), rfl, F.pick [0, 1] (by decide), trivial⟩)
          | (have hf : rightR most st en xs = false := by
               first
                 | (unfold rightR
                    by_cases h0 : (xs.length : Int) = 0
                    · rw [if_pos h0]; exact decide_eq_false (by omega)
                    · rw [if_neg h0, if_pos (by omega)])
                 | (rw [hpl (by omega), rightL_drop (by omega), if_pos (by omega)])
                 | (have h0 : xs.length ≠ 0 := fun h0 => by have := hp0 h0; omega
                    rw [hpl h0, List.drop_of_length_le (by omega), rightL]
                    exact decide_eq_false (by omega))
             have hr : loadR most st0 en0 bl0 st en xs = ⟨1, false, st0, en0, bl0⟩ := by unfold loadR; rw [if_neg (by omega), if_pos hf]
             rw [hr]; exact ⟨(a0, c0), rfl, F.pick [0, 1] (by decide), trivial⟩)
          | (have hf : rightR most st en xs = true := by
               by_cases h0 : xs.length = 0
               · unfold rightR
                 rw [if_pos (by omega)]
                 exact decide_eq_true (by omega)
               · rw [hpl h0, List.drop_of_length_le (by omega), rightL]
                 exact decide_eq_true (by omega)
             have hr : loadR most st0 en0 bl0 st en xs = ⟨0, true, st, en, xs⟩ := by unfold loadR; rw [if_neg (by omega), if_neg (by rw [hf]; decide)]
             rw [hr]
             exact ⟨(x2, c2), rfl, by rw [Nat.zero_add] at F; exact F.pick [0, 2] (by decide), trivial⟩)
          | (exfalso; omega)
      replace hc25 := of_decide_eq_false ((irr_eq _).symm.trans hc25)
      refine k_skip ?_
      refine SeqK.nx (by assumption) ?_
      refine k_linm [0, 1, 2, 3, 6, 7, 8, 9, 4, 5, 10, 11, 12, 13] mixed (by kernel_rfl) (fun W K => ?_)
      try have hpS := F.pns
      refine l_op 0 rfl rfl rfl rfl rfl ?_
      refine l_op 0 rfl rfl rfl rfl rfl ?_
      refine l_ixr (e := eB) rfl rfl rfl rfl rfl rfl (F.old hl) ⟨eB_len, by decide⟩ (by omega) (fun m77 b77 hA77 => ?_)
      refine l_op 2 rfl rfl rfl rfl rfl ?_
      refine l_op 0 rfl rfl rfl rfl rfl ?_
      refine l_op 0 rfl rfl rfl rfl rfl ?_
      refine l_ixr (e := eB) rfl rfl rfl rfl rfl rfl (F.old hl) ⟨eB_len, by decide⟩ (by omega) (fun m83 b83 hA83 => ?_)
      refine l_op 2 rfl rfl rfl rfl rfl ?_
      refine l_ld0 rfl rfl rfl rfl rfl (by assumption) ?_
      first | have hpS := PnS.add hpS hS77 | have hpS := PnS.add hpS (OldC.sf (by assumption)) | skip
      refine l_c64 rfl rfl rfl (by omega) rfl ?_
      refine l_ldj rfl rfl rfl rfl rfl rfl (by assumption) rfl ?_
      first | have hpS := PnS.add hpS hS83 | have hpS := PnS.add hpS (OldC.sf (by assumption)) | skip
      refine l_c64 rfl rfl rfl (by omega) rfl ?_
      refine l_a64 rfl rfl rfl (by omega) rfl ?_
      refine l_op 0 rfl rfl rfl rfl rfl ?_
      refine l_nil (WK.nx (by assumption) ?_)
      refine BlkK.nx (by assumption) ?_
      refine SeqK.nx (by assumption) ?_
      refine k_lin (fun W K => ?_)
      refine l_op 0 rfl rfl rfl rfl rfl ?_
      refine l_a64 rfl rfl rfl (by omega) rfl ?_
      refine l_op 0 rfl rfl rfl rfl rfl ?_
      refine l_nil (WK.nx (by assumption) ?_)
      have e1 : (i + 1).toNat = i.toNat + 1 := by omega
      exact K0.nx (i + 1, _) (by repeat (first | exact trivial | refine And.intro rfl ?_)) ⟨F.pick [0, 1] (by decide), by omega, by omega, by omega, by omega, fun h => by omega, fun h => by
        have h2 := hpl h
        rw [rightL_drop (by omega), if_neg (by omega)] at h2
        rw [h2, e1]⟩ (by first | omega | (simp only; omega))
    replace hc23 := of_decide_eq_false ((irr_eq _).symm.trans hc23)
    refine k_exit ?_
    refine SeqK.et (by assumption) ?_
    refine LoopK.et (by assumption) ?_
    refine BlkK.et (by assumption) ?_
    refine SeqK.nx (by assumption) ?_
    refine k_seq (fun Q K => ?_)
    refine k_seq (fun Q K => ?_)
    refine k_lin (fun W K => ?_)
    refine l_op 0 rfl rfl rfl rfl rfl ?_
    refine l_op 0 rfl rfl rfl rfl rfl ?_
    refine l_c64 rfl rfl rfl (by omega) rfl ?_
    refine l_cmp rfl rfl rfl rfl ?_
    refine l_nil (WK.nx (by assumption) ?_)
    refine SeqK.nx (by assumption) ?_
    refine l_cond rfl rfl (fun hc26 => ?_) (fun hc26 => ?_)
    · replace hc26 := of_decide_eq_true ((irr_eq _).symm.trans hc26)
      refine k_seq (fun Q K => ?_)
      refine k_lin (fun W K => ?_)
      refine l_op 0 rfl rfl rfl rfl rfl ?_
      refine l_nil (WK.nx (by assumption) ?_)
      refine SeqK.nx (by assumption) ?_
      refine k_ret ?_
      refine SeqK.rt (by assumption) ?_
      refine FunK.rt (by assumption) rfl ?_
      -- leaf 22
      first
        | (have hr : loadR most st0 en0 bl0 st en xs = ⟨4, false, st0, en0, bl0⟩ := if_pos (by omega)
           rw [hr]; exact ⟨(a0, c0), rfl, F.pick [0, 1] (by decide), trivial⟩)
        | (have hf : rightR most st en xs = false := by
             first
               | (unfold rightR
                  by_cases h0 : (xs.length : Int) = 0
                  · rw [if_pos h0]; exact decide_eq_false (by omega)
                  · rw [if_neg h0, if_pos (by omega)])
               | (rw [hpl (by omega), rightL_drop (by omega), if_pos (by omega)])
               | (have h0 : xs.length ≠ 0 := fun h0 => by have := hp0 h0; omega
                  rw [hpl h0, List.drop_of_length_le (by omega), rightL]
                  exact decide_eq_false (by omega))
           have hr : loadR most st0 en0 bl0 st en xs = ⟨1, false, st0, en0, bl0⟩ := by unfold loadR; rw [if_neg (by omega), if_pos hf]
           rw [hr]; exact ⟨(a0, c0), rfl, F.pick [0, 1] (by decide), trivial⟩)
        | (have hf : rightR most st en xs = true := by
             by_cases h0 : xs.length = 0
             · unfold rightR
               rw [if_pos (by omega)]
               exact decide_eq_true (by omega)
             · rw [hpl h0, List.drop_of_length_le (by omega), rightL]
               exact decide_eq_true (by omega)
           have hr : loadR most st0 en0 bl0 st en xs = ⟨0, true, st, en, xs⟩ := by unfold loadR; rw [if_neg (by omega), if_neg (by rw [hf]; decide)]
           rw [hr]
           exact ⟨(x2, c2), rfl, by rw [Nat.zero_add] at F; exact F.pick [0, 2] (by decide), trivial⟩)
        | (exfalso; omega)
    replace hc26 := of_decide_eq_false ((irr_eq _).symm.trans hc26)
    refine k_skip ?_
    refine SeqK.nx (by assumption) ?_
    refine k_seq (fun Q K => ?_)
    refine k_lin (fun W K => ?_)
    refine l_op 0 rfl rfl rfl rfl rfl ?_
    refine l_op 0 rfl rfl rfl rfl rfl ?_
    refine l_op 0 rfl rfl rfl rfl rfl ?_
    refine l_c64 rfl rfl rfl (by omega) rfl ?_
    refine l_op 0 rfl rfl rfl rfl rfl ?_
    refine l_c64 rfl rfl rfl (by omega) rfl ?_
    refine l_op 2 rfl rfl rfl rfl rfl ?_
    refine l_op 2 rfl rfl rfl rfl rfl ?_
    refine l_stc F 0 rfl rfl rfl rfl rfl rfl rfl rfl rfl hD (fun s F => ?_)
    (try dsimp only [n_1, n_2, n_3, n_4, List.append_nil, pk, n_5, n_6] at F)
    refine l_op 2 rfl rfl rfl rfl rfl ?_
    refine l_op 2 rfl rfl rfl rfl rfl ?_
    refine l_stc F 0 rfl rfl rfl rfl rfl rfl rfl rfl rfl hD (fun s F => ?_)
    (try dsimp only [n_1, n_2, n_3, n_4, List.append_nil, pk, n_5, n_6] at F)
    refine l_nil (WK.nx (by assumption) ?_)
    refine SeqK.nx (by assumption) ?_
    refine k_seq (fun Q K => ?_)
    refine k_lin (fun W K => ?_)
    refine l_op 0 rfl rfl rfl rfl rfl ?_
    refine l_lit (k := 2) F rfl rfl rfl rfl (fun q103 s F => ?_)
    (try dsimp only [n_1, n_2, n_3, n_4, List.append_nil, pk, n_5, n_6] at F)
    refine l_op 0 rfl rfl rfl rfl rfl ?_
    refine l_app (es := 2) (vs := []) F 2 rfl rfl rfl rfl rfl rfl rfl (F.old hl) (eB_one xs) rfl (by omega) hD (fun x2 c2 s F => ?_)
    (try dsimp only [n_1, n_2, n_3, n_4, List.append_nil, pk, n_5, n_6] at F)
    refine l_op 2 rfl rfl rfl rfl rfl ?_
    refine l_op 2 rfl rfl rfl rfl rfl ?_
    refine l_stc F 0 rfl rfl rfl rfl rfl rfl rfl rfl rfl hD (fun s F => ?_)
    (try dsimp only [n_1, n_2, n_3, n_4, List.append_nil, pk, n_5, n_6] at F)
    refine l_nil (WK.nx (by assumption) ?_)
    refine SeqK.nx (by assumption) ?_
    refine k_seq (fun Q K => ?_)
    refine k_lin (fun W K => ?_)
    refine l_op 0 rfl rfl rfl rfl rfl ?_
    refine l_nil (WK.nx (by assumption) ?_)
    refine SeqK.nx (by assumption) ?_
    refine k_ret ?_
    refine FunK.rt (by assumption) rfl ?_
    -- leaf 23
    first
      | (have hr : loadR most st0 en0 bl0 st en xs = ⟨4, false, st0, en0, bl0⟩ := if_pos (by omega)
         rw [hr]; exact ⟨(a0, c0), rfl, F.pick [0, 1] (by decide), trivial⟩)
      | (have hf : rightR most st en xs = false := by
           first
             | (unfold rightR
                by_cases h0 : (xs.length : Int) = 0
                · rw [if_pos h0]; exact decide_eq_false (by omega)
                · rw [if_neg h0, if_pos (by omega)])
             | (rw [hpl (by omega), rightL_drop (by omega), if_pos (by omega)])
             | (have h0 : xs.length ≠ 0 := fun h0 => by have := hp0 h0; omega
                rw [hpl h0, List.drop_of_length_le (by omega), rightL]
                exact decide_eq_false (by omega))
         have hr : loadR most st0 en0 bl0 st en xs = ⟨1, false, st0, en0, bl0⟩ := by unfold loadR; rw [if_neg (by omega), if_pos hf]
         rw [hr]; exact ⟨(a0, c0), rfl, F.pick [0, 1] (by decide), trivial⟩)
      | (have hf : rightR most st en xs = true := by
           by_cases h0 : xs.length = 0
           · unfold rightR
             rw [if_pos (by omega)]
             exact decide_eq_true (by omega)
           · rw [hpl h0, List.drop_of_length_le (by omega), rightL]
             exact decide_eq_true (by omega)
         have hr : loadR most st0 en0 bl0 st en xs = ⟨0, true, st, en, xs⟩ := by unfold loadR; rw [if_neg (by omega), if_neg (by rw [hf]; decide)]
         rw [hr]
         exact ⟨(x2, c2), rfl, by rw [Nat.zero_add] at F; exact F.pick [0, 2] (by decide), trivial⟩)
      | (exfalso; omega)
  replace hc18 := of_decide_eq_false ((irr_eq _).symm.trans hc18)
  refine l_s rfl rfl ?_
  refine l_s rfl rfl ?_
  refine l_s rfl rfl ?_
  refine l_s rfl rfl ?_
  refine l_s rfl rfl ?_
  refine l_s rfl rfl ?_
  refine l_s rfl rfl ?_
  refine l_s rfl rfl ?_
  refine l_s rfl rfl ?_
  refine l_s rfl rfl ?_
  refine l_s rfl rfl ?_
  refine l_s rfl rfl ?_
  refine l_s rfl rfl ?_
  refine l_s rfl rfl ?_
  refine l_s rfl rfl ?_
  refine l_s rfl rfl ?_
  refine l_s rfl rfl ?_
  refine l_s rfl rfl ?_
  refine l_s rfl rfl ?_
  refine l_s rfl rfl ?_
  refine l_s rfl rfl ?_
  refine l_op 2 rfl rfl rfl rfl rfl ?_
  refine l_nil (WK.nx (by assumption) ?_)
  refine SeqK.nx (by assumption) ?_
  first | refine e_cond_f rfl rfl rfl ?_ | refine e_cond_f rfl rfl (by rw [irr_eq]; first | exact beq_eq_false_iff_ne.2 (by assumption) | exact decide_eq_false (by assumption) | exact bne_eq_false_iff_eq.2 (by assumption)) ?_
  refine k_skip ?_
  refine SeqK.nx (by assumption) ?_
  refine k_seq (fun Q K => ?_)
  refine k_lin (fun W K => ?_)
  refine l_op 0 rfl rfl rfl rfl rfl ?_
  refine l_c64 rfl rfl rfl (by omega) rfl ?_
  refine l_op 0 rfl rfl rfl rfl rfl ?_
  refine l_nil (WK.nx (by assumption) ?_)
  refine SeqK.nx (by assumption) ?_
  refine k_seq (fun Q K => ?_)
  refine k_seq (fun Q K => ?_)
  refine k_lin (fun W K => ?_)
  refine l_op 0 rfl rfl rfl rfl rfl ?_
  refine l_nil (WK.nx (by assumption) ?_)
  refine SeqK.nx (by assumption) ?_
  refine k_block (fun Q K => ?_)
  have hR0 : rightR most st en xs = if (xs.length : Int) = 0 then decide (st = 0 ∧ en = 0) else rightL en st xs := by
    unfold rightR
    by_cases h0 : (xs.length : Int) = 0
    · rw [if_pos h0, if_pos h0]
    · rw [if_neg h0, if_neg h0, if_neg (by omega)]
  refine k_loop (α := Int × Int) (fun ⟨i, p⟩ s => Facts O σ s (rF m a0 c0 most st0 en0 bl0) ∧ 0 ≤ i ∧ i ≤ xs.length ∧ 0 ≤ p ∧ p ≤ 8589934590 ∧ (xs.length = 0 → p = st) ∧ (xs.length ≠ 0 → rightR most st en xs = rightL en p (xs.drop i.toNat))) (fun ⟨i, p⟩ => [(0, .pointer (some ⟨m, 0, none⟩)), (1, .int .u32 st), (2, .int .u32 en), (3, .slice a xs.length c), (9, .int .i64 p), (10, .int .i64 i)]) (fun ⟨i, _⟩ => (xs.length - i).toNat) (0, st) ⟨F, by omega, by omega, by omega, by omega, fun _ => rfl, fun h => by rw [hR0, if_neg (by omega)]; rfl⟩ (by repeat (first | exact trivial | refine And.intro rfl ?_)) ?_
  clear F
  rintro ⟨i, p⟩ env s Q K0 ⟨F, i0, i1, p0, p1, hp0, hpl⟩
  obtain ⟨⟨b0, b1⟩, ⟨b2, b3⟩⟩ := hB.at i.toNat
  refine k_seq (fun Q K => ?_)
  refine k_seq (fun Q K => ?_)
  refine k_lin (fun W K => ?_)
  refine l_op 0 rfl rfl rfl rfl rfl ?_
  refine l_op 0 rfl rfl rfl rfl rfl ?_
  first | refine l_op 2 rfl rfl rfl rfl rfl ?_ | refine l_ln rfl rfl rfl rfl ?_
  refine l_cmp rfl rfl rfl rfl ?_
  refine l_nil (WK.nx (by assumption) ?_)
  refine SeqK.nx (by assumption) ?_
  refine l_cond rfl rfl (fun hc27 => ?_) (fun hc27 => ?_)
  · replace hc27 := of_decide_eq_true ((irr_eq _).symm.trans hc27)
    refine k_skip ?_
    refine SeqK.nx (by assumption) ?_
    refine k_seq (fun Q K => ?_)
    refine k_block (fun Q K => ?_)
    refine k_seq (fun Q K => ?_)
    refine k_seq (fun Q K => ?_)
    refine k_lin (fun W K => ?_)
    refine l_op 0 rfl rfl rfl rfl rfl ?_
    refine l_op 0 rfl rfl rfl rfl rfl ?_
    refine l_ixr (e := eB) rfl rfl rfl rfl rfl rfl (F.old hl) ⟨eB_len, by decide⟩ (by omega) (fun m61 b61 hA61 => ?_)
    refine l_op 2 rfl rfl rfl rfl rfl ?_
    refine l_ldj rfl rfl rfl rfl rfl rfl (by assumption) rfl ?_
    refine l_cmp rfl rfl rfl rfl ?_
    refine l_op 0 rfl rfl rfl rfl rfl ?_
    refine l_guard rfl rfl rfl (fun hc28 => ?_) (fun hc28 => ?_)
    · first | replace hc28 := eq_of_beq ((irr_eq _).symm.trans hc28) | simp only [irr_eq, beq_iff_eq, beq_eq_false_iff_ne, ne_eq, decide_eq_true_eq, decide_eq_false_iff_not] at hc28
      refine l_s rfl rfl ?_
      refine l_s rfl rfl ?_
      refine l_s rfl rfl ?_
      refine l_s rfl rfl ?_
      refine l_s rfl rfl ?_
      refine l_s rfl rfl ?_
      refine l_s rfl rfl ?_
      refine l_s rfl rfl ?_
      refine l_op 2 rfl rfl rfl rfl rfl ?_
      refine l_nil (WK.nx (by assumption) ?_)
      refine SeqK.nx (by assumption) ?_
      first | refine e_cond_t rfl rfl rfl ?_ | refine e_cond_t rfl rfl (by rw [irr_eq]; first | exact beq_iff_eq.2 (by assumption) | exact decide_eq_true (by assumption) | exact bne_iff_ne.2 (by assumption)) ?_
      refine k_seq (fun Q K => ?_)
      refine k_lin (fun W K => ?_)
      refine l_op 0 rfl rfl rfl rfl rfl ?_
      refine l_nil (WK.nx (by assumption) ?_)
      refine SeqK.nx (by assumption) ?_
      refine k_ret ?_
      refine SeqK.rt (by assumption) ?_
      refine BlkK.rt (by assumption) ?_
      refine SeqK.rt (by assumption) ?_
      refine LoopK.rt (by assumption) ?_
      refine BlkK.rt (by assumption) ?_
      refine SeqK.rt (by assumption) ?_
      refine FunK.rt (by assumption) rfl ?_
      -- leaf 24
      first
        | (have hr : loadR most st0 en0 bl0 st en xs = ⟨4, false, st0, en0, bl0⟩ := if_pos (by omega)
           rw [hr]; exact ⟨(a0, c0), rfl, F.pick [0, 1] (by decide), trivial⟩)
        | (have hf : rightR most st en xs = false := by
             first
               | (unfold rightR
                  by_cases h0 : (xs.length : Int) = 0
                  · rw [if_pos h0]; exact decide_eq_false (by omega)
                  · rw [if_neg h0, if_pos (by omega)])
               | (rw [hpl (by omega), rightL_drop (by omega), if_pos (by omega)])
               | (have h0 : xs.length ≠ 0 := fun h0 => by have := hp0 h0; omega
                  rw [hpl h0, List.drop_of_length_le (by omega), rightL]
                  exact decide_eq_false (by omega))
           have hr : loadR most st0 en0 bl0 st en xs = ⟨1, false, st0, en0, bl0⟩ := by unfold loadR; rw [if_neg (by omega), if_pos hf]
           rw [hr]; exact ⟨(a0, c0), rfl, F.pick [0, 1] (by decide), trivial⟩)
        | (have hf : rightR most st en xs = true := by
             by_cases h0 : xs.length = 0
             · unfold rightR
               rw [if_pos (by omega)]
               exact decide_eq_true (by omega)
             · rw [hpl h0, List.drop_of_length_le (by omega), rightL]
               exact decide_eq_true (by omega)
           have hr : loadR most st0 en0 bl0 st en xs = ⟨0, true, st, en, xs⟩ := by unfold loadR; rw [if_neg (by omega), if_neg (by rw [hf]; decide)]
           rw [hr]
           exact ⟨(x2, c2), rfl, by rw [Nat.zero_add] at F; exact F.pick [0, 2] (by decide), trivial⟩)
        | (exfalso; omega)
    first | replace hc28 := ne_of_beq_false ((irr_eq _).symm.trans hc28) | simp only [irr_eq, beq_iff_eq, beq_eq_false_iff_ne, ne_eq, decide_eq_true_eq, decide_eq_false_iff_not] at hc28
    refine l_op 0 rfl rfl rfl rfl rfl ?_
    refine l_op 0 rfl rfl rfl rfl rfl ?_
    refine l_ixr (e := eB) rfl rfl rfl rfl rfl rfl (F.old hl) ⟨eB_len, by decide⟩ (by omega) (fun m68 b68 hA68 => ?_)
    refine l_op 2 rfl rfl rfl rfl rfl ?_
    refine l_ld0 rfl rfl rfl rfl rfl (by assumption) ?_
    refine l_c64 rfl rfl rfl (by omega) rfl ?_
    refine l_op 0 rfl rfl rfl rfl rfl ?_
    refine l_cmp rfl rfl rfl rfl ?_
    refine l_op 2 rfl rfl rfl rfl rfl ?_
    refine l_nil (WK.nx (by assumption) ?_)
    refine SeqK.nx (by assumption) ?_
    refine l_cond rfl rfl (fun hc29 => ?_) (fun hc29 => ?_)
    · replace hc29 := of_decide_eq_true ((irr_eq _).symm.trans hc29)
      refine k_seq (fun Q K => ?_)
      refine k_lin (fun W K => ?_)
      refine l_op 0 rfl rfl rfl rfl rfl ?_
      refine l_nil (WK.nx (by assumption) ?_)
      refine SeqK.nx (by assumption) ?_
      refine k_ret ?_
      refine SeqK.rt (by assumption) ?_
      refine BlkK.rt (by assumption) ?_
      refine SeqK.rt (by assumption) ?_
      refine LoopK.rt (by assumption) ?_
      refine BlkK.rt (by assumption) ?_
      refine SeqK.rt (by assumption) ?_
      refine FunK.rt (by assumption) rfl ?_
      -- leaf 25
      first
        | (have hr : loadR most st0 en0 bl0 st en xs = ⟨4, false, st0, en0, bl0⟩ := if_pos (by omega)
           rw [hr]; exact ⟨(a0, c0), rfl, F.pick [0, 1] (by decide), trivial⟩)
        | (have hf : rightR most st en xs = false := by
             first
               | (unfold rightR
                  by_cases h0 : (xs.length : Int) = 0
                  · rw [if_pos h0]; exact decide_eq_false (by omega)
                  · rw [if_neg h0, if_pos (by omega)])
               | (rw [hpl (by omega), rightL_drop (by omega), if_pos (by omega)])
               | (have h0 : xs.length ≠ 0 := fun h0 => by have := hp0 h0; omega
                  rw [hpl h0, List.drop_of_length_le (by omega), rightL]
                  exact decide_eq_false (by omega))
           have hr : loadR most st0 en0 bl0 st en xs = ⟨1, false, st0, en0, bl0⟩ := by unfold loadR; rw [if_neg (by omega), if_pos hf]
           rw [hr]; exact ⟨(a0, c0), rfl, F.pick [0, 1] (by decide), trivial⟩)
        | (have hf : rightR most st en xs = true := by
             by_cases h0 : xs.length = 0
             · unfold rightR
               rw [if_pos (by omega)]
               exact decide_eq_true (by omega)
             · rw [hpl h0, List.drop_of_length_le (by omega), rightL]
               exact decide_eq_true (by omega)
           have hr : loadR most st0 en0 bl0 st en xs = ⟨0, true, st, en, xs⟩ := by unfold loadR; rw [if_neg (by omega), if_neg (by rw [hf]; decide)]
           rw [hr]
           exact ⟨(x2, c2), rfl, by rw [Nat.zero_add] at F; exact F.pick [0, 2] (by decide), trivial⟩)
        | (exfalso; omega)
    replace hc29 := of_decide_eq_false ((irr_eq _).symm.trans hc29)
    refine k_skip ?_
    refine SeqK.nx (by assumption) ?_
    refine k_linm [0, 1, 2, 3, 6, 7, 8, 9, 4, 5, 10, 11, 12, 13] mixed (by kernel_rfl) (fun W K => ?_)
    try have hpS := F.pns
    refine l_op 0 rfl rfl rfl rfl rfl ?_
    refine l_op 0 rfl rfl rfl rfl rfl ?_
    refine l_ixr (e := eB) rfl rfl rfl rfl rfl rfl (F.old hl) ⟨eB_len, by decide⟩ (by omega) (fun m77 b77 hA77 => ?_)
    refine l_op 2 rfl rfl rfl rfl rfl ?_
    refine l_op 0 rfl rfl rfl rfl rfl ?_
    refine l_op 0 rfl rfl rfl rfl rfl ?_
    refine l_ixr (e := eB) rfl rfl rfl rfl rfl rfl (F.old hl) ⟨eB_len, by decide⟩ (by omega) (fun m83 b83 hA83 => ?_)
    refine l_op 2 rfl rfl rfl rfl rfl ?_
    refine l_ld0 rfl rfl rfl rfl rfl (by assumption) ?_
    first | have hpS := PnS.add hpS hS77 | have hpS := PnS.add hpS (OldC.sf (by assumption)) | skip
    refine l_c64 rfl rfl rfl (by omega) rfl ?_
    refine l_ldj rfl rfl rfl rfl rfl rfl (by assumption) rfl ?_
    first | have hpS := PnS.add hpS hS83 | have hpS := PnS.add hpS (OldC.sf (by assumption)) | skip
    refine l_c64 rfl rfl rfl (by omega) rfl ?_
    refine l_a64 rfl rfl rfl (by omega) rfl ?_
    refine l_op 0 rfl rfl rfl rfl rfl ?_
    refine l_nil (WK.nx (by assumption) ?_)
    refine BlkK.nx (by assumption) ?_
    refine SeqK.nx (by assumption) ?_
    refine k_lin (fun W K => ?_)
    refine l_op 0 rfl rfl rfl rfl rfl ?_
    refine l_a64 rfl rfl rfl (by omega) rfl ?_
    refine l_op 0 rfl rfl rfl rfl rfl ?_
    refine l_nil (WK.nx (by assumption) ?_)
    have e1 : (i + 1).toNat = i.toNat + 1 := by omega
    exact K0.nx (i + 1, _) (by repeat (first | exact trivial | refine And.intro rfl ?_)) ⟨F.pick [0, 1] (by decide), by omega, by omega, by omega, by omega, fun h => by omega, fun h => by
      have h2 := hpl h
      rw [rightL_drop (by omega), if_neg (by omega)] at h2
      rw [h2, e1]⟩ (by first | omega | (simp only; omega))
  replace hc27 := of_decide_eq_false ((irr_eq _).symm.trans hc27)
  refine k_exit ?_
  refine SeqK.et (by assumption) ?_
  refine LoopK.et (by assumption) ?_
  refine BlkK.et (by assumption) ?_
  refine SeqK.nx (by assumption) ?_
  refine k_seq (fun Q K => ?_)
  refine k_seq (fun Q K => ?_)
  refine k_lin (fun W K => ?_)
  refine l_op 0 rfl rfl rfl rfl rfl ?_
  refine l_op 0 rfl rfl rfl rfl rfl ?_
  refine l_c64 rfl rfl rfl (by omega) rfl ?_
  refine l_cmp rfl rfl rfl rfl ?_
  refine l_nil (WK.nx (by assumption) ?_)
  refine SeqK.nx (by assumption) ?_
  refine l_cond rfl rfl (fun hc30 => ?_) (fun hc30 => ?_)
  · replace hc30 := of_decide_eq_true ((irr_eq _).symm.trans hc30)
    refine k_seq (fun Q K => ?_)
    refine k_lin (fun W K => ?_)
    refine l_op 0 rfl rfl rfl rfl rfl ?_
    refine l_nil (WK.nx (by assumption) ?_)
    refine SeqK.nx (by assumption) ?_
    refine k_ret ?_
    refine SeqK.rt (by assumption) ?_
    refine FunK.rt (by assumption) rfl ?_
    -- leaf 26
    first
      | (have hr : loadR most st0 en0 bl0 st en xs = ⟨4, false, st0, en0, bl0⟩ := if_pos (by omega)
         rw [hr]; exact ⟨(a0, c0), rfl, F.pick [0, 1] (by decide), trivial⟩)
      | (have hf : rightR most st en xs = false := by
           first
             | (unfold rightR
                by_cases h0 : (xs.length : Int) = 0
                · rw [if_pos h0]; exact decide_eq_false (by omega)
                · rw [if_neg h0, if_pos (by omega)])
             | (rw [hpl (by omega), rightL_drop (by omega), if_pos (by omega)])
             | (have h0 : xs.length ≠ 0 := fun h0 => by have := hp0 h0; omega
                rw [hpl h0, List.drop_of_length_le (by omega), rightL]
                exact decide_eq_false (by omega))
         have hr : loadR most st0 en0 bl0 st en xs = ⟨1, false, st0, en0, bl0⟩ := by unfold loadR; rw [if_neg (by omega), if_pos hf]
         rw [hr]; exact ⟨(a0, c0), rfl, F.pick [0, 1] (by decide), trivial⟩)
      | (have hf : rightR most st en xs = true := by
           by_cases h0 : xs.length = 0
           · unfold rightR
             rw [if_pos (by omega)]
             exact decide_eq_true (by omega)
           · rw [hpl h0, List.drop_of_length_le (by omega), rightL]
             exact decide_eq_true (by omega)
         have hr : loadR most st0 en0 bl0 st en xs = ⟨0, true, st, en, xs⟩ := by unfold loadR; rw [if_neg (by omega), if_neg (by rw [hf]; decide)]
         rw [hr]
         exact ⟨(x2, c2), rfl, by rw [Nat.zero_add] at F; exact F.pick [0, 2] (by decide), trivial⟩)
      | (exfalso; omega)
  replace hc30 := of_decide_eq_false ((irr_eq _).symm.trans hc30)
  refine k_skip ?_
  refine SeqK.nx (by assumption) ?_
  refine k_seq (fun Q K => ?_)
  refine k_lin (fun W K => ?_)
  refine l_op 0 rfl rfl rfl rfl rfl ?_
  refine l_op 0 rfl rfl rfl rfl rfl ?_
  refine l_op 0 rfl rfl rfl rfl rfl ?_
  refine l_c64 rfl rfl rfl (by omega) rfl ?_
  refine l_op 0 rfl rfl rfl rfl rfl ?_
  refine l_c64 rfl rfl rfl (by omega) rfl ?_
  refine l_op 2 rfl rfl rfl rfl rfl ?_
  refine l_op 2 rfl rfl rfl rfl rfl ?_
  refine l_stc F 0 rfl rfl rfl rfl rfl rfl rfl rfl rfl hD (fun s F => ?_)
  (try dsimp only [n_1, n_2, n_3, n_4, List.append_nil, pk, n_5, n_6] at F)
  refine l_op 2 rfl rfl rfl rfl rfl ?_
  refine l_op 2 rfl rfl rfl rfl rfl ?_
  refine l_stc F 0 rfl rfl rfl rfl rfl rfl rfl rfl rfl hD (fun s F => ?_)
  (try dsimp only [n_1, n_2, n_3, n_4, List.append_nil, pk, n_5, n_6] at F)
  refine l_nil (WK.nx (by assumption) ?_)
  refine SeqK.nx (by assumption) ?_
  refine k_seq (fun Q K => ?_)
  refine k_lin (fun W K => ?_)
  refine l_op 0 rfl rfl rfl rfl rfl ?_
  refine l_lit (k := 2) F rfl rfl rfl rfl (fun q103 s F => ?_)
  (try dsimp only [n_1, n_2, n_3, n_4, List.append_nil, pk, n_5, n_6] at F)
  refine l_op 0 rfl rfl rfl rfl rfl ?_
  refine l_app (es := 2) (vs := []) F 2 rfl rfl rfl rfl rfl rfl rfl (F.old hl) (eB_one xs) rfl (by omega) hD (fun x2 c2 s F => ?_)
  (try dsimp only [n_1, n_2, n_3, n_4, List.append_nil, pk, n_5, n_6] at F)
  refine l_op 2 rfl rfl rfl rfl rfl ?_
  refine l_op 2 rfl rfl rfl rfl rfl ?_
  refine l_stc F 0 rfl rfl rfl rfl rfl rfl rfl rfl rfl hD (fun s F => ?_)
  (try dsimp only [n_1, n_2, n_3, n_4, List.append_nil, pk, n_5, n_6] at F)
  refine l_nil (WK.nx (by assumption) ?_)
  refine SeqK.nx (by assumption) ?_
  refine k_seq (fun Q K => ?_)
  refine k_lin (fun W K => ?_)
  refine l_op 0 rfl rfl rfl rfl rfl ?_
  refine l_nil (WK.nx (by assumption) ?_)
  refine SeqK.nx (by assumption) ?_
  refine k_ret ?_
  refine FunK.rt (by assumption) rfl ?_
  -- leaf 27
  first
    | (have hr : loadR most st0 en0 bl0 st en xs = ⟨4, false, st0, en0, bl0⟩ := if_pos (by omega)
       rw [hr]; exact ⟨(a0, c0), rfl, F.pick [0, 1] (by decide), trivial⟩)
    | (have hf : rightR most st en xs = false := by
         first
           | (unfold rightR
              by_cases h0 : (xs.length : Int) = 0
              · rw [if_pos h0]; exact decide_eq_false (by omega)
              · rw [if_neg h0, if_pos (by omega)])
           | (rw [hpl (by omega), rightL_drop (by omega), if_pos (by omega)])
           | (have h0 : xs.length ≠ 0 := fun h0 => by have := hp0 h0; omega
              rw [hpl h0, List.drop_of_length_le (by omega), rightL]
              exact decide_eq_false (by omega))
       have hr : loadR most st0 en0 bl0 st en xs = ⟨1, false, st0, en0, bl0⟩ := by unfold loadR; rw [if_neg (by omega), if_pos hf]
       rw [hr]; exact ⟨(a0, c0), rfl, F.pick [0, 1] (by decide), trivial⟩)
    | (have hf : rightR most st en xs = true := by
         by_cases h0 : xs.length = 0
         · unfold rightR
           rw [if_pos (by omega)]
           exact decide_eq_true (by omega)
         · rw [hpl h0, List.drop_of_length_le (by omega), rightL]
           exact decide_eq_true (by omega)
       have hr : loadR most st0 en0 bl0 st en xs = ⟨0, true, st, en, xs⟩ := by unfold loadR; rw [if_neg (by omega), if_neg (by rw [hf]; decide)]
       rw [hr]
       exact ⟨(x2, c2), rfl, by rw [Nat.zero_add] at F; exact F.pick [0, 2] (by decide), trivial⟩)
    | (exfalso; omega)

end Go.Proofs.Ytkealnppdblgiaa
