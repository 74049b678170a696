/- A heap is loaded, a heap is copied. No statement of the seat is proved in this text. -/
import Derived.Test.YtocfmecenpeoiaaGreatHeap3
import Derived.Test.YtocfmecenpeoiaaGreatAb32
set_option linter.unusedVariables false
set_option linter.unusedSimpArgs false
set_option maxRecDepth 100000
set_option maxHeartbeats 4000000
namespace Go.Proofs.YtocfmecenpeoiaaGreat
open GAb Go

def rightL (en : Int) : Int → List (Int × Int) → Bool
  | at_, [] => decide (at_ ≤ en)
  | at_, b :: bl => if b.2 = 0 ∨ b.1 < at_ then false else rightL en (b.1 + b.2) bl
theorem rightL_drop {en at_ : Int} {bl : List (Int × Int)} {i : Nat} (hi : i < bl.length) : rightL en at_ (bl.drop i) = if (bl.getD i default).2 = 0 ∨ (bl.getD i default).1 < at_ then false else rightL en ((bl.getD i default).1 + (bl.getD i default).2) (bl.drop (i + 1)) := by
  rw [List.drop_eq_getElem_cons hi, rightL]
  simp only [List.getD, List.getElem?_eq_getElem hi, Option.getD_some]
def rightR (most st en : Int) (xs : List (Int × Int)) : Bool :=
  if (xs.length : Int) = 0 then decide (st = 0 ∧ en = 0) else if st = 0 ∨ st % 256 ≠ 0 ∨ en % 256 ≠ 0 ∨ en > most then false else rightL en st xs
theorem right_call {σ : AState} {m c0 : Nat} {a0 : Option Addr} {most st0 en0 : Int} {bl0 : List (Int × Int)} {st en : Int} {a : Option Addr} {c : Nat} {xs : List (Int × Int)} (hc : OldC E0 σ m (hC m a0 c0 most st0 en0 bl0)) (hl : Old E0 σ a xs.length c 2 (rows eB xs)) (hB : BlkOK xs) (hn : xs.length ≤ 1000000) (hs : U32 st) (he : U32 en) :
    SCall Tryz.prog E0 165 [.pointer (some ⟨m, 0, none⟩), .int .u32 st, .int .u32 en, .slice a xs.length c] σ (Ret E0 σ (fun (_ : Unit) => .bool (irr (rightR most st en xs))) (fun _ => []) fun _ => True) := by
  obtain ⟨s0, s1⟩ := hs
  obtain ⟨e0, e1⟩ := he
  refine k_fun Tryz.func165 rfl (m := 71) rfl fun B hD Q K => ?_
  have F := Facts.nil E0 σ
  refine k_seq fun Q K => k_lin fun W K => ?_
  refine l_op 0 rfl rfl rfl rfl rfl ?_
  refine l_nil (WK.nx ‹_› (SeqK.nx ‹_› ?_))
  refine k_seq fun Q K => k_seq fun Q K => k_lin fun W K => ?_
  refine l_op 0 rfl rfl rfl rfl rfl ?_
  refine l_op 2 rfl rfl rfl rfl rfl ?_
  refine l_cmp rfl rfl rfl rfl ?_
  refine l_nil (WK.nx ‹_› (SeqK.nx ‹_› ?_))
  refine l_cond rfl rfl (fun hc1 => ?_) (fun hc1 => ?_)
  · replace hc1 := eq_of_beq ((irr_eq _).symm.trans hc1)
    refine k_seq fun Q K => k_lin fun W K => ?_
    refine l_op 0 rfl rfl rfl rfl rfl ?_
    refine l_cmp rfl rfl rfl rfl ?_
    refine l_op 0 rfl rfl rfl rfl rfl ?_
    refine l_guard rfl rfl rfl (fun hc2 => ?_) (fun hc2 => ?_)
    · replace hc2 := eq_of_beq ((irr_eq _).symm.trans hc2)
      refine l_op 0 rfl rfl rfl rfl rfl ?_
      refine l_cmp rfl rfl rfl rfl ?_
      refine l_op 2 rfl rfl rfl rfl rfl ?_
      refine l_op 0 rfl rfl rfl rfl rfl ?_
      refine l_nil (WK.nx ‹_› (SeqK.nx ‹_› (k_ret (SeqK.rt ‹_› ?_))))
      refine FunK.rt (by assumption) rfl ?_
      -- leaf 1
      refine ⟨(), ?_, F.pick [] (by decide), trivial⟩
      show Value.bool _ = Value.bool _
      rw [irr_eq (rightR _ _ _ _)]
      congr 1
      (unfold rightR
       rw [if_pos (by omega)]
       first
         | exact (decide_eq_false (by omega)).symm
         | (rw [irr_eq]; by_cases h : en = 0 <;> simp_all))
    replace hc2 := ne_of_beq_false ((irr_eq _).symm.trans hc2)
    iterate 2 refine l_s rfl rfl ?_
    refine l_op 2 rfl rfl rfl rfl rfl ?_
    refine l_op 0 rfl rfl rfl rfl rfl ?_
    refine l_nil (WK.nx ‹_› (SeqK.nx ‹_› (k_ret (SeqK.rt ‹_› ?_))))
    refine FunK.rt (by assumption) rfl ?_
    -- leaf 2
    refine ⟨(), ?_, F.pick [] (by decide), trivial⟩
    show Value.bool _ = Value.bool _
    rw [irr_eq (rightR _ _ _ _)]
    congr 1
    (unfold rightR
     rw [if_pos (by omega)]
     first
       | exact (decide_eq_false (by omega)).symm
       | (rw [irr_eq]; by_cases h : en = 0 <;> simp_all))
  replace hc1 := ne_of_beq_false ((irr_eq _).symm.trans hc1)
  refine k_skip (SeqK.nx ‹_› ?_)
  refine k_seq fun Q K => k_seq fun Q K => k_lin fun W K => ?_
  refine l_op 0 rfl rfl rfl rfl rfl ?_
  refine l_cmp rfl rfl rfl rfl ?_
  refine l_op 0 rfl rfl rfl rfl rfl ?_
  refine l_guard rfl rfl rfl (fun hc3 => ?_) (fun hc3 => ?_)
  · replace hc3 := eq_of_beq ((irr_eq _).symm.trans hc3)
    iterate 3 refine l_s rfl rfl ?_
    refine l_op 2 rfl rfl rfl rfl rfl ?_
    refine l_op 0 rfl rfl rfl rfl rfl ?_
    iterate 3 refine l_s rfl rfl ?_
    refine l_op 2 rfl rfl rfl rfl rfl ?_
    refine l_op 0 rfl rfl rfl rfl rfl ?_
    iterate 6 refine l_s rfl rfl ?_
    refine l_op 2 rfl rfl rfl rfl rfl ?_
    refine l_nil (WK.nx ‹_› (SeqK.nx ‹_› ?_))
    refine e_cond_t rfl rfl rfl ?_
    refine k_seq fun Q K => k_lin fun W K => ?_
    refine l_op 0 rfl rfl rfl rfl rfl ?_
    refine l_nil (WK.nx ‹_› (SeqK.nx ‹_› (k_ret (SeqK.rt ‹_› ?_))))
    refine FunK.rt (by assumption) rfl ?_
    -- leaf 3
    refine ⟨(), ?_, F.pick [] (by decide), trivial⟩
    show Value.bool _ = Value.bool _
    rw [irr_eq (rightR _ _ _ _)]
    congr 1
    (unfold rightR
     rw [if_neg (by omega), if_pos (by omega)])
  replace hc3 := ne_of_beq_false ((irr_eq _).symm.trans hc3)
  refine l_op 0 rfl rfl rfl rfl rfl ?_
  refine l_callp F rfl rfl (by kernel_rfl) rfl rfl (paged_call ⟨by omega, by omega⟩) (fun _ s F _ => ?_)
  (try dsimp only [n_1, n_2, n_3, n_4, List.append_nil, pk, n_5, n_6] at F)
  iterate 2 refine l_op 2 rfl rfl rfl rfl rfl ?_
  refine l_op 0 rfl rfl rfl rfl rfl ?_
  refine l_guard rfl rfl rfl (fun hc4 => ?_) (fun hc4 => ?_)
  · try simp only [i_1, i_2, i_3, i_4, i_5, ne_eq, i_6, i_7, i_8, i_9] at hc4
    iterate 3 refine l_s rfl rfl ?_
    refine l_op 2 rfl rfl rfl rfl rfl ?_
    refine l_op 0 rfl rfl rfl rfl rfl ?_
    iterate 6 refine l_s rfl rfl ?_
    refine l_op 2 rfl rfl rfl rfl rfl ?_
    refine l_nil (WK.nx ‹_› (SeqK.nx ‹_› ?_))
    refine e_cond_t rfl rfl rfl ?_
    refine k_seq fun Q K => k_lin fun W K => ?_
    refine l_op 0 rfl rfl rfl rfl rfl ?_
    refine l_nil (WK.nx ‹_› (SeqK.nx ‹_› (k_ret (SeqK.rt ‹_› ?_))))
    refine FunK.rt (by assumption) rfl ?_
    -- leaf 4
    refine ⟨(), ?_, F.pick [] (by decide), trivial⟩
    show Value.bool _ = Value.bool _
    rw [irr_eq (rightR _ _ _ _)]
    congr 1
    (unfold rightR
     rw [if_neg (by omega), if_pos (by omega)])
  try simp only [i_1, i_2, i_3, i_4, i_5, ne_eq, i_6, i_7, i_8, i_9] at hc4
  refine l_op 0 rfl rfl rfl rfl rfl ?_
  refine l_callp F rfl rfl (by kernel_rfl) rfl rfl (paged_call ⟨by omega, by omega⟩) (fun _ s F _ => ?_)
  (try dsimp only [n_1, n_2, n_3, n_4, List.append_nil, pk, n_5, n_6] at F)
  iterate 2 refine l_op 2 rfl rfl rfl rfl rfl ?_
  refine l_op 0 rfl rfl rfl rfl rfl ?_
  refine l_guard rfl rfl rfl (fun hc5 => ?_) (fun hc5 => ?_)
  · try simp only [i_1, i_2, i_3, i_4, i_5, ne_eq, i_6, i_7, i_8, i_9] at hc5
    iterate 6 refine l_s rfl rfl ?_
    refine l_op 2 rfl rfl rfl rfl rfl ?_
    refine l_nil (WK.nx ‹_› (SeqK.nx ‹_› ?_))
    refine e_cond_t rfl rfl rfl ?_
    refine k_seq fun Q K => k_lin fun W K => ?_
    refine l_op 0 rfl rfl rfl rfl rfl ?_
    refine l_nil (WK.nx ‹_› (SeqK.nx ‹_› (k_ret (SeqK.rt ‹_› ?_))))
    refine FunK.rt (by assumption) rfl ?_
    -- leaf 5
    refine ⟨(), ?_, F.pick [] (by decide), trivial⟩
    show Value.bool _ = Value.bool _
    rw [irr_eq (rightR _ _ _ _)]
    congr 1
    (unfold rightR
     rw [if_neg (by omega), if_pos (by omega)])
  try simp only [i_1, i_2, i_3, i_4, i_5, ne_eq, i_6, i_7, i_8, i_9] at hc5
  iterate 2 refine l_op 0 rfl rfl rfl rfl rfl ?_
  iterate 2 refine l_op 2 rfl rfl rfl rfl rfl ?_
  refine l_ldo F (by assumption) rfl rfl rfl rfl rfl rfl ?_
  refine l_cmp rfl rfl rfl rfl ?_
  refine l_op 2 rfl rfl rfl rfl rfl ?_
  refine l_nil (WK.nx ‹_› (SeqK.nx ‹_› ?_))
  refine l_cond rfl rfl (fun hc6 => ?_) (fun hc6 => ?_)
  · replace hc6 := of_decide_eq_true ((irr_eq _).symm.trans hc6)
    refine k_seq fun Q K => k_lin fun W K => ?_
    refine l_op 0 rfl rfl rfl rfl rfl ?_
    refine l_nil (WK.nx ‹_› (SeqK.nx ‹_› (k_ret (SeqK.rt ‹_› ?_))))
    refine FunK.rt (by assumption) rfl ?_
    -- leaf 6
    refine ⟨(), ?_, F.pick [] (by decide), trivial⟩
    show Value.bool _ = Value.bool _
    rw [irr_eq (rightR _ _ _ _)]
    congr 1
    (unfold rightR
     rw [if_neg (by omega), if_pos (by omega)])
  replace hc6 := of_decide_eq_false ((irr_eq _).symm.trans hc6)
  refine k_skip (SeqK.nx ‹_› ?_)
  refine k_seq fun Q K => k_lin fun W K => ?_
  refine l_op 0 rfl rfl rfl rfl rfl ?_
  refine l_cu64 rfl rfl rfl (by omega) rfl ?_
  refine l_op 0 rfl rfl rfl rfl rfl ?_
  refine l_nil (WK.nx ‹_› (SeqK.nx ‹_› ?_))
  refine k_seq fun Q K => k_seq fun Q K => k_lin fun W K => ?_
  refine l_op 0 rfl rfl rfl rfl rfl ?_
  refine l_op 2 rfl rfl rfl rfl rfl ?_
  refine l_op 0 rfl rfl rfl rfl rfl ?_
  refine l_nil (WK.nx ‹_› (SeqK.nx ‹_› ?_))
  refine k_block fun Q K => ?_
  have hR0 : rightR most st en xs = rightL en st xs := by
    unfold rightR
    rw [if_neg (by omega), if_neg (by omega)]
  refine k_loop (α := Int × Int) (fun ⟨i, p⟩ s => Facts E0 σ s [] ∧ 0 ≤ i ∧ i ≤ xs.length ∧ 0 ≤ p ∧ p ≤ 8589934590 ∧ rightR most st en xs = rightL en p (xs.drop i.toNat)) (fun ⟨i, p⟩ => [(2, .int .u32 en), (9, .int .u64 p), (43, .slice a xs.length c), (44, .int .i64 xs.length), (45, .int .i64 i)]) (fun ⟨i, _⟩ => (xs.length - i).toNat) (0, st) ⟨F, by omega, by omega, by omega, by omega, by simpa using hR0⟩ (by repeat (first | exact trivial | refine And.intro rfl ?_)) ?_
  clear F
  rintro ⟨i, p⟩ env s Q K0 ⟨F, i0, i1, p0, p1, hpl⟩
  obtain ⟨⟨b0, b1⟩, ⟨b2, b3⟩⟩ := hB.at i.toNat
  refine k_seq fun Q K => k_lin fun W K => ?_
  refine l_cmp rfl rfl rfl rfl ?_
  refine l_nil (WK.nx ‹_› (SeqK.nx ‹_› ?_))
  refine k_seq fun Q K => ?_
  refine l_cond rfl rfl (fun hc7 => ?_) (fun hc7 => ?_)
  · replace hc7 := of_decide_eq_true ((irr_eq _).symm.trans hc7)
    refine k_skip (SeqK.nx ‹_› ?_)
    refine k_seq fun Q K => k_block fun Q K => k_seq fun Q K => k_lin fun W K => ?_
    refine l_ixr (e := eB) rfl rfl rfl rfl rfl rfl (F.old (by assumption)) ⟨eB_len, by decide⟩ (by omega) (fun m47 b47 hA47 => ?_)
    refine l_lda rfl rfl rfl rfl rfl (by assumption) ?_
    refine l_al F rfl rfl rfl rfl (fun q11 s F => ?_)
    (try dsimp only [n_1, n_2, n_3, n_4, List.append_nil, pk, n_5, n_6] at F)
    refine l_stca F 0 rfl rfl rfl rfl rfl rfl rfl rfl rfl rfl hD rfl (fun s F => ?_)
    (try dsimp only [n_1, n_2, n_3, n_4, List.append_nil, pk, n_5, n_6] at F)
    refine l_nil (WK.nx ‹_› (SeqK.nx ‹_› ?_))
    refine k_seq fun Q K => k_seq fun Q K => k_lin fun W K => ?_
    refine l_op 2 rfl rfl rfl rfl rfl ?_
    refine l_ldc F 0 rfl rfl rfl rfl rfl rfl rfl ?_
    refine l_cmp rfl rfl rfl rfl ?_
    refine l_op 0 rfl rfl rfl rfl rfl ?_
    refine l_guard rfl rfl rfl (fun hc8 => ?_) (fun hc8 => ?_)
    · replace hc8 := eq_of_beq ((irr_eq _).symm.trans hc8)
      iterate 5 refine l_s rfl rfl ?_
      refine l_op 2 rfl rfl rfl rfl rfl ?_
      refine l_nil (WK.nx ‹_› (SeqK.nx ‹_› ?_))
      refine e_cond_t rfl rfl rfl ?_
      refine k_seq fun Q K => k_lin fun W K => ?_
      refine l_op 0 rfl rfl rfl rfl rfl ?_
      refine l_nil (WK.nx ‹_› (SeqK.nx ‹_› (k_ret (SeqK.rt ‹_› (BlkK.rt ‹_› (SeqK.rt ‹_› ?_))))))
      refine LoopK.rt (by assumption) ?_
      refine BlkK.rt ‹_› (SeqK.rt ‹_› ?_)
      refine FunK.rt (by assumption) rfl ?_
      -- leaf 7
      refine ⟨(), ?_, F.pick [] (by decide), trivial⟩
      show Value.bool _ = Value.bool _
      rw [irr_eq (rightR _ _ _ _)]
      congr 1
      (rw [hpl, rightL_drop (by omega), if_pos (by omega)]; done)
    replace hc8 := ne_of_beq_false ((irr_eq _).symm.trans hc8)
    refine l_op 2 rfl rfl rfl rfl rfl ?_
    refine l_ldc F 0 rfl rfl rfl rfl rfl rfl rfl ?_
    refine l_cu64 rfl rfl rfl (by omega) rfl ?_
    refine l_op 0 rfl rfl rfl rfl rfl ?_
    refine l_cmp rfl rfl rfl rfl ?_
    refine l_op 2 rfl rfl rfl rfl rfl ?_
    refine l_nil (WK.nx ‹_› (SeqK.nx ‹_› ?_))
    refine l_cond rfl rfl (fun hc9 => ?_) (fun hc9 => ?_)
    · replace hc9 := of_decide_eq_true ((irr_eq _).symm.trans hc9)
      refine k_seq fun Q K => k_lin fun W K => ?_
      refine l_op 0 rfl rfl rfl rfl rfl ?_
      refine l_nil (WK.nx ‹_› (SeqK.nx ‹_› (k_ret (SeqK.rt ‹_› (BlkK.rt ‹_› (SeqK.rt ‹_› ?_))))))
      refine LoopK.rt (by assumption) ?_
      refine BlkK.rt ‹_› (SeqK.rt ‹_› ?_)
      refine FunK.rt (by assumption) rfl ?_
      -- leaf 8
      refine ⟨(), ?_, F.pick [] (by decide), trivial⟩
      show Value.bool _ = Value.bool _
      rw [irr_eq (rightR _ _ _ _)]
      congr 1
      (rw [hpl, rightL_drop (by omega), if_pos (by omega)]; done)
    replace hc9 := of_decide_eq_false ((irr_eq _).symm.trans hc9)
    refine k_skip (SeqK.nx ‹_› ?_)
    refine k_lin fun W K => ?_
    refine l_op 2 rfl rfl rfl rfl rfl ?_
    refine l_ldc F 0 rfl rfl rfl rfl rfl rfl rfl ?_
    refine l_cu64 rfl rfl rfl (by omega) rfl ?_
    refine l_op 2 rfl rfl rfl rfl rfl ?_
    refine l_ldc F 0 rfl rfl rfl rfl rfl rfl rfl ?_
    refine l_cu64 rfl rfl rfl (by omega) rfl ?_
    refine l_au64 rfl rfl rfl (by omega) rfl ?_
    refine l_op 0 rfl rfl rfl rfl rfl ?_
    refine l_nil (WK.nx ‹_› (BlkK.nx ‹_› (SeqK.nx ‹_› ?_)))
    refine k_lin fun W K => ?_
    refine l_a64 rfl rfl rfl (by omega) rfl ?_
    refine l_op 0 rfl rfl rfl rfl rfl ?_
    refine l_nil (WK.nx ‹_› ?_)
    have e1 : (i + 1).toNat = i.toNat + 1 := by omega
    rw [rightL_drop (by omega), if_neg (by omega)] at hpl
    have F' := F.pick [] (by decide)
    exact K0.nx (i + 1, _) (by repeat (first | exact trivial | refine And.intro rfl ?_)) ⟨F', by omega, by omega, by omega, by omega, by rw [hpl, e1]⟩ (by first | omega | (simp only; omega))
  replace hc7 := of_decide_eq_false ((irr_eq _).symm.trans hc7)
  refine k_exit ?_
  refine SeqK.et (by assumption) ?_
  refine LoopK.et (by assumption) ?_
  refine BlkK.et (by assumption) ?_
  refine SeqK.nx ‹_› ?_
  refine k_seq fun Q K => k_lin fun W K => ?_
  iterate 2 refine l_op 0 rfl rfl rfl rfl rfl ?_
  refine l_cu64 rfl rfl rfl (by omega) rfl ?_
  refine l_cmp rfl rfl rfl rfl ?_
  refine l_op 0 rfl rfl rfl rfl rfl ?_
  refine l_nil (WK.nx ‹_› (SeqK.nx ‹_› (k_ret ?_)))
  refine FunK.rt (by assumption) rfl ?_
  -- leaf 9
  refine ⟨(), ?_, F.pick [] (by decide), trivial⟩
  show Value.bool _ = Value.bool _
  rw [irr_eq (rightR _ _ _ _)]
  congr 1
  (rw [hpl, List.drop_of_length_le (by omega), rightL, irr_eq]; done)

def loadR (most st0 en0 : Int) (bl0 : List (Int × Int)) (st en : Int) (xs : List (Int × Int)) : HR :=
  if (xs.length : Int) > 4096 then ⟨4, false, st0, en0, bl0⟩ else if rightR most st en xs = false then ⟨1, false, st0, en0, bl0⟩ else ⟨0, true, st, en, xs⟩
theorem load_call {O : Nat → Prop} {σ : AState} {m c0 : Nat} {a0 : Option Addr} {most st0 en0 : Int} {bl0 : List (Int × Int)} {st en : Int} {a : Option Addr} {c : Nat} {xs : List (Int × Int)} (F : Facts O σ σ (hF m a0 c0 most st0 en0 bl0)) (hEx : Ex a0) (hl : Old O σ a xs.length c 2 (rows eB xs)) (hB : BlkOK xs) (hs : U32 st) (he : U32 en) :
    SCall Tryz.prog O 119 [.pointer (some ⟨m, 0, none⟩), .int .u32 st, .int .u32 en, .slice a xs.length c] σ (Ret O σ (fun (_ : Option Addr × Nat) => .int .i64 (loadR most st0 en0 bl0 st en xs).ret) (fun y => hF m y.1 y.2 most (loadR most st0 en0 bl0 st en xs).st (loadR most st0 en0 bl0 st en xs).en (loadR most st0 en0 bl0 st en xs).bl) fun y => Ex y.1) := by
  refine k_fun Tryz.func119 rfl (m := 36) rfl fun B hD Q K => ?_
  refine k_seq fun Q K => k_lin fun W K => ?_
  refine l_op 0 rfl rfl rfl rfl rfl ?_
  refine l_nil (WK.nx ‹_› (SeqK.nx ‹_› ?_))
  refine k_seq fun Q K => k_block fun Q K => k_seq fun Q K => k_lin fun W K => ?_
  refine l_op 0 rfl rfl rfl rfl rfl ?_
  refine l_cmp rfl rfl rfl rfl ?_
  refine l_op 0 rfl rfl rfl rfl rfl ?_
  refine l_nil (WK.nx ‹_› (SeqK.nx ‹_› ?_))
  refine l_cond rfl rfl (fun hc1 => ?_) (fun hc1 => ?_)
  · exact absurd ((irr_eq _).symm.trans hc1) (by decide)
  simp only [irr_eq, beq_iff_eq, beq_eq_false_iff_ne, ne_eq, decide_eq_true_eq, decide_eq_false_iff_not] at hc1
  refine k_seq fun Q K => k_lin fun W K => ?_
  refine l_op 0 rfl rfl rfl rfl rfl ?_
  refine l_op 2 rfl rfl rfl rfl rfl ?_
  refine l_cmp rfl rfl rfl rfl ?_
  refine l_op 0 rfl rfl rfl rfl rfl ?_
  refine l_nil (WK.nx ‹_› (SeqK.nx ‹_› ?_))
  refine l_cond rfl rfl (fun hc2 => ?_) (fun hc2 => ?_)
  · replace hc2 := of_decide_eq_true ((irr_eq _).symm.trans hc2)
    refine k_seq fun Q K => k_lin fun W K => ?_
    refine l_op 0 rfl rfl rfl rfl rfl ?_
    refine l_nil (WK.nx ‹_› (SeqK.nx ‹_› (k_ret (BlkK.rt ‹_› (SeqK.rt ‹_› ?_)))))
    refine FunK.rt (by assumption) rfl ?_
    -- leaf 1
    generalize hR : loadR most st0 en0 bl0 st en xs = r
    unfold loadR at hR
    (repeat' split at hR) <;> first
      | (exfalso; omega)
      | (subst hR; first
          | exact ⟨(a0, c0), rfl, F.pick [0, 1] (by decide), hEx⟩
          | exact ⟨(y.1, y.2), rfl, F.pick [0, 2] (by decide), hy⟩)
      | (exfalso; simp_all; done)
  replace hc2 := of_decide_eq_false ((irr_eq _).symm.trans hc2)
  refine k_seq fun Q K => k_lin fun W K => ?_
  iterate 4 refine l_op 0 rfl rfl rfl rfl rfl ?_
  refine l_callp F rfl rfl (by kernel_rfl) rfl rfl (right_call (F.cel0 0 rfl) (Old.pure (F.old hl)) hB (by omega) hs he) (fun _ s F _ => ?_)
  (try dsimp only [n_1, n_2, n_3, n_4, List.append_nil, pk, n_5, n_6] at F)
  refine l_op 2 rfl rfl rfl rfl rfl ?_
  refine l_op 0 rfl rfl rfl rfl rfl ?_
  refine l_nil (WK.nx ‹_› (SeqK.nx ‹_› ?_))
  refine l_cond rfl rfl (fun hc3 => ?_) (fun hc3 => ?_)
  · try simp only [i_1, i_2, i_3, i_4, i_5, ne_eq, i_6, i_7, i_8, i_9] at hc3
    refine k_seq fun Q K => k_lin fun W K => ?_
    refine l_op 0 rfl rfl rfl rfl rfl ?_
    refine l_nil (WK.nx ‹_› (SeqK.nx ‹_› (k_ret (BlkK.rt ‹_› (SeqK.rt ‹_› ?_)))))
    refine FunK.rt (by assumption) rfl ?_
    -- leaf 2
    generalize hR : loadR most st0 en0 bl0 st en xs = r
    unfold loadR at hR
    (repeat' split at hR) <;> first
      | (exfalso; omega)
      | (subst hR; first
          | exact ⟨(a0, c0), rfl, F.pick [0, 1] (by decide), hEx⟩
          | exact ⟨(y.1, y.2), rfl, F.pick [0, 2] (by decide), hy⟩)
      | (exfalso; simp_all; done)
  try simp only [i_1, i_2, i_3, i_4, i_5, ne_eq, i_6, i_7, i_8, i_9] at hc3
  refine k_skip (BlkK.nx ‹_› (SeqK.nx ‹_› ?_))
  refine k_seq fun Q K => k_lin fun W K => ?_
  iterate 6 refine l_op 0 rfl rfl rfl rfl rfl ?_
  refine l_callp F rfl rfl (by kernel_rfl) rfl rfl (cloneB_call (Old.pure (F.old hl)) (by omega)) (fun y s F hy => ?_)
  (try dsimp only [n_1, n_2, n_3, n_4, List.append_nil, pk, n_5, n_6] at F)
  iterate 2 refine l_op 2 rfl rfl rfl rfl rfl ?_
  refine l_stc F 0 rfl rfl rfl rfl rfl rfl rfl rfl rfl hD (fun s F => ?_)
  (try dsimp only [n_1, n_2, n_3, n_4, List.append_nil, pk, n_5, n_6] at F)
  iterate 2 refine l_op 2 rfl rfl rfl rfl rfl ?_
  refine l_stc F 0 rfl rfl rfl rfl rfl rfl rfl rfl rfl hD (fun s F => ?_)
  (try dsimp only [n_1, n_2, n_3, n_4, List.append_nil, pk, n_5, n_6] at F)
  iterate 2 refine l_op 2 rfl rfl rfl rfl rfl ?_
  refine l_stc F 0 rfl rfl rfl rfl rfl rfl rfl rfl rfl hD (fun s F => ?_)
  (try dsimp only [n_1, n_2, n_3, n_4, List.append_nil, pk, n_5, n_6] at F)
  refine l_nil (WK.nx ‹_› (SeqK.nx ‹_› ?_))
  refine k_seq fun Q K => k_lin fun W K => ?_
  refine l_op 0 rfl rfl rfl rfl rfl ?_
  refine l_nil (WK.nx ‹_› (SeqK.nx ‹_› (k_ret ?_)))
  refine FunK.rt (by assumption) rfl ?_
  -- leaf 3
  generalize hR : loadR most st0 en0 bl0 st en xs = r
  unfold loadR at hR
  (repeat' split at hR) <;> first
    | (exfalso; omega)
    | (subst hR; first
        | exact ⟨(a0, c0), rfl, F.pick [0, 1] (by decide), hEx⟩
        | exact ⟨(y.1, y.2), rfl, F.pick [0, 2] (by decide), hy⟩)
    | (exfalso; simp_all; done)

theorem copy_call {σ : AState} {m c : Nat} {a : Option Addr} {most st en : Int} {bl : List (Int × Int)} (hc : OldC E0 σ m (hC m a c most st en bl)) (hl : Old E0 σ a bl.length c 2 (rows eB bl)) (hn : bl.length ≤ 1000000) : SCall Tryz.prog E0 83 [.pointer (some ⟨m, 0, none⟩)] σ (Ret E0 σ (fun (y : Nat × Option Addr × Nat) => .pointer (some ⟨y.1, 0, none⟩)) (fun y => hF y.1 y.2.1 y.2.2 most st en bl) fun y => Ex y.2.1) := by
  refine k_fun Tryz.func83 rfl (m := 15) rfl fun B hD Q K => ?_
  have F := Facts.nil E0 σ
  refine k_seq fun Q K => k_lin fun W K => ?_
  refine l_op 0 rfl rfl rfl rfl rfl ?_
  refine l_nil (WK.nx ‹_› (SeqK.nx ‹_› ?_))
  refine k_seq fun Q K => k_seq fun Q K => k_lin fun W K => ?_
  refine l_op 0 rfl rfl rfl rfl rfl ?_
  refine l_cmp rfl rfl rfl rfl ?_
  refine l_nil (WK.nx ‹_› (SeqK.nx ‹_› ?_))
  refine l_cond rfl rfl (fun hc1 => ?_) (fun hc1 => ?_)
  · exact absurd ((irr_eq _).symm.trans hc1) (by decide)
  simp only [irr_eq, beq_iff_eq, beq_eq_false_iff_ne, ne_eq, decide_eq_true_eq, decide_eq_false_iff_not] at hc1
  refine k_skip (SeqK.nx ‹_› ?_)
  refine k_seq fun Q K => k_lin fun W K => ?_
  refine l_op 0 rfl rfl rfl rfl rfl ?_
  refine l_op 2 rfl rfl rfl rfl rfl ?_
  refine l_ldoa F (by assumption) rfl rfl rfl rfl rfl rfl ?_
  refine l_al F rfl rfl rfl rfl (fun q3 s F => ?_)
  (try dsimp only [n_1, n_2, n_3, n_4, List.append_nil, pk, n_5, n_6] at F)
  refine l_stca F 0 rfl rfl rfl rfl rfl rfl rfl rfl rfl rfl hD rfl (fun s F => ?_)
  (try dsimp only [n_1, n_2, n_3, n_4, List.append_nil, pk, n_5, n_6] at F)
  refine l_nil (WK.nx ‹_› (SeqK.nx ‹_› ?_))
  refine k_seq fun Q K => k_lin fun W K => ?_
  refine l_op 0 rfl rfl rfl rfl rfl ?_
  iterate 2 refine l_op 2 rfl rfl rfl rfl rfl ?_
  refine l_ldo F (by assumption) rfl rfl rfl rfl rfl rfl ?_
  refine l_callp F rfl rfl (by kernel_rfl) rfl rfl (cloneB_call (Old.pure (F.old hl)) (by omega)) (fun y s F hy => ?_)
  (try dsimp only [n_1, n_2, n_3, n_4, List.append_nil, pk, n_5, n_6] at F)
  refine l_op 2 rfl rfl rfl rfl rfl ?_
  refine l_stc F 0 rfl rfl rfl rfl rfl rfl rfl rfl rfl hD (fun s F => ?_)
  (try dsimp only [n_1, n_2, n_3, n_4, List.append_nil, pk, n_5, n_6] at F)
  refine l_nil (WK.nx ‹_› (SeqK.nx ‹_› ?_))
  refine k_seq fun Q K => k_lin fun W K => ?_
  refine l_op 0 rfl rfl rfl rfl rfl ?_
  refine l_nil (WK.nx ‹_› (SeqK.nx ‹_› (k_ret ?_)))
  refine FunK.rt (by assumption) rfl ?_
  -- leaf 1
  exact ⟨(q3, y.1, y.2), rfl, F, hy⟩

end Go.Proofs.YtocfmecenpeoiaaGreat
