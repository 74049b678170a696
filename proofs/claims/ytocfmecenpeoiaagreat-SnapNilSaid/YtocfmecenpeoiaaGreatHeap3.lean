/- A block is freed. No statement of the seat is proved in this text. -/
import Derived.Test.YtocfmecenpeoiaaGreatHeap2
import Derived.Test.YtocfmecenpeoiaaGreatAb32
set_option linter.unusedVariables false
set_option linter.unusedSimpArgs false
set_option maxRecDepth 100000
set_option maxHeartbeats 4000000
namespace Go.Proofs.YtocfmecenpeoiaaGreat
open GAb Go

theorem is_call {σ : AState} {x : Int × Int} {q : Nat} {ad : Int} (hq : OldC E0 σ q [.int .u32 ad]) :
    SCall Tryz.prog E0 171 [.agg (eB x).toArray, .pointer (some ⟨q, 0, none⟩)] σ (Ret E0 σ (fun (_ : Unit) => .bool (irr (x.1 == ad))) (fun _ => []) fun _ => True) := by
  refine k_fun Tryz.func171 rfl (m := 8) rfl fun B hD Q K => ?_
  have F := Facts.nil E0 σ
  refine k_seq fun Q K => k_lin fun W K => ?_
  refine l_bx F rfl rfl rfl rfl rfl (fun q2 s F => ?_)
  (try dsimp only [n_1, n_2, n_3, n_4, List.append_nil, pk, n_5, n_6] at F)
  refine l_op 0 rfl rfl rfl rfl rfl ?_
  refine l_nil (WK.nx ‹_› (SeqK.nx ‹_› ?_))
  refine k_seq fun Q K => k_lin fun W K => ?_
  refine l_op 2 rfl rfl rfl rfl rfl ?_
  refine l_ldc F 0 rfl rfl rfl rfl rfl rfl rfl ?_
  refine l_ldo F (by assumption) rfl rfl rfl rfl rfl rfl ?_
  refine l_cmp rfl rfl rfl rfl ?_
  refine l_op 0 rfl rfl rfl rfl rfl ?_
  refine l_nil (WK.nx ‹_› (SeqK.nx ‹_› (k_ret ?_)))
  refine FunK.rt (by assumption) rfl ?_
  -- leaf 1
  exact ⟨(), rfl, F.pick [] (by decide), trivial⟩

/-- Where the block lies that begins there. -/
def idxR (ad : Int) : List (Int × Int) → Int
  | [] => -1
  | b :: bl => if b.1 = ad then 0 else if idxR ad bl < 0 then -1 else idxR ad bl + 1
theorem idxR_low (ad : Int) : ∀ bl, -1 ≤ idxR ad bl ∧ idxR ad bl < bl.length
  | [] => by simp [idxR]
  | b :: bl => by
    have := idxR_low ad bl
    rw [idxR]
    simp only [List.length_cons]
    split
    · omega
    · split <;> omega
theorem idxR_drop {ad : Int} {bl : List (Int × Int)} {i : Nat} (hi : i < bl.length) : idxR ad (bl.drop i) = if (bl.getD i default).1 = ad then 0 else if idxR ad (bl.drop (i + 1)) < 0 then -1 else idxR ad (bl.drop (i + 1)) + 1 := by
  rw [List.drop_eq_getElem_cons hi, idxR]
  simp only [List.getD, List.getElem?_eq_getElem hi, Option.getD_some]

theorem index_call {σ : AState} {a : Option Addr} {c q : Nat} {ad : Int} {bl : List (Int × Int)} (hl : Old E0 σ a bl.length c 2 (rows eB bl)) (hq : OldC E0 σ q [.int .u32 ad]) (hn : bl.length ≤ 1000000) :
    SCall Tryz.prog E0 170 [.slice a bl.length c, .func (.func 171) #[] #[.pointer (some ⟨q, 0, none⟩)]] σ (Ret E0 σ (fun (_ : Unit) => .int .i64 (idxR ad bl)) (fun _ => []) fun _ => True) := by
  refine k_fun Tryz.func170 rfl (m := 19) rfl fun B hD Q K => ?_
  have F := Facts.nil E0 σ
  refine k_seq fun Q K => k_lin fun W K => ?_
  refine l_op 0 rfl rfl rfl rfl rfl ?_
  refine l_nil (WK.nx ‹_› (SeqK.nx ‹_› ?_))
  refine k_seq fun Q K => k_seq fun Q K => k_lin fun W K => ?_
  refine l_op 0 rfl rfl rfl rfl rfl ?_
  refine l_op 2 rfl rfl rfl rfl rfl ?_
  refine l_op 0 rfl rfl rfl rfl rfl ?_
  refine l_nil (WK.nx ‹_› (SeqK.nx ‹_› ?_))
  refine k_block fun Q K => ?_
  refine k_loop (α := Int) (fun i s => Facts E0 σ s [] ∧ 0 ≤ i ∧ i ≤ bl.length ∧ idxR ad bl = if idxR ad (bl.drop i.toNat) < 0 then -1 else idxR ad (bl.drop i.toNat) + i) (fun i => [(0, .slice a bl.length c), (1, .func (.func 171) #[] #[.pointer (some ⟨q, 0, none⟩)]), (7, .int .i64 bl.length), (8, .int .i64 i)]) (fun i => (bl.length - i).toNat) 0 ⟨F, by omega, by omega, by have := idxR_low ad bl; simp only [Int.toNat_zero, List.drop_zero]; split <;> omega⟩ (by repeat (first | exact trivial | refine And.intro rfl ?_)) ?_
  clear F
  rintro i env s Q K0 ⟨F, i0, i1, hx⟩
  refine k_seq fun Q K => k_lin fun W K => ?_
  refine l_cmp rfl rfl rfl rfl ?_
  refine l_nil (WK.nx ‹_› (SeqK.nx ‹_› ?_))
  refine k_seq fun Q K => ?_
  refine l_cond rfl rfl (fun hc1 => ?_) (fun hc1 => ?_)
  · replace hc1 := of_decide_eq_true ((irr_eq _).symm.trans hc1)
    refine k_skip (SeqK.nx ‹_› ?_)
    refine k_seq fun Q K => k_block fun Q K => k_seq fun Q K => k_lin fun W K => ?_
    iterate 2 refine l_op 0 rfl rfl rfl rfl rfl ?_
    refine l_nil (WK.nx ‹_› (SeqK.nx ‹_› ?_))
    refine k_seq fun Q K => k_lin fun W K => ?_
    iterate 3 refine l_op 0 rfl rfl rfl rfl rfl ?_
    refine l_ixr (e := eB) rfl rfl rfl rfl rfl rfl (F.old (by assumption)) ⟨eB_len, by decide⟩ (by omega) (fun m14 b14 hA14 => ?_)
    refine l_lda rfl rfl rfl rfl rfl (by assumption) ?_
    refine l_callp F rfl rfl (by kernel_rfl) rfl rfl (is_call (F.oldc0 hq)) (fun _ s F _ => ?_)
    (try dsimp only [n_1, n_2, n_3, n_4, List.append_nil, pk, n_5, n_6] at F)
    refine l_nil (WK.nx ‹_› (SeqK.nx ‹_› ?_))
    refine l_cond rfl rfl (fun hc2 => ?_) (fun hc2 => ?_)
    · try simp only [i_1, i_2, i_3, i_4, i_5, ne_eq, i_6, i_7, i_8, i_9] at hc2
      rw [idxR_drop (by omega), if_pos hc2] at hx
      refine k_seq fun Q K => k_lin fun W K => ?_
      iterate 2 refine l_op 0 rfl rfl rfl rfl rfl ?_
      refine l_nil (WK.nx ‹_› (SeqK.nx ‹_› (k_ret (BlkK.rt ‹_› (SeqK.rt ‹_› ?_)))))
      refine LoopK.rt (by assumption) ?_
      refine BlkK.rt ‹_› (SeqK.rt ‹_› ?_)
      refine FunK.rt (by assumption) rfl ?_
      -- leaf 1
      refine ⟨(), ?_, F.pick [] (by decide), trivial⟩
      (have e : idxR ad bl = i := by rw [hx]; simp
       rw [e]; rfl)
    try simp only [i_1, i_2, i_3, i_4, i_5, ne_eq, i_6, i_7, i_8, i_9] at hc2
    rw [idxR_drop (by omega), if_neg hc2] at hx
    refine k_skip (BlkK.nx ‹_› (SeqK.nx ‹_› ?_))
    refine k_lin fun W K => ?_
    refine l_a64 rfl rfl rfl (by omega) rfl ?_
    refine l_op 0 rfl rfl rfl rfl rfl ?_
    refine l_nil (WK.nx ‹_› ?_)
    have e1 : (i + 1).toNat = i.toNat + 1 := by omega
    have F' := F.pick [] (by decide)
    exact K0.nx (i + 1) (by repeat (first | exact trivial | refine And.intro rfl ?_)) ⟨F', by omega, by omega, by rw [hx, e1]; split <;> split <;> omega⟩ (by first | omega | (simp only; omega))
  replace hc1 := of_decide_eq_false ((irr_eq _).symm.trans hc1)
  rw [List.drop_of_length_le (by omega)] at hx
  refine k_exit ?_
  refine SeqK.et (by assumption) ?_
  refine LoopK.et (by assumption) ?_
  refine BlkK.et (by assumption) ?_
  refine SeqK.nx ‹_› ?_
  refine k_seq fun Q K => k_lin fun W K => ?_
  refine l_op 0 rfl rfl rfl rfl rfl ?_
  refine l_nil (WK.nx ‹_› (SeqK.nx ‹_› (k_ret ?_)))
  refine FunK.rt (by assumption) rfl ?_
  -- leaf 2
  refine ⟨(), ?_, F.pick [] (by decide), trivial⟩
  (have e : idxR ad bl = -1 := by rw [hx]; simp [idxR]
   rw [e]; rfl)

theorem rows_del (bl : List (Int × Int)) (i : Nat) (hi : i < bl.length) (zs : List Value) : (splice (splice (rows eB bl) (i * 2) (rows eB (bl.drop (i + 1)))) ((bl.length - 1) * 2) zs).take ((bl.length - 1) * 2) = rows eB (bl.eraseIdx i) := by
  have h1 : (rows eB bl).length = bl.length * 2 := rows_length eB_len _
  have h2 : (rows eB (bl.drop (i + 1))).length = (bl.length - (i + 1)) * 2 := by rw [rows_length eB_len, List.length_drop]
  have h3 : (splice (rows eB bl) (i * 2) (rows eB (bl.drop (i + 1)))).take ((bl.length - 1) * 2) = rows eB (bl.eraseIdx i) := by
    unfold splice
    rw [List.eraseIdx_eq_take_drop_succ, rows_append, rows_take eB_len]
    have e1 : (rows eB (bl.take i)).length = i * 2 := by rw [rows_length eB_len, List.length_take]; omega
    rw [List.take_append, e1, List.take_of_length_le (l := rows eB (bl.take i)) (by omega), List.take_append_of_le_length (by omega), List.take_of_length_le (l := rows eB (bl.drop (i + 1))) (by omega)]
  have h4 : (splice (rows eB bl) (i * 2) (rows eB (bl.drop (i + 1)))).length = bl.length * 2 := by rw [splice_length (by omega), h1]
  generalize splice (rows eB bl) (i * 2) (rows eB (bl.drop (i + 1))) = V at *
  rw [← h3]
  unfold splice
  rw [List.take_append_of_le_length (by rw [List.length_take]; omega), List.take_take, Nat.min_self]

theorem delete_call {O : Nat → Prop} {σ : AState} {m c : Nat} {i : Int} {bl : List (Int × Int)} (F : Facts O σ σ [own (some ⟨m, 0, some 0⟩) bl.length c 2 (rows eB bl)]) (hi : 0 ≤ i ∧ i < bl.length) (hn : bl.length ≤ 1000000) :
    SCall Tryz.prog O 172 [.slice (some ⟨m, 0, some 0⟩) bl.length c, .int .i64 i, .int .i64 (i + 1)] σ (Ret O σ (fun (_ : Unit) => .slice (some ⟨m, 0, some 0⟩) (bl.length - 1) c) (fun _ => [own (some ⟨m, 0, some 0⟩) (bl.length - 1) c 2 (rows eB (bl.eraseIdx i.toNat))]) fun _ => True) := by
  have hcap : bl.length ≤ c := by obtain ⟨zs, hR, _⟩ := F.has 0 rfl; exact hR.size.2
  refine k_fun Tryz.func172 rfl (m := 33) rfl fun B hD Q K => ?_
  refine k_seq fun Q K => k_lin fun W K => ?_
  refine l_op 0 rfl rfl rfl rfl rfl ?_
  refine l_nil (WK.nx ‹_› (SeqK.nx ‹_› ?_))
  refine k_seq fun Q K => k_lin fun W K => ?_
  iterate 4 refine l_op 0 rfl rfl rfl rfl rfl ?_
  refine l_op 2 rfl rfl rfl rfl rfl ?_
  refine l_slm rfl rfl rfl rfl ⟨rfl, _, _, rfl, by omega, rfl⟩ ⟨rfl, _, _, rfl, by omega, rfl⟩ ⟨rfl, _, _, rfl, by omega, rfl⟩ ⟨by omega, by omega, by omega⟩ ?_
  refine l_nil (WK.nx ‹_› (SeqK.nx ‹_› ?_))
  refine k_seq fun Q K => k_seq fun Q K => k_lin fun W K => ?_
  iterate 2 refine l_op 0 rfl rfl rfl rfl rfl ?_
  refine l_cmp rfl rfl rfl rfl ?_
  refine l_nil (WK.nx ‹_› (SeqK.nx ‹_› ?_))
  refine l_cond rfl rfl (fun hc1 => ?_) (fun hc1 => ?_)
  · replace hc1 := eq_of_beq ((irr_eq _).symm.trans hc1)
    omega
  replace hc1 := ne_of_beq_false ((irr_eq _).symm.trans hc1)
  refine k_skip (SeqK.nx ‹_› ?_)
  refine k_seq fun Q K => k_lin fun W K => ?_
  refine l_op 0 rfl rfl rfl rfl rfl ?_
  refine l_op 2 rfl rfl rfl rfl rfl ?_
  refine l_op 0 rfl rfl rfl rfl rfl ?_
  refine l_nil (WK.nx ‹_› (SeqK.nx ‹_› ?_))
  refine k_seq fun Q K => ?_
  refine k_linr mixed (by kernel_rfl) (fun W K => ?_)
  try have hpS := F.pns
  iterate 2 refine l_op 0 rfl rfl rfl rfl rfl ?_
  refine l_slh (es := 2) rfl rfl rfl rfl rfl ⟨rfl, _, _, rfl, by omega, rfl⟩ (F.has 0 rfl) (by omega) ?_
  iterate 2 refine l_op 0 rfl rfl rfl rfl rfl ?_
  refine l_sl (es := 2) rfl rfl rfl rfl rfl rfl rfl rfl rfl (F.has 0 rfl) (by omega) ?_
  have hp := (F.has 0 rfl).part (lo := (i + 1).toNat) (hi := bl.length) (by omega) (by omega)
  refine l_appo (es := 2) F 0 rfl rfl rfl rfl rfl rfl rfl hp (all_take (all_drop (eB_one bl) _) _) (by omega) hD (fun s F => ?_)
  (try dsimp only [n_1, n_2, n_3, n_4, List.append_nil, pk, n_5, n_6] at F)
  refine l_op 0 rfl rfl rfl rfl rfl ?_
  refine l_nil (WK.nx ‹_› (SeqK.nx ‹_› ?_))
  refine k_seq fun Q K => k_lin fun W K => ?_
  iterate 2 refine l_op 0 rfl rfl rfl rfl rfl ?_
  refine l_op 2 rfl rfl rfl rfl rfl ?_
  refine l_op 0 rfl rfl rfl rfl rfl ?_
  refine l_sl (es := 2) rfl rfl rfl rfl rfl rfl rfl rfl ⟨rfl, _, _, rfl, by omega, rfl⟩ (F.has 0 rfl) (by omega) ?_
  refine l_clr (es := 2) F 0 rfl rfl rfl rfl rfl rfl (by dsimp only; omega) hD (fun s F => ?_)
  (try dsimp only [n_1, n_2, n_3, n_4, List.append_nil, pk, n_5, n_6] at F)
  refine l_nil (WK.nx ‹_› (SeqK.nx ‹_› ?_))
  refine k_seq fun Q K => k_lin fun W K => ?_
  iterate 2 refine l_op 0 rfl rfl rfl rfl rfl ?_
  refine l_nil (WK.nx ‹_› (SeqK.nx ‹_› (k_ret ?_)))
  refine FunK.rt (by assumption) rfl ?_
  -- leaf 1
  have e1 : i.toNat + (bl.length - (i + 1).toNat) = bl.length - 1 := by omega
  have e2 : 0 + (↑(bl.length - 1) : Int).toNat * 2 = (bl.length - 1) * 2 := by omega
  have e3 : (i + 1).toNat = i.toNat + 1 := by omega
  have e4 : ((rows eB bl).drop ((i.toNat + 1) * 2)).take ((bl.length - (i.toNat + 1)) * 2) = rows eB (bl.drop (i.toNat + 1)) := by
    rw [rows_drop eB_len, List.take_of_length_le (by rw [rows_length eB_len, List.length_drop]; omega)]
  rw [e1] at F ⊢
  rw [e2, e3, e4] at F
  have G := F.upto 0 rfl (h := bl.length - 1) (by omega)
  rw [rows_del bl i.toNat (by omega)] at G
  exact ⟨(), rfl, G, trivial⟩

def freeR (st en : Int) (bl : List (Int × Int)) (ad : Int) : HR :=
  if idxR ad bl < 0 then ⟨5, false, st, en, bl⟩
  else if (bl.eraseIdx (idxR ad bl).toNat).length = 0 then ⟨0, true, 0, 0, bl.eraseIdx (idxR ad bl).toNat⟩ else ⟨0, true, st, en, bl.eraseIdx (idxR ad bl).toNat⟩
theorem free_call {O : Nat → Prop} {σ : AState} {m c : Nat} {a : Option Addr} {most st en ad : Int} {bl : List (Int × Int)} (F : Facts O σ σ (hF m a c most st en bl)) (hEx : Ex a) (hn : bl.length ≤ 4096) :
    SCall Tryz.prog O 142 [.pointer (some ⟨m, 0, none⟩), .int .u32 ad] σ (Ret O σ (fun (_ : Option Addr × Nat) => .int .i64 (freeR st en bl ad).ret) (fun y => hF m y.1 y.2 most (freeR st en bl ad).st (freeR st en bl ad).en (freeR st en bl ad).bl) fun y => Ex y.1) := by
  have hlow := idxR_low ad bl
  refine k_fun Tryz.func142 rfl (m := 39) rfl fun B hD Q K => ?_
  refine k_seq fun Q K => k_lin fun W K => ?_
  refine l_bx F rfl rfl rfl rfl rfl (fun q3 s F => ?_)
  (try dsimp only [n_1, n_2, n_3, n_4, List.append_nil, pk, n_5, n_6] at F)
  refine l_op 0 rfl rfl rfl rfl rfl ?_
  refine l_nil (WK.nx ‹_› (SeqK.nx ‹_› ?_))
  refine k_seq fun Q K => k_seq fun Q K => k_lin fun W K => ?_
  refine l_op 0 rfl rfl rfl rfl rfl ?_
  refine l_cmp rfl rfl rfl rfl ?_
  refine l_nil (WK.nx ‹_› (SeqK.nx ‹_› ?_))
  refine l_cond rfl rfl (fun hc1 => ?_) (fun hc1 => ?_)
  · exact absurd ((irr_eq _).symm.trans hc1) (by decide)
  simp only [irr_eq, beq_iff_eq, beq_eq_false_iff_ne, ne_eq, decide_eq_true_eq, decide_eq_false_iff_not] at hc1
  refine k_skip (SeqK.nx ‹_› ?_)
  refine k_seq fun Q K => k_lin fun W K => ?_
  refine l_op 0 rfl rfl rfl rfl rfl ?_
  iterate 2 refine l_op 2 rfl rfl rfl rfl rfl ?_
  refine l_ldc F 0 rfl rfl rfl rfl rfl rfl rfl ?_
  refine l_mkf rfl rfl rfl ?_
  refine l_callp F rfl rfl (by kernel_rfl) rfl rfl (index_call (bl := bl) (Old.pure (F.has 1 rfl)) (F.cel0 2 rfl) (by omega)) (fun _ s F _ => ?_)
  (try dsimp only [n_1, n_2, n_3, n_4, List.append_nil, pk, n_5, n_6] at F)
  refine l_op 0 rfl rfl rfl rfl rfl ?_
  refine l_nil (WK.nx ‹_› (SeqK.nx ‹_› ?_))
  refine k_seq fun Q K => k_seq fun Q K => k_lin fun W K => ?_
  refine l_op 0 rfl rfl rfl rfl rfl ?_
  refine l_cmp rfl rfl rfl rfl ?_
  refine l_nil (WK.nx ‹_› (SeqK.nx ‹_› ?_))
  refine l_cond rfl rfl (fun hc2 => ?_) (fun hc2 => ?_)
  · replace hc2 := of_decide_eq_true ((irr_eq _).symm.trans hc2)
    refine k_seq fun Q K => k_lin fun W K => ?_
    refine l_op 0 rfl rfl rfl rfl rfl ?_
    refine l_nil (WK.nx ‹_› (SeqK.nx ‹_› (k_ret (SeqK.rt ‹_› ?_))))
    refine FunK.rt (by assumption) rfl ?_
    -- leaf 1
    generalize hR : freeR st en bl ad = r
    have hlen : 0 ≤ idxR ad bl → (bl.eraseIdx (idxR ad bl).toNat).length = bl.length - 1 := fun h => by rw [List.length_eraseIdx_of_lt (by omega)]
    unfold freeR at hR
    (repeat' split at hR) <;> first
      | (exfalso; omega)
      | (exfalso; rw [hlen (by omega)] at *; omega)
      | (subst hR; first
          | exact ⟨(a, c), rfl, F.pick [0, 1] (by decide), hEx⟩
          | (refine ⟨(some ⟨m2, 0, some 0⟩, c), rfl, ?_, hEx⟩
             unfold hF hC; rw [hlen (by omega)]; exact F))
  replace hc2 := of_decide_eq_false ((irr_eq _).symm.trans hc2)
  refine k_skip (SeqK.nx ‹_› ?_)
  refine k_seq fun Q K => k_lin fun W K => ?_
  iterate 2 refine l_op 0 rfl rfl rfl rfl rfl ?_
  iterate 2 refine l_op 2 rfl rfl rfl rfl rfl ?_
  refine l_ldc F 0 rfl rfl rfl rfl rfl rfl rfl ?_
  iterate 2 refine l_op 0 rfl rfl rfl rfl rfl ?_
  refine l_a64 rfl rfl rfl (by omega) rfl ?_
  obtain ⟨m2, rfl⟩ : ∃ m2, a = some ⟨m2, 0, some 0⟩ := by
    rcases hEx with rfl | h
    · have := (nil_has (F.has 1 rfl)).1; omega
    · exact h
  refine l_call F [1] [0] (by decide) rfl rfl (by kernel_rfl) rfl rfl (delete_call (bl := bl) (F.sub [1] (by decide)) (by omega) (by omega)) hD (fun y s F hy => ?_)
  (try dsimp only [n_1, n_2, n_3, n_4, List.append_nil, pk, n_5, n_6] at F)
  iterate 2 refine l_op 2 rfl rfl rfl rfl rfl ?_
  refine l_stc F 0 rfl rfl rfl rfl rfl rfl rfl rfl rfl hD (fun s F => ?_)
  (try dsimp only [n_1, n_2, n_3, n_4, List.append_nil, pk, n_5, n_6] at F)
  refine l_nil (WK.nx ‹_› (SeqK.nx ‹_› ?_))
  refine k_seq fun Q K => k_seq fun Q K => k_lin fun W K => ?_
  refine l_op 0 rfl rfl rfl rfl rfl ?_
  iterate 2 refine l_op 2 rfl rfl rfl rfl rfl ?_
  refine l_ldc F 0 rfl rfl rfl rfl rfl rfl rfl ?_
  refine l_op 2 rfl rfl rfl rfl rfl ?_
  refine l_cmp rfl rfl rfl rfl ?_
  refine l_nil (WK.nx ‹_› (SeqK.nx ‹_› ?_))
  refine l_cond rfl rfl (fun hc3 => ?_) (fun hc3 => ?_)
  · replace hc3 := eq_of_beq ((irr_eq _).symm.trans hc3)
    refine k_lin fun W K => ?_
    iterate 2 refine l_op 0 rfl rfl rfl rfl rfl ?_
    iterate 2 refine l_op 2 rfl rfl rfl rfl rfl ?_
    refine l_stc F 0 rfl rfl rfl rfl rfl rfl rfl rfl rfl hD (fun s F => ?_)
    (try dsimp only [n_1, n_2, n_3, n_4, List.append_nil, pk, n_5, n_6] at F)
    iterate 2 refine l_op 2 rfl rfl rfl rfl rfl ?_
    refine l_stc F 0 rfl rfl rfl rfl rfl rfl rfl rfl rfl hD (fun s F => ?_)
    (try dsimp only [n_1, n_2, n_3, n_4, List.append_nil, pk, n_5, n_6] at F)
    refine l_nil (WK.nx ‹_› (SeqK.nx ‹_› ?_))
    refine k_seq fun Q K => k_lin fun W K => ?_
    refine l_op 0 rfl rfl rfl rfl rfl ?_
    refine l_nil (WK.nx ‹_› (SeqK.nx ‹_› (k_ret ?_)))
    refine FunK.rt (by assumption) rfl ?_
    -- leaf 2
    generalize hR : freeR st en bl ad = r
    have hlen : 0 ≤ idxR ad bl → (bl.eraseIdx (idxR ad bl).toNat).length = bl.length - 1 := fun h => by rw [List.length_eraseIdx_of_lt (by omega)]
    unfold freeR at hR
    (repeat' split at hR) <;> first
      | (exfalso; omega)
      | (exfalso; rw [hlen (by omega)] at *; omega)
      | (subst hR; first
          | exact ⟨(a, c), rfl, F.pick [0, 1] (by decide), hEx⟩
          | (refine ⟨(some ⟨m2, 0, some 0⟩, c), rfl, ?_, hEx⟩
             unfold hF hC; rw [hlen (by omega)]; exact F))
  replace hc3 := ne_of_beq_false ((irr_eq _).symm.trans hc3)
  refine k_skip (SeqK.nx ‹_› ?_)
  refine k_seq fun Q K => k_lin fun W K => ?_
  refine l_op 0 rfl rfl rfl rfl rfl ?_
  refine l_nil (WK.nx ‹_› (SeqK.nx ‹_› (k_ret ?_)))
  refine FunK.rt (by assumption) rfl ?_
  -- leaf 3
  generalize hR : freeR st en bl ad = r
  have hlen : 0 ≤ idxR ad bl → (bl.eraseIdx (idxR ad bl).toNat).length = bl.length - 1 := fun h => by rw [List.length_eraseIdx_of_lt (by omega)]
  unfold freeR at hR
  (repeat' split at hR) <;> first
    | (exfalso; omega)
    | (exfalso; rw [hlen (by omega)] at *; omega)
    | (subst hR; first
        | exact ⟨(a, c), rfl, F.pick [0, 1] (by decide), hEx⟩
        | (refine ⟨(some ⟨m2, 0, some 0⟩, c), rfl, ?_, hEx⟩
           unfold hF hC; rw [hlen (by omega)]; exact F))

end Go.Proofs.YtocfmecenpeoiaaGreat
