/- No two blocks touch. No statement of the seat is proved in this text. -/
import Derived.Test.YtkealnppdblgiaaHInv
set_option linter.unusedVariables false
set_option linter.unusedSimpArgs false
set_option maxRecDepth 100000
set_option maxHeartbeats 4000000
namespace Go.Proofs.Ytkealnppdblgiaa
open GAb Go

/-- A heap's state in a walk. -/
structure HS where
  a : Option Addr
  c : Nat
  st : Int
  en : Int
  bl : List (Int × Int)
abbrev HS.f (g : HS) (m : Nat) (most : Int) : List Fact := hF m g.a g.c most g.st g.en g.bl
def HS.ok (g : HS) (most : Int) : Prop := Ex g.a ∧ HOK most g.st g.en g.bl
theorem loadL_call {O : Nat → Prop} {σ : AState} {m c0 : Nat} {a0 : Option Addr} {most st0 en0 : Int} {bl0 : List (Int × Int)} {st en : Int} {a : Option Addr} {l c : Nat} {xs : List (Int × Int)} (F : Facts O σ σ (hF m a0 c0 most st0 en0 bl0)) (hEx : Ex a0) (hl : Old O σ a l c 2 (rows eB xs)) (hB : BlkOK xs) (hs : U32 st) (he : U32 en) :
    SCall Try.prog O 21 [.pointer (some ⟨m, 0, none⟩), .int .u32 st, .int .u32 en, .slice a l c] σ (Ret O σ (fun (_ : Option Addr × Nat) => .int .i64 (loadR most st0 en0 bl0 st en xs).ret) (fun y => hF m y.1 y.2 most (loadR most st0 en0 bl0 st en xs).st (loadR most st0 en0 bl0 st en xs).en (loadR most st0 en0 bl0 st en xs).bl) fun y => Ex y.1) := by
  obtain rfl : xs.length = l := hl.1.len eB_len (by decide)
  exact load_call F hEx hl hB hs he
theorem OldA.oldL {σ : AState} {a : Option Addr} {l c : Nat} {ts : List Act} (h : OldA σ a l c ts) {i : Nat} (hi : i < ts.length) : ∃ xs, Old E0 σ (ts.getD i default).x (ts.getD i default).l (ts.getD i default).c 2 (rows eB xs) ∧ BlkOK xs := by
  have := h.ok _ (List.getElem_mem hi)
  simp only [List.getD, List.getElem?_eq_getElem hi, Option.getD_some]
  exact ⟨_, this.2.2.2.1, this.2.2.2.2.1⟩

theorem apart_law {σ : AState} {a : Option Addr} {l c : Nat} {ts : List Act} {most : Int} (h : OldA σ a l c ts) (hm : U32 most) :
    SCall Try.prog E0 7 [.int .u32 most, .slice a l c] σ (fun v _ => v = .bool true) := by
  obtain rfl := h.len
  have ho := h.old
  refine k_fun Try.func7 rfl (m := 152) rfl fun B hD Q K => ?_
  have F := Facts.nil E0 σ
  refine k_seq (fun Q K => ?_)
  refine k_lin (fun W K => ?_)
  refine l_op 0 rfl rfl rfl rfl rfl ?_
  refine l_nil (WK.nx (by assumption) ?_)
  refine SeqK.nx (by assumption) ?_
  refine k_seq (fun Q K => ?_)
  refine k_seq (fun Q K => ?_)
  refine k_lin (fun W K => ?_)
  refine l_op 0 rfl rfl rfl rfl rfl ?_
  refine l_callp F rfl rfl (by kernel_rfl) rfl rfl (huge_call (h.to F)) (fun hg s F hhg => ?_)
  (try dsimp only [n_1, n_2, n_3, n_4, List.append_nil, pk, n_5, n_6] at F)
  refine l_nil (WK.nx (by assumption) ?_)
  refine SeqK.nx (by assumption) ?_
  refine l_cond rfl rfl (fun hc1 => ?_) (fun hc1 => ?_)
  · try simp only [irr_eq, beq_iff_eq, bne_iff_ne, beq_eq_false_iff_ne, bne_eq_false_iff_eq, ne_eq, decide_eq_true_eq, decide_eq_false_iff_not, Bool.not_eq_true', Bool.not_eq_false'] at hc1
    refine k_seq (fun Q K => ?_)
    refine k_lin (fun W K => ?_)
    refine l_callp F rfl rfl (by kernel_rfl) rfl rfl live_call (fun _ s F _ => ?_)
    (try dsimp only [n_1, n_2, n_3, n_4, List.append_nil, pk, n_5, n_6] at F)
    refine l_op 0 rfl rfl rfl rfl rfl ?_
    refine l_nil (WK.nx (by assumption) ?_)
    refine SeqK.nx (by assumption) ?_
    refine k_ret ?_
    refine SeqK.rt (by assumption) ?_
    refine FunK.rt (by assumption) rfl ?_
    -- leaf 1
    exact rfl
  try simp only [irr_eq, beq_iff_eq, bne_iff_ne, beq_eq_false_iff_ne, bne_eq_false_iff_eq, ne_eq, decide_eq_true_eq, decide_eq_false_iff_not, Bool.not_eq_true', Bool.not_eq_false'] at hc1
  refine k_skip ?_
  refine SeqK.nx (by assumption) ?_
  refine k_seq (fun Q K => ?_)
  refine k_lin (fun W K => ?_)
  refine l_op 0 rfl rfl rfl rfl rfl ?_
  refine l_callp F rfl rfl (by kernel_rfl) rfl rfl (new_call (most := most)) (fun m s F _ => ?_)
  (try dsimp only [n_1, n_2, n_3, n_4, List.append_nil, pk, n_5, n_6] at F)
  refine l_op 0 rfl rfl rfl rfl rfl ?_
  refine l_nil (WK.nx (by assumption) ?_)
  refine SeqK.nx (by assumption) ?_
  refine k_seq (fun Q K => ?_)
  refine k_seq (fun Q K => ?_)
  refine k_lin (fun W K => ?_)
  refine l_op 0 rfl rfl rfl rfl rfl ?_
  refine l_cmp rfl rfl rfl rfl ?_
  refine l_nil (WK.nx (by assumption) ?_)
  refine SeqK.nx (by assumption) ?_
  refine l_cond rfl rfl (fun hc2 => ?_) (fun hc2 => ?_)
  · exact absurd ((irr_eq _).symm.trans hc2) (by decide)
  first | replace hc2 := ne_of_beq_false ((irr_eq _).symm.trans hc2) | simp only [irr_eq, beq_iff_eq, beq_eq_false_iff_ne, ne_eq, decide_eq_true_eq, decide_eq_false_iff_not] at hc2
  refine k_skip ?_
  refine SeqK.nx (by assumption) ?_
  refine k_seq (fun Q K => ?_)
  refine k_seq (fun Q K => ?_)
  refine k_lin (fun W K => ?_)
  refine l_op 0 rfl rfl rfl rfl rfl ?_
  refine l_nil (WK.nx (by assumption) ?_)
  refine SeqK.nx (by assumption) ?_
  refine k_block (fun Q K => ?_)
  have hl2 : ts.length ≤ 200 := hhg hc1
  refine k_loop (α := Int × HS) (fun ⟨i, g⟩ s => Facts E0 σ s (g.f m most) ∧ g.ok most ∧ 0 ≤ i ∧ i ≤ ts.length) (fun ⟨i, g⟩ => [(0, .int .u32 most), (1, .slice a ts.length c), (5, .pointer (some ⟨m, 0, none⟩)), (6, .int .i64 i)]) (fun ⟨i, _⟩ => (ts.length - i).toNat) (0, ⟨none, 0, 0, 0, []⟩) ⟨F.pick [0, 1] (by decide), ⟨.inl rfl, hok_new most⟩, by omega, by omega⟩ (by repeat (first | exact trivial | refine And.intro rfl ?_)) ?_
  clear F
  rintro ⟨i, ⟨a0, c0, st0, en0, bl0⟩⟩ env s Q K0 ⟨F, ⟨hEx, hok⟩, i0, i1⟩
  refine k_seq (fun Q K => ?_)
  refine k_seq (fun Q K => ?_)
  refine k_lin (fun W K => ?_)
  refine l_op 0 rfl rfl rfl rfl rfl ?_
  refine l_op 0 rfl rfl rfl rfl rfl ?_
  first | refine l_op 2 rfl rfl rfl rfl rfl ?_ | refine l_ln rfl rfl rfl rfl ?_
  refine l_cmp rfl rfl rfl rfl ?_
  refine l_nil (WK.nx (by assumption) ?_)
  refine SeqK.nx (by assumption) ?_
  refine l_cond rfl rfl (fun hc3 => ?_) (fun hc3 => ?_)
  · replace hc3 := of_decide_eq_true ((irr_eq _).symm.trans hc3)
    obtain ⟨u1, u2, u3⟩ := h.at (i := i.toNat) (by omega)
    obtain ⟨xs, hol, hbl⟩ := h.oldL (i := i.toNat) (by omega)
    refine k_skip ?_
    refine SeqK.nx (by assumption) ?_
    refine k_seq (fun Q K => ?_)
    refine k_block (fun Q K => ?_)
    refine k_cut (α := HS) (fun g s => Facts E0 σ s (g.f m most) ∧ g.ok most) (fun g => [(0, .int .u32 most), (1, .slice a ts.length c), (5, .pointer (some ⟨m, 0, none⟩)), (6, .int .i64 i)]) (fun Q KC => ?_) ?_
    · refine k_seq (fun Q K => ?_)
      refine k_lin (fun W K => ?_)
      refine l_op 0 rfl rfl rfl rfl rfl ?_
      refine l_op 0 rfl rfl rfl rfl rfl ?_
      first | refine l_ixrs (e := eA) F ho ⟨eA_len, by decide⟩ rfl rfl rfl rfl rfl rfl (by omega) (fun m25 b25 hA25 hS25 => ?_) | refine l_ixr (e := eA) rfl rfl rfl rfl rfl rfl (F.old ho) ⟨eA_len, by decide⟩ (by omega) (fun m25 b25 hA25 => ?_)
      refine l_op 2 rfl rfl rfl rfl rfl ?_
      refine l_ld0 rfl rfl rfl rfl rfl (by assumption) ?_
      refine l_nil (WK.nx (by assumption) ?_)
      refine SeqK.nx (by assumption) ?_
      refine k_block (fun Q K => ?_)
      refine k_seq (fun Q K => ?_)
      refine k_lin (fun W K => ?_)
      refine l_cmp rfl rfl rfl rfl ?_
      refine l_op 0 rfl rfl rfl rfl rfl ?_
      refine l_nil (WK.nx (by assumption) ?_)
      refine SeqK.nx (by assumption) ?_
      refine l_cond rfl rfl (fun hc4 => ?_) (fun hc4 => ?_)
      · first | replace hc4 := eq_of_beq ((irr_eq _).symm.trans hc4) | simp only [irr_eq, beq_iff_eq, beq_eq_false_iff_ne, ne_eq, decide_eq_true_eq, decide_eq_false_iff_not] at hc4
        refine k_linm [0, 1, 2, 3, 4, 6, 7, 8, 9, 5, 10, 11] mixed (by kernel_rfl) (fun W K => ?_)
        try have hpS := F.pns
        refine l_op 0 rfl rfl rfl rfl rfl ?_
        refine l_op 0 rfl rfl rfl rfl rfl ?_
        refine l_op 0 rfl rfl rfl rfl rfl ?_
        first | refine l_ixrs (e := eA) F ho ⟨eA_len, by decide⟩ rfl rfl rfl rfl rfl rfl (by omega) (fun m33 b33 hA33 hS33 => ?_) | refine l_ixr (e := eA) rfl rfl rfl rfl rfl rfl (F.old ho) ⟨eA_len, by decide⟩ (by omega) (fun m33 b33 hA33 => ?_)
        refine l_op 2 rfl rfl rfl rfl rfl ?_
        refine l_op 0 rfl rfl rfl rfl rfl ?_
        refine l_op 0 rfl rfl rfl rfl rfl ?_
        first | refine l_ixrs (e := eA) F ho ⟨eA_len, by decide⟩ rfl rfl rfl rfl rfl rfl (by omega) (fun m38 b38 hA38 hS38 => ?_) | refine l_ixr (e := eA) rfl rfl rfl rfl rfl rfl (F.old ho) ⟨eA_len, by decide⟩ (by omega) (fun m38 b38 hA38 => ?_)
        refine l_op 2 rfl rfl rfl rfl rfl ?_
        refine l_ldj rfl rfl rfl rfl rfl rfl (by assumption) rfl ?_
        first | have hpS := PnS.add hpS hS33 | have hpS := PnS.add hpS (OldC.sf (by assumption)) | skip
        refine l_ldj rfl rfl rfl rfl rfl rfl (by assumption) rfl ?_
        first | have hpS := PnS.add hpS hS38 | have hpS := PnS.add hpS (OldC.sf (by assumption)) | skip
        refine l_call F [0, 1] [] (by decide) rfl rfl (by kernel_rfl) rfl rfl (malloc_call (F.sub [0, 1] (by decide)) hEx hok.blk hok.len hm hok.ust hok.uen u1 u3) hD (fun y s F hy => ?_)
        (try dsimp only [n_1, n_2, n_3, n_4, List.append_nil, pk, n_5, n_6] at F)
        refine l_nil (WK.nx (by assumption) ?_)
        refine BlkK.nx (by assumption) ?_
        first
        | exact KC.nx ⟨y.1, y.2, _, _, _⟩ (by repeat (first | exact trivial | refine And.intro rfl ?_)) ⟨F, hy, hok_malloc hok hm u1 u3⟩
        | exact KC.nx ⟨y.1, y.2, _, _, _⟩ (by repeat (first | exact trivial | refine And.intro rfl ?_)) ⟨F, hy, hok_free hok⟩
        | exact KC.nx ⟨y.1, y.2, _, _, _⟩ (by repeat (first | exact trivial | refine And.intro rfl ?_)) ⟨F, hy, hok_load hok hbl u2 u3⟩
        | exact KC.nx ⟨a0, c0, st0, en0, bl0⟩ (by repeat (first | exact trivial | refine And.intro rfl ?_)) ⟨F, hEx, hok⟩
      first | replace hc4 := ne_of_beq_false ((irr_eq _).symm.trans hc4) | simp only [irr_eq, beq_iff_eq, beq_eq_false_iff_ne, ne_eq, decide_eq_true_eq, decide_eq_false_iff_not] at hc4
      refine k_seq (fun Q K => ?_)
      refine k_lin (fun W K => ?_)
      refine l_cmp rfl rfl rfl rfl ?_
      refine l_op 0 rfl rfl rfl rfl rfl ?_
      refine l_nil (WK.nx (by assumption) ?_)
      refine SeqK.nx (by assumption) ?_
      refine l_cond rfl rfl (fun hc5 => ?_) (fun hc5 => ?_)
      · first | replace hc5 := eq_of_beq ((irr_eq _).symm.trans hc5) | simp only [irr_eq, beq_iff_eq, beq_eq_false_iff_ne, ne_eq, decide_eq_true_eq, decide_eq_false_iff_not] at hc5
        refine k_lin (fun W K => ?_)
        refine l_op 0 rfl rfl rfl rfl rfl ?_
        refine l_op 0 rfl rfl rfl rfl rfl ?_
        refine l_op 0 rfl rfl rfl rfl rfl ?_
        first | refine l_ixrs (e := eA) F ho ⟨eA_len, by decide⟩ rfl rfl rfl rfl rfl rfl (by omega) (fun m47 b47 hA47 hS47 => ?_) | refine l_ixr (e := eA) rfl rfl rfl rfl rfl rfl (F.old ho) ⟨eA_len, by decide⟩ (by omega) (fun m47 b47 hA47 => ?_)
        refine l_op 2 rfl rfl rfl rfl rfl ?_
        refine l_ldj rfl rfl rfl rfl rfl rfl (by assumption) rfl ?_
        refine l_call F [0, 1] [] (by decide) rfl rfl (by kernel_rfl) rfl rfl (free_call (F.sub [0, 1] (by decide)) hEx hok.len) hD (fun y s F hy => ?_)
        (try dsimp only [n_1, n_2, n_3, n_4, List.append_nil, pk, n_5, n_6] at F)
        refine l_nil (WK.nx (by assumption) ?_)
        refine BlkK.nx (by assumption) ?_
        first
        | exact KC.nx ⟨y.1, y.2, _, _, _⟩ (by repeat (first | exact trivial | refine And.intro rfl ?_)) ⟨F, hy, hok_malloc hok hm u1 u3⟩
        | exact KC.nx ⟨y.1, y.2, _, _, _⟩ (by repeat (first | exact trivial | refine And.intro rfl ?_)) ⟨F, hy, hok_free hok⟩
        | exact KC.nx ⟨y.1, y.2, _, _, _⟩ (by repeat (first | exact trivial | refine And.intro rfl ?_)) ⟨F, hy, hok_load hok hbl u2 u3⟩
        | exact KC.nx ⟨a0, c0, st0, en0, bl0⟩ (by repeat (first | exact trivial | refine And.intro rfl ?_)) ⟨F, hEx, hok⟩
      first | replace hc5 := ne_of_beq_false ((irr_eq _).symm.trans hc5) | simp only [irr_eq, beq_iff_eq, beq_eq_false_iff_ne, ne_eq, decide_eq_true_eq, decide_eq_false_iff_not] at hc5
      refine k_seq (fun Q K => ?_)
      refine k_lin (fun W K => ?_)
      refine l_cmp rfl rfl rfl rfl ?_
      refine l_op 0 rfl rfl rfl rfl rfl ?_
      refine l_nil (WK.nx (by assumption) ?_)
      refine SeqK.nx (by assumption) ?_
      refine l_cond rfl rfl (fun hc6 => ?_) (fun hc6 => ?_)
      · first | replace hc6 := eq_of_beq ((irr_eq _).symm.trans hc6) | simp only [irr_eq, beq_iff_eq, beq_eq_false_iff_ne, ne_eq, decide_eq_true_eq, decide_eq_false_iff_not] at hc6
        refine k_linm [0, 1, 2, 3, 4, 6, 7, 8, 9, 11, 12, 13, 14, 5, 10, 15, 16] mixed (by kernel_rfl) (fun W K => ?_)
        try have hpS := F.pns
        refine l_op 0 rfl rfl rfl rfl rfl ?_
        refine l_op 0 rfl rfl rfl rfl rfl ?_
        refine l_op 0 rfl rfl rfl rfl rfl ?_
        first | refine l_ixrs (e := eA) F ho ⟨eA_len, by decide⟩ rfl rfl rfl rfl rfl rfl (by omega) (fun m56 b56 hA56 hS56 => ?_) | refine l_ixr (e := eA) rfl rfl rfl rfl rfl rfl (F.old ho) ⟨eA_len, by decide⟩ (by omega) (fun m56 b56 hA56 => ?_)
        refine l_op 2 rfl rfl rfl rfl rfl ?_
        refine l_op 0 rfl rfl rfl rfl rfl ?_
        refine l_op 0 rfl rfl rfl rfl rfl ?_
        first | refine l_ixrs (e := eA) F ho ⟨eA_len, by decide⟩ rfl rfl rfl rfl rfl rfl (by omega) (fun m61 b61 hA61 hS61 => ?_) | refine l_ixr (e := eA) rfl rfl rfl rfl rfl rfl (F.old ho) ⟨eA_len, by decide⟩ (by omega) (fun m61 b61 hA61 => ?_)
        refine l_op 2 rfl rfl rfl rfl rfl ?_
        refine l_op 0 rfl rfl rfl rfl rfl ?_
        refine l_op 0 rfl rfl rfl rfl rfl ?_
        first | refine l_ixrs (e := eA) F ho ⟨eA_len, by decide⟩ rfl rfl rfl rfl rfl rfl (by omega) (fun m66 b66 hA66 hS66 => ?_) | refine l_ixr (e := eA) rfl rfl rfl rfl rfl rfl (F.old ho) ⟨eA_len, by decide⟩ (by omega) (fun m66 b66 hA66 => ?_)
        refine l_op 2 rfl rfl rfl rfl rfl ?_
        refine l_ldj rfl rfl rfl rfl rfl rfl (by assumption) rfl ?_
        first | have hpS := PnS.add hpS hS56 | have hpS := PnS.add hpS (OldC.sf (by assumption)) | skip
        refine l_ldj rfl rfl rfl rfl rfl rfl (by assumption) rfl ?_
        first | have hpS := PnS.add hpS hS61 | have hpS := PnS.add hpS (OldC.sf (by assumption)) | skip
        refine l_ldj rfl rfl rfl rfl rfl rfl (by assumption) rfl ?_
        first | have hpS := PnS.add hpS hS66 | have hpS := PnS.add hpS (OldC.sf (by assumption)) | skip
        refine l_call F [0, 1] [] (by decide) rfl rfl (by kernel_rfl) rfl rfl (loadL_call (F.sub [0, 1] (by decide)) hEx (F.oldO hol [0, 1]) hbl u2 u3) hD (fun y s F hy => ?_)
        (try dsimp only [n_1, n_2, n_3, n_4, List.append_nil, pk, n_5, n_6] at F)
        refine l_nil (WK.nx (by assumption) ?_)
        refine BlkK.nx (by assumption) ?_
        first
        | exact KC.nx ⟨y.1, y.2, _, _, _⟩ (by repeat (first | exact trivial | refine And.intro rfl ?_)) ⟨F, hy, hok_malloc hok hm u1 u3⟩
        | exact KC.nx ⟨y.1, y.2, _, _, _⟩ (by repeat (first | exact trivial | refine And.intro rfl ?_)) ⟨F, hy, hok_free hok⟩
        | exact KC.nx ⟨y.1, y.2, _, _, _⟩ (by repeat (first | exact trivial | refine And.intro rfl ?_)) ⟨F, hy, hok_load hok hbl u2 u3⟩
        | exact KC.nx ⟨a0, c0, st0, en0, bl0⟩ (by repeat (first | exact trivial | refine And.intro rfl ?_)) ⟨F, hEx, hok⟩
      first | replace hc6 := ne_of_beq_false ((irr_eq _).symm.trans hc6) | simp only [irr_eq, beq_iff_eq, beq_eq_false_iff_ne, ne_eq, decide_eq_true_eq, decide_eq_false_iff_not] at hc6
      refine k_skip ?_
      refine BlkK.nx (by assumption) ?_
      first
      | exact KC.nx ⟨y.1, y.2, _, _, _⟩ (by repeat (first | exact trivial | refine And.intro rfl ?_)) ⟨F, hy, hok_malloc hok hm u1 u3⟩
      | exact KC.nx ⟨y.1, y.2, _, _, _⟩ (by repeat (first | exact trivial | refine And.intro rfl ?_)) ⟨F, hy, hok_free hok⟩
      | exact KC.nx ⟨y.1, y.2, _, _, _⟩ (by repeat (first | exact trivial | refine And.intro rfl ?_)) ⟨F, hy, hok_load hok hbl u2 u3⟩
      | exact KC.nx ⟨a0, c0, st0, en0, bl0⟩ (by repeat (first | exact trivial | refine And.intro rfl ?_)) ⟨F, hEx, hok⟩
    · clear F hEx hok
      rintro ⟨a0, c0, st0, en0, bl0⟩ env s ⟨F, ⟨hEx, hok⟩⟩
      dsimp only at F hEx hok
      obtain ⟨us0, us1⟩ := hok.ust
      obtain ⟨ue0, ue1⟩ := hok.uen
      refine k_seq (fun Q K => ?_)
      refine k_lin (fun W K => ?_)
      refine l_op 0 rfl rfl rfl rfl rfl ?_
      refine l_callp F rfl rfl (by kernel_rfl) rfl rfl (blocks_call (F.cel0 0 rfl) (Old.pure (F.has 1 rfl)) (Nat.le_trans hok.len (by decide))) (fun y s F hy => ?_)
      (try dsimp only [n_1, n_2, n_3, n_4, List.append_nil, pk, n_5, n_6] at F)
      refine l_op 0 rfl rfl rfl rfl rfl ?_
      refine l_nil (WK.nx (by assumption) ?_)
      refine SeqK.nx (by assumption) ?_
      refine k_seq (fun Q K => ?_)
      refine k_lin (fun W K => ?_)
      refine l_op 0 rfl rfl rfl rfl rfl ?_
      refine l_callp F rfl rfl (by kernel_rfl) rfl rfl (start_call (F.cel0 0 rfl)) (fun _ s F _ => ?_)
      (try dsimp only [n_1, n_2, n_3, n_4, List.append_nil, pk, n_5, n_6] at F)
      refine l_cu64 rfl rfl rfl (by omega) rfl ?_
      refine l_op 0 rfl rfl rfl rfl rfl ?_
      refine l_nil (WK.nx (by assumption) ?_)
      refine SeqK.nx (by assumption) ?_
      refine k_seq (fun Q K => ?_)
      refine k_seq (fun Q K => ?_)
      refine k_lin (fun W K => ?_)
      refine l_op 0 rfl rfl rfl rfl rfl ?_
      refine l_nil (WK.nx (by assumption) ?_)
      refine SeqK.nx (by assumption) ?_
      refine k_block (fun Q K => ?_)
      have hl3 : bl0.length ≤ 4096 := hok.len
      refine k_loop (α := Int × Int) (fun ⟨k, at_⟩ s => Facts E0 σ s (hF m a0 c0 most st0 en0 bl0 ++ [own y.1 bl0.length y.2 2 (rows eB bl0)]) ∧ (bl0 ≠ [] → rightL en0 at_ (bl0.drop k.toNat) = true) ∧ 0 ≤ k ∧ k ≤ bl0.length ∧ 0 ≤ at_ ∧ at_ ≤ 8589934590) (fun ⟨k, at_⟩ => [(0, .int .u32 most), (1, .slice a ts.length c), (5, .pointer (some ⟨m, 0, none⟩)), (6, .int .i64 i), (7, .slice y.1 bl0.length y.2), (8, .int .u64 at_), (9, .int .i64 k)]) (fun ⟨k, _⟩ => (bl0.length - k).toNat) (0, st0) ⟨F, fun hne => (hok.on hne).2.2.2.2, by omega, by omega, by omega, by omega⟩ (by repeat (first | exact trivial | refine And.intro rfl ?_)) ?_
      clear F
      rintro ⟨k, at_⟩ env s Q K1 ⟨F, hri, k0, k1, at0, at1⟩
      obtain ⟨⟨b0, b1⟩, ⟨b2, b3⟩⟩ := hok.blk.at k.toNat
      refine k_seq (fun Q K => ?_)
      refine k_seq (fun Q K => ?_)
      refine k_lin (fun W K => ?_)
      refine l_op 0 rfl rfl rfl rfl rfl ?_
      refine l_op 0 rfl rfl rfl rfl rfl ?_
      first | refine l_op 2 rfl rfl rfl rfl rfl ?_ | refine l_ln rfl rfl rfl rfl ?_
      refine l_cmp rfl rfl rfl rfl ?_
      refine l_nil (WK.nx (by assumption) ?_)
      refine SeqK.nx (by assumption) ?_
      refine l_cond rfl rfl (fun hc7 => ?_) (fun hc7 => ?_)
      · replace hc7 := of_decide_eq_true ((irr_eq _).symm.trans hc7)
        have hne : bl0 ≠ [] := fun e => by subst e; simp at hc7; omega
        obtain ⟨g1, g2, g3, g4⟩ := rightL_at hok.blk (by omega) (hri hne)
        refine k_skip ?_
        refine SeqK.nx (by assumption) ?_
        refine k_seq (fun Q K => ?_)
        refine k_block (fun Q K => ?_)
        refine k_seq (fun Q K => ?_)
        refine k_seq (fun Q K => ?_)
        refine k_lin (fun W K => ?_)
        refine l_op 0 rfl rfl rfl rfl rfl ?_
        refine l_op 0 rfl rfl rfl rfl rfl ?_
        refine l_ixr (e := eB) rfl rfl rfl rfl rfl rfl (F.has 2 rfl) ⟨eB_len, by decide⟩ (by omega) (fun m83 b83 hA83 => ?_)
        refine l_op 2 rfl rfl rfl rfl rfl ?_
        refine l_ldj rfl rfl rfl rfl rfl rfl (by assumption) rfl ?_
        refine l_cmp rfl rfl rfl rfl ?_
        refine l_op 0 rfl rfl rfl rfl rfl ?_
        refine l_guard rfl rfl rfl (fun hc8 => ?_) (fun hc8 => ?_)
        · first | replace hc8 := eq_of_beq ((irr_eq _).symm.trans hc8) | simp only [irr_eq, beq_iff_eq, beq_eq_false_iff_ne, ne_eq, decide_eq_true_eq, decide_eq_false_iff_not] at hc8
          omega
        first | replace hc8 := ne_of_beq_false ((irr_eq _).symm.trans hc8) | simp only [irr_eq, beq_iff_eq, beq_eq_false_iff_ne, ne_eq, decide_eq_true_eq, decide_eq_false_iff_not] at hc8
        refine l_op 0 rfl rfl rfl rfl rfl ?_
        refine l_op 0 rfl rfl rfl rfl rfl ?_
        refine l_ixr (e := eB) rfl rfl rfl rfl rfl rfl (F.has 2 rfl) ⟨eB_len, by decide⟩ (by omega) (fun m90 b90 hA90 => ?_)
        refine l_op 2 rfl rfl rfl rfl rfl ?_
        refine l_ld0 rfl rfl rfl rfl rfl (by assumption) ?_
        refine l_cu64 rfl rfl rfl (by omega) rfl ?_
        refine l_op 0 rfl rfl rfl rfl rfl ?_
        refine l_cmp rfl rfl rfl rfl ?_
        refine l_op 2 rfl rfl rfl rfl rfl ?_
        refine l_nil (WK.nx (by assumption) ?_)
        refine SeqK.nx (by assumption) ?_
        refine l_cond rfl rfl (fun hc9 => ?_) (fun hc9 => ?_)
        · replace hc9 := of_decide_eq_true ((irr_eq _).symm.trans hc9)
          omega
        replace hc9 := of_decide_eq_false ((irr_eq _).symm.trans hc9)
        refine k_skip ?_
        refine SeqK.nx (by assumption) ?_
        refine k_linm [0, 1, 2, 3, 6, 7, 8, 9, 4, 5, 10, 11, 12, 13] mixed (by kernel_rfl) (fun W K => ?_)
        try have hpS := F.pns
        refine l_op 0 rfl rfl rfl rfl rfl ?_
        refine l_op 0 rfl rfl rfl rfl rfl ?_
        refine l_ixr (e := eB) rfl rfl rfl rfl rfl rfl (F.has 2 rfl) ⟨eB_len, by decide⟩ (by omega) (fun m99 b99 hA99 => ?_)
        refine l_op 2 rfl rfl rfl rfl rfl ?_
        refine l_op 0 rfl rfl rfl rfl rfl ?_
        refine l_op 0 rfl rfl rfl rfl rfl ?_
        refine l_ixr (e := eB) rfl rfl rfl rfl rfl rfl (F.has 2 rfl) ⟨eB_len, by decide⟩ (by omega) (fun m105 b105 hA105 => ?_)
        refine l_op 2 rfl rfl rfl rfl rfl ?_
        refine l_ld0 rfl rfl rfl rfl rfl (by assumption) ?_
        first | have hpS := PnS.add hpS hS99 | have hpS := PnS.add hpS (OldC.sf (by assumption)) | skip
        refine l_cu64 rfl rfl rfl (by omega) rfl ?_
        refine l_ldj rfl rfl rfl rfl rfl rfl (by assumption) rfl ?_
        first | have hpS := PnS.add hpS hS105 | have hpS := PnS.add hpS (OldC.sf (by assumption)) | skip
        refine l_cu64 rfl rfl rfl (by omega) rfl ?_
        refine l_au64 rfl rfl rfl (by omega) rfl ?_
        refine l_op 0 rfl rfl rfl rfl rfl ?_
        refine l_nil (WK.nx (by assumption) ?_)
        refine BlkK.nx (by assumption) ?_
        refine SeqK.nx (by assumption) ?_
        refine k_lin (fun W K => ?_)
        refine l_op 0 rfl rfl rfl rfl rfl ?_
        refine l_a64 rfl rfl rfl (by omega) rfl ?_
        refine l_op 0 rfl rfl rfl rfl rfl ?_
        refine l_nil (WK.nx (by assumption) ?_)
        have e1 : (k + 1).toNat = k.toNat + 1 := by omega
        exact K1.nx (k + 1, _) (by repeat (first | exact trivial | refine And.intro rfl ?_)) ⟨F, fun _ => by rw [e1]; exact g4, by omega, by omega, by omega, by omega⟩ (by first | omega | (simp only; omega))
      replace hc7 := of_decide_eq_false ((irr_eq _).symm.trans hc7)
      rw [List.drop_of_length_le (by omega)] at hri
      refine k_exit ?_
      refine SeqK.et (by assumption) ?_
      refine LoopK.et (by assumption) ?_
      refine BlkK.et (by assumption) ?_
      refine SeqK.nx (by assumption) ?_
      refine k_seq (fun Q K => ?_)
      refine k_lin (fun W K => ?_)
      refine l_op 0 rfl rfl rfl rfl rfl ?_
      first | refine l_op 2 rfl rfl rfl rfl rfl ?_ | refine l_ln rfl rfl rfl rfl ?_
      refine l_cmp rfl rfl rfl rfl ?_
      refine l_op 0 rfl rfl rfl rfl rfl ?_
      refine l_guard rfl rfl rfl (fun hc10 => ?_) (fun hc10 => ?_)
      · replace hc10 := of_decide_eq_true ((irr_eq _).symm.trans hc10)
        have hne : bl0 ≠ [] := fun e => by subst e; simp at hc10
        obtain ⟨g1, g2, g3, g4, _⟩ := hok.on hne
        have g5 : at_ ≤ en0 := by simpa only [rightL, decide_eq_true_eq] using hri hne
        refine l_op 0 rfl rfl rfl rfl rfl ?_
        refine l_op 0 rfl rfl rfl rfl rfl ?_
        refine l_callp F rfl rfl (by kernel_rfl) rfl rfl (end_call (F.cel0 0 rfl)) (fun _ s F _ => ?_)
        (try dsimp only [n_1, n_2, n_3, n_4, List.append_nil, pk, n_5, n_6] at F)
        refine l_cu64 rfl rfl rfl (by omega) rfl ?_
        refine l_cmp rfl rfl rfl rfl ?_
        refine l_op 0 rfl rfl rfl rfl rfl ?_
        refine l_guard rfl rfl rfl (fun hc11 => ?_) (fun hc11 => ?_)
        · replace hc11 := of_decide_eq_true ((irr_eq _).symm.trans hc11)
          omega
        replace hc11 := of_decide_eq_false ((irr_eq _).symm.trans hc11)
        refine l_op 0 rfl rfl rfl rfl rfl ?_
        refine l_callp F rfl rfl (by kernel_rfl) rfl rfl (end_call (F.cel0 0 rfl)) (fun _ s F _ => ?_)
        (try dsimp only [n_1, n_2, n_3, n_4, List.append_nil, pk, n_5, n_6] at F)
        refine l_op 0 rfl rfl rfl rfl rfl ?_
        refine l_cmp rfl rfl rfl rfl ?_
        refine l_op 2 rfl rfl rfl rfl rfl ?_
        refine l_op 0 rfl rfl rfl rfl rfl ?_
        refine l_guard rfl rfl rfl (fun hc12 => ?_) (fun hc12 => ?_)
        · replace hc12 := of_decide_eq_true ((irr_eq _).symm.trans hc12)
          omega
        replace hc12 := of_decide_eq_false ((irr_eq _).symm.trans hc12)
        refine l_op 0 rfl rfl rfl rfl rfl ?_
        refine l_callp F rfl rfl (by kernel_rfl) rfl rfl (end_call (F.cel0 0 rfl)) (fun _ s F _ => ?_)
        (try dsimp only [n_1, n_2, n_3, n_4, List.append_nil, pk, n_5, n_6] at F)
        first | refine l_remn rfl rfl rfl rfl rfl (by omega) rfl ?_ | refine l_rem rfl rfl rfl rfl rfl (by omega) rfl ?_
        refine l_cmp rfl rfl rfl rfl ?_
        refine l_op 2 rfl rfl rfl rfl rfl ?_
        refine l_op 0 rfl rfl rfl rfl rfl ?_
        refine l_guard rfl rfl rfl (fun hc13 => ?_) (fun hc13 => ?_)
        · first | replace hc13 := bne_iff_ne.1 ((irr_eq _).symm.trans hc13) | simp only [irr_eq, bne_iff_ne, bne_eq_false_iff_eq, ne_eq, decide_eq_true_eq, decide_eq_false_iff_not, Bool.not_eq_true', Bool.not_eq_false'] at hc13
          omega
        first | replace hc13 := bne_eq_false_iff_eq.1 ((irr_eq _).symm.trans hc13) | simp only [irr_eq, bne_iff_ne, bne_eq_false_iff_eq, ne_eq, decide_eq_true_eq, decide_eq_false_iff_not, Bool.not_eq_true', Bool.not_eq_false'] at hc13
        refine l_op 0 rfl rfl rfl rfl rfl ?_
        refine l_callp F rfl rfl (by kernel_rfl) rfl rfl (start_call (F.cel0 0 rfl)) (fun _ s F _ => ?_)
        (try dsimp only [n_1, n_2, n_3, n_4, List.append_nil, pk, n_5, n_6] at F)
        first | refine l_remn rfl rfl rfl rfl rfl (by omega) rfl ?_ | refine l_rem rfl rfl rfl rfl rfl (by omega) rfl ?_
        refine l_cmp rfl rfl rfl rfl ?_
        refine l_op 2 rfl rfl rfl rfl rfl ?_
        refine l_op 2 rfl rfl rfl rfl rfl ?_
        refine l_op 0 rfl rfl rfl rfl rfl ?_
        refine l_guard rfl rfl rfl (fun hc14 => ?_) (fun hc14 => ?_)
        · first | replace hc14 := bne_iff_ne.1 ((irr_eq _).symm.trans hc14) | simp only [irr_eq, bne_iff_ne, bne_eq_false_iff_eq, ne_eq, decide_eq_true_eq, decide_eq_false_iff_not, Bool.not_eq_true', Bool.not_eq_false'] at hc14
          omega
        first | replace hc14 := bne_eq_false_iff_eq.1 ((irr_eq _).symm.trans hc14) | simp only [irr_eq, bne_iff_ne, bne_eq_false_iff_eq, ne_eq, decide_eq_true_eq, decide_eq_false_iff_not, Bool.not_eq_true', Bool.not_eq_false'] at hc14
        refine l_op 0 rfl rfl rfl rfl rfl ?_
        first | refine l_op 2 rfl rfl rfl rfl rfl ?_ | refine l_ln rfl rfl rfl rfl ?_
        refine l_cmp rfl rfl rfl rfl ?_
        refine l_op 0 rfl rfl rfl rfl rfl ?_
        refine l_callp F rfl rfl (by kernel_rfl) rfl rfl (active_call (F.cel0 0 rfl)) (fun _ s F _ => ?_)
        (try dsimp only [n_1, n_2, n_3, n_4, List.append_nil, pk, n_5, n_6] at F)
        refine l_cmp rfl rfl rfl rfl ?_
        refine l_op 2 rfl rfl rfl rfl rfl ?_
        refine l_op 0 rfl rfl rfl rfl rfl ?_
        refine l_guard rfl rfl rfl (fun hc15 => ?_) (fun hc15 => ?_)
        · first | replace hc15 := bne_iff_ne.1 ((irr_eq _).symm.trans hc15) | simp only [irr_eq, bne_iff_ne, bne_eq_false_iff_eq, ne_eq, decide_eq_true_eq, decide_eq_false_iff_not, Bool.not_eq_true', Bool.not_eq_false'] at hc15
          exact absurd rfl hc15
        first | replace hc15 := bne_eq_false_iff_eq.1 ((irr_eq _).symm.trans hc15) | simp only [irr_eq, bne_iff_ne, bne_eq_false_iff_eq, ne_eq, decide_eq_true_eq, decide_eq_false_iff_not, Bool.not_eq_true', Bool.not_eq_false'] at hc15
        refine l_op 0 rfl rfl rfl rfl rfl ?_
        first | refine l_op 2 rfl rfl rfl rfl rfl ?_ | refine l_ln rfl rfl rfl rfl ?_
        refine l_cmp rfl rfl rfl rfl ?_
        refine l_op 2 rfl rfl rfl rfl rfl ?_
        refine l_nil (WK.nx (by assumption) ?_)
        refine SeqK.nx (by assumption) ?_
        refine l_cond rfl rfl (fun hc16 => ?_) (fun hc16 => ?_)
        · replace hc16 := of_decide_eq_true ((irr_eq _).symm.trans hc16)
          omega
        replace hc16 := of_decide_eq_false ((irr_eq _).symm.trans hc16)
        refine k_skip ?_
        refine BlkK.nx (by assumption) ?_
        refine SeqK.nx (by assumption) ?_
        refine k_lin (fun W K => ?_)
        refine l_op 0 rfl rfl rfl rfl rfl ?_
        refine l_a64 rfl rfl rfl (by omega) rfl ?_
        refine l_op 0 rfl rfl rfl rfl rfl ?_
        refine l_nil (WK.nx (by assumption) ?_)
        exact K0.nx (i + 1, ⟨a0, c0, st0, en0, bl0⟩) (by repeat (first | exact trivial | refine And.intro rfl ?_)) ⟨F.pick [0, 1] (by decide), ⟨hEx, hok⟩, by omega, by omega⟩ (by first | omega | (simp only; omega))
      replace hc10 := of_decide_eq_false ((irr_eq _).symm.trans hc10)
      refine l_s rfl rfl ?_
      refine l_s rfl rfl ?_
      refine l_s rfl rfl ?_
      refine l_s rfl rfl ?_
      refine l_s rfl rfl ?_
      refine l_s rfl rfl ?_
      refine l_s rfl rfl ?_
      refine l_s rfl rfl ?_
      refine l_s rfl rfl ?_
      refine l_s rfl rfl ?_
      refine l_s rfl rfl ?_
      refine l_s rfl rfl ?_
      refine l_s rfl rfl ?_
      refine l_s rfl rfl ?_
      refine l_s rfl rfl ?_
      refine l_s rfl rfl ?_
      refine l_s rfl rfl ?_
      refine l_s rfl rfl ?_
      refine l_s rfl rfl ?_
      refine l_s rfl rfl ?_
      refine l_s rfl rfl ?_
      refine l_s rfl rfl ?_
      refine l_s rfl rfl ?_
      refine l_op 2 rfl rfl rfl rfl rfl ?_
      refine l_op 0 rfl rfl rfl rfl rfl ?_
      refine l_op 0 rfl rfl rfl rfl rfl ?_
      first | refine l_op 2 rfl rfl rfl rfl rfl ?_ | refine l_ln rfl rfl rfl rfl ?_
      refine l_cmp rfl rfl rfl rfl ?_
      refine l_op 0 rfl rfl rfl rfl rfl ?_
      refine l_callp F rfl rfl (by kernel_rfl) rfl rfl (active_call (F.cel0 0 rfl)) (fun _ s F _ => ?_)
      (try dsimp only [n_1, n_2, n_3, n_4, List.append_nil, pk, n_5, n_6] at F)
      refine l_cmp rfl rfl rfl rfl ?_
      refine l_op 2 rfl rfl rfl rfl rfl ?_
      refine l_op 0 rfl rfl rfl rfl rfl ?_
      refine l_guard rfl rfl rfl (fun hc17 => ?_) (fun hc17 => ?_)
      · first | replace hc17 := bne_iff_ne.1 ((irr_eq _).symm.trans hc17) | simp only [irr_eq, bne_iff_ne, bne_eq_false_iff_eq, ne_eq, decide_eq_true_eq, decide_eq_false_iff_not, Bool.not_eq_true', Bool.not_eq_false'] at hc17
        exact absurd rfl hc17
      first | replace hc17 := bne_eq_false_iff_eq.1 ((irr_eq _).symm.trans hc17) | simp only [irr_eq, bne_iff_ne, bne_eq_false_iff_eq, ne_eq, decide_eq_true_eq, decide_eq_false_iff_not, Bool.not_eq_true', Bool.not_eq_false'] at hc17
      refine l_op 0 rfl rfl rfl rfl rfl ?_
      first | refine l_op 2 rfl rfl rfl rfl rfl ?_ | refine l_ln rfl rfl rfl rfl ?_
      refine l_cmp rfl rfl rfl rfl ?_
      refine l_op 2 rfl rfl rfl rfl rfl ?_
      refine l_nil (WK.nx (by assumption) ?_)
      refine SeqK.nx (by assumption) ?_
      refine l_cond rfl rfl (fun hc18 => ?_) (fun hc18 => ?_)
      · replace hc18 := of_decide_eq_true ((irr_eq _).symm.trans hc18)
        omega
      replace hc18 := of_decide_eq_false ((irr_eq _).symm.trans hc18)
      refine k_skip ?_
      refine BlkK.nx (by assumption) ?_
      refine SeqK.nx (by assumption) ?_
      refine k_lin (fun W K => ?_)
      refine l_op 0 rfl rfl rfl rfl rfl ?_
      refine l_a64 rfl rfl rfl (by omega) rfl ?_
      refine l_op 0 rfl rfl rfl rfl rfl ?_
      refine l_nil (WK.nx (by assumption) ?_)
      exact K0.nx (i + 1, ⟨a0, c0, st0, en0, bl0⟩) (by repeat (first | exact trivial | refine And.intro rfl ?_)) ⟨F.pick [0, 1] (by decide), ⟨hEx, hok⟩, by omega, by omega⟩ (by first | omega | (simp only; omega))
  replace hc3 := of_decide_eq_false ((irr_eq _).symm.trans hc3)
  refine k_exit ?_
  refine SeqK.et (by assumption) ?_
  refine LoopK.et (by assumption) ?_
  refine BlkK.et (by assumption) ?_
  refine SeqK.nx (by assumption) ?_
  refine k_seq (fun Q K => ?_)
  refine k_lin (fun W K => ?_)
  refine l_callp F rfl rfl (by kernel_rfl) rfl rfl live_call (fun _ s F _ => ?_)
  (try dsimp only [n_1, n_2, n_3, n_4, List.append_nil, pk, n_5, n_6] at F)
  refine l_op 0 rfl rfl rfl rfl rfl ?_
  refine l_nil (WK.nx (by assumption) ?_)
  refine SeqK.nx (by assumption) ?_
  refine k_ret ?_
  refine FunK.rt (by assumption) rfl ?_
  -- leaf 2
  exact rfl

end Go.Proofs.Ytkealnppdblgiaa
