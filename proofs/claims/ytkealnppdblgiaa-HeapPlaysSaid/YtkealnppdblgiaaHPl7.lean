/- One act of a play, by the program and by the document. No statement of the seat is proved in this text. -/
import Derived.Test.YtkealnppdblgiaaHPl6
import Derived.Test.YtkealnppdblgiaaAb32
set_option linter.unusedVariables false
set_option linter.unusedSimpArgs false
set_option maxRecDepth 100000
set_option maxHeartbeats 4000000
-- macs
namespace Go.Proofs.Ytkealnppdblgiaa
open GAb Go

theorem idxR_neg {ad : Int} : ∀ {bl : List (Int × Int)}, idxR ad bl < 0 → offB bl ad = bl
  | [], _ => rfl
  | b :: bl, h => by
    rw [idxR] at h
    split at h
    · omega
    · rename_i hb
      have := idxR_low ad bl
      have h1 : idxR ad bl < 0 := by split at h <;> omega
      have ih := idxR_neg h1
      unfold offB at ih ⊢
      rw [List.filter_cons_of_pos (by simpa using hb), ih]
theorem asc_tail {b : Int × Int} {bl : List (Int × Int)} (h : Asc (b :: bl)) : Asc bl ∧ ∀ x ∈ bl, b.1 < x.1 := by
  refine ⟨fun i j h1 h2 => by simpa using h (i + 1) (j + 1) (by omega) (by simpa using h2), fun x hx => ?_⟩
  obtain ⟨i, hi, rfl⟩ := List.getElem_of_mem hx
  have := h 0 (i + 1) (by omega) (by simpa using hi)
  simpa [List.getD, hi] using this
theorem idxR_pos {ad : Int} : ∀ {bl : List (Int × Int)}, Asc bl → 0 ≤ idxR ad bl → offB bl ad = bl.eraseIdx (idxR ad bl).toNat
  | [], _, h => by simp [idxR] at h
  | b :: bl, hA, h => by
    obtain ⟨hA', hlt⟩ := asc_tail hA
    rw [idxR] at h ⊢
    split
    · rename_i hb
      simp only [Int.toNat_zero, List.eraseIdx_cons_zero]
      unfold offB
      rw [List.filter_cons_of_neg (by simpa using hb)]
      rw [List.filter_eq_self]
      intro x hx
      have := hlt x hx
      simp only [decide_eq_true_eq]
      omega
    · rename_i hb
      rw [if_neg hb] at h
      have hlow := idxR_low ad bl
      split at h
      · omega
      · rename_i hneg
        rw [if_neg hneg]
        have e : (idxR ad bl + 1).toNat = (idxR ad bl).toNat + 1 := by omega
        rw [e, List.eraseIdx_cons_succ, ← idxR_pos hA' (by omega)]
        unfold offB
        rw [List.filter_cons_of_pos (by simpa using hb)]
theorem offB_perm {L bl : List (Int × Int)} (hP : L.Perm bl) (ad : Int) : (offB L ad).Perm (offB bl ad) := hP.filter _
/-- The document frees what the program frees. -/
theorem free_same {L bl : List (Int × Int)} (hP : L.Perm bl) (hA : Asc bl) (st en ad : Int) :
    (rfreeR st en L ad).1 = (freeR st en bl ad).ret ∧ (rfreeR st en L ad).2.1 = (freeR st en bl ad).st ∧ (rfreeR st en L ad).2.2.1 = (freeR st en bl ad).en ∧ (rfreeR st en L ad).2.2.2.Perm (freeR st en bl ad).bl := by
  have hp := offB_perm hP ad
  have hl := hp.length_eq
  have hlL := hP.length_eq
  have hlow := idxR_low ad bl
  unfold rfreeR freeR
  by_cases h : idxR ad bl < 0
  · have e := idxR_neg h
    rw [if_pos (by rw [hl, e, hlL]), if_pos h]
    exact ⟨rfl, rfl, rfl, hP⟩
  · have e := idxR_pos (ad := ad) hA (by omega)
    rw [e] at hp hl
    have hle : (bl.eraseIdx (idxR ad bl).toNat).length = bl.length - 1 := List.length_eraseIdx_of_lt (show (idxR ad bl).toNat < bl.length by omega)
    rw [if_neg (by omega), if_neg h]
    by_cases h0 : (bl.eraseIdx (idxR ad bl).toNat).length = 0
    · rw [if_pos (by omega), if_pos h0]
      exact ⟨rfl, rfl, rfl, hp⟩
    · rw [if_neg (by omega), if_neg h0]
      exact ⟨rfl, rfl, rfl, hp⟩
theorem load_same {L bl xs : List (Int × Int)} (hP : L.Perm bl) (most st0 en0 st en : Int) :
    (loadR most st0 en0 L st en xs).ret = (loadR most st0 en0 bl st en xs).ret ∧ (loadR most st0 en0 L st en xs).st = (loadR most st0 en0 bl st en xs).st ∧ (loadR most st0 en0 L st en xs).en = (loadR most st0 en0 bl st en xs).en ∧ (loadR most st0 en0 L st en xs).bl.Perm (loadR most st0 en0 bl st en xs).bl := by
  unfold loadR
  split
  · exact ⟨rfl, rfl, rfl, hP⟩
  · split
    · exact ⟨rfl, rfl, rfl, hP⟩
    · exact ⟨rfl, rfl, rfl, .refl _⟩
/-- What an act leaves. -/
structure HY where
  m : Nat
  a : Option Addr
  c : Nat
  aw : Option Addr
  cw : Nat
  st : Int
  en : Int
  bl : List (Int × Int)
  L : List (Int × Int)
theorem does_call {O : Nat → Prop} {σ : AState} {m c mw cw : Nat} {a aw : Option Addr} {most st en : Int} {bl L : List (Int × Int)} {t : Act} (F : Facts O σ σ (hF m a c most st en bl ++ rF mw aw cw most st en L)) (hEx : Ex a) (hok : HOK most st en bl) (hP : L.Perm bl) (hm : U32 most)
    (hn : U32 t.n) (ha : U32 t.a) (he : U32 t.e) {xs : List (Int × Int)} (hl : Old O σ t.x t.l t.c 2 (rows eB xs)) (hB : BlkOK xs) (hl9 : t.l ≤ 9000) :
    SCall Try.prog O 22 [.pointer (some ⟨m, 0, none⟩), .pointer (some ⟨mw, 0, none⟩), .agg (eA t).toArray] σ (Ret O σ (fun (y : HY) => .tuple #[.pointer (some ⟨y.m, 0, none⟩), .bool true]) (fun y => hF y.m y.a y.c most y.st y.en y.bl ++ rF mw y.aw y.cw most y.st y.en y.L) fun y => Ex y.a ∧ HOK most y.st y.en y.bl ∧ y.L.Perm y.bl) := by
  obtain ⟨tk, tn, ta, te, tx, tl, tc, tz⟩ := t
  simp only at hn ha he hl hl9
  obtain rfl : xs.length = tl := hl.1.len eB_len (by decide)
  have hA := asc_hok hok
  show SCall Try.prog O 22 [.pointer (some ⟨m, 0, none⟩), .pointer (some ⟨mw, 0, none⟩), .agg #[.int .i64 tk, .int .u32 tn, .int .u32 ta, .int .u32 te, .slice tx xs.length tc]] σ _
  obtain ⟨tn0, tn1⟩ := id hn
  have hl4 := hok.len
  have hlL := hP.length_eq
  refine k_fun Try.func22 rfl (m := 143) rfl fun B hD Q K => ?_
  refine k_seq (fun Q K => ?_)
  refine k_lin (fun W K => ?_)
  refine l_bx F rfl rfl rfl rfl rfl (fun q5 s F => ?_)
  (try dsimp only [n_1, n_2, n_3, n_4, List.append_nil, pk, n_5, n_6] at F)
  refine l_op 0 rfl rfl rfl rfl rfl ?_
  refine l_op 0 rfl rfl rfl rfl rfl ?_
  refine l_nil (WK.nx (by assumption) ?_)
  refine SeqK.nx (by assumption) ?_
  refine k_seq (fun Q K => ?_)
  refine k_seq (fun Q K => ?_)
  refine k_lin (fun W K => ?_)
  refine l_op 2 rfl rfl rfl rfl rfl ?_
  refine l_ldc F 4 rfl rfl rfl rfl rfl rfl rfl ?_
  refine l_nil (WK.nx (by assumption) ?_)
  refine SeqK.nx (by assumption) ?_
  refine k_block (fun Q K => ?_)
  refine k_seq (fun Q K => ?_)
  refine k_lin (fun W K => ?_)
  refine l_cmp rfl rfl rfl rfl ?_
  refine l_op 0 rfl rfl rfl rfl rfl ?_
  refine l_nil (WK.nx (by assumption) ?_)
  refine SeqK.nx (by assumption) ?_
  refine l_cond rfl rfl (fun hc1 => ?_) (fun hc1 => ?_)
  · first | replace hc1 := eq_of_beq ((irr_eq _).symm.trans hc1) | simp only [irr_eq, beq_iff_eq, beq_eq_false_iff_ne, ne_eq, decide_eq_true_eq, decide_eq_false_iff_not] at hc1
    refine k_seq (fun Q K => ?_)
    refine k_lin (fun W K => ?_)
    refine l_op 0 rfl rfl rfl rfl rfl ?_
    refine l_op 2 rfl rfl rfl rfl rfl ?_
    refine l_ldc F 4 rfl rfl rfl rfl rfl rfl rfl ?_
    refine l_op 2 rfl rfl rfl rfl rfl ?_
    refine l_ldc F 4 rfl rfl rfl rfl rfl rfl rfl ?_
    refine l_call F [0, 1] [2, 3, 4] (by decide) rfl rfl (by kernel_rfl) rfl rfl (malloc_call (F.sub [0, 1] (by decide)) hEx hok.blk (by omega) hm hok.ust hok.uen hn he) hD (fun y1 s F hy1 => ?_)
    (try dsimp only [n_1, n_2, n_3, n_4, List.append_nil, pk, n_5, n_6] at F)
    refine l_op 0 rfl rfl rfl rfl rfl ?_
    refine l_op 2 rfl rfl rfl rfl rfl ?_
    refine l_op 2 rfl rfl rfl rfl rfl ?_
    refine l_op 0 rfl rfl rfl rfl rfl ?_
    refine l_op 0 rfl rfl rfl rfl rfl ?_
    refine l_nil (WK.nx (by assumption) ?_)
    refine SeqK.nx (by assumption) ?_
    refine k_seq (fun Q K => ?_)
    refine k_lin (fun W K => ?_)
    refine l_op 0 rfl rfl rfl rfl rfl ?_
    refine l_op 2 rfl rfl rfl rfl rfl ?_
    refine l_ldc F 2 rfl rfl rfl rfl rfl rfl rfl ?_
    refine l_op 2 rfl rfl rfl rfl rfl ?_
    refine l_ldc F 2 rfl rfl rfl rfl rfl rfl rfl ?_
    refine l_call F [0, 1] [2, 3, 4] (by decide) rfl rfl (by kernel_rfl) rfl rfl (rmalloc_call (F.sub [0, 1] (by decide)) hP hok hm hn he) hD (fun y2 s F hy2 => ?_)
    (try dsimp only [n_1, n_2, n_3, n_4, List.append_nil, pk, n_5, n_6] at F)
    refine l_op 0 rfl rfl rfl rfl rfl ?_
    refine l_op 2 rfl rfl rfl rfl rfl ?_
    refine l_op 2 rfl rfl rfl rfl rfl ?_
    refine l_op 0 rfl rfl rfl rfl rfl ?_
    refine l_op 0 rfl rfl rfl rfl rfl ?_
    refine l_nil (WK.nx (by assumption) ?_)
    refine SeqK.nx (by assumption) ?_
    refine k_seq (fun Q K => ?_)
    refine k_lin (fun W K => ?_)
    refine l_op 0 rfl rfl rfl rfl rfl ?_
    refine l_op 0 rfl rfl rfl rfl rfl ?_
    refine l_op 0 rfl rfl rfl rfl rfl ?_
    refine l_cmp rfl rfl rfl rfl ?_
    refine l_op 0 rfl rfl rfl rfl rfl ?_
    refine l_guard rfl rfl rfl (fun hc2 => ?_) (fun hc2 => ?_)
    · first | replace hc2 := eq_of_beq ((irr_eq _).symm.trans hc2) | simp only [irr_eq, beq_iff_eq, beq_eq_false_iff_ne, ne_eq, decide_eq_true_eq, decide_eq_false_iff_not] at hc2
      refine l_op 0 rfl rfl rfl rfl rfl ?_
      refine l_op 0 rfl rfl rfl rfl rfl ?_
      refine l_cmp rfl rfl rfl rfl ?_
      refine l_op 2 rfl rfl rfl rfl rfl ?_
      refine l_op 0 rfl rfl rfl rfl rfl ?_
      refine l_op 0 rfl rfl rfl rfl rfl ?_
      refine l_nil (WK.nx (by assumption) ?_)
      refine SeqK.nx (by assumption) ?_
      refine k_ret ?_
      refine BlkK.rt (by assumption) ?_
      refine SeqK.rt (by assumption) ?_
      refine FunK.rt (by assumption) rfl ?_
      -- leaf 1
      refine ⟨⟨m, y1.1, y1.2, y2.1, y2.2.1, _, _, _, y2.2.2⟩, ?_, F.pick [1, 2, 3, 4] (by decide), hy1, hok_malloc hok hm hn he, hy2⟩
      show Value.tuple #[_, .bool (irr _)] = Value.tuple #[_, .bool true]
      rw [irr_eq, beq_self_eq_true]
    first | replace hc2 := ne_of_beq_false ((irr_eq _).symm.trans hc2) | simp only [irr_eq, beq_iff_eq, beq_eq_false_iff_ne, ne_eq, decide_eq_true_eq, decide_eq_false_iff_not] at hc2
    exact absurd rfl hc2
  first | replace hc1 := ne_of_beq_false ((irr_eq _).symm.trans hc1) | simp only [irr_eq, beq_iff_eq, beq_eq_false_iff_ne, ne_eq, decide_eq_true_eq, decide_eq_false_iff_not] at hc1
  refine k_seq (fun Q K => ?_)
  refine k_lin (fun W K => ?_)
  refine l_cmp rfl rfl rfl rfl ?_
  refine l_op 0 rfl rfl rfl rfl rfl ?_
  refine l_nil (WK.nx (by assumption) ?_)
  refine SeqK.nx (by assumption) ?_
  refine l_cond rfl rfl (fun hc3 => ?_) (fun hc3 => ?_)
  · first | replace hc3 := eq_of_beq ((irr_eq _).symm.trans hc3) | simp only [irr_eq, beq_iff_eq, beq_eq_false_iff_ne, ne_eq, decide_eq_true_eq, decide_eq_false_iff_not] at hc3
    refine k_seq (fun Q K => ?_)
    refine k_linm [0, 1, 2, 6, 7, 3, 8, 4, 5, 9, 10, 11, 12] mixed (by kernel_rfl) (fun W K => ?_)
    try have hpS := F.pns
    refine l_op 0 rfl rfl rfl rfl rfl ?_
    refine l_op 0 rfl rfl rfl rfl rfl ?_
    refine l_op 2 rfl rfl rfl rfl rfl ?_
    refine l_op 0 rfl rfl rfl rfl rfl ?_
    refine l_op 2 rfl rfl rfl rfl rfl ?_
    refine l_ldc F 4 rfl rfl rfl rfl rfl rfl rfl ?_
    first | have hpS := PnS.add hpS hS5 | have hpS := PnS.add hpS (OldC.sf (by assumption)) | skip
    refine l_ldc F 4 rfl rfl rfl rfl rfl rfl rfl ?_
    first | have hpS := PnS.add hpS hS5 | have hpS := PnS.add hpS (OldC.sf (by assumption)) | skip
    have hpA : PnA (pnAdd (pnAdd (some []) (some q5)) (some q5)) (fpOf (pk _ [0, 1])) s := PnA.celP F 4 rfl [0, 1] (by decide) (PnA.celP F 4 rfl [0, 1] (by decide) pna_nil)
    refine l_call F [0, 1] [2, 3, 4] (by decide) rfl rfl (by kernel_rfl) rfl rfl (free_call (F.sub [0, 1] (by decide)) hEx (by omega)) hD (fun y1 s F hy1 => ?_) (.inl hpA)
    (try dsimp only [n_1, n_2, n_3, n_4, List.append_nil, pk, n_5, n_6] at F)
    have hpA0 := PnA.cel F 2 rfl (PnA.cel F 2 rfl pna_nil)
    refine l_callp F rfl rfl (by kernel_rfl) rfl rfl num_call (fun _ s F _ => ?_) (.inl hpA0)
    (try dsimp only [n_1, n_2, n_3, n_4, List.append_nil, pk, n_5, n_6] at F)
    have hpA2 : PnA (pnAdd (pnAdd (some []) (some q5)) (some q5)) (fpOf (pk _ [0, 1])) s := PnA.celP F 2 rfl [0, 1] (by decide) (PnA.celP F 2 rfl [0, 1] (by decide) pna_nil)
    obtain ⟨e1, e2, e3, e4⟩ := free_same hP hA st en ta
    have hfc := rFree_call (O := fpOf (pk _ [0, 1])) (ad := ta) (F.sub [0, 1] (by decide)) (by omega)
    rw [e1, e2, e3] at hfc
    refine l_call F [0, 1] [2, 3, 4] (by decide) rfl rfl (by kernel_rfl) rfl rfl hfc hD (fun y2 s F _ => ?_) (.inl hpA2)
    (try dsimp only [n_1, n_2, n_3, n_4, List.append_nil, pk, n_5, n_6] at F)
    refine l_cmp rfl rfl rfl rfl ?_
    refine l_op 0 rfl rfl rfl rfl rfl ?_
    refine l_op 0 rfl rfl rfl rfl rfl ?_
    refine l_nil (WK.nx (by assumption) ?_)
    refine SeqK.nx (by assumption) ?_
    refine k_ret ?_
    refine BlkK.rt (by assumption) ?_
    refine SeqK.rt (by assumption) ?_
    refine FunK.rt (by assumption) rfl ?_
    -- leaf 2
    refine ⟨⟨m, y1.1, y1.2, y2.1, y2.2, _, _, _, _⟩, ?_, F.pick [1, 2, 3, 4] (by decide), hy1, hok_free hok, e4⟩
    show Value.tuple #[_, .bool (irr _)] = Value.tuple #[_, .bool true]
    rw [irr_eq, beq_self_eq_true]
  first | replace hc3 := ne_of_beq_false ((irr_eq _).symm.trans hc3) | simp only [irr_eq, beq_iff_eq, beq_eq_false_iff_ne, ne_eq, decide_eq_true_eq, decide_eq_false_iff_not] at hc3
  refine k_seq (fun Q K => ?_)
  refine k_lin (fun W K => ?_)
  refine l_cmp rfl rfl rfl rfl ?_
  refine l_op 0 rfl rfl rfl rfl rfl ?_
  refine l_nil (WK.nx (by assumption) ?_)
  refine SeqK.nx (by assumption) ?_
  refine l_cond rfl rfl (fun hc4 => ?_) (fun hc4 => ?_)
  · first | replace hc4 := eq_of_beq ((irr_eq _).symm.trans hc4) | simp only [irr_eq, beq_iff_eq, beq_eq_false_iff_ne, ne_eq, decide_eq_true_eq, decide_eq_false_iff_not] at hc4
    refine k_seq (fun Q K => ?_)
    refine k_lin (fun W K => ?_)
    refine l_op 0 rfl rfl rfl rfl rfl ?_
    refine l_callp F rfl rfl (by kernel_rfl) rfl rfl (rblocks_call (F.cel0 2 rfl) (Old.pure (F.has 3 rfl)) hP hA hok.blk (by omega)) (fun yb s F _ => ?_)
    (try dsimp only [n_1, n_2, n_3, n_4, List.append_nil, pk, n_5, n_6] at F)
    refine l_op 0 rfl rfl rfl rfl rfl ?_
    refine l_nil (WK.nx (by assumption) ?_)
    refine SeqK.nx (by assumption) ?_
    refine k_seq (fun Q K => ?_)
    refine k_seq (fun Q K => ?_)
    refine k_lin (fun W K => ?_)
    refine l_op 0 rfl rfl rfl rfl rfl ?_
    first | refine l_op 2 rfl rfl rfl rfl rfl ?_ | refine l_ln rfl rfl rfl rfl ?_
    refine l_cmp rfl rfl rfl rfl ?_
    refine l_nil (WK.nx (by assumption) ?_)
    refine SeqK.nx (by assumption) ?_
    refine l_cond rfl rfl (fun hc5 => ?_) (fun hc5 => ?_)
    · first | replace hc5 := eq_of_beq ((irr_eq _).symm.trans hc5) | simp only [irr_eq, beq_iff_eq, beq_eq_false_iff_ne, ne_eq, decide_eq_true_eq, decide_eq_false_iff_not] at hc5
      have hb0 : bl = [] := List.eq_nil_of_length_eq_zero (by omega)
      refine k_seq (fun Q K => ?_)
      refine k_lin (fun W K => ?_)
      refine l_op 0 rfl rfl rfl rfl rfl ?_
      refine l_op 0 rfl rfl rfl rfl rfl ?_
      refine l_call F [0, 1] [2, 3, 4, 5] (by decide) rfl rfl (by kernel_rfl) rfl rfl (free_call (F.sub [0, 1] (by decide)) hEx (by omega)) hD (fun y1 s F hy1 => ?_)
      (try dsimp only [n_1, n_2, n_3, n_4, List.append_nil, pk, n_5, n_6] at F)
      refine l_callp F rfl rfl (by kernel_rfl) rfl rfl num_call (fun _ s F _ => ?_)
      (try dsimp only [n_1, n_2, n_3, n_4, List.append_nil, pk, n_5, n_6] at F)
      refine l_cmp rfl rfl rfl rfl ?_
      refine l_op 0 rfl rfl rfl rfl rfl ?_
      refine l_op 0 rfl rfl rfl rfl rfl ?_
      refine l_nil (WK.nx (by assumption) ?_)
      refine SeqK.nx (by assumption) ?_
      refine k_ret ?_
      refine SeqK.rt (by assumption) ?_
      refine BlkK.rt (by assumption) ?_
      refine SeqK.rt (by assumption) ?_
      refine FunK.rt (by assumption) rfl ?_
      -- leaf 3
      subst hb0
      have hLn : L = [] := List.eq_nil_of_length_eq_zero (by omega)
      subst hLn
      refine ⟨⟨m, y1.1, y1.2, aw, cw, _, _, _, []⟩, ?_, F.pick [4, 5, 0, 1] (by decide), hy1, hok, .refl _⟩
      show Value.tuple #[_, .bool (irr _)] = Value.tuple #[_, .bool true]
      rw [irr_eq]; rfl
    first | replace hc5 := ne_of_beq_false ((irr_eq _).symm.trans hc5) | simp only [irr_eq, beq_iff_eq, beq_eq_false_iff_ne, ne_eq, decide_eq_true_eq, decide_eq_false_iff_not] at hc5
    have hmod : 0 ≤ tn % (bl.length : Int) ∧ tn % (bl.length : Int) < bl.length := ⟨Int.emod_nonneg _ (by omega), Int.emod_lt_of_pos _ (by omega)⟩
    refine k_skip ?_
    refine SeqK.nx (by assumption) ?_
    refine k_seq (fun Q K => ?_)
    refine k_lin (fun W K => ?_)
    refine l_op 0 rfl rfl rfl rfl rfl ?_
    refine l_op 2 rfl rfl rfl rfl rfl ?_
    refine l_ldc F 4 rfl rfl rfl rfl rfl rfl rfl ?_
    refine l_c64 rfl rfl rfl (by omega) rfl ?_
    refine l_op 0 rfl rfl rfl rfl rfl ?_
    first | refine l_op 2 rfl rfl rfl rfl rfl ?_ | refine l_ln rfl rfl rfl rfl ?_
    first | refine l_remn rfl rfl rfl rfl rfl (by omega) rfl ?_ | refine l_rem rfl rfl rfl rfl rfl (by omega) rfl ?_
    refine l_ixr (e := eB) rfl rfl rfl rfl rfl rfl (F.has 5 rfl) ⟨eB_len, by decide⟩ (by omega) (fun m81 b81 hA81 => ?_)
    refine l_lda (ws := eB (bl.getD (tn % bl.length).toNat default)) rfl rfl rfl rfl rfl hA81 ?_
    refine l_al F rfl rfl rfl rfl (fun q13 s F => ?_)
    (try dsimp only [n_1, n_2, n_3, n_4, List.append_nil, pk, n_5, n_6] at F)
    refine l_stca F 6 rfl rfl rfl rfl rfl rfl rfl rfl rfl rfl hD rfl (fun s F => ?_)
    (try dsimp only [n_1, n_2, n_3, n_4, List.append_nil, pk, n_5, n_6] at F)
    refine l_nil (WK.nx (by assumption) ?_)
    refine SeqK.nx (by assumption) ?_
    refine k_seq (fun Q K => ?_)
    refine k_linm [0, 1, 2, 6, 7, 3, 8, 4, 5, 9, 10, 11, 12] mixed (by kernel_rfl) (fun W K => ?_)
    try have hpS := F.pns
    refine l_op 0 rfl rfl rfl rfl rfl ?_
    refine l_op 0 rfl rfl rfl rfl rfl ?_
    refine l_op 2 rfl rfl rfl rfl rfl ?_
    refine l_op 0 rfl rfl rfl rfl rfl ?_
    refine l_op 2 rfl rfl rfl rfl rfl ?_
    refine l_ldc F 6 rfl rfl rfl rfl rfl rfl rfl ?_
    first | have hpS := PnS.add hpS hS13 | have hpS := PnS.add hpS (OldC.sf (by assumption)) | skip
    refine l_ldc F 6 rfl rfl rfl rfl rfl rfl rfl ?_
    first | have hpS := PnS.add hpS hS13 | have hpS := PnS.add hpS (OldC.sf (by assumption)) | skip
    have hpA : PnA (pnAdd (pnAdd (some []) (some q13)) (some q13)) (fpOf (pk _ [0, 1])) s := PnA.celP F 6 rfl [0, 1] (by decide) (PnA.celP F 6 rfl [0, 1] (by decide) pna_nil)
    refine l_call F [0, 1] [2, 3, 4, 5, 6] (by decide) rfl rfl (by kernel_rfl) rfl rfl (free_call (ad := (bl.getD (tn % bl.length).toNat default).1) (F.sub [0, 1] (by decide)) hEx (by omega)) hD (fun y1 s F hy1 => ?_) (.inl hpA)
    (try dsimp only [n_1, n_2, n_3, n_4, List.append_nil, pk, n_5, n_6] at F)
    have hpA0 := PnA.cel F 4 rfl (PnA.cel F 4 rfl pna_nil)
    refine l_callp F rfl rfl (by kernel_rfl) rfl rfl num_call (fun _ s F _ => ?_) (.inl hpA0)
    (try dsimp only [n_1, n_2, n_3, n_4, List.append_nil, pk, n_5, n_6] at F)
    have hpA2 : PnA (pnAdd (pnAdd (some []) (some q13)) (some q13)) (fpOf (pk _ [0, 1])) s := PnA.celP F 4 rfl [0, 1] (by decide) (PnA.celP F 4 rfl [0, 1] (by decide) pna_nil)
    obtain ⟨e1, e2, e3, e4⟩ := free_same hP hA st en (bl.getD (tn % bl.length).toNat default).1
    have hfc := rFree_call (O := fpOf (pk _ [0, 1])) (ad := (bl.getD (tn % bl.length).toNat default).1) (F.sub [0, 1] (by decide)) (by omega)
    rw [e1, e2, e3] at hfc
    refine l_call F [0, 1] [2, 3, 4, 5, 6] (by decide) rfl rfl (by kernel_rfl) rfl rfl hfc hD (fun y2 s F _ => ?_) (.inl hpA2)
    (try dsimp only [n_1, n_2, n_3, n_4, List.append_nil, pk, n_5, n_6] at F)
    refine l_cmp rfl rfl rfl rfl ?_
    refine l_op 0 rfl rfl rfl rfl rfl ?_
    refine l_op 0 rfl rfl rfl rfl rfl ?_
    refine l_nil (WK.nx (by assumption) ?_)
    refine SeqK.nx (by assumption) ?_
    refine k_ret ?_
    refine BlkK.rt (by assumption) ?_
    refine SeqK.rt (by assumption) ?_
    refine FunK.rt (by assumption) rfl ?_
    -- leaf 4
    refine ⟨⟨m, y1.1, y1.2, y2.1, y2.2, _, _, _, _⟩, ?_, F.pick [3, 4, 5, 6] (by decide), hy1, hok_free hok, e4⟩
    show Value.tuple #[_, .bool (irr _)] = Value.tuple #[_, .bool true]
    rw [irr_eq, beq_self_eq_true]
  first | replace hc4 := ne_of_beq_false ((irr_eq _).symm.trans hc4) | simp only [irr_eq, beq_iff_eq, beq_eq_false_iff_ne, ne_eq, decide_eq_true_eq, decide_eq_false_iff_not] at hc4
  refine k_seq (fun Q K => ?_)
  refine k_lin (fun W K => ?_)
  refine l_cmp rfl rfl rfl rfl ?_
  refine l_op 0 rfl rfl rfl rfl rfl ?_
  refine l_nil (WK.nx (by assumption) ?_)
  refine SeqK.nx (by assumption) ?_
  refine l_cond rfl rfl (fun hc6 => ?_) (fun hc6 => ?_)
  · first | replace hc6 := eq_of_beq ((irr_eq _).symm.trans hc6) | simp only [irr_eq, beq_iff_eq, beq_eq_false_iff_ne, ne_eq, decide_eq_true_eq, decide_eq_false_iff_not] at hc6
    refine k_seq (fun Q K => ?_)
    refine k_lin (fun W K => ?_)
    refine l_lit (k := 2) F rfl rfl rfl rfl (fun q96 s F => ?_)
    (try dsimp only [n_1, n_2, n_3, n_4, List.append_nil, pk, n_5, n_6] at F)
    refine l_op 2 rfl rfl rfl rfl rfl ?_
    refine l_ldc F 4 rfl rfl rfl rfl rfl rfl rfl ?_
    refine l_app (es := 2) (vs := []) F 5 rfl rfl rfl rfl rfl rfl rfl (F.old hl) (eB_one xs) rfl (by omega) hD (fun x99 c99 s F => ?_)
    (try dsimp only [n_1, n_2, n_3, n_4, List.append_nil, pk, n_5, n_6] at F)
    rw [Nat.zero_add xs.length] at F ⊢
    refine l_op 0 rfl rfl rfl rfl rfl ?_
    refine l_nil (WK.nx (by assumption) ?_)
    refine SeqK.nx (by assumption) ?_
    refine k_seq (fun Q K => ?_)
    refine k_lin (fun W K => ?_)
    refine l_op 0 rfl rfl rfl rfl rfl ?_
    refine l_op 2 rfl rfl rfl rfl rfl ?_
    refine l_ldc F 4 rfl rfl rfl rfl rfl rfl rfl ?_
    refine l_op 2 rfl rfl rfl rfl rfl ?_
    refine l_ldc F 4 rfl rfl rfl rfl rfl rfl rfl ?_
    refine l_op 0 rfl rfl rfl rfl rfl ?_
    refine l_call F [0, 1] [2, 3, 4, 5] (by decide) rfl rfl (by kernel_rfl) rfl rfl (load_call (xs := xs) (F.sub [0, 1] (by decide)) hEx (F.oldK [0, 1] 5 rfl (by decide)) hB ha he) hD (fun y1 s F hy1 => ?_)
    (try dsimp only [n_1, n_2, n_3, n_4, List.append_nil, pk, n_5, n_6] at F)
    refine l_op 0 rfl rfl rfl rfl rfl ?_
    refine l_nil (WK.nx (by assumption) ?_)
    refine SeqK.nx (by assumption) ?_
    refine k_seq (fun Q K => ?_)
    refine k_seq (fun Q K => ?_)
    refine k_lin (fun W K => ?_)
    refine l_op 0 rfl rfl rfl rfl rfl ?_
    refine l_nil (WK.nx (by assumption) ?_)
    refine SeqK.nx (by assumption) ?_
    refine k_block (fun Q K => ?_)
    refine k_loop (α := Int × List Value) (fun ⟨i, vs⟩ s => Facts O σ s [cel mw (rC aw cw most st en L), own aw L.length cw 2 (rows eB L), cel q5 [.int .i64 tk, .int .u32 tn, .int .u32 ta, .int .u32 te, .slice tx xs.length tc], own x99 xs.length c99 2 vs, cel m (hC m y1.1 y1.2 most (loadR most st en bl ta te xs).st (loadR most st en bl ta te xs).en (loadR most st en bl ta te xs).bl), own y1.1 (loadR most st en bl ta te xs).bl.length y1.2 2 (rows eB (loadR most st en bl ta te xs).bl)] ∧ 0 ≤ i) (fun ⟨i, vs⟩ => [(0, .pointer (some ⟨m, 0, none⟩)), (1, .pointer (some ⟨mw, 0, none⟩)), (5, .pointer (some ⟨q5, 0, none⟩)), (14, .slice x99 xs.length c99), (15, .int .i64 (loadR most st en bl ta te xs).ret), (16, .int .i64 i)]) (fun ⟨i, _⟩ => (xs.length - i).toNat) (0, rows eB xs) ⟨F, by omega⟩ (by repeat (first | exact trivial | refine And.intro rfl ?_)) ?_
    clear F
    rintro ⟨i, vs⟩ env s Q K0 ⟨F, i0⟩
    refine k_seq (fun Q K => ?_)
    refine k_seq (fun Q K => ?_)
    refine k_lin (fun W K => ?_)
    refine l_op 0 rfl rfl rfl rfl rfl ?_
    refine l_op 0 rfl rfl rfl rfl rfl ?_
    first | refine l_op 2 rfl rfl rfl rfl rfl ?_ | refine l_ln rfl rfl rfl rfl ?_
    refine l_cmp rfl rfl rfl rfl ?_
    refine l_nil (WK.nx (by assumption) ?_)
    refine SeqK.nx (by assumption) ?_
    refine l_cond rfl rfl (fun hc7 => ?_) (fun hc7 => ?_)
    · replace hc7 := of_decide_eq_true ((irr_eq _).symm.trans hc7)
      refine k_skip ?_
      refine SeqK.nx (by assumption) ?_
      refine k_seq (fun Q K => ?_)
      refine k_block (fun Q K => ?_)
      refine k_lin (fun W K => ?_)
      refine l_op 0 rfl rfl rfl rfl rfl ?_
      refine l_op 0 rfl rfl rfl rfl rfl ?_
      refine l_bld rfl rfl rfl rfl ?_
      refine l_ixo F 3 rfl rfl rfl rfl rfl rfl rfl (by omega) (fun m116 e116 ha116 hA116 => ?_)
      subst ha116
      refine l_stoa (sz := 2) (j := i.toNat * 2) (cs := #[.int .u32 5, .int .u32 5]) F 3 rfl rfl rfl rfl rfl rfl rfl rfl rfl (by omega) hD (fun s F => ?_)
      (try dsimp only [n_1, n_2, n_3, n_4, List.append_nil, pk, n_5, n_6] at F)
      refine l_nil (WK.nx (by assumption) ?_)
      refine BlkK.nx (by assumption) ?_
      refine SeqK.nx (by assumption) ?_
      refine k_lin (fun W K => ?_)
      refine l_op 0 rfl rfl rfl rfl rfl ?_
      refine l_a64 rfl rfl rfl (by omega) rfl ?_
      refine l_op 0 rfl rfl rfl rfl rfl ?_
      refine l_nil (WK.nx (by assumption) ?_)
      exact K0.nx (i + 1, _) (by repeat (first | exact trivial | refine And.intro rfl ?_)) ⟨F, by omega⟩ (by first | omega | (simp only; omega))
    replace hc7 := of_decide_eq_false ((irr_eq _).symm.trans hc7)
    refine k_exit ?_
    refine SeqK.et (by assumption) ?_
    refine LoopK.et (by assumption) ?_
    refine BlkK.et (by assumption) ?_
    refine SeqK.nx (by assumption) ?_
    refine k_seq (fun Q K => ?_)
    refine k_linm [0, 1, 3, 4, 6, 8, 5, 7, 9, 2, 10, 11, 12, 13] mixed (by kernel_rfl) (fun W K => ?_)
    try have hpS := F.pns
    refine l_op 0 rfl rfl rfl rfl rfl ?_
    refine l_op 0 rfl rfl rfl rfl rfl ?_
    refine l_op 0 rfl rfl rfl rfl rfl ?_
    refine l_op 2 rfl rfl rfl rfl rfl ?_
    refine l_op 2 rfl rfl rfl rfl rfl ?_
    refine l_op 2 rfl rfl rfl rfl rfl ?_
    refine l_ldc F 2 rfl rfl rfl rfl rfl rfl rfl ?_
    first | have hpS := PnS.add hpS hS5 | have hpS := PnS.add hpS (OldC.sf (by assumption)) | skip
    refine l_ldc F 2 rfl rfl rfl rfl rfl rfl rfl ?_
    first | have hpS := PnS.add hpS hS5 | have hpS := PnS.add hpS (OldC.sf (by assumption)) | skip
    refine l_ldc F 2 rfl rfl rfl rfl rfl rfl rfl ?_
    first | have hpS := PnS.add hpS hS5 | have hpS := PnS.add hpS (OldC.sf (by assumption)) | skip
    have hpA0 := PnA.cel F 2 rfl (PnA.cel F 2 rfl (PnA.cel F 2 rfl pna_nil))
    refine l_callp F rfl rfl (by kernel_rfl) rfl rfl num_call (fun _ s F _ => ?_) (.inl hpA0)
    (try dsimp only [n_1, n_2, n_3, n_4, List.append_nil, pk, n_5, n_6] at F)
    obtain ⟨e1, e2, e3, e4⟩ := load_same (xs := xs) hP most st en ta te
    have hld := rload_call (xs := xs) (F.sub [0, 1] (by decide)) (F.oldO hl [0, 1]) hB ha he (by omega)
    rw [e1, e2, e3] at hld
    have hpA2 : PnA (pnAdd (pnAdd (pnAdd (some []) (some q5)) (some q5)) (some q5)) (fpOf (pk _ [0, 1])) s := PnA.celP F 2 rfl [0, 1] (by decide) (PnA.celP F 2 rfl [0, 1] (by decide) (PnA.celP F 2 rfl [0, 1] (by decide) pna_nil))
    refine l_call F [0, 1] [2, 3, 4, 5] (by decide) rfl rfl (by kernel_rfl) rfl rfl hld hD (fun y2 s F _ => ?_) (.inl hpA2)
    (try dsimp only [n_1, n_2, n_3, n_4, List.append_nil, pk, n_5, n_6] at F)
    refine l_cmp rfl rfl rfl rfl ?_
    refine l_op 0 rfl rfl rfl rfl rfl ?_
    refine l_op 0 rfl rfl rfl rfl rfl ?_
    refine l_nil (WK.nx (by assumption) ?_)
    refine SeqK.nx (by assumption) ?_
    refine k_ret ?_
    refine BlkK.rt (by assumption) ?_
    refine SeqK.rt (by assumption) ?_
    refine FunK.rt (by assumption) rfl ?_
    -- leaf 5
    refine ⟨⟨m, y1.1, y1.2, y2.1, y2.2, _, _, _, _⟩, ?_, F.pick [2, 3, 4, 5] (by decide), hy1, hok_load hok hB ha he, e4⟩
    show Value.tuple #[_, .bool (irr _)] = Value.tuple #[_, .bool true]
    rw [irr_eq, beq_self_eq_true]
  first | replace hc6 := ne_of_beq_false ((irr_eq _).symm.trans hc6) | simp only [irr_eq, beq_iff_eq, beq_eq_false_iff_ne, ne_eq, decide_eq_true_eq, decide_eq_false_iff_not] at hc6
  refine k_seq (fun Q K => ?_)
  refine k_lin (fun W K => ?_)
  refine l_cmp rfl rfl rfl rfl ?_
  refine l_op 0 rfl rfl rfl rfl rfl ?_
  refine l_nil (WK.nx (by assumption) ?_)
  refine SeqK.nx (by assumption) ?_
  refine l_cond rfl rfl (fun hc8 => ?_) (fun hc8 => ?_)
  · first | replace hc8 := eq_of_beq ((irr_eq _).symm.trans hc8) | simp only [irr_eq, beq_iff_eq, beq_eq_false_iff_ne, ne_eq, decide_eq_true_eq, decide_eq_false_iff_not] at hc8
    refine k_seq (fun Q K => ?_)
    refine k_lin (fun W K => ?_)
    refine l_op 0 rfl rfl rfl rfl rfl ?_
    refine l_callp F rfl rfl (by kernel_rfl) rfl rfl (copy_call (F.cel0 0 rfl) (Old.pure (F.has 1 rfl)) (by omega)) (fun yc s F hyc => ?_)
    (try dsimp only [n_1, n_2, n_3, n_4, List.append_nil, pk, n_5, n_6] at F)
    refine l_op 0 rfl rfl rfl rfl rfl ?_
    refine l_nil (WK.nx (by assumption) ?_)
    refine SeqK.nx (by assumption) ?_
    refine k_seq (fun Q K => ?_)
    refine k_lin (fun W K => ?_)
    refine l_op 0 rfl rfl rfl rfl rfl ?_
    have hok1 := hok_malloc hok hm (n := 1) (e := 256) (by decide) (by decide)
    have hl41 := hok1.len
    refine l_call F [0, 1] [2, 3, 4, 5, 6] (by decide) rfl rfl (by kernel_rfl) rfl rfl (malloc_call (n := 1) (e := 256) (F.sub [0, 1] (by decide)) hEx hok.blk (by omega) hm hok.ust hok.uen (by decide) (by decide)) hD (fun y1 s F hy1 => ?_)
    (try dsimp only [n_1, n_2, n_3, n_4, List.append_nil, pk, n_5, n_6] at F)
    refine l_nil (WK.nx (by assumption) ?_)
    refine SeqK.nx (by assumption) ?_
    refine k_seq (fun Q K => ?_)
    refine k_lin (fun W K => ?_)
    refine l_op 0 rfl rfl rfl rfl rfl ?_
    refine l_op 0 rfl rfl rfl rfl rfl ?_
    refine l_callp F rfl rfl (by kernel_rfl) rfl rfl (start_call (F.cel0 5 rfl)) (fun _ s F _ => ?_)
    (try dsimp only [n_1, n_2, n_3, n_4, List.append_nil, pk, n_5, n_6] at F)
    refine l_call F [5, 6] [0, 1, 2, 3, 4] (by decide) rfl rfl (by kernel_rfl) rfl rfl (free_call (F.sub [5, 6] (by decide)) hy1 (by omega)) hD (fun y2 s F hy2 => ?_)
    (try dsimp only [n_1, n_2, n_3, n_4, List.append_nil, pk, n_5, n_6] at F)
    refine l_nil (WK.nx (by assumption) ?_)
    refine SeqK.nx (by assumption) ?_
    refine k_seq (fun Q K => ?_)
    refine k_lin (fun W K => ?_)
    refine l_op 0 rfl rfl rfl rfl rfl ?_
    refine l_op 0 rfl rfl rfl rfl rfl ?_
    refine l_cmp rfl rfl rfl rfl ?_
    refine l_op 0 rfl rfl rfl rfl rfl ?_
    refine l_op 0 rfl rfl rfl rfl rfl ?_
    refine l_nil (WK.nx (by assumption) ?_)
    refine SeqK.nx (by assumption) ?_
    refine k_ret ?_
    refine BlkK.rt (by assumption) ?_
    refine SeqK.rt (by assumption) ?_
    refine FunK.rt (by assumption) rfl ?_
    -- leaf 6
    refine ⟨⟨yc.1, yc.2.1, yc.2.2, aw, cw, _, _, _, L⟩, ?_, F.pick [3, 4, 0, 1] (by decide), hyc, hok, hP⟩
    show Value.tuple #[_, .bool (irr _)] = Value.tuple #[_, .bool true]
    rw [irr_eq]; rfl
  first | replace hc8 := ne_of_beq_false ((irr_eq _).symm.trans hc8) | simp only [irr_eq, beq_iff_eq, beq_eq_false_iff_ne, ne_eq, decide_eq_true_eq, decide_eq_false_iff_not] at hc8
  refine k_skip ?_
  refine BlkK.nx (by assumption) ?_
  refine SeqK.nx (by assumption) ?_
  refine k_seq (fun Q K => ?_)
  refine k_lin (fun W K => ?_)
  refine l_op 0 rfl rfl rfl rfl rfl ?_
  refine l_op 0 rfl rfl rfl rfl rfl ?_
  refine l_op 0 rfl rfl rfl rfl rfl ?_
  refine l_nil (WK.nx (by assumption) ?_)
  refine SeqK.nx (by assumption) ?_
  refine k_ret ?_
  refine FunK.rt (by assumption) rfl ?_
  -- leaf 7
  exact ⟨⟨m, a, c, aw, cw, _, _, _, L⟩, rfl, F.pick [0, 1, 2, 3] (by decide), hEx, hok, hP⟩

end Go.Proofs.Ytkealnppdblgiaa
