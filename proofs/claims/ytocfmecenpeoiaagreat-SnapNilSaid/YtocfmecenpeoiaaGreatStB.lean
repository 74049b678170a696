/- Does a frame lie at a place, by the program and by the document; which bytes are a stack. No statement of the seat is proved in this text. -/
import Derived.Test.YtocfmecenpeoiaaGreatStA
import Derived.Test.YtocfmecenpeoiaaGreatLibBe
set_option linter.unusedVariables false
set_option linter.unusedSimpArgs false
set_option maxRecDepth 100000
set_option maxHeartbeats 4000000
namespace Go.Proofs.YtocfmecenpeoiaaGreat.Stk
open GAb Go

theorem irrd {p : Prop} [Decidable p] : irr (decide p) = true ↔ p := by rw [irr_eq]; exact decide_eq_true_iff
theorem not_frame {bs : List Int} {f t : Int} (h : ¬ FrameOK bs f t) : (false = true ↔ FrameOK bs f t) := ⟨(fun h => by cases h), fun k => (h k).elim⟩
theorem locV_is (bs : List Int) : locV bs = .tuple #[.int .i64 (locR bs).1, .int .i64 (locR bs).2.1, .int .i64 (locR bs).2.2] := rfl

theorem pairsF_call {σ : AState} {n c : Nat} {a : Option Addr} {f t : Int} {bs : List Int} (hl : Old E0 σ a n c 1 (u8l bs)) (hn : n ≤ 20000) (h1 : (f + 8).toNat ≤ t.toNat) (h2 : t.toNat ≤ n) :
    SCall Tryz.prog E0 158 [.slice (shift a ((f + 8).toNat * 1)) (t.toNat - (f + 8).toNat) (c - (f + 8).toNat)] σ (Ret E0 σ (fun (_ : Unit) => .int .i64 (fmtN bs f t)) (fun _ => []) fun _ => True) := pairs_call (hl.part8 h1 h2) (by omega)
theorem localsF_call {σ : AState} {n c : Nat} {a : Option Addr} {f t : Int} {bs : List Int} (hl : Old E0 σ a n c 1 (u8l bs)) (hB : Bytes bs) (hn : n ≤ 20000) (h1 : (f + 8).toNat ≤ (f + 8 + fmtN bs f t).toNat) (h2 : (f + 8 + fmtN bs f t).toNat ≤ n) :
    SCall Tryz.prog E0 108 [.slice (shift a ((f + 8).toNat * 1)) ((f + 8 + fmtN bs f t).toNat - (f + 8).toNat) (c - (f + 8).toNat)] σ (Ret E0 σ (fun (_ : Unit) => .tuple #[.int .i64 (fmtP bs f t), .int .i64 (fmtS bs f t), .int .i64 (locR (fmtF bs f t)).2.2]) (fun _ => []) fun _ => True) := locals_call (hl.part8 h1 h2) ((hB.drop _).take _) (by omega)
theorem frame_call {σ : AState} {m n c : Nat} {a : Option Addr} {size fp f t : Int} {on : Bool} {bs : List Int} (hc : OldC E0 σ m (sC a n c size fp on)) (hl : Old E0 σ a n c 1 (u8l bs)) (hB : Bytes bs) (hn : n ≤ 20000) (hf : 0 ≤ f ∧ f ≤ 4294967295) (ht : 0 ≤ t ∧ t ≤ n) :
    SCall Tryz.prog E0 121 [.pointer (some ⟨m, 0, none⟩), .int .i64 f, .int .i64 t] σ (Ret E0 σ (fun (y : Bool) => .bool (irr y)) (fun _ => []) fun y => y = true ↔ FrameOK bs f t) := by
  have hbl := hl.len8
  obtain ⟨p0, p1, s0, s1, _, _⟩ := fmt_bd hB (by omega) f t
  obtain ⟨n0, n1, n2⟩ := fmtN_bd bs f t
  refine k_fun Tryz.func121 rfl (m := 71) rfl fun B hD Q K => ?_
  have F := Facts.nil E0 σ
  refine k_seq fun Q K => k_lin fun W K => ?_
  refine l_op 0 rfl rfl rfl rfl rfl ?_
  refine l_nil (WK.nx ‹_› (SeqK.nx ‹_› ?_))
  refine k_seq fun Q K => k_seq fun Q K => k_lin fun W K => ?_
  refine l_op 0 rfl rfl rfl rfl rfl ?_
  refine l_remn rfl rfl rfl rfl rfl (by omega) rfl ?_
  refine l_cmp rfl rfl rfl rfl ?_
  refine l_op 0 rfl rfl rfl rfl rfl ?_
  refine l_guard rfl rfl rfl (fun hc1 => ?_) (fun hc1 => ?_)
  · replace hc1 := bne_iff_ne.1 ((irr_eq _).symm.trans hc1)
    iterate 4 refine l_s rfl rfl ?_
    refine l_op 2 rfl rfl rfl rfl rfl ?_
    refine l_nil (WK.nx ‹_› (SeqK.nx ‹_› ?_))
    refine e_cond_t rfl rfl rfl ?_
    refine k_seq fun Q K => k_lin fun W K => ?_
    refine l_op 0 rfl rfl rfl rfl rfl ?_
    refine l_nil (WK.nx ‹_› (SeqK.nx ‹_› (k_ret (SeqK.rt ‹_› ?_))))
    refine FunK.rt (by assumption) rfl ?_
    -- leaf 1
    (refine ⟨false, irr_f, F, not_frame (fun h => ?_)⟩
     obtain ⟨h1, h2, h3, h4, h5, h6⟩ := h
     first | omega | exact h3 (by assumption) | exact absurd h4 (by assumption) | exact absurd h5 (by assumption))
  replace hc1 := bne_eq_false_iff_eq.1 ((irr_eq _).symm.trans hc1)
  refine l_op 0 rfl rfl rfl rfl rfl ?_
  refine l_a64 rfl rfl rfl (by omega) rfl ?_
  refine l_op 0 rfl rfl rfl rfl rfl ?_
  refine l_cmp rfl rfl rfl rfl ?_
  refine l_op 2 rfl rfl rfl rfl rfl ?_
  refine l_nil (WK.nx ‹_› (SeqK.nx ‹_› ?_))
  refine l_cond rfl rfl (fun hc2 => ?_) (fun hc2 => ?_)
  · replace hc2 := of_decide_eq_true ((irr_eq _).symm.trans hc2)
    refine k_seq fun Q K => k_lin fun W K => ?_
    refine l_op 0 rfl rfl rfl rfl rfl ?_
    refine l_nil (WK.nx ‹_› (SeqK.nx ‹_› (k_ret (SeqK.rt ‹_› ?_))))
    refine FunK.rt (by assumption) rfl ?_
    -- leaf 2
    (refine ⟨false, irr_f, F, not_frame (fun h => ?_)⟩
     obtain ⟨h1, h2, h3, h4, h5, h6⟩ := h
     first | omega | exact h3 (by assumption) | exact absurd h4 (by assumption) | exact absurd h5 (by assumption))
  replace hc2 := of_decide_eq_false ((irr_eq _).symm.trans hc2)
  refine k_skip (SeqK.nx ‹_› ?_)
  refine k_seq fun Q K => k_lin fun W K => ?_
  refine l_op 0 rfl rfl rfl rfl rfl ?_
  iterate 2 refine l_op 2 rfl rfl rfl rfl rfl ?_
  refine l_ldo F (by assumption) rfl rfl rfl rfl rfl rfl ?_
  refine l_op 0 rfl rfl rfl rfl rfl ?_
  refine l_a64 rfl rfl rfl (by omega) rfl ?_
  refine l_op 0 rfl rfl rfl rfl rfl ?_
  refine l_sl rfl rfl rfl rfl rfl rfl rfl rfl ⟨rfl, _, _, rfl, by omega, rfl⟩ (F.old (by assumption)) (by omega) ?_
  refine l_callp F rfl rfl (by kernel_rfl) rfl rfl (pairsF_call (f := f) (t := t) (Old.pure (F.old hl)) (by omega) (by omega) (by omega)) (fun _ s F _ => ?_)
  (try dsimp only [n_1, n_2, n_3, n_4, List.append_nil, pk, n_5, n_6] at F)
  refine l_op 0 rfl rfl rfl rfl rfl ?_
  refine l_nil (WK.nx ‹_› (SeqK.nx ‹_› ?_))
  refine k_seq fun Q K => k_seq fun Q K => k_lin fun W K => ?_
  refine l_op 0 rfl rfl rfl rfl rfl ?_
  refine l_cmp rfl rfl rfl rfl ?_
  refine l_nil (WK.nx ‹_› (SeqK.nx ‹_› ?_))
  refine l_cond rfl rfl (fun hc3 => ?_) (fun hc3 => ?_)
  · replace hc3 := eq_of_beq ((irr_eq _).symm.trans hc3)
    refine k_seq fun Q K => k_lin fun W K => ?_
    refine l_op 0 rfl rfl rfl rfl rfl ?_
    refine l_nil (WK.nx ‹_› (SeqK.nx ‹_› (k_ret (SeqK.rt ‹_› ?_))))
    refine FunK.rt (by assumption) rfl ?_
    -- leaf 3
    (refine ⟨false, irr_f, F, not_frame (fun h => ?_)⟩
     obtain ⟨h1, h2, h3, h4, h5, h6⟩ := h
     first | omega | exact h3 (by assumption) | exact absurd h4 (by assumption) | exact absurd h5 (by assumption))
  replace hc3 := ne_of_beq_false ((irr_eq _).symm.trans hc3)
  refine k_skip (SeqK.nx ‹_› ?_)
  refine k_seq fun Q K => k_lin fun W K => ?_
  refine l_op 0 rfl rfl rfl rfl rfl ?_
  iterate 2 refine l_op 2 rfl rfl rfl rfl rfl ?_
  refine l_ldo F (by assumption) rfl rfl rfl rfl rfl rfl ?_
  refine l_op 0 rfl rfl rfl rfl rfl ?_
  refine l_a64 rfl rfl rfl (by omega) rfl ?_
  refine l_op 0 rfl rfl rfl rfl rfl ?_
  refine l_a64 rfl rfl rfl (by omega) rfl ?_
  refine l_op 0 rfl rfl rfl rfl rfl ?_
  refine l_a64 rfl rfl rfl (by omega) rfl ?_
  refine l_sl rfl rfl rfl rfl rfl rfl rfl rfl ⟨rfl, _, _, rfl, by omega, rfl⟩ (F.old (by assumption)) (by omega) ?_
  refine l_callp F rfl rfl (by kernel_rfl) rfl rfl (localsF_call (f := f) (t := t) (Old.pure (F.old hl)) hB (by omega) (by omega) (by omega)) (fun _ s F _ => ?_)
  (try dsimp only [n_1, n_2, n_3, n_4, List.append_nil, pk, n_5, n_6] at F)
  refine l_op 0 rfl rfl rfl rfl rfl ?_
  iterate 3 refine l_op 2 rfl rfl rfl rfl rfl ?_
  iterate 3 refine l_op 0 rfl rfl rfl rfl rfl ?_
  refine l_nil (WK.nx ‹_› (SeqK.nx ‹_› ?_))
  refine k_seq fun Q K => k_lin fun W K => ?_
  iterate 2 refine l_op 0 rfl rfl rfl rfl rfl ?_
  refine l_callp F rfl rfl (by kernel_rfl) rfl rfl (at_call (F.oldc0 hc) (Old.pure (F.old hl)) hB (by omega)) (fun _ s F _ => ?_)
  (try dsimp only [n_1, n_2, n_3, n_4, List.append_nil, pk, n_5, n_6] at F)
  iterate 2 refine l_op 0 rfl rfl rfl rfl rfl ?_
  refine l_a64 rfl rfl rfl (by omega) rfl ?_
  refine l_cmp rfl rfl rfl rfl ?_
  refine l_op 0 rfl rfl rfl rfl rfl ?_
  refine l_guard rfl rfl rfl (fun hc4 => ?_) (fun hc4 => ?_)
  · replace hc4 := eq_of_beq ((irr_eq _).symm.trans hc4)
    iterate 2 refine l_op 0 rfl rfl rfl rfl rfl ?_
    refine l_a64 rfl rfl rfl (by omega) rfl ?_
    refine l_callp F rfl rfl (by kernel_rfl) rfl rfl (at_call (F.oldc0 hc) (Old.pure (F.old hl)) hB (by omega)) (fun _ s F _ => ?_)
    (try dsimp only [n_1, n_2, n_3, n_4, List.append_nil, pk, n_5, n_6] at F)
    refine l_op 0 rfl rfl rfl rfl rfl ?_
    refine l_cmp rfl rfl rfl rfl ?_
    refine l_op 2 rfl rfl rfl rfl rfl ?_
    refine l_op 0 rfl rfl rfl rfl rfl ?_
    refine l_guard rfl rfl rfl (fun hc5 => ?_) (fun hc5 => ?_)
    · replace hc5 := eq_of_beq ((irr_eq _).symm.trans hc5)
      iterate 2 refine l_op 0 rfl rfl rfl rfl rfl ?_
      refine l_a64 rfl rfl rfl (by omega) rfl ?_
      refine l_op 0 rfl rfl rfl rfl rfl ?_
      refine l_a64 rfl rfl rfl (by omega) rfl ?_
      refine l_op 0 rfl rfl rfl rfl rfl ?_
      refine l_cmp rfl rfl rfl rfl ?_
      refine l_op 2 rfl rfl rfl rfl rfl ?_
      refine l_op 0 rfl rfl rfl rfl rfl ?_
      refine l_nil (WK.nx ‹_› (SeqK.nx ‹_› (k_ret ?_)))
      refine FunK.rt (by assumption) rfl ?_
      -- leaf 4
      (refine ⟨_, rfl, F, ?_⟩
       simp only [decide_eq_true_eq]
       exact ⟨fun h => ⟨by omega, by omega, by assumption, by assumption, by assumption, by assumption⟩, fun h => h.2.2.2.2.2⟩)
    replace hc5 := ne_of_beq_false ((irr_eq _).symm.trans hc5)
    iterate 7 refine l_s rfl rfl ?_
    refine l_op 2 rfl rfl rfl rfl rfl ?_
    refine l_op 0 rfl rfl rfl rfl rfl ?_
    refine l_nil (WK.nx ‹_› (SeqK.nx ‹_› (k_ret ?_)))
    refine FunK.rt (by assumption) rfl ?_
    -- leaf 5
    (refine ⟨false, irr_f, F, not_frame (fun h => ?_)⟩
     obtain ⟨h1, h2, h3, h4, h5, h6⟩ := h
     first | omega | exact h3 (by assumption) | exact absurd h4 (by assumption) | exact absurd h5 (by assumption))
  replace hc4 := ne_of_beq_false ((irr_eq _).symm.trans hc4)
  iterate 6 refine l_s rfl rfl ?_
  refine l_op 2 rfl rfl rfl rfl rfl ?_
  refine l_op 0 rfl rfl rfl rfl rfl ?_
  iterate 7 refine l_s rfl rfl ?_
  refine l_op 2 rfl rfl rfl rfl rfl ?_
  refine l_op 0 rfl rfl rfl rfl rfl ?_
  refine l_nil (WK.nx ‹_› (SeqK.nx ‹_› (k_ret ?_)))
  refine FunK.rt (by assumption) rfl ?_
  -- leaf 6
  (refine ⟨false, irr_f, F, not_frame (fun h => ?_)⟩
   obtain ⟨h1, h2, h3, h4, h5, h6⟩ := h
   first | omega | exact h3 (by assumption) | exact absurd h4 (by assumption) | exact absurd h5 (by assumption))

theorem rat_call {σ : AState} {m n c : Nat} {a : Option Addr} {size fp p : Int} {on : Bool} {bs : List Int} (hc : OldC E0 σ m (sC a n c size fp on)) (hl : Old E0 σ a n c 1 (u8l bs)) (hB : Bytes bs) (hn : n ≤ 1000000) :
    SCall Tryz.prog E0 126 [.pointer (some ⟨m, 0, none⟩), .int .i64 p] σ (Ret E0 σ (fun (_ : Unit) => .int .i64 (at4 bs p)) (fun _ => []) fun _ => True) := by
  have hb := at4_bd hB p
  refine k_fun Tryz.func126 rfl (m := 18) rfl fun B hD Q K => ?_
  have F := Facts.nil E0 σ
  refine k_seq fun Q K => k_lin fun W K => ?_
  refine l_op 0 rfl rfl rfl rfl rfl ?_
  refine l_nil (WK.nx ‹_› (SeqK.nx ‹_› ?_))
  refine k_seq fun Q K => k_lin fun W K => ?_
  refine l_op 0 rfl rfl rfl rfl rfl ?_
  iterate 2 refine l_op 2 rfl rfl rfl rfl rfl ?_
  refine l_ldo F (by assumption) rfl rfl rfl rfl rfl rfl ?_
  refine l_op 0 rfl rfl rfl rfl rfl ?_
  refine l_callp F rfl rfl (by kernel_rfl) rfl rfl (rbe_call (at_ := p) (n := 4) (Old.pure (F.old hl)) hB (by omega)) (fun _ s F _ => ?_)
  (try dsimp only [n_1, n_2, n_3, n_4, List.append_nil, pk, n_5, n_6] at F)
  refine l_op 0 rfl rfl rfl rfl rfl ?_
  iterate 2 refine l_op 2 rfl rfl rfl rfl rfl ?_
  iterate 2 refine l_op 0 rfl rfl rfl rfl rfl ?_
  refine l_nil (WK.nx ‹_› (SeqK.nx ‹_› ?_))
  refine k_seq fun Q K => k_lin fun W K => ?_
  refine l_op 0 rfl rfl rfl rfl rfl ?_
  refine l_c64 (z := at4 bs p) rfl rfl rfl (by omega) rfl ?_
  refine l_op 0 rfl rfl rfl rfl rfl ?_
  refine l_nil (WK.nx ‹_› (SeqK.nx ‹_› (k_ret ?_)))
  refine FunK.rt (by assumption) rfl ?_
  -- leaf 1
  exact ⟨(), rfl, F, trivial⟩

theorem formatF_call {σ : AState} {n c : Nat} {a : Option Addr} {f t : Int} {bs : List Int} (hl : Old E0 σ a n c 1 (u8l bs)) (hn : n ≤ 20000) (h1 : (f + 8).toNat ≤ t.toNat) (h2 : t.toNat ≤ n) :
    SCall Tryz.prog E0 162 [.slice (shift a ((f + 8).toNat * 1)) (t.toNat - (f + 8).toNat) (c - (f + 8).toNat)] σ (Ret E0 σ (fun (_ : Unit) => .int .i64 (fmtN bs f t)) (fun _ => []) fun _ => True) := format_call (hl.part8 h1 h2) (by omega)
theorem rlocalsF_call {σ : AState} {n c : Nat} {a : Option Addr} {f t : Int} {bs : List Int} (hl : Old E0 σ a n c 1 (u8l bs)) (hB : Bytes bs) (hn : n ≤ 20000) (hf : 0 ≤ f) (h1 : (f + 8).toNat ≤ t.toNat) (h2 : t.toNat ≤ n) :
    SCall Tryz.prog E0 110 [.slice (shift a ((f + 8).toNat * 1)) (fmtN bs f t).toNat (c - (f + 8).toNat)] σ (Ret E0 σ (fun (_ : Unit) => .tuple #[.int .i64 (fmtP bs f t), .int .i64 (fmtS bs f t), .int .i64 (locR (fmtF bs f t)).2.2]) (fun _ => []) fun _ => True) := by
  obtain ⟨n0, n1, n2⟩ := fmtN_bd bs f t
  have h := (hl.part8 h1 h2).upto8 (hi := (fmtN bs f t).toNat) (by omega)
  have e : (List.take (t.toNat - (f + 8).toNat) (List.drop (f + 8).toNat bs)).take (fmtN bs f t).toNat = fmtF bs f t := by
    unfold fmtF
    rw [List.take_take]
    congr 1; omega
  rw [e] at h
  exact rlocals_call h ((hB.drop _).take _) (by omega)
theorem rlies_call {σ : AState} {m n c : Nat} {a : Option Addr} {size fp f t : Int} {on : Bool} {bs : List Int} (hc : OldC E0 σ m (sC a n c size fp on)) (hl : Old E0 σ a n c 1 (u8l bs)) (hB : Bytes bs) (hn : n ≤ 20000) (hf : 0 ≤ f ∧ f ≤ 4294967295) (ht : 0 ≤ t ∧ t ≤ n) :
    SCall Tryz.prog E0 167 [.pointer (some ⟨m, 0, none⟩), .int .i64 f, .int .i64 t] σ (Ret E0 σ (fun (y : Bool) => .bool (irr y)) (fun _ => []) fun y => y = true ↔ FrameOK bs f t) := by
  have hbl := hl.len8
  obtain ⟨p0, p1, s0, s1, _, _⟩ := fmt_bd hB (by omega) f t
  obtain ⟨n0, n1, n2⟩ := fmtN_bd bs f t
  refine k_fun Tryz.func167 rfl (m := 65) rfl fun B hD Q K => ?_
  have F := Facts.nil E0 σ
  refine k_seq fun Q K => k_lin fun W K => ?_
  refine l_op 0 rfl rfl rfl rfl rfl ?_
  refine l_nil (WK.nx ‹_› (SeqK.nx ‹_› ?_))
  refine k_seq fun Q K => k_seq fun Q K => k_lin fun W K => ?_
  refine l_op 0 rfl rfl rfl rfl rfl ?_
  refine l_remn rfl rfl rfl rfl rfl (by omega) rfl ?_
  refine l_cmp rfl rfl rfl rfl ?_
  refine l_op 0 rfl rfl rfl rfl rfl ?_
  refine l_guard rfl rfl rfl (fun hc1 => ?_) (fun hc1 => ?_)
  · replace hc1 := bne_iff_ne.1 ((irr_eq _).symm.trans hc1)
    iterate 4 refine l_s rfl rfl ?_
    refine l_op 2 rfl rfl rfl rfl rfl ?_
    refine l_nil (WK.nx ‹_› (SeqK.nx ‹_› ?_))
    refine e_cond_t rfl rfl rfl ?_
    refine k_seq fun Q K => k_lin fun W K => ?_
    refine l_op 0 rfl rfl rfl rfl rfl ?_
    refine l_nil (WK.nx ‹_› (SeqK.nx ‹_› (k_ret (SeqK.rt ‹_› ?_))))
    refine FunK.rt (by assumption) rfl ?_
    -- leaf 1
    (refine ⟨false, irr_f, F, not_frame (fun h => ?_)⟩
     obtain ⟨h1, h2, h3, h4, h5, h6⟩ := h
     first | omega | exact h3 (by assumption) | exact absurd h4 (by assumption) | exact absurd h5 (by assumption))
  replace hc1 := bne_eq_false_iff_eq.1 ((irr_eq _).symm.trans hc1)
  refine l_op 0 rfl rfl rfl rfl rfl ?_
  refine l_a64 rfl rfl rfl (by omega) rfl ?_
  refine l_op 0 rfl rfl rfl rfl rfl ?_
  refine l_cmp rfl rfl rfl rfl ?_
  refine l_op 2 rfl rfl rfl rfl rfl ?_
  refine l_nil (WK.nx ‹_› (SeqK.nx ‹_› ?_))
  refine l_cond rfl rfl (fun hc2 => ?_) (fun hc2 => ?_)
  · replace hc2 := of_decide_eq_true ((irr_eq _).symm.trans hc2)
    refine k_seq fun Q K => k_lin fun W K => ?_
    refine l_op 0 rfl rfl rfl rfl rfl ?_
    refine l_nil (WK.nx ‹_› (SeqK.nx ‹_› (k_ret (SeqK.rt ‹_› ?_))))
    refine FunK.rt (by assumption) rfl ?_
    -- leaf 2
    (refine ⟨false, irr_f, F, not_frame (fun h => ?_)⟩
     obtain ⟨h1, h2, h3, h4, h5, h6⟩ := h
     first | omega | exact h3 (by assumption) | exact absurd h4 (by assumption) | exact absurd h5 (by assumption))
  replace hc2 := of_decide_eq_false ((irr_eq _).symm.trans hc2)
  refine k_skip (SeqK.nx ‹_› ?_)
  refine k_seq fun Q K => k_lin fun W K => ?_
  refine l_op 0 rfl rfl rfl rfl rfl ?_
  iterate 2 refine l_op 2 rfl rfl rfl rfl rfl ?_
  refine l_ldo F (by assumption) rfl rfl rfl rfl rfl rfl ?_
  refine l_op 0 rfl rfl rfl rfl rfl ?_
  refine l_a64 rfl rfl rfl (by omega) rfl ?_
  refine l_op 0 rfl rfl rfl rfl rfl ?_
  refine l_sl rfl rfl rfl rfl rfl rfl rfl rfl ⟨rfl, _, _, rfl, by omega, rfl⟩ (F.old (by assumption)) (by omega) ?_
  refine l_op 0 rfl rfl rfl rfl rfl ?_
  refine l_nil (WK.nx ‹_› (SeqK.nx ‹_› ?_))
  refine k_seq fun Q K => k_lin fun W K => ?_
  refine l_op 0 rfl rfl rfl rfl rfl ?_
  refine l_callp F rfl rfl (by kernel_rfl) rfl rfl (formatF_call (f := f) (t := t) (Old.pure (F.old hl)) (by omega) (by omega) (by omega)) (fun _ s F _ => ?_)
  (try dsimp only [n_1, n_2, n_3, n_4, List.append_nil, pk, n_5, n_6] at F)
  refine l_op 0 rfl rfl rfl rfl rfl ?_
  refine l_nil (WK.nx ‹_› (SeqK.nx ‹_› ?_))
  refine k_seq fun Q K => k_seq fun Q K => k_lin fun W K => ?_
  refine l_op 0 rfl rfl rfl rfl rfl ?_
  refine l_cmp rfl rfl rfl rfl ?_
  refine l_nil (WK.nx ‹_› (SeqK.nx ‹_› ?_))
  refine l_cond rfl rfl (fun hc3 => ?_) (fun hc3 => ?_)
  · replace hc3 := eq_of_beq ((irr_eq _).symm.trans hc3)
    refine k_seq fun Q K => k_lin fun W K => ?_
    refine l_op 0 rfl rfl rfl rfl rfl ?_
    refine l_nil (WK.nx ‹_› (SeqK.nx ‹_› (k_ret (SeqK.rt ‹_› ?_))))
    refine FunK.rt (by assumption) rfl ?_
    -- leaf 3
    (refine ⟨false, irr_f, F, not_frame (fun h => ?_)⟩
     obtain ⟨h1, h2, h3, h4, h5, h6⟩ := h
     first | omega | exact h3 (by assumption) | exact absurd h4 (by assumption) | exact absurd h5 (by assumption))
  replace hc3 := ne_of_beq_false ((irr_eq _).symm.trans hc3)
  refine k_skip (SeqK.nx ‹_› ?_)
  refine k_seq fun Q K => k_lin fun W K => ?_
  iterate 2 refine l_op 0 rfl rfl rfl rfl rfl ?_
  refine l_slh rfl rfl rfl rfl rfl ⟨rfl, _, _, rfl, by omega, rfl⟩ (F.old (hl.part8 (lo := (f + 8).toNat) (hi := t.toNat) (by omega) (by omega))) (by omega) ?_
  refine l_callp F rfl rfl (by kernel_rfl) rfl rfl (rlocalsF_call (f := f) (t := t) (Old.pure (F.old hl)) hB (by omega) (by omega) (by omega) (by omega)) (fun _ s F _ => ?_)
  (try dsimp only [n_1, n_2, n_3, n_4, List.append_nil, pk, n_5, n_6] at F)
  refine l_op 0 rfl rfl rfl rfl rfl ?_
  iterate 3 refine l_op 2 rfl rfl rfl rfl rfl ?_
  iterate 3 refine l_op 0 rfl rfl rfl rfl rfl ?_
  refine l_nil (WK.nx ‹_› (SeqK.nx ‹_› ?_))
  refine k_seq fun Q K => k_lin fun W K => ?_
  iterate 2 refine l_op 0 rfl rfl rfl rfl rfl ?_
  refine l_callp F rfl rfl (by kernel_rfl) rfl rfl (rat_call (F.oldc0 hc) (Old.pure (F.old hl)) hB (by omega)) (fun _ s F _ => ?_)
  (try dsimp only [n_1, n_2, n_3, n_4, List.append_nil, pk, n_5, n_6] at F)
  iterate 2 refine l_op 0 rfl rfl rfl rfl rfl ?_
  refine l_a64 rfl rfl rfl (by omega) rfl ?_
  refine l_cmp rfl rfl rfl rfl ?_
  refine l_op 0 rfl rfl rfl rfl rfl ?_
  refine l_guard rfl rfl rfl (fun hc4 => ?_) (fun hc4 => ?_)
  · replace hc4 := eq_of_beq ((irr_eq _).symm.trans hc4)
    iterate 2 refine l_op 0 rfl rfl rfl rfl rfl ?_
    refine l_a64 rfl rfl rfl (by omega) rfl ?_
    refine l_callp F rfl rfl (by kernel_rfl) rfl rfl (rat_call (F.oldc0 hc) (Old.pure (F.old hl)) hB (by omega)) (fun _ s F _ => ?_)
    (try dsimp only [n_1, n_2, n_3, n_4, List.append_nil, pk, n_5, n_6] at F)
    refine l_op 0 rfl rfl rfl rfl rfl ?_
    refine l_cmp rfl rfl rfl rfl ?_
    refine l_op 2 rfl rfl rfl rfl rfl ?_
    refine l_op 0 rfl rfl rfl rfl rfl ?_
    refine l_guard rfl rfl rfl (fun hc5 => ?_) (fun hc5 => ?_)
    · replace hc5 := eq_of_beq ((irr_eq _).symm.trans hc5)
      iterate 2 refine l_op 0 rfl rfl rfl rfl rfl ?_
      refine l_a64 rfl rfl rfl (by omega) rfl ?_
      refine l_op 0 rfl rfl rfl rfl rfl ?_
      refine l_a64 rfl rfl rfl (by omega) rfl ?_
      refine l_op 0 rfl rfl rfl rfl rfl ?_
      refine l_cmp rfl rfl rfl rfl ?_
      refine l_op 2 rfl rfl rfl rfl rfl ?_
      refine l_op 0 rfl rfl rfl rfl rfl ?_
      refine l_nil (WK.nx ‹_› (SeqK.nx ‹_› (k_ret ?_)))
      refine FunK.rt (by assumption) rfl ?_
      -- leaf 4
      (refine ⟨_, rfl, F, ?_⟩
       simp only [decide_eq_true_eq]
       exact ⟨fun h => ⟨by omega, by omega, by assumption, by assumption, by assumption, by assumption⟩, fun h => h.2.2.2.2.2⟩)
    replace hc5 := ne_of_beq_false ((irr_eq _).symm.trans hc5)
    iterate 7 refine l_s rfl rfl ?_
    refine l_op 2 rfl rfl rfl rfl rfl ?_
    refine l_op 0 rfl rfl rfl rfl rfl ?_
    refine l_nil (WK.nx ‹_› (SeqK.nx ‹_› (k_ret ?_)))
    refine FunK.rt (by assumption) rfl ?_
    -- leaf 5
    (refine ⟨false, irr_f, F, not_frame (fun h => ?_)⟩
     obtain ⟨h1, h2, h3, h4, h5, h6⟩ := h
     first | omega | exact h3 (by assumption) | exact absurd h4 (by assumption) | exact absurd h5 (by assumption))
  replace hc4 := ne_of_beq_false ((irr_eq _).symm.trans hc4)
  iterate 6 refine l_s rfl rfl ?_
  refine l_op 2 rfl rfl rfl rfl rfl ?_
  refine l_op 0 rfl rfl rfl rfl rfl ?_
  iterate 7 refine l_s rfl rfl ?_
  refine l_op 2 rfl rfl rfl rfl rfl ?_
  refine l_op 0 rfl rfl rfl rfl rfl ?_
  refine l_nil (WK.nx ‹_› (SeqK.nx ‹_› (k_ret ?_)))
  refine FunK.rt (by assumption) rfl ?_
  -- leaf 6
  (refine ⟨false, irr_f, F, not_frame (fun h => ?_)⟩
   obtain ⟨h1, h2, h3, h4, h5, h6⟩ := h
   first | omega | exact h3 (by assumption) | exact absurd h4 (by assumption) | exact absurd h5 (by assumption))

/-- Which bytes may be a stack with a stub on top. -/
def RightR (bs : List Int) (size : Int) : Prop := (bs.length : Int) ≤ size ∧ (bs.length : Int) % 4 = 0 ∧ 16 ≤ bs.length ∧ Chain bs (at4 bs (bs.length - 4)) (bs.length - 16)
theorem frame_lt {bs : List Int} {f t : Int} (h : FrameOK bs f t) : f + 10 ≤ t := h.2.1
theorem right_call {σ : AState} {n c : Nat} {a : Option Addr} {size : Int} {bs : List Int} (hl : Old E0 σ a n c 1 (u8l bs)) (hB : Bytes bs) (hn : n ≤ 20000) :
    SCall Tryz.prog E0 125 [.slice a n c, .int .i64 size] σ (Ret E0 σ (fun (y : Bool) => .bool (irr y)) (fun _ => []) fun y => y = true ↔ RightR bs size) := by
  have hbl := hl.len8
  refine k_fun Tryz.func125 rfl (m := 48) rfl fun B hD Q K => ?_
  have F := Facts.nil E0 σ
  refine k_seq fun Q K => k_lin fun W K => ?_
  refine l_op 0 rfl rfl rfl rfl rfl ?_
  refine l_nil (WK.nx ‹_› (SeqK.nx ‹_› ?_))
  refine k_seq fun Q K => k_seq fun Q K => k_lin fun W K => ?_
  refine l_op 0 rfl rfl rfl rfl rfl ?_
  refine l_op 2 rfl rfl rfl rfl rfl ?_
  refine l_op 0 rfl rfl rfl rfl rfl ?_
  refine l_cmp rfl rfl rfl rfl ?_
  refine l_op 0 rfl rfl rfl rfl rfl ?_
  refine l_guard rfl rfl rfl (fun hc1 => ?_) (fun hc1 => ?_)
  · replace hc1 := of_decide_eq_true ((irr_eq _).symm.trans hc1)
    iterate 4 refine l_s rfl rfl ?_
    refine l_op 2 rfl rfl rfl rfl rfl ?_
    refine l_op 0 rfl rfl rfl rfl rfl ?_
    iterate 3 refine l_s rfl rfl ?_
    refine l_op 2 rfl rfl rfl rfl rfl ?_
    refine l_nil (WK.nx ‹_› (SeqK.nx ‹_› ?_))
    refine e_cond_t rfl rfl rfl ?_
    refine k_seq fun Q K => k_lin fun W K => ?_
    refine l_op 0 rfl rfl rfl rfl rfl ?_
    refine l_nil (WK.nx ‹_› (SeqK.nx ‹_› (k_ret (SeqK.rt ‹_› ?_))))
    refine FunK.rt (by assumption) rfl ?_
    -- leaf 1
    (refine ⟨false, irr_f, F.pick [] (by decide), ⟨(fun h => by cases h), fun h => ?_⟩⟩
     first
       | (unfold RightR at h; omega)
       | (have hf := (hR.1 h).ge; omega)
       | (have hf := (hR.1 h).frame
          rw [← hy] at hf
          simp_all; done))
  replace hc1 := of_decide_eq_false ((irr_eq _).symm.trans hc1)
  refine l_op 0 rfl rfl rfl rfl rfl ?_
  refine l_op 2 rfl rfl rfl rfl rfl ?_
  refine l_remn rfl rfl rfl rfl rfl (by omega) rfl ?_
  refine l_cmp rfl rfl rfl rfl ?_
  refine l_op 2 rfl rfl rfl rfl rfl ?_
  refine l_op 0 rfl rfl rfl rfl rfl ?_
  refine l_guard rfl rfl rfl (fun hc2 => ?_) (fun hc2 => ?_)
  · replace hc2 := bne_iff_ne.1 ((irr_eq _).symm.trans hc2)
    iterate 3 refine l_s rfl rfl ?_
    refine l_op 2 rfl rfl rfl rfl rfl ?_
    refine l_nil (WK.nx ‹_› (SeqK.nx ‹_› ?_))
    refine e_cond_t rfl rfl rfl ?_
    refine k_seq fun Q K => k_lin fun W K => ?_
    refine l_op 0 rfl rfl rfl rfl rfl ?_
    refine l_nil (WK.nx ‹_› (SeqK.nx ‹_› (k_ret (SeqK.rt ‹_› ?_))))
    refine FunK.rt (by assumption) rfl ?_
    -- leaf 2
    (refine ⟨false, irr_f, F.pick [] (by decide), ⟨(fun h => by cases h), fun h => ?_⟩⟩
     first
       | (unfold RightR at h; omega)
       | (have hf := (hR.1 h).ge; omega)
       | (have hf := (hR.1 h).frame
          rw [← hy] at hf
          simp_all; done))
  replace hc2 := bne_eq_false_iff_eq.1 ((irr_eq _).symm.trans hc2)
  refine l_op 0 rfl rfl rfl rfl rfl ?_
  refine l_op 2 rfl rfl rfl rfl rfl ?_
  refine l_cmp rfl rfl rfl rfl ?_
  refine l_op 2 rfl rfl rfl rfl rfl ?_
  refine l_nil (WK.nx ‹_› (SeqK.nx ‹_› ?_))
  refine l_cond rfl rfl (fun hc3 => ?_) (fun hc3 => ?_)
  · replace hc3 := of_decide_eq_true ((irr_eq _).symm.trans hc3)
    refine k_seq fun Q K => k_lin fun W K => ?_
    refine l_op 0 rfl rfl rfl rfl rfl ?_
    refine l_nil (WK.nx ‹_› (SeqK.nx ‹_› (k_ret (SeqK.rt ‹_› ?_))))
    refine FunK.rt (by assumption) rfl ?_
    -- leaf 3
    (refine ⟨false, irr_f, F.pick [] (by decide), ⟨(fun h => by cases h), fun h => ?_⟩⟩
     first
       | (unfold RightR at h; omega)
       | (have hf := (hR.1 h).ge; omega)
       | (have hf := (hR.1 h).frame
          rw [← hy] at hf
          simp_all; done))
  replace hc3 := of_decide_eq_false ((irr_eq _).symm.trans hc3)
  refine k_skip (SeqK.nx ‹_› ?_)
  refine k_seq fun Q K => k_lin fun W K => ?_
  refine l_op 0 rfl rfl rfl rfl rfl ?_
  refine l_bld rfl rfl rfl rfl ?_
  refine l_bx F rfl rfl rfl rfl rfl (fun q25 s F => ?_)
  (try dsimp only [n_1, n_2, n_3, n_4, List.append_nil, pk, n_5, n_6] at F)
  refine l_op 0 rfl rfl rfl rfl rfl ?_
  refine l_nil (WK.nx ‹_› (SeqK.nx ‹_› ?_))
  refine k_seq fun Q K => k_lin fun W K => ?_
  refine l_op 0 rfl rfl rfl rfl rfl ?_
  refine l_op 2 rfl rfl rfl rfl rfl ?_
  refine l_a64 rfl rfl rfl (by omega) rfl ?_
  refine l_op 0 rfl rfl rfl rfl rfl ?_
  refine l_nil (WK.nx ‹_› (SeqK.nx ‹_› ?_))
  refine k_seq fun Q K => k_lin fun W K => ?_
  iterate 2 refine l_op 0 rfl rfl rfl rfl rfl ?_
  refine l_a64 rfl rfl rfl (by omega) rfl ?_
  refine l_callp F rfl rfl (by kernel_rfl) rfl rfl (rat_call (F.cel0 0 rfl) (Old.pure (F.old hl)) hB (by omega)) (fun _ s F _ => ?_)
  (try dsimp only [n_1, n_2, n_3, n_4, List.append_nil, pk, n_5, n_6] at F)
  refine l_op 0 rfl rfl rfl rfl rfl ?_
  refine l_nil (WK.nx ‹_› (SeqK.nx ‹_› ?_))
  refine k_block fun Q K => ?_
  have hb0 := at4_bd hB ((n : Int) - 16 + 12)
  refine k_loop (α := Int × Int) (fun ⟨f, t⟩ s => Facts E0 σ s [cel q25 (sC a n c 0 0 false)] ∧ 0 ≤ f ∧ f ≤ 4294967295 ∧ 0 ≤ t ∧ t ≤ n ∧ (RightR bs size ↔ Chain bs f t)) (fun ⟨f, t⟩ => [(5, .pointer (some ⟨q25, 0, none⟩)), (6, .int .i64 t), (7, .int .i64 f)]) (fun ⟨f, t⟩ => t.toNat) (at4 bs ((n : Int) - 16 + 12), (n : Int) - 16) ⟨F, hb0.1, hb0.2, by omega, by omega, by
    unfold RightR
    rw [hbl, show (n : Int) - 16 + 12 = n - 4 by omega]
    exact ⟨fun h => h.2.2.2, fun h => ⟨by omega, by omega, by omega, h⟩⟩⟩ (by repeat (first | exact trivial | refine And.intro rfl ?_)) ?_
  clear F
  rintro ⟨f, t⟩ env s Q K0 ⟨F, f0, f1, t0, t1, hR⟩
  have hb1 := at4_bd hB (f - 16 + 12)
  refine k_block fun Q K => k_seq fun Q K => k_seq fun Q K => k_lin fun W K => ?_
  iterate 3 refine l_op 0 rfl rfl rfl rfl rfl ?_
  refine l_callp F rfl rfl (by kernel_rfl) rfl rfl (rlies_call (F.cel0 0 rfl) (Old.pure (F.old hl)) hB (by omega) (by omega) (by omega)) (fun y s F hy => ?_)
  (try dsimp only [n_1, n_2, n_3, n_4, List.append_nil, pk, n_5, n_6] at F)
  refine l_op 2 rfl rfl rfl rfl rfl ?_
  refine l_nil (WK.nx ‹_› (SeqK.nx ‹_› ?_))
  refine l_cond rfl rfl (fun hc4 => ?_) (fun hc4 => ?_)
  · try simp only [i_1, i_2, i_3, i_4, i_5, ne_eq, i_6, i_7, i_8, i_9] at hc4
    refine k_seq fun Q K => k_lin fun W K => ?_
    refine l_op 0 rfl rfl rfl rfl rfl ?_
    refine l_nil (WK.nx ‹_› (SeqK.nx ‹_› (k_ret (SeqK.rt ‹_› (BlkK.rt ‹_› ?_)))))
    refine LoopK.rt (by assumption) ?_
    refine BlkK.rt ‹_› ?_
    refine FunK.rt (by assumption) rfl ?_
    -- leaf 4
    (refine ⟨false, irr_f, F.pick [] (by decide), ⟨(fun h => by cases h), fun h => ?_⟩⟩
     first
       | (unfold RightR at h; omega)
       | (have hf := (hR.1 h).ge; omega)
       | (have hf := (hR.1 h).frame
          rw [← hy] at hf
          simp_all; done))
  try simp only [i_1, i_2, i_3, i_4, i_5, ne_eq, i_6, i_7, i_8, i_9] at hc4
  refine k_skip (SeqK.nx ‹_› ?_)
  refine k_seq fun Q K => k_seq fun Q K => k_lin fun W K => ?_
  refine l_op 0 rfl rfl rfl rfl rfl ?_
  refine l_cmp rfl rfl rfl rfl ?_
  refine l_nil (WK.nx ‹_› (SeqK.nx ‹_› ?_))
  refine l_cond rfl rfl (fun hc5 => ?_) (fun hc5 => ?_)
  · replace hc5 := eq_of_beq ((irr_eq _).symm.trans hc5)
    refine k_seq fun Q K => k_lin fun W K => ?_
    refine l_op 0 rfl rfl rfl rfl rfl ?_
    refine l_nil (WK.nx ‹_› (SeqK.nx ‹_› (k_ret (SeqK.rt ‹_› (BlkK.rt ‹_› ?_)))))
    refine LoopK.rt (by assumption) ?_
    refine BlkK.rt ‹_› ?_
    refine FunK.rt (by assumption) rfl ?_
    -- leaf 5
    (refine ⟨true, irr_t, F.pick [] (by decide), ⟨fun _ => ?_, fun _ => rfl⟩⟩
     refine hR.2 (chain_iff.2 ⟨hy.1 (by simp_all), .inl (by omega)⟩))
  replace hc5 := ne_of_beq_false ((irr_eq _).symm.trans hc5)
  refine k_skip (SeqK.nx ‹_› ?_)
  refine k_seq fun Q K => k_seq fun Q K => k_lin fun W K => ?_
  refine l_op 0 rfl rfl rfl rfl rfl ?_
  refine l_cmp rfl rfl rfl rfl ?_
  refine l_nil (WK.nx ‹_› (SeqK.nx ‹_› ?_))
  refine l_cond rfl rfl (fun hc6 => ?_) (fun hc6 => ?_)
  · replace hc6 := of_decide_eq_true ((irr_eq _).symm.trans hc6)
    refine k_seq fun Q K => k_lin fun W K => ?_
    refine l_op 0 rfl rfl rfl rfl rfl ?_
    refine l_nil (WK.nx ‹_› (SeqK.nx ‹_› (k_ret (SeqK.rt ‹_› (BlkK.rt ‹_› ?_)))))
    refine LoopK.rt (by assumption) ?_
    refine BlkK.rt ‹_› ?_
    refine FunK.rt (by assumption) rfl ?_
    -- leaf 6
    (refine ⟨false, irr_f, F.pick [] (by decide), ⟨(fun h => by cases h), fun h => ?_⟩⟩
     first
       | (unfold RightR at h; omega)
       | (have hf := (hR.1 h).ge; omega)
       | (have hf := (hR.1 h).frame
          rw [← hy] at hf
          simp_all; done))
  replace hc6 := of_decide_eq_false ((irr_eq _).symm.trans hc6)
  refine k_skip (SeqK.nx ‹_› ?_)
  refine k_seq fun Q K => k_lin fun W K => ?_
  refine l_op 0 rfl rfl rfl rfl rfl ?_
  refine l_a64 rfl rfl rfl (by omega) rfl ?_
  refine l_op 0 rfl rfl rfl rfl rfl ?_
  refine l_nil (WK.nx ‹_› (SeqK.nx ‹_› ?_))
  refine k_lin fun W K => ?_
  iterate 2 refine l_op 0 rfl rfl rfl rfl rfl ?_
  refine l_a64 rfl rfl rfl (by omega) rfl ?_
  refine l_callp F rfl rfl (by kernel_rfl) rfl rfl (rat_call (F.cel0 0 rfl) (Old.pure (F.old hl)) hB (by omega)) (fun _ s F _ => ?_)
  (try dsimp only [n_1, n_2, n_3, n_4, List.append_nil, pk, n_5, n_6] at F)
  refine l_op 0 rfl rfl rfl rfl rfl ?_
  refine l_nil (WK.nx ‹_› (BlkK.nx ‹_› ?_))
  have hfr : FrameOK bs f t := hy.1 (by simp_all)
  have hlt := frame_lt hfr
  exact K0.nx (_, f - 16) (by repeat (first | exact trivial | refine And.intro rfl ?_)) ⟨F, hb1.1, hb1.2, by omega, by omega, by
    rw [hR, show f - 16 + 12 = f - 4 by omega]
    exact ⟨fun h => (h.prev (by omega)).2, fun h => .step hfr (by omega) (by omega) h⟩⟩ (by first | omega | (simp only; omega))

end Go.Proofs.YtocfmecenpeoiaaGreat.Stk
