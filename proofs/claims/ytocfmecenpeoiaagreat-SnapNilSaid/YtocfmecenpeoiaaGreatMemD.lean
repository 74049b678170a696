/- A memory's heap: blocks come and go, by the program. No statement of the seat is proved in this text. -/
import Derived.Test.YtocfmecenpeoiaaGreatMemC
set_option linter.unusedVariables false
set_option linter.unusedSimpArgs false
set_option maxRecDepth 100000
set_option maxHeartbeats 4000000
namespace Go.Proofs.YtocfmecenpeoiaaGreat
open GAb Go

/-- May the memory have so many bytes? -/
def rszOK (z : MZ) (n : Int) : Bool := decide (z.bl = [] ∧ 768 ≤ n ∧ n ≤ 1048576 ∧ n % 256 = 0)
def rszB (z : MZ) (n : Int) : List Int := if rszOK z n = true then growB z.bs n.toNat else z.bs
theorem resize_call {O : Nat → Prop} {σ : AState} {m : Nat} {z : MZ} {n : Int} (F : Facts O σ σ (mF m z)) (ok : MOK z) (hn : U32 n) :
    SCall Tryz.prog O 86 [.pointer (some ⟨m, 0, none⟩), .int .u32 n] σ (Ret O σ (fun (y : Nat × Nat × Nat) => .bool (irr (rszOK z n))) (fun y => mF m (z.wg y (rszB z n))) fun y => (rszB z n).length ≤ y.2.1 ∧ y.2.1 ≤ y.2.2 ∧ (rszB z n).length ≤ 1048576) := by
  obtain ⟨n0, n1⟩ := hn
  have hr := ok.room
  refine k_fun Tryz.func86 rfl (m := 38) rfl fun B hD Q K => ?_
  refine k_seq fun Q K => k_lin fun W K => ?_
  refine l_op 0 rfl rfl rfl rfl rfl ?_
  refine l_nil (WK.nx ‹_› (SeqK.nx ‹_› ?_))
  refine k_seq fun Q K => k_seq fun Q K => k_lin fun W K => ?_
  refine l_op 0 rfl rfl rfl rfl rfl ?_
  refine l_cmp rfl rfl rfl rfl ?_
  refine l_op 0 rfl rfl rfl rfl rfl ?_
  refine l_guard rfl rfl rfl (fun hc1 => ?_) (fun hc1 => ?_)
  · simp only [irr_eq, beq_iff_eq, beq_eq_false_iff_ne, ne_eq, decide_eq_true_eq, decide_eq_false_iff_not] at hc1
    iterate 5 refine l_s rfl rfl ?_
    refine l_op 2 rfl rfl rfl rfl rfl ?_
    refine l_op 0 rfl rfl rfl rfl rfl ?_
    iterate 8 refine l_s rfl rfl ?_
    refine l_op 2 rfl rfl rfl rfl rfl ?_
    refine l_op 0 rfl rfl rfl rfl rfl ?_
    iterate 2 refine l_s rfl rfl ?_
    refine l_op 2 rfl rfl rfl rfl rfl ?_
    refine l_op 0 rfl rfl rfl rfl rfl ?_
    iterate 3 refine l_s rfl rfl ?_
    refine l_op 2 rfl rfl rfl rfl rfl ?_
    refine l_nil (WK.nx ‹_› (SeqK.nx ‹_› ?_))
    refine e_cond_t rfl rfl rfl ?_
    refine k_seq fun Q K => k_lin fun W K => ?_
    refine l_op 0 rfl rfl rfl rfl rfl ?_
    refine l_nil (WK.nx ‹_› (SeqK.nx ‹_› (k_ret (SeqK.rt ‹_› ?_))))
    refine FunK.rt (by assumption) rfl ?_
    -- leaf 1
    exact absurd hc1 (by decide)
  simp only [irr_eq, beq_iff_eq, beq_eq_false_iff_ne, ne_eq, decide_eq_true_eq, decide_eq_false_iff_not] at hc1
  refine l_op 0 rfl rfl rfl rfl rfl ?_
  iterate 2 refine l_op 2 rfl rfl rfl rfl rfl ?_
  refine l_ldc F 0 rfl rfl rfl rfl rfl rfl rfl ?_
  refine l_callp F rfl rfl (by kernel_rfl) rfl rfl (active_call (F.cel0 3 rfl)) (fun _ s F _ => ?_)
  (try dsimp only [n_1, n_2, n_3, n_4, List.append_nil, pk, n_5, n_6] at F)
  refine l_op 2 rfl rfl rfl rfl rfl ?_
  refine l_op 0 rfl rfl rfl rfl rfl ?_
  refine l_guard rfl rfl rfl (fun hc2 => ?_) (fun hc2 => ?_)
  · try simp only [i_1, i_2, i_3, i_4, i_5, ne_eq, i_6, i_7, i_8, i_9] at hc2
    iterate 8 refine l_s rfl rfl ?_
    refine l_op 2 rfl rfl rfl rfl rfl ?_
    refine l_op 0 rfl rfl rfl rfl rfl ?_
    iterate 2 refine l_s rfl rfl ?_
    refine l_op 2 rfl rfl rfl rfl rfl ?_
    refine l_op 0 rfl rfl rfl rfl rfl ?_
    iterate 3 refine l_s rfl rfl ?_
    refine l_op 2 rfl rfl rfl rfl rfl ?_
    refine l_nil (WK.nx ‹_› (SeqK.nx ‹_› ?_))
    refine e_cond_t rfl rfl rfl ?_
    refine k_seq fun Q K => k_lin fun W K => ?_
    refine l_op 0 rfl rfl rfl rfl rfl ?_
    refine l_nil (WK.nx ‹_› (SeqK.nx ‹_› (k_ret (SeqK.rt ‹_› ?_))))
    refine FunK.rt (by assumption) rfl ?_
    -- leaf 2
    (have e : rszOK z n = false := decide_eq_false (fun h => by
       have h1 := h.1
       have h2 := h.2
       first
         | omega
         | (rw [h1] at hc2; exact absurd hc2 (by decide)))
     have e2 : rszB z n = z.bs := if_neg (by rw [e]; decide)
     rw [e, e2]
     exact ⟨(z.q, z.cb, z.c), by rw [irr_eq]; rfl, F, ok.room⟩)
  try simp only [i_1, i_2, i_3, i_4, i_5, ne_eq, i_6, i_7, i_8, i_9] at hc2
  iterate 2 refine l_op 0 rfl rfl rfl rfl rfl ?_
  iterate 4 refine l_op 2 rfl rfl rfl rfl rfl ?_
  refine l_ldc F 0 rfl rfl rfl rfl rfl rfl rfl ?_
  refine l_cmp rfl rfl rfl rfl ?_
  refine l_op 2 rfl rfl rfl rfl rfl ?_
  refine l_op 0 rfl rfl rfl rfl rfl ?_
  refine l_guard rfl rfl rfl (fun hc3 => ?_) (fun hc3 => ?_)
  · replace hc3 := of_decide_eq_true ((irr_eq _).symm.trans hc3)
    iterate 2 refine l_s rfl rfl ?_
    refine l_op 2 rfl rfl rfl rfl rfl ?_
    refine l_op 0 rfl rfl rfl rfl rfl ?_
    iterate 3 refine l_s rfl rfl ?_
    refine l_op 2 rfl rfl rfl rfl rfl ?_
    refine l_nil (WK.nx ‹_› (SeqK.nx ‹_› ?_))
    refine e_cond_t rfl rfl rfl ?_
    refine k_seq fun Q K => k_lin fun W K => ?_
    refine l_op 0 rfl rfl rfl rfl rfl ?_
    refine l_nil (WK.nx ‹_› (SeqK.nx ‹_› (k_ret (SeqK.rt ‹_› ?_))))
    refine FunK.rt (by assumption) rfl ?_
    -- leaf 3
    (have e : rszOK z n = false := decide_eq_false (fun h => by
       have h1 := h.1
       have h2 := h.2
       first
         | omega
         | (rw [h1] at hc2; exact absurd hc2 (by decide)))
     have e2 : rszB z n = z.bs := if_neg (by rw [e]; decide)
     rw [e, e2]
     exact ⟨(z.q, z.cb, z.c), by rw [irr_eq]; rfl, F, ok.room⟩)
  replace hc3 := of_decide_eq_false ((irr_eq _).symm.trans hc3)
  refine l_op 0 rfl rfl rfl rfl rfl ?_
  refine l_cmp rfl rfl rfl rfl ?_
  refine l_op 2 rfl rfl rfl rfl rfl ?_
  refine l_op 0 rfl rfl rfl rfl rfl ?_
  refine l_guard rfl rfl rfl (fun hc4 => ?_) (fun hc4 => ?_)
  · replace hc4 := of_decide_eq_true ((irr_eq _).symm.trans hc4)
    iterate 3 refine l_s rfl rfl ?_
    refine l_op 2 rfl rfl rfl rfl rfl ?_
    refine l_nil (WK.nx ‹_› (SeqK.nx ‹_› ?_))
    refine e_cond_t rfl rfl rfl ?_
    refine k_seq fun Q K => k_lin fun W K => ?_
    refine l_op 0 rfl rfl rfl rfl rfl ?_
    refine l_nil (WK.nx ‹_› (SeqK.nx ‹_› (k_ret (SeqK.rt ‹_› ?_))))
    refine FunK.rt (by assumption) rfl ?_
    -- leaf 4
    (have e : rszOK z n = false := decide_eq_false (fun h => by
       have h1 := h.1
       have h2 := h.2
       first
         | omega
         | (rw [h1] at hc2; exact absurd hc2 (by decide)))
     have e2 : rszB z n = z.bs := if_neg (by rw [e]; decide)
     rw [e, e2]
     exact ⟨(z.q, z.cb, z.c), by rw [irr_eq]; rfl, F, ok.room⟩)
  replace hc4 := of_decide_eq_false ((irr_eq _).symm.trans hc4)
  refine l_op 0 rfl rfl rfl rfl rfl ?_
  refine l_remn rfl rfl rfl rfl rfl (by omega) rfl ?_
  refine l_cmp rfl rfl rfl rfl ?_
  refine l_op 2 rfl rfl rfl rfl rfl ?_
  refine l_nil (WK.nx ‹_› (SeqK.nx ‹_› ?_))
  refine l_cond rfl rfl (fun hc5 => ?_) (fun hc5 => ?_)
  · replace hc5 := bne_iff_ne.1 ((irr_eq _).symm.trans hc5)
    refine k_seq fun Q K => k_lin fun W K => ?_
    refine l_op 0 rfl rfl rfl rfl rfl ?_
    refine l_nil (WK.nx ‹_› (SeqK.nx ‹_› (k_ret (SeqK.rt ‹_› ?_))))
    refine FunK.rt (by assumption) rfl ?_
    -- leaf 5
    (have e : rszOK z n = false := decide_eq_false (fun h => by
       have h1 := h.1
       have h2 := h.2
       first
         | omega
         | (rw [h1] at hc2; exact absurd hc2 (by decide)))
     have e2 : rszB z n = z.bs := if_neg (by rw [e]; decide)
     rw [e, e2]
     exact ⟨(z.q, z.cb, z.c), by rw [irr_eq]; rfl, F, ok.room⟩)
  replace hc5 := bne_eq_false_iff_eq.1 ((irr_eq _).symm.trans hc5)
  refine k_skip (SeqK.nx ‹_› ?_)
  refine k_seq fun Q K => k_lin fun W K => ?_
  refine l_op 0 rfl rfl rfl rfl rfl ?_
  iterate 2 refine l_op 2 rfl rfl rfl rfl rfl ?_
  refine l_op 0 rfl rfl rfl rfl rfl ?_
  refine l_call F [0, 1, 2, 3, 4] [] (by decide) rfl rfl (by kernel_rfl) rfl rfl (grow_call (n := n) (F.sub [0, 1, 2, 3, 4] (by decide)) ok (by omega)) hD (fun y s F hy => ?_)
  (try dsimp only [n_1, n_2, n_3, n_4, List.append_nil, pk, n_5, n_6] at F)
  refine l_nil (WK.nx ‹_› (SeqK.nx ‹_› ?_))
  refine k_seq fun Q K => k_lin fun W K => ?_
  refine l_op 0 rfl rfl rfl rfl rfl ?_
  refine l_nil (WK.nx ‹_› (SeqK.nx ‹_› (k_ret ?_)))
  refine FunK.rt (by assumption) rfl ?_
  -- leaf 6
  (have hbe : z.bl = [] := List.eq_nil_of_length_eq_zero (by omega)
   have e : rszOK z n = true := decide_eq_true ⟨hbe, by omega, by omega, by omega⟩
   have e2 : rszB z n = growB z.bs n.toNat := if_pos e
   rw [e, e2]
   exact ⟨y, by rw [irr_eq]; rfl, F, hy⟩)
theorem mheap_call {σ : AState} {m : Nat} {z : MZ} (h : OldM σ m z) (ok : MOK z) :
    SCall Tryz.prog E0 36 [.pointer (some ⟨m, 0, none⟩)] σ (Ret E0 σ (fun (y : Option Addr × Nat) => .tuple #[.int .u32 z.st, .slice y.1 z.bl.length y.2]) (fun y => [own y.1 z.bl.length y.2 2 (rows eB z.bl)]) fun _ => True) := by
  have hl := ok.heap.len
  refine k_fun Tryz.func36 rfl (m := 16) rfl fun B hD Q K => ?_
  have F := Facts.nil E0 σ
  have hc := h.cel
  refine k_seq fun Q K => k_lin fun W K => ?_
  iterate 2 refine l_op 0 rfl rfl rfl rfl rfl ?_
  refine l_nil (WK.nx ‹_› (SeqK.nx ‹_› ?_))
  refine k_seq fun Q K => k_seq fun Q K => k_lin fun W K => ?_
  refine l_op 0 rfl rfl rfl rfl rfl ?_
  refine l_cmp rfl rfl rfl rfl ?_
  refine l_nil (WK.nx ‹_› (SeqK.nx ‹_› ?_))
  refine l_cond rfl rfl (fun hc1 => ?_) (fun hc1 => ?_)
  · simp only [irr_eq, beq_iff_eq, beq_eq_false_iff_ne, ne_eq, decide_eq_true_eq, decide_eq_false_iff_not] at hc1
    refine k_seq fun Q K => k_lin fun W K => ?_
    iterate 2 refine l_op 0 rfl rfl rfl rfl rfl ?_
    refine l_nil (WK.nx ‹_› (SeqK.nx ‹_› (k_ret (SeqK.rt ‹_› ?_))))
    refine FunK.rt (by assumption) rfl ?_
    -- leaf 1
    exact absurd hc1 (by decide)
  simp only [irr_eq, beq_iff_eq, beq_eq_false_iff_ne, ne_eq, decide_eq_true_eq, decide_eq_false_iff_not] at hc1
  refine k_skip (SeqK.nx ‹_› ?_)
  refine k_seq fun Q K => ?_
  refine k_linm [0, 1, 2, 5, 6, 7, 3, 8, 4, 9, 10, 11] mixed (by kernel_rfl) (fun W K => ?_)
  try have hpS := F.pns
  refine l_op 0 rfl rfl rfl rfl rfl ?_
  iterate 2 refine l_op 2 rfl rfl rfl rfl rfl ?_
  refine l_op 0 rfl rfl rfl rfl rfl ?_
  iterate 2 refine l_op 2 rfl rfl rfl rfl rfl ?_
  refine l_ldo F (by assumption) rfl rfl rfl rfl rfl rfl ?_
  have hpS := PnS.add hpS (OldC.sf (by assumption))
  refine l_ldo F (by assumption) rfl rfl rfl rfl rfl rfl ?_
  have hpS := PnS.add hpS (OldC.sf (by assumption))
  refine l_callp F rfl rfl (by kernel_rfl) rfl rfl (start_call (F.oldc0 h.hc)) (fun _ s F _ => ?_)
  (try dsimp only [n_1, n_2, n_3, n_4, List.append_nil, pk, n_5, n_6] at F)
  refine l_callp F rfl rfl (by kernel_rfl) rfl rfl (blocks_call (F.oldc0 h.hc) (Old.pure (F.old h.hl)) (by omega)) (fun y s F _ => ?_)
  (try dsimp only [n_1, n_2, n_3, n_4, List.append_nil, pk, n_5, n_6] at F)
  iterate 2 refine l_op 0 rfl rfl rfl rfl rfl ?_
  refine l_nil (WK.nx ‹_› (SeqK.nx ‹_› (k_ret ?_)))
  refine FunK.rt (by assumption) rfl ?_
  -- leaf 2
  exact ⟨y, rfl, F, trivial⟩

/-- The same memory with another heap. -/
abbrev MZ.wh (z : MZ) (y : Option Addr × Nat) (r : HR) : MZ := { z with la := y.1, lc := y.2, st := r.st, en := r.en, bl := r.bl }
theorem mall_low {most st en n e : Int} {bl : List (Int × Int)} (h : bl ≠ [] → 768 ≤ st) (he : 768 ≤ e) : (mallocR most st en bl n e).bl ≠ [] → 768 ≤ (mallocR most st en bl n e).st := by
  generalize hR : mallocR most st en bl n e = r
  unfold mallocR mallocA at hR
  intro hne
  (repeat' split at hR) <;> (subst hR; first
    | exact h hne
    | exact he
    | exact h (fun h0 => by subst h0; simp_all; done))
theorem mall_on {most st en n e : Int} {bl : List (Int × Int)} (h : (mallocR most st en bl n e).ok = true) : (mallocR most st en bl n e).bl ≠ [] := by
  generalize hR : mallocR most st en bl n e = r at h ⊢
  unfold mallocR mallocA at hR
  (repeat' split at hR) <;> (subst hR; first
    | exact ins_ne _ _ _
    | cases h)
theorem mall_off {most st en n e : Int} {bl : List (Int × Int)} (h : (mallocR most st en bl n e).ok = false) : (mallocR most st en bl n e).ret = 0 := by
  generalize hR : mallocR most st en bl n e = r at h ⊢
  unfold mallocR mallocA at hR
  (repeat' split at hR) <;> (subst hR; first
    | rfl
    | cases h)
theorem hok_size {st en : Int} {bl : List (Int × Int)} (h : HOK 1048576 st en bl) (hl : bl ≠ [] → 768 ≤ st) (hne : bl ≠ []) : 768 ≤ en ∧ en ≤ 1048576 ∧ en % 256 = 0 := by
  obtain ⟨h1, h2, h3, h4, h5⟩ := h.on hne
  have h6 := rightL_le h.blk h5
  have h7 := hl hne
  exact ⟨by omega, h4, h3⟩
theorem MOK.wh {z : MZ} (ok : MOK z) {y : Option Addr × Nat} {r : HR} (hy : Ex y.1) (hh : HOK 1048576 r.st r.en r.bl) (hl : r.bl ≠ [] → 768 ≤ r.st) : MOK (z.wh y r) := by
  obtain ⟨h1, h2, h3, h4, h5, h6, h7⟩ := ok
  exact ⟨h1, h2, h3, h4, hh, hy, hl⟩
structure MalR (z : MZ) (r : HR) (z' : MZ) : Prop where
  ok : MOK z'
  f1 : z'.f1 = z.f1
  t1 : z'.t1 = z.t1
  st : z'.st = r.st
  en : z'.en = r.en
  bl : z'.bl = r.bl
  bs : z'.bs = if r.ok = true then growB z.bs r.en.toNat else z.bs
theorem mmalloc_call {O : Nat → Prop} {σ : AState} {m : Nat} {z : MZ} {n : Int} (F : Facts O σ σ (mF m z)) (ok : MOK z) (hn : U32 n) :
    SCall Tryz.prog O 39 [.pointer (some ⟨m, 0, none⟩), .int .u32 n] σ (Ret O σ (fun (z' : MZ) => .int .u32 (mallocR 1048576 z.st z.en z.bl n z.bs.length).ret) (fun z' => mF m z') fun z' => MalR z (mallocR 1048576 z.st z.en z.bl n z.bs.length) z') := by
  have hr := ok.room
  have hn' := hn
  obtain ⟨n0, n1⟩ := hn
  have hsz := ok.size
  have hm1 := hok_malloc (n := n) (e := z.bs.length) ok.heap (show U32 1048576 from ⟨by decide, by decide⟩) hn' ⟨by omega, by omega⟩
  have hm2 := mall_low (most := 1048576) (en := z.en) (n := n) (e := z.bs.length) ok.low (by omega)
  have hm3 := mall_on (most := 1048576) (st := z.st) (en := z.en) (bl := z.bl) (n := n) (e := z.bs.length)
  have hm4 := mall_off (most := 1048576) (st := z.st) (en := z.en) (bl := z.bl) (n := n) (e := z.bs.length)
  refine k_fun Tryz.func39 rfl (m := 32) rfl fun B hD Q K => ?_
  refine k_seq fun Q K => k_lin fun W K => ?_
  refine l_op 0 rfl rfl rfl rfl rfl ?_
  refine l_nil (WK.nx ‹_› (SeqK.nx ‹_› ?_))
  refine k_seq fun Q K => k_seq fun Q K => k_lin fun W K => ?_
  refine l_op 0 rfl rfl rfl rfl rfl ?_
  refine l_cmp rfl rfl rfl rfl ?_
  refine l_nil (WK.nx ‹_› (SeqK.nx ‹_› ?_))
  refine l_cond rfl rfl (fun hc1 => ?_) (fun hc1 => ?_)
  · simp only [irr_eq, beq_iff_eq, beq_eq_false_iff_ne, ne_eq, decide_eq_true_eq, decide_eq_false_iff_not] at hc1
    refine k_seq fun Q K => k_lin fun W K => ?_
    refine l_op 0 rfl rfl rfl rfl rfl ?_
    refine l_nil (WK.nx ‹_› (SeqK.nx ‹_› (k_ret (SeqK.rt ‹_› ?_))))
    refine FunK.rt (by assumption) rfl ?_
    -- leaf 1
    exact absurd hc1 (by decide)
  simp only [irr_eq, beq_iff_eq, beq_eq_false_iff_ne, ne_eq, decide_eq_true_eq, decide_eq_false_iff_not] at hc1
  refine k_skip (SeqK.nx ‹_› ?_)
  refine k_seq fun Q K => ?_
  refine k_linm [0, 1, 2, 4, 5, 3, 6, 7, 8, 9, 10, 11, 12] mixed (by kernel_rfl) (fun W K => ?_)
  try have hpS := F.pns
  refine l_op 0 rfl rfl rfl rfl rfl ?_
  iterate 2 refine l_op 2 rfl rfl rfl rfl rfl ?_
  iterate 2 refine l_op 0 rfl rfl rfl rfl rfl ?_
  refine l_ldc F 0 rfl rfl rfl rfl rfl rfl rfl ?_
  skip
  have hpA := PnA.cel F 0 rfl pna_nil
  refine l_callp F rfl rfl (by kernel_rfl) rfl rfl (size_call (oldM_of F ok 0 1 2 3 4 rfl rfl rfl rfl rfl) ok) (fun _ s F _ => ?_)
  (try dsimp only [n_1, n_2, n_3, n_4, List.append_nil, pk, n_5, n_6] at F)
  refine l_call F [3, 4] [0, 1, 2] (by decide) rfl rfl (by kernel_rfl) rfl rfl (malloc_call (F.sub [3, 4] (by decide)) ok.ex ok.heap.blk (by have := ok.heap.len; omega) ⟨by omega, by omega⟩ ok.heap.ust ok.heap.uen hn' ⟨by omega, by omega⟩) hD (fun y s F hy => ?_) (.inl (PnA.celP F 0 rfl [3, 4] (by decide) pna_nil))
  generalize hR : mallocR 1048576 z.st z.en z.bl n z.bs.length = r at F hm1 hm2 hm3 hm4 ⊢
  replace F : Facts O σ s (mF m (z.wh y r)) := F
  have ok2 := ok.wh hy hm1 hm2
  refine l_op 0 rfl rfl rfl rfl rfl ?_
  iterate 2 refine l_op 2 rfl rfl rfl rfl rfl ?_
  iterate 2 refine l_op 0 rfl rfl rfl rfl rfl ?_
  refine l_nil (WK.nx ‹_› (SeqK.nx ‹_› ?_))
  refine k_seq fun Q K => k_seq fun Q K => k_lin fun W K => ?_
  refine l_op 0 rfl rfl rfl rfl rfl ?_
  refine l_op 2 rfl rfl rfl rfl rfl ?_
  refine l_nil (WK.nx ‹_› (SeqK.nx ‹_› ?_))
  refine l_cond rfl rfl (fun hc2 => ?_) (fun hc2 => ?_)
  · try simp only [i_1, i_2, i_3, i_4, i_5, ne_eq, i_6, i_7, i_8, i_9] at hc2
    refine k_seq fun Q K => k_lin fun W K => ?_
    refine l_op 0 rfl rfl rfl rfl rfl ?_
    refine l_nil (WK.nx ‹_› (SeqK.nx ‹_› (k_ret (SeqK.rt ‹_› ?_))))
    refine FunK.rt (by assumption) rfl ?_
    -- leaf 2
    (have hro : r.ok = false := by assumption
     exact ⟨z.wh y r, by rw [hR, hm4 hro]; rfl, F, ⟨ok2, rfl, rfl, by rw [hR], by rw [hR], by rw [hR], by rw [hR, if_neg (by rw [hro]; decide)]⟩⟩)
  try simp only [i_1, i_2, i_3, i_4, i_5, ne_eq, i_6, i_7, i_8, i_9] at hc2
  have hrok : r.ok = true := by simpa using hc2
  have hsz2 := hok_size hm1 hm2 (hm3 hrok)
  refine k_skip (SeqK.nx ‹_› ?_)
  refine k_seq fun Q K => ?_
  refine k_linr mixed (by kernel_rfl) (fun W K => ?_)
  try have hpS := F.pns
  refine l_op 0 rfl rfl rfl rfl rfl ?_
  iterate 2 refine l_op 2 rfl rfl rfl rfl rfl ?_
  refine l_op 0 rfl rfl rfl rfl rfl ?_
  iterate 2 refine l_op 2 rfl rfl rfl rfl rfl ?_
  refine l_ldc F 0 rfl rfl rfl rfl rfl rfl rfl ?_
  skip
  refine l_rs (by kernel_rfl) ?_
  refine l_callp F rfl rfl (by kernel_rfl) rfl rfl (end_call (F.cel0 3 rfl)) (fun _ s F _ => ?_)
  (try dsimp only [n_1, n_2, n_3, n_4, List.append_nil, pk, n_5, n_6] at F)
  refine l_call F [0, 1, 2, 3, 4] [] (by decide) rfl rfl (by kernel_rfl) rfl rfl (grow_call (z := z.wh y r) (n := r.en) (F.sub [0, 1, 2, 3, 4] (by decide)) ok2 (by omega)) hD (fun y2 s F hy2 => ?_)
  refine l_nil (WK.nx ‹_› (SeqK.nx ‹_› ?_))
  refine k_seq fun Q K => k_lin fun W K => ?_
  iterate 2 refine l_op 0 rfl rfl rfl rfl rfl ?_
  refine l_nil (WK.nx ‹_› (SeqK.nx ‹_› (k_ret ?_)))
  refine FunK.rt (by assumption) rfl ?_
  -- leaf 3
  (have hgl := growB_len z.bs r.en.toNat
   exact ⟨(z.wh y r).wg y2 (growB z.bs r.en.toNat), by rw [hR]; rfl, F, ⟨ok2.wg hy2 (by rw [hgl]; omega) (growB_bytes ok.byt _), rfl, rfl, by rw [hR], by rw [hR], by rw [hR], by rw [hR, if_pos hrok]⟩⟩)

/-- Behind a Free: the error, whether the memory shrinks. -/
def frE (z : MZ) (ad : Int) : Int := if (freeR z.st z.en z.bl ad).ret = 0 then 0 else 92
structure FreR (z : MZ) (ad : Int) (z' : MZ) : Prop where
  ok : MOK z'
  f1 : z'.f1 = z.f1
  t1 : z'.t1 = z.t1
  st : z'.st = (freeR z.st z.en z.bl ad).st
  en : z'.en = (freeR z.st z.en z.bl ad).en
  bl : z'.bl = (freeR z.st z.en z.bl ad).bl
  bs : z'.bs = if (freeR z.st z.en z.bl ad).ret = 0 ∧ (freeR z.st z.en z.bl ad).bl = [] then growB z.bs z.st.toNat else z.bs
theorem free_low {st en ad : Int} {bl : List (Int × Int)} (h : bl ≠ [] → 768 ≤ st) : (freeR st en bl ad).bl ≠ [] → 768 ≤ (freeR st en bl ad).st := by
  unfold freeR
  split
  · exact h
  · split
    · rename_i h2; intro h3; exact absurd (List.eq_nil_of_length_eq_zero h2) h3
    · exact fun _ => h (fun h0 => by subst h0; simp_all)
theorem free_ne {st en ad : Int} {bl : List (Int × Int)} (h : (freeR st en bl ad).ret = 0) : bl ≠ [] := by
  rintro rfl
  unfold freeR at h
  have : idxR ad [] < 0 := by show (-1 : Int) < 0; decide
  rw [if_pos this] at h
  cases h
theorem mfree_call {O : Nat → Prop} {σ : AState} {m : Nat} {z : MZ} {ad : Int} (F : Facts O σ σ (mF m z)) (ok : MOK z) (ha : U32 ad) :
    SCall Tryz.prog O 89 [.pointer (some ⟨m, 0, none⟩), .int .u32 ad] σ (Ret O σ (fun (z' : MZ) => .int .i64 (frE z ad)) (fun z' => mF m z') fun z' => FreR z ad z') := by
  have hr := ok.room
  have hsz := ok.size
  have hm1 := hok_free (ad := ad) ok.heap
  have hm2 := free_low (en := z.en) (ad := ad) ok.low
  have hm3 := free_ne (st := z.st) (en := z.en) (bl := z.bl) (ad := ad)
  refine k_fun Tryz.func89 rfl (m := 31) rfl fun B hD Q K => ?_
  refine k_seq fun Q K => k_lin fun W K => ?_
  refine l_op 0 rfl rfl rfl rfl rfl ?_
  refine l_nil (WK.nx ‹_› (SeqK.nx ‹_› ?_))
  refine k_seq fun Q K => k_seq fun Q K => k_lin fun W K => ?_
  refine l_op 0 rfl rfl rfl rfl rfl ?_
  refine l_cmp rfl rfl rfl rfl ?_
  refine l_nil (WK.nx ‹_› (SeqK.nx ‹_› ?_))
  refine l_cond rfl rfl (fun hc1 => ?_) (fun hc1 => ?_)
  · simp only [irr_eq, beq_iff_eq, beq_eq_false_iff_ne, ne_eq, decide_eq_true_eq, decide_eq_false_iff_not] at hc1
    refine k_seq fun Q K => k_lin fun W K => ?_
    refine l_op 0 rfl rfl rfl rfl rfl ?_
    refine l_nil (WK.nx ‹_› (SeqK.nx ‹_› (k_ret (SeqK.rt ‹_› ?_))))
    refine FunK.rt (by assumption) rfl ?_
    -- leaf 1
    exact absurd hc1 (by decide)
  simp only [irr_eq, beq_iff_eq, beq_eq_false_iff_ne, ne_eq, decide_eq_true_eq, decide_eq_false_iff_not] at hc1
  refine k_skip (SeqK.nx ‹_› ?_)
  refine k_seq fun Q K => k_lin fun W K => ?_
  refine l_op 0 rfl rfl rfl rfl rfl ?_
  iterate 2 refine l_op 2 rfl rfl rfl rfl rfl ?_
  refine l_ldc F 0 rfl rfl rfl rfl rfl rfl rfl ?_
  refine l_callp F rfl rfl (by kernel_rfl) rfl rfl (start_call (F.cel0 3 rfl)) (fun _ s F _ => ?_)
  (try dsimp only [n_1, n_2, n_3, n_4, List.append_nil, pk, n_5, n_6] at F)
  refine l_op 0 rfl rfl rfl rfl rfl ?_
  refine l_nil (WK.nx ‹_› (SeqK.nx ‹_› ?_))
  refine k_seq fun Q K => k_seq fun Q K => k_lin fun W K => ?_
  refine l_op 0 rfl rfl rfl rfl rfl ?_
  iterate 2 refine l_op 2 rfl rfl rfl rfl rfl ?_
  refine l_ldc F 0 rfl rfl rfl rfl rfl rfl rfl ?_
  refine l_op 0 rfl rfl rfl rfl rfl ?_
  refine l_call F [3, 4] [0, 1, 2] (by decide) rfl rfl (by kernel_rfl) rfl rfl (free_call (F.sub [3, 4] (by decide)) ok.ex ok.heap.len) hD (fun y s F hy => ?_)
  generalize hR : freeR z.st z.en z.bl ad = r at F hm1 hm2 hm3 ⊢
  replace F : Facts O σ s (mF m (z.wh y r)) := F
  have ok2 := ok.wh hy hm1 hm2
  refine l_cmp rfl rfl rfl rfl ?_
  refine l_nil (WK.nx ‹_› (SeqK.nx ‹_› ?_))
  refine l_cond rfl rfl (fun hc2 => ?_) (fun hc2 => ?_)
  · replace hc2 := bne_iff_ne.1 ((irr_eq _).symm.trans hc2)
    refine k_seq fun Q K => k_lin fun W K => ?_
    refine l_op 0 rfl rfl rfl rfl rfl ?_
    refine l_nil (WK.nx ‹_› (SeqK.nx ‹_› (k_ret (SeqK.rt ‹_› ?_))))
    refine FunK.rt (by assumption) rfl ?_
    -- leaf 2
    (have hrr : r.ret ≠ 0 := by assumption
     exact ⟨z.wh y r, by unfold frE; rw [hR, if_neg hrr]; rfl, F, ⟨ok2, rfl, rfl, by rw [hR], by rw [hR], by rw [hR], by rw [hR, if_neg (fun h => hrr h.1)]⟩⟩)
  replace hc2 := bne_eq_false_iff_eq.1 ((irr_eq _).symm.trans hc2)
  refine k_skip (SeqK.nx ‹_› ?_)
  refine k_seq fun Q K => k_seq fun Q K => k_lin fun W K => ?_
  refine l_op 0 rfl rfl rfl rfl rfl ?_
  iterate 2 refine l_op 2 rfl rfl rfl rfl rfl ?_
  refine l_ldc F 0 rfl rfl rfl rfl rfl rfl rfl ?_
  refine l_callp F rfl rfl (by kernel_rfl) rfl rfl (active_call (F.cel0 3 rfl)) (fun _ s F _ => ?_)
  (try dsimp only [n_1, n_2, n_3, n_4, List.append_nil, pk, n_5, n_6] at F)
  refine l_op 2 rfl rfl rfl rfl rfl ?_
  refine l_nil (WK.nx ‹_› (SeqK.nx ‹_› ?_))
  refine l_cond rfl rfl (fun hc3 => ?_) (fun hc3 => ?_)
  · try simp only [i_1, i_2, i_3, i_4, i_5, ne_eq, i_6, i_7, i_8, i_9] at hc3
    have hsz3 := hok_size ok.heap ok.low (hm3 (by omega))
    have hst : z.st ≤ z.en := by
      obtain ⟨h1, h2, h3, h4, h5⟩ := ok.heap.on (hm3 (by omega))
      exact rightL_le ok.heap.blk h5
    have hlo := ok.low (hm3 (by omega))
    have hs0 := (ok.heap.on (hm3 (by omega))).2.1
    refine k_lin fun W K => ?_
    refine l_op 0 rfl rfl rfl rfl rfl ?_
    iterate 2 refine l_op 2 rfl rfl rfl rfl rfl ?_
    refine l_op 0 rfl rfl rfl rfl rfl ?_
    refine l_call F [0, 1, 2, 3, 4] [] (by decide) rfl rfl (by kernel_rfl) rfl rfl (grow_call (z := z.wh y r) (n := z.st) (F.sub [0, 1, 2, 3, 4] (by decide)) ok2 (by omega)) hD (fun y2 s F hy2 => ?_)
    refine l_nil (WK.nx ‹_› (SeqK.nx ‹_› ?_))
    refine k_seq fun Q K => k_lin fun W K => ?_
    refine l_op 0 rfl rfl rfl rfl rfl ?_
    refine l_nil (WK.nx ‹_› (SeqK.nx ‹_› (k_ret ?_)))
    refine FunK.rt (by assumption) rfl ?_
    -- leaf 3
    (have hrr : r.ret = 0 := by assumption
     have hbe : r.bl = [] := List.eq_nil_of_length_eq_zero (by omega)
     have hgl := growB_len z.bs z.st.toNat
     exact ⟨(z.wh y r).wg y2 (growB z.bs z.st.toNat), by unfold frE; rw [hR, if_pos hrr]; rfl, F, ⟨ok2.wg hy2 (by rw [hgl]; omega) (growB_bytes ok.byt _), rfl, rfl, by rw [hR], by rw [hR], by rw [hR], by rw [hR, if_pos ⟨hrr, hbe⟩]⟩⟩)
  try simp only [i_1, i_2, i_3, i_4, i_5, ne_eq, i_6, i_7, i_8, i_9] at hc3
  refine k_skip (SeqK.nx ‹_› ?_)
  refine k_seq fun Q K => k_lin fun W K => ?_
  refine l_op 0 rfl rfl rfl rfl rfl ?_
  refine l_nil (WK.nx ‹_› (SeqK.nx ‹_› (k_ret ?_)))
  refine FunK.rt (by assumption) rfl ?_
  -- leaf 4
  (have hrr : r.ret = 0 := by assumption
   have hbe : r.bl ≠ [] := fun h => by rw [h] at hc3; exact absurd hc3 (by decide)
   exact ⟨z.wh y r, by unfold frE; rw [hR, if_pos hrr]; rfl, F, ⟨ok2, rfl, rfl, by rw [hR], by rw [hR], by rw [hR], by rw [hR, if_neg (fun h => hbe h.2)]⟩⟩)

end Go.Proofs.YtocfmecenpeoiaaGreat
