/- A block is laid. No statement of the seat is proved in this text. -/
import Derived.Test.YtocfmecenpeoiaaGreatHeap
set_option linter.unusedVariables false
set_option linter.unusedSimpArgs false
set_option maxRecDepth 100000
set_option maxHeartbeats 4000000
namespace Go.Proofs.YtocfmecenpeoiaaGreat
open GAb Go

structure HR where
  ret : Int
  ok : Bool
  st : Int
  en : Int
  bl : List (Int × Int)
  deriving DecidableEq
instance {x : Int} : Decidable (U32 x) := inferInstanceAs (Decidable (_ ∧ _))
def ins (bl : List (Int × Int)) (i : Int) (x : Int × Int) : List (Int × Int) := bl.take i.toNat ++ x :: bl.drop i.toNat
def mallocA (most st0 en0 : Int) (st en : Int) (bl : List (Int × Int)) (n : Int) : HR :=
  if (placeR n st bl).1 + n > en then
    if (placeR n st bl).1 + n > most then ⟨0, false, st0, en0, bl⟩
    else if (alignR ((placeR n st bl).1 + n)).2 = false then ⟨0, false, st0, en0, bl⟩
    else if (alignR ((placeR n st bl).1 + n)).1 > most then ⟨0, false, st0, en0, bl⟩
    else ⟨(placeR n st bl).1, true, st, (alignR ((placeR n st bl).1 + n)).1, ins bl (placeR n st bl).2 ((placeR n st bl).1, n)⟩
  else ⟨(placeR n st bl).1, true, st, en, ins bl (placeR n st bl).2 ((placeR n st bl).1, n)⟩
def mallocR (most st en : Int) (bl : List (Int × Int)) (n e : Int) : HR :=
  if n = 0 then ⟨0, false, st, en, bl⟩
  else if (bl.length : Int) = 4096 then ⟨0, false, st, en, bl⟩
  else if (bl.length : Int) = 0 then
    if e = 0 then ⟨0, false, st, en, bl⟩ else if e % 256 ≠ 0 then ⟨0, false, st, en, bl⟩ else if e > most then ⟨0, false, st, en, bl⟩
    else mallocA most st en e e bl n
  else mallocA most st en st en bl n

theorem placeR_bound (n : Int) : ∀ (bl : List (Int × Int)) (p : Int), BlkOK bl → 0 ≤ p → p ≤ 8589934590 → 0 ≤ (placeR n p bl).1 ∧ (placeR n p bl).1 ≤ 8589934590 ∧ 0 ≤ (placeR n p bl).2 ∧ (placeR n p bl).2 ≤ bl.length
  | [], p, _, h0, h1 => by simp [placeR]; omega
  | b :: bl, p, hB, h0, h1 => by
    have hb := hB b (by simp)
    obtain ⟨⟨a1, a2⟩, ⟨a3, a4⟩⟩ := hb
    have ih := placeR_bound n bl (b.1 + b.2) (fun x hx => hB x (by simp [hx])) (by omega) (by omega)
    rw [placeR]
    split
    · simp; omega
    · simp only [List.length_cons]; omega

theorem ins_length (bl : List (Int × Int)) (i : Int) (x : Int × Int) (h : i ≤ bl.length) (h0 : 0 ≤ i) : (ins bl i x).length = bl.length + 1 := by
  unfold ins; rw [List.length_append, List.length_cons, List.length_take, List.length_drop]; omega
abbrev mV (r : HR) : Value := .tuple #[.int .u32 r.ret, .bool r.ok]
theorem malloc_call {O : Nat → Prop} {σ : AState} {m c : Nat} {a : Option Addr} {most st en n e : Int} {bl : List (Int × Int)} (F : Facts O σ σ (hF m a c most st en bl)) (hEx : Ex a) (hB : BlkOK bl) (hn : bl.length ≤ 4096) (hm : U32 most) (hs : U32 st) (he : U32 en) (hu : U32 n) (hv : U32 e) :
    SCall Tryz.prog O 99 [.pointer (some ⟨m, 0, none⟩), .int .u32 n, .int .u32 e] σ (Ret O σ (fun (_ : Option Addr × Nat) => mV (mallocR most st en bl n e)) (fun y => hF m y.1 y.2 most (mallocR most st en bl n e).st (mallocR most st en bl n e).en (mallocR most st en bl n e).bl) fun y => Ex y.1) := by
  obtain ⟨m0, m1⟩ := hm
  obtain ⟨s0, s1⟩ := hs
  obtain ⟨e0, e1⟩ := he
  obtain ⟨n0, n1⟩ := hu
  obtain ⟨v0, v1⟩ := hv
  refine k_fun Tryz.func99 rfl (m := 125) rfl fun B hD Q K => ?_
  refine k_seq fun Q K => k_lin fun W K => ?_
  iterate 2 refine l_op 0 rfl rfl rfl rfl rfl ?_
  refine l_nil (WK.nx ‹_› (SeqK.nx ‹_› ?_))
  refine k_seq fun Q K => k_seq fun Q K => k_lin fun W K => ?_
  refine l_op 0 rfl rfl rfl rfl rfl ?_
  refine l_cmp rfl rfl rfl rfl ?_
  refine l_op 0 rfl rfl rfl rfl rfl ?_
  refine l_guard rfl rfl rfl (fun hc1 => ?_) (fun hc1 => ?_)
  · exact absurd ((irr_eq _).symm.trans hc1) (by decide)
  simp only [irr_eq, beq_iff_eq, beq_eq_false_iff_ne, ne_eq, decide_eq_true_eq, decide_eq_false_iff_not] at hc1
  refine l_op 0 rfl rfl rfl rfl rfl ?_
  refine l_cmp rfl rfl rfl rfl ?_
  refine l_op 2 rfl rfl rfl rfl rfl ?_
  refine l_op 0 rfl rfl rfl rfl rfl ?_
  refine l_guard rfl rfl rfl (fun hc2 => ?_) (fun hc2 => ?_)
  · replace hc2 := eq_of_beq ((irr_eq _).symm.trans hc2)
    iterate 6 refine l_s rfl rfl ?_
    refine l_op 2 rfl rfl rfl rfl rfl ?_
    refine l_nil (WK.nx ‹_› (SeqK.nx ‹_› ?_))
    refine e_cond_t rfl rfl rfl ?_
    refine k_seq fun Q K => k_lin fun W K => ?_
    iterate 2 refine l_op 0 rfl rfl rfl rfl rfl ?_
    refine l_nil (WK.nx ‹_› (SeqK.nx ‹_› (k_ret (SeqK.rt ‹_› ?_))))
    refine FunK.rt (by assumption) rfl ?_
    -- leaf 1
    generalize hR : mallocR most st en bl n e = r
    unfold mallocR mallocA at hR
    (repeat' split at hR) <;> first
      | (exfalso; omega)
      | (subst hR; exact ⟨(a, c), rfl, F.pick [0, 1] (by decide), hEx⟩)
      | (subst hR; refine ⟨(y.1, y.2), rfl, ?_, hy⟩
         have hlen := ins_length bl (placeR n e bl).2 ((placeR n e bl).1, n) (by omega) (by omega)
         unfold hF hC; rw [hlen]; exact F)
      | (subst hR; refine ⟨(y.1, y.2), rfl, ?_, hy⟩
         have hlen := ins_length bl (placeR n st bl).2 ((placeR n st bl).1, n) (by omega) (by omega)
         unfold hF hC; rw [hlen]; exact F)
      | (exfalso; simp_all; done)
  replace hc2 := ne_of_beq_false ((irr_eq _).symm.trans hc2)
  refine l_op 0 rfl rfl rfl rfl rfl ?_
  iterate 2 refine l_op 2 rfl rfl rfl rfl rfl ?_
  refine l_ldc F 0 rfl rfl rfl rfl rfl rfl rfl ?_
  refine l_op 2 rfl rfl rfl rfl rfl ?_
  refine l_cmp rfl rfl rfl rfl ?_
  refine l_op 2 rfl rfl rfl rfl rfl ?_
  refine l_nil (WK.nx ‹_› (SeqK.nx ‹_› ?_))
  refine l_cond rfl rfl (fun hc3 => ?_) (fun hc3 => ?_)
  · replace hc3 := eq_of_beq ((irr_eq _).symm.trans hc3)
    refine k_seq fun Q K => k_lin fun W K => ?_
    iterate 2 refine l_op 0 rfl rfl rfl rfl rfl ?_
    refine l_nil (WK.nx ‹_› (SeqK.nx ‹_› (k_ret (SeqK.rt ‹_› ?_))))
    refine FunK.rt (by assumption) rfl ?_
    -- leaf 2
    generalize hR : mallocR most st en bl n e = r
    unfold mallocR mallocA at hR
    (repeat' split at hR) <;> first
      | (exfalso; omega)
      | (subst hR; exact ⟨(a, c), rfl, F.pick [0, 1] (by decide), hEx⟩)
      | (subst hR; refine ⟨(y.1, y.2), rfl, ?_, hy⟩
         have hlen := ins_length bl (placeR n e bl).2 ((placeR n e bl).1, n) (by omega) (by omega)
         unfold hF hC; rw [hlen]; exact F)
      | (subst hR; refine ⟨(y.1, y.2), rfl, ?_, hy⟩
         have hlen := ins_length bl (placeR n st bl).2 ((placeR n st bl).1, n) (by omega) (by omega)
         unfold hF hC; rw [hlen]; exact F)
      | (exfalso; simp_all; done)
  replace hc3 := ne_of_beq_false ((irr_eq _).symm.trans hc3)
  refine k_skip (SeqK.nx ‹_› ?_)
  refine k_seq fun Q K => k_lin fun W K => ?_
  refine l_op 0 rfl rfl rfl rfl rfl ?_
  iterate 2 refine l_op 2 rfl rfl rfl rfl rfl ?_
  refine l_ldc F 0 rfl rfl rfl rfl rfl rfl rfl ?_
  refine l_op 0 rfl rfl rfl rfl rfl ?_
  refine l_nil (WK.nx ‹_› (SeqK.nx ‹_› ?_))
  refine k_seq fun Q K => k_seq fun Q K => k_lin fun W K => ?_
  refine l_op 0 rfl rfl rfl rfl rfl ?_
  iterate 2 refine l_op 2 rfl rfl rfl rfl rfl ?_
  refine l_ldc F 0 rfl rfl rfl rfl rfl rfl rfl ?_
  refine l_op 2 rfl rfl rfl rfl rfl ?_
  refine l_cmp rfl rfl rfl rfl ?_
  refine l_nil (WK.nx ‹_› (SeqK.nx ‹_› ?_))
  refine l_cond rfl rfl (fun hc4 => ?_) (fun hc4 => ?_)
  · replace hc4 := eq_of_beq ((irr_eq _).symm.trans hc4)
    refine k_seq fun Q K => k_seq fun Q K => k_lin fun W K => ?_
    refine l_op 0 rfl rfl rfl rfl rfl ?_
    refine l_cmp rfl rfl rfl rfl ?_
    refine l_op 0 rfl rfl rfl rfl rfl ?_
    refine l_guard rfl rfl rfl (fun hc5 => ?_) (fun hc5 => ?_)
    · replace hc5 := eq_of_beq ((irr_eq _).symm.trans hc5)
      iterate 3 refine l_s rfl rfl ?_
      refine l_op 2 rfl rfl rfl rfl rfl ?_
      refine l_op 0 rfl rfl rfl rfl rfl ?_
      iterate 6 refine l_s rfl rfl ?_
      refine l_op 2 rfl rfl rfl rfl rfl ?_
      refine l_nil (WK.nx ‹_› (SeqK.nx ‹_› ?_))
      refine e_cond_t rfl rfl rfl ?_
      refine k_seq fun Q K => k_lin fun W K => ?_
      iterate 2 refine l_op 0 rfl rfl rfl rfl rfl ?_
      refine l_nil (WK.nx ‹_› (SeqK.nx ‹_› (k_ret (SeqK.rt ‹_› (SeqK.rt ‹_› ?_)))))
      refine FunK.rt (by assumption) rfl ?_
      -- leaf 3
      generalize hR : mallocR most st en bl n e = r
      unfold mallocR mallocA at hR
      (repeat' split at hR) <;> first
        | (exfalso; omega)
        | (subst hR; exact ⟨(a, c), rfl, F.pick [0, 1] (by decide), hEx⟩)
        | (subst hR; refine ⟨(y.1, y.2), rfl, ?_, hy⟩
           have hlen := ins_length bl (placeR n e bl).2 ((placeR n e bl).1, n) (by omega) (by omega)
           unfold hF hC; rw [hlen]; exact F)
        | (subst hR; refine ⟨(y.1, y.2), rfl, ?_, hy⟩
           have hlen := ins_length bl (placeR n st bl).2 ((placeR n st bl).1, n) (by omega) (by omega)
           unfold hF hC; rw [hlen]; exact F)
        | (exfalso; simp_all; done)
    replace hc5 := ne_of_beq_false ((irr_eq _).symm.trans hc5)
    refine l_op 0 rfl rfl rfl rfl rfl ?_
    refine l_callp F rfl rfl (by kernel_rfl) rfl rfl (paged_call ⟨by omega, by omega⟩) (fun _ s F _ => ?_)
    (try dsimp only [n_1, n_2, n_3, n_4, List.append_nil, pk, n_5, n_6] at F)
    iterate 2 refine l_op 2 rfl rfl rfl rfl rfl ?_
    refine l_op 0 rfl rfl rfl rfl rfl ?_
    refine l_guard rfl rfl rfl (fun hc6 => ?_) (fun hc6 => ?_)
    · try simp only [i_1, i_2, i_3, i_4, i_5, ne_eq, i_6, i_7, i_8, i_9] at hc6
      iterate 6 refine l_s rfl rfl ?_
      refine l_op 2 rfl rfl rfl rfl rfl ?_
      refine l_nil (WK.nx ‹_› (SeqK.nx ‹_› ?_))
      refine e_cond_t rfl rfl rfl ?_
      refine k_seq fun Q K => k_lin fun W K => ?_
      iterate 2 refine l_op 0 rfl rfl rfl rfl rfl ?_
      refine l_nil (WK.nx ‹_› (SeqK.nx ‹_› (k_ret (SeqK.rt ‹_› (SeqK.rt ‹_› ?_)))))
      refine FunK.rt (by assumption) rfl ?_
      -- leaf 4
      generalize hR : mallocR most st en bl n e = r
      unfold mallocR mallocA at hR
      (repeat' split at hR) <;> first
        | (exfalso; omega)
        | (subst hR; exact ⟨(a, c), rfl, F.pick [0, 1] (by decide), hEx⟩)
        | (subst hR; refine ⟨(y.1, y.2), rfl, ?_, hy⟩
           have hlen := ins_length bl (placeR n e bl).2 ((placeR n e bl).1, n) (by omega) (by omega)
           unfold hF hC; rw [hlen]; exact F)
        | (subst hR; refine ⟨(y.1, y.2), rfl, ?_, hy⟩
           have hlen := ins_length bl (placeR n st bl).2 ((placeR n st bl).1, n) (by omega) (by omega)
           unfold hF hC; rw [hlen]; exact F)
        | (exfalso; simp_all; done)
    try simp only [i_1, i_2, i_3, i_4, i_5, ne_eq, i_6, i_7, i_8, i_9] at hc6
    iterate 2 refine l_op 0 rfl rfl rfl rfl rfl ?_
    iterate 2 refine l_op 2 rfl rfl rfl rfl rfl ?_
    refine l_ldc F 0 rfl rfl rfl rfl rfl rfl rfl ?_
    refine l_cmp rfl rfl rfl rfl ?_
    refine l_op 2 rfl rfl rfl rfl rfl ?_
    refine l_nil (WK.nx ‹_› (SeqK.nx ‹_› ?_))
    refine l_cond rfl rfl (fun hc7 => ?_) (fun hc7 => ?_)
    · replace hc7 := of_decide_eq_true ((irr_eq _).symm.trans hc7)
      refine k_seq fun Q K => k_lin fun W K => ?_
      iterate 2 refine l_op 0 rfl rfl rfl rfl rfl ?_
      refine l_nil (WK.nx ‹_› (SeqK.nx ‹_› (k_ret (SeqK.rt ‹_› (SeqK.rt ‹_› ?_)))))
      refine FunK.rt (by assumption) rfl ?_
      -- leaf 5
      generalize hR : mallocR most st en bl n e = r
      unfold mallocR mallocA at hR
      (repeat' split at hR) <;> first
        | (exfalso; omega)
        | (subst hR; exact ⟨(a, c), rfl, F.pick [0, 1] (by decide), hEx⟩)
        | (subst hR; refine ⟨(y.1, y.2), rfl, ?_, hy⟩
           have hlen := ins_length bl (placeR n e bl).2 ((placeR n e bl).1, n) (by omega) (by omega)
           unfold hF hC; rw [hlen]; exact F)
        | (subst hR; refine ⟨(y.1, y.2), rfl, ?_, hy⟩
           have hlen := ins_length bl (placeR n st bl).2 ((placeR n st bl).1, n) (by omega) (by omega)
           unfold hF hC; rw [hlen]; exact F)
        | (exfalso; simp_all; done)
    replace hc7 := of_decide_eq_false ((irr_eq _).symm.trans hc7)
    refine k_skip (SeqK.nx ‹_› ?_)
    refine k_lin fun W K => ?_
    iterate 2 refine l_op 0 rfl rfl rfl rfl rfl ?_
    refine l_nil (WK.nx ‹_› (SeqK.nx ‹_› ?_))
    refine k_seq fun Q K => k_lin fun W K => ?_
    iterate 2 refine l_op 0 rfl rfl rfl rfl rfl ?_
    refine l_cu64 rfl rfl rfl (by omega) rfl ?_
    refine l_op 0 rfl rfl rfl rfl rfl ?_
    refine l_callp F rfl rfl (by kernel_rfl) rfl rfl (place_call (F.cel0 0 rfl) (Old.pure (F.has 1 rfl)) hB (by omega) ⟨by omega, by omega⟩ ⟨by omega, by omega⟩) (fun _ s F _ => ?_)
    have hpb1 := placeR_bound n bl st hB s0 (by omega)
    have hpb2 := placeR_bound n bl e hB v0 (by omega)
    (try dsimp only [n_1, n_2, n_3, n_4, List.append_nil, pk, n_5, n_6] at F)
    refine l_op 0 rfl rfl rfl rfl rfl ?_
    iterate 2 refine l_op 2 rfl rfl rfl rfl rfl ?_
    iterate 2 refine l_op 0 rfl rfl rfl rfl rfl ?_
    refine l_nil (WK.nx ‹_› (SeqK.nx ‹_› ?_))
    refine k_seq fun Q K => k_seq fun Q K => k_lin fun W K => ?_
    iterate 2 refine l_op 0 rfl rfl rfl rfl rfl ?_
    refine l_cu64 rfl rfl rfl (by omega) rfl ?_
    refine l_au64 rfl rfl rfl (by omega) rfl ?_
    refine l_op 0 rfl rfl rfl rfl rfl ?_
    refine l_cu64 rfl rfl rfl (by omega) rfl ?_
    refine l_cmp rfl rfl rfl rfl ?_
    refine l_nil (WK.nx ‹_› (SeqK.nx ‹_› ?_))
    refine l_cond rfl rfl (fun hc8 => ?_) (fun hc8 => ?_)
    · replace hc8 := of_decide_eq_true ((irr_eq _).symm.trans hc8)
      refine k_seq fun Q K => k_seq fun Q K => k_lin fun W K => ?_
      iterate 2 refine l_op 0 rfl rfl rfl rfl rfl ?_
      refine l_cu64 rfl rfl rfl (by omega) rfl ?_
      refine l_au64 rfl rfl rfl (by omega) rfl ?_
      refine l_op 0 rfl rfl rfl rfl rfl ?_
      iterate 2 refine l_op 2 rfl rfl rfl rfl rfl ?_
      refine l_ldc F 0 rfl rfl rfl rfl rfl rfl rfl ?_
      refine l_cu64 rfl rfl rfl (by omega) rfl ?_
      refine l_cmp rfl rfl rfl rfl ?_
      refine l_nil (WK.nx ‹_› (SeqK.nx ‹_› ?_))
      refine l_cond rfl rfl (fun hc9 => ?_) (fun hc9 => ?_)
      · replace hc9 := of_decide_eq_true ((irr_eq _).symm.trans hc9)
        refine k_seq fun Q K => k_lin fun W K => ?_
        iterate 2 refine l_op 0 rfl rfl rfl rfl rfl ?_
        refine l_nil (WK.nx ‹_› (SeqK.nx ‹_› (k_ret (SeqK.rt ‹_› (SeqK.rt ‹_› ?_)))))
        refine FunK.rt (by assumption) rfl ?_
        -- leaf 6
        generalize hR : mallocR most st en bl n e = r
        unfold mallocR mallocA at hR
        (repeat' split at hR) <;> first
          | (exfalso; omega)
          | (subst hR; exact ⟨(a, c), rfl, F.pick [0, 1] (by decide), hEx⟩)
          | (subst hR; refine ⟨(y.1, y.2), rfl, ?_, hy⟩
             have hlen := ins_length bl (placeR n e bl).2 ((placeR n e bl).1, n) (by omega) (by omega)
             unfold hF hC; rw [hlen]; exact F)
          | (subst hR; refine ⟨(y.1, y.2), rfl, ?_, hy⟩
             have hlen := ins_length bl (placeR n st bl).2 ((placeR n st bl).1, n) (by omega) (by omega)
             unfold hF hC; rw [hlen]; exact F)
          | (exfalso; simp_all; done)
      replace hc9 := of_decide_eq_false ((irr_eq _).symm.trans hc9)
      refine k_skip (SeqK.nx ‹_› ?_)
      refine k_seq fun Q K => k_lin fun W K => ?_
      refine l_op 0 rfl rfl rfl rfl rfl ?_
      refine l_c32 rfl rfl rfl (by omega) rfl ?_
      refine l_op 0 rfl rfl rfl rfl rfl ?_
      refine l_a32 rfl rfl rfl (by omega) rfl ?_
      refine l_callp F rfl rfl (by kernel_rfl) rfl rfl (align_call ⟨by omega, by omega⟩) (fun _ s F _ => ?_)
      (try dsimp only [n_1, n_2, n_3, n_4, List.append_nil, pk, n_5, n_6] at F)
      refine l_op 0 rfl rfl rfl rfl rfl ?_
      iterate 2 refine l_op 2 rfl rfl rfl rfl rfl ?_
      iterate 2 refine l_op 0 rfl rfl rfl rfl rfl ?_
      refine l_nil (WK.nx ‹_› (SeqK.nx ‹_› ?_))
      refine k_seq fun Q K => k_seq fun Q K => k_lin fun W K => ?_
      refine l_op 0 rfl rfl rfl rfl rfl ?_
      refine l_op 2 rfl rfl rfl rfl rfl ?_
      refine l_op 0 rfl rfl rfl rfl rfl ?_
      refine l_guard rfl rfl rfl (fun hc10 => ?_) (fun hc10 => ?_)
      · try simp only [i_1, i_2, i_3, i_4, i_5, ne_eq, i_6, i_7, i_8, i_9] at hc10
        iterate 6 refine l_s rfl rfl ?_
        refine l_op 2 rfl rfl rfl rfl rfl ?_
        refine l_nil (WK.nx ‹_› (SeqK.nx ‹_› ?_))
        refine e_cond_t rfl rfl rfl ?_
        refine k_seq fun Q K => k_lin fun W K => ?_
        iterate 2 refine l_op 0 rfl rfl rfl rfl rfl ?_
        refine l_nil (WK.nx ‹_› (SeqK.nx ‹_› (k_ret (SeqK.rt ‹_› (SeqK.rt ‹_› ?_)))))
        refine FunK.rt (by assumption) rfl ?_
        -- leaf 7
        generalize hR : mallocR most st en bl n e = r
        unfold mallocR mallocA at hR
        (repeat' split at hR) <;> first
          | (exfalso; omega)
          | (subst hR; exact ⟨(a, c), rfl, F.pick [0, 1] (by decide), hEx⟩)
          | (subst hR; refine ⟨(y.1, y.2), rfl, ?_, hy⟩
             have hlen := ins_length bl (placeR n e bl).2 ((placeR n e bl).1, n) (by omega) (by omega)
             unfold hF hC; rw [hlen]; exact F)
          | (subst hR; refine ⟨(y.1, y.2), rfl, ?_, hy⟩
             have hlen := ins_length bl (placeR n st bl).2 ((placeR n st bl).1, n) (by omega) (by omega)
             unfold hF hC; rw [hlen]; exact F)
          | (exfalso; simp_all; done)
      try simp only [i_1, i_2, i_3, i_4, i_5, ne_eq, i_6, i_7, i_8, i_9] at hc10
      iterate 2 refine l_op 0 rfl rfl rfl rfl rfl ?_
      iterate 2 refine l_op 2 rfl rfl rfl rfl rfl ?_
      refine l_ldc F 0 rfl rfl rfl rfl rfl rfl rfl ?_
      refine l_cmp rfl rfl rfl rfl ?_
      refine l_op 2 rfl rfl rfl rfl rfl ?_
      refine l_nil (WK.nx ‹_› (SeqK.nx ‹_› ?_))
      refine l_cond rfl rfl (fun hc11 => ?_) (fun hc11 => ?_)
      · replace hc11 := of_decide_eq_true ((irr_eq _).symm.trans hc11)
        refine k_seq fun Q K => k_lin fun W K => ?_
        iterate 2 refine l_op 0 rfl rfl rfl rfl rfl ?_
        refine l_nil (WK.nx ‹_› (SeqK.nx ‹_› (k_ret (SeqK.rt ‹_› (SeqK.rt ‹_› ?_)))))
        refine FunK.rt (by assumption) rfl ?_
        -- leaf 8
        generalize hR : mallocR most st en bl n e = r
        unfold mallocR mallocA at hR
        (repeat' split at hR) <;> first
          | (exfalso; omega)
          | (subst hR; exact ⟨(a, c), rfl, F.pick [0, 1] (by decide), hEx⟩)
          | (subst hR; refine ⟨(y.1, y.2), rfl, ?_, hy⟩
             have hlen := ins_length bl (placeR n e bl).2 ((placeR n e bl).1, n) (by omega) (by omega)
             unfold hF hC; rw [hlen]; exact F)
          | (subst hR; refine ⟨(y.1, y.2), rfl, ?_, hy⟩
             have hlen := ins_length bl (placeR n st bl).2 ((placeR n st bl).1, n) (by omega) (by omega)
             unfold hF hC; rw [hlen]; exact F)
          | (exfalso; simp_all; done)
      replace hc11 := of_decide_eq_false ((irr_eq _).symm.trans hc11)
      refine k_skip (SeqK.nx ‹_› ?_)
      refine k_lin fun W K => ?_
      iterate 2 refine l_op 0 rfl rfl rfl rfl rfl ?_
      refine l_nil (WK.nx ‹_› (SeqK.nx ‹_› ?_))
      refine k_seq fun Q K => k_lin fun W K => ?_
      iterate 4 refine l_op 0 rfl rfl rfl rfl rfl ?_
      iterate 2 refine l_op 2 rfl rfl rfl rfl rfl ?_
      refine l_stc F 0 rfl rfl rfl rfl rfl rfl rfl rfl rfl hD (fun s F => ?_)
      (try dsimp only [n_1, n_2, n_3, n_4, List.append_nil, pk, n_5, n_6] at F)
      iterate 2 refine l_op 2 rfl rfl rfl rfl rfl ?_
      refine l_stc F 0 rfl rfl rfl rfl rfl rfl rfl rfl rfl hD (fun s F => ?_)
      (try dsimp only [n_1, n_2, n_3, n_4, List.append_nil, pk, n_5, n_6] at F)
      refine l_nil (WK.nx ‹_› (SeqK.nx ‹_› ?_))
      refine k_seq fun Q K => k_lin fun W K => ?_
      iterate 2 refine l_op 0 rfl rfl rfl rfl rfl ?_
      iterate 2 refine l_op 2 rfl rfl rfl rfl rfl ?_
      refine l_ldc F 0 rfl rfl rfl rfl rfl rfl rfl ?_
      iterate 2 refine l_op 0 rfl rfl rfl rfl rfl ?_
      refine l_c32 rfl rfl rfl (by omega) rfl ?_
      refine l_op 0 rfl rfl rfl rfl rfl ?_
      refine l_bld rfl rfl rfl rfl ?_
      refine l_lit (k := 2) F rfl rfl rfl rfl (fun q119 s F => ?_)
      (try dsimp only [n_1, n_2, n_3, n_4, List.append_nil, pk, n_5, n_6] at F)
      refine l_call F [1, 2] [0] (by decide) rfl rfl (by kernel_rfl) rfl rfl (insert_call (bl := bl) (x := ((placeR n e bl).1, n)) (F.sub [1, 2] (by decide)) hEx (by omega) (by omega)) hD (fun y s F hy => ?_)
      (try dsimp only [n_1, n_2, n_3, n_4, List.append_nil, pk, n_5, n_6] at F)
      iterate 2 refine l_op 2 rfl rfl rfl rfl rfl ?_
      refine l_stc F 0 rfl rfl rfl rfl rfl rfl rfl rfl rfl hD (fun s F => ?_)
      (try dsimp only [n_1, n_2, n_3, n_4, List.append_nil, pk, n_5, n_6] at F)
      refine l_nil (WK.nx ‹_› (SeqK.nx ‹_› ?_))
      refine k_seq fun Q K => k_lin fun W K => ?_
      refine l_op 0 rfl rfl rfl rfl rfl ?_
      refine l_c32 rfl rfl rfl (by omega) rfl ?_
      iterate 2 refine l_op 0 rfl rfl rfl rfl rfl ?_
      refine l_nil (WK.nx ‹_› (SeqK.nx ‹_› (k_ret ?_)))
      refine FunK.rt (by assumption) rfl ?_
      -- leaf 9
      generalize hR : mallocR most st en bl n e = r
      unfold mallocR mallocA at hR
      (repeat' split at hR) <;> first
        | (exfalso; omega)
        | (subst hR; exact ⟨(a, c), rfl, F.pick [0, 1] (by decide), hEx⟩)
        | (subst hR; refine ⟨(y.1, y.2), rfl, ?_, hy⟩
           have hlen := ins_length bl (placeR n e bl).2 ((placeR n e bl).1, n) (by omega) (by omega)
           unfold hF hC; rw [hlen]; exact F)
        | (subst hR; refine ⟨(y.1, y.2), rfl, ?_, hy⟩
           have hlen := ins_length bl (placeR n st bl).2 ((placeR n st bl).1, n) (by omega) (by omega)
           unfold hF hC; rw [hlen]; exact F)
        | (exfalso; simp_all; done)
    replace hc8 := of_decide_eq_false ((irr_eq _).symm.trans hc8)
    refine k_skip (SeqK.nx ‹_› ?_)
    refine k_seq fun Q K => k_lin fun W K => ?_
    iterate 4 refine l_op 0 rfl rfl rfl rfl rfl ?_
    iterate 2 refine l_op 2 rfl rfl rfl rfl rfl ?_
    refine l_stc F 0 rfl rfl rfl rfl rfl rfl rfl rfl rfl hD (fun s F => ?_)
    (try dsimp only [n_1, n_2, n_3, n_4, List.append_nil, pk, n_5, n_6] at F)
    iterate 2 refine l_op 2 rfl rfl rfl rfl rfl ?_
    refine l_stc F 0 rfl rfl rfl rfl rfl rfl rfl rfl rfl hD (fun s F => ?_)
    (try dsimp only [n_1, n_2, n_3, n_4, List.append_nil, pk, n_5, n_6] at F)
    refine l_nil (WK.nx ‹_› (SeqK.nx ‹_› ?_))
    refine k_seq fun Q K => k_lin fun W K => ?_
    iterate 2 refine l_op 0 rfl rfl rfl rfl rfl ?_
    iterate 2 refine l_op 2 rfl rfl rfl rfl rfl ?_
    refine l_ldc F 0 rfl rfl rfl rfl rfl rfl rfl ?_
    iterate 2 refine l_op 0 rfl rfl rfl rfl rfl ?_
    refine l_c32 rfl rfl rfl (by omega) rfl ?_
    refine l_op 0 rfl rfl rfl rfl rfl ?_
    refine l_bld rfl rfl rfl rfl ?_
    refine l_lit (k := 2) F rfl rfl rfl rfl (fun q119 s F => ?_)
    (try dsimp only [n_1, n_2, n_3, n_4, List.append_nil, pk, n_5, n_6] at F)
    refine l_call F [1, 2] [0] (by decide) rfl rfl (by kernel_rfl) rfl rfl (insert_call (bl := bl) (x := ((placeR n e bl).1, n)) (F.sub [1, 2] (by decide)) hEx (by omega) (by omega)) hD (fun y s F hy => ?_)
    (try dsimp only [n_1, n_2, n_3, n_4, List.append_nil, pk, n_5, n_6] at F)
    iterate 2 refine l_op 2 rfl rfl rfl rfl rfl ?_
    refine l_stc F 0 rfl rfl rfl rfl rfl rfl rfl rfl rfl hD (fun s F => ?_)
    (try dsimp only [n_1, n_2, n_3, n_4, List.append_nil, pk, n_5, n_6] at F)
    refine l_nil (WK.nx ‹_› (SeqK.nx ‹_› ?_))
    refine k_seq fun Q K => k_lin fun W K => ?_
    refine l_op 0 rfl rfl rfl rfl rfl ?_
    refine l_c32 rfl rfl rfl (by omega) rfl ?_
    iterate 2 refine l_op 0 rfl rfl rfl rfl rfl ?_
    refine l_nil (WK.nx ‹_› (SeqK.nx ‹_› (k_ret ?_)))
    refine FunK.rt (by assumption) rfl ?_
    -- leaf 10
    generalize hR : mallocR most st en bl n e = r
    unfold mallocR mallocA at hR
    (repeat' split at hR) <;> first
      | (exfalso; omega)
      | (subst hR; exact ⟨(a, c), rfl, F.pick [0, 1] (by decide), hEx⟩)
      | (subst hR; refine ⟨(y.1, y.2), rfl, ?_, hy⟩
         have hlen := ins_length bl (placeR n e bl).2 ((placeR n e bl).1, n) (by omega) (by omega)
         unfold hF hC; rw [hlen]; exact F)
      | (subst hR; refine ⟨(y.1, y.2), rfl, ?_, hy⟩
         have hlen := ins_length bl (placeR n st bl).2 ((placeR n st bl).1, n) (by omega) (by omega)
         unfold hF hC; rw [hlen]; exact F)
      | (exfalso; simp_all; done)
  replace hc4 := ne_of_beq_false ((irr_eq _).symm.trans hc4)
  refine k_lin fun W K => ?_
  refine l_op 0 rfl rfl rfl rfl rfl ?_
  iterate 2 refine l_op 2 rfl rfl rfl rfl rfl ?_
  refine l_ldc F 0 rfl rfl rfl rfl rfl rfl rfl ?_
  refine l_op 0 rfl rfl rfl rfl rfl ?_
  refine l_nil (WK.nx ‹_› (SeqK.nx ‹_› ?_))
  refine k_seq fun Q K => k_lin fun W K => ?_
  iterate 2 refine l_op 0 rfl rfl rfl rfl rfl ?_
  refine l_cu64 rfl rfl rfl (by omega) rfl ?_
  refine l_op 0 rfl rfl rfl rfl rfl ?_
  refine l_callp F rfl rfl (by kernel_rfl) rfl rfl (place_call (F.cel0 0 rfl) (Old.pure (F.has 1 rfl)) hB (by omega) ⟨by omega, by omega⟩ ⟨by omega, by omega⟩) (fun _ s F _ => ?_)
  have hpb1 := placeR_bound n bl st hB s0 (by omega)
  have hpb2 := placeR_bound n bl e hB v0 (by omega)
  (try dsimp only [n_1, n_2, n_3, n_4, List.append_nil, pk, n_5, n_6] at F)
  refine l_op 0 rfl rfl rfl rfl rfl ?_
  iterate 2 refine l_op 2 rfl rfl rfl rfl rfl ?_
  iterate 2 refine l_op 0 rfl rfl rfl rfl rfl ?_
  refine l_nil (WK.nx ‹_› (SeqK.nx ‹_› ?_))
  refine k_seq fun Q K => k_seq fun Q K => k_lin fun W K => ?_
  iterate 2 refine l_op 0 rfl rfl rfl rfl rfl ?_
  refine l_cu64 rfl rfl rfl (by omega) rfl ?_
  refine l_au64 rfl rfl rfl (by omega) rfl ?_
  refine l_op 0 rfl rfl rfl rfl rfl ?_
  refine l_cu64 rfl rfl rfl (by omega) rfl ?_
  refine l_cmp rfl rfl rfl rfl ?_
  refine l_nil (WK.nx ‹_› (SeqK.nx ‹_› ?_))
  refine l_cond rfl rfl (fun hc12 => ?_) (fun hc12 => ?_)
  · replace hc12 := of_decide_eq_true ((irr_eq _).symm.trans hc12)
    refine k_seq fun Q K => k_seq fun Q K => k_lin fun W K => ?_
    iterate 2 refine l_op 0 rfl rfl rfl rfl rfl ?_
    refine l_cu64 rfl rfl rfl (by omega) rfl ?_
    refine l_au64 rfl rfl rfl (by omega) rfl ?_
    refine l_op 0 rfl rfl rfl rfl rfl ?_
    iterate 2 refine l_op 2 rfl rfl rfl rfl rfl ?_
    refine l_ldc F 0 rfl rfl rfl rfl rfl rfl rfl ?_
    refine l_cu64 rfl rfl rfl (by omega) rfl ?_
    refine l_cmp rfl rfl rfl rfl ?_
    refine l_nil (WK.nx ‹_› (SeqK.nx ‹_› ?_))
    refine l_cond rfl rfl (fun hc13 => ?_) (fun hc13 => ?_)
    · replace hc13 := of_decide_eq_true ((irr_eq _).symm.trans hc13)
      refine k_seq fun Q K => k_lin fun W K => ?_
      iterate 2 refine l_op 0 rfl rfl rfl rfl rfl ?_
      refine l_nil (WK.nx ‹_› (SeqK.nx ‹_› (k_ret (SeqK.rt ‹_› (SeqK.rt ‹_› ?_)))))
      refine FunK.rt (by assumption) rfl ?_
      -- leaf 11
      generalize hR : mallocR most st en bl n e = r
      unfold mallocR mallocA at hR
      (repeat' split at hR) <;> first
        | (exfalso; omega)
        | (subst hR; exact ⟨(a, c), rfl, F.pick [0, 1] (by decide), hEx⟩)
        | (subst hR; refine ⟨(y.1, y.2), rfl, ?_, hy⟩
           have hlen := ins_length bl (placeR n e bl).2 ((placeR n e bl).1, n) (by omega) (by omega)
           unfold hF hC; rw [hlen]; exact F)
        | (subst hR; refine ⟨(y.1, y.2), rfl, ?_, hy⟩
           have hlen := ins_length bl (placeR n st bl).2 ((placeR n st bl).1, n) (by omega) (by omega)
           unfold hF hC; rw [hlen]; exact F)
        | (exfalso; simp_all; done)
    replace hc13 := of_decide_eq_false ((irr_eq _).symm.trans hc13)
    refine k_skip (SeqK.nx ‹_› ?_)
    refine k_seq fun Q K => k_lin fun W K => ?_
    refine l_op 0 rfl rfl rfl rfl rfl ?_
    refine l_c32 rfl rfl rfl (by omega) rfl ?_
    refine l_op 0 rfl rfl rfl rfl rfl ?_
    refine l_a32 rfl rfl rfl (by omega) rfl ?_
    refine l_callp F rfl rfl (by kernel_rfl) rfl rfl (align_call ⟨by omega, by omega⟩) (fun _ s F _ => ?_)
    (try dsimp only [n_1, n_2, n_3, n_4, List.append_nil, pk, n_5, n_6] at F)
    refine l_op 0 rfl rfl rfl rfl rfl ?_
    iterate 2 refine l_op 2 rfl rfl rfl rfl rfl ?_
    iterate 2 refine l_op 0 rfl rfl rfl rfl rfl ?_
    refine l_nil (WK.nx ‹_› (SeqK.nx ‹_› ?_))
    refine k_seq fun Q K => k_seq fun Q K => k_lin fun W K => ?_
    refine l_op 0 rfl rfl rfl rfl rfl ?_
    refine l_op 2 rfl rfl rfl rfl rfl ?_
    refine l_op 0 rfl rfl rfl rfl rfl ?_
    refine l_guard rfl rfl rfl (fun hc14 => ?_) (fun hc14 => ?_)
    · try simp only [i_1, i_2, i_3, i_4, i_5, ne_eq, i_6, i_7, i_8, i_9] at hc14
      iterate 6 refine l_s rfl rfl ?_
      refine l_op 2 rfl rfl rfl rfl rfl ?_
      refine l_nil (WK.nx ‹_› (SeqK.nx ‹_› ?_))
      refine e_cond_t rfl rfl rfl ?_
      refine k_seq fun Q K => k_lin fun W K => ?_
      iterate 2 refine l_op 0 rfl rfl rfl rfl rfl ?_
      refine l_nil (WK.nx ‹_› (SeqK.nx ‹_› (k_ret (SeqK.rt ‹_› (SeqK.rt ‹_› ?_)))))
      refine FunK.rt (by assumption) rfl ?_
      -- leaf 12
      generalize hR : mallocR most st en bl n e = r
      unfold mallocR mallocA at hR
      (repeat' split at hR) <;> first
        | (exfalso; omega)
        | (subst hR; exact ⟨(a, c), rfl, F.pick [0, 1] (by decide), hEx⟩)
        | (subst hR; refine ⟨(y.1, y.2), rfl, ?_, hy⟩
           have hlen := ins_length bl (placeR n e bl).2 ((placeR n e bl).1, n) (by omega) (by omega)
           unfold hF hC; rw [hlen]; exact F)
        | (subst hR; refine ⟨(y.1, y.2), rfl, ?_, hy⟩
           have hlen := ins_length bl (placeR n st bl).2 ((placeR n st bl).1, n) (by omega) (by omega)
           unfold hF hC; rw [hlen]; exact F)
        | (exfalso; simp_all; done)
    try simp only [i_1, i_2, i_3, i_4, i_5, ne_eq, i_6, i_7, i_8, i_9] at hc14
    iterate 2 refine l_op 0 rfl rfl rfl rfl rfl ?_
    iterate 2 refine l_op 2 rfl rfl rfl rfl rfl ?_
    refine l_ldc F 0 rfl rfl rfl rfl rfl rfl rfl ?_
    refine l_cmp rfl rfl rfl rfl ?_
    refine l_op 2 rfl rfl rfl rfl rfl ?_
    refine l_nil (WK.nx ‹_› (SeqK.nx ‹_› ?_))
    refine l_cond rfl rfl (fun hc15 => ?_) (fun hc15 => ?_)
    · replace hc15 := of_decide_eq_true ((irr_eq _).symm.trans hc15)
      refine k_seq fun Q K => k_lin fun W K => ?_
      iterate 2 refine l_op 0 rfl rfl rfl rfl rfl ?_
      refine l_nil (WK.nx ‹_› (SeqK.nx ‹_› (k_ret (SeqK.rt ‹_› (SeqK.rt ‹_› ?_)))))
      refine FunK.rt (by assumption) rfl ?_
      -- leaf 13
      generalize hR : mallocR most st en bl n e = r
      unfold mallocR mallocA at hR
      (repeat' split at hR) <;> first
        | (exfalso; omega)
        | (subst hR; exact ⟨(a, c), rfl, F.pick [0, 1] (by decide), hEx⟩)
        | (subst hR; refine ⟨(y.1, y.2), rfl, ?_, hy⟩
           have hlen := ins_length bl (placeR n e bl).2 ((placeR n e bl).1, n) (by omega) (by omega)
           unfold hF hC; rw [hlen]; exact F)
        | (subst hR; refine ⟨(y.1, y.2), rfl, ?_, hy⟩
           have hlen := ins_length bl (placeR n st bl).2 ((placeR n st bl).1, n) (by omega) (by omega)
           unfold hF hC; rw [hlen]; exact F)
        | (exfalso; simp_all; done)
    replace hc15 := of_decide_eq_false ((irr_eq _).symm.trans hc15)
    refine k_skip (SeqK.nx ‹_› ?_)
    refine k_lin fun W K => ?_
    iterate 2 refine l_op 0 rfl rfl rfl rfl rfl ?_
    refine l_nil (WK.nx ‹_› (SeqK.nx ‹_› ?_))
    refine k_seq fun Q K => k_lin fun W K => ?_
    iterate 4 refine l_op 0 rfl rfl rfl rfl rfl ?_
    iterate 2 refine l_op 2 rfl rfl rfl rfl rfl ?_
    refine l_stc F 0 rfl rfl rfl rfl rfl rfl rfl rfl rfl hD (fun s F => ?_)
    (try dsimp only [n_1, n_2, n_3, n_4, List.append_nil, pk, n_5, n_6] at F)
    iterate 2 refine l_op 2 rfl rfl rfl rfl rfl ?_
    refine l_stc F 0 rfl rfl rfl rfl rfl rfl rfl rfl rfl hD (fun s F => ?_)
    (try dsimp only [n_1, n_2, n_3, n_4, List.append_nil, pk, n_5, n_6] at F)
    refine l_nil (WK.nx ‹_› (SeqK.nx ‹_› ?_))
    refine k_seq fun Q K => k_lin fun W K => ?_
    iterate 2 refine l_op 0 rfl rfl rfl rfl rfl ?_
    iterate 2 refine l_op 2 rfl rfl rfl rfl rfl ?_
    refine l_ldc F 0 rfl rfl rfl rfl rfl rfl rfl ?_
    iterate 2 refine l_op 0 rfl rfl rfl rfl rfl ?_
    refine l_c32 rfl rfl rfl (by omega) rfl ?_
    refine l_op 0 rfl rfl rfl rfl rfl ?_
    refine l_bld rfl rfl rfl rfl ?_
    refine l_lit (k := 2) F rfl rfl rfl rfl (fun q119 s F => ?_)
    (try dsimp only [n_1, n_2, n_3, n_4, List.append_nil, pk, n_5, n_6] at F)
    refine l_call F [1, 2] [0] (by decide) rfl rfl (by kernel_rfl) rfl rfl (insert_call (bl := bl) (x := ((placeR n st bl).1, n)) (F.sub [1, 2] (by decide)) hEx (by omega) (by omega)) hD (fun y s F hy => ?_)
    (try dsimp only [n_1, n_2, n_3, n_4, List.append_nil, pk, n_5, n_6] at F)
    iterate 2 refine l_op 2 rfl rfl rfl rfl rfl ?_
    refine l_stc F 0 rfl rfl rfl rfl rfl rfl rfl rfl rfl hD (fun s F => ?_)
    (try dsimp only [n_1, n_2, n_3, n_4, List.append_nil, pk, n_5, n_6] at F)
    refine l_nil (WK.nx ‹_› (SeqK.nx ‹_› ?_))
    refine k_seq fun Q K => k_lin fun W K => ?_
    refine l_op 0 rfl rfl rfl rfl rfl ?_
    refine l_c32 rfl rfl rfl (by omega) rfl ?_
    iterate 2 refine l_op 0 rfl rfl rfl rfl rfl ?_
    refine l_nil (WK.nx ‹_› (SeqK.nx ‹_› (k_ret ?_)))
    refine FunK.rt (by assumption) rfl ?_
    -- leaf 14
    generalize hR : mallocR most st en bl n e = r
    unfold mallocR mallocA at hR
    (repeat' split at hR) <;> first
      | (exfalso; omega)
      | (subst hR; exact ⟨(a, c), rfl, F.pick [0, 1] (by decide), hEx⟩)
      | (subst hR; refine ⟨(y.1, y.2), rfl, ?_, hy⟩
         have hlen := ins_length bl (placeR n e bl).2 ((placeR n e bl).1, n) (by omega) (by omega)
         unfold hF hC; rw [hlen]; exact F)
      | (subst hR; refine ⟨(y.1, y.2), rfl, ?_, hy⟩
         have hlen := ins_length bl (placeR n st bl).2 ((placeR n st bl).1, n) (by omega) (by omega)
         unfold hF hC; rw [hlen]; exact F)
      | (exfalso; simp_all; done)
  replace hc12 := of_decide_eq_false ((irr_eq _).symm.trans hc12)
  refine k_skip (SeqK.nx ‹_› ?_)
  refine k_seq fun Q K => k_lin fun W K => ?_
  iterate 4 refine l_op 0 rfl rfl rfl rfl rfl ?_
  iterate 2 refine l_op 2 rfl rfl rfl rfl rfl ?_
  refine l_stc F 0 rfl rfl rfl rfl rfl rfl rfl rfl rfl hD (fun s F => ?_)
  (try dsimp only [n_1, n_2, n_3, n_4, List.append_nil, pk, n_5, n_6] at F)
  iterate 2 refine l_op 2 rfl rfl rfl rfl rfl ?_
  refine l_stc F 0 rfl rfl rfl rfl rfl rfl rfl rfl rfl hD (fun s F => ?_)
  (try dsimp only [n_1, n_2, n_3, n_4, List.append_nil, pk, n_5, n_6] at F)
  refine l_nil (WK.nx ‹_› (SeqK.nx ‹_› ?_))
  refine k_seq fun Q K => k_lin fun W K => ?_
  iterate 2 refine l_op 0 rfl rfl rfl rfl rfl ?_
  iterate 2 refine l_op 2 rfl rfl rfl rfl rfl ?_
  refine l_ldc F 0 rfl rfl rfl rfl rfl rfl rfl ?_
  iterate 2 refine l_op 0 rfl rfl rfl rfl rfl ?_
  refine l_c32 rfl rfl rfl (by omega) rfl ?_
  refine l_op 0 rfl rfl rfl rfl rfl ?_
  refine l_bld rfl rfl rfl rfl ?_
  refine l_lit (k := 2) F rfl rfl rfl rfl (fun q119 s F => ?_)
  (try dsimp only [n_1, n_2, n_3, n_4, List.append_nil, pk, n_5, n_6] at F)
  refine l_call F [1, 2] [0] (by decide) rfl rfl (by kernel_rfl) rfl rfl (insert_call (bl := bl) (x := ((placeR n st bl).1, n)) (F.sub [1, 2] (by decide)) hEx (by omega) (by omega)) hD (fun y s F hy => ?_)
  (try dsimp only [n_1, n_2, n_3, n_4, List.append_nil, pk, n_5, n_6] at F)
  iterate 2 refine l_op 2 rfl rfl rfl rfl rfl ?_
  refine l_stc F 0 rfl rfl rfl rfl rfl rfl rfl rfl rfl hD (fun s F => ?_)
  (try dsimp only [n_1, n_2, n_3, n_4, List.append_nil, pk, n_5, n_6] at F)
  refine l_nil (WK.nx ‹_› (SeqK.nx ‹_› ?_))
  refine k_seq fun Q K => k_lin fun W K => ?_
  refine l_op 0 rfl rfl rfl rfl rfl ?_
  refine l_c32 rfl rfl rfl (by omega) rfl ?_
  iterate 2 refine l_op 0 rfl rfl rfl rfl rfl ?_
  refine l_nil (WK.nx ‹_› (SeqK.nx ‹_› (k_ret ?_)))
  refine FunK.rt (by assumption) rfl ?_
  -- leaf 15
  generalize hR : mallocR most st en bl n e = r
  unfold mallocR mallocA at hR
  (repeat' split at hR) <;> first
    | (exfalso; omega)
    | (subst hR; exact ⟨(a, c), rfl, F.pick [0, 1] (by decide), hEx⟩)
    | (subst hR; refine ⟨(y.1, y.2), rfl, ?_, hy⟩
       have hlen := ins_length bl (placeR n e bl).2 ((placeR n e bl).1, n) (by omega) (by omega)
       unfold hF hC; rw [hlen]; exact F)
    | (subst hR; refine ⟨(y.1, y.2), rfl, ?_, hy⟩
       have hlen := ins_length bl (placeR n st bl).2 ((placeR n st bl).1, n) (by omega) (by omega)
       unfold hF hC; rw [hlen]; exact F)
    | (exfalso; simp_all; done)

end Go.Proofs.YtocfmecenpeoiaaGreat
