/- A memory: its pieces; what is only read. No statement of the seat is proved in this text. -/
import Derived.Test.YtocfmecenpeoiaaGreatHInv
import Derived.Test.YtocfmecenpeoiaaGreatLibWBe
import Derived.Test.YtocfmecenpeoiaaGreatLibBytes
set_option linter.unusedVariables false
set_option linter.unusedSimpArgs false
set_option maxRecDepth 100000
set_option maxHeartbeats 4000000
namespace Go.Proofs.YtocfmecenpeoiaaGreat
open GAb Go

/-- A row shown with less room. -/
theorem has_room {σ : AState} {a : Option Addr} {l c cb es : Nat} {vs : List Value} (h : Has σ a l c es vs) (h1 : l ≤ cb) (h2 : cb ≤ c) (ha : a ≠ none) (h0 : 0 < c) : Has σ a l cb es vs := by
  obtain ⟨zs, hR, hv⟩ := h
  rcases hR with ⟨rfl, _⟩ | ⟨n, o, e, rfl, ⟨rfl, rfl, _⟩ | ⟨he, hn, hl, b, hb, hes, hsz, hz⟩⟩
  · exact absurd rfl ha
  · omega
  · have hm : cb * es ≤ c * es := Nat.mul_le_mul_right es h2
    refine ⟨zs.take (cb * es), .inr ⟨n, o, e, rfl, .inr ⟨he, hn, h1, b, hb, hes, by omega, ?_⟩⟩, ?_⟩
    · rw [← hz, List.take_take, Nat.min_eq_left hm]
    · rw [← hv, List.take_take, Nat.min_eq_left (Nat.mul_le_mul_right es h1)]
structure MZ where
  f1 : Int
  t1 : Int
  ga : Option Addr
  gc : Nat
  q : Nat
  cb : Nat
  c : Nat
  bs : List Int
  h : Nat
  la : Option Addr
  lc : Nat
  st : Int
  en : Int
  bl : List (Int × Int)
abbrev mC (z : MZ) : List Value := [.int .u64 z.f1, .int .u64 z.t1, .int .u32 196867, .int .u32 256, .int .u32 512, .int .u32 768, .int .u32 256, .int .u32 36, .int .u32 0, .int .u32 1198488979, .slice z.ga 512 z.gc, .slice (some ⟨z.q, 0, some 0⟩) z.bs.length z.cb, .pointer (some ⟨z.h, 0, none⟩)]
/-- The small game. -/
@[irreducible] def smallB : List Int := [71, 108, 117, 108, 0, 3, 1, 3, 0, 0, 1, 0, 0, 0, 2, 0, 0, 0, 3, 0, 0, 0, 1, 0, 0, 0, 0, 36, 0, 0, 0, 0] ++ putR 1198488979 4 ++ List.replicate 476 0
theorem smallB_len : smallB.length = 512 := by kernel_rfl
abbrev mF (m : Nat) (z : MZ) : List Fact := [cel m (mC z), own z.ga 512 z.gc 1 (u8l smallB), own (some ⟨z.q, 0, some 0⟩) z.bs.length z.c 1 (u8l z.bs), cel z.h (hC z.h z.la z.lc 1048576 z.st z.en z.bl), own z.la z.bl.length z.lc 2 (rows eB z.bl)]
structure MOK (z : MZ) : Prop where
  span : 0 ≤ z.f1 ∧ z.f1 ≤ 4294967295 ∧ 0 ≤ z.t1 ∧ z.t1 ≤ 8589934590
  room : z.bs.length ≤ z.cb ∧ z.cb ≤ z.c ∧ z.bs.length ≤ 1048576
  size : 768 ≤ z.bs.length ∧ z.bs.length % 256 = 0
  byt : Bytes z.bs
  heap : HOK 1048576 z.st z.en z.bl
  ex : Ex z.la
  low : z.bl ≠ [] → 768 ≤ z.st
/-- What is only read of a memory. -/
structure OldM (σ : AState) (m : Nat) (z : MZ) : Prop where
  cel : OldC E0 σ m (mC z)
  game : Old E0 σ z.ga 512 z.gc 1 (u8l smallB)
  byt : Old E0 σ (some ⟨z.q, 0, some 0⟩) z.bs.length z.cb 1 (u8l z.bs)
  hc : OldC E0 σ z.h (hC z.h z.la z.lc 1048576 z.st z.en z.bl)
  hl : Old E0 σ z.la z.bl.length z.lc 2 (rows eB z.bl)
theorem oldM_of {O : Nat → Prop} {σ0 σ : AState} {L : List Fact} {m : Nat} {z : MZ} (F : Facts O σ0 σ L) (ok : MOK z) (k1 k2 k3 k4 k5 : Nat) (h1 : L[k1]? = some (GAb.cel m (mC z))) (h2 : L[k2]? = some (own z.ga 512 z.gc 1 (u8l smallB))) (h3 : L[k3]? = some (own (some ⟨z.q, 0, some 0⟩) z.bs.length z.c 1 (u8l z.bs))) (h4 : L[k4]? = some (GAb.cel z.h (hC z.h z.la z.lc 1048576 z.st z.en z.bl))) (h5 : L[k5]? = some (own z.la z.bl.length z.lc 2 (rows eB z.bl))) : OldM σ m z :=
  ⟨F.cel0 k1 h1, Old.pure (F.has k2 h2), Old.pure (has_room (F.has k3 h3) ok.room.1 ok.room.2.1 (fun h => (by cases h)) (by have := ok.room; have := ok.size; omega)), F.cel0 k4 h4, Old.pure (F.has k5 h5)⟩
theorem hb_of {O : Nat → Prop} {σ0 σ : AState} {L : List Fact} {z : MZ} (F : Facts O σ0 σ L) (ok : MOK z) (k : Nat) (h3 : L[k]? = some (own (some ⟨z.q, 0, some 0⟩) z.bs.length z.c 1 (u8l z.bs))) : Has σ (some ⟨z.q, 0, some 0⟩) z.bs.length z.cb 1 (u8l z.bs) :=
  has_room (F.has k h3) ok.room.1 ok.room.2.1 (fun h => (by cases h)) (by have := ok.room; have := ok.size; omega)
theorem OldM.to {σ s : AState} {L : List Fact} {m : Nat} {z : MZ} (h : OldM σ m z) (F : Facts E0 σ s L) : OldM s m z :=
  ⟨F.oldc0 h.cel, Old.pure (F.old h.game), Old.pure (F.old h.byt), F.oldc0 h.hc, Old.pure (F.old h.hl)⟩
theorem sizedm_call {σ : AState} {n : Int} : SCall Tryz.prog E0 135 [.int .i64 n] σ (Ret E0 σ (fun (_ : Unit) => .bool (irr (decide (n = 1 ∨ n = 2 ∨ n = 4)))) (fun _ => []) fun _ => True) := by
  refine k_fun Tryz.func135 rfl (m := 13) rfl fun B hD Q K => ?_
  have F := Facts.nil E0 σ
  refine k_seq fun Q K => k_lin fun W K => ?_
  refine l_op 0 rfl rfl rfl rfl rfl ?_
  refine l_nil (WK.nx ‹_› (SeqK.nx ‹_› ?_))
  refine k_seq fun Q K => k_lin fun W K => ?_
  refine l_op 0 rfl rfl rfl rfl rfl ?_
  refine l_cmp rfl rfl rfl rfl ?_
  refine l_op 0 rfl rfl rfl rfl rfl ?_
  refine l_guard rfl rfl rfl (fun hc1 => ?_) (fun hc1 => ?_)
  · replace hc1 := eq_of_beq ((irr_eq _).symm.trans hc1)
    iterate 2 refine l_s rfl rfl ?_
    refine l_op 2 rfl rfl rfl rfl rfl ?_
    refine l_op 0 rfl rfl rfl rfl rfl ?_
    iterate 2 refine l_s rfl rfl ?_
    refine l_op 2 rfl rfl rfl rfl rfl ?_
    refine l_op 0 rfl rfl rfl rfl rfl ?_
    refine l_nil (WK.nx ‹_› (SeqK.nx ‹_› (k_ret ?_)))
    refine FunK.rt (by assumption) rfl ?_
    -- leaf 1
    (have e : irr (decide (n = 1 ∨ n = 2 ∨ n = 4)) = true := by rw [irr_eq]; exact decide_eq_true (by omega)
     rw [e]; exact ⟨(), rfl, F, trivial⟩)
  replace hc1 := ne_of_beq_false ((irr_eq _).symm.trans hc1)
  refine l_op 0 rfl rfl rfl rfl rfl ?_
  refine l_cmp rfl rfl rfl rfl ?_
  refine l_op 2 rfl rfl rfl rfl rfl ?_
  refine l_op 0 rfl rfl rfl rfl rfl ?_
  refine l_guard rfl rfl rfl (fun hc2 => ?_) (fun hc2 => ?_)
  · replace hc2 := eq_of_beq ((irr_eq _).symm.trans hc2)
    iterate 2 refine l_s rfl rfl ?_
    refine l_op 2 rfl rfl rfl rfl rfl ?_
    refine l_op 0 rfl rfl rfl rfl rfl ?_
    refine l_nil (WK.nx ‹_› (SeqK.nx ‹_› (k_ret ?_)))
    refine FunK.rt (by assumption) rfl ?_
    -- leaf 2
    (have e : irr (decide (n = 1 ∨ n = 2 ∨ n = 4)) = true := by rw [irr_eq]; exact decide_eq_true (by omega)
     rw [e]; exact ⟨(), rfl, F, trivial⟩)
  replace hc2 := ne_of_beq_false ((irr_eq _).symm.trans hc2)
  refine l_op 0 rfl rfl rfl rfl rfl ?_
  refine l_cmp rfl rfl rfl rfl ?_
  refine l_op 2 rfl rfl rfl rfl rfl ?_
  refine l_op 0 rfl rfl rfl rfl rfl ?_
  refine l_nil (WK.nx ‹_› (SeqK.nx ‹_› (k_ret ?_)))
  refine FunK.rt (by assumption) rfl ?_
  -- leaf 3
  (have e : irr (decide (n = 1 ∨ n = 2 ∨ n = 4)) = irr (n == 4) := by
     by_cases h : n = 4
     · rw [decide_eq_true (by omega), beq_iff_eq.2 h]
     · rw [decide_eq_false (by omega), beq_eq_false_iff_ne.2 h]
   rw [e]; exact ⟨(), rfl, F, trivial⟩)
theorem there_call {σ : AState} {m : Nat} {z : MZ} {a n : Int} (h : OldM σ m z) (ok : MOK z) (ha : U32 a) (hn : 0 ≤ n ∧ n ≤ 18446744069414584320) :
    SCall Tryz.prog E0 168 [.pointer (some ⟨m, 0, none⟩), .int .u32 a, .int .u64 n] σ (Ret E0 σ (fun (_ : Unit) => .bool (irr (decide (a + n ≤ z.bs.length)))) (fun _ => []) fun _ => True) := by
  obtain ⟨a0, a1⟩ := ha
  have hr := ok.room
  refine k_fun Tryz.func168 rfl (m := 18) rfl fun B hD Q K => ?_
  have F := Facts.nil E0 σ
  have hc := h.cel
  refine k_seq fun Q K => k_lin fun W K => ?_
  refine l_op 0 rfl rfl rfl rfl rfl ?_
  refine l_nil (WK.nx ‹_› (SeqK.nx ‹_› ?_))
  refine k_seq fun Q K => k_lin fun W K => ?_
  refine l_op 0 rfl rfl rfl rfl rfl ?_
  refine l_cu64 rfl rfl rfl (by omega) rfl ?_
  refine l_op 0 rfl rfl rfl rfl rfl ?_
  refine l_au64 rfl rfl rfl (by omega) rfl ?_
  refine l_op 0 rfl rfl rfl rfl rfl ?_
  iterate 2 refine l_op 2 rfl rfl rfl rfl rfl ?_
  refine l_ldo F (by assumption) rfl rfl rfl rfl rfl rfl ?_
  refine l_op 2 rfl rfl rfl rfl rfl ?_
  refine l_cu64 rfl rfl rfl (by omega) rfl ?_
  refine l_cmp rfl rfl rfl rfl ?_
  refine l_op 0 rfl rfl rfl rfl rfl ?_
  refine l_nil (WK.nx ‹_› (SeqK.nx ‹_› (k_ret ?_)))
  refine FunK.rt (by assumption) rfl ?_
  -- leaf 1
  first
  | exact ⟨(), rfl, F, trivial⟩
theorem open_call {σ : AState} {m : Nat} {z : MZ} {a n : Int} (h : OldM σ m z) (ok : MOK z) (ha : U32 a) (hn : 0 ≤ n ∧ n ≤ 18446744069414584320) :
    SCall Tryz.prog E0 136 [.pointer (some ⟨m, 0, none⟩), .int .u32 a, .int .u64 n] σ (Ret E0 σ (fun (_ : Unit) => .bool (irr (decide (256 ≤ a ∧ a + n ≤ z.bs.length)))) (fun _ => []) fun _ => True) := by
  obtain ⟨a0, a1⟩ := ha
  have hr := ok.room
  refine k_fun Tryz.func136 rfl (m := 20) rfl fun B hD Q K => ?_
  have F := Facts.nil E0 σ
  have hc := h.cel
  refine k_seq fun Q K => k_lin fun W K => ?_
  refine l_op 0 rfl rfl rfl rfl rfl ?_
  refine l_nil (WK.nx ‹_› (SeqK.nx ‹_› ?_))
  refine k_seq fun Q K => k_lin fun W K => ?_
  iterate 2 refine l_op 0 rfl rfl rfl rfl rfl ?_
  iterate 3 refine l_op 2 rfl rfl rfl rfl rfl ?_
  refine l_ldo F (by assumption) rfl rfl rfl rfl rfl rfl ?_
  refine l_cmp rfl rfl rfl rfl ?_
  refine l_op 0 rfl rfl rfl rfl rfl ?_
  refine l_guard rfl rfl rfl (fun hc1 => ?_) (fun hc1 => ?_)
  · replace hc1 := of_decide_eq_true ((irr_eq _).symm.trans hc1)
    iterate 3 refine l_op 0 rfl rfl rfl rfl rfl ?_
    refine l_callp F rfl rfl (by kernel_rfl) rfl rfl (there_call (h.to F) ok ⟨by omega, by omega⟩ hn) (fun _ s F _ => ?_)
    (try dsimp only [n_1, n_2, n_3, n_4, List.append_nil, pk, n_5, n_6] at F)
    refine l_op 2 rfl rfl rfl rfl rfl ?_
    refine l_op 0 rfl rfl rfl rfl rfl ?_
    refine l_nil (WK.nx ‹_› (SeqK.nx ‹_› (k_ret ?_)))
    refine FunK.rt (by assumption) rfl ?_
    -- leaf 1
    (have e : irr (decide (256 ≤ a ∧ a + n ≤ z.bs.length)) = irr (decide (a + n ≤ z.bs.length)) := by
       by_cases hq : a + n ≤ z.bs.length
       · rw [decide_eq_true hq, decide_eq_true ⟨by omega, hq⟩]
       · rw [decide_eq_false hq, decide_eq_false (fun k => hq k.2)]
     rw [e]; exact ⟨(), rfl, F, trivial⟩)
  replace hc1 := of_decide_eq_false ((irr_eq _).symm.trans hc1)
  iterate 4 refine l_s rfl rfl ?_
  refine l_op 2 rfl rfl rfl rfl rfl ?_
  refine l_op 0 rfl rfl rfl rfl rfl ?_
  refine l_nil (WK.nx ‹_› (SeqK.nx ‹_› (k_ret ?_)))
  refine FunK.rt (by assumption) rfl ?_
  -- leaf 2
  (have e : irr (decide (256 ≤ a ∧ a + n ≤ z.bs.length)) = false := by rw [irr_eq]; exact decide_eq_false (by omega)
   rw [e]; exact ⟨(), rfl, F, trivial⟩)

end Go.Proofs.YtocfmecenpeoiaaGreat
