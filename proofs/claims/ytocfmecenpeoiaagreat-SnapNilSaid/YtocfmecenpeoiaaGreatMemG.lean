/- A memory starts again, is loaded, by the program. No statement of the seat is proved in this text. -/
import Derived.Test.YtocfmecenpeoiaaGreatMemF
import Derived.Test.YtocfmecenpeoiaaGreatMemU
set_option linter.unusedVariables false
set_option linter.unusedSimpArgs false
set_option maxRecDepth 100000
set_option maxHeartbeats 4000000
namespace Go.Proofs.YtocfmecenpeoiaaGreat
open GAb Go

theorem minI (x y : Int) : (bif true then if x < y then x else y else if y < x then x else y) = min x y := by
  show (if x < y then x else y) = min x y
  split <;> omega
theorem become_call {O : Nat → Prop} {σ : AState} {m : Nat} {z : MZ} {bq bl bc : Nat} {b : List Int} (F : Facts O σ σ (mF m z ++ [own (some ⟨bq, 0, some 0⟩) bl bc 1 (u8l b)])) (ok : MOK z) (hbl : b.length = bl) (hb : bl ≤ 1048576) :
    SCall Tryz.prog O 120 [.pointer (some ⟨m, 0, none⟩), .slice (some ⟨bq, 0, some 0⟩) bl bc] σ (Ret O σ (fun (_ : Unit) => .tuple #[]) (fun _ => mF m (z.wg (bq, bc, bc) (mixB z.f1 z.t1 z.bs b))) fun _ => True) := by
  subst hbl
  replace F : Facts O σ σ [cel m (mC z), own z.ga 512 z.gc 1 (u8l smallB), own (some ⟨z.q, 0, some 0⟩) z.bs.length z.c 1 (u8l z.bs), cel z.h (hC z.h z.la z.lc 1048576 z.st z.en z.bl), own z.la z.bl.length z.lc 2 (rows eB z.bl), own (some ⟨bq, 0, some 0⟩) b.length bc 1 (u8l b)] := F
  have hr := ok.room
  have hsp := ok.span
  refine k_fun Tryz.func120 rfl (m := 52) rfl fun B hD Q K => ?_
  refine k_seq fun Q K => k_seq fun Q K => k_lin fun W K => ?_
  refine l_op 0 rfl rfl rfl rfl rfl ?_
  iterate 3 refine l_op 2 rfl rfl rfl rfl rfl ?_
  refine l_ldc F 0 rfl rfl rfl rfl rfl rfl rfl ?_
  refine l_op 0 rfl rfl rfl rfl rfl ?_
  refine l_nil (WK.nx ‹_› (SeqK.nx ‹_› ?_))
  refine k_block fun Q K => ?_
  rw [← mixB_start z.f1 z.bs b] at F
  refine k_loop (α := Int) (fun i s => Facts O σ s [cel m (mC z), own z.ga 512 z.gc 1 (u8l smallB), own (some ⟨z.q, 0, some 0⟩) z.bs.length z.c 1 (u8l z.bs), cel z.h (hC z.h z.la z.lc 1048576 z.st z.en z.bl), own z.la z.bl.length z.lc 2 (rows eB z.bl), own (some ⟨bq, 0, some 0⟩) b.length bc 1 (u8l (mixB z.f1 i z.bs b))] ∧ z.f1 ≤ i ∧ (i = z.f1 ∨ i ≤ z.t1)) (fun i => [(0, .pointer (some ⟨m, 0, none⟩)), (1, .slice (some ⟨bq, 0, some 0⟩) b.length bc), (4, .int .u64 i)]) (fun i => (b.length - i).toNat) z.f1 ⟨by rw [mixB_len] at F; exact F, by omega, .inl rfl⟩ (by repeat (first | exact trivial | refine And.intro rfl ?_)) ?_
  clear F
  rintro i env s Q K0 ⟨F, i1, i2⟩
  have hml := mixB_len z.f1 i z.bs b
  refine k_seq fun Q K => k_seq fun Q K => k_lin fun W K => ?_
  iterate 2 refine l_op 0 rfl rfl rfl rfl rfl ?_
  iterate 3 refine l_op 2 rfl rfl rfl rfl rfl ?_
  refine l_ldc F 0 rfl rfl rfl rfl rfl rfl rfl ?_
  refine l_cmp rfl rfl rfl rfl ?_
  refine l_op 0 rfl rfl rfl rfl rfl ?_
  refine l_guard rfl rfl rfl (fun hc1 => ?_) (fun hc1 => ?_)
  · replace hc1 := of_decide_eq_true ((irr_eq _).symm.trans hc1)
    iterate 2 refine l_op 0 rfl rfl rfl rfl rfl ?_
    refine l_op 2 rfl rfl rfl rfl rfl ?_
    refine l_op 0 rfl rfl rfl rfl rfl ?_
    iterate 2 refine l_op 2 rfl rfl rfl rfl rfl ?_
    refine l_ldc F 0 rfl rfl rfl rfl rfl rfl rfl ?_
    iterate 2 refine l_op 2 rfl rfl rfl rfl rfl ?_
    rw [minI]
    refine l_cu64 rfl rfl rfl (by omega) rfl ?_
    refine l_cmp rfl rfl rfl rfl ?_
    refine l_op 2 rfl rfl rfl rfl rfl ?_
    refine l_nil (WK.nx ‹_› (SeqK.nx ‹_› ?_))
    refine l_cond rfl rfl (fun hc2 => ?_) (fun hc2 => ?_)
    · replace hc2 := of_decide_eq_true ((irr_eq _).symm.trans hc2)
      refine k_skip (SeqK.nx ‹_› ?_)
      refine k_seq fun Q K => k_block fun Q K => k_seq fun Q K => k_lin fun W K => ?_
      refine l_op 0 rfl rfl rfl rfl rfl ?_
      iterate 2 refine l_op 2 rfl rfl rfl rfl rfl ?_
      refine l_ldca F 0 rfl rfl rfl rfl rfl rfl rfl ?_
      refine l_op 0 rfl rfl rfl rfl rfl ?_
      refine l_callp F rfl rfl (by kernel_rfl) rfl rfl has_call (fun _ s F _ => ?_)
      (try dsimp only [n_1, n_2, n_3, n_4, List.append_nil, pk, n_5, n_6] at F)
      refine l_nil (WK.nx ‹_› (SeqK.nx ‹_› ?_))
      refine l_cond rfl rfl (fun hc3 => ?_) (fun hc3 => ?_)
      · try simp only [i_1, i_2, i_3, i_4, i_5, ne_eq, i_6, i_7, i_8, i_9] at hc3
        refine k_lin fun W K => ?_
        iterate 3 refine l_op 0 rfl rfl rfl rfl rfl ?_
        iterate 2 refine l_op 2 rfl rfl rfl rfl rfl ?_
        refine l_ldc F 0 rfl rfl rfl rfl rfl rfl rfl ?_
        refine l_op 0 rfl rfl rfl rfl rfl ?_
        refine l_ixi rfl rfl rfl rfl rfl rfl (hb_of F ok 2 rfl) (by omega) (fun m45 b45 hA45 => ?_)
        refine l_ld0 rfl rfl rfl rfl rfl (by assumption) ?_
        refine l_ixo F 5 rfl rfl rfl rfl rfl rfl rfl (by omega) (fun m47 e47 ha47 hA47 => ?_)
        cases ha47
        refine l_sto (j := i.toNat * 1) (v := .int .u8 (z.bs.getD i.toNat 0)) F 5 rfl rfl rfl rfl rfl rfl rfl rfl (by omega) hD (fun s F => ?_)
        (try dsimp only [n_1, n_2, n_3, n_4, List.append_nil, pk, n_5, n_6] at F)
        refine l_nil (WK.nx ‹_› (BlkK.nx ‹_› (SeqK.nx ‹_› ?_)))
        refine k_lin fun W K => ?_
        refine l_op 0 rfl rfl rfl rfl rfl ?_
        refine l_au64 rfl rfl rfl (by omega) rfl ?_
        refine l_op 0 rfl rfl rfl rfl rfl ?_
        refine l_nil (WK.nx ‹_› ?_)
        first
        | (have e : (u8l (mixB z.f1 i z.bs b)).set (i.toNat * 1) (.int .u8 (z.bs.getD i.toNat 0)) = u8l (mixB z.f1 (i + 1) z.bs b) := by
             have hs := mixB_step (f := z.f1) (i := i.toNat) (old := z.bs) (b := b) (by omega) (by omega) (by omega)
             rw [show ((i.toNat : Nat) : Int) = i by omega] at hs
             rw [← hs, Nat.mul_one]
             exact List.map_set.symm
           rw [e] at F
           exact K0.nx (i + 1) (by repeat (first | exact trivial | refine And.intro rfl ?_)) ⟨F, by omega, by omega⟩ (by first | omega | (simp only; omega)))
      try simp only [i_1, i_2, i_3, i_4, i_5, ne_eq, i_6, i_7, i_8, i_9] at hc3
      exfalso; omega
    replace hc2 := of_decide_eq_false ((irr_eq _).symm.trans hc2)
    refine k_exit ?_
    refine SeqK.et (by assumption) ?_
    refine LoopK.et (by assumption) ?_
    refine BlkK.et (by assumption) ?_
    refine SeqK.nx ‹_› ?_
    refine k_lin fun W K => ?_
    iterate 2 refine l_op 0 rfl rfl rfl rfl rfl ?_
    iterate 2 refine l_op 2 rfl rfl rfl rfl rfl ?_
    refine l_stc F 0 rfl rfl rfl rfl rfl rfl rfl rfl rfl hD (fun s F => ?_)
    (try dsimp only [n_1, n_2, n_3, n_4, List.append_nil, pk, n_5, n_6] at F)
    refine l_nil (WK.nx ‹_› ?_)
    refine FunK.nx (by assumption) rfl ?_
    -- leaf 1
    first
    | (have e : mixB z.f1 i z.bs b = mixB z.f1 z.t1 z.bs b := mixB_end (fun k k0 k1 k2 => by omega)
       have hl := mixB_len z.f1 z.t1 z.bs b
       rw [e] at F
       refine ⟨(), rfl, ?_, trivial⟩
       show Facts O σ s [cel m [.int .u64 z.f1, .int .u64 z.t1, .int .u32 196867, .int .u32 256, .int .u32 512, .int .u32 768, .int .u32 256, .int .u32 36, .int .u32 0, .int .u32 1198488979, .slice z.ga 512 z.gc, .slice (some ⟨bq, 0, some 0⟩) (mixB z.f1 z.t1 z.bs b).length bc, .pointer (some ⟨z.h, 0, none⟩)], own z.ga 512 z.gc 1 (u8l smallB), own (some ⟨bq, 0, some 0⟩) (mixB z.f1 z.t1 z.bs b).length bc 1 (u8l (mixB z.f1 z.t1 z.bs b)), cel z.h (hC z.h z.la z.lc 1048576 z.st z.en z.bl), own z.la z.bl.length z.lc 2 (rows eB z.bl)]
       rw [hl]
       exact F.pick [0, 1, 5, 3, 4] (by decide))
  replace hc1 := of_decide_eq_false ((irr_eq _).symm.trans hc1)
  iterate 11 refine l_s rfl rfl ?_
  refine l_op 2 rfl rfl rfl rfl rfl ?_
  refine l_nil (WK.nx ‹_› (SeqK.nx ‹_› ?_))
  refine e_cond_f rfl rfl rfl ?_
  refine k_exit ?_
  refine SeqK.et (by assumption) ?_
  refine LoopK.et (by assumption) ?_
  refine BlkK.et (by assumption) ?_
  refine SeqK.nx ‹_› ?_
  refine k_lin fun W K => ?_
  iterate 2 refine l_op 0 rfl rfl rfl rfl rfl ?_
  iterate 2 refine l_op 2 rfl rfl rfl rfl rfl ?_
  refine l_stc F 0 rfl rfl rfl rfl rfl rfl rfl rfl rfl hD (fun s F => ?_)
  (try dsimp only [n_1, n_2, n_3, n_4, List.append_nil, pk, n_5, n_6] at F)
  refine l_nil (WK.nx ‹_› ?_)
  refine FunK.nx (by assumption) rfl ?_
  -- leaf 2
  first
  | (have e : mixB z.f1 i z.bs b = mixB z.f1 z.t1 z.bs b := mixB_end (fun k k0 k1 k2 => by omega)
     have hl := mixB_len z.f1 z.t1 z.bs b
     rw [e] at F
     refine ⟨(), rfl, ?_, trivial⟩
     show Facts O σ s [cel m [.int .u64 z.f1, .int .u64 z.t1, .int .u32 196867, .int .u32 256, .int .u32 512, .int .u32 768, .int .u32 256, .int .u32 36, .int .u32 0, .int .u32 1198488979, .slice z.ga 512 z.gc, .slice (some ⟨bq, 0, some 0⟩) (mixB z.f1 z.t1 z.bs b).length bc, .pointer (some ⟨z.h, 0, none⟩)], own z.ga 512 z.gc 1 (u8l smallB), own (some ⟨bq, 0, some 0⟩) (mixB z.f1 z.t1 z.bs b).length bc 1 (u8l (mixB z.f1 z.t1 z.bs b)), cel z.h (hC z.h z.la z.lc 1048576 z.st z.en z.bl), own z.la z.bl.length z.lc 2 (rows eB z.bl)]
     rw [hl]
     exact F.pick [0, 1, 5, 3, 4] (by decide))

/-- A memory that starts again. -/
structure RstR (z z' : MZ) : Prop where
  ok : MOK z'
  f1 : z'.f1 = z.f1
  t1 : z'.t1 = z.t1
  st : z'.st = 0
  bl : z'.bl = []
  bs : z'.bs = mixB z.f1 z.t1 z.bs firstB
/-- The same memory with a new heap. -/
abbrev MZ.wn (z : MZ) (h : Nat) (la : Option Addr) (lc : Nat) (st en : Int) (bl : List (Int × Int)) : MZ := { z with h := h, la := la, lc := lc, st := st, en := en, bl := bl }
theorem MOK.wn {z : MZ} (ok : MOK z) {h : Nat} {la : Option Addr} {lc : Nat} {st en : Int} {bl : List (Int × Int)} (hy : Ex la) (hh : HOK 1048576 st en bl) (hl : bl ≠ [] → 768 ≤ st) : MOK (z.wn h la lc st en bl) := by
  obtain ⟨h1, h2, h3, h4, h5, h6, h7⟩ := ok
  exact ⟨h1, h2, h3, h4, hh, hy, hl⟩
/-- A copy, its place known. -/
theorem cloneX_call {σ : AState} {a : Option Addr} {l c : Nat} {xs : List Int} (h1 : Old E0 σ a l c 1 (u8l xs)) (hl : l ≤ 1000000000) :
    SCall Tryz.prog E0 82 [.slice a l c] σ (Ret E0 σ (fun (y : Option Addr × Nat) => .slice y.1 l y.2) (fun y => [own y.1 l y.2 1 (u8l xs)]) fun y => Ex y.1) := by
  have hxl := h1.len8
  have F := Facts.nil E0 σ
  cases a with
  | none =>
    obtain ⟨rfl, rfl, hxs⟩ := Has.none h1.1
    obtain rfl : xs = [] := List.eq_nil_of_length_eq_zero hxl
    refine k_fun Tryz.func82 rfl (m := 8) rfl fun B hD Q K => ?_
    refine k_seq fun Q K => k_lin fun W K => ?_
    refine l_op 0 rfl rfl rfl rfl rfl ?_
    refine l_nil (WK.nx ‹_› (SeqK.nx ‹_› ?_))
    refine k_seq fun Q K => k_seq fun Q K => k_lin fun W K => ?_
    refine l_op 0 rfl rfl rfl rfl rfl ?_
    refine l_cmp rfl rfl rfl rfl ?_
    refine l_nil (WK.nx ‹_› (SeqK.nx ‹_› ?_))
    refine l_cond rfl rfl (fun hc1 => ?_) (fun hc1 => ?_)
    · simp only [irr_eq, beq_iff_eq, beq_eq_false_iff_ne, ne_eq, decide_eq_true_eq, decide_eq_false_iff_not] at hc1
      refine k_seq fun Q K => k_lin fun W K => ?_
      refine l_op 0 rfl rfl rfl rfl rfl ?_
      refine l_nil (WK.nx ‹_› (SeqK.nx ‹_› (k_ret (SeqK.rt ‹_› ?_))))
      refine FunK.rt (by assumption) rfl ?_
      -- leaf 1
      exact ⟨(none, 0), rfl, F.nilrow 1, .inl rfl⟩
    exact absurd ((irr_eq _).symm.trans hc1) (by decide)
  | some p =>
    refine k_fun Tryz.func82 rfl (m := 8) rfl fun B hD Q K => ?_
    refine k_seq fun Q K => k_lin fun W K => ?_
    refine l_op 0 rfl rfl rfl rfl rfl ?_
    refine l_nil (WK.nx ‹_› (SeqK.nx ‹_› ?_))
    refine k_seq fun Q K => k_seq fun Q K => k_lin fun W K => ?_
    refine l_op 0 rfl rfl rfl rfl rfl ?_
    refine l_cmp rfl rfl rfl rfl ?_
    refine l_nil (WK.nx ‹_› (SeqK.nx ‹_› ?_))
    refine l_cond rfl rfl (fun hc1 => ?_) (fun hc1 => ?_)
    · exact absurd ((irr_eq _).symm.trans hc1) (by decide)
    simp only [irr_eq, beq_iff_eq, beq_eq_false_iff_ne, ne_eq, decide_eq_true_eq, decide_eq_false_iff_not] at hc1
    refine k_skip (SeqK.nx ‹_› ?_)
    refine k_seq fun Q K => k_lin fun W K => ?_
    refine l_lit F rfl rfl rfl rfl (fun q5 s F => ?_)
    (try dsimp only [n_1, n_2, n_3, n_4, List.append_nil, pk, n_5, n_6] at F)
    refine l_op 0 rfl rfl rfl rfl rfl ?_
    refine l_appx (es := 1) F 0 rfl rfl rfl rfl rfl rfl rfl (.inr ⟨_, rfl⟩) rfl rfl (F.old h1) (ints_one _) rfl (by omega) hD (fun x2 c2 s hx2 F => ?_)
    (try dsimp only [n_1, n_2, n_3, n_4, List.append_nil, pk, n_5, n_6] at F)
    rw [Nat.zero_add] at F
    refine l_op 0 rfl rfl rfl rfl rfl ?_
    refine l_nil (WK.nx ‹_› (SeqK.nx ‹_› (k_ret ?_)))
    refine FunK.rt (by assumption) rfl ?_
    -- leaf 1
    exact ⟨(x2, c2), congrArg (fun k => Value.slice x2 k c2) (Nat.zero_add l), F, hx2⟩
theorem load_okR {st en : Int} {xs : List (Int × Int)} {r : HR} (hR : loadR 1048576 0 0 [] st en xs = r) (hX : BlkOK xs) (hs : U32 st) (he : U32 en) : HOK 1048576 r.st r.en r.bl := hR ▸ hok_load (hok_new _) hX hs he
theorem load_low {st en : Int} {xs : List (Int × Int)} {r : HR} (hR : loadR 1048576 0 0 [] st en xs = r) (h : 0 < xs.length → 768 ≤ st) : r.bl ≠ [] → 768 ≤ r.st := by
  subst hR
  unfold loadR
  intro hne
  (repeat' split) <;> first
    | (exfalso; simp_all; done)
    | exact h (List.length_pos_iff.2 (by simp_all))
theorem mload_call {O : Nat → Prop} {σ : AState} {m : Nat} {z : MZ} {ra la : Option Addr} {rl rc ll lc : Nat} {ram : List Int} {st : Int} {xs : List (Int × Int)} (F : Facts O σ σ (mF m z)) (ok : MOK z) (hram : Old O σ ra rl rc 1 (u8l ram)) (hB : Bytes ram) (hrl : rl ≤ 1000000) (hst : U32 st) (hll : xs.length = ll) (hl : Old O σ la ll lc 2 (rows eB xs)) (hX : BlkOK xs) :
    SCall Tryz.prog O 59 [.pointer (some ⟨m, 0, none⟩), .slice ra rl rc, .int .u32 st, .slice la ll lc] σ (Ret O σ (fun (y : Int × MZ) => .int .i64 y.1) (fun y => mF m y.2) fun y => MOK y.2) := by
  subst hll
  have hr := ok.room
  have hst' := hst
  obtain ⟨s0, s1⟩ := hst
  have hrl2 := hram.len8
  refine k_fun Tryz.func59 rfl (m := 101) rfl fun B hD Q K => ?_
  refine k_seq fun Q K => k_lin fun W K => ?_
  refine l_op 0 rfl rfl rfl rfl rfl ?_
  refine l_nil (WK.nx ‹_› (SeqK.nx ‹_› ?_))
  refine k_seq fun Q K => k_block fun Q K => k_seq fun Q K => k_lin fun W K => ?_
  refine l_op 0 rfl rfl rfl rfl rfl ?_
  refine l_cmp rfl rfl rfl rfl ?_
  refine l_op 0 rfl rfl rfl rfl rfl ?_
  refine l_nil (WK.nx ‹_› (SeqK.nx ‹_› ?_))
  refine l_cond rfl rfl (fun hc1 => ?_) (fun hc1 => ?_)
  · simp only [irr_eq, beq_iff_eq, beq_eq_false_iff_ne, ne_eq, decide_eq_true_eq, decide_eq_false_iff_not] at hc1
    cases hc1
  simp only [irr_eq, beq_iff_eq, beq_eq_false_iff_ne, ne_eq, decide_eq_true_eq, decide_eq_false_iff_not] at hc1
  refine k_seq fun Q K => k_lin fun W K => ?_
  refine l_op 0 rfl rfl rfl rfl rfl ?_
  refine l_op 2 rfl rfl rfl rfl rfl ?_
  refine l_cmp rfl rfl rfl rfl ?_
  refine l_op 0 rfl rfl rfl rfl rfl ?_
  refine l_nil (WK.nx ‹_› (SeqK.nx ‹_› ?_))
  refine l_cond rfl rfl (fun hc2 => ?_) (fun hc2 => ?_)
  · replace hc2 := of_decide_eq_true ((irr_eq _).symm.trans hc2)
    refine k_seq fun Q K => k_lin fun W K => ?_
    refine l_op 0 rfl rfl rfl rfl rfl ?_
    refine l_nil (WK.nx ‹_› (SeqK.nx ‹_› (k_ret (BlkK.rt ‹_› (SeqK.rt ‹_› ?_)))))
    refine FunK.rt (by assumption) rfl ?_
    -- leaf 1
    exact ⟨(_, z), rfl, F, ok⟩
  replace hc2 := of_decide_eq_false ((irr_eq _).symm.trans hc2)
  refine k_skip (BlkK.nx ‹_› (SeqK.nx ‹_› ?_))
  refine k_seq fun Q K => k_lin fun W K => ?_
  refine l_op 0 rfl rfl rfl rfl rfl ?_
  iterate 4 refine l_op 2 rfl rfl rfl rfl rfl ?_
  refine l_ldc F 0 rfl rfl rfl rfl rfl rfl rfl ?_
  refine l_cu64 rfl rfl rfl (by omega) rfl ?_
  refine l_op 0 rfl rfl rfl rfl rfl ?_
  refine l_op 2 rfl rfl rfl rfl rfl ?_
  refine l_cu64 rfl rfl rfl (by omega) rfl ?_
  refine l_au64 rfl rfl rfl (by omega) rfl ?_
  refine l_op 0 rfl rfl rfl rfl rfl ?_
  refine l_nil (WK.nx ‹_› (SeqK.nx ‹_› ?_))
  refine k_seq fun Q K => k_seq fun Q K => k_lin fun W K => ?_
  refine l_op 0 rfl rfl rfl rfl rfl ?_
  refine l_remn rfl rfl rfl rfl rfl (by omega) rfl ?_
  refine l_cmp rfl rfl rfl rfl ?_
  refine l_op 0 rfl rfl rfl rfl rfl ?_
  refine l_guard rfl rfl rfl (fun hc3 => ?_) (fun hc3 => ?_)
  · replace hc3 := bne_iff_ne.1 ((irr_eq _).symm.trans hc3)
    iterate 9 refine l_s rfl rfl ?_
    refine l_op 2 rfl rfl rfl rfl rfl ?_
    refine l_op 0 rfl rfl rfl rfl rfl ?_
    iterate 2 refine l_s rfl rfl ?_
    refine l_op 2 rfl rfl rfl rfl rfl ?_
    refine l_op 0 rfl rfl rfl rfl rfl ?_
    iterate 13 refine l_s rfl rfl ?_
    refine l_op 2 rfl rfl rfl rfl rfl ?_
    refine l_nil (WK.nx ‹_› (SeqK.nx ‹_› ?_))
    refine e_cond_t rfl rfl rfl ?_
    refine k_seq fun Q K => k_lin fun W K => ?_
    refine l_op 0 rfl rfl rfl rfl rfl ?_
    refine l_nil (WK.nx ‹_› (SeqK.nx ‹_› (k_ret (SeqK.rt ‹_› ?_))))
    refine FunK.rt (by assumption) rfl ?_
    -- leaf 2
    exact ⟨(_, z), rfl, F, ok⟩
  replace hc3 := bne_eq_false_iff_eq.1 ((irr_eq _).symm.trans hc3)
  iterate 2 refine l_op 0 rfl rfl rfl rfl rfl ?_
  iterate 4 refine l_op 2 rfl rfl rfl rfl rfl ?_
  refine l_ldc F 0 rfl rfl rfl rfl rfl rfl rfl ?_
  refine l_cu64 rfl rfl rfl (by omega) rfl ?_
  refine l_cmp rfl rfl rfl rfl ?_
  refine l_op 2 rfl rfl rfl rfl rfl ?_
  refine l_op 0 rfl rfl rfl rfl rfl ?_
  refine l_guard rfl rfl rfl (fun hc4 => ?_) (fun hc4 => ?_)
  · replace hc4 := of_decide_eq_true ((irr_eq _).symm.trans hc4)
    iterate 2 refine l_s rfl rfl ?_
    refine l_op 2 rfl rfl rfl rfl rfl ?_
    refine l_op 0 rfl rfl rfl rfl rfl ?_
    iterate 13 refine l_s rfl rfl ?_
    refine l_op 2 rfl rfl rfl rfl rfl ?_
    refine l_nil (WK.nx ‹_› (SeqK.nx ‹_› ?_))
    refine e_cond_t rfl rfl rfl ?_
    refine k_seq fun Q K => k_lin fun W K => ?_
    refine l_op 0 rfl rfl rfl rfl rfl ?_
    refine l_nil (WK.nx ‹_› (SeqK.nx ‹_› (k_ret (SeqK.rt ‹_› ?_))))
    refine FunK.rt (by assumption) rfl ?_
    -- leaf 3
    exact ⟨(_, z), rfl, F, ok⟩
  replace hc4 := of_decide_eq_false ((irr_eq _).symm.trans hc4)
  refine l_op 0 rfl rfl rfl rfl rfl ?_
  refine l_cmp rfl rfl rfl rfl ?_
  refine l_op 2 rfl rfl rfl rfl rfl ?_
  refine l_op 0 rfl rfl rfl rfl rfl ?_
  refine l_guard rfl rfl rfl (fun hc5 => ?_) (fun hc5 => ?_)
  · replace hc5 := of_decide_eq_true ((irr_eq _).symm.trans hc5)
    iterate 13 refine l_s rfl rfl ?_
    refine l_op 2 rfl rfl rfl rfl rfl ?_
    refine l_nil (WK.nx ‹_› (SeqK.nx ‹_› ?_))
    refine e_cond_t rfl rfl rfl ?_
    refine k_seq fun Q K => k_lin fun W K => ?_
    refine l_op 0 rfl rfl rfl rfl rfl ?_
    refine l_nil (WK.nx ‹_› (SeqK.nx ‹_› (k_ret (SeqK.rt ‹_› ?_))))
    refine FunK.rt (by assumption) rfl ?_
    -- leaf 4
    exact ⟨(_, z), rfl, F, ok⟩
  replace hc5 := of_decide_eq_false ((irr_eq _).symm.trans hc5)
  refine l_op 0 rfl rfl rfl rfl rfl ?_
  refine l_op 2 rfl rfl rfl rfl rfl ?_
  refine l_cmp rfl rfl rfl rfl ?_
  refine l_op 0 rfl rfl rfl rfl rfl ?_
  refine l_guard rfl rfl rfl (fun hc6 => ?_) (fun hc6 => ?_)
  · replace hc6 := of_decide_eq_true ((irr_eq _).symm.trans hc6)
    iterate 2 refine l_op 0 rfl rfl rfl rfl rfl ?_
    iterate 4 refine l_op 2 rfl rfl rfl rfl rfl ?_
    refine l_ldc F 0 rfl rfl rfl rfl rfl rfl rfl ?_
    refine l_cmp rfl rfl rfl rfl ?_
    iterate 2 refine l_op 2 rfl rfl rfl rfl rfl ?_
    refine l_nil (WK.nx ‹_› (SeqK.nx ‹_› ?_))
    refine l_cond rfl rfl (fun hc7 => ?_) (fun hc7 => ?_)
    · replace hc7 := of_decide_eq_true ((irr_eq _).symm.trans hc7)
      refine k_seq fun Q K => k_lin fun W K => ?_
      refine l_op 0 rfl rfl rfl rfl rfl ?_
      refine l_nil (WK.nx ‹_› (SeqK.nx ‹_› (k_ret (SeqK.rt ‹_› ?_))))
      refine FunK.rt (by assumption) rfl ?_
      -- leaf 5
      exact ⟨(_, z), rfl, F, ok⟩
    replace hc7 := of_decide_eq_false ((irr_eq _).symm.trans hc7)
    refine k_skip (SeqK.nx ‹_› ?_)
    refine k_seq fun Q K => k_lin fun W K => ?_
    refine l_op 0 rfl rfl rfl rfl rfl ?_
    refine l_c32 rfl rfl rfl (by omega) rfl ?_
    refine l_op 0 rfl rfl rfl rfl rfl ?_
    refine l_nil (WK.nx ‹_› (SeqK.nx ‹_› ?_))
    refine k_seq fun Q K => k_seq fun Q K => k_lin fun W K => ?_
    refine l_op 0 rfl rfl rfl rfl rfl ?_
    refine l_op 2 rfl rfl rfl rfl rfl ?_
    refine l_cmp rfl rfl rfl rfl ?_
    refine l_nil (WK.nx ‹_› (SeqK.nx ‹_› ?_))
    refine l_cond rfl rfl (fun hc8 => ?_) (fun hc8 => ?_)
    · replace hc8 := eq_of_beq ((irr_eq _).symm.trans hc8)
      exfalso; omega
    replace hc8 := ne_of_beq_false ((irr_eq _).symm.trans hc8)
    refine k_skip (SeqK.nx ‹_› ?_)
    refine k_seq fun Q K => k_lin fun W K => ?_
    refine l_callp F rfl rfl (by kernel_rfl) rfl rfl new_call (fun qh s F _ => ?_)
    replace F : Facts O σ s [cel m (mC z), own z.ga 512 z.gc 1 (u8l smallB), own (some ⟨z.q, 0, some 0⟩) z.bs.length z.c 1 (u8l z.bs), cel z.h (hC z.h z.la z.lc 1048576 z.st z.en z.bl), own z.la z.bl.length z.lc 2 (rows eB z.bl), cel qh (hC qh none 0 1048576 0 0 []), own none 0 0 2 (rows eB [])] := F
    (try dsimp only [n_1, n_2, n_3, n_4, List.append_nil, pk, n_5, n_6] at F)
    refine l_op 0 rfl rfl rfl rfl rfl ?_
    refine l_nil (WK.nx ‹_› (SeqK.nx ‹_› ?_))
    refine k_seq fun Q K => k_seq fun Q K => k_lin fun W K => ?_
    iterate 4 refine l_op 0 rfl rfl rfl rfl rfl ?_
    refine l_call F [5, 6] [0, 1, 2, 3, 4] (by decide) rfl rfl (by kernel_rfl) rfl rfl (load_call (F.sub [5, 6] (by decide)) (.inl rfl) (F.oldO hl [5, 6]) hX hst' ⟨by omega, by omega⟩) hD (fun y s F hy => ?_)
    generalize hR : loadR _ _ _ _ _ _ _ = r at F ⊢
    have hm1 := load_okR hR hX hst' ⟨by omega, by omega⟩
    have hm2 := load_low hR (fun h => by omega)
    (try dsimp only [n_1, n_2, n_3, n_4, List.append_nil, pk, n_5, n_6] at F)
    refine l_op 0 rfl rfl rfl rfl rfl ?_
    refine l_nil (WK.nx ‹_› (SeqK.nx ‹_› ?_))
    refine k_seq fun Q K => k_lin fun W K => ?_
    refine l_op 0 rfl rfl rfl rfl rfl ?_
    refine l_cmp rfl rfl rfl rfl ?_
    refine l_nil (WK.nx ‹_› (SeqK.nx ‹_› ?_))
    refine l_cond rfl rfl (fun hc9 => ?_) (fun hc9 => ?_)
    · replace hc9 := bne_iff_ne.1 ((irr_eq _).symm.trans hc9)
      refine k_seq fun Q K => k_lin fun W K => ?_
      iterate 2 refine l_op 0 rfl rfl rfl rfl rfl ?_
      refine l_nil (WK.nx ‹_› (SeqK.nx ‹_› (k_ret (SeqK.rt ‹_› ?_))))
      refine FunK.rt (by assumption) rfl ?_
      -- leaf 6
      exact ⟨(_, z), rfl, F.pick [0, 1, 2, 3, 4] (by decide), ok⟩
    replace hc9 := bne_eq_false_iff_eq.1 ((irr_eq _).symm.trans hc9)
    refine k_skip (SeqK.nx ‹_› ?_)
    refine k_seq fun Q K => k_lin fun W K => ?_
    iterate 2 refine l_op 0 rfl rfl rfl rfl rfl ?_
    iterate 2 refine l_op 2 rfl rfl rfl rfl rfl ?_
    refine l_stc F 0 rfl rfl rfl rfl rfl rfl rfl rfl rfl hD (fun s F => ?_)
    have ok1 : MOK (z.wn qh y.1 y.2 r.st r.en r.bl) := ok.wn hy hm1 hm2
    have F1 : Facts O σ s (mF m (z.wn qh y.1 y.2 r.st r.en r.bl)) := F.pick [0, 1, 2, 5, 6] (by decide)
    clear F
    have F := F1
    clear F1
    refine l_nil (WK.nx ‹_› (SeqK.nx ‹_› ?_))
    refine k_seq fun Q K => ?_
    refine k_linm [0, 1, 2, 3, 4, 5, 6, 8, 9, 10, 11, 12, 16, 7, 13, 14, 15, 17, 18] mixed (by kernel_rfl) (fun W K => ?_)
    try have hpS := F.pns
    refine l_op 0 rfl rfl rfl rfl rfl ?_
    iterate 2 refine l_op 2 rfl rfl rfl rfl rfl ?_
    refine l_op 0 rfl rfl rfl rfl rfl ?_
    iterate 3 refine l_op 2 rfl rfl rfl rfl rfl ?_
    refine l_op 0 rfl rfl rfl rfl rfl ?_
    iterate 4 refine l_op 2 rfl rfl rfl rfl rfl ?_
    refine l_op 0 rfl rfl rfl rfl rfl ?_
    refine l_ldc F 0 rfl rfl rfl rfl rfl rfl rfl ?_
    skip
    refine l_ldc F 0 rfl rfl rfl rfl rfl rfl rfl ?_
    skip
    refine l_slh (es := 1) rfl rfl rfl rfl rfl ⟨rfl, _, _, rfl, by omega, rfl⟩ (F.has 1 rfl) (by omega) ?_
    refine l_rs (by kernel_rfl) ?_
    refine l_callp F rfl rfl (by kernel_rfl) rfl rfl (cloneX_call (Old.pure ((F.has 1 rfl).upto8 (hi := 256) (by omega))) (by omega)) (fun yc s F hyc => ?_)
    (try dsimp only [n_1, n_2, n_3, n_4, List.append_nil, pk, n_5, n_6] at F)
    refine l_appx (es := 1) F 5 rfl rfl rfl rfl rfl rfl rfl hyc rfl rfl (F.old hram) (ints_one _) rfl (by omega) hD (fun x2 c2 s hx2 F => ?_)
    (try dsimp only [n_1, n_2, n_3, n_4, List.append_nil, pk, n_5, n_6] at F)
    have hbl : (smallB.take 256 ++ ram).length = 256 + rl := by rw [List.length_append, List.length_take, smallB_len, hrl2]; rfl
    obtain ⟨bq, rfl⟩ : ∃ bq, x2 = some ⟨bq, 0, some 0⟩ := hx2.elim (fun h => by
      subst h
      have := Has.none (F.has 5 rfl)
      omega) id
    rw [← show u8l (smallB.take 256 ++ ram) = u8l (smallB.take 256) ++ u8l ram from List.map_append] at F
    refine l_call F [0, 1, 2, 3, 4, 5] [] (by decide) rfl rfl (by kernel_rfl) rfl rfl (become_call (z := z.wn qh y.1 y.2 r.st r.en r.bl) (b := smallB.take 256 ++ ram) (F.sub [0, 1, 2, 3, 4, 5] (by decide)) ok1 hbl (by omega)) hD (fun u s F hu => ?_)
    refine l_nil (WK.nx ‹_› (SeqK.nx ‹_› ?_))
    refine k_seq fun Q K => k_lin fun W K => ?_
    refine l_op 0 rfl rfl rfl rfl rfl ?_
    refine l_nil (WK.nx ‹_› (SeqK.nx ‹_› (k_ret ?_)))
    refine FunK.rt (by assumption) rfl ?_
    -- leaf 7
    (have hml := mixB_len z.f1 z.t1 z.bs (smallB.take 256 ++ ram)
     have hc2 : (mixB z.f1 z.t1 z.bs (smallB.take 256 ++ ram)).length ≤ c2 := by
       obtain ⟨zs, hR, _⟩ := F.has (a := some ⟨bq, 0, some 0⟩) (l := (mixB z.f1 z.t1 z.bs (smallB.take 256 ++ ram)).length) (c := c2) (es := 1) (vs := u8l (mixB z.f1 z.t1 z.bs (smallB.take 256 ++ ram))) 2 rfl
       exact hR.size.2
     exact ⟨(0, (z.wn qh y.1 y.2 r.st r.en r.bl).wg (bq, c2, c2) (mixB z.f1 z.t1 z.bs (smallB.take 256 ++ ram))), rfl, F, ok1.wg (y := (bq, c2, c2)) (by show (mixB z.f1 z.t1 z.bs (smallB.take 256 ++ ram)).length ≤ c2 ∧ c2 ≤ c2 ∧ (mixB z.f1 z.t1 z.bs (smallB.take 256 ++ ram)).length ≤ 1048576; omega) (by omega) (mixB_bytes ok.byt (Bytes.appm (bytesm_mem.2 fun x hx => bytesm_mem.1 smallB_bytes x (List.mem_of_mem_take hx)) hB))⟩)
  replace hc6 := of_decide_eq_false ((irr_eq _).symm.trans hc6)
  iterate 8 refine l_s rfl rfl ?_
  iterate 2 refine l_op 2 rfl rfl rfl rfl rfl ?_
  refine l_nil (WK.nx ‹_› (SeqK.nx ‹_› ?_))
  refine e_cond_f rfl rfl rfl ?_
  refine k_skip (SeqK.nx ‹_› ?_)
  refine k_seq fun Q K => k_lin fun W K => ?_
  refine l_op 0 rfl rfl rfl rfl rfl ?_
  refine l_c32 rfl rfl rfl (by omega) rfl ?_
  refine l_op 0 rfl rfl rfl rfl rfl ?_
  refine l_nil (WK.nx ‹_› (SeqK.nx ‹_› ?_))
  refine k_seq fun Q K => k_seq fun Q K => k_lin fun W K => ?_
  refine l_op 0 rfl rfl rfl rfl rfl ?_
  refine l_op 2 rfl rfl rfl rfl rfl ?_
  refine l_cmp rfl rfl rfl rfl ?_
  refine l_nil (WK.nx ‹_› (SeqK.nx ‹_› ?_))
  refine l_cond rfl rfl (fun hc10 => ?_) (fun hc10 => ?_)
  · replace hc10 := eq_of_beq ((irr_eq _).symm.trans hc10)
    refine k_lin fun W K => ?_
    refine l_op 0 rfl rfl rfl rfl rfl ?_
    refine l_nil (WK.nx ‹_› (SeqK.nx ‹_› ?_))
    refine k_seq fun Q K => k_lin fun W K => ?_
    refine l_callp F rfl rfl (by kernel_rfl) rfl rfl new_call (fun qh s F _ => ?_)
    replace F : Facts O σ s [cel m (mC z), own z.ga 512 z.gc 1 (u8l smallB), own (some ⟨z.q, 0, some 0⟩) z.bs.length z.c 1 (u8l z.bs), cel z.h (hC z.h z.la z.lc 1048576 z.st z.en z.bl), own z.la z.bl.length z.lc 2 (rows eB z.bl), cel qh (hC qh none 0 1048576 0 0 []), own none 0 0 2 (rows eB [])] := F
    (try dsimp only [n_1, n_2, n_3, n_4, List.append_nil, pk, n_5, n_6] at F)
    refine l_op 0 rfl rfl rfl rfl rfl ?_
    refine l_nil (WK.nx ‹_› (SeqK.nx ‹_› ?_))
    refine k_seq fun Q K => k_seq fun Q K => k_lin fun W K => ?_
    iterate 4 refine l_op 0 rfl rfl rfl rfl rfl ?_
    refine l_call F [5, 6] [0, 1, 2, 3, 4] (by decide) rfl rfl (by kernel_rfl) rfl rfl (load_call (F.sub [5, 6] (by decide)) (.inl rfl) (F.oldO hl [5, 6]) hX hst' ⟨by omega, by omega⟩) hD (fun y s F hy => ?_)
    generalize hR : loadR _ _ _ _ _ _ _ = r at F ⊢
    have hm1 := load_okR hR hX hst' ⟨by omega, by omega⟩
    have hm2 := load_low hR (fun h => by omega)
    (try dsimp only [n_1, n_2, n_3, n_4, List.append_nil, pk, n_5, n_6] at F)
    refine l_op 0 rfl rfl rfl rfl rfl ?_
    refine l_nil (WK.nx ‹_› (SeqK.nx ‹_› ?_))
    refine k_seq fun Q K => k_lin fun W K => ?_
    refine l_op 0 rfl rfl rfl rfl rfl ?_
    refine l_cmp rfl rfl rfl rfl ?_
    refine l_nil (WK.nx ‹_› (SeqK.nx ‹_› ?_))
    refine l_cond rfl rfl (fun hc11 => ?_) (fun hc11 => ?_)
    · replace hc11 := bne_iff_ne.1 ((irr_eq _).symm.trans hc11)
      refine k_seq fun Q K => k_lin fun W K => ?_
      iterate 2 refine l_op 0 rfl rfl rfl rfl rfl ?_
      refine l_nil (WK.nx ‹_› (SeqK.nx ‹_› (k_ret (SeqK.rt ‹_› ?_))))
      refine FunK.rt (by assumption) rfl ?_
      -- leaf 8
      exact ⟨(_, z), rfl, F.pick [0, 1, 2, 3, 4] (by decide), ok⟩
    replace hc11 := bne_eq_false_iff_eq.1 ((irr_eq _).symm.trans hc11)
    refine k_skip (SeqK.nx ‹_› ?_)
    refine k_seq fun Q K => k_lin fun W K => ?_
    iterate 2 refine l_op 0 rfl rfl rfl rfl rfl ?_
    iterate 2 refine l_op 2 rfl rfl rfl rfl rfl ?_
    refine l_stc F 0 rfl rfl rfl rfl rfl rfl rfl rfl rfl hD (fun s F => ?_)
    have ok1 : MOK (z.wn qh y.1 y.2 r.st r.en r.bl) := ok.wn hy hm1 hm2
    have F1 : Facts O σ s (mF m (z.wn qh y.1 y.2 r.st r.en r.bl)) := F.pick [0, 1, 2, 5, 6] (by decide)
    clear F
    have F := F1
    clear F1
    refine l_nil (WK.nx ‹_› (SeqK.nx ‹_› ?_))
    refine k_seq fun Q K => ?_
    refine k_linm [0, 1, 2, 3, 4, 5, 6, 8, 9, 10, 11, 12, 16, 7, 13, 14, 15, 17, 18] mixed (by kernel_rfl) (fun W K => ?_)
    try have hpS := F.pns
    refine l_op 0 rfl rfl rfl rfl rfl ?_
    iterate 2 refine l_op 2 rfl rfl rfl rfl rfl ?_
    refine l_op 0 rfl rfl rfl rfl rfl ?_
    iterate 3 refine l_op 2 rfl rfl rfl rfl rfl ?_
    refine l_op 0 rfl rfl rfl rfl rfl ?_
    iterate 4 refine l_op 2 rfl rfl rfl rfl rfl ?_
    refine l_op 0 rfl rfl rfl rfl rfl ?_
    refine l_ldc F 0 rfl rfl rfl rfl rfl rfl rfl ?_
    skip
    refine l_ldc F 0 rfl rfl rfl rfl rfl rfl rfl ?_
    skip
    refine l_slh (es := 1) rfl rfl rfl rfl rfl ⟨rfl, _, _, rfl, by omega, rfl⟩ (F.has 1 rfl) (by omega) ?_
    refine l_rs (by kernel_rfl) ?_
    refine l_callp F rfl rfl (by kernel_rfl) rfl rfl (cloneX_call (Old.pure ((F.has 1 rfl).upto8 (hi := 256) (by omega))) (by omega)) (fun yc s F hyc => ?_)
    (try dsimp only [n_1, n_2, n_3, n_4, List.append_nil, pk, n_5, n_6] at F)
    refine l_appx (es := 1) F 5 rfl rfl rfl rfl rfl rfl rfl hyc rfl rfl (F.old hram) (ints_one _) rfl (by omega) hD (fun x2 c2 s hx2 F => ?_)
    (try dsimp only [n_1, n_2, n_3, n_4, List.append_nil, pk, n_5, n_6] at F)
    have hbl : (smallB.take 256 ++ ram).length = 256 + rl := by rw [List.length_append, List.length_take, smallB_len, hrl2]; rfl
    obtain ⟨bq, rfl⟩ : ∃ bq, x2 = some ⟨bq, 0, some 0⟩ := hx2.elim (fun h => by
      subst h
      have := Has.none (F.has 5 rfl)
      omega) id
    rw [← show u8l (smallB.take 256 ++ ram) = u8l (smallB.take 256) ++ u8l ram from List.map_append] at F
    refine l_call F [0, 1, 2, 3, 4, 5] [] (by decide) rfl rfl (by kernel_rfl) rfl rfl (become_call (z := z.wn qh y.1 y.2 r.st r.en r.bl) (b := smallB.take 256 ++ ram) (F.sub [0, 1, 2, 3, 4, 5] (by decide)) ok1 hbl (by omega)) hD (fun u s F hu => ?_)
    refine l_nil (WK.nx ‹_› (SeqK.nx ‹_› ?_))
    refine k_seq fun Q K => k_lin fun W K => ?_
    refine l_op 0 rfl rfl rfl rfl rfl ?_
    refine l_nil (WK.nx ‹_› (SeqK.nx ‹_› (k_ret ?_)))
    refine FunK.rt (by assumption) rfl ?_
    -- leaf 9
    (have hml := mixB_len z.f1 z.t1 z.bs (smallB.take 256 ++ ram)
     have hc2 : (mixB z.f1 z.t1 z.bs (smallB.take 256 ++ ram)).length ≤ c2 := by
       obtain ⟨zs, hR, _⟩ := F.has (a := some ⟨bq, 0, some 0⟩) (l := (mixB z.f1 z.t1 z.bs (smallB.take 256 ++ ram)).length) (c := c2) (es := 1) (vs := u8l (mixB z.f1 z.t1 z.bs (smallB.take 256 ++ ram))) 2 rfl
       exact hR.size.2
     exact ⟨(0, (z.wn qh y.1 y.2 r.st r.en r.bl).wg (bq, c2, c2) (mixB z.f1 z.t1 z.bs (smallB.take 256 ++ ram))), rfl, F, ok1.wg (y := (bq, c2, c2)) (by show (mixB z.f1 z.t1 z.bs (smallB.take 256 ++ ram)).length ≤ c2 ∧ c2 ≤ c2 ∧ (mixB z.f1 z.t1 z.bs (smallB.take 256 ++ ram)).length ≤ 1048576; omega) (by omega) (mixB_bytes ok.byt (Bytes.appm (bytesm_mem.2 fun x hx => bytesm_mem.1 smallB_bytes x (List.mem_of_mem_take hx)) hB))⟩)
  replace hc10 := ne_of_beq_false ((irr_eq _).symm.trans hc10)
  exfalso; omega

end Go.Proofs.YtocfmecenpeoiaaGreat
