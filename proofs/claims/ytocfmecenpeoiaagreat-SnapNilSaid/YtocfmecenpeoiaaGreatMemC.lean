/- A memory grows, starts again, keeps what is protected, by the program. No statement of the seat is proved in this text. -/
import Derived.Test.YtocfmecenpeoiaaGreatMemB
set_option linter.unusedVariables false
set_option linter.unusedSimpArgs false
set_option maxRecDepth 100000
set_option maxHeartbeats 4000000
namespace GAb
open Go
/-- Of 'x[:h:m]': where it is read from. -/
def slm0E (P : Program) (o : Oper) : Option (Operand × Operand × Operand × Nat) :=
  match o.op with
  | .slice t x none (some hi) (some mx) => match P.underlying t with
    | some (.slice elem) => match okx x, tsz P elem with
      | true, some k => some (x, hi, mx, k)
      | _, _ => none
    | _ => none
  | _ => none
theorem l_slm0 {P : Program} {B : Base} {n : Nat} {all : Array Oper} {W : Pn → Env → AState → Prop} {pn : Pn} {env : Env} {σ : AState} {o : Oper} {rest : List Oper} {d : Option Nat} {x hi mx : Operand} {es len cap h m b ofs : Nat} {e : Option Nat} (hs : slm0E P o = some (x, hi, mx, es)) (hw : wantedE all n o env = true) (hd : dsto o = some d)
    (hx : look n env x = .slice (some ⟨b, ofs, e⟩) len cap) (hh : Bnd n env (some hi) len h) (hm : Bnd n env (some mx) cap m) (hb : h ≤ m ∧ m ≤ cap)
    (hk : Lin P B all W n pn rest (upd env d (.slice (some ⟨b, ofs + 0 * es, some 0⟩) (h - 0) (m - 0))) σ) : Lin P B all W n pn (o :: rest) env σ := by
  have hl : Bnd n env none 0 0 := rfl
  obtain ⟨vl, l1, l2⟩ := hl.opt
  obtain ⟨vh, l3, l4⟩ := hh.opt
  obtain ⟨vm, l5, l6⟩ := hm.opt
  refine l_p hw hd (v := _) ?_ (by unfold slm0E at hs; unfold rbE; split at hs <;> first | (rename_i ho; rw [ho]) | cases hs) hk
  unfold slm0E at hs
  split at hs
  · rename_i t x' hi' mx' ho
    split at hs
    · rename_i elem hu
      split at hs
      · rename_i k hxx hk'
        injection hs with hs
        injection hs with e1 hs
        injection hs with e3 hs
        injection hs with e4 e5
        subst e1; subst e3; subst e4; subst e5
        have hvh : vh.isSome = true := by
          cases vh with
          | some _ => rfl
          | none => obtain ⟨k1, k', i', k2, _⟩ := hh; simp [aopt, look_aval k1, k2] at l3
        have hvm : ∃ z, vm = some z := by
          cases vm with
          | some z => exact ⟨z, rfl⟩
          | none => obtain ⟨k1, k', i', k2, _⟩ := hm; simp [aopt, look_aval k1, k2] at l5
        obtain ⟨z, rfl⟩ := hvm
        unfold aop
        simp only [ho, look_aval hxx, hx, l1, l3, l5]
        unfold aSlice
        simp only [hu, l2, l4, l6, hk']
        rw [if_pos ⟨Nat.zero_le _, hb⟩]
        simp only [hvh, if_true]
      · cases hs
    · cases hs
  · cases hs
end GAb
namespace Go.Proofs.YtocfmecenpeoiaaGreat
open GAb Go

def growB (bs : List Int) (n : Nat) : List Int := if n ≤ bs.length then bs.take n else bs ++ List.replicate (n - bs.length) 0
theorem growB_len (bs : List Int) (n : Nat) : (growB bs n).length = n := by
  unfold growB
  split
  · rw [List.length_take]; omega
  · rw [List.length_append, List.length_replicate]; omega
theorem growB_bytes {bs : List Int} (h : Bytes bs) (n : Nat) : Bytes (growB bs n) := by
  rw [bytesm_mem] at *
  intro x hx
  unfold growB at hx
  split at hx
  · exact h x (List.mem_of_mem_take hx)
  · rcases List.mem_append.1 hx with h1 | h1
    · exact h x h1
    · rw [(List.mem_replicate.1 h1).2]; exact ⟨Int.le_refl _, by decide⟩
/-- The same memory with its bytes elsewhere. -/
abbrev MZ.wg (z : MZ) (y : Nat × Nat × Nat) (bs : List Int) : MZ := { z with q := y.1, cb := y.2.1, c := y.2.2, bs := bs }
theorem MOK.wg {z : MZ} (ok : MOK z) {y : Nat × Nat × Nat} {bs : List Int} (hr : bs.length ≤ y.2.1 ∧ y.2.1 ≤ y.2.2 ∧ bs.length ≤ 1048576) (hs : 768 ≤ bs.length ∧ bs.length % 256 = 0) (hB : Bytes bs) : MOK (z.wg y bs) := by
  obtain ⟨h1, h2, h3, h4, h5, h6, h7⟩ := ok
  exact ⟨h1, hr, hs, hB, h5, h6, h7⟩
theorem grow_call {O : Nat → Prop} {σ : AState} {m : Nat} {z : MZ} {n : Int} (F : Facts O σ σ (mF m z)) (ok : MOK z) (hn : 0 ≤ n ∧ n ≤ 1048576) :
    SCall Tryz.prog O 100 [.pointer (some ⟨m, 0, none⟩), .int .u32 n] σ (Ret O σ (fun (y : Nat × Nat × Nat) => .tuple #[]) (fun y => mF m (z.wg y (growB z.bs n.toNat))) fun y => (growB z.bs n.toNat).length ≤ y.2.1 ∧ y.2.1 ≤ y.2.2 ∧ (growB z.bs n.toNat).length ≤ 1048576) := by
  have hr := ok.room
  have hgl := growB_len z.bs n.toNat
  have hbl := F.len8 2 rfl
  refine k_fun Tryz.func100 rfl (m := 35) rfl fun B hD Q K => ?_
  refine k_seq fun Q K => k_seq fun Q K => k_lin fun W K => ?_
  refine l_op 0 rfl rfl rfl rfl rfl ?_
  refine l_c64 rfl rfl rfl (by omega) rfl ?_
  refine l_op 0 rfl rfl rfl rfl rfl ?_
  iterate 2 refine l_op 2 rfl rfl rfl rfl rfl ?_
  refine l_ldc F 0 rfl rfl rfl rfl rfl rfl rfl ?_
  refine l_op 2 rfl rfl rfl rfl rfl ?_
  refine l_cmp rfl rfl rfl rfl ?_
  refine l_nil (WK.nx ‹_› (SeqK.nx ‹_› ?_))
  refine l_cond rfl rfl (fun hc1 => ?_) (fun hc1 => ?_)
  · replace hc1 := of_decide_eq_true ((irr_eq _).symm.trans hc1)
    refine k_seq fun Q K => k_lin fun W K => ?_
    iterate 2 refine l_op 0 rfl rfl rfl rfl rfl ?_
    iterate 2 refine l_op 2 rfl rfl rfl rfl rfl ?_
    refine l_ldc F 0 rfl rfl rfl rfl rfl rfl rfl ?_
    iterate 2 refine l_op 0 rfl rfl rfl rfl rfl ?_
    refine l_slm0 (es := 1) (h := n.toNat) (m := n.toNat) rfl rfl rfl rfl ⟨rfl, _, _, rfl, by omega, rfl⟩ ⟨rfl, _, _, rfl, by omega, rfl⟩ (by omega) ?_
    iterate 2 refine l_op 2 rfl rfl rfl rfl rfl ?_
    refine l_stc F 0 rfl rfl rfl rfl rfl rfl rfl rfl rfl hD (fun s F => ?_)
    (try dsimp only [n_1, n_2, n_3, n_4, List.append_nil, pk, n_5, n_6] at F)
    refine l_nil (WK.nx ‹_› (SeqK.nx ‹_› (k_ret (SeqK.rt ‹_› ?_))))
    refine FunK.rt (by assumption) rfl ?_
    -- leaf 1
    (have hle : n.toNat ≤ z.bs.length := by omega
     have e : growB z.bs n.toNat = z.bs.take n.toNat := if_pos hle
     have F2 := Facts.upto (F := F) 2 rfl (h := n.toNat) (by omega)
     have e3 : (u8l z.bs).take (n.toNat * 1) = u8l (growB z.bs n.toNat) := by rw [Nat.mul_one, ← List.map_take, ← e]
     rw [e3] at F2
     refine ⟨(z.q, n.toNat, z.c), rfl, ?_, by dsimp only; omega⟩
     show Facts O σ s [cel m [.int .u64 z.f1, .int .u64 z.t1, .int .u32 196867, .int .u32 256, .int .u32 512, .int .u32 768, .int .u32 256, .int .u32 36, .int .u32 0, .int .u32 1198488979, .slice z.ga 512 z.gc, .slice (some ⟨z.q, 0, some 0⟩) (growB z.bs n.toNat).length n.toNat, .pointer (some ⟨z.h, 0, none⟩)], own z.ga 512 z.gc 1 (u8l smallB), own (some ⟨z.q, 0, some 0⟩) (growB z.bs n.toNat).length z.c 1 (u8l (growB z.bs n.toNat)), cel z.h (hC z.h z.la z.lc 1048576 z.st z.en z.bl), own z.la z.bl.length z.lc 2 (rows eB z.bl)]
     rw [hgl]
     exact F2.pick [0, 1, 2, 3, 4] (by decide))
  replace hc1 := of_decide_eq_false ((irr_eq _).symm.trans hc1)
  refine k_skip (SeqK.nx ‹_› ?_)
  refine k_seq fun Q K => k_lin fun W K => ?_
  refine l_op 0 rfl rfl rfl rfl rfl ?_
  refine l_mk F rfl rfl rfl rfl rfl rfl rfl (by omega) (fun q24 s F => ?_)
  (try dsimp only [n_1, n_2, n_3, n_4, List.append_nil, pk, n_5, n_6] at F)
  refine l_op 0 rfl rfl rfl rfl rfl ?_
  refine l_nil (WK.nx ‹_› (SeqK.nx ‹_› ?_))
  refine k_seq fun Q K => k_lin fun W K => ?_
  iterate 2 refine l_op 0 rfl rfl rfl rfl rfl ?_
  iterate 2 refine l_op 2 rfl rfl rfl rfl rfl ?_
  refine l_ldc F 0 rfl rfl rfl rfl rfl rfl rfl ?_
  refine l_cp (es := 1) F 5 rfl rfl rfl rfl rfl rfl rfl (hb_of F ok 2 rfl) (ints_one _) hD (fun s F => ?_)
  (try dsimp only [n_1, n_2, n_3, n_4, List.append_nil, pk, n_5, n_6] at F)
  refine l_nil (WK.nx ‹_› (SeqK.nx ‹_› ?_))
  refine k_lin fun W K => ?_
  iterate 2 refine l_op 0 rfl rfl rfl rfl rfl ?_
  iterate 2 refine l_op 2 rfl rfl rfl rfl rfl ?_
  refine l_stc F 0 rfl rfl rfl rfl rfl rfl rfl rfl rfl hD (fun s F => ?_)
  (try dsimp only [n_1, n_2, n_3, n_4, List.append_nil, pk, n_5, n_6] at F)
  refine l_nil (WK.nx ‹_› ?_)
  refine FunK.nx (by assumption) rfl ?_
  -- leaf 2
  (have hle : ¬ n.toNat ≤ z.bs.length := by omega
   have e : growB z.bs n.toNat = z.bs ++ List.replicate (n.toNat - z.bs.length) 0 := if_neg hle
   have e2 : splice (zrow [Value.int IntKind.u8 0] n.toNat) 0 (List.take (min z.bs.length n.toNat * 1) (u8l z.bs)) = u8l (growB z.bs n.toNat) := by
     rw [e, zrow_one, List.take_of_length_le (by rw [List.length_map]; omega)]
     unfold splice
     rw [List.take_zero, List.nil_append, List.length_map, Nat.zero_add, List.drop_replicate]
     show _ = List.map _ (_ ++ _)
     rw [List.map_append, List.map_replicate]
   rw [e2] at F
   refine ⟨(q24, n.toNat, n.toNat), rfl, ?_, by dsimp only; omega⟩
   show Facts O σ s [cel m [.int .u64 z.f1, .int .u64 z.t1, .int .u32 196867, .int .u32 256, .int .u32 512, .int .u32 768, .int .u32 256, .int .u32 36, .int .u32 0, .int .u32 1198488979, .slice z.ga 512 z.gc, .slice (some ⟨q24, 0, some 0⟩) (growB z.bs n.toNat).length n.toNat, .pointer (some ⟨z.h, 0, none⟩)], own z.ga 512 z.gc 1 (u8l smallB), own (some ⟨q24, 0, some 0⟩) (growB z.bs n.toNat).length n.toNat 1 (u8l (growB z.bs n.toNat)), cel z.h (hC z.h z.la z.lc 1048576 z.st z.en z.bl), own z.la z.bl.length z.lc 2 (rows eB z.bl)]
   rw [hgl]
   exact F.pick [0, 1, 5, 3, 4] (by decide))
theorem size_call {σ : AState} {m : Nat} {z : MZ} (h : OldM σ m z) (ok : MOK z) :
    SCall Tryz.prog E0 40 [.pointer (some ⟨m, 0, none⟩)] σ (Ret E0 σ (fun (_ : Unit) => .int .u32 z.bs.length) (fun _ => []) fun _ => True) := by
  have hr := ok.room
  refine k_fun Tryz.func40 rfl (m := 12) rfl fun B hD Q K => ?_
  have F := Facts.nil E0 σ
  have hc := h.cel
  refine k_seq fun Q K => k_lin fun W K => ?_
  refine l_op 0 rfl rfl rfl rfl rfl ?_
  refine l_nil (WK.nx ‹_› (SeqK.nx ‹_› ?_))
  refine k_seq fun Q K => k_seq fun Q K => k_lin fun W K => ?_
  refine l_op 0 rfl rfl rfl rfl rfl ?_
  refine l_cmp rfl rfl rfl rfl ?_
  refine l_nil (WK.nx ‹_› (SeqK.nx ‹_› ?_))
  refine l_cond rfl rfl (fun hc1 => ?_) (fun hc1 => ?_)
  · simp only [irr_eq, beq_iff_eq, beq_eq_false_iff_ne, ne_eq, decide_eq_true_eq, decide_eq_false_iff_not] at hc1
    refine k_seq fun Q K => k_lin fun W K => ?_
    refine l_op 0 rfl rfl rfl rfl rfl ?_
    refine l_nil (WK.nx ‹_› (SeqK.nx ‹_› (k_ret (SeqK.rt ‹_› ?_))))
    refine FunK.rt (by assumption) rfl ?_
    -- leaf 1
    exact absurd hc1 (by decide)
  simp only [irr_eq, beq_iff_eq, beq_eq_false_iff_ne, ne_eq, decide_eq_true_eq, decide_eq_false_iff_not] at hc1
  refine k_skip (SeqK.nx ‹_› ?_)
  refine k_seq fun Q K => k_lin fun W K => ?_
  refine l_op 0 rfl rfl rfl rfl rfl ?_
  iterate 3 refine l_op 2 rfl rfl rfl rfl rfl ?_
  refine l_ldo F (by assumption) rfl rfl rfl rfl rfl rfl ?_
  refine l_op 2 rfl rfl rfl rfl rfl ?_
  refine l_c32 rfl rfl rfl (by omega) rfl ?_
  refine l_op 0 rfl rfl rfl rfl rfl ?_
  refine l_nil (WK.nx ‹_› (SeqK.nx ‹_› (k_ret ?_)))
  refine FunK.rt (by assumption) rfl ?_
  -- leaf 2
  exact ⟨(), rfl, F, trivial⟩
theorem mbytes_call {σ : AState} {m : Nat} {z : MZ} (h : OldM σ m z) (ok : MOK z) :
    SCall Tryz.prog E0 32 [.pointer (some ⟨m, 0, none⟩)] σ (Ret E0 σ (fun (y : Option Addr × Nat) => .slice y.1 z.bs.length y.2) (fun y => [own y.1 z.bs.length y.2 1 (u8l z.bs)]) fun _ => True) := by
  have hr := ok.room
  refine k_fun Tryz.func32 rfl (m := 11) rfl fun B hD Q K => ?_
  have F := Facts.nil E0 σ
  have hc := h.cel
  refine k_seq fun Q K => k_lin fun W K => ?_
  refine l_op 0 rfl rfl rfl rfl rfl ?_
  refine l_nil (WK.nx ‹_› (SeqK.nx ‹_› ?_))
  refine k_seq fun Q K => k_seq fun Q K => k_lin fun W K => ?_
  refine l_op 0 rfl rfl rfl rfl rfl ?_
  refine l_cmp rfl rfl rfl rfl ?_
  refine l_nil (WK.nx ‹_› (SeqK.nx ‹_› ?_))
  refine l_cond rfl rfl (fun hc1 => ?_) (fun hc1 => ?_)
  · simp only [irr_eq, beq_iff_eq, beq_eq_false_iff_ne, ne_eq, decide_eq_true_eq, decide_eq_false_iff_not] at hc1
    refine k_seq fun Q K => k_lin fun W K => ?_
    refine l_op 0 rfl rfl rfl rfl rfl ?_
    refine l_nil (WK.nx ‹_› (SeqK.nx ‹_› (k_ret (SeqK.rt ‹_› ?_))))
    refine FunK.rt (by assumption) rfl ?_
    -- leaf 1
    exact absurd hc1 (by decide)
  simp only [irr_eq, beq_iff_eq, beq_eq_false_iff_ne, ne_eq, decide_eq_true_eq, decide_eq_false_iff_not] at hc1
  refine k_skip (SeqK.nx ‹_› ?_)
  refine k_seq fun Q K => k_lin fun W K => ?_
  refine l_op 0 rfl rfl rfl rfl rfl ?_
  iterate 3 refine l_op 2 rfl rfl rfl rfl rfl ?_
  refine l_ldo F (by assumption) rfl rfl rfl rfl rfl rfl ?_
  refine l_callp F rfl rfl (by kernel_rfl) rfl rfl (clone_call (Old.pure (F.old h.byt)) (by omega)) (fun y s F _ => ?_)
  (try dsimp only [n_1, n_2, n_3, n_4, List.append_nil, pk, n_5, n_6] at F)
  refine l_op 0 rfl rfl rfl rfl rfl ?_
  refine l_nil (WK.nx ‹_› (SeqK.nx ‹_› (k_ret ?_)))
  refine FunK.rt (by assumption) rfl ?_
  -- leaf 2
  exact ⟨y, rfl, F, trivial⟩
/-- What a game begins with. -/
def firstB : List Int := smallB ++ List.replicate 256 0
theorem firstB_len : firstB.length = 768 := by kernel_rfl
theorem first_call {σ : AState} {m : Nat} {ga : Option Addr} {gc : Nat} {f1 t1 : Int} {v w : Value} (hc : OldC E0 σ m [.int .u64 f1, .int .u64 t1, .int .u32 196867, .int .u32 256, .int .u32 512, .int .u32 768, .int .u32 256, .int .u32 36, .int .u32 0, .int .u32 1198488979, .slice ga 512 gc, v, w]) (hg : Old E0 σ ga 512 gc 1 (u8l smallB)) :
    SCall Tryz.prog E0 104 [.pointer (some ⟨m, 0, none⟩)] σ (Ret E0 σ (fun (q : Nat) => .slice (some ⟨q, 0, some 0⟩) 768 768) (fun q => [own (some ⟨q, 0, some 0⟩) 768 768 1 (u8l firstB)]) fun _ => True) := by
  refine k_fun Tryz.func104 rfl (m := 17) rfl fun B hD Q K => ?_
  have F := Facts.nil E0 σ
  refine k_seq fun Q K => k_lin fun W K => ?_
  refine l_op 0 rfl rfl rfl rfl rfl ?_
  refine l_nil (WK.nx ‹_› (SeqK.nx ‹_› ?_))
  refine k_seq fun Q K => k_lin fun W K => ?_
  refine l_op 0 rfl rfl rfl rfl rfl ?_
  iterate 3 refine l_op 2 rfl rfl rfl rfl rfl ?_
  refine l_ldo F (by assumption) rfl rfl rfl rfl rfl rfl ?_
  refine l_mk F rfl rfl rfl rfl rfl rfl rfl (by omega) (fun q9 s F => ?_)
  (try dsimp only [n_1, n_2, n_3, n_4, List.append_nil, pk, n_5, n_6] at F)
  refine l_op 0 rfl rfl rfl rfl rfl ?_
  refine l_nil (WK.nx ‹_› (SeqK.nx ‹_› ?_))
  refine k_seq fun Q K => k_lin fun W K => ?_
  iterate 2 refine l_op 0 rfl rfl rfl rfl rfl ?_
  iterate 2 refine l_op 2 rfl rfl rfl rfl rfl ?_
  refine l_ldo F (by assumption) rfl rfl rfl rfl rfl rfl ?_
  refine l_cp (es := 1) F 0 rfl rfl rfl rfl rfl rfl rfl (F.old hg) (ints_one _) hD (fun s F => ?_)
  (try dsimp only [n_1, n_2, n_3, n_4, List.append_nil, pk, n_5, n_6] at F)
  refine l_nil (WK.nx ‹_› (SeqK.nx ‹_› ?_))
  refine k_seq fun Q K => k_lin fun W K => ?_
  iterate 2 refine l_op 0 rfl rfl rfl rfl rfl ?_
  refine l_nil (WK.nx ‹_› (SeqK.nx ‹_› (k_ret ?_)))
  refine FunK.rt (by assumption) rfl ?_
  -- leaf 1
  have e2 : splice (zrow [Value.int IntKind.u8 0] (Int.toNat 768)) 0 (List.take (min 512 (Int.toNat 768) * 1) (u8l smallB)) = u8l firstB := by
    have hl : (u8l smallB).length = 512 := by rw [List.length_map]; exact smallB_len
    unfold firstB
    rw [zrow_one, List.take_of_length_le (by rw [hl]; decide)]
    unfold splice
    rw [List.take_zero, List.nil_append, hl, Nat.zero_add, List.drop_replicate]
    show _ = List.map _ (_ ++ _)
    rw [List.map_append, List.map_replicate]
    rfl
  rw [e2] at F
  exact ⟨q9, rfl, F, trivial⟩
theorem protect_call {O : Nat → Prop} {σ : AState} {m : Nat} {z : MZ} {a n : Int} (F : Facts O σ σ (mF m z)) (ha : U32 a) (hn : U32 n) :
    SCall Tryz.prog O 20 [.pointer (some ⟨m, 0, none⟩), .int .u32 a, .int .u32 n] σ (Ret O σ (fun (_ : Unit) => .tuple #[]) (fun _ => mF m { z with f1 := a, t1 := a + n }) fun _ => True) := by
  obtain ⟨a0, a1⟩ := ha
  obtain ⟨n0, n1⟩ := hn
  refine k_fun Tryz.func20 rfl (m := 20) rfl fun B hD Q K => ?_
  refine k_seq fun Q K => k_lin fun W K => ?_
  refine l_op 0 rfl rfl rfl rfl rfl ?_
  refine l_cmp rfl rfl rfl rfl ?_
  refine l_nil (WK.nx ‹_› (SeqK.nx ‹_› ?_))
  refine l_cond rfl rfl (fun hc1 => ?_) (fun hc1 => ?_)
  · simp only [irr_eq, bne_iff_ne, bne_eq_false_iff_eq, ne_eq, decide_eq_true_eq, decide_eq_false_iff_not, Bool.not_eq_true', Bool.not_eq_false'] at hc1
    refine k_lin fun W K => ?_
    iterate 2 refine l_op 0 rfl rfl rfl rfl rfl ?_
    refine l_cu64 rfl rfl rfl (by omega) rfl ?_
    refine l_op 0 rfl rfl rfl rfl rfl ?_
    refine l_cu64 rfl rfl rfl (by omega) rfl ?_
    refine l_op 0 rfl rfl rfl rfl rfl ?_
    refine l_cu64 rfl rfl rfl (by omega) rfl ?_
    refine l_au64 rfl rfl rfl (by omega) rfl ?_
    refine l_bld rfl rfl rfl rfl ?_
    iterate 3 refine l_op 2 rfl rfl rfl rfl rfl ?_
    refine l_stca F 0 rfl rfl rfl rfl rfl rfl rfl rfl rfl rfl hD rfl (fun s F => ?_)
    (try dsimp only [n_1, n_2, n_3, n_4, List.append_nil, pk, n_5, n_6] at F)
    refine l_nil (WK.nx ‹_› ?_)
    refine FunK.nx (by assumption) rfl ?_
    -- leaf 1
    exact ⟨(), rfl, F, trivial⟩
  simp only [irr_eq, bne_iff_ne, bne_eq_false_iff_eq, ne_eq, decide_eq_true_eq, decide_eq_false_iff_not, Bool.not_eq_true', Bool.not_eq_false'] at hc1
  refine k_skip ?_
  refine FunK.nx (by assumption) rfl ?_
  -- leaf 2
  exact absurd hc1 (by decide)
/-- Protected bytes stay. -/
def mixB (f t : Int) (old b : List Int) : List Int := (List.range b.length).map fun (i : Nat) => if f ≤ i ∧ (i : Int) < t ∧ i < old.length then old.getD i 0 else b.getD i 0
theorem mixB_len (f t : Int) (old b : List Int) : (mixB f t old b).length = b.length := by simp [mixB]
theorem mixB_bytes {f t : Int} {old b : List Int} (h1 : Bytes old) (h2 : Bytes b) : Bytes (mixB f t old b) := by
  rw [bytesm_mem]
  intro x hx
  obtain ⟨i, _, rfl⟩ := List.mem_map.1 hx
  split
  · exact h1.at i
  · exact h2.at i

end Go.Proofs.YtocfmecenpeoiaaGreat
