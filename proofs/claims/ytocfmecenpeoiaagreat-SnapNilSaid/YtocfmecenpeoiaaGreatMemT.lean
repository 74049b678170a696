/- The small game is made, by the document. No statement of the seat is proved in this text. -/
import Derived.Test.YtocfmecenpeoiaaGreatMemS
import Derived.Test.YtocfmecenpeoiaaGreatAb34
set_option linter.unusedVariables false
set_option linter.unusedSimpArgs false
set_option maxRecDepth 100000
set_option maxHeartbeats 4000000
namespace Go.Proofs.YtocfmecenpeoiaaGreat
open GAb Go

def l9 : List Int := [196867, 256, 512, 768, 256, 36, 0, 0]
def mk9 (j : Nat) : List Int := [71, 108, 117, 108] ++ (l9.take j).flatMap fun x => putR x 4
theorem mk9_step {j : Nat} (h : j < 8) : mk9 j ++ putR (l9.getD j 0) 4 = mk9 (j + 1) := by
  unfold mk9
  rw [List.take_succ_eq_append_getElem (show j < l9.length from h), List.flatMap_append, ← List.append_assoc]
  simp [List.getD, show j < l9.length from h]
theorem mk9_len {j : Nat} (h : j ≤ 8) : (mk9 j).length = 4 + 4 * j := by
  have : j = 0 ∨ j = 1 ∨ j = 2 ∨ j = 3 ∨ j = 4 ∨ j = 5 ∨ j = 6 ∨ j = 7 ∨ j = 8 := by omega
  rcases this with rfl | rfl | rfl | rfl | rfl | rfl | rfl | rfl | rfl <;> rfl
theorem l9_u32 (j : Nat) : U32 (l9.getD j 0) := by
  by_cases h : j < 8
  · have : j = 0 ∨ j = 1 ∨ j = 2 ∨ j = 3 ∨ j = 4 ∨ j = 5 ∨ j = 6 ∨ j = 7 := by omega
    rcases this with rfl | rfl | rfl | rfl | rfl | rfl | rfl | rfl <;> exact ⟨by decide, by decide⟩
  · rw [List.getD, List.getElem?_eq_none (show l9.length ≤ j by show 8 ≤ j; omega)]; exact ⟨by decide, by decide⟩
@[irreducible] def b9 : List Int := mk9 8 ++ List.replicate 476 0
def st9 : Nat → List Int
  | 0 => b9
  | i + 1 => (st9 i).set (32 + i) ((putR 1198488979 4).getD i 0)
theorem b9_len : b9.length = 512 := by kernel_rfl
theorem st9_len : ∀ i, (st9 i).length = 512
  | 0 => b9_len
  | i + 1 => by show ((st9 i).set _ _).length = 512; rw [List.length_set]; exact st9_len i
theorem st9_end : st9 4 = smallB := by kernel_rfl
theorem b9_bytes : Bytes b9 := by
  have h : ∀ x ∈ b9, 0 ≤ x ∧ x ≤ 255 := by
    have h2 : b9.all (fun x => decide (0 ≤ x) && decide (x ≤ 255)) = true := by kernel_rfl
    intro x hx
    have := List.all_eq_true.1 h2 x hx
    rw [Bool.and_eq_true, decide_eq_true_eq, decide_eq_true_eq] at this
    exact this
  intro i hi
  have := h _ (List.getElem_mem hi)
  simpa [List.getD, hi] using this
theorem mk9_zero : mk9 0 = [71, 108, 117, 108] := rfl
theorem st9_zero : st9 0 = b9 := rfl
theorem st9_step (i : Nat) : (st9 i).set (32 + i) ((putR 1198488979 4).getD i 0) = st9 (i + 1) := rfl
theorem b9_sum : rsumF b9 512 = 1198488979 := by kernel_rfl
theorem own_some9 {O : Nat → Prop} {σ0 σ : AState} {L : List Fact} (F : Facts O σ0 σ L) (k : Nat) {a : Option Addr} {l c es : Nat} {vs : List Value} (hL : L[k]? = some (own a l c es vs)) (hl : 0 < l * es) : ∃ m e, a = some ⟨m, 0, e⟩ := by
  have hO : Own 0 σ a l c es vs := F.ho _ (List.mem_of_getElem? hL)
  obtain ⟨hH, ⟨h, h2⟩ | ⟨n', e2, cs, h, _⟩⟩ := hO
  · exfalso
    have hz := (F.has k hL).size
    subst h
    simp_all
  · exact ⟨_, _, h⟩
attribute [local irreducible] at9 rsumF mk9 st9
theorem make_call {σ : AState} {a : Option Addr} {c : Nat} (h : Old E0 σ a 476 c 1 (u8l (List.replicate 476 0))) :
    SCall Tryz.prog E0 105 [.agg #[.int .u32 196867, .int .u32 256, .int .u32 512, .int .u32 768, .int .u32 256, .int .u32 36, .int .u32 0, .int .u32 0], .slice a 476 c] σ (Ret E0 σ (fun (y : Option Addr × Nat) => .tuple #[.slice y.1 512 y.2, .int .i64 0]) (fun y => [own y.1 512 y.2 1 (u8l smallB)]) fun _ => True) := by
  refine k_fun Tryz.func105 rfl (m := 72) rfl fun B hD Q K => ?_
  have F := Facts.nil E0 σ
  refine k_seq fun Q K => k_lin fun W K => ?_
  refine l_bx F rfl rfl rfl rfl rfl (fun q2 s F => ?_)
  (try dsimp only [n_1, n_2, n_3, n_4, List.append_nil, pk, n_5, n_6] at F)
  iterate 2 refine l_op 0 rfl rfl rfl rfl rfl ?_
  refine l_nil (WK.nx ‹_› (SeqK.nx ‹_› ?_))
  refine k_seq fun Q K => k_lin fun W K => ?_
  refine l_lit F rfl rfl rfl rfl (fun q14 s F => ?_)
  (try dsimp only [n_1, n_2, n_3, n_4, List.append_nil, pk, n_5, n_6] at F)
  replace F : Facts E0 σ s [cel q2 [.int .u32 196867, .int .u32 256, .int .u32 512, .int .u32 768, .int .u32 256, .int .u32 36, .int .u32 0, .int .u32 0], own (some ⟨q14, 0, some 0⟩) 4 4 1 (u8l [71, 108, 117, 108])] := F
  refine l_cvs F 1 rfl rfl rfl rfl rfl hD ?_
  refine l_op 0 rfl rfl rfl rfl rfl ?_
  refine l_nil (WK.nx ‹_› (SeqK.nx ‹_› ?_))
  refine k_seq fun Q K => k_lin fun W K => ?_
  refine l_op 2 rfl rfl rfl rfl rfl ?_
  refine l_ldc F 0 rfl rfl rfl rfl rfl rfl rfl ?_
  refine l_op 2 rfl rfl rfl rfl rfl ?_
  refine l_ldc F 0 rfl rfl rfl rfl rfl rfl rfl ?_
  refine l_op 2 rfl rfl rfl rfl rfl ?_
  refine l_ldc F 0 rfl rfl rfl rfl rfl rfl rfl ?_
  refine l_op 2 rfl rfl rfl rfl rfl ?_
  refine l_ldc F 0 rfl rfl rfl rfl rfl rfl rfl ?_
  refine l_op 2 rfl rfl rfl rfl rfl ?_
  refine l_ldc F 0 rfl rfl rfl rfl rfl rfl rfl ?_
  refine l_op 2 rfl rfl rfl rfl rfl ?_
  refine l_ldc F 0 rfl rfl rfl rfl rfl rfl rfl ?_
  refine l_op 2 rfl rfl rfl rfl rfl ?_
  refine l_ldc F 0 rfl rfl rfl rfl rfl rfl rfl ?_
  refine l_lit (len := 8) (k := 1) (vs := [.int .u32 196867, .int .u32 256, .int .u32 512, .int .u32 768, .int .u32 256, .int .u32 36, .int .u32 0, .int .u32 0]) F rfl (by kernel_rfl) rfl rfl (fun q30 s F => ?_)
  (try dsimp only [n_1, n_2, n_3, n_4, List.append_nil, pk, n_5, n_6] at F)
  refine l_op 0 rfl rfl rfl rfl rfl ?_
  refine l_nil (WK.nx ‹_› (SeqK.nx ‹_› ?_))
  refine k_seq fun Q K => k_seq fun Q K => k_lin fun W K => ?_
  refine l_op 0 rfl rfl rfl rfl rfl ?_
  refine l_nil (WK.nx ‹_› (SeqK.nx ‹_› ?_))
  refine k_block fun Q K => ?_
  have F0 : Facts E0 σ s [own (some ⟨q30, 0, some 0⟩) 8 8 1 (l9.map (.int .u32)), own (some ⟨q14, 0, some 0⟩) 4 4 1 (u8l (mk9 0))] := by rw [mk9_zero]; exact F.pick [2, 1] (by decide)
  refine k_loop (α := Int × Option Addr × Nat × Nat) (fun ⟨i, b, l, d⟩ s => Facts E0 σ s [own (some ⟨q30, 0, some 0⟩) 8 8 1 (l9.map (.int .u32)), own b l d 1 (u8l (mk9 i.toNat))] ∧ 0 ≤ i ∧ i ≤ 8 ∧ (l : Int) = 4 + 4 * i) (fun ⟨i, b, l, d⟩ => [(1, .slice a 476 c), (6, .slice b l d), (7, .slice (some ⟨q30, 0, some 0⟩) 8 8), (8, .int .i64 i)]) (fun ⟨i, _⟩ => (8 - i).toNat) (0, some ⟨q14, 0, some 0⟩, 4, 4) ⟨F0, by omega, by omega, by omega⟩ (by repeat (first | exact trivial | refine And.intro rfl ?_)) ?_
  clear F F0
  rintro ⟨i, b, l, d⟩ env s Q K0 ⟨F, i0, i1, hl⟩
  have hml := mk9_len (j := i.toNat) (by omega)
  refine k_seq fun Q K => k_seq fun Q K => k_lin fun W K => ?_
  iterate 2 refine l_op 0 rfl rfl rfl rfl rfl ?_
  refine l_op 2 rfl rfl rfl rfl rfl ?_
  refine l_cmp rfl rfl rfl rfl ?_
  refine l_nil (WK.nx ‹_› (SeqK.nx ‹_› ?_))
  refine l_cond rfl rfl (fun hc1 => ?_) (fun hc1 => ?_)
  · replace hc1 := of_decide_eq_true ((irr_eq _).symm.trans hc1)
    have hUi := l9_u32 i.toNat
    have hpl : ((putR (l9.getD i.toNat 0) 4).length : Int) = 4 := putR_len (by omega)
    refine k_skip (SeqK.nx ‹_› ?_)
    refine k_seq fun Q K => k_block fun Q K => k_lin fun W K => ?_
    iterate 3 refine l_op 0 rfl rfl rfl rfl rfl ?_
    refine l_ixi rfl rfl rfl rfl rfl rfl (F.has 0 rfl) (by omega) (fun m40 b40 hA40 => ?_)
    refine l_ld0 rfl rfl rfl rfl rfl (by assumption) ?_
    refine l_callp F rfl rfl (by kernel_rfl) rfl rfl (rput_call (n := 4) hUi) (fun y s F _ => ?_)
    (try dsimp only [n_1, n_2, n_3, n_4, List.append_nil, pk, n_5, n_6] at F)
    refine l_app (es := 1) F 1 rfl rfl rfl rfl rfl rfl rfl (F.has 2 rfl) (ints_one _) rfl (by omega) hD (fun x2 c2 s F => ?_)
    (try dsimp only [n_1, n_2, n_3, n_4, List.append_nil, pk, n_5, n_6] at F)
    refine l_op 0 rfl rfl rfl rfl rfl ?_
    refine l_nil (WK.nx ‹_› (BlkK.nx ‹_› (SeqK.nx ‹_› ?_)))
    refine k_lin fun W K => ?_
    refine l_op 0 rfl rfl rfl rfl rfl ?_
    refine l_a64 rfl rfl rfl (by omega) rfl ?_
    refine l_op 0 rfl rfl rfl rfl rfl ?_
    refine l_nil (WK.nx ‹_› ?_)
    have e1 : (i + 1).toNat = i.toNat + 1 := by omega
    rw [← List.map_append, mk9_step (by omega), ← e1] at F
    exact K0.nx (i + 1, x2, l + (putR (l9.getD i.toNat 0) 4).length, c2) (by repeat (first | exact trivial | refine And.intro rfl ?_)) ⟨F.pick [0, 1] (by decide), by omega, by omega, by omega⟩ (by first | omega | (simp only; omega))
  replace hc1 := of_decide_eq_false ((irr_eq _).symm.trans hc1)
  obtain rfl : i = 8 := by omega
  obtain rfl : l = 36 := by omega
  refine k_exit ?_
  refine SeqK.et (by assumption) ?_
  refine LoopK.et (by assumption) ?_
  refine BlkK.et (by assumption) ?_
  refine SeqK.nx ‹_› ?_
  refine k_seq fun Q K => k_lin fun W K => ?_
  iterate 2 refine l_op 0 rfl rfl rfl rfl rfl ?_
  refine l_app (es := 1) F 1 rfl rfl rfl rfl rfl rfl rfl (F.old h) (ints_one _) rfl (by omega) hD (fun x3 c3 s F => ?_)
  (try dsimp only [n_1, n_2, n_3, n_4, List.append_nil, pk, n_5, n_6] at F)
  have eb : u8l (mk9 (8 : Int).toNat) ++ u8l (List.replicate 476 0) = u8l b9 := by rw [← List.map_append]; unfold b9; rfl
  rw [eb] at F
  refine l_op 0 rfl rfl rfl rfl rfl ?_
  refine l_nil (WK.nx ‹_› (SeqK.nx ‹_› ?_))
  refine k_seq fun Q K => k_lin fun W K => ?_
  refine l_op 0 rfl rfl rfl rfl rfl ?_
  refine l_callp F rfl rfl (by kernel_rfl) rfl rfl (rsum_call (bs := b9) (l := 512) (Old.pure (F.has 1 rfl)) b9_bytes (by omega) (by omega)) (fun _ s F _ => ?_)
  (try dsimp only [n_1, n_2, n_3, n_4, List.append_nil, pk, n_5, n_6] at F)
  rw [b9_sum]
  (try dsimp only [n_1, n_2, n_3, n_4, List.append_nil, pk, n_5, n_6] at F)
  refine l_callp F rfl rfl (by kernel_rfl) rfl rfl (rput_call (x := 1198488979) (n := 4) ⟨by omega, by omega⟩) (fun y9 s F _ => ?_)
  (try dsimp only [n_1, n_2, n_3, n_4, List.append_nil, pk, n_5, n_6] at F)
  refine l_op 0 rfl rfl rfl rfl rfl ?_
  refine l_nil (WK.nx ‹_› (SeqK.nx ‹_› ?_))
  refine k_seq fun Q K => k_seq fun Q K => k_lin fun W K => ?_
  refine l_op 0 rfl rfl rfl rfl rfl ?_
  refine l_nil (WK.nx ‹_› (SeqK.nx ‹_› ?_))
  refine k_block fun Q K => ?_
  obtain ⟨m3, e3, rfl⟩ := own_some9 F 1 rfl (by omega)
  have F0 : Facts E0 σ s [own (some ⟨m3, 0, e3⟩) 512 c3 1 (u8l (st9 0)), own y9.1 4 y9.2 1 (u8l (putR 1198488979 4))] := by rw [st9_zero]; exact F.pick [1, 2] (by decide)
  refine k_loop (α := Int) (fun i s => Facts E0 σ s [own (some ⟨m3, 0, e3⟩) 512 c3 1 (u8l (st9 i.toNat)), own y9.1 4 y9.2 1 (u8l (putR 1198488979 4))] ∧ 0 ≤ i ∧ i ≤ 4) (fun i => [(6, .slice (some ⟨m3, 0, e3⟩) 512 c3), (9, .slice y9.1 4 y9.2), (10, .int .i64 i)]) (fun i => (4 - i).toNat) 0 ⟨F0, by omega, by omega⟩ (by repeat (first | exact trivial | refine And.intro rfl ?_)) ?_
  clear F F0
  rintro i env s Q K0 ⟨F, i0, i1⟩
  refine k_seq fun Q K => k_seq fun Q K => k_lin fun W K => ?_
  refine l_op 0 rfl rfl rfl rfl rfl ?_
  refine l_cmp rfl rfl rfl rfl ?_
  refine l_nil (WK.nx ‹_› (SeqK.nx ‹_› ?_))
  refine l_cond rfl rfl (fun hc2 => ?_) (fun hc2 => ?_)
  · replace hc2 := of_decide_eq_true ((irr_eq _).symm.trans hc2)
    refine k_skip (SeqK.nx ‹_› ?_)
    refine k_seq fun Q K => k_block fun Q K => k_lin fun W K => ?_
    iterate 2 refine l_op 0 rfl rfl rfl rfl rfl ?_
    refine l_a64 rfl rfl rfl (by omega) rfl ?_
    iterate 2 refine l_op 0 rfl rfl rfl rfl rfl ?_
    refine l_ixi rfl rfl rfl rfl rfl rfl (F.has 1 rfl) (by omega) (fun m59 b59 hA59 => ?_)
    refine l_ld0 rfl rfl rfl rfl rfl (by assumption) ?_
    first | refine l_ixi rfl rfl rfl rfl rfl rfl (F.old (by assumption)) (by omega) (fun m61 b61 hA61 => ?_) | (refine l_ixoi F 0 rfl rfl rfl rfl rfl rfl rfl (by omega) (fun m e ha hA61 => ?_); cases ha) | (refine l_ixoi F 1 rfl rfl rfl rfl rfl rfl rfl (by omega) (fun m e ha hA61 => ?_); cases ha) | (refine l_ixoi F 2 rfl rfl rfl rfl rfl rfl rfl (by omega) (fun m e ha hA61 => ?_); cases ha) | (refine l_ixoi F 3 rfl rfl rfl rfl rfl rfl rfl (by omega) (fun m e ha hA61 => ?_); cases ha)
    refine l_stoi F 0 rfl rfl rfl rfl rfl rfl rfl (by omega) hD (fun s F => ?_)
    (try dsimp only [n_1, n_2, n_3, n_4, List.append_nil, pk, n_5, n_6] at F)
    refine l_nil (WK.nx ‹_› (BlkK.nx ‹_› (SeqK.nx ‹_› ?_)))
    refine k_lin fun W K => ?_
    refine l_op 0 rfl rfl rfl rfl rfl ?_
    refine l_a64 rfl rfl rfl (by omega) rfl ?_
    refine l_op 0 rfl rfl rfl rfl rfl ?_
    refine l_nil (WK.nx ‹_› ?_)
    have e1 : (i + 1).toNat = i.toNat + 1 := by omega
    have e2 : (st9 i.toNat).set (32 + i).toNat ((putR 1198488979 4).getD i.toNat 0) = st9 (i + 1).toNat := by
      rw [e1, ← st9_step, show (32 + i).toNat = 32 + i.toNat by omega]
    rw [e2] at F
    exact K0.nx (i + 1) (by repeat (first | exact trivial | refine And.intro rfl ?_)) ⟨F, by omega, by omega⟩ (by first | omega | (simp only; omega))
  replace hc2 := of_decide_eq_false ((irr_eq _).symm.trans hc2)
  obtain rfl : i = 4 := by omega
  have e4 : st9 (4 : Int).toNat = smallB := st9_end
  rw [e4] at F
  refine k_exit ?_
  refine SeqK.et (by assumption) ?_
  refine LoopK.et (by assumption) ?_
  refine BlkK.et (by assumption) ?_
  refine SeqK.nx ‹_› ?_
  refine k_seq fun Q K => k_lin fun W K => ?_
  refine l_op 0 rfl rfl rfl rfl rfl ?_
  refine l_callp F rfl rfl (by kernel_rfl) rfl rfl (rparse_call (Old.pure (F.has 0 rfl))) (fun v s F hv => ?_)
  (try dsimp only [n_1, n_2, n_3, n_4, List.append_nil, pk, n_5, n_6] at F)
  subst hv
  (try dsimp only [n_1, n_2, n_3, n_4, List.append_nil, pk, n_5, n_6] at F)
  refine l_op 0 rfl rfl rfl rfl rfl ?_
  iterate 3 refine l_op 2 rfl rfl rfl rfl rfl ?_
  refine l_al F rfl rfl rfl rfl (fun q11 s F => ?_)
  (try dsimp only [n_1, n_2, n_3, n_4, List.append_nil, pk, n_5, n_6] at F)
  refine l_stca F 2 rfl rfl rfl rfl rfl rfl rfl rfl rfl rfl hD rfl (fun s F => ?_)
  (try dsimp only [n_1, n_2, n_3, n_4, List.append_nil, pk, n_5, n_6] at F)
  iterate 2 refine l_op 0 rfl rfl rfl rfl rfl ?_
  refine l_nil (WK.nx ‹_› (SeqK.nx ‹_› ?_))
  refine k_seq fun Q K => k_seq fun Q K => k_lin fun W K => ?_
  refine l_op 0 rfl rfl rfl rfl rfl ?_
  refine l_cmp rfl rfl rfl rfl ?_
  refine l_nil (WK.nx ‹_› (SeqK.nx ‹_› ?_))
  refine l_cond rfl rfl (fun hc3 => ?_) (fun hc3 => ?_)
  · replace hc3 := bne_iff_ne.1 ((irr_eq _).symm.trans hc3)
    refine k_seq fun Q K => k_lin fun W K => ?_
    iterate 3 refine l_op 0 rfl rfl rfl rfl rfl ?_
    refine l_nil (WK.nx ‹_› (SeqK.nx ‹_› (k_ret (SeqK.rt ‹_› ?_))))
    refine FunK.rt (by assumption) rfl ?_
    -- leaf 1
    (exfalso; omega)
  replace hc3 := bne_eq_false_iff_eq.1 ((irr_eq _).symm.trans hc3)
  refine k_skip (SeqK.nx ‹_› ?_)
  refine k_seq fun Q K => k_lin fun W K => ?_
  iterate 3 refine l_op 0 rfl rfl rfl rfl rfl ?_
  refine l_nil (WK.nx ‹_› (SeqK.nx ‹_› (k_ret ?_)))
  refine FunK.rt (by assumption) rfl ?_
  -- leaf 2
  exact ⟨(some ⟨m3, 0, e3⟩, c3), rfl, F.pick [0] (by decide), trivial⟩

theorem small_call {σ : AState} :
    SCall Tryz.prog E0 45 [] σ (Ret E0 σ (fun (y : Option Addr × Nat) => .slice y.1 512 y.2) (fun y => [own y.1 512 y.2 1 (u8l smallB)]) fun _ => True) := by
  refine k_fun Tryz.func45 rfl (m := 10) rfl fun B hD Q K => ?_
  have F := Facts.nil E0 σ
  refine k_seq fun Q K => k_lin fun W K => ?_
  refine l_op 0 rfl rfl rfl rfl rfl ?_
  refine l_nil (WK.nx ‹_› (SeqK.nx ‹_› ?_))
  refine k_seq fun Q K => k_lin fun W K => ?_
  refine l_bld (vs := [.int .u32 196867, .int .u32 256, .int .u32 512, .int .u32 768, .int .u32 256, .int .u32 36, .int .u32 0, .int .u32 0]) rfl (by kernel_rfl) rfl rfl ?_
  refine l_mk F rfl rfl rfl rfl rfl rfl rfl (by omega) (fun q5 s F => ?_)
  (try dsimp only [n_1, n_2, n_3, n_4, List.append_nil, pk, n_5, n_6] at F)
  replace F : Facts E0 σ s [own (some ⟨q5, 0, some 0⟩) 476 476 1 (u8l (List.replicate 476 0))] := by
    have e : zrow [Value.int IntKind.u8 0] (476 : Int).toNat = u8l (List.replicate 476 0) := by rw [zrow_one]; exact List.map_replicate.symm
    rw [← e]; exact F
  refine l_callp F rfl rfl (by kernel_rfl) rfl rfl (make_call (Old.pure (F.has 0 rfl))) (fun y s F _ => ?_)
  (try dsimp only [n_1, n_2, n_3, n_4, List.append_nil, pk, n_5, n_6] at F)
  refine l_op 0 rfl rfl rfl rfl rfl ?_
  iterate 2 refine l_op 2 rfl rfl rfl rfl rfl ?_
  iterate 2 refine l_op 0 rfl rfl rfl rfl rfl ?_
  refine l_nil (WK.nx ‹_› (SeqK.nx ‹_› ?_))
  refine k_seq fun Q K => k_lin fun W K => ?_
  iterate 2 refine l_op 0 rfl rfl rfl rfl rfl ?_
  refine l_nil (WK.nx ‹_› (SeqK.nx ‹_› (k_ret ?_)))
  refine FunK.rt (by assumption) rfl ?_
  -- leaf 1
  first
  | exact ⟨y, rfl, F.pick [1] (by decide), trivial⟩

end Go.Proofs.YtocfmecenpeoiaaGreat
