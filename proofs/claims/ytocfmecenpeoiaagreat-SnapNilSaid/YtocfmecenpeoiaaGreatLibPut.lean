/- Words laid in bytes, by the program. No statement of the seat is proved in this text. -/
import Derived.Test.YtocfmecenpeoiaaGreatLibWBe
set_option linter.unusedVariables false
set_option linter.unusedSimpArgs false
set_option maxRecDepth 100000
set_option maxHeartbeats 4000000
namespace Go.Proofs.YtocfmecenpeoiaaGreat
open GAb Go

def U32 (x : Int) : Prop := 0 ≤ x ∧ x ≤ 4294967295
def putR (v k : Int) : List Int :=
  if k = 1 then [v % 256] else if k = 2 then [v / 256 % 256, v % 256] else if k = 4 then [v / 16777216 % 256, v / 65536 % 256, v / 256 % 256, v % 256] else []
theorem putR_len {v k : Int} (h : k = 0 ∨ k = 1 ∨ k = 2 ∨ k = 4) : ((putR v k).length : Int) = k := by
  rcases h with rfl | rfl | rfl | rfl <;> rfl
theorem getD_app (A X : List Int) (i : Nat) : (A ++ X).getD (A.length + i) 0 = X.getD i 0 := by
  simp [List.getD, List.getElem?_append_right]
theorem getD_app0 (A X : List Int) : (A ++ X).getD A.length 0 = X.getD 0 0 := getD_app A X 0
theorem be_put (A C : List Int) (v k : Int) (h : k = 1 ∨ k = 2 ∨ k = 4) : be (A ++ (putR v k ++ C)) A.length k.toNat = v % (256 ^ k.toNat) := by
  rcases h with rfl | rfl | rfl
  · show be _ _ 1 = v % 256 ^ 1
    simp only [be, getD_app]
    simp [putR]
  · show be _ _ 2 = v % 256 ^ 2
    simp only [be, getD_app]
    simp [putR]
    omega
  · show be _ _ 4 = v % 256 ^ 4
    simp only [be, getD_app]
    simp [putR]
    omega
theorem putR_none {x n : Int} (h : ¬ (n = 1 ∨ n = 2 ∨ n = 4)) : putR x n = [] := by
  unfold putR; rw [if_neg (by omega), if_neg (by omega), if_neg (by omega)]
theorem putR_n {x n : Int} (h : n = 1 ∨ n = 2 ∨ n = 4) : ((putR x n).length : Int) = n := putR_len (.inr h)
theorem zrow8 (n : Nat) : zrow [Value.int .u8 0] n = u8l (List.replicate n 0) := by
  induction n with
  | zero => rfl
  | succ n ih =>
    have : zrow [Value.int .u8 0] (n + 1) = Value.int .u8 0 :: zrow [Value.int .u8 0] n := by
      simp [zrow, List.replicate_succ]
    rw [this, ih, List.replicate_succ]
    rfl
theorem put_step {x n i : Int} (h : n = 1 ∨ n = 2 ∨ n = 4) (hi : 0 ≤ i ∧ i < n) (hx : U32 x) :
    (List.replicate (i + 1).toNat 0 ++ (putR x n).drop (i + 1).toNat).set i.toNat (x / 256 ^ (n - 1 - i).toNat % 256) = List.replicate i.toNat 0 ++ (putR x n).drop i.toNat := by
  obtain ⟨x0, x1⟩ := hx
  have hi4 : i = 0 ∨ i = 1 ∨ i = 2 ∨ i = 3 := by omega
  rcases h with rfl | rfl | rfl <;> rcases hi4 with rfl | rfl | rfl | rfl <;> first | (exfalso; omega) | (simp [putR]; done) | (simp [putR]; omega)
theorem shr8 {x : Int} (h0 : 0 ≤ x) : x.fdiv (2 ^ min (Int.toNat 8) IntKind.u32.bits) = x / 256 := by
  show x.fdiv 256 = x / 256
  rw [Int.fdiv_eq_ediv_of_nonneg _ (by omega)]
theorem wrap8m (v : Int) : IntKind.u8.wrap v = v % 256 := by
  simp only [IntKind.wrap, IntKind.bits, IntKind.signed]
  simp
theorem wput_call {σ : AState} {x n : Int} (hx : U32 x) :
    SCall Tryz.prog E0 50 [.int .u32 x, .int .i64 n] σ (Ret E0 σ (fun (y : Option Addr × Nat) => .slice y.1 (putR x n).length y.2) (fun y => [own y.1 (putR x n).length y.2 1 (u8l (putR x n))]) fun _ => True) := by
  have hx' := hx
  obtain ⟨x0, x1⟩ := hx
  refine k_fun Tryz.func50 rfl (m := 26) rfl fun B hD Q K => ?_
  have F := (Facts.nil E0 σ).nilrow 1
  refine k_seq fun Q K => k_lin fun W K => ?_
  refine l_op 0 rfl rfl rfl rfl rfl ?_
  refine l_nil (WK.nx ‹_› (SeqK.nx ‹_› ?_))
  refine k_seq fun Q K => k_seq fun Q K => k_lin fun W K => ?_
  refine l_op 0 rfl rfl rfl rfl rfl ?_
  refine l_callp F rfl rfl (by kernel_rfl) rfl rfl sized_call (fun y s F hy => ?_)
  (try dsimp only [n_1, n_2, n_3, n_4, List.append_nil, pk, n_5, n_6] at F)
  refine l_op 2 rfl rfl rfl rfl rfl ?_
  refine l_nil (WK.nx ‹_› (SeqK.nx ‹_› ?_))
  refine l_cond rfl rfl (fun hc1 => ?_) (fun hc1 => ?_)
  · try simp only [i_1, i_2, i_3, i_4, i_5, ne_eq, i_6, i_7, i_8, i_9] at hc1
    refine k_seq fun Q K => k_lin fun W K => ?_
    refine l_op 0 rfl rfl rfl rfl rfl ?_
    refine l_nil (WK.nx ‹_› (SeqK.nx ‹_› (k_ret (SeqK.rt ‹_› ?_))))
    refine FunK.rt (by assumption) rfl ?_
    -- leaf 1
    first
      | (have hp := putR_none (x := x) (n := n) (fun h => by rw [hy.2 h] at hc1; cases hc1)
         rw [hp]
         exact ⟨(none, 0), rfl, F, trivial⟩)
      | (have e1 : i = -1 := by omega
         subst e1
         have F' : Facts E0 σ s [own (some ⟨q11, 0, some 0⟩) n.toNat n.toNat 1 (u8l (putR x n))] := F
         have e2 : n.toNat = (putR x n).length := by omega
         rw [e2] at F'
         refine ⟨(some ⟨q11, 0, some 0⟩, (putR x n).length), ?_, F', trivial⟩
         show Value.slice _ n.toNat n.toNat = _
         rw [e2])
  try simp only [i_1, i_2, i_3, i_4, i_5, ne_eq, i_6, i_7, i_8, i_9] at hc1
  have hn : n = 1 ∨ n = 2 ∨ n = 4 := hy.1 (by simpa using hc1)
  have hlen := putR_n (x := x) hn
  refine k_skip (SeqK.nx ‹_› ?_)
  refine k_seq fun Q K => k_lin fun W K => ?_
  refine l_op 0 rfl rfl rfl rfl rfl ?_
  refine l_mk F rfl rfl rfl rfl rfl rfl rfl (by omega) (fun q11 s F => ?_)
  (try dsimp only [n_1, n_2, n_3, n_4, List.append_nil, pk, n_5, n_6] at F)
  refine l_op 0 rfl rfl rfl rfl rfl ?_
  refine l_nil (WK.nx ‹_› (SeqK.nx ‹_› ?_))
  refine k_seq fun Q K => k_seq fun Q K => k_lin fun W K => ?_
  refine l_op 0 rfl rfl rfl rfl rfl ?_
  (first | refine l_a64 rfl rfl rfl (by omega) rfl ?_ | refine l_a32 rfl rfl rfl (by omega) rfl ?_ | refine l_a8 rfl rfl rfl (by omega) rfl ?_ | refine l_au64 rfl rfl rfl (by omega) rfl ?_ | refine l_op 1 rfl rfl rfl rfl rfl ?_)
  refine l_op 0 rfl rfl rfl rfl rfl ?_
  refine l_nil (WK.nx ‹_› (SeqK.nx ‹_› ?_))
  refine k_block fun Q K => ?_
  have F0 := F.pick [1] (by decide)
  clear F
  have F := F0
  clear F0
  have F : Facts E0 σ s [own (some ⟨q11, 0, some 0⟩) n.toNat n.toNat 1 (u8l (List.replicate (n - 1 + 1).toNat 0 ++ (putR x n).drop (n - 1 + 1).toNat))] := by
    rw [show (n - 1 + 1).toNat = n.toNat by omega, List.drop_of_length_le (by omega), List.append_nil, ← zrow8]
    exact F
  refine k_loop (α := Int × Int) (fun ⟨i, v⟩ s => Facts E0 σ s [own (some ⟨q11, 0, some 0⟩) n.toNat n.toNat 1 (u8l (List.replicate (i + 1).toNat 0 ++ (putR x n).drop (i + 1).toNat))] ∧ -1 ≤ i ∧ i < n ∧ v = x / 256 ^ (n - 1 - i).toNat) (fun ⟨i, v⟩ => [(0, .int .u32 v), (5, .slice (some ⟨q11, 0, some 0⟩) n.toNat n.toNat), (6, .int .i64 i)]) (fun ⟨i, _⟩ => (i + 1).toNat) (n - 1, x) ⟨F, by omega, by omega, by rw [show (n - 1 - (n - 1)).toNat = 0 by omega]; simp⟩ (by repeat (first | exact trivial | refine And.intro rfl ?_)) ?_
  clear F
  rintro ⟨i, v⟩ env s Q K0 ⟨F, i0, i1, hv⟩
  have hv0 : 0 ≤ v ∧ v ≤ x := by
    have : (1 : Int) ≤ 256 ^ (n - 1 - i).toNat := by exact_mod_cast Nat.one_le_pow _ 256 (by omega)
    rw [hv]
    exact ⟨Int.ediv_nonneg x0 (by omega), Int.ediv_le_self _ x0⟩
  refine k_seq fun Q K => k_seq fun Q K => k_lin fun W K => ?_
  refine l_op 0 rfl rfl rfl rfl rfl ?_
  refine l_cmp rfl rfl rfl rfl ?_
  refine l_nil (WK.nx ‹_› (SeqK.nx ‹_› ?_))
  refine l_cond rfl rfl (fun hc2 => ?_) (fun hc2 => ?_)
  · replace hc2 := of_decide_eq_true ((irr_eq _).symm.trans hc2)
    refine k_skip (SeqK.nx ‹_› ?_)
    refine k_seq fun Q K => k_block fun Q K => k_seq fun Q K => k_lin fun W K => ?_
    iterate 3 refine l_op 0 rfl rfl rfl rfl rfl ?_
    refine l_op 16 rfl rfl rfl (congrArg (Value.int .u8) (wrap8m v)) rfl ?_
    first | refine l_ixi rfl rfl rfl rfl rfl rfl (F.old (by assumption)) (by omega) (fun m22 b22 hA22 => ?_) | (refine l_ixoi F 0 rfl rfl rfl rfl rfl rfl rfl (by omega) (fun m e ha hA22 => ?_); cases ha) | (refine l_ixoi F 1 rfl rfl rfl rfl rfl rfl rfl (by omega) (fun m e ha hA22 => ?_); cases ha) | (refine l_ixoi F 2 rfl rfl rfl rfl rfl rfl rfl (by omega) (fun m e ha hA22 => ?_); cases ha) | (refine l_ixoi F 3 rfl rfl rfl rfl rfl rfl rfl (by omega) (fun m e ha hA22 => ?_); cases ha)
    (first | refine l_stc F 0 rfl rfl rfl rfl rfl rfl rfl rfl rfl hD (fun s F => ?_) | refine l_stc F 1 rfl rfl rfl rfl rfl rfl rfl rfl rfl hD (fun s F => ?_) | refine l_stc F 2 rfl rfl rfl rfl rfl rfl rfl rfl rfl hD (fun s F => ?_) | refine l_stc F 3 rfl rfl rfl rfl rfl rfl rfl rfl rfl hD (fun s F => ?_) | refine l_stc F 4 rfl rfl rfl rfl rfl rfl rfl rfl rfl hD (fun s F => ?_) | refine l_stc F 5 rfl rfl rfl rfl rfl rfl rfl rfl rfl hD (fun s F => ?_) | refine l_stc F 6 rfl rfl rfl rfl rfl rfl rfl rfl rfl hD (fun s F => ?_) | refine l_stc F 7 rfl rfl rfl rfl rfl rfl rfl rfl rfl hD (fun s F => ?_) | refine l_stc F 8 rfl rfl rfl rfl rfl rfl rfl rfl rfl hD (fun s F => ?_) | refine l_stc F 9 rfl rfl rfl rfl rfl rfl rfl rfl rfl hD (fun s F => ?_) | refine l_stca F 0 rfl rfl rfl rfl rfl rfl rfl rfl rfl rfl hD rfl (fun s F => ?_) | refine l_stca F 1 rfl rfl rfl rfl rfl rfl rfl rfl rfl rfl hD rfl (fun s F => ?_) | refine l_stca F 2 rfl rfl rfl rfl rfl rfl rfl rfl rfl rfl hD rfl (fun s F => ?_) | refine l_stca F 3 rfl rfl rfl rfl rfl rfl rfl rfl rfl rfl hD rfl (fun s F => ?_) | refine l_stca F 4 rfl rfl rfl rfl rfl rfl rfl rfl rfl rfl hD rfl (fun s F => ?_) | refine l_stca F 5 rfl rfl rfl rfl rfl rfl rfl rfl rfl rfl hD rfl (fun s F => ?_) | refine l_stca F 6 rfl rfl rfl rfl rfl rfl rfl rfl rfl rfl hD rfl (fun s F => ?_) | refine l_stca F 7 rfl rfl rfl rfl rfl rfl rfl rfl rfl rfl hD rfl (fun s F => ?_) | refine l_stca F 8 rfl rfl rfl rfl rfl rfl rfl rfl rfl rfl hD rfl (fun s F => ?_) | refine l_stca F 9 rfl rfl rfl rfl rfl rfl rfl rfl rfl rfl hD rfl (fun s F => ?_) | refine l_stoi F 0 rfl rfl rfl rfl rfl rfl rfl (by omega) hD (fun s F => ?_) | refine l_stoi F 1 rfl rfl rfl rfl rfl rfl rfl (by omega) hD (fun s F => ?_) | refine l_stoi F 2 rfl rfl rfl rfl rfl rfl rfl (by omega) hD (fun s F => ?_) | refine l_stoi F 3 rfl rfl rfl rfl rfl rfl rfl (by omega) hD (fun s F => ?_) | refine l_stoi F 4 rfl rfl rfl rfl rfl rfl rfl (by omega) hD (fun s F => ?_) | refine l_stoi F 5 rfl rfl rfl rfl rfl rfl rfl (by omega) hD (fun s F => ?_) | refine l_stoi F 6 rfl rfl rfl rfl rfl rfl rfl (by omega) hD (fun s F => ?_) | refine l_stoi F 7 rfl rfl rfl rfl rfl rfl rfl (by omega) hD (fun s F => ?_) | refine l_stoi F 8 rfl rfl rfl rfl rfl rfl rfl (by omega) hD (fun s F => ?_) | refine l_stoi F 9 rfl rfl rfl rfl rfl rfl rfl (by omega) hD (fun s F => ?_))
    (try dsimp only [n_1, n_2, n_3, n_4, List.append_nil, pk, n_5, n_6] at F)
    refine l_nil (WK.nx ‹_› (SeqK.nx ‹_› ?_))
    refine k_lin fun W K => ?_
    refine l_op 0 rfl rfl rfl rfl rfl ?_
    refine l_sh (v / 256) rfl rfl rfl rfl rfl (by decide) (.inl ⟨rfl, shr8 (by omega)⟩) ?_
    refine l_op 0 rfl rfl rfl rfl rfl ?_
    refine l_nil (WK.nx ‹_› (BlkK.nx ‹_› (SeqK.nx ‹_› ?_)))
    refine k_lin fun W K => ?_
    refine l_op 0 rfl rfl rfl rfl rfl ?_
    (first | refine l_a64 rfl rfl rfl (by omega) rfl ?_ | refine l_a32 rfl rfl rfl (by omega) rfl ?_ | refine l_a8 rfl rfl rfl (by omega) rfl ?_ | refine l_au64 rfl rfl rfl (by omega) rfl ?_ | refine l_op 1 rfl rfl rfl rfl rfl ?_)
    refine l_op 0 rfl rfl rfl rfl rfl ?_
    refine l_nil (WK.nx ‹_› ?_)
    have e := put_step (x := x) (n := n) (i := i) hn (by omega) hx'
    rw [← hv] at e
    rw [e] at F
    exact K0.nx (i - 1, v / 256) (by repeat (first | exact trivial | refine And.intro rfl ?_)) ⟨by rw [show (i - 1 + 1).toNat = i.toNat by omega]; exact F, by omega, by omega, by
      rw [hv, Int.ediv_ediv_of_nonneg (by exact_mod_cast Nat.zero_le _), show (n - 1 - (i - 1)).toNat = (n - 1 - i).toNat + 1 by omega, Int.pow_succ]⟩ (by first | omega | (simp only; omega))
  replace hc2 := of_decide_eq_false ((irr_eq _).symm.trans hc2)
  refine k_exit ?_
  refine SeqK.et (by assumption) ?_
  refine LoopK.et (by assumption) ?_
  refine BlkK.et (by assumption) ?_
  refine SeqK.nx ‹_› ?_
  refine k_seq fun Q K => k_lin fun W K => ?_
  iterate 2 refine l_op 0 rfl rfl rfl rfl rfl ?_
  refine l_nil (WK.nx ‹_› (SeqK.nx ‹_› (k_ret ?_)))
  refine FunK.rt (by assumption) rfl ?_
  -- leaf 2
  first
    | (have hp := putR_none (x := x) (n := n) (fun h => by rw [hy.2 h] at hc1; cases hc1)
       rw [hp]
       exact ⟨(none, 0), rfl, F, trivial⟩)
    | (have e1 : i = -1 := by omega
       subst e1
       have F' : Facts E0 σ s [own (some ⟨q11, 0, some 0⟩) n.toNat n.toNat 1 (u8l (putR x n))] := F
       have e2 : n.toNat = (putR x n).length := by omega
       rw [e2] at F'
       refine ⟨(some ⟨q11, 0, some 0⟩, (putR x n).length), ?_, F', trivial⟩
       show Value.slice _ n.toNat n.toNat = _
       rw [e2])

end Go.Proofs.YtocfmecenpeoiaaGreat
