/- An instruction laid, by the program. No statement of the seat is proved in this text. -/
import Derived.Test.YtkemnodaadlonaaCCat
set_option linter.unusedVariables false
set_option linter.unusedSimpArgs false
set_option maxRecDepth 100000
set_option maxHeartbeats 4000000
namespace Go.Proofs.Ytkemnodaadlonaa
open GAb Go

/-- Modes two a byte, the first so many of them. -/
def pkz (ms : List Int) (i : Nat) : List Int := (List.range ((ms.length + 1) / 2)).map fun j => (if 2 * j < i then ms.getD (2 * j) 0 else 0) + 16 * (if 2 * j + 1 < i then ms.getD (2 * j + 1) 0 else 0)
theorem pkz_len (ms : List Int) (i : Nat) : (pkz ms i).length = (ms.length + 1) / 2 := by simp [pkz]
theorem pkz_zero (ms : List Int) : pkz ms 0 = List.replicate ((ms.length + 1) / 2) 0 := by
  apply List.ext_getElem
  · simp [pkz]
  · intro i h1 h2
    simp [pkz]
theorem pkz_at {ms : List Int} {i j : Nat} (h : j < (ms.length + 1) / 2) : (pkz ms i).getD j 0 = (if 2 * j < i then ms.getD (2 * j) 0 else 0) + 16 * (if 2 * j + 1 < i then ms.getD (2 * j + 1) 0 else 0) := by
  simp [pkz, List.getD, h]
theorem pkz_step {ms : List Int} {i : Nat} (h : i < ms.length) : (pkz ms i).set (i / 2) ((pkz ms i).getD (i / 2) 0 + (if i % 2 = 0 then 1 else 16) * ms.getD i 0) = pkz ms (i + 1) := by
  apply List.ext_getElem
  · simp [pkz]
  · intro j h1 h2
    rw [List.getElem_set]
    have hj : j < (ms.length + 1) / 2 := by rw [pkz_len] at h2; exact h2
    have e2 : (pkz ms (i + 1))[j] = (pkz ms (i + 1)).getD j 0 := by simp [List.getD, h2]
    rw [e2, pkz_at hj]
    split
    · rename_i hij
      subst hij
      rw [pkz_at hj]
      rcases (by omega : i % 2 = 0 ∨ i % 2 = 1) with hp | hp
      · have e3 : 2 * (i / 2) = i := by omega
        rw [if_neg (by omega), if_neg (by omega), if_pos hp, if_pos (by omega), if_neg (by omega), e3]
        omega
      · have e3 : 2 * (i / 2) + 1 = i := by omega
        rw [if_pos (by omega), if_neg (by omega), if_neg (by omega), if_pos (by omega), if_pos (by omega), e3]
        omega
    · rename_i hij
      have e4 : (pkz ms i)[j]'(by rw [pkz_len]; exact hj) = (pkz ms i).getD j 0 := by
        have : j < (pkz ms i).length := by rw [pkz_len]; exact hj
        simp [List.getD, this]
      rw [e4, pkz_at hj]
      have c1 : (2 * j < i) ↔ (2 * j < i + 1) := by omega
      have c2 : (2 * j + 1 < i) ↔ (2 * j + 1 < i + 1) := by omega
      simp only [c1, c2]
theorem packR_at : ∀ (ms : List Int) (j : Nat), j < (ms.length + 1) / 2 → (packR ms).getD j 0 = ms.getD (2 * j) 0 + 16 * ms.getD (2 * j + 1) 0
  | [], j, h => by simp at h
  | [m], j, h => by
    have : j = 0 := by simp at h; omega
    subst this
    simp [packR]
  | m :: n :: ms, 0, h => by simp [packR]
  | m :: n :: ms, j + 1, h => by
    have ih := packR_at ms j (by simp at h; omega)
    have e1 : 2 * (j + 1) = 2 * j + 1 + 1 := by omega
    simp only [packR, e1, List.getD_cons_succ]
    exact ih
theorem pkz_end (ms : List Int) : pkz ms ms.length = packR ms := by
  apply List.ext_getElem
  · rw [pkz_len, packR_len]
  · intro j h1 h2
    have hj : j < (ms.length + 1) / 2 := by rw [pkz_len] at h1; exact h1
    have e1 : (pkz ms ms.length)[j] = (pkz ms ms.length).getD j 0 := by simp [List.getD, h1]
    have e2 : (packR ms)[j] = (packR ms).getD j 0 := by simp [List.getD, h2]
    rw [e1, e2, pkz_at hj, packR_at ms j hj, if_pos (by omega)]
    by_cases h : 2 * j + 1 < ms.length
    · rw [if_pos h]
    · rw [if_neg h, show ms.getD (2 * j + 1) 0 = 0 by simp [List.getD, List.getElem?_eq_none (by omega : ms.length ≤ 2 * j + 1)]]
theorem dataR_take {ars : List (Int × Int)} {i : Nat} (h : i < ars.length) : dataR (ars.take (i + 1)) = dataR (ars.take i) ++ putR (ars.getD i default).2 (szm (ars.getD i default).1) := by
  have gen : ∀ xs ys : List (Int × Int), dataR (xs ++ ys) = dataR xs ++ dataR ys := fun xs ys => by
    induction xs with
    | nil => rfl
    | cons x xs ih => simp only [List.cons_append, dataR, ih, List.append_assoc]
  rw [List.take_succ_eq_append_getElem h, gen]
  simp [dataR, List.getD, h]
theorem okArgs_of : ∀ (s : List Int) (ars : List (Int × Int)), s.length = ars.length → (∀ j : Nat, j < ars.length → mayR (s.getD j 0) (ars.getD j default).1 = true ∧ tellsR (ars.getD j default).1 (ars.getD j default).2 = true) → okArgs s ars = true
  | [], _, _, _ => by simp [okArgs]
  | _ :: _, [], h, _ => by simp at h
  | c :: s, a :: ars, h, hm => by
    have h0 := hm 0 (by simp)
    have ih := okArgs_of s ars (by simpa using h) (fun j hj => by simpa using hm (j + 1) (by simpa using hj))
    simp only [List.getD_cons_zero] at h0
    simp only [okArgs, h0.1, h0.2, ih, Bool.and_self]
theorem okArgs_not : ∀ (s : List Int) (ars : List (Int × Int)) (j : Nat), s.length = ars.length → j < ars.length → (mayR (s.getD j 0) (ars.getD j default).1 = false ∨ tellsR (ars.getD j default).1 (ars.getD j default).2 = false) → okArgs s ars = false
  | [], [], j, _, h, _ => by simp at h
  | [], _ :: _, _, h, _, _ => by simp at h
  | _ :: _, [], _, h, _, _ => by simp at h
  | c :: s, a :: ars, 0, h, _, hm => by
    simp only [List.getD_cons_zero] at hm
    rcases hm with hm | hm <;> simp [okArgs, hm]
  | c :: s, a :: ars, j + 1, h, hj, hm => by
    have ih := okArgs_not s ars j (by simpa using h) (by simpa using hj) (by simpa using hm)
    simp [okArgs, ih]
theorem or8 {x m : Int} {i : Nat} (hx : i % 2 = 0 ∧ x = 0 ∨ i % 2 = 1 ∧ 0 ≤ x ∧ x ≤ 15) (hm : 0 ≤ m ∧ m ≤ 15) : IntKind.u8.wrap ↑(BitVec.ofInt IntKind.u8.bits x ||| BitVec.ofInt IntKind.u8.bits ((if i % 2 = 0 then 1 else 16) * m)).toNat = x + (if i % 2 = 0 then 1 else 16) * m := by
  rcases hx with ⟨h, rfl⟩ | ⟨h, h0, h1⟩
  · rw [if_pos h]
    have : (BitVec.ofInt IntKind.u8.bits 0 ||| BitVec.ofInt IntKind.u8.bits (1 * m)).toNat = m.toNat := by
      rw [BitVec.toNat_or, BitVec.toNat_ofInt, BitVec.toNat_ofInt]
      show (0 : Nat) ||| ((1 * m) % 256).toNat = m.toNat
      rw [Nat.zero_or]; omega
    rw [this, wrap8 (by omega) (by omega)]; omega
  · rw [if_neg (by omega)]
    have : (BitVec.ofInt IntKind.u8.bits x ||| BitVec.ofInt IntKind.u8.bits (16 * m)).toNat = m.toNat * 16 + x.toNat := by
      rw [BitVec.toNat_or, BitVec.toNat_ofInt, BitVec.toNat_ofInt]
      have a1 : ((16 * m) % (2 ^ IntKind.u8.bits : Nat)).toNat = m.toNat <<< 4 := by
        rw [Nat.shiftLeft_eq]; show ((16 * m) % 256).toNat = _; omega
      have a2 : (x % (2 ^ IntKind.u8.bits : Nat)).toNat = x.toNat := by
        show (x % 256).toNat = _; omega
      rw [a1, a2, Nat.or_comm, ← Nat.shiftLeft_add_eq_or_of_lt (by omega), Nat.shiftLeft_eq]
    rw [this, wrap8 (by omega) (by omega)]; omega
theorem shl8 {m i : Int} (hm : 0 ≤ m ∧ m ≤ 15) (hi : 0 ≤ i) : IntKind.u8.wrap (m * 2 ^ min (4 * (i % 2)).toNat IntKind.u8.bits) = (if i.toNat % 2 = 0 then 1 else 16) * m := by
  rcases (by omega : i % 2 = 0 ∨ i % 2 = 1) with h | h
  · rw [h, if_pos (by omega)]
    show IntKind.u8.wrap (m * 1) = _
    rw [wrap8 (by omega) (by omega)]; omega
  · rw [h, if_neg (by omega)]
    show IntKind.u8.wrap (m * 16) = _
    rw [wrap8 (by omega) (by omega)]; omega
theorem or15 {x : Int} (h : 0 ≤ x ∧ x < 16384) : IntKind.u32.wrap ↑(BitVec.ofInt IntKind.u32.bits x ||| BitVec.ofInt IntKind.u32.bits 32768).toNat = x + 32768 := by
  have : (BitVec.ofInt IntKind.u32.bits x ||| BitVec.ofInt IntKind.u32.bits 32768).toNat = x.toNat + 32768 := by
    rw [BitVec.toNat_or, BitVec.toNat_ofInt, BitVec.toNat_ofInt]
    have a1 : ((32768 : Int) % (2 ^ IntKind.u32.bits : Nat)).toNat = 1 <<< 15 := rfl
    have a2 : (x % (2 ^ IntKind.u32.bits : Nat)).toNat = x.toNat := by
      show (x % 4294967296).toNat = _; omega
    rw [a1, a2, Nat.or_comm, ← Nat.shiftLeft_add_eq_or_of_lt (by omega), Nat.shiftLeft_eq]
    omega
  rw [this, wrap32 (by omega) (by omega)]; omega

abbrev encV (r : Option (List Int)) (y : Option Addr × Nat) : Value := .tuple #[.slice y.1 (r.getD []).length y.2, .int .i64 (if r.isSome then 0 else 1)]
def ArgOK (ars : List (Int × Int)) : Prop := ∀ a ∈ ars, U32 a.2
theorem ArgOK.at {ars : List (Int × Int)} (h : ArgOK ars) (i : Nat) : U32 (ars.getD i default).2 := by
  by_cases hi : i < ars.length
  · simp only [List.getD, List.getElem?_eq_getElem hi, Option.getD_some]
    exact h _ (List.getElem_mem hi)
  · simp only [List.getD, List.getElem?_eq_none (by omega : ars.length ≤ i), Option.getD_none]
    exact ⟨Int.le_refl _, by decide⟩
theorem dataR_len : ∀ (ars : List (Int × Int)), (dataR ars).length ≤ 4 * ars.length
  | [] => by simp [dataR]
  | a :: ars => by
    have ih := dataR_len ars
    have hp : (putR a.2 (szm a.1)).length ≤ 4 := by unfold putR; split; simp; split; simp; split <;> simp
    simp only [dataR, List.length_append, List.length_cons]
    omega
theorem encode_call {σ : AState} {ax : Option Addr} {nx cx : Nat} {op : Int} {ars : List (Int × Int)} (h : Old E0 σ ax nx cx 2 (rows eO ars)) (hA : ArgOK ars) (hop : U32 op) (hl : nx ≤ 1000000) :
    SCall Try.prog E0 31 [.agg #[.int .u32 op, .slice ax nx cx]] σ (Ret E0 σ (encV (encR sgR op ars)) (fun y => [own y.1 ((encR sgR op ars).getD []).length y.2 1 (u8l ((encR sgR op ars).getD []))]) fun _ => True) := by
  obtain rfl : ars.length = nx := h.1.len eO_len (by decide)
  refine k_fun Try.func31 rfl (m := 90) rfl fun B hD Q K => ?_
  have F := (Facts.nil E0 σ).nilrow 1
  refine k_seq (fun Q K => ?_)
  refine k_lin (fun W K => ?_)
  refine l_bx F rfl rfl rfl rfl rfl (fun q1 s F => ?_)
  (try dsimp only [n_1, n_2, n_3, n_4, List.append_nil, pk, n_5, n_6] at F)
  refine l_op 0 rfl rfl rfl rfl rfl ?_
  refine l_op 0 rfl rfl rfl rfl rfl ?_
  refine l_nil (WK.nx (by assumption) ?_)
  refine SeqK.nx (by assumption) ?_
  refine k_seq (fun Q K => ?_)
  refine k_lin (fun W K => ?_)
  refine l_op 2 rfl rfl rfl rfl rfl ?_
  first | refine l_ldc F 5 rfl rfl rfl rfl rfl rfl rfl ?_ | refine l_ldc F 1 rfl rfl rfl rfl rfl rfl rfl ?_ | refine l_ld0 rfl rfl rfl rfl rfl (by assumption) ?_ | refine l_ldj rfl rfl rfl rfl rfl rfl (by assumption) rfl ?_ | refine l_ldc F 0 rfl rfl rfl rfl rfl rfl rfl ?_ | refine l_ldc F 1 rfl rfl rfl rfl rfl rfl rfl ?_ | refine l_ldc F 2 rfl rfl rfl rfl rfl rfl rfl ?_ | refine l_ldc F 3 rfl rfl rfl rfl rfl rfl rfl ?_ | refine l_ldc F 4 rfl rfl rfl rfl rfl rfl rfl ?_ | refine l_ldc F 5 rfl rfl rfl rfl rfl rfl rfl ?_ | refine l_ldc F 6 rfl rfl rfl rfl rfl rfl rfl ?_ | refine l_ldc F 7 rfl rfl rfl rfl rfl rfl rfl ?_ | refine l_ldc F 8 rfl rfl rfl rfl rfl rfl rfl ?_ | refine l_ldc F 9 rfl rfl rfl rfl rfl rfl rfl ?_ | refine l_lda rfl rfl rfl rfl rfl (by assumption) ?_ | refine l_ldca F 0 rfl rfl rfl rfl rfl rfl rfl ?_ | refine l_ldca F 1 rfl rfl rfl rfl rfl rfl rfl ?_ | refine l_ldca F 2 rfl rfl rfl rfl rfl rfl rfl ?_ | refine l_ldca F 3 rfl rfl rfl rfl rfl rfl rfl ?_ | refine l_ldca F 4 rfl rfl rfl rfl rfl rfl rfl ?_ | refine l_ldca F 5 rfl rfl rfl rfl rfl rfl rfl ?_ | refine l_ldca F 6 rfl rfl rfl rfl rfl rfl rfl ?_ | refine l_ldca F 7 rfl rfl rfl rfl rfl rfl rfl ?_ | refine l_ldca F 8 rfl rfl rfl rfl rfl rfl rfl ?_ | refine l_ldca F 9 rfl rfl rfl rfl rfl rfl rfl ?_ | refine l_ldo F (by assumption) rfl rfl rfl rfl rfl rfl ?_ | refine l_ldoa F (by assumption) rfl rfl rfl rfl rfl rfl ?_
  refine l_callp F rfl rfl (by kernel_rfl) rfl rfl (signature_call hop) (fun _ s F _ => ?_)
  have hs8 := sig_size op
  generalize hS : sigP op = sp at hs8
  (try dsimp only [n_1, n_2, n_3, n_4, List.append_nil, pk, n_5, n_6] at F)
  refine l_op 0 rfl rfl rfl rfl rfl ?_
  refine l_op 2 rfl rfl rfl rfl rfl ?_
  refine l_op 2 rfl rfl rfl rfl rfl ?_
  refine l_op 0 rfl rfl rfl rfl rfl ?_
  refine l_op 0 rfl rfl rfl rfl rfl ?_
  refine l_nil (WK.nx (by assumption) ?_)
  refine SeqK.nx (by assumption) ?_
  refine k_seq (fun Q K => ?_)
  refine k_seq (fun Q K => ?_)
  refine k_lin (fun W K => ?_)
  refine l_op 0 rfl rfl rfl rfl rfl ?_
  refine l_op 2 rfl rfl rfl rfl rfl ?_
  refine l_op 0 rfl rfl rfl rfl rfl ?_
  refine l_guard rfl rfl rfl (fun hc1 => ?_) (fun hc1 => ?_)
  · try simp only [irr_eq, beq_iff_eq, bne_iff_ne, beq_eq_false_iff_ne, bne_eq_false_iff_eq, ne_eq, decide_eq_true_eq, decide_eq_false_iff_not, Bool.not_eq_true', Bool.not_eq_false'] at hc1
    have hr : encR sgR op ars = none := by
      unfold encR sgR
      rw [hS]
      by_cases hb : sp.2 = true
      · rw [if_pos hb]
        simp only
        rw [if_pos (by rw [ltr_length]; intro e; simp_all)]
      · rw [if_neg hb]
    refine l_s rfl rfl ?_
    refine l_s rfl rfl ?_
    refine l_s rfl rfl ?_
    refine l_s rfl rfl ?_
    refine l_s rfl rfl ?_
    refine l_s rfl rfl ?_
    refine l_op 2 rfl rfl rfl rfl rfl ?_
    refine l_nil (WK.nx (by assumption) ?_)
    refine SeqK.nx (by assumption) ?_
    first | refine e_cond_t rfl rfl rfl ?_ | refine e_cond_t rfl rfl (by rw [irr_eq]; first | exact beq_iff_eq.2 (by assumption) | exact decide_eq_true (by assumption) | exact bne_iff_ne.2 (by assumption)) ?_
    refine k_seq (fun Q K => ?_)
    refine k_lin (fun W K => ?_)
    refine l_op 0 rfl rfl rfl rfl rfl ?_
    refine l_op 0 rfl rfl rfl rfl rfl ?_
    refine l_nil (WK.nx (by assumption) ?_)
    refine SeqK.nx (by assumption) ?_
    refine k_ret ?_
    refine SeqK.rt (by assumption) ?_
    refine FunK.rt (by assumption) rfl ?_
    -- leaf 1
    first
      | (rw [hr]; exact ⟨(none, 0), rfl, F.pick [0] (by decide), trivial⟩)
      | (rw [hr]; exact ⟨yr, rfl, F.pick [6] (by decide), trivial⟩)
  try simp only [irr_eq, beq_iff_eq, bne_iff_ne, beq_eq_false_iff_ne, bne_eq_false_iff_eq, ne_eq, decide_eq_true_eq, decide_eq_false_iff_not, Bool.not_eq_true', Bool.not_eq_false'] at hc1
  refine l_op 0 rfl rfl rfl rfl rfl ?_
  first | refine l_op 2 rfl rfl rfl rfl rfl ?_ | refine l_ln rfl rfl rfl rfl ?_
  refine l_op 2 rfl rfl rfl rfl rfl ?_
  first | refine l_ldc F 5 rfl rfl rfl rfl rfl rfl rfl ?_ | refine l_ldc F 1 rfl rfl rfl rfl rfl rfl rfl ?_ | refine l_ld0 rfl rfl rfl rfl rfl (by assumption) ?_ | refine l_ldj rfl rfl rfl rfl rfl rfl (by assumption) rfl ?_ | refine l_ldc F 0 rfl rfl rfl rfl rfl rfl rfl ?_ | refine l_ldc F 1 rfl rfl rfl rfl rfl rfl rfl ?_ | refine l_ldc F 2 rfl rfl rfl rfl rfl rfl rfl ?_ | refine l_ldc F 3 rfl rfl rfl rfl rfl rfl rfl ?_ | refine l_ldc F 4 rfl rfl rfl rfl rfl rfl rfl ?_ | refine l_ldc F 5 rfl rfl rfl rfl rfl rfl rfl ?_ | refine l_ldc F 6 rfl rfl rfl rfl rfl rfl rfl ?_ | refine l_ldc F 7 rfl rfl rfl rfl rfl rfl rfl ?_ | refine l_ldc F 8 rfl rfl rfl rfl rfl rfl rfl ?_ | refine l_ldc F 9 rfl rfl rfl rfl rfl rfl rfl ?_ | refine l_lda rfl rfl rfl rfl rfl (by assumption) ?_ | refine l_ldca F 0 rfl rfl rfl rfl rfl rfl rfl ?_ | refine l_ldca F 1 rfl rfl rfl rfl rfl rfl rfl ?_ | refine l_ldca F 2 rfl rfl rfl rfl rfl rfl rfl ?_ | refine l_ldca F 3 rfl rfl rfl rfl rfl rfl rfl ?_ | refine l_ldca F 4 rfl rfl rfl rfl rfl rfl rfl ?_ | refine l_ldca F 5 rfl rfl rfl rfl rfl rfl rfl ?_ | refine l_ldca F 6 rfl rfl rfl rfl rfl rfl rfl ?_ | refine l_ldca F 7 rfl rfl rfl rfl rfl rfl rfl ?_ | refine l_ldca F 8 rfl rfl rfl rfl rfl rfl rfl ?_ | refine l_ldca F 9 rfl rfl rfl rfl rfl rfl rfl ?_ | refine l_ldo F (by assumption) rfl rfl rfl rfl rfl rfl ?_ | refine l_ldoa F (by assumption) rfl rfl rfl rfl rfl rfl ?_
  first | refine l_op 2 rfl rfl rfl rfl rfl ?_ | refine l_ln rfl rfl rfl rfl ?_
  refine l_cmp rfl rfl rfl rfl ?_
  refine l_op 2 rfl rfl rfl rfl rfl ?_
  refine l_nil (WK.nx (by assumption) ?_)
  refine SeqK.nx (by assumption) ?_
  refine l_cond rfl rfl (fun hc2 => ?_) (fun hc2 => ?_)
  · first | replace hc2 := bne_iff_ne.1 ((irr_eq _).symm.trans hc2) | simp only [irr_eq, bne_iff_ne, bne_eq_false_iff_eq, ne_eq, decide_eq_true_eq, decide_eq_false_iff_not, Bool.not_eq_true', Bool.not_eq_false'] at hc2
    have hr : encR sgR op ars = none := by
      unfold encR sgR
      rw [hS]
      by_cases hb : sp.2 = true
      · rw [if_pos hb]
        simp only
        rw [if_pos (by rw [ltr_length]; intro e; simp_all)]
      · rw [if_neg hb]
    refine k_seq (fun Q K => ?_)
    refine k_lin (fun W K => ?_)
    refine l_op 0 rfl rfl rfl rfl rfl ?_
    refine l_op 0 rfl rfl rfl rfl rfl ?_
    refine l_nil (WK.nx (by assumption) ?_)
    refine SeqK.nx (by assumption) ?_
    refine k_ret ?_
    refine SeqK.rt (by assumption) ?_
    refine FunK.rt (by assumption) rfl ?_
    -- leaf 2
    first
      | (rw [hr]; exact ⟨(none, 0), rfl, F.pick [0] (by decide), trivial⟩)
      | (rw [hr]; exact ⟨yr, rfl, F.pick [6] (by decide), trivial⟩)
  first | replace hc2 := bne_eq_false_iff_eq.1 ((irr_eq _).symm.trans hc2) | simp only [irr_eq, bne_iff_ne, bne_eq_false_iff_eq, ne_eq, decide_eq_true_eq, decide_eq_false_iff_not, Bool.not_eq_true', Bool.not_eq_false'] at hc2
  have hsg : sgR op = some (ltr sp.1) := by unfold sgR; rw [hS, if_pos (by simp_all)]
  have hdom := sg_dom op (by rw [hsg]; simp)
  have hsl : (ltr sp.1).length = ars.length := by rw [ltr_length]; omega
  have hms : (ars.map Prod.fst).length = ars.length := List.length_map ..
  refine k_skip ?_
  refine SeqK.nx (by assumption) ?_
  refine k_seq (fun Q K => ?_)
  refine k_lin (fun W K => ?_)
  refine l_op 0 rfl rfl rfl rfl rfl ?_
  refine l_nil (WK.nx (by assumption) ?_)
  refine SeqK.nx (by assumption) ?_
  refine k_seq (fun Q K => ?_)
  refine k_seq (fun Q K => ?_)
  refine k_lin (fun W K => ?_)
  refine l_op 2 rfl rfl rfl rfl rfl ?_
  first | refine l_ldc F 5 rfl rfl rfl rfl rfl rfl rfl ?_ | refine l_ldc F 1 rfl rfl rfl rfl rfl rfl rfl ?_ | refine l_ld0 rfl rfl rfl rfl rfl (by assumption) ?_ | refine l_ldj rfl rfl rfl rfl rfl rfl (by assumption) rfl ?_ | refine l_ldc F 0 rfl rfl rfl rfl rfl rfl rfl ?_ | refine l_ldc F 1 rfl rfl rfl rfl rfl rfl rfl ?_ | refine l_ldc F 2 rfl rfl rfl rfl rfl rfl rfl ?_ | refine l_ldc F 3 rfl rfl rfl rfl rfl rfl rfl ?_ | refine l_ldc F 4 rfl rfl rfl rfl rfl rfl rfl ?_ | refine l_ldc F 5 rfl rfl rfl rfl rfl rfl rfl ?_ | refine l_ldc F 6 rfl rfl rfl rfl rfl rfl rfl ?_ | refine l_ldc F 7 rfl rfl rfl rfl rfl rfl rfl ?_ | refine l_ldc F 8 rfl rfl rfl rfl rfl rfl rfl ?_ | refine l_ldc F 9 rfl rfl rfl rfl rfl rfl rfl ?_ | refine l_lda rfl rfl rfl rfl rfl (by assumption) ?_ | refine l_ldca F 0 rfl rfl rfl rfl rfl rfl rfl ?_ | refine l_ldca F 1 rfl rfl rfl rfl rfl rfl rfl ?_ | refine l_ldca F 2 rfl rfl rfl rfl rfl rfl rfl ?_ | refine l_ldca F 3 rfl rfl rfl rfl rfl rfl rfl ?_ | refine l_ldca F 4 rfl rfl rfl rfl rfl rfl rfl ?_ | refine l_ldca F 5 rfl rfl rfl rfl rfl rfl rfl ?_ | refine l_ldca F 6 rfl rfl rfl rfl rfl rfl rfl ?_ | refine l_ldca F 7 rfl rfl rfl rfl rfl rfl rfl ?_ | refine l_ldca F 8 rfl rfl rfl rfl rfl rfl rfl ?_ | refine l_ldca F 9 rfl rfl rfl rfl rfl rfl rfl ?_ | refine l_ldo F (by assumption) rfl rfl rfl rfl rfl rfl ?_ | refine l_ldoa F (by assumption) rfl rfl rfl rfl rfl rfl ?_
  refine l_cmp rfl rfl rfl rfl ?_
  refine l_nil (WK.nx (by assumption) ?_)
  refine SeqK.nx (by assumption) ?_
  refine l_cond rfl rfl (fun hc3 => ?_) (fun hc3 => ?_)
  · replace hc3 := of_decide_eq_true ((irr_eq _).symm.trans hc3)
    refine k_lin (fun W K => ?_)
    refine l_op 2 rfl rfl rfl rfl rfl ?_
    first | refine l_ldc F 5 rfl rfl rfl rfl rfl rfl rfl ?_ | refine l_ldc F 1 rfl rfl rfl rfl rfl rfl rfl ?_ | refine l_ld0 rfl rfl rfl rfl rfl (by assumption) ?_ | refine l_ldj rfl rfl rfl rfl rfl rfl (by assumption) rfl ?_ | refine l_ldc F 0 rfl rfl rfl rfl rfl rfl rfl ?_ | refine l_ldc F 1 rfl rfl rfl rfl rfl rfl rfl ?_ | refine l_ldc F 2 rfl rfl rfl rfl rfl rfl rfl ?_ | refine l_ldc F 3 rfl rfl rfl rfl rfl rfl rfl ?_ | refine l_ldc F 4 rfl rfl rfl rfl rfl rfl rfl ?_ | refine l_ldc F 5 rfl rfl rfl rfl rfl rfl rfl ?_ | refine l_ldc F 6 rfl rfl rfl rfl rfl rfl rfl ?_ | refine l_ldc F 7 rfl rfl rfl rfl rfl rfl rfl ?_ | refine l_ldc F 8 rfl rfl rfl rfl rfl rfl rfl ?_ | refine l_ldc F 9 rfl rfl rfl rfl rfl rfl rfl ?_ | refine l_lda rfl rfl rfl rfl rfl (by assumption) ?_ | refine l_ldca F 0 rfl rfl rfl rfl rfl rfl rfl ?_ | refine l_ldca F 1 rfl rfl rfl rfl rfl rfl rfl ?_ | refine l_ldca F 2 rfl rfl rfl rfl rfl rfl rfl ?_ | refine l_ldca F 3 rfl rfl rfl rfl rfl rfl rfl ?_ | refine l_ldca F 4 rfl rfl rfl rfl rfl rfl rfl ?_ | refine l_ldca F 5 rfl rfl rfl rfl rfl rfl rfl ?_ | refine l_ldca F 6 rfl rfl rfl rfl rfl rfl rfl ?_ | refine l_ldca F 7 rfl rfl rfl rfl rfl rfl rfl ?_ | refine l_ldca F 8 rfl rfl rfl rfl rfl rfl rfl ?_ | refine l_ldca F 9 rfl rfl rfl rfl rfl rfl rfl ?_ | refine l_ldo F (by assumption) rfl rfl rfl rfl rfl rfl ?_ | refine l_ldoa F (by assumption) rfl rfl rfl rfl rfl rfl ?_
    have eb : opB op = putR op 1 := if_pos (by assumption)
    refine l_callp F rfl rfl (by kernel_rfl) rfl rfl (wput_call (x := op) (n := 1) hop) (fun yb s F _ => ?_)
    (try dsimp only [n_1, n_2, n_3, n_4, List.append_nil, pk, n_5, n_6] at F)
    rw [← eb] at F ⊢
    refine l_op 0 rfl rfl rfl rfl rfl ?_
    refine l_nil (WK.nx (by assumption) ?_)
    refine SeqK.nx (by assumption) ?_
    refine k_seq (fun Q K => ?_)
    refine k_lin (fun W K => ?_)
    refine l_op 0 rfl rfl rfl rfl rfl ?_
    first | refine l_op 2 rfl rfl rfl rfl rfl ?_ | refine l_ln rfl rfl rfl rfl ?_
    refine l_a64 rfl rfl rfl (by omega) rfl ?_
    first | refine l_quon rfl rfl rfl rfl rfl (by omega) rfl ?_ | refine l_quou64 rfl rfl rfl rfl rfl (by omega) rfl ?_ | refine l_quou32 rfl rfl rfl rfl rfl (by omega) rfl ?_ | refine l_quo rfl rfl rfl rfl rfl (by omega) rfl ?_
    refine l_mk F rfl rfl rfl rfl rfl rfl rfl (by omega) (fun q41 s F => ?_)
    (try dsimp only [n_1, n_2, n_3, n_4, List.append_nil, pk, n_5, n_6] at F)
    refine l_op 0 rfl rfl rfl rfl rfl ?_
    refine l_nil (WK.nx (by assumption) ?_)
    refine SeqK.nx (by assumption) ?_
    refine k_seq (fun Q K => ?_)
    refine k_lin (fun W K => ?_)
    refine l_op 0 rfl rfl rfl rfl rfl ?_
    refine l_nil (WK.nx (by assumption) ?_)
    refine SeqK.nx (by assumption) ?_
    refine k_seq (fun Q K => ?_)
    refine k_seq (fun Q K => ?_)
    refine k_lin (fun W K => ?_)
    refine l_op 2 rfl rfl rfl rfl rfl ?_
    first | refine l_ldc F 5 rfl rfl rfl rfl rfl rfl rfl ?_ | refine l_ldc F 1 rfl rfl rfl rfl rfl rfl rfl ?_ | refine l_ld0 rfl rfl rfl rfl rfl (by assumption) ?_ | refine l_ldj rfl rfl rfl rfl rfl rfl (by assumption) rfl ?_ | refine l_ldc F 0 rfl rfl rfl rfl rfl rfl rfl ?_ | refine l_ldc F 1 rfl rfl rfl rfl rfl rfl rfl ?_ | refine l_ldc F 2 rfl rfl rfl rfl rfl rfl rfl ?_ | refine l_ldc F 3 rfl rfl rfl rfl rfl rfl rfl ?_ | refine l_ldc F 4 rfl rfl rfl rfl rfl rfl rfl ?_ | refine l_ldc F 5 rfl rfl rfl rfl rfl rfl rfl ?_ | refine l_ldc F 6 rfl rfl rfl rfl rfl rfl rfl ?_ | refine l_ldc F 7 rfl rfl rfl rfl rfl rfl rfl ?_ | refine l_ldc F 8 rfl rfl rfl rfl rfl rfl rfl ?_ | refine l_ldc F 9 rfl rfl rfl rfl rfl rfl rfl ?_ | refine l_lda rfl rfl rfl rfl rfl (by assumption) ?_ | refine l_ldca F 0 rfl rfl rfl rfl rfl rfl rfl ?_ | refine l_ldca F 1 rfl rfl rfl rfl rfl rfl rfl ?_ | refine l_ldca F 2 rfl rfl rfl rfl rfl rfl rfl ?_ | refine l_ldca F 3 rfl rfl rfl rfl rfl rfl rfl ?_ | refine l_ldca F 4 rfl rfl rfl rfl rfl rfl rfl ?_ | refine l_ldca F 5 rfl rfl rfl rfl rfl rfl rfl ?_ | refine l_ldca F 6 rfl rfl rfl rfl rfl rfl rfl ?_ | refine l_ldca F 7 rfl rfl rfl rfl rfl rfl rfl ?_ | refine l_ldca F 8 rfl rfl rfl rfl rfl rfl rfl ?_ | refine l_ldca F 9 rfl rfl rfl rfl rfl rfl rfl ?_ | refine l_ldo F (by assumption) rfl rfl rfl rfl rfl rfl ?_ | refine l_ldoa F (by assumption) rfl rfl rfl rfl rfl rfl ?_
    first | refine l_op 2 rfl rfl rfl rfl rfl ?_ | refine l_ln rfl rfl rfl rfl ?_
    refine l_op 0 rfl rfl rfl rfl rfl ?_
    refine l_nil (WK.nx (by assumption) ?_)
    refine SeqK.nx (by assumption) ?_
    refine k_block (fun Q K => ?_)
    obtain ⟨ms, hmd⟩ : ∃ ms, ars.map Prod.fst = ms := ⟨_, rfl⟩
    rw [hmd] at hms
    have hmg : ∀ j : Nat, j < ars.length → ms.getD j 0 = (ars.getD j default).1 := fun j hj => by rw [← hmd]; simp [List.getD, hj]
    generalize hK : ((((sp.1.size : Nat) : Int) + 1) / 2).toNat = km at F ⊢
    have hkm : km = (ms.length + 1) / 2 := by omega
    have F := F.nilrow 1
    have F : Facts E0 σ s [own none 0 0 1 [], cel q1 [.int .u32 op, .slice ax ars.length cx], own yb.1 (opB op).length yb.2 1 (u8l (opB op)), own (some ⟨q41, 0, some 0⟩) km km 1 (u8l (pkz ms 0)), own none 0 0 1 []] := by
      rw [pkz_zero, ← hkm, ← zrow8]
      exact F
    refine k_loop (α := Int × Option Addr × Nat) (fun ⟨i, yd, cd⟩ s => Facts E0 σ s [own none 0 0 1 [], cel q1 [.int .u32 op, .slice ax ars.length cx], own yb.1 (opB op).length yb.2 1 (u8l (opB op)), own (some ⟨q41, 0, some 0⟩) km km 1 (u8l (pkz ms i.toNat)), own yd (dataR (ars.take i.toNat)).length cd 1 (u8l (dataR (ars.take i.toNat)))] ∧ 0 ≤ i ∧ i ≤ ars.length ∧ ∀ j : Nat, j < i → mayR ((ltr sp.1).getD j 0) (ars.getD j default).1 = true ∧ tellsR (ars.getD j default).1 (ars.getD j default).2 = true) (fun ⟨i, yd, cd⟩ => [(4, .string sp.1), (6, .slice yb.1 (opB op).length yb.2), (7, .slice (some ⟨q41, 0, some 0⟩) km km), (8, .slice yd (dataR (ars.take i.toNat)).length cd), (43, .slice ax ars.length cx), (44, .int .i64 ars.length), (45, .int .i64 i)]) (fun ⟨i, _⟩ => (ars.length - i).toNat) (0, none, 0) ⟨F, by omega, by omega, fun j hj => by omega⟩ (by repeat (first | exact trivial | refine And.intro rfl ?_)) ?_
    clear F
    rintro ⟨i, yd, cd⟩ env s Q K0 ⟨F, i0, i1, hok⟩
    refine k_seq (fun Q K => ?_)
    refine k_lin (fun W K => ?_)
    refine l_cmp rfl rfl rfl rfl ?_
    refine l_nil (WK.nx (by assumption) ?_)
    refine SeqK.nx (by assumption) ?_
    refine k_seq (fun Q K => ?_)
    refine l_cond rfl rfl (fun hc4 => ?_) (fun hc4 => ?_)
    · replace hc4 := of_decide_eq_true ((irr_eq _).symm.trans hc4)
      have hi : i.toNat < ars.length := by omega
      have hAi := hA.at i.toNat
      have hdl := dataR_len (ars.take i.toNat)
      rw [List.length_take] at hdl
      refine k_skip ?_
      refine SeqK.nx (by assumption) ?_
      refine k_seq (fun Q K => ?_)
      refine k_block (fun Q K => ?_)
      refine k_seq (fun Q K => ?_)
      refine k_lin (fun W K => ?_)
      refine l_op 0 rfl rfl rfl rfl rfl ?_
      refine l_ixr (e := eO) rfl rfl rfl rfl rfl rfl (F.old h) ⟨eO_len, by decide⟩ (by omega) (fun m48 b48 hA48 => ?_)
      refine l_lda (ws := eO (ars.getD i.toNat default)) rfl rfl rfl rfl rfl hA48 ?_
      refine l_al F rfl rfl rfl rfl (fun q10 s F => ?_)
      (try dsimp only [n_1, n_2, n_3, n_4, List.append_nil, pk, n_5, n_6] at F)
      refine l_op 0 rfl rfl rfl rfl rfl ?_
      refine l_stca F 5 rfl rfl rfl rfl rfl rfl rfl rfl rfl rfl hD rfl (fun s F => ?_)
      (try dsimp only [n_1, n_2, n_3, n_4, List.append_nil, pk, n_5, n_6] at F)
      refine l_nil (WK.nx (by assumption) ?_)
      refine SeqK.nx (by assumption) ?_
      refine k_seq (fun Q K => ?_)
      refine k_seq (fun Q K => ?_)
      refine k_linr mixed (by kernel_rfl) (fun W K => ?_)
      try have hpS := F.pns
      refine l_op 0 rfl rfl rfl rfl rfl ?_
      refine l_op 0 rfl rfl rfl rfl rfl ?_
      refine l_sx rfl rfl rfl rfl rfl (by omega) ?_
      refine l_op 2 rfl rfl rfl rfl rfl ?_
      first | refine l_ldc F 5 rfl rfl rfl rfl rfl rfl rfl ?_ | refine l_ldc F 1 rfl rfl rfl rfl rfl rfl rfl ?_ | refine l_ld0 rfl rfl rfl rfl rfl (by assumption) ?_ | refine l_ldj rfl rfl rfl rfl rfl rfl (by assumption) rfl ?_ | refine l_ldc F 0 rfl rfl rfl rfl rfl rfl rfl ?_ | refine l_ldc F 1 rfl rfl rfl rfl rfl rfl rfl ?_ | refine l_ldc F 2 rfl rfl rfl rfl rfl rfl rfl ?_ | refine l_ldc F 3 rfl rfl rfl rfl rfl rfl rfl ?_ | refine l_ldc F 4 rfl rfl rfl rfl rfl rfl rfl ?_ | refine l_ldc F 5 rfl rfl rfl rfl rfl rfl rfl ?_ | refine l_ldc F 6 rfl rfl rfl rfl rfl rfl rfl ?_ | refine l_ldc F 7 rfl rfl rfl rfl rfl rfl rfl ?_ | refine l_ldc F 8 rfl rfl rfl rfl rfl rfl rfl ?_ | refine l_ldc F 9 rfl rfl rfl rfl rfl rfl rfl ?_ | refine l_lda rfl rfl rfl rfl rfl (by assumption) ?_ | refine l_ldca F 0 rfl rfl rfl rfl rfl rfl rfl ?_ | refine l_ldca F 1 rfl rfl rfl rfl rfl rfl rfl ?_ | refine l_ldca F 2 rfl rfl rfl rfl rfl rfl rfl ?_ | refine l_ldca F 3 rfl rfl rfl rfl rfl rfl rfl ?_ | refine l_ldca F 4 rfl rfl rfl rfl rfl rfl rfl ?_ | refine l_ldca F 5 rfl rfl rfl rfl rfl rfl rfl ?_ | refine l_ldca F 6 rfl rfl rfl rfl rfl rfl rfl ?_ | refine l_ldca F 7 rfl rfl rfl rfl rfl rfl rfl ?_ | refine l_ldca F 8 rfl rfl rfl rfl rfl rfl rfl ?_ | refine l_ldca F 9 rfl rfl rfl rfl rfl rfl rfl ?_ | refine l_ldo F (by assumption) rfl rfl rfl rfl rfl rfl ?_ | refine l_ldoa F (by assumption) rfl rfl rfl rfl rfl rfl ?_
      first | have hpS := PnS.add hpS hS10 | have hpS := PnS.add hpS (OldC.sf (by assumption)) | skip
      have hpA := PnA.cel F 5 rfl pna_nil
      refine l_callp F rfl rfl (by kernel_rfl) rfl rfl may_call (fun _ s F _ => ?_)
      (try dsimp only [n_1, n_2, n_3, n_4, List.append_nil, pk, n_5, n_6] at F)
      refine l_op 2 rfl rfl rfl rfl rfl ?_
      refine l_op 0 rfl rfl rfl rfl rfl ?_
      refine l_guard rfl rfl rfl (fun hc5 => ?_) (fun hc5 => ?_)
      · try simp only [irr_eq, beq_iff_eq, bne_iff_ne, beq_eq_false_iff_ne, bne_eq_false_iff_eq, ne_eq, decide_eq_true_eq, decide_eq_false_iff_not, Bool.not_eq_true', Bool.not_eq_false'] at hc5
        have hr : encR sgR op ars = none := by
          unfold encR
          rw [hsg]
          simp only
          rw [if_neg (by omega), if_pos (okArgs_not _ _ i.toNat (by omega) hi (.inl hc5))]
        refine l_s rfl rfl ?_
        refine l_s rfl rfl ?_
        refine l_s rfl rfl ?_
        refine l_op 2 rfl rfl rfl rfl rfl ?_
        refine l_nil (WK.nx (by assumption) ?_)
        refine SeqK.nx (by assumption) ?_
        first | refine e_cond_t rfl rfl rfl ?_ | refine e_cond_t rfl rfl (by rw [irr_eq]; first | exact beq_iff_eq.2 (by assumption) | exact decide_eq_true (by assumption) | exact bne_iff_ne.2 (by assumption)) ?_
        refine k_seq (fun Q K => ?_)
        refine k_lin (fun W K => ?_)
        refine l_op 0 rfl rfl rfl rfl rfl ?_
        refine l_op 0 rfl rfl rfl rfl rfl ?_
        refine l_nil (WK.nx (by assumption) ?_)
        refine SeqK.nx (by assumption) ?_
        refine k_ret ?_
        refine SeqK.rt (by assumption) ?_
        refine BlkK.rt (by assumption) ?_
        refine SeqK.rt (by assumption) ?_
        refine LoopK.rt (by assumption) ?_
        refine BlkK.rt (by assumption) ?_
        refine SeqK.rt (by assumption) ?_
        refine FunK.rt (by assumption) rfl ?_
        -- leaf 3
        first
          | (rw [hr]; exact ⟨(none, 0), rfl, F.pick [0] (by decide), trivial⟩)
          | (rw [hr]; exact ⟨yr, rfl, F.pick [6] (by decide), trivial⟩)
      try simp only [irr_eq, beq_iff_eq, bne_iff_ne, beq_eq_false_iff_ne, bne_eq_false_iff_eq, ne_eq, decide_eq_true_eq, decide_eq_false_iff_not, Bool.not_eq_true', Bool.not_eq_false'] at hc5
      have hmayi := hc5
      have hsi := may_sz hmayi
      obtain ⟨z0, z1, z2, z3⟩ := szm_cases hsi
      refine l_ldca F 5 rfl rfl rfl rfl rfl rfl rfl ?_
      have hpA := PnA.cel F 5 rfl (PnA.cel F 5 rfl pna_nil)
      refine l_callp F rfl rfl (by kernel_rfl) rfl rfl (tells_call hsi hAi) (fun _ s F _ => ?_)
      (try dsimp only [n_1, n_2, n_3, n_4, List.append_nil, pk, n_5, n_6] at F)
      refine l_op 2 rfl rfl rfl rfl rfl ?_
      refine l_op 2 rfl rfl rfl rfl rfl ?_
      refine l_nil (WK.nx (by assumption) ?_)
      refine SeqK.nx (by assumption) ?_
      refine l_cond rfl rfl (fun hc6 => ?_) (fun hc6 => ?_)
      · try simp only [irr_eq, beq_iff_eq, bne_iff_ne, beq_eq_false_iff_ne, bne_eq_false_iff_eq, ne_eq, decide_eq_true_eq, decide_eq_false_iff_not, Bool.not_eq_true', Bool.not_eq_false'] at hc6
        have hr : encR sgR op ars = none := by
          unfold encR
          rw [hsg]
          simp only
          rw [if_neg (by omega), if_pos (okArgs_not _ _ i.toNat (by omega) hi (.inr hc6))]
        refine k_seq (fun Q K => ?_)
        refine k_lin (fun W K => ?_)
        refine l_op 0 rfl rfl rfl rfl rfl ?_
        refine l_op 0 rfl rfl rfl rfl rfl ?_
        refine l_nil (WK.nx (by assumption) ?_)
        refine SeqK.nx (by assumption) ?_
        refine k_ret ?_
        refine SeqK.rt (by assumption) ?_
        refine BlkK.rt (by assumption) ?_
        refine SeqK.rt (by assumption) ?_
        refine LoopK.rt (by assumption) ?_
        refine BlkK.rt (by assumption) ?_
        refine SeqK.rt (by assumption) ?_
        refine FunK.rt (by assumption) rfl ?_
        -- leaf 4
        first
          | (rw [hr]; exact ⟨(none, 0), rfl, F.pick [0] (by decide), trivial⟩)
          | (rw [hr]; exact ⟨yr, rfl, F.pick [6] (by decide), trivial⟩)
      try simp only [irr_eq, beq_iff_eq, bne_iff_ne, beq_eq_false_iff_ne, bne_eq_false_iff_eq, ne_eq, decide_eq_true_eq, decide_eq_false_iff_not, Bool.not_eq_true', Bool.not_eq_false'] at hc6
      have htells := hc6
      have ed : (i / 2).toNat = i.toNat / 2 := by omega
      have hpa := pkz_at (ms := ms) (i := i.toNat) (j := i.toNat / 2) (by omega)
      have hxx : i.toNat % 2 = 0 ∧ (pkz ms i.toNat).getD (i / 2).toNat 0 = 0 ∨ i.toNat % 2 = 1 ∧ 0 ≤ (pkz ms i.toNat).getD (i / 2).toNat 0 ∧ (pkz ms i.toNat).getD (i / 2).toNat 0 ≤ 15 := by
        rw [ed, hpa]
        rcases (by omega : i.toNat % 2 = 0 ∨ i.toNat % 2 = 1) with hp | hp
        · exact .inl ⟨hp, by rw [if_neg (by omega), if_neg (by omega)]; rfl⟩
        · rw [if_pos (by omega), if_neg (by omega), hmg _ (by omega)]
          have := szm_cases (may_sz (hok (2 * (i.toNat / 2)) (by omega)).1)
          exact .inr ⟨hp, by omega, by omega⟩
      refine k_skip ?_
      refine SeqK.nx (by assumption) ?_
      refine k_seq (fun Q K => ?_)
      refine k_linm [0, 1, 2, 3, 5, 8, 9, 10, 4, 6, 7, 11, 12, 13, 14] mixed (by kernel_rfl) (fun W K => ?_)
      try have hpS := F.pns
      refine l_op 0 rfl rfl rfl rfl rfl ?_
      refine l_op 0 rfl rfl rfl rfl rfl ?_
      first | refine l_quon rfl rfl rfl rfl rfl (by omega) rfl ?_ | refine l_quou64 rfl rfl rfl rfl rfl (by omega) rfl ?_ | refine l_quou32 rfl rfl rfl rfl rfl (by omega) rfl ?_ | refine l_quo rfl rfl rfl rfl rfl (by omega) rfl ?_
      first | (refine l_ixs F (by assumption) rfl rfl rfl rfl rfl rfl (by omega) (fun m65 b65 hA65 hS65 => ?_)) | refine l_ixi rfl rfl rfl rfl rfl rfl (F.old (by assumption)) (by omega) (fun m65 b65 hA65 => ?_) | (refine l_ixoi F 0 rfl rfl rfl rfl rfl rfl rfl (by omega) (fun m e ha hA65 => ?_); cases ha) | (refine l_ixoi F 1 rfl rfl rfl rfl rfl rfl rfl (by omega) (fun m e ha hA65 => ?_); cases ha) | (refine l_ixoi F 2 rfl rfl rfl rfl rfl rfl rfl (by omega) (fun m e ha hA65 => ?_); cases ha) | (refine l_ixoi F 3 rfl rfl rfl rfl rfl rfl rfl (by omega) (fun m e ha hA65 => ?_); cases ha)
      refine l_op 2 rfl rfl rfl rfl rfl ?_
      refine l_op 0 rfl rfl rfl rfl rfl ?_
      first | refine l_remn rfl rfl rfl rfl rfl (by omega) rfl ?_ | refine l_rem rfl rfl rfl rfl rfl (by omega) rfl ?_
      refine l_a64 rfl rfl rfl (by omega) rfl ?_
      first | refine l_ldc F 5 rfl rfl rfl rfl rfl rfl rfl ?_ | refine l_ldc F 1 rfl rfl rfl rfl rfl rfl rfl ?_ | refine l_ld0 rfl rfl rfl rfl rfl (by assumption) ?_ | refine l_ldj rfl rfl rfl rfl rfl rfl (by assumption) rfl ?_ | refine l_ldc F 0 rfl rfl rfl rfl rfl rfl rfl ?_ | refine l_ldc F 1 rfl rfl rfl rfl rfl rfl rfl ?_ | refine l_ldc F 2 rfl rfl rfl rfl rfl rfl rfl ?_ | refine l_ldc F 3 rfl rfl rfl rfl rfl rfl rfl ?_ | refine l_ldc F 4 rfl rfl rfl rfl rfl rfl rfl ?_ | refine l_ldc F 5 rfl rfl rfl rfl rfl rfl rfl ?_ | refine l_ldc F 6 rfl rfl rfl rfl rfl rfl rfl ?_ | refine l_ldc F 7 rfl rfl rfl rfl rfl rfl rfl ?_ | refine l_ldc F 8 rfl rfl rfl rfl rfl rfl rfl ?_ | refine l_ldc F 9 rfl rfl rfl rfl rfl rfl rfl ?_ | refine l_lda rfl rfl rfl rfl rfl (by assumption) ?_ | refine l_ldca F 0 rfl rfl rfl rfl rfl rfl rfl ?_ | refine l_ldca F 1 rfl rfl rfl rfl rfl rfl rfl ?_ | refine l_ldca F 2 rfl rfl rfl rfl rfl rfl rfl ?_ | refine l_ldca F 3 rfl rfl rfl rfl rfl rfl rfl ?_ | refine l_ldca F 4 rfl rfl rfl rfl rfl rfl rfl ?_ | refine l_ldca F 5 rfl rfl rfl rfl rfl rfl rfl ?_ | refine l_ldca F 6 rfl rfl rfl rfl rfl rfl rfl ?_ | refine l_ldca F 7 rfl rfl rfl rfl rfl rfl rfl ?_ | refine l_ldca F 8 rfl rfl rfl rfl rfl rfl rfl ?_ | refine l_ldca F 9 rfl rfl rfl rfl rfl rfl rfl ?_ | refine l_ldo F (by assumption) rfl rfl rfl rfl rfl rfl ?_ | refine l_ldoa F (by assumption) rfl rfl rfl rfl rfl rfl ?_
      first | have hpS := PnS.add hpS hS65 | have hpS := PnS.add hpS (OldC.sf (by assumption)) | skip
      first | refine l_ldc F 5 rfl rfl rfl rfl rfl rfl rfl ?_ | refine l_ldc F 1 rfl rfl rfl rfl rfl rfl rfl ?_ | refine l_ld0 rfl rfl rfl rfl rfl (by assumption) ?_ | refine l_ldj rfl rfl rfl rfl rfl rfl (by assumption) rfl ?_ | refine l_ldc F 0 rfl rfl rfl rfl rfl rfl rfl ?_ | refine l_ldc F 1 rfl rfl rfl rfl rfl rfl rfl ?_ | refine l_ldc F 2 rfl rfl rfl rfl rfl rfl rfl ?_ | refine l_ldc F 3 rfl rfl rfl rfl rfl rfl rfl ?_ | refine l_ldc F 4 rfl rfl rfl rfl rfl rfl rfl ?_ | refine l_ldc F 5 rfl rfl rfl rfl rfl rfl rfl ?_ | refine l_ldc F 6 rfl rfl rfl rfl rfl rfl rfl ?_ | refine l_ldc F 7 rfl rfl rfl rfl rfl rfl rfl ?_ | refine l_ldc F 8 rfl rfl rfl rfl rfl rfl rfl ?_ | refine l_ldc F 9 rfl rfl rfl rfl rfl rfl rfl ?_ | refine l_lda rfl rfl rfl rfl rfl (by assumption) ?_ | refine l_ldca F 0 rfl rfl rfl rfl rfl rfl rfl ?_ | refine l_ldca F 1 rfl rfl rfl rfl rfl rfl rfl ?_ | refine l_ldca F 2 rfl rfl rfl rfl rfl rfl rfl ?_ | refine l_ldca F 3 rfl rfl rfl rfl rfl rfl rfl ?_ | refine l_ldca F 4 rfl rfl rfl rfl rfl rfl rfl ?_ | refine l_ldca F 5 rfl rfl rfl rfl rfl rfl rfl ?_ | refine l_ldca F 6 rfl rfl rfl rfl rfl rfl rfl ?_ | refine l_ldca F 7 rfl rfl rfl rfl rfl rfl rfl ?_ | refine l_ldca F 8 rfl rfl rfl rfl rfl rfl rfl ?_ | refine l_ldca F 9 rfl rfl rfl rfl rfl rfl rfl ?_ | refine l_ldo F (by assumption) rfl rfl rfl rfl rfl rfl ?_ | refine l_ldoa F (by assumption) rfl rfl rfl rfl rfl rfl ?_
      first | have hpS := PnS.add hpS hS10 | have hpS := PnS.add hpS (OldC.sf (by assumption)) | skip
      refine l_c8 rfl rfl rfl (by omega) rfl ?_
      refine l_sh ((if i.toNat % 2 = 0 then 1 else 16) * (ars.getD i.toNat default).1) rfl rfl rfl rfl rfl (by omega) (.inr ⟨rfl, shl8 ⟨by omega, by omega⟩ i0⟩) ?_
      refine l_op 2 rfl rfl rfl (congrArg (Value.int .u8) (or8 (i := i.toNat) hxx ⟨by omega, by omega⟩)) rfl ?_
      first | (refine l_ixs F (by assumption) rfl rfl rfl rfl rfl rfl (by omega) (fun m75 b75 hA75 hS75 => ?_)) | refine l_ixi rfl rfl rfl rfl rfl rfl (F.old (by assumption)) (by omega) (fun m75 b75 hA75 => ?_) | (refine l_ixoi F 0 rfl rfl rfl rfl rfl rfl rfl (by omega) (fun m e ha hA75 => ?_); cases ha) | (refine l_ixoi F 1 rfl rfl rfl rfl rfl rfl rfl (by omega) (fun m e ha hA75 => ?_); cases ha) | (refine l_ixoi F 2 rfl rfl rfl rfl rfl rfl rfl (by omega) (fun m e ha hA75 => ?_); cases ha) | (refine l_ixoi F 3 rfl rfl rfl rfl rfl rfl rfl (by omega) (fun m e ha hA75 => ?_); cases ha)
      refine l_rs (by kernel_rfl) ?_
      refine l_stoi F 3 rfl rfl rfl rfl rfl rfl rfl (by omega) hD (fun s F => ?_)
      (try dsimp only [n_1, n_2, n_3, n_4, List.append_nil, pk, n_5, n_6] at F)
      have hset : (pkz ms i.toNat).set (i.toNat / 2) ((pkz ms i.toNat).getD (i.toNat / 2) 0 + (if i.toNat % 2 = 0 then 1 else 16) * (ars.getD i.toNat default).1) = pkz ms (i.toNat + 1) := by
        rw [← hmg _ hi]; exact pkz_step (by omega)
      rw [ed, hset] at F
      refine l_nil (WK.nx (by assumption) ?_)
      refine SeqK.nx (by assumption) ?_
      refine k_linm [0, 1, 3, 2, 4, 5, 6, 7, 8] mixed (by kernel_rfl) (fun W K => ?_)
      try have hpS := F.pns
      refine l_op 0 rfl rfl rfl rfl rfl ?_
      refine l_op 2 rfl rfl rfl rfl rfl ?_
      refine l_op 2 rfl rfl rfl rfl rfl ?_
      first | refine l_ldc F 5 rfl rfl rfl rfl rfl rfl rfl ?_ | refine l_ldc F 1 rfl rfl rfl rfl rfl rfl rfl ?_ | refine l_ld0 rfl rfl rfl rfl rfl (by assumption) ?_ | refine l_ldj rfl rfl rfl rfl rfl rfl (by assumption) rfl ?_ | refine l_ldc F 0 rfl rfl rfl rfl rfl rfl rfl ?_ | refine l_ldc F 1 rfl rfl rfl rfl rfl rfl rfl ?_ | refine l_ldc F 2 rfl rfl rfl rfl rfl rfl rfl ?_ | refine l_ldc F 3 rfl rfl rfl rfl rfl rfl rfl ?_ | refine l_ldc F 4 rfl rfl rfl rfl rfl rfl rfl ?_ | refine l_ldc F 5 rfl rfl rfl rfl rfl rfl rfl ?_ | refine l_ldc F 6 rfl rfl rfl rfl rfl rfl rfl ?_ | refine l_ldc F 7 rfl rfl rfl rfl rfl rfl rfl ?_ | refine l_ldc F 8 rfl rfl rfl rfl rfl rfl rfl ?_ | refine l_ldc F 9 rfl rfl rfl rfl rfl rfl rfl ?_ | refine l_lda rfl rfl rfl rfl rfl (by assumption) ?_ | refine l_ldca F 0 rfl rfl rfl rfl rfl rfl rfl ?_ | refine l_ldca F 1 rfl rfl rfl rfl rfl rfl rfl ?_ | refine l_ldca F 2 rfl rfl rfl rfl rfl rfl rfl ?_ | refine l_ldca F 3 rfl rfl rfl rfl rfl rfl rfl ?_ | refine l_ldca F 4 rfl rfl rfl rfl rfl rfl rfl ?_ | refine l_ldca F 5 rfl rfl rfl rfl rfl rfl rfl ?_ | refine l_ldca F 6 rfl rfl rfl rfl rfl rfl rfl ?_ | refine l_ldca F 7 rfl rfl rfl rfl rfl rfl rfl ?_ | refine l_ldca F 8 rfl rfl rfl rfl rfl rfl rfl ?_ | refine l_ldca F 9 rfl rfl rfl rfl rfl rfl rfl ?_ | refine l_ldo F (by assumption) rfl rfl rfl rfl rfl rfl ?_ | refine l_ldoa F (by assumption) rfl rfl rfl rfl rfl rfl ?_
      first | have hpS := PnS.add hpS hS10 | have hpS := PnS.add hpS (OldC.sf (by assumption)) | skip
      first | refine l_ldc F 5 rfl rfl rfl rfl rfl rfl rfl ?_ | refine l_ldc F 1 rfl rfl rfl rfl rfl rfl rfl ?_ | refine l_ld0 rfl rfl rfl rfl rfl (by assumption) ?_ | refine l_ldj rfl rfl rfl rfl rfl rfl (by assumption) rfl ?_ | refine l_ldc F 0 rfl rfl rfl rfl rfl rfl rfl ?_ | refine l_ldc F 1 rfl rfl rfl rfl rfl rfl rfl ?_ | refine l_ldc F 2 rfl rfl rfl rfl rfl rfl rfl ?_ | refine l_ldc F 3 rfl rfl rfl rfl rfl rfl rfl ?_ | refine l_ldc F 4 rfl rfl rfl rfl rfl rfl rfl ?_ | refine l_ldc F 5 rfl rfl rfl rfl rfl rfl rfl ?_ | refine l_ldc F 6 rfl rfl rfl rfl rfl rfl rfl ?_ | refine l_ldc F 7 rfl rfl rfl rfl rfl rfl rfl ?_ | refine l_ldc F 8 rfl rfl rfl rfl rfl rfl rfl ?_ | refine l_ldc F 9 rfl rfl rfl rfl rfl rfl rfl ?_ | refine l_lda rfl rfl rfl rfl rfl (by assumption) ?_ | refine l_ldca F 0 rfl rfl rfl rfl rfl rfl rfl ?_ | refine l_ldca F 1 rfl rfl rfl rfl rfl rfl rfl ?_ | refine l_ldca F 2 rfl rfl rfl rfl rfl rfl rfl ?_ | refine l_ldca F 3 rfl rfl rfl rfl rfl rfl rfl ?_ | refine l_ldca F 4 rfl rfl rfl rfl rfl rfl rfl ?_ | refine l_ldca F 5 rfl rfl rfl rfl rfl rfl rfl ?_ | refine l_ldca F 6 rfl rfl rfl rfl rfl rfl rfl ?_ | refine l_ldca F 7 rfl rfl rfl rfl rfl rfl rfl ?_ | refine l_ldca F 8 rfl rfl rfl rfl rfl rfl rfl ?_ | refine l_ldca F 9 rfl rfl rfl rfl rfl rfl rfl ?_ | refine l_ldo F (by assumption) rfl rfl rfl rfl rfl rfl ?_ | refine l_ldoa F (by assumption) rfl rfl rfl rfl rfl rfl ?_
      first | have hpS := PnS.add hpS hS10 | have hpS := PnS.add hpS (OldC.sf (by assumption)) | skip
      have hpA := PnA.cel F 5 rfl (PnA.cel F 5 rfl pna_nil)
      refine l_callp F rfl rfl (by kernel_rfl) rfl rfl size_call (fun _ s F _ => ?_)
      (try dsimp only [n_1, n_2, n_3, n_4, List.append_nil, pk, n_5, n_6] at F)
      have hpA := PnA.cel F 5 rfl (PnA.cel F 5 rfl pna_nil)
      refine l_callp F rfl rfl (by kernel_rfl) rfl rfl (wput_call hAi) (fun yp s F _ => ?_)
      (try dsimp only [n_1, n_2, n_3, n_4, List.append_nil, pk, n_5, n_6] at F)
      have hpl := putR_len (v := (ars.getD i.toNat default).2) z2
      have hpA2 : PnA (pnAdd (pnAdd (some []) (some q10)) (some q10)) (Nm yd) s := PnA.celE F 5 4 rfl rfl (by decide) (PnA.celE F 5 4 rfl rfl (by decide) pna_nil)
      refine l_appi F 4 rfl rfl rfl rfl rfl rfl rfl (F.has 6 rfl) rfl (by omega) hD (fun x2 c2 s F => ?_) (.inl hpA2)
      (try dsimp only [n_1, n_2, n_3, n_4, List.append_nil, pk, n_5, n_6] at F)
      refine l_op 0 rfl rfl rfl rfl rfl ?_
      refine l_nil (WK.nx (by assumption) ?_)
      refine BlkK.nx (by assumption) ?_
      refine SeqK.nx (by assumption) ?_
      refine k_lin (fun W K => ?_)
      refine l_a64 rfl rfl rfl (by omega) rfl ?_
      refine l_op 0 rfl rfl rfl rfl rfl ?_
      refine l_nil (WK.nx (by assumption) ?_)
      have e1 : (i + 1).toNat = i.toNat + 1 := by omega
      have e2 := dataR_take (ars := ars) hi
      have e3 : (dataR (ars.take i.toNat)).length + (putR (ars.getD i.toNat default).2 (szm (ars.getD i.toNat default).1)).length = (dataR (ars.take (i + 1).toNat)).length := by rw [e1, e2, List.length_append]
      rw [← e2, ← e1, e3] at F
      exact K0.nx (i + 1, x2, c2) (by dsimp only; rw [← e3]; exact (by repeat (first | exact trivial | refine And.intro rfl ?_))) ⟨F.pick [0, 1, 2, 3, 4] (by decide), by omega, by omega, fun j hj => by
        by_cases hji : (j : Int) < i
        · exact hok j hji
        · have : j = i.toNat := by omega
          rw [this]; exact ⟨hmayi, htells⟩⟩ (by first | omega | (simp only; omega))
    replace hc4 := of_decide_eq_false ((irr_eq _).symm.trans hc4)
    have hall : ars.take i.toNat = ars := List.take_of_length_le (by omega)
    have hall2 : pkz ms i.toNat = packR ms := by rw [show i.toNat = ms.length by omega, pkz_end]
    have hdl := dataR_len ars
    have hpk := packR_len ms
    have hr : encR sgR op ars = some (opB op ++ restR ars) := by
      unfold encR
      rw [hsg]
      simp only
      rw [if_neg (by omega), if_neg (by rw [okArgs_of _ _ (by omega) (fun j hj => hok j (by omega))]; decide)]
    have hob : (opB op).length ≤ 2 := by unfold opB putR; split <;> simp
    rw [hall, hall2] at F
    refine k_exit ?_
    refine SeqK.et (by assumption) ?_
    refine LoopK.et (by assumption) ?_
    refine BlkK.et (by assumption) ?_
    refine SeqK.nx (by assumption) ?_
    refine k_seq (fun Q K => ?_)
    refine k_lin (fun W K => ?_)
    refine l_op 0 rfl rfl rfl rfl rfl ?_
    refine l_op 0 rfl rfl rfl rfl rfl ?_
    refine l_op 0 rfl rfl rfl rfl rfl ?_
    refine l_lit F rfl rfl rfl rfl (fun q88 s F => ?_)
    (try dsimp only [n_1, n_2, n_3, n_4, List.append_nil, pk, n_5, n_6] at F)
    have hcat : cat [(yb.1, (opB op).length, yb.2, opB op), (some ⟨q41, 0, some 0⟩, km, km, packR ms), (yd, (dataR ars).length, cd, dataR ars)] = opB op ++ restR ars := by
      simp [cat, restR, hmd]
    rw [hall] at F
    have h88 : Has s (some ⟨q88, 0, some 0⟩) 3 3 1 (rows eP [(yb.1, (opB op).length, yb.2, opB op), (some ⟨q41, 0, some 0⟩, km, km, packR ms), (yd, (dataR ars).length, cd, dataR ars)]) := F.has 5 rfl
    have hcc := concat_call (ps := [(yb.1, (opB op).length, yb.2, opB op), (some ⟨q41, 0, some 0⟩, km, km, packR ms), (yd, (dataR ars).length, cd, dataR ars)]) (Old.pure h88) (fun t ht => by
      simp only [List.mem_cons, List.mem_nil_iff, or_false] at ht
      rcases ht with rfl | rfl | rfl
      · exact Old.pure (F.has 2 rfl)
      · exact Old.pure (F.has 3 rfl)
      · exact Old.pure (F.has 4 rfl)) (by rw [hcat]; simp only [restR, hmd, List.length_append]; omega) (by decide)
    rw [hcat] at hcc
    rw [hall]
    refine l_callp F rfl rfl (by kernel_rfl) rfl rfl hcc (fun yr s F _ => ?_)
    (try dsimp only [n_1, n_2, n_3, n_4, List.append_nil, pk, n_5, n_6] at F)
    refine l_op 0 rfl rfl rfl rfl rfl ?_
    refine l_op 0 rfl rfl rfl rfl rfl ?_
    refine l_nil (WK.nx (by assumption) ?_)
    refine SeqK.nx (by assumption) ?_
    refine k_ret ?_
    refine FunK.rt (by assumption) rfl ?_
    -- leaf 5
    first
      | (rw [hr]; exact ⟨(none, 0), rfl, F.pick [0] (by decide), trivial⟩)
      | (rw [hr]; exact ⟨yr, rfl, F.pick [6] (by decide), trivial⟩)
  replace hc3 := of_decide_eq_false ((irr_eq _).symm.trans hc3)
  refine k_lin (fun W K => ?_)
  refine l_op 2 rfl rfl rfl rfl rfl ?_
  first | refine l_ldc F 5 rfl rfl rfl rfl rfl rfl rfl ?_ | refine l_ldc F 1 rfl rfl rfl rfl rfl rfl rfl ?_ | refine l_ld0 rfl rfl rfl rfl rfl (by assumption) ?_ | refine l_ldj rfl rfl rfl rfl rfl rfl (by assumption) rfl ?_ | refine l_ldc F 0 rfl rfl rfl rfl rfl rfl rfl ?_ | refine l_ldc F 1 rfl rfl rfl rfl rfl rfl rfl ?_ | refine l_ldc F 2 rfl rfl rfl rfl rfl rfl rfl ?_ | refine l_ldc F 3 rfl rfl rfl rfl rfl rfl rfl ?_ | refine l_ldc F 4 rfl rfl rfl rfl rfl rfl rfl ?_ | refine l_ldc F 5 rfl rfl rfl rfl rfl rfl rfl ?_ | refine l_ldc F 6 rfl rfl rfl rfl rfl rfl rfl ?_ | refine l_ldc F 7 rfl rfl rfl rfl rfl rfl rfl ?_ | refine l_ldc F 8 rfl rfl rfl rfl rfl rfl rfl ?_ | refine l_ldc F 9 rfl rfl rfl rfl rfl rfl rfl ?_ | refine l_lda rfl rfl rfl rfl rfl (by assumption) ?_ | refine l_ldca F 0 rfl rfl rfl rfl rfl rfl rfl ?_ | refine l_ldca F 1 rfl rfl rfl rfl rfl rfl rfl ?_ | refine l_ldca F 2 rfl rfl rfl rfl rfl rfl rfl ?_ | refine l_ldca F 3 rfl rfl rfl rfl rfl rfl rfl ?_ | refine l_ldca F 4 rfl rfl rfl rfl rfl rfl rfl ?_ | refine l_ldca F 5 rfl rfl rfl rfl rfl rfl rfl ?_ | refine l_ldca F 6 rfl rfl rfl rfl rfl rfl rfl ?_ | refine l_ldca F 7 rfl rfl rfl rfl rfl rfl rfl ?_ | refine l_ldca F 8 rfl rfl rfl rfl rfl rfl rfl ?_ | refine l_ldca F 9 rfl rfl rfl rfl rfl rfl rfl ?_ | refine l_ldo F (by assumption) rfl rfl rfl rfl rfl rfl ?_ | refine l_ldoa F (by assumption) rfl rfl rfl rfl rfl rfl ?_
  refine l_op 2 rfl rfl rfl (congrArg (Value.int .u32) (or15 hdom)) rfl ?_
  have eb : opB op = putR (op + 32768) 2 := if_neg (by assumption)
  refine l_callp F rfl rfl (by kernel_rfl) rfl rfl (wput_call (x := op + 32768) (n := 2) ⟨by omega, by omega⟩) (fun yb s F _ => ?_)
  (try dsimp only [n_1, n_2, n_3, n_4, List.append_nil, pk, n_5, n_6] at F)
  rw [← eb] at F ⊢
  refine l_op 0 rfl rfl rfl rfl rfl ?_
  refine l_nil (WK.nx (by assumption) ?_)
  refine SeqK.nx (by assumption) ?_
  refine k_seq (fun Q K => ?_)
  refine k_lin (fun W K => ?_)
  refine l_op 0 rfl rfl rfl rfl rfl ?_
  first | refine l_op 2 rfl rfl rfl rfl rfl ?_ | refine l_ln rfl rfl rfl rfl ?_
  refine l_a64 rfl rfl rfl (by omega) rfl ?_
  first | refine l_quon rfl rfl rfl rfl rfl (by omega) rfl ?_ | refine l_quou64 rfl rfl rfl rfl rfl (by omega) rfl ?_ | refine l_quou32 rfl rfl rfl rfl rfl (by omega) rfl ?_ | refine l_quo rfl rfl rfl rfl rfl (by omega) rfl ?_
  refine l_mk F rfl rfl rfl rfl rfl rfl rfl (by omega) (fun q41 s F => ?_)
  (try dsimp only [n_1, n_2, n_3, n_4, List.append_nil, pk, n_5, n_6] at F)
  refine l_op 0 rfl rfl rfl rfl rfl ?_
  refine l_nil (WK.nx (by assumption) ?_)
  refine SeqK.nx (by assumption) ?_
  refine k_seq (fun Q K => ?_)
  refine k_lin (fun W K => ?_)
  refine l_op 0 rfl rfl rfl rfl rfl ?_
  refine l_nil (WK.nx (by assumption) ?_)
  refine SeqK.nx (by assumption) ?_
  refine k_seq (fun Q K => ?_)
  refine k_seq (fun Q K => ?_)
  refine k_lin (fun W K => ?_)
  refine l_op 2 rfl rfl rfl rfl rfl ?_
  first | refine l_ldc F 5 rfl rfl rfl rfl rfl rfl rfl ?_ | refine l_ldc F 1 rfl rfl rfl rfl rfl rfl rfl ?_ | refine l_ld0 rfl rfl rfl rfl rfl (by assumption) ?_ | refine l_ldj rfl rfl rfl rfl rfl rfl (by assumption) rfl ?_ | refine l_ldc F 0 rfl rfl rfl rfl rfl rfl rfl ?_ | refine l_ldc F 1 rfl rfl rfl rfl rfl rfl rfl ?_ | refine l_ldc F 2 rfl rfl rfl rfl rfl rfl rfl ?_ | refine l_ldc F 3 rfl rfl rfl rfl rfl rfl rfl ?_ | refine l_ldc F 4 rfl rfl rfl rfl rfl rfl rfl ?_ | refine l_ldc F 5 rfl rfl rfl rfl rfl rfl rfl ?_ | refine l_ldc F 6 rfl rfl rfl rfl rfl rfl rfl ?_ | refine l_ldc F 7 rfl rfl rfl rfl rfl rfl rfl ?_ | refine l_ldc F 8 rfl rfl rfl rfl rfl rfl rfl ?_ | refine l_ldc F 9 rfl rfl rfl rfl rfl rfl rfl ?_ | refine l_lda rfl rfl rfl rfl rfl (by assumption) ?_ | refine l_ldca F 0 rfl rfl rfl rfl rfl rfl rfl ?_ | refine l_ldca F 1 rfl rfl rfl rfl rfl rfl rfl ?_ | refine l_ldca F 2 rfl rfl rfl rfl rfl rfl rfl ?_ | refine l_ldca F 3 rfl rfl rfl rfl rfl rfl rfl ?_ | refine l_ldca F 4 rfl rfl rfl rfl rfl rfl rfl ?_ | refine l_ldca F 5 rfl rfl rfl rfl rfl rfl rfl ?_ | refine l_ldca F 6 rfl rfl rfl rfl rfl rfl rfl ?_ | refine l_ldca F 7 rfl rfl rfl rfl rfl rfl rfl ?_ | refine l_ldca F 8 rfl rfl rfl rfl rfl rfl rfl ?_ | refine l_ldca F 9 rfl rfl rfl rfl rfl rfl rfl ?_ | refine l_ldo F (by assumption) rfl rfl rfl rfl rfl rfl ?_ | refine l_ldoa F (by assumption) rfl rfl rfl rfl rfl rfl ?_
  first | refine l_op 2 rfl rfl rfl rfl rfl ?_ | refine l_ln rfl rfl rfl rfl ?_
  refine l_op 0 rfl rfl rfl rfl rfl ?_
  refine l_nil (WK.nx (by assumption) ?_)
  refine SeqK.nx (by assumption) ?_
  refine k_block (fun Q K => ?_)
  obtain ⟨ms, hmd⟩ : ∃ ms, ars.map Prod.fst = ms := ⟨_, rfl⟩
  rw [hmd] at hms
  have hmg : ∀ j : Nat, j < ars.length → ms.getD j 0 = (ars.getD j default).1 := fun j hj => by rw [← hmd]; simp [List.getD, hj]
  generalize hK : ((((sp.1.size : Nat) : Int) + 1) / 2).toNat = km at F ⊢
  have hkm : km = (ms.length + 1) / 2 := by omega
  have F := F.nilrow 1
  have F : Facts E0 σ s [own none 0 0 1 [], cel q1 [.int .u32 op, .slice ax ars.length cx], own yb.1 (opB op).length yb.2 1 (u8l (opB op)), own (some ⟨q41, 0, some 0⟩) km km 1 (u8l (pkz ms 0)), own none 0 0 1 []] := by
    rw [pkz_zero, ← hkm, ← zrow8]
    exact F
  refine k_loop (α := Int × Option Addr × Nat) (fun ⟨i, yd, cd⟩ s => Facts E0 σ s [own none 0 0 1 [], cel q1 [.int .u32 op, .slice ax ars.length cx], own yb.1 (opB op).length yb.2 1 (u8l (opB op)), own (some ⟨q41, 0, some 0⟩) km km 1 (u8l (pkz ms i.toNat)), own yd (dataR (ars.take i.toNat)).length cd 1 (u8l (dataR (ars.take i.toNat)))] ∧ 0 ≤ i ∧ i ≤ ars.length ∧ ∀ j : Nat, j < i → mayR ((ltr sp.1).getD j 0) (ars.getD j default).1 = true ∧ tellsR (ars.getD j default).1 (ars.getD j default).2 = true) (fun ⟨i, yd, cd⟩ => [(4, .string sp.1), (6, .slice yb.1 (opB op).length yb.2), (7, .slice (some ⟨q41, 0, some 0⟩) km km), (8, .slice yd (dataR (ars.take i.toNat)).length cd), (43, .slice ax ars.length cx), (44, .int .i64 ars.length), (45, .int .i64 i)]) (fun ⟨i, _⟩ => (ars.length - i).toNat) (0, none, 0) ⟨F, by omega, by omega, fun j hj => by omega⟩ (by repeat (first | exact trivial | refine And.intro rfl ?_)) ?_
  clear F
  rintro ⟨i, yd, cd⟩ env s Q K0 ⟨F, i0, i1, hok⟩
  refine k_seq (fun Q K => ?_)
  refine k_lin (fun W K => ?_)
  refine l_cmp rfl rfl rfl rfl ?_
  refine l_nil (WK.nx (by assumption) ?_)
  refine SeqK.nx (by assumption) ?_
  refine k_seq (fun Q K => ?_)
  refine l_cond rfl rfl (fun hc7 => ?_) (fun hc7 => ?_)
  · replace hc7 := of_decide_eq_true ((irr_eq _).symm.trans hc7)
    have hi : i.toNat < ars.length := by omega
    have hAi := hA.at i.toNat
    have hdl := dataR_len (ars.take i.toNat)
    rw [List.length_take] at hdl
    refine k_skip ?_
    refine SeqK.nx (by assumption) ?_
    refine k_seq (fun Q K => ?_)
    refine k_block (fun Q K => ?_)
    refine k_seq (fun Q K => ?_)
    refine k_lin (fun W K => ?_)
    refine l_op 0 rfl rfl rfl rfl rfl ?_
    refine l_ixr (e := eO) rfl rfl rfl rfl rfl rfl (F.old h) ⟨eO_len, by decide⟩ (by omega) (fun m48 b48 hA48 => ?_)
    refine l_lda (ws := eO (ars.getD i.toNat default)) rfl rfl rfl rfl rfl hA48 ?_
    refine l_al F rfl rfl rfl rfl (fun q10 s F => ?_)
    (try dsimp only [n_1, n_2, n_3, n_4, List.append_nil, pk, n_5, n_6] at F)
    refine l_op 0 rfl rfl rfl rfl rfl ?_
    refine l_stca F 5 rfl rfl rfl rfl rfl rfl rfl rfl rfl rfl hD rfl (fun s F => ?_)
    (try dsimp only [n_1, n_2, n_3, n_4, List.append_nil, pk, n_5, n_6] at F)
    refine l_nil (WK.nx (by assumption) ?_)
    refine SeqK.nx (by assumption) ?_
    refine k_seq (fun Q K => ?_)
    refine k_seq (fun Q K => ?_)
    refine k_linr mixed (by kernel_rfl) (fun W K => ?_)
    try have hpS := F.pns
    refine l_op 0 rfl rfl rfl rfl rfl ?_
    refine l_op 0 rfl rfl rfl rfl rfl ?_
    refine l_sx rfl rfl rfl rfl rfl (by omega) ?_
    refine l_op 2 rfl rfl rfl rfl rfl ?_
    first | refine l_ldc F 5 rfl rfl rfl rfl rfl rfl rfl ?_ | refine l_ldc F 1 rfl rfl rfl rfl rfl rfl rfl ?_ | refine l_ld0 rfl rfl rfl rfl rfl (by assumption) ?_ | refine l_ldj rfl rfl rfl rfl rfl rfl (by assumption) rfl ?_ | refine l_ldc F 0 rfl rfl rfl rfl rfl rfl rfl ?_ | refine l_ldc F 1 rfl rfl rfl rfl rfl rfl rfl ?_ | refine l_ldc F 2 rfl rfl rfl rfl rfl rfl rfl ?_ | refine l_ldc F 3 rfl rfl rfl rfl rfl rfl rfl ?_ | refine l_ldc F 4 rfl rfl rfl rfl rfl rfl rfl ?_ | refine l_ldc F 5 rfl rfl rfl rfl rfl rfl rfl ?_ | refine l_ldc F 6 rfl rfl rfl rfl rfl rfl rfl ?_ | refine l_ldc F 7 rfl rfl rfl rfl rfl rfl rfl ?_ | refine l_ldc F 8 rfl rfl rfl rfl rfl rfl rfl ?_ | refine l_ldc F 9 rfl rfl rfl rfl rfl rfl rfl ?_ | refine l_lda rfl rfl rfl rfl rfl (by assumption) ?_ | refine l_ldca F 0 rfl rfl rfl rfl rfl rfl rfl ?_ | refine l_ldca F 1 rfl rfl rfl rfl rfl rfl rfl ?_ | refine l_ldca F 2 rfl rfl rfl rfl rfl rfl rfl ?_ | refine l_ldca F 3 rfl rfl rfl rfl rfl rfl rfl ?_ | refine l_ldca F 4 rfl rfl rfl rfl rfl rfl rfl ?_ | refine l_ldca F 5 rfl rfl rfl rfl rfl rfl rfl ?_ | refine l_ldca F 6 rfl rfl rfl rfl rfl rfl rfl ?_ | refine l_ldca F 7 rfl rfl rfl rfl rfl rfl rfl ?_ | refine l_ldca F 8 rfl rfl rfl rfl rfl rfl rfl ?_ | refine l_ldca F 9 rfl rfl rfl rfl rfl rfl rfl ?_ | refine l_ldo F (by assumption) rfl rfl rfl rfl rfl rfl ?_ | refine l_ldoa F (by assumption) rfl rfl rfl rfl rfl rfl ?_
    first | have hpS := PnS.add hpS hS10 | have hpS := PnS.add hpS (OldC.sf (by assumption)) | skip
    have hpA := PnA.cel F 5 rfl pna_nil
    refine l_callp F rfl rfl (by kernel_rfl) rfl rfl may_call (fun _ s F _ => ?_)
    (try dsimp only [n_1, n_2, n_3, n_4, List.append_nil, pk, n_5, n_6] at F)
    refine l_op 2 rfl rfl rfl rfl rfl ?_
    refine l_op 0 rfl rfl rfl rfl rfl ?_
    refine l_guard rfl rfl rfl (fun hc8 => ?_) (fun hc8 => ?_)
    · try simp only [irr_eq, beq_iff_eq, bne_iff_ne, beq_eq_false_iff_ne, bne_eq_false_iff_eq, ne_eq, decide_eq_true_eq, decide_eq_false_iff_not, Bool.not_eq_true', Bool.not_eq_false'] at hc8
      have hr : encR sgR op ars = none := by
        unfold encR
        rw [hsg]
        simp only
        rw [if_neg (by omega), if_pos (okArgs_not _ _ i.toNat (by omega) hi (.inl hc8))]
      refine l_s rfl rfl ?_
      refine l_s rfl rfl ?_
      refine l_s rfl rfl ?_
      refine l_op 2 rfl rfl rfl rfl rfl ?_
      refine l_nil (WK.nx (by assumption) ?_)
      refine SeqK.nx (by assumption) ?_
      first | refine e_cond_t rfl rfl rfl ?_ | refine e_cond_t rfl rfl (by rw [irr_eq]; first | exact beq_iff_eq.2 (by assumption) | exact decide_eq_true (by assumption) | exact bne_iff_ne.2 (by assumption)) ?_
      refine k_seq (fun Q K => ?_)
      refine k_lin (fun W K => ?_)
      refine l_op 0 rfl rfl rfl rfl rfl ?_
      refine l_op 0 rfl rfl rfl rfl rfl ?_
      refine l_nil (WK.nx (by assumption) ?_)
      refine SeqK.nx (by assumption) ?_
      refine k_ret ?_
      refine SeqK.rt (by assumption) ?_
      refine BlkK.rt (by assumption) ?_
      refine SeqK.rt (by assumption) ?_
      refine LoopK.rt (by assumption) ?_
      refine BlkK.rt (by assumption) ?_
      refine SeqK.rt (by assumption) ?_
      refine FunK.rt (by assumption) rfl ?_
      -- leaf 6
      first
        | (rw [hr]; exact ⟨(none, 0), rfl, F.pick [0] (by decide), trivial⟩)
        | (rw [hr]; exact ⟨yr, rfl, F.pick [6] (by decide), trivial⟩)
    try simp only [irr_eq, beq_iff_eq, bne_iff_ne, beq_eq_false_iff_ne, bne_eq_false_iff_eq, ne_eq, decide_eq_true_eq, decide_eq_false_iff_not, Bool.not_eq_true', Bool.not_eq_false'] at hc8
    have hmayi := hc8
    have hsi := may_sz hmayi
    obtain ⟨z0, z1, z2, z3⟩ := szm_cases hsi
    refine l_ldca F 5 rfl rfl rfl rfl rfl rfl rfl ?_
    have hpA := PnA.cel F 5 rfl (PnA.cel F 5 rfl pna_nil)
    refine l_callp F rfl rfl (by kernel_rfl) rfl rfl (tells_call hsi hAi) (fun _ s F _ => ?_)
    (try dsimp only [n_1, n_2, n_3, n_4, List.append_nil, pk, n_5, n_6] at F)
    refine l_op 2 rfl rfl rfl rfl rfl ?_
    refine l_op 2 rfl rfl rfl rfl rfl ?_
    refine l_nil (WK.nx (by assumption) ?_)
    refine SeqK.nx (by assumption) ?_
    refine l_cond rfl rfl (fun hc9 => ?_) (fun hc9 => ?_)
    · try simp only [irr_eq, beq_iff_eq, bne_iff_ne, beq_eq_false_iff_ne, bne_eq_false_iff_eq, ne_eq, decide_eq_true_eq, decide_eq_false_iff_not, Bool.not_eq_true', Bool.not_eq_false'] at hc9
      have hr : encR sgR op ars = none := by
        unfold encR
        rw [hsg]
        simp only
        rw [if_neg (by omega), if_pos (okArgs_not _ _ i.toNat (by omega) hi (.inr hc9))]
      refine k_seq (fun Q K => ?_)
      refine k_lin (fun W K => ?_)
      refine l_op 0 rfl rfl rfl rfl rfl ?_
      refine l_op 0 rfl rfl rfl rfl rfl ?_
      refine l_nil (WK.nx (by assumption) ?_)
      refine SeqK.nx (by assumption) ?_
      refine k_ret ?_
      refine SeqK.rt (by assumption) ?_
      refine BlkK.rt (by assumption) ?_
      refine SeqK.rt (by assumption) ?_
      refine LoopK.rt (by assumption) ?_
      refine BlkK.rt (by assumption) ?_
      refine SeqK.rt (by assumption) ?_
      refine FunK.rt (by assumption) rfl ?_
      -- leaf 7
      first
        | (rw [hr]; exact ⟨(none, 0), rfl, F.pick [0] (by decide), trivial⟩)
        | (rw [hr]; exact ⟨yr, rfl, F.pick [6] (by decide), trivial⟩)
    try simp only [irr_eq, beq_iff_eq, bne_iff_ne, beq_eq_false_iff_ne, bne_eq_false_iff_eq, ne_eq, decide_eq_true_eq, decide_eq_false_iff_not, Bool.not_eq_true', Bool.not_eq_false'] at hc9
    have htells := hc9
    have ed : (i / 2).toNat = i.toNat / 2 := by omega
    have hpa := pkz_at (ms := ms) (i := i.toNat) (j := i.toNat / 2) (by omega)
    have hxx : i.toNat % 2 = 0 ∧ (pkz ms i.toNat).getD (i / 2).toNat 0 = 0 ∨ i.toNat % 2 = 1 ∧ 0 ≤ (pkz ms i.toNat).getD (i / 2).toNat 0 ∧ (pkz ms i.toNat).getD (i / 2).toNat 0 ≤ 15 := by
      rw [ed, hpa]
      rcases (by omega : i.toNat % 2 = 0 ∨ i.toNat % 2 = 1) with hp | hp
      · exact .inl ⟨hp, by rw [if_neg (by omega), if_neg (by omega)]; rfl⟩
      · rw [if_pos (by omega), if_neg (by omega), hmg _ (by omega)]
        have := szm_cases (may_sz (hok (2 * (i.toNat / 2)) (by omega)).1)
        exact .inr ⟨hp, by omega, by omega⟩
    refine k_skip ?_
    refine SeqK.nx (by assumption) ?_
    refine k_seq (fun Q K => ?_)
    refine k_linm [0, 1, 2, 3, 5, 8, 9, 10, 4, 6, 7, 11, 12, 13, 14] mixed (by kernel_rfl) (fun W K => ?_)
    try have hpS := F.pns
    refine l_op 0 rfl rfl rfl rfl rfl ?_
    refine l_op 0 rfl rfl rfl rfl rfl ?_
    first | refine l_quon rfl rfl rfl rfl rfl (by omega) rfl ?_ | refine l_quou64 rfl rfl rfl rfl rfl (by omega) rfl ?_ | refine l_quou32 rfl rfl rfl rfl rfl (by omega) rfl ?_ | refine l_quo rfl rfl rfl rfl rfl (by omega) rfl ?_
    first | (refine l_ixs F (by assumption) rfl rfl rfl rfl rfl rfl (by omega) (fun m65 b65 hA65 hS65 => ?_)) | refine l_ixi rfl rfl rfl rfl rfl rfl (F.old (by assumption)) (by omega) (fun m65 b65 hA65 => ?_) | (refine l_ixoi F 0 rfl rfl rfl rfl rfl rfl rfl (by omega) (fun m e ha hA65 => ?_); cases ha) | (refine l_ixoi F 1 rfl rfl rfl rfl rfl rfl rfl (by omega) (fun m e ha hA65 => ?_); cases ha) | (refine l_ixoi F 2 rfl rfl rfl rfl rfl rfl rfl (by omega) (fun m e ha hA65 => ?_); cases ha) | (refine l_ixoi F 3 rfl rfl rfl rfl rfl rfl rfl (by omega) (fun m e ha hA65 => ?_); cases ha)
    refine l_op 2 rfl rfl rfl rfl rfl ?_
    refine l_op 0 rfl rfl rfl rfl rfl ?_
    first | refine l_remn rfl rfl rfl rfl rfl (by omega) rfl ?_ | refine l_rem rfl rfl rfl rfl rfl (by omega) rfl ?_
    refine l_a64 rfl rfl rfl (by omega) rfl ?_
    first | refine l_ldc F 5 rfl rfl rfl rfl rfl rfl rfl ?_ | refine l_ldc F 1 rfl rfl rfl rfl rfl rfl rfl ?_ | refine l_ld0 rfl rfl rfl rfl rfl (by assumption) ?_ | refine l_ldj rfl rfl rfl rfl rfl rfl (by assumption) rfl ?_ | refine l_ldc F 0 rfl rfl rfl rfl rfl rfl rfl ?_ | refine l_ldc F 1 rfl rfl rfl rfl rfl rfl rfl ?_ | refine l_ldc F 2 rfl rfl rfl rfl rfl rfl rfl ?_ | refine l_ldc F 3 rfl rfl rfl rfl rfl rfl rfl ?_ | refine l_ldc F 4 rfl rfl rfl rfl rfl rfl rfl ?_ | refine l_ldc F 5 rfl rfl rfl rfl rfl rfl rfl ?_ | refine l_ldc F 6 rfl rfl rfl rfl rfl rfl rfl ?_ | refine l_ldc F 7 rfl rfl rfl rfl rfl rfl rfl ?_ | refine l_ldc F 8 rfl rfl rfl rfl rfl rfl rfl ?_ | refine l_ldc F 9 rfl rfl rfl rfl rfl rfl rfl ?_ | refine l_lda rfl rfl rfl rfl rfl (by assumption) ?_ | refine l_ldca F 0 rfl rfl rfl rfl rfl rfl rfl ?_ | refine l_ldca F 1 rfl rfl rfl rfl rfl rfl rfl ?_ | refine l_ldca F 2 rfl rfl rfl rfl rfl rfl rfl ?_ | refine l_ldca F 3 rfl rfl rfl rfl rfl rfl rfl ?_ | refine l_ldca F 4 rfl rfl rfl rfl rfl rfl rfl ?_ | refine l_ldca F 5 rfl rfl rfl rfl rfl rfl rfl ?_ | refine l_ldca F 6 rfl rfl rfl rfl rfl rfl rfl ?_ | refine l_ldca F 7 rfl rfl rfl rfl rfl rfl rfl ?_ | refine l_ldca F 8 rfl rfl rfl rfl rfl rfl rfl ?_ | refine l_ldca F 9 rfl rfl rfl rfl rfl rfl rfl ?_ | refine l_ldo F (by assumption) rfl rfl rfl rfl rfl rfl ?_ | refine l_ldoa F (by assumption) rfl rfl rfl rfl rfl rfl ?_
    first | have hpS := PnS.add hpS hS65 | have hpS := PnS.add hpS (OldC.sf (by assumption)) | skip
    first | refine l_ldc F 5 rfl rfl rfl rfl rfl rfl rfl ?_ | refine l_ldc F 1 rfl rfl rfl rfl rfl rfl rfl ?_ | refine l_ld0 rfl rfl rfl rfl rfl (by assumption) ?_ | refine l_ldj rfl rfl rfl rfl rfl rfl (by assumption) rfl ?_ | refine l_ldc F 0 rfl rfl rfl rfl rfl rfl rfl ?_ | refine l_ldc F 1 rfl rfl rfl rfl rfl rfl rfl ?_ | refine l_ldc F 2 rfl rfl rfl rfl rfl rfl rfl ?_ | refine l_ldc F 3 rfl rfl rfl rfl rfl rfl rfl ?_ | refine l_ldc F 4 rfl rfl rfl rfl rfl rfl rfl ?_ | refine l_ldc F 5 rfl rfl rfl rfl rfl rfl rfl ?_ | refine l_ldc F 6 rfl rfl rfl rfl rfl rfl rfl ?_ | refine l_ldc F 7 rfl rfl rfl rfl rfl rfl rfl ?_ | refine l_ldc F 8 rfl rfl rfl rfl rfl rfl rfl ?_ | refine l_ldc F 9 rfl rfl rfl rfl rfl rfl rfl ?_ | refine l_lda rfl rfl rfl rfl rfl (by assumption) ?_ | refine l_ldca F 0 rfl rfl rfl rfl rfl rfl rfl ?_ | refine l_ldca F 1 rfl rfl rfl rfl rfl rfl rfl ?_ | refine l_ldca F 2 rfl rfl rfl rfl rfl rfl rfl ?_ | refine l_ldca F 3 rfl rfl rfl rfl rfl rfl rfl ?_ | refine l_ldca F 4 rfl rfl rfl rfl rfl rfl rfl ?_ | refine l_ldca F 5 rfl rfl rfl rfl rfl rfl rfl ?_ | refine l_ldca F 6 rfl rfl rfl rfl rfl rfl rfl ?_ | refine l_ldca F 7 rfl rfl rfl rfl rfl rfl rfl ?_ | refine l_ldca F 8 rfl rfl rfl rfl rfl rfl rfl ?_ | refine l_ldca F 9 rfl rfl rfl rfl rfl rfl rfl ?_ | refine l_ldo F (by assumption) rfl rfl rfl rfl rfl rfl ?_ | refine l_ldoa F (by assumption) rfl rfl rfl rfl rfl rfl ?_
    first | have hpS := PnS.add hpS hS10 | have hpS := PnS.add hpS (OldC.sf (by assumption)) | skip
    refine l_c8 rfl rfl rfl (by omega) rfl ?_
    refine l_sh ((if i.toNat % 2 = 0 then 1 else 16) * (ars.getD i.toNat default).1) rfl rfl rfl rfl rfl (by omega) (.inr ⟨rfl, shl8 ⟨by omega, by omega⟩ i0⟩) ?_
    refine l_op 2 rfl rfl rfl (congrArg (Value.int .u8) (or8 (i := i.toNat) hxx ⟨by omega, by omega⟩)) rfl ?_
    first | (refine l_ixs F (by assumption) rfl rfl rfl rfl rfl rfl (by omega) (fun m75 b75 hA75 hS75 => ?_)) | refine l_ixi rfl rfl rfl rfl rfl rfl (F.old (by assumption)) (by omega) (fun m75 b75 hA75 => ?_) | (refine l_ixoi F 0 rfl rfl rfl rfl rfl rfl rfl (by omega) (fun m e ha hA75 => ?_); cases ha) | (refine l_ixoi F 1 rfl rfl rfl rfl rfl rfl rfl (by omega) (fun m e ha hA75 => ?_); cases ha) | (refine l_ixoi F 2 rfl rfl rfl rfl rfl rfl rfl (by omega) (fun m e ha hA75 => ?_); cases ha) | (refine l_ixoi F 3 rfl rfl rfl rfl rfl rfl rfl (by omega) (fun m e ha hA75 => ?_); cases ha)
    refine l_rs (by kernel_rfl) ?_
    refine l_stoi F 3 rfl rfl rfl rfl rfl rfl rfl (by omega) hD (fun s F => ?_)
    (try dsimp only [n_1, n_2, n_3, n_4, List.append_nil, pk, n_5, n_6] at F)
    have hset : (pkz ms i.toNat).set (i.toNat / 2) ((pkz ms i.toNat).getD (i.toNat / 2) 0 + (if i.toNat % 2 = 0 then 1 else 16) * (ars.getD i.toNat default).1) = pkz ms (i.toNat + 1) := by
      rw [← hmg _ hi]; exact pkz_step (by omega)
    rw [ed, hset] at F
    refine l_nil (WK.nx (by assumption) ?_)
    refine SeqK.nx (by assumption) ?_
    refine k_linm [0, 1, 3, 2, 4, 5, 6, 7, 8] mixed (by kernel_rfl) (fun W K => ?_)
    try have hpS := F.pns
    refine l_op 0 rfl rfl rfl rfl rfl ?_
    refine l_op 2 rfl rfl rfl rfl rfl ?_
    refine l_op 2 rfl rfl rfl rfl rfl ?_
    first | refine l_ldc F 5 rfl rfl rfl rfl rfl rfl rfl ?_ | refine l_ldc F 1 rfl rfl rfl rfl rfl rfl rfl ?_ | refine l_ld0 rfl rfl rfl rfl rfl (by assumption) ?_ | refine l_ldj rfl rfl rfl rfl rfl rfl (by assumption) rfl ?_ | refine l_ldc F 0 rfl rfl rfl rfl rfl rfl rfl ?_ | refine l_ldc F 1 rfl rfl rfl rfl rfl rfl rfl ?_ | refine l_ldc F 2 rfl rfl rfl rfl rfl rfl rfl ?_ | refine l_ldc F 3 rfl rfl rfl rfl rfl rfl rfl ?_ | refine l_ldc F 4 rfl rfl rfl rfl rfl rfl rfl ?_ | refine l_ldc F 5 rfl rfl rfl rfl rfl rfl rfl ?_ | refine l_ldc F 6 rfl rfl rfl rfl rfl rfl rfl ?_ | refine l_ldc F 7 rfl rfl rfl rfl rfl rfl rfl ?_ | refine l_ldc F 8 rfl rfl rfl rfl rfl rfl rfl ?_ | refine l_ldc F 9 rfl rfl rfl rfl rfl rfl rfl ?_ | refine l_lda rfl rfl rfl rfl rfl (by assumption) ?_ | refine l_ldca F 0 rfl rfl rfl rfl rfl rfl rfl ?_ | refine l_ldca F 1 rfl rfl rfl rfl rfl rfl rfl ?_ | refine l_ldca F 2 rfl rfl rfl rfl rfl rfl rfl ?_ | refine l_ldca F 3 rfl rfl rfl rfl rfl rfl rfl ?_ | refine l_ldca F 4 rfl rfl rfl rfl rfl rfl rfl ?_ | refine l_ldca F 5 rfl rfl rfl rfl rfl rfl rfl ?_ | refine l_ldca F 6 rfl rfl rfl rfl rfl rfl rfl ?_ | refine l_ldca F 7 rfl rfl rfl rfl rfl rfl rfl ?_ | refine l_ldca F 8 rfl rfl rfl rfl rfl rfl rfl ?_ | refine l_ldca F 9 rfl rfl rfl rfl rfl rfl rfl ?_ | refine l_ldo F (by assumption) rfl rfl rfl rfl rfl rfl ?_ | refine l_ldoa F (by assumption) rfl rfl rfl rfl rfl rfl ?_
    first | have hpS := PnS.add hpS hS10 | have hpS := PnS.add hpS (OldC.sf (by assumption)) | skip
    first | refine l_ldc F 5 rfl rfl rfl rfl rfl rfl rfl ?_ | refine l_ldc F 1 rfl rfl rfl rfl rfl rfl rfl ?_ | refine l_ld0 rfl rfl rfl rfl rfl (by assumption) ?_ | refine l_ldj rfl rfl rfl rfl rfl rfl (by assumption) rfl ?_ | refine l_ldc F 0 rfl rfl rfl rfl rfl rfl rfl ?_ | refine l_ldc F 1 rfl rfl rfl rfl rfl rfl rfl ?_ | refine l_ldc F 2 rfl rfl rfl rfl rfl rfl rfl ?_ | refine l_ldc F 3 rfl rfl rfl rfl rfl rfl rfl ?_ | refine l_ldc F 4 rfl rfl rfl rfl rfl rfl rfl ?_ | refine l_ldc F 5 rfl rfl rfl rfl rfl rfl rfl ?_ | refine l_ldc F 6 rfl rfl rfl rfl rfl rfl rfl ?_ | refine l_ldc F 7 rfl rfl rfl rfl rfl rfl rfl ?_ | refine l_ldc F 8 rfl rfl rfl rfl rfl rfl rfl ?_ | refine l_ldc F 9 rfl rfl rfl rfl rfl rfl rfl ?_ | refine l_lda rfl rfl rfl rfl rfl (by assumption) ?_ | refine l_ldca F 0 rfl rfl rfl rfl rfl rfl rfl ?_ | refine l_ldca F 1 rfl rfl rfl rfl rfl rfl rfl ?_ | refine l_ldca F 2 rfl rfl rfl rfl rfl rfl rfl ?_ | refine l_ldca F 3 rfl rfl rfl rfl rfl rfl rfl ?_ | refine l_ldca F 4 rfl rfl rfl rfl rfl rfl rfl ?_ | refine l_ldca F 5 rfl rfl rfl rfl rfl rfl rfl ?_ | refine l_ldca F 6 rfl rfl rfl rfl rfl rfl rfl ?_ | refine l_ldca F 7 rfl rfl rfl rfl rfl rfl rfl ?_ | refine l_ldca F 8 rfl rfl rfl rfl rfl rfl rfl ?_ | refine l_ldca F 9 rfl rfl rfl rfl rfl rfl rfl ?_ | refine l_ldo F (by assumption) rfl rfl rfl rfl rfl rfl ?_ | refine l_ldoa F (by assumption) rfl rfl rfl rfl rfl rfl ?_
    first | have hpS := PnS.add hpS hS10 | have hpS := PnS.add hpS (OldC.sf (by assumption)) | skip
    have hpA := PnA.cel F 5 rfl (PnA.cel F 5 rfl pna_nil)
    refine l_callp F rfl rfl (by kernel_rfl) rfl rfl size_call (fun _ s F _ => ?_)
    (try dsimp only [n_1, n_2, n_3, n_4, List.append_nil, pk, n_5, n_6] at F)
    have hpA := PnA.cel F 5 rfl (PnA.cel F 5 rfl pna_nil)
    refine l_callp F rfl rfl (by kernel_rfl) rfl rfl (wput_call hAi) (fun yp s F _ => ?_)
    (try dsimp only [n_1, n_2, n_3, n_4, List.append_nil, pk, n_5, n_6] at F)
    have hpl := putR_len (v := (ars.getD i.toNat default).2) z2
    have hpA2 : PnA (pnAdd (pnAdd (some []) (some q10)) (some q10)) (Nm yd) s := PnA.celE F 5 4 rfl rfl (by decide) (PnA.celE F 5 4 rfl rfl (by decide) pna_nil)
    refine l_appi F 4 rfl rfl rfl rfl rfl rfl rfl (F.has 6 rfl) rfl (by omega) hD (fun x2 c2 s F => ?_) (.inl hpA2)
    (try dsimp only [n_1, n_2, n_3, n_4, List.append_nil, pk, n_5, n_6] at F)
    refine l_op 0 rfl rfl rfl rfl rfl ?_
    refine l_nil (WK.nx (by assumption) ?_)
    refine BlkK.nx (by assumption) ?_
    refine SeqK.nx (by assumption) ?_
    refine k_lin (fun W K => ?_)
    refine l_a64 rfl rfl rfl (by omega) rfl ?_
    refine l_op 0 rfl rfl rfl rfl rfl ?_
    refine l_nil (WK.nx (by assumption) ?_)
    have e1 : (i + 1).toNat = i.toNat + 1 := by omega
    have e2 := dataR_take (ars := ars) hi
    have e3 : (dataR (ars.take i.toNat)).length + (putR (ars.getD i.toNat default).2 (szm (ars.getD i.toNat default).1)).length = (dataR (ars.take (i + 1).toNat)).length := by rw [e1, e2, List.length_append]
    rw [← e2, ← e1, e3] at F
    exact K0.nx (i + 1, x2, c2) (by dsimp only; rw [← e3]; exact (by repeat (first | exact trivial | refine And.intro rfl ?_))) ⟨F.pick [0, 1, 2, 3, 4] (by decide), by omega, by omega, fun j hj => by
      by_cases hji : (j : Int) < i
      · exact hok j hji
      · have : j = i.toNat := by omega
        rw [this]; exact ⟨hmayi, htells⟩⟩ (by first | omega | (simp only; omega))
  replace hc7 := of_decide_eq_false ((irr_eq _).symm.trans hc7)
  have hall : ars.take i.toNat = ars := List.take_of_length_le (by omega)
  have hall2 : pkz ms i.toNat = packR ms := by rw [show i.toNat = ms.length by omega, pkz_end]
  have hdl := dataR_len ars
  have hpk := packR_len ms
  have hr : encR sgR op ars = some (opB op ++ restR ars) := by
    unfold encR
    rw [hsg]
    simp only
    rw [if_neg (by omega), if_neg (by rw [okArgs_of _ _ (by omega) (fun j hj => hok j (by omega))]; decide)]
  have hob : (opB op).length ≤ 2 := by unfold opB putR; split <;> simp
  rw [hall, hall2] at F
  refine k_exit ?_
  refine SeqK.et (by assumption) ?_
  refine LoopK.et (by assumption) ?_
  refine BlkK.et (by assumption) ?_
  refine SeqK.nx (by assumption) ?_
  refine k_seq (fun Q K => ?_)
  refine k_lin (fun W K => ?_)
  refine l_op 0 rfl rfl rfl rfl rfl ?_
  refine l_op 0 rfl rfl rfl rfl rfl ?_
  refine l_op 0 rfl rfl rfl rfl rfl ?_
  refine l_lit F rfl rfl rfl rfl (fun q88 s F => ?_)
  (try dsimp only [n_1, n_2, n_3, n_4, List.append_nil, pk, n_5, n_6] at F)
  have hcat : cat [(yb.1, (opB op).length, yb.2, opB op), (some ⟨q41, 0, some 0⟩, km, km, packR ms), (yd, (dataR ars).length, cd, dataR ars)] = opB op ++ restR ars := by
    simp [cat, restR, hmd]
  rw [hall] at F
  have h88 : Has s (some ⟨q88, 0, some 0⟩) 3 3 1 (rows eP [(yb.1, (opB op).length, yb.2, opB op), (some ⟨q41, 0, some 0⟩, km, km, packR ms), (yd, (dataR ars).length, cd, dataR ars)]) := F.has 5 rfl
  have hcc := concat_call (ps := [(yb.1, (opB op).length, yb.2, opB op), (some ⟨q41, 0, some 0⟩, km, km, packR ms), (yd, (dataR ars).length, cd, dataR ars)]) (Old.pure h88) (fun t ht => by
    simp only [List.mem_cons, List.mem_nil_iff, or_false] at ht
    rcases ht with rfl | rfl | rfl
    · exact Old.pure (F.has 2 rfl)
    · exact Old.pure (F.has 3 rfl)
    · exact Old.pure (F.has 4 rfl)) (by rw [hcat]; simp only [restR, hmd, List.length_append]; omega) (by decide)
  rw [hcat] at hcc
  rw [hall]
  refine l_callp F rfl rfl (by kernel_rfl) rfl rfl hcc (fun yr s F _ => ?_)
  (try dsimp only [n_1, n_2, n_3, n_4, List.append_nil, pk, n_5, n_6] at F)
  refine l_op 0 rfl rfl rfl rfl rfl ?_
  refine l_op 0 rfl rfl rfl rfl rfl ?_
  refine l_nil (WK.nx (by assumption) ?_)
  refine SeqK.nx (by assumption) ?_
  refine k_ret ?_
  refine FunK.rt (by assumption) rfl ?_
  -- leaf 8
  first
    | (rw [hr]; exact ⟨(none, 0), rfl, F.pick [0] (by decide), trivial⟩)
    | (rw [hr]; exact ⟨yr, rfl, F.pick [6] (by decide), trivial⟩)

end Go.Proofs.Ytkemnodaadlonaa
