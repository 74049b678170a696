/- What the program squeezes, and what the document squeezes. No statement of the seat is proved in this text. -/
import Derived.Test.YtddenboepgfbgaaBytes
set_option linter.unusedVariables false
set_option linter.unusedSimpArgs false
set_option maxRecDepth 100000
namespace Go.Proofs.Ytddenboepgfbgaa
open GAb Go

def xor8 (a b : Int) : Int := IntKind.u8.wrap ((BitVec.ofInt 8 a ^^^ BitVec.ofInt 8 b).toNat : Int)
def rowAt (was : List Int) (i : Nat) (x : Int) : Int := if i < was.length then xor8 x (was.getD i 0) else x
def rowTo (was now : List Int) (n : Nat) : List Int := (List.range n).map fun i => rowAt was i (now.getD i 0)
def rowL (was now : List Int) : List Int := rowTo was now now.length
theorem rowTo_succ (was now : List Int) (n : Nat) : rowTo was now (n + 1) = rowTo was now n ++ [rowAt was n (now.getD n 0)] := by simp [rowTo, List.range_succ]
theorem rowTo_length (was now : List Int) (n : Nat) : (rowTo was now n).length = n := by simp [rowTo]

theorem row_call (D : Nat → Prop) {σ : AState} {a b : Option Addr} {l c m d : Nat} {was now : List Int} (h1 : Bs σ a l c was) (h2 : Bs σ b m d now) (hm : m ≤ 1000000) (hl : l ≤ 1000000) :
    SCall Try.prog D 29 [.slice a l c, .slice b m d] σ fun v s => ∃ x k e, v = .slice x k e ∧ Own σ.next s x k e 1 (u8l (rowL was now)) ∧ Kp σ.next σ s := by
  have hwl : was.length = l := by simpa using h1.size
  have hnm : now.length = m := by simpa using h2.size
  refine e_fun' (m := 33) Try.func29 rfl rfl fun B hB hN => ?_
  repeat (first | refine e_mv rfl rfl rfl rfl ?_ | refine e_ops rfl rfl rfl (by first | exact rfl) rfl ?_ | refine e_s rfl rfl ?_ | refine e_nil ?_ | refine then_n ?_ | refine e_seq ?_ | refine e_region ?_ | refine e_block ?_ | refine e_ret ?_ | refine e_skip ?_ | refine e_exit ?_ | refine then_ret ?_ | refine then_exit ?_ | refine blk_n ?_ | refine blk_ret ?_ | refine blk_here ?_ | refine blk_there rfl ?_ | refine e_cond_t rfl rfl rfl ?_ | refine e_cond_f rfl rfl rfl ?_)
  refine e_loop (α := Nat × Option Addr × Nat) (fun s σ' => s.1 ≤ m ∧ Own σ.next σ' s.2.1 s.1 s.2.2 1 (u8l (rowTo was now s.1)) ∧ Kp σ.next σ σ')
    (fun s => [(0, .slice a l c), (1, .slice b m d), (5, .slice s.2.1 s.1 s.2.2), (6, .int .i64 s.1)]) (fun s => m - s.1) (0, none, 0) ⟨Nat.zero_le _, Own.nil (Nat.le_refl _), Kp.refl _ _⟩ ⟨rfl, rfl, rfl, rfl, trivial⟩ ?_
  rintro ⟨i, x, e⟩ env s ⟨hi, hO, hK⟩
  simp only at hi hO
  by_cases him : i < m
  · repeat (first | refine e_mv rfl rfl rfl rfl ?_ | refine e_ops rfl rfl rfl (by first | exact congrArg Value.bool (decide_eq_true (by omega)) | exact congrArg Value.bool (decide_eq_false (by omega)) | exact congrArg Value.bool (beq_iff_eq.2 (by omega)) | exact congrArg Value.bool (beq_eq_false_iff_ne.2 (by omega)) | exact congrArg Value.bool (bne_iff_ne.2 (by omega)) | exact congrArg Value.bool (bne_eq_false_iff_eq.2 (by omega)) | exact congrArg (Value.int .i64) (wrapi (by omega) (by omega)) | exact congrArg (Value.int .u8) (wrap8 (by omega) (by omega)) | exact congrArg (Value.int .u32) (wrap32 (by omega) (by omega)) | exact rfl) rfl ?_ | refine e_s rfl rfl ?_ | refine e_nil ?_ | refine then_n ?_ | refine e_seq ?_ | refine e_region ?_ | refine e_block ?_ | refine e_ret ?_ | refine e_skip ?_ | refine e_exit ?_ | refine then_ret ?_ | refine then_exit ?_ | refine blk_n ?_ | refine blk_ret ?_ | refine blk_here ?_ | refine blk_there rfl ?_ | refine e_cond_t rfl rfl rfl ?_ | refine e_cond_f rfl rfl rfl ?_)
    refine e_ixi rfl rfl rfl rfl rfl (h2.kp (Nat.le_refl _) hK) (by omega) (by omega) fun p hp => ?_
    refine e_ld rfl rfl rfl rfl hp ?_
    by_cases hil : i < l
    · repeat (first | refine e_mv rfl rfl rfl rfl ?_ | refine e_ops rfl rfl rfl (by first | exact congrArg Value.bool (decide_eq_true (by omega)) | exact congrArg Value.bool (decide_eq_false (by omega)) | exact congrArg Value.bool (beq_iff_eq.2 (by omega)) | exact congrArg Value.bool (beq_eq_false_iff_ne.2 (by omega)) | exact congrArg Value.bool (bne_iff_ne.2 (by omega)) | exact congrArg Value.bool (bne_eq_false_iff_eq.2 (by omega)) | exact congrArg (Value.int .i64) (wrapi (by omega) (by omega)) | exact congrArg (Value.int .u8) (wrap8 (by omega) (by omega)) | exact congrArg (Value.int .u32) (wrap32 (by omega) (by omega)) | exact rfl) rfl ?_ | refine e_s rfl rfl ?_ | refine e_nil ?_ | refine then_n ?_ | refine e_seq ?_ | refine e_region ?_ | refine e_block ?_ | refine e_ret ?_ | refine e_skip ?_ | refine e_exit ?_ | refine then_ret ?_ | refine then_exit ?_ | refine blk_n ?_ | refine blk_ret ?_ | refine blk_here ?_ | refine blk_there rfl ?_ | refine e_cond_t rfl rfl rfl ?_ | refine e_cond_f rfl rfl rfl ?_)
      refine e_ixi rfl rfl rfl rfl rfl (h1.kp (Nat.le_refl _) hK) (by omega) (by omega) fun p hp => ?_
      refine e_ld rfl rfl rfl rfl hp ?_
      refine e_opv (.int .u8 (xor8 (now.getD i 0) (was.getD i 0))) rfl rfl rfl rfl ?_
      repeat (first | refine e_mv rfl rfl rfl rfl ?_ | refine e_ops rfl rfl rfl (by first | exact congrArg Value.bool (decide_eq_true (by omega)) | exact congrArg Value.bool (decide_eq_false (by omega)) | exact congrArg Value.bool (beq_iff_eq.2 (by omega)) | exact congrArg Value.bool (beq_eq_false_iff_ne.2 (by omega)) | exact congrArg Value.bool (bne_iff_ne.2 (by omega)) | exact congrArg Value.bool (bne_eq_false_iff_eq.2 (by omega)) | exact congrArg (Value.int .i64) (wrapi (by omega) (by omega)) | exact congrArg (Value.int .u8) (wrap8 (by omega) (by omega)) | exact congrArg (Value.int .u32) (wrap32 (by omega) (by omega)) | exact rfl) rfl ?_ | refine e_s rfl rfl ?_ | refine e_nil ?_ | refine then_n ?_ | refine e_seq ?_ | refine e_region ?_ | refine e_block ?_ | refine e_ret ?_ | refine e_skip ?_ | refine e_exit ?_ | refine then_ret ?_ | refine then_exit ?_ | refine blk_n ?_ | refine blk_ret ?_ | refine blk_here ?_ | refine blk_there rfl ?_ | refine e_cond_t rfl rfl rfl ?_ | refine e_cond_f rfl rfl rfl ?_)
      refine e_lit (n0 := s.next) (k := 1) (vs := u8l [xor8 (now.getD i 0) (was.getD i 0)]) rfl rfl rfl (Nat.le_refl _) fun q s1 hO1 hK1 => ?_
      refine e_appi (by_ := 1) rfl rfl rfl rfl rfl (hO.kp (Nat.le_refl _) hK1) hO1.has (by omega) hN fun x2 c2 s2 hO2 hK2 => ?_
      repeat (first | refine e_mv rfl rfl rfl rfl ?_ | refine e_ops rfl rfl rfl (by first | exact congrArg Value.bool (decide_eq_true (by omega)) | exact congrArg Value.bool (decide_eq_false (by omega)) | exact congrArg Value.bool (beq_iff_eq.2 (by omega)) | exact congrArg Value.bool (beq_eq_false_iff_ne.2 (by omega)) | exact congrArg Value.bool (bne_iff_ne.2 (by omega)) | exact congrArg Value.bool (bne_eq_false_iff_eq.2 (by omega)) | exact congrArg (Value.int .i64) (wrapi (by omega) (by omega)) | exact congrArg (Value.int .u8) (wrap8 (by omega) (by omega)) | exact congrArg (Value.int .u32) (wrap32 (by omega) (by omega)) | exact rfl) rfl ?_ | refine e_s rfl rfl ?_ | refine e_nil ?_ | refine then_n ?_ | refine e_seq ?_ | refine e_region ?_ | refine e_block ?_ | refine e_ret ?_ | refine e_skip ?_ | refine e_exit ?_ | refine then_ret ?_ | refine then_exit ?_ | refine blk_n ?_ | refine blk_ret ?_ | refine blk_here ?_ | refine blk_there rfl ?_ | refine e_cond_t rfl rfl rfl ?_ | refine e_cond_f rfl rfl rfl ?_)
      refine ⟨(i + 1, x2, c2), _, rfl, by simp only; omega, ⟨by simp only; omega, ?_, (hK.trans (hK1.weaken hO.le)).trans hK2⟩, ⟨rfl, rfl, rfl, rfl, trivial⟩⟩
      simp only
      rw [rowTo_succ]
      unfold rowAt
      rw [if_pos (by omega)]
      exact hO2
    · repeat (first | refine e_mv rfl rfl rfl rfl ?_ | refine e_ops rfl rfl rfl (by first | exact congrArg Value.bool (decide_eq_true (by omega)) | exact congrArg Value.bool (decide_eq_false (by omega)) | exact congrArg Value.bool (beq_iff_eq.2 (by omega)) | exact congrArg Value.bool (beq_eq_false_iff_ne.2 (by omega)) | exact congrArg Value.bool (bne_iff_ne.2 (by omega)) | exact congrArg Value.bool (bne_eq_false_iff_eq.2 (by omega)) | exact congrArg (Value.int .i64) (wrapi (by omega) (by omega)) | exact congrArg (Value.int .u8) (wrap8 (by omega) (by omega)) | exact congrArg (Value.int .u32) (wrap32 (by omega) (by omega)) | exact rfl) rfl ?_ | refine e_s rfl rfl ?_ | refine e_nil ?_ | refine then_n ?_ | refine e_seq ?_ | refine e_region ?_ | refine e_block ?_ | refine e_ret ?_ | refine e_skip ?_ | refine e_exit ?_ | refine then_ret ?_ | refine then_exit ?_ | refine blk_n ?_ | refine blk_ret ?_ | refine blk_here ?_ | refine blk_there rfl ?_ | refine e_cond_t rfl rfl rfl ?_ | refine e_cond_f rfl rfl rfl ?_)
      refine e_lit (n0 := s.next) (k := 1) (vs := u8l [now.getD i 0]) rfl rfl rfl (Nat.le_refl _) fun q s1 hO1 hK1 => ?_
      refine e_appi (by_ := 1) rfl rfl rfl rfl rfl (hO.kp (Nat.le_refl _) hK1) hO1.has (by omega) hN fun x2 c2 s2 hO2 hK2 => ?_
      repeat (first | refine e_mv rfl rfl rfl rfl ?_ | refine e_ops rfl rfl rfl (by first | exact congrArg Value.bool (decide_eq_true (by omega)) | exact congrArg Value.bool (decide_eq_false (by omega)) | exact congrArg Value.bool (beq_iff_eq.2 (by omega)) | exact congrArg Value.bool (beq_eq_false_iff_ne.2 (by omega)) | exact congrArg Value.bool (bne_iff_ne.2 (by omega)) | exact congrArg Value.bool (bne_eq_false_iff_eq.2 (by omega)) | exact congrArg (Value.int .i64) (wrapi (by omega) (by omega)) | exact congrArg (Value.int .u8) (wrap8 (by omega) (by omega)) | exact congrArg (Value.int .u32) (wrap32 (by omega) (by omega)) | exact rfl) rfl ?_ | refine e_s rfl rfl ?_ | refine e_nil ?_ | refine then_n ?_ | refine e_seq ?_ | refine e_region ?_ | refine e_block ?_ | refine e_ret ?_ | refine e_skip ?_ | refine e_exit ?_ | refine then_ret ?_ | refine then_exit ?_ | refine blk_n ?_ | refine blk_ret ?_ | refine blk_here ?_ | refine blk_there rfl ?_ | refine e_cond_t rfl rfl rfl ?_ | refine e_cond_f rfl rfl rfl ?_)
      refine ⟨(i + 1, x2, c2), _, rfl, by simp only; omega, ⟨by simp only; omega, ?_, (hK.trans (hK1.weaken hO.le)).trans hK2⟩, ⟨rfl, rfl, rfl, rfl, trivial⟩⟩
      simp only
      rw [rowTo_succ]
      unfold rowAt
      rw [if_neg (by omega)]
      exact hO2
  · repeat (first | refine e_mv rfl rfl rfl rfl ?_ | refine e_ops rfl rfl rfl (by first | exact congrArg Value.bool (decide_eq_true (by omega)) | exact congrArg Value.bool (decide_eq_false (by omega)) | exact congrArg Value.bool (beq_iff_eq.2 (by omega)) | exact congrArg Value.bool (beq_eq_false_iff_ne.2 (by omega)) | exact congrArg Value.bool (bne_iff_ne.2 (by omega)) | exact congrArg Value.bool (bne_eq_false_iff_eq.2 (by omega)) | exact congrArg (Value.int .i64) (wrapi (by omega) (by omega)) | exact congrArg (Value.int .u8) (wrap8 (by omega) (by omega)) | exact congrArg (Value.int .u32) (wrap32 (by omega) (by omega)) | exact rfl) rfl ?_ | refine e_s rfl rfl ?_ | refine e_nil ?_ | refine then_n ?_ | refine e_seq ?_ | refine e_region ?_ | refine e_block ?_ | refine e_ret ?_ | refine e_skip ?_ | refine e_exit ?_ | refine then_ret ?_ | refine then_exit ?_ | refine blk_n ?_ | refine blk_ret ?_ | refine blk_here ?_ | refine blk_there rfl ?_ | refine e_cond_t rfl rfl rfl ?_ | refine e_cond_f rfl rfl rfl ?_)
    apply e_done (Or.inr rfl)
    case hr => rfl
    case hv => rfl
    case hR =>
      have : i = now.length := by omega
      subst this
      exact ⟨x, _, e, rfl, hO, hK⟩

/-! ### Runs of zeros -/
def flush : Nat → List Int
  | 0 => []
  | z + 1 => [0, ((min (z + 1) 256 : Nat) : Int) - 1] ++ flush (z + 1 - min (z + 1) 256)
termination_by z => z
decreasing_by omega
theorem flush_zero : flush 0 = [] := by rw [flush]
theorem flush_pos {z : Nat} (h : 0 < z) : flush z = [0, ((min z 256 : Nat) : Int) - 1] ++ flush (z - min z 256) := by
  cases z with
  | zero => omega
  | succ z => rw [flush]
def sqz : Nat → List Int → List Int
  | _, [] => []
  | z, x :: r => if x = 0 then sqz (z + 1) r else flush z ++ x :: sqz 0 r
theorem sqz_zero (z : Nat) (r : List Int) : sqz z (0 :: r) = sqz (z + 1) r := by simp [sqz]
theorem sqz_other (z : Nat) {x : Int} (h : x ≠ 0) (r : List Int) : sqz z (x :: r) = flush z ++ x :: sqz 0 r := by simp [sqz, h]
theorem sqz_drop_zero {z : Nat} {r : List Int} {i : Nat} (hi : i < r.length) (h : r.getD i 0 = 0) : sqz z (r.drop i) = sqz (z + 1) (r.drop (i + 1)) := by
  have : r[i] = 0 := by simpa [List.getD, hi] using h
  rw [List.drop_eq_getElem_cons hi, this, sqz_zero]
theorem sqz_drop_other {z : Nat} {r : List Int} {i : Nat} (hi : i < r.length) (h : r.getD i 0 ≠ 0) : sqz z (r.drop i) = flush z ++ r.getD i 0 :: sqz 0 (r.drop (i + 1)) := by
  have : r[i] = r.getD i 0 := by simp [List.getD, hi]
  rw [List.drop_eq_getElem_cons hi, this, sqz_other _ h]
theorem rowL_at {was now : List Int} {i : Nat} (h : i < now.length) : (rowL was now).getD i 0 = rowAt was i (now.getD i 0) := by
  unfold rowL rowTo
  simp [List.getD, h]
theorem rowL_length (was now : List Int) : (rowL was now).length = now.length := rowTo_length _ _ _

theorem squeeze_call (D : Nat → Prop) {σ : AState} {a b : Option Addr} {l c m d : Nat} {was now : List Int} (h1 : Bs σ a l c was) (h2 : Bs σ b m d now) (hm : m ≤ 1000000) (hl : l ≤ 1000000) :
    SCall Try.prog D 10 [.slice a l c, .slice b m d] σ fun v s => ∃ x k e, v = .slice x k e ∧ Own σ.next s x k e 1 (u8l (sqz 0 (rowL was now))) ∧ Kp σ.next σ s ∧ k ≤ 3 * m := by
  have hwl : was.length = l := by simpa using h1.size
  have hnm : now.length = m := by simpa using h2.size
  refine e_fun' (m := 49) Try.func10 rfl rfl fun B hB hN => ?_
  repeat (first | refine e_mv rfl rfl rfl rfl ?_ | refine e_ops rfl rfl rfl (by first | exact rfl) rfl ?_ | refine e_s rfl rfl ?_ | refine e_nil ?_ | refine then_n ?_ | refine e_seq ?_ | refine e_region ?_ | refine e_block ?_ | refine e_ret ?_ | refine e_skip ?_ | refine e_exit ?_ | refine then_ret ?_ | refine then_exit ?_ | refine blk_n ?_ | refine blk_ret ?_ | refine blk_here ?_ | refine blk_there rfl ?_ | refine e_cond_t rfl rfl rfl ?_ | refine e_cond_f rfl rfl rfl ?_)
  refine e_loop (α := Nat × Nat × Option Addr × Nat × Nat × List Int) (fun ⟨i, z, x, k, e, out⟩ σ' => i ≤ m ∧ k + 2 * z ≤ 3 * i ∧ Own σ.next σ' x k e 1 (u8l out) ∧ out ++ sqz z ((rowL was now).drop i) = sqz 0 (rowL was now) ∧ Kp σ.next σ σ')
    (fun ⟨i, z, x, k, e, out⟩ => [(0, .slice a l c), (9, .slice b m d), (10, .int .i64 m), (5, .slice x k e), (6, .int .i64 z), (11, .int .i64 i)]) (fun ⟨i, z, x, k, e, out⟩ => m - i) (0, 0, none, 0, 0, [])
    ⟨Nat.zero_le _, by omega, Own.nil (Nat.le_refl _), rfl, Kp.refl _ _⟩ ⟨rfl, rfl, rfl, rfl, rfl, rfl, trivial⟩ ?_
  rintro ⟨i, z, x, k, e, out⟩ env s ⟨hi, hk, hO, hq, hK⟩
  by_cases him : i < m
  · repeat (first | refine e_mv rfl rfl rfl rfl ?_ | refine e_ops rfl rfl rfl (by first | exact congrArg Value.bool (decide_eq_true (by omega)) | exact congrArg Value.bool (decide_eq_false (by omega)) | exact congrArg Value.bool (beq_iff_eq.2 (by omega)) | exact congrArg Value.bool (beq_eq_false_iff_ne.2 (by omega)) | exact congrArg Value.bool (bne_iff_ne.2 (by omega)) | exact congrArg Value.bool (bne_eq_false_iff_eq.2 (by omega)) | exact congrArg (Value.int .i64) (wrapi (by omega) (by omega)) | exact congrArg (Value.int .u8) (wrap8 (by omega) (by omega)) | exact congrArg (Value.int .u32) (wrap32 (by omega) (by omega)) | exact rfl) rfl ?_ | refine e_s rfl rfl ?_ | refine e_nil ?_ | refine then_n ?_ | refine e_seq ?_ | refine e_region ?_ | refine e_block ?_ | refine e_ret ?_ | refine e_skip ?_ | refine e_exit ?_ | refine then_ret ?_ | refine then_exit ?_ | refine blk_n ?_ | refine blk_ret ?_ | refine blk_here ?_ | refine blk_there rfl ?_ | refine e_cond_t rfl rfl rfl ?_ | refine e_cond_f rfl rfl rfl ?_)
    refine e_ixi rfl rfl rfl rfl rfl (h2.kp (Nat.le_refl _) hK) (by omega) (by omega) fun p hp => ?_
    refine e_ld rfl rfl rfl rfl hp ?_
    repeat (first | refine e_mv rfl rfl rfl rfl ?_ | refine e_ops rfl rfl rfl (by first | exact congrArg Value.bool (decide_eq_true (by omega)) | exact congrArg Value.bool (decide_eq_false (by omega)) | exact congrArg Value.bool (beq_iff_eq.2 (by omega)) | exact congrArg Value.bool (beq_eq_false_iff_ne.2 (by omega)) | exact congrArg Value.bool (bne_iff_ne.2 (by omega)) | exact congrArg Value.bool (bne_eq_false_iff_eq.2 (by omega)) | exact congrArg (Value.int .i64) (wrapi (by omega) (by omega)) | exact congrArg (Value.int .u8) (wrap8 (by omega) (by omega)) | exact congrArg (Value.int .u32) (wrap32 (by omega) (by omega)) | exact rfl) rfl ?_ | refine e_s rfl rfl ?_ | refine e_nil ?_ | refine then_n ?_)
    refine e_cut (α := Unit) (fun _ s' => s' = s) (fun _ => [(0, .slice a l c), (9, .slice b m d), (10, .int .i64 m), (5, .slice x k e), (6, .int .i64 z), (11, .int .i64 i), (8, .int .u8 (rowAt was i (now.getD i 0)))]) ?_ ?_
    · unfold rowAt
      by_cases hil : i < l
      · rw [if_pos (by omega)]
        repeat (first | refine e_mv rfl rfl rfl rfl ?_ | refine e_ops rfl rfl rfl (by first | exact congrArg Value.bool (decide_eq_true (by omega)) | exact congrArg Value.bool (decide_eq_false (by omega)) | exact congrArg Value.bool (beq_iff_eq.2 (by omega)) | exact congrArg Value.bool (beq_eq_false_iff_ne.2 (by omega)) | exact congrArg Value.bool (bne_iff_ne.2 (by omega)) | exact congrArg Value.bool (bne_eq_false_iff_eq.2 (by omega)) | exact congrArg (Value.int .i64) (wrapi (by omega) (by omega)) | exact congrArg (Value.int .u8) (wrap8 (by omega) (by omega)) | exact congrArg (Value.int .u32) (wrap32 (by omega) (by omega)) | exact rfl) rfl ?_ | refine e_s rfl rfl ?_ | refine e_nil ?_ | refine then_n ?_ | refine e_seq ?_ | refine e_region ?_ | refine e_block ?_ | refine e_ret ?_ | refine e_skip ?_ | refine e_exit ?_ | refine then_ret ?_ | refine then_exit ?_ | refine blk_n ?_ | refine blk_ret ?_ | refine blk_here ?_ | refine blk_there rfl ?_ | refine e_cond_t rfl rfl rfl ?_ | refine e_cond_f rfl rfl rfl ?_)
        refine e_ixi rfl rfl rfl rfl rfl (h1.kp (Nat.le_refl _) hK) (by omega) (by omega) fun p hp => ?_
        refine e_ld rfl rfl rfl rfl hp ?_
        refine e_opv (.int .u8 (xor8 (now.getD i 0) (was.getD i 0))) rfl rfl rfl rfl ?_
        repeat (first | refine e_mv rfl rfl rfl rfl ?_ | refine e_ops rfl rfl rfl (by first | exact congrArg Value.bool (decide_eq_true (by omega)) | exact congrArg Value.bool (decide_eq_false (by omega)) | exact congrArg Value.bool (beq_iff_eq.2 (by omega)) | exact congrArg Value.bool (beq_eq_false_iff_ne.2 (by omega)) | exact congrArg Value.bool (bne_iff_ne.2 (by omega)) | exact congrArg Value.bool (bne_eq_false_iff_eq.2 (by omega)) | exact congrArg (Value.int .i64) (wrapi (by omega) (by omega)) | exact congrArg (Value.int .u8) (wrap8 (by omega) (by omega)) | exact congrArg (Value.int .u32) (wrap32 (by omega) (by omega)) | exact rfl) rfl ?_ | refine e_s rfl rfl ?_ | refine e_nil ?_ | refine then_n ?_ | refine e_seq ?_ | refine e_region ?_ | refine e_block ?_ | refine e_ret ?_ | refine e_skip ?_ | refine e_exit ?_ | refine then_ret ?_ | refine then_exit ?_ | refine blk_n ?_ | refine blk_ret ?_ | refine blk_here ?_ | refine blk_there rfl ?_ | refine e_cond_t rfl rfl rfl ?_ | refine e_cond_f rfl rfl rfl ?_)
        exact ⟨(), _, rfl, rfl, rfl, rfl, rfl, rfl, rfl, rfl, rfl, trivial⟩
      · rw [if_neg (by omega)]
        repeat (first | refine e_mv rfl rfl rfl rfl ?_ | refine e_ops rfl rfl rfl (by first | exact congrArg Value.bool (decide_eq_true (by omega)) | exact congrArg Value.bool (decide_eq_false (by omega)) | exact congrArg Value.bool (beq_iff_eq.2 (by omega)) | exact congrArg Value.bool (beq_eq_false_iff_ne.2 (by omega)) | exact congrArg Value.bool (bne_iff_ne.2 (by omega)) | exact congrArg Value.bool (bne_eq_false_iff_eq.2 (by omega)) | exact congrArg (Value.int .i64) (wrapi (by omega) (by omega)) | exact congrArg (Value.int .u8) (wrap8 (by omega) (by omega)) | exact congrArg (Value.int .u32) (wrap32 (by omega) (by omega)) | exact rfl) rfl ?_ | refine e_s rfl rfl ?_ | refine e_nil ?_ | refine then_n ?_ | refine e_seq ?_ | refine e_region ?_ | refine e_block ?_ | refine e_ret ?_ | refine e_skip ?_ | refine e_exit ?_ | refine then_ret ?_ | refine then_exit ?_ | refine blk_n ?_ | refine blk_ret ?_ | refine blk_here ?_ | refine blk_there rfl ?_ | refine e_cond_t rfl rfl rfl ?_ | refine e_cond_f rfl rfl rfl ?_)
        exact ⟨(), _, rfl, rfl, rfl, rfl, rfl, rfl, rfl, rfl, rfl, trivial⟩
    rintro _ env s' rfl
    have hat := rowL_at (was := was) (i := i) (now := now) (by omega)
    have hlen := rowL_length was now
    by_cases hx : rowAt was i (now.getD i 0) = 0
    · repeat (first | refine e_mv rfl rfl rfl rfl ?_ | refine e_ops rfl rfl rfl (by first | exact congrArg Value.bool (decide_eq_true (by omega)) | exact congrArg Value.bool (decide_eq_false (by omega)) | exact congrArg Value.bool (beq_iff_eq.2 (by omega)) | exact congrArg Value.bool (beq_eq_false_iff_ne.2 (by omega)) | exact congrArg Value.bool (bne_iff_ne.2 (by omega)) | exact congrArg Value.bool (bne_eq_false_iff_eq.2 (by omega)) | exact congrArg (Value.int .i64) (wrapi (by omega) (by omega)) | exact congrArg (Value.int .u8) (wrap8 (by omega) (by omega)) | exact congrArg (Value.int .u32) (wrap32 (by omega) (by omega)) | exact rfl) rfl ?_ | refine e_s rfl rfl ?_ | refine e_nil ?_ | refine then_n ?_ | refine e_seq ?_ | refine e_region ?_ | refine e_block ?_ | refine e_ret ?_ | refine e_skip ?_ | refine e_exit ?_ | refine then_ret ?_ | refine then_exit ?_ | refine blk_n ?_ | refine blk_ret ?_ | refine blk_here ?_ | refine blk_there rfl ?_ | refine e_cond_t rfl rfl rfl ?_ | refine e_cond_f rfl rfl rfl ?_)
      refine ⟨(i + 1, z + 1, x, k, e, out), _, rfl, by simp only; omega, ⟨by omega, by omega, hO, ?_, hK⟩, ⟨rfl, rfl, rfl, rfl, rfl, rfl, trivial⟩⟩
      rw [← sqz_drop_zero (by omega) (by rw [hat]; exact hx)]
      exact hq
    · repeat (first | refine e_mv rfl rfl rfl rfl ?_ | refine e_ops rfl rfl rfl (by first | exact congrArg Value.bool (decide_eq_true (by omega)) | exact congrArg Value.bool (decide_eq_false (by omega)) | exact congrArg Value.bool (beq_iff_eq.2 (by omega)) | exact congrArg Value.bool (beq_eq_false_iff_ne.2 (by omega)) | exact congrArg Value.bool (bne_iff_ne.2 (by omega)) | exact congrArg Value.bool (bne_eq_false_iff_eq.2 (by omega)) | exact congrArg (Value.int .i64) (wrapi (by omega) (by omega)) | exact congrArg (Value.int .u8) (wrap8 (by omega) (by omega)) | exact congrArg (Value.int .u32) (wrap32 (by omega) (by omega)) | exact rfl) rfl ?_ | refine e_s rfl rfl ?_ | refine e_nil ?_ | refine then_n ?_ | refine e_seq ?_ | refine e_region ?_ | refine e_block ?_ | refine e_ret ?_ | refine e_skip ?_ | refine e_exit ?_ | refine then_ret ?_ | refine then_exit ?_ | refine blk_n ?_ | refine blk_ret ?_ | refine blk_here ?_ | refine blk_there rfl ?_ | refine e_cond_t rfl rfl rfl ?_ | refine e_cond_f rfl rfl rfl ?_)
      refine e_loop (α := Nat × Option Addr × Nat × Nat × List Int) (fun ⟨z', x, k', e, out'⟩ σ' => k' + 2 * z' ≤ k + 2 * z ∧ Own σ.next σ' x k' e 1 (u8l out') ∧ out' ++ flush z' = out ++ flush z ∧ Kp σ.next σ σ')
        (fun ⟨z', x, k', e, _⟩ => [(0, .slice a l c), (9, .slice b m d), (10, .int .i64 m), (5, .slice x k' e), (6, .int .i64 z'), (11, .int .i64 i), (8, .int .u8 (rowAt was i (now.getD i 0)))]) (fun ⟨z', _⟩ => z') (z, x, k, e, out)
        ⟨Nat.le_refl _, hO, rfl, hK⟩ ⟨rfl, rfl, rfl, rfl, rfl, rfl, rfl, trivial⟩ ?_
      rintro ⟨z', x', k', e', out'⟩ env s2 ⟨hk2, hO2, hq2, hK2⟩
      by_cases hz : 0 < z'
      · have hmin : (if (256 : Int) < (z' : Int) then 256 else (z' : Int)) = ((min z' 256 : Nat) : Int) := by
          by_cases h : z' < 256
          · rw [if_neg (by omega), Nat.min_eq_left (by omega)]
          · by_cases h2 : z' = 256
            · subst h2; rfl
            · rw [if_pos (by omega), Nat.min_eq_right (by omega)]; rfl
        repeat (first | refine e_mv rfl rfl rfl rfl ?_ | refine e_ops rfl rfl rfl (by first | exact congrArg (Value.int .i64) hmin | exact congrArg Value.bool (decide_eq_true (by omega)) | exact congrArg Value.bool (decide_eq_false (by omega)) | exact congrArg Value.bool (beq_iff_eq.2 (by omega)) | exact congrArg Value.bool (beq_eq_false_iff_ne.2 (by omega)) | exact congrArg Value.bool (bne_iff_ne.2 (by omega)) | exact congrArg Value.bool (bne_eq_false_iff_eq.2 (by omega)) | exact congrArg (Value.int .i64) (wrapi (by omega) (by omega)) | exact congrArg (Value.int .u8) (wrap8 (by omega) (by omega)) | exact congrArg (Value.int .u32) (wrap32 (by omega) (by omega)) | exact rfl) rfl ?_ | refine e_s rfl rfl ?_ | refine e_nil ?_ | refine then_n ?_ | refine e_seq ?_ | refine e_region ?_ | refine e_block ?_ | refine e_ret ?_ | refine e_skip ?_ | refine e_exit ?_ | refine then_ret ?_ | refine then_exit ?_ | refine blk_n ?_ | refine blk_ret ?_ | refine blk_here ?_ | refine blk_there rfl ?_ | refine e_cond_t rfl rfl rfl ?_ | refine e_cond_f rfl rfl rfl ?_)
        refine e_lit (n0 := s2.next) (k := 1) (vs := u8l [0, ((min z' 256 : Nat) : Int) - 1]) rfl rfl rfl (Nat.le_refl _) fun q s3 hO3 hK3 => ?_
        refine e_appi (by_ := 1) rfl rfl rfl rfl rfl (hO2.kp (Nat.le_refl _) hK3) hO3.has (by omega) hN fun x4 c4 s4 hO4 hK4 => ?_
        repeat (first | refine e_mv rfl rfl rfl rfl ?_ | refine e_ops rfl rfl rfl (by first | exact congrArg (Value.int .i64) hmin | exact congrArg (Value.int .i64) (show IntKind.i64.wrap ((z' : Int) - ((min z' 256 : Nat) : Int)) = ((z' - min z' 256 : Nat) : Int) by rw [wrapi (by omega) (by omega)]; omega) | exact congrArg Value.bool (decide_eq_true (by omega)) | exact congrArg Value.bool (decide_eq_false (by omega)) | exact congrArg Value.bool (beq_iff_eq.2 (by omega)) | exact congrArg Value.bool (beq_eq_false_iff_ne.2 (by omega)) | exact congrArg Value.bool (bne_iff_ne.2 (by omega)) | exact congrArg Value.bool (bne_eq_false_iff_eq.2 (by omega)) | exact congrArg (Value.int .i64) (wrapi (by omega) (by omega)) | exact congrArg (Value.int .u8) (wrap8 (by omega) (by omega)) | exact congrArg (Value.int .u32) (wrap32 (by omega) (by omega)) | exact rfl) rfl ?_ | refine e_s rfl rfl ?_ | refine e_nil ?_ | refine then_n ?_ | refine e_seq ?_ | refine e_region ?_ | refine e_block ?_ | refine e_ret ?_ | refine e_skip ?_ | refine e_exit ?_ | refine then_ret ?_ | refine then_exit ?_ | refine blk_n ?_ | refine blk_ret ?_ | refine blk_here ?_ | refine blk_there rfl ?_ | refine e_cond_t rfl rfl rfl ?_ | refine e_cond_f rfl rfl rfl ?_)
        refine ⟨(z' - min z' 256, x4, k' + 2, c4, out' ++ [0, ((min z' 256 : Nat) : Int) - 1]), _, rfl, by simp only; omega, ⟨by omega, hO4, ?_, (hK2.trans (hK3.weaken hO2.le)).trans hK4⟩, ⟨rfl, rfl, rfl, rfl, rfl, rfl, rfl, trivial⟩⟩
        rw [← hq2, flush_pos hz, List.append_assoc]
      · have hz0 : z' = 0 := by omega
        subst hz0
        repeat (first | refine e_mv rfl rfl rfl rfl ?_ | refine e_ops rfl rfl rfl (by first | exact congrArg Value.bool (decide_eq_true (by omega)) | exact congrArg Value.bool (decide_eq_false (by omega)) | exact congrArg Value.bool (beq_iff_eq.2 (by omega)) | exact congrArg Value.bool (beq_eq_false_iff_ne.2 (by omega)) | exact congrArg Value.bool (bne_iff_ne.2 (by omega)) | exact congrArg Value.bool (bne_eq_false_iff_eq.2 (by omega)) | exact congrArg (Value.int .i64) (wrapi (by omega) (by omega)) | exact congrArg (Value.int .u8) (wrap8 (by omega) (by omega)) | exact congrArg (Value.int .u32) (wrap32 (by omega) (by omega)) | exact rfl) rfl ?_ | refine e_s rfl rfl ?_ | refine e_nil ?_ | refine then_n ?_ | refine e_seq ?_ | refine e_region ?_ | refine e_block ?_ | refine e_ret ?_ | refine e_skip ?_ | refine e_exit ?_ | refine then_ret ?_ | refine then_exit ?_ | refine blk_n ?_ | refine blk_ret ?_ | refine blk_here ?_ | refine blk_there rfl ?_ | refine e_cond_t rfl rfl rfl ?_ | refine e_cond_f rfl rfl rfl ?_)
        refine e_lit (n0 := s2.next) (k := 1) (vs := u8l [rowAt was i (now.getD i 0)]) rfl rfl rfl (Nat.le_refl _) fun q s3 hO3 hK3 => ?_
        refine e_appi (by_ := 1) rfl rfl rfl rfl rfl (hO2.kp (Nat.le_refl _) hK3) hO3.has (by omega) hN fun x4 c4 s4 hO4 hK4 => ?_
        repeat (first | refine e_mv rfl rfl rfl rfl ?_ | refine e_ops rfl rfl rfl (by first | exact congrArg Value.bool (decide_eq_true (by omega)) | exact congrArg Value.bool (decide_eq_false (by omega)) | exact congrArg Value.bool (beq_iff_eq.2 (by omega)) | exact congrArg Value.bool (beq_eq_false_iff_ne.2 (by omega)) | exact congrArg Value.bool (bne_iff_ne.2 (by omega)) | exact congrArg Value.bool (bne_eq_false_iff_eq.2 (by omega)) | exact congrArg (Value.int .i64) (wrapi (by omega) (by omega)) | exact congrArg (Value.int .u8) (wrap8 (by omega) (by omega)) | exact congrArg (Value.int .u32) (wrap32 (by omega) (by omega)) | exact rfl) rfl ?_ | refine e_s rfl rfl ?_ | refine e_nil ?_ | refine then_n ?_ | refine e_seq ?_ | refine e_region ?_ | refine e_block ?_ | refine e_ret ?_ | refine e_skip ?_ | refine e_exit ?_ | refine then_ret ?_ | refine then_exit ?_ | refine blk_n ?_ | refine blk_ret ?_ | refine blk_here ?_ | refine blk_there rfl ?_ | refine e_cond_t rfl rfl rfl ?_ | refine e_cond_f rfl rfl rfl ?_)
        refine ⟨(i + 1, 0, x4, k' + 1, c4, out' ++ [rowAt was i (now.getD i 0)]), _, rfl, by simp only; omega, ⟨by omega, by omega, hO4, ?_, (hK2.trans (hK3.weaken hO2.le)).trans hK4⟩, ⟨rfl, rfl, rfl, rfl, rfl, rfl, trivial⟩⟩
        rw [flush_zero, List.append_nil] at hq2
        rw [sqz_drop_other (by omega) (by rw [hat]; exact hx), hat] at hq
        rw [← hq, hq2]
        simp
  · repeat (first | refine e_mv rfl rfl rfl rfl ?_ | refine e_ops rfl rfl rfl (by first | exact congrArg Value.bool (decide_eq_true (by omega)) | exact congrArg Value.bool (decide_eq_false (by omega)) | exact congrArg Value.bool (beq_iff_eq.2 (by omega)) | exact congrArg Value.bool (beq_eq_false_iff_ne.2 (by omega)) | exact congrArg Value.bool (bne_iff_ne.2 (by omega)) | exact congrArg Value.bool (bne_eq_false_iff_eq.2 (by omega)) | exact congrArg (Value.int .i64) (wrapi (by omega) (by omega)) | exact congrArg (Value.int .u8) (wrap8 (by omega) (by omega)) | exact congrArg (Value.int .u32) (wrap32 (by omega) (by omega)) | exact rfl) rfl ?_ | refine e_s rfl rfl ?_ | refine e_nil ?_ | refine then_n ?_ | refine e_seq ?_ | refine e_region ?_ | refine e_block ?_ | refine e_ret ?_ | refine e_skip ?_ | refine e_exit ?_ | refine then_ret ?_ | refine then_exit ?_ | refine blk_n ?_ | refine blk_ret ?_ | refine blk_here ?_ | refine blk_there rfl ?_ | refine e_cond_t rfl rfl rfl ?_ | refine e_cond_f rfl rfl rfl ?_)
    apply e_done (Or.inr rfl)
    case hr => rfl
    case hv => rfl
    case hR =>
      have : i = m := by omega
      subst this
      rw [List.drop_eq_nil_of_le (by rw [rowL_length]; omega)] at hq
      refine ⟨x, k, e, rfl, ?_, hK, by omega⟩
      rw [← hq]
      simpa [sqz] using hO

end Go.Proofs.Ytddenboepgfbgaa
