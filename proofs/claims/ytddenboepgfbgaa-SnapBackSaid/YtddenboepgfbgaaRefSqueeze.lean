/- What the document squeezes. No statement of the seat is proved in this text. -/
import Derived.Test.YtddenboepgfbgaaSqueeze
set_option linter.unusedVariables false
set_option linter.unusedSimpArgs false
set_option maxRecDepth 100000
set_option maxHeartbeats 4000000
namespace Go.Proofs.Ytddenboepgfbgaa
open GAb Go

theorem flush_more (z : Nat) : flush (256 + z) = [0, 255] ++ flush z := by
  rw [flush_pos (by omega), Nat.min_eq_right (by omega), show 256 + z - 256 = z by omega]
  rfl
theorem sqz_more : ∀ (r : List Int) (z : Nat), (∃ x ∈ r, x ≠ 0) → sqz (256 + z) r = [0, 255] ++ sqz z r
  | [], z, h => by obtain ⟨x, h, _⟩ := h; cases h
  | x :: r, z, h => by
    by_cases hx : x = 0
    · subst hx
      rw [sqz_zero, sqz_zero]
      refine sqz_more r (z + 1) ?_
      obtain ⟨y, hy, hne⟩ := h
      rcases List.mem_cons.1 hy with rfl | hy
      · exact absurd rfl hne
      · exact ⟨y, hy, hne⟩
    · rw [sqz_other _ hx, sqz_other _ hx, flush_more]
      simp
theorem flush_low {k : Nat} (h0 : 0 < k) (h : k ≤ 256) : flush k = [0, (k : Int) - 1] := by
  rw [flush_pos h0, Nat.min_eq_left h, Nat.sub_self, flush_zero]
  rfl
theorem sqz_zeros : ∀ {r : List Int} (z : Nat), (∀ x ∈ r, x = 0) → sqz z r = []
  | [], z, _ => rfl
  | x :: r, z, h => by
    rw [h x (by simp), sqz_zero]
    exact sqz_zeros (z + 1) fun y hy => h y (by simp [hy])

theorem refSqueeze_call (D : Nat → Prop) {σ : AState} {a b : Option Addr} {l c m d : Nat} {was now : List Int} (h1 : Bs σ a l c was) (h2 : Bs σ b m d now) (hm : m ≤ 1000000) (hl : l ≤ 1000000) :
    SCall Try.prog D 12 [.slice a l c, .slice b m d] σ fun v s => ∃ x k e, v = .slice x k e ∧ Own σ.next s x k e 1 (u8l (sqz 0 (rowL was now))) ∧ Kp σ.next σ s := by
  have hwl : was.length = l := by simpa using h1.size
  have hnm : now.length = m := by simpa using h2.size
  refine e_fun' (m := 67) Try.func12 rfl rfl fun B hB hN => ?_
  repeat (first | refine e_mv rfl rfl rfl rfl ?_ | refine e_ops rfl rfl rfl (by first | exact rfl) rfl ?_ | refine e_s rfl rfl ?_ | refine e_nil ?_ | refine then_n ?_ | refine e_seq ?_ | refine e_region ?_ | refine e_block ?_ | refine e_ret ?_ | refine e_skip ?_ | refine e_exit ?_ | refine then_ret ?_ | refine then_exit ?_ | refine blk_n ?_ | refine blk_ret ?_ | refine blk_here ?_ | refine blk_there rfl ?_ | refine e_cond_t rfl rfl rfl ?_ | refine e_cond_f rfl rfl rfl ?_)
  refine e_call rfl rfl rfl Try.func29 rfl (row_call (fun _ => False) h1 h2 hm hl) (fun _ h => h.elim) ?_
  rintro _ s1 ⟨rx, rk, re, rfl, hR, hK1⟩
  have hN1 := rowL_length was now
  have hRH := hR.has
  have hrk : rk = m := by have := hRH.size; simp [hN1, hnm] at this; omega
  subst hrk
  generalize hrow : rowL was now = row at hR hRH hN1
  repeat (first | refine e_mv rfl rfl rfl rfl ?_ | refine e_ops rfl rfl rfl (by first | exact congrArg Value.bool (decide_eq_true (by omega)) | exact congrArg Value.bool (decide_eq_false (by omega)) | exact congrArg Value.bool (beq_iff_eq.2 (by omega)) | exact congrArg Value.bool (beq_eq_false_iff_ne.2 (by omega)) | exact congrArg Value.bool (bne_iff_ne.2 (by omega)) | exact congrArg Value.bool (bne_eq_false_iff_eq.2 (by omega)) | exact congrArg (Value.int .i64) (wrapi (by omega) (by omega)) | exact congrArg (Value.int .u8) (wrap8 (by omega) (by omega)) | exact congrArg (Value.int .u32) (wrap32 (by omega) (by omega)) | exact rfl) rfl ?_ | refine e_s rfl rfl ?_ | refine e_nil ?_ | refine then_n ?_)
  refine e_seq ?_
  refine e_region ?_
  repeat (first | refine e_mv rfl rfl rfl rfl ?_ | refine e_ops rfl rfl rfl (by first | exact congrArg Value.bool (decide_eq_true (by omega)) | exact congrArg Value.bool (decide_eq_false (by omega)) | exact congrArg Value.bool (beq_iff_eq.2 (by omega)) | exact congrArg Value.bool (beq_eq_false_iff_ne.2 (by omega)) | exact congrArg Value.bool (bne_iff_ne.2 (by omega)) | exact congrArg Value.bool (bne_eq_false_iff_eq.2 (by omega)) | exact congrArg (Value.int .i64) (wrapi (by omega) (by omega)) | exact congrArg (Value.int .u8) (wrap8 (by omega) (by omega)) | exact congrArg (Value.int .u32) (wrap32 (by omega) (by omega)) | exact rfl) rfl ?_ | refine e_s rfl rfl ?_ | refine e_nil ?_ | refine then_n ?_)
  refine e_cut (α := Nat) (fun n s' => s1 = s' ∧ n ≤ rk ∧ (∀ j, n ≤ j → row.getD j 0 = 0) ∧ (0 < n → row.getD (n - 1) 0 ≠ 0)) (fun n => [(5, .slice rx rk re), (6, .int .i64 n)]) ?_ ?_
  · repeat (first | refine e_mv rfl rfl rfl rfl ?_ | refine e_ops rfl rfl rfl (by first | exact congrArg Value.bool (decide_eq_true (by omega)) | exact congrArg Value.bool (decide_eq_false (by omega)) | exact congrArg Value.bool (beq_iff_eq.2 (by omega)) | exact congrArg Value.bool (beq_eq_false_iff_ne.2 (by omega)) | exact congrArg Value.bool (bne_iff_ne.2 (by omega)) | exact congrArg Value.bool (bne_eq_false_iff_eq.2 (by omega)) | exact congrArg (Value.int .i64) (wrapi (by omega) (by omega)) | exact congrArg (Value.int .u8) (wrap8 (by omega) (by omega)) | exact congrArg (Value.int .u32) (wrap32 (by omega) (by omega)) | exact rfl) rfl ?_ | refine e_s rfl rfl ?_ | refine e_nil ?_ | refine then_n ?_ | refine e_seq ?_ | refine e_region ?_ | refine e_block ?_ | refine e_ret ?_ | refine e_skip ?_ | refine e_exit ?_ | refine then_ret ?_ | refine then_exit ?_ | refine blk_n ?_ | refine blk_ret ?_ | refine blk_here ?_ | refine blk_there rfl ?_ | refine e_cond_t rfl rfl rfl ?_ | refine e_cond_f rfl rfl rfl ?_)
    refine e_loop (α := Nat) (fun n s' => s1 = s' ∧ n ≤ rk ∧ ∀ j, n ≤ j → row.getD j 0 = 0) (fun n => [(5, .slice rx rk re), (6, .int .i64 n)]) (fun n => n) rk ⟨rfl, Nat.le_refl _, fun j hj => by simp [List.getD, List.getElem?_eq_none (show row.length ≤ j by omega)]⟩ ⟨rfl, rfl, trivial⟩ ?_
    rintro n env _ ⟨rfl, hn, hz⟩
    by_cases hn0 : 0 < n
    · repeat (first | refine e_mv rfl rfl rfl rfl ?_ | refine e_ops rfl rfl rfl (by first | exact congrArg (Value.int .i64) (show IntKind.i64.wrap ((n : Int) - 1) = ((n - 1 : Nat) : Int) by rw [wrapi (by omega) (by omega)]; omega) | exact congrArg Value.bool (decide_eq_true (by omega)) | exact congrArg Value.bool (decide_eq_false (by omega)) | exact congrArg Value.bool (beq_iff_eq.2 (by omega)) | exact congrArg Value.bool (beq_eq_false_iff_ne.2 (by omega)) | exact congrArg Value.bool (bne_iff_ne.2 (by omega)) | exact congrArg Value.bool (bne_eq_false_iff_eq.2 (by omega)) | exact congrArg (Value.int .i64) (wrapi (by omega) (by omega)) | exact congrArg (Value.int .u8) (wrap8 (by omega) (by omega)) | exact congrArg (Value.int .u32) (wrap32 (by omega) (by omega)) | exact rfl) rfl ?_ | refine e_s rfl rfl ?_ | refine e_nil ?_ | refine then_n ?_ | refine e_seq ?_ | refine e_region ?_ | refine e_block ?_ | refine e_ret ?_ | refine e_skip ?_ | refine e_exit ?_ | refine then_ret ?_ | refine then_exit ?_ | refine blk_n ?_ | refine blk_ret ?_ | refine blk_here ?_ | refine blk_there rfl ?_ | refine e_cond_t rfl rfl rfl ?_ | refine e_cond_f rfl rfl rfl ?_)
      refine e_ixi rfl rfl rfl rfl rfl hRH (by omega) (by omega) fun p hp => ?_
      refine e_ld rfl rfl rfl rfl hp ?_
      by_cases hx : row.getD (n - 1) 0 = 0
      · repeat (first | refine e_mv rfl rfl rfl rfl ?_ | refine e_ops rfl rfl rfl (by first | exact congrArg (Value.int .i64) (show IntKind.i64.wrap ((n : Int) - 1) = ((n - 1 : Nat) : Int) by rw [wrapi (by omega) (by omega)]; omega) | exact congrArg Value.bool (beq_iff_eq.2 hx) | exact congrArg Value.bool (decide_eq_true (by omega)) | exact congrArg Value.bool (decide_eq_false (by omega)) | exact congrArg Value.bool (beq_iff_eq.2 (by omega)) | exact congrArg Value.bool (beq_eq_false_iff_ne.2 (by omega)) | exact congrArg Value.bool (bne_iff_ne.2 (by omega)) | exact congrArg Value.bool (bne_eq_false_iff_eq.2 (by omega)) | exact congrArg (Value.int .i64) (wrapi (by omega) (by omega)) | exact congrArg (Value.int .u8) (wrap8 (by omega) (by omega)) | exact congrArg (Value.int .u32) (wrap32 (by omega) (by omega)) | exact rfl) rfl ?_ | refine e_s rfl rfl ?_ | refine e_nil ?_ | refine then_n ?_ | refine e_seq ?_ | refine e_region ?_ | refine e_block ?_ | refine e_ret ?_ | refine e_skip ?_ | refine e_exit ?_ | refine then_ret ?_ | refine then_exit ?_ | refine blk_n ?_ | refine blk_ret ?_ | refine blk_here ?_ | refine blk_there rfl ?_ | refine e_cond_t rfl rfl rfl ?_ | refine e_cond_f rfl rfl rfl ?_)
        exact ⟨n - 1, _, rfl, by first | omega | (simp only; omega), ⟨rfl, by omega, fun j hj => if h : j = n - 1 then by rw [h]; exact hx else hz j (by omega)⟩, rfl, rfl, trivial⟩
      · repeat (first | refine e_mv rfl rfl rfl rfl ?_ | refine e_ops rfl rfl rfl (by first | exact congrArg Value.bool (beq_eq_false_iff_ne.2 hx) | exact congrArg Value.bool (decide_eq_true (by omega)) | exact congrArg Value.bool (decide_eq_false (by omega)) | exact congrArg Value.bool (beq_iff_eq.2 (by omega)) | exact congrArg Value.bool (beq_eq_false_iff_ne.2 (by omega)) | exact congrArg Value.bool (bne_iff_ne.2 (by omega)) | exact congrArg Value.bool (bne_eq_false_iff_eq.2 (by omega)) | exact congrArg (Value.int .i64) (wrapi (by omega) (by omega)) | exact congrArg (Value.int .u8) (wrap8 (by omega) (by omega)) | exact congrArg (Value.int .u32) (wrap32 (by omega) (by omega)) | exact rfl) rfl ?_ | refine e_s rfl rfl ?_ | refine e_nil ?_ | refine then_n ?_ | refine e_seq ?_ | refine e_region ?_ | refine e_block ?_ | refine e_ret ?_ | refine e_skip ?_ | refine e_exit ?_ | refine then_ret ?_ | refine then_exit ?_ | refine blk_n ?_ | refine blk_ret ?_ | refine blk_here ?_ | refine blk_there rfl ?_ | refine e_cond_t rfl rfl rfl ?_ | refine e_cond_f rfl rfl rfl ?_)
        exact ⟨n, _, rfl, ⟨rfl, hn, hz, fun _ => hx⟩, rfl, rfl, trivial⟩
    · repeat (first | refine e_mv rfl rfl rfl rfl ?_ | refine e_ops rfl rfl rfl (by first | exact congrArg Value.bool (decide_eq_true (by omega)) | exact congrArg Value.bool (decide_eq_false (by omega)) | exact congrArg Value.bool (beq_iff_eq.2 (by omega)) | exact congrArg Value.bool (beq_eq_false_iff_ne.2 (by omega)) | exact congrArg Value.bool (bne_iff_ne.2 (by omega)) | exact congrArg Value.bool (bne_eq_false_iff_eq.2 (by omega)) | exact congrArg (Value.int .i64) (wrapi (by omega) (by omega)) | exact congrArg (Value.int .u8) (wrap8 (by omega) (by omega)) | exact congrArg (Value.int .u32) (wrap32 (by omega) (by omega)) | exact rfl) rfl ?_ | refine e_s rfl rfl ?_ | refine e_nil ?_ | refine then_n ?_ | refine e_seq ?_ | refine e_region ?_ | refine e_block ?_ | refine e_ret ?_ | refine e_skip ?_ | refine e_exit ?_ | refine then_ret ?_ | refine then_exit ?_ | refine blk_n ?_ | refine blk_ret ?_ | refine blk_here ?_ | refine blk_there rfl ?_ | refine e_cond_t rfl rfl rfl ?_ | refine e_cond_f rfl rfl rfl ?_)
      exact ⟨n, _, rfl, ⟨rfl, hn, hz, fun h => absurd h hn0⟩, rfl, rfl, trivial⟩
  rintro n env _ ⟨rfl, hn, hz, hnz⟩
  have hN2 : ∀ k, s1.next ≤ k → B.D k := fun k hk => hN k (Nat.le_trans hK1.le hk)
  repeat (first | refine e_mv rfl rfl rfl rfl ?_ | refine e_ops rfl rfl rfl (by first | exact congrArg Value.bool (decide_eq_true (by omega)) | exact congrArg Value.bool (decide_eq_false (by omega)) | exact congrArg Value.bool (beq_iff_eq.2 (by omega)) | exact congrArg Value.bool (beq_eq_false_iff_ne.2 (by omega)) | exact congrArg Value.bool (bne_iff_ne.2 (by omega)) | exact congrArg Value.bool (bne_eq_false_iff_eq.2 (by omega)) | exact congrArg (Value.int .i64) (wrapi (by omega) (by omega)) | exact congrArg (Value.int .u8) (wrap8 (by omega) (by omega)) | exact congrArg (Value.int .u32) (wrap32 (by omega) (by omega)) | exact rfl) rfl ?_ | refine e_s rfl rfl ?_ | refine e_nil ?_ | refine then_n ?_ | refine e_seq ?_ | refine e_region ?_ | refine e_block ?_ | refine e_ret ?_ | refine e_skip ?_ | refine e_exit ?_ | refine then_ret ?_ | refine then_exit ?_ | refine blk_n ?_ | refine blk_ret ?_ | refine blk_here ?_ | refine blk_there rfl ?_ | refine e_cond_t rfl rfl rfl ?_ | refine e_cond_f rfl rfl rfl ?_)
  refine e_loop (α := Nat × Option Addr × Nat × Nat × List Int) (fun ⟨i, x, k, e, out⟩ s' => i ≤ n ∧ k ≤ 2 * i ∧ Own s1.next s' x k e 1 (u8l out) ∧ out ++ sqz 0 (row.drop i) = sqz 0 row ∧ Kp s1.next s1 s')
    (fun ⟨i, x, k, e, out⟩ => [(5, .slice rx rk re), (6, .int .i64 n), (8, .int .i64 i), (7, .slice x k e)]) (fun ⟨i, _⟩ => n - i) (0, none, 0, 0, [])
    ⟨Nat.zero_le _, by omega, Own.nil (Nat.le_refl _), rfl, Kp.refl _ _⟩ ⟨rfl, rfl, rfl, rfl, trivial⟩ ?_
  rintro ⟨i, x, k, e, out⟩ env s2 ⟨hi, hk, hO, hq, hK⟩
  have hRH2 := hRH.kp (Nat.le_refl _) hK
  by_cases hin : i < n
  · repeat (first | refine e_mv rfl rfl rfl rfl ?_ | refine e_ops rfl rfl rfl (by first | exact congrArg Value.bool (decide_eq_true (by omega)) | exact congrArg Value.bool (decide_eq_false (by omega)) | exact congrArg Value.bool (beq_iff_eq.2 (by omega)) | exact congrArg Value.bool (beq_eq_false_iff_ne.2 (by omega)) | exact congrArg Value.bool (bne_iff_ne.2 (by omega)) | exact congrArg Value.bool (bne_eq_false_iff_eq.2 (by omega)) | exact congrArg (Value.int .i64) (wrapi (by omega) (by omega)) | exact congrArg (Value.int .u8) (wrap8 (by omega) (by omega)) | exact congrArg (Value.int .u32) (wrap32 (by omega) (by omega)) | exact rfl) rfl ?_ | refine e_s rfl rfl ?_ | refine e_nil ?_ | refine then_n ?_ | refine e_seq ?_ | refine e_region ?_ | refine e_block ?_ | refine e_ret ?_ | refine e_skip ?_ | refine e_exit ?_ | refine then_ret ?_ | refine then_exit ?_ | refine blk_n ?_ | refine blk_ret ?_ | refine blk_here ?_ | refine blk_there rfl ?_ | refine e_cond_t rfl rfl rfl ?_ | refine e_cond_f rfl rfl rfl ?_)
    refine e_ixi rfl rfl rfl rfl rfl hRH2 (by omega) (by omega) fun p hp => ?_
    refine e_ld rfl rfl rfl rfl hp ?_
    by_cases hx : row.getD i 0 = 0
    · repeat (first | refine e_mv rfl rfl rfl rfl ?_ | refine e_ops rfl rfl rfl (by first | exact congrArg Value.bool (bne_eq_false_iff_eq.2 hx) | exact congrArg Value.bool (decide_eq_true (by omega)) | exact congrArg Value.bool (decide_eq_false (by omega)) | exact congrArg Value.bool (beq_iff_eq.2 (by omega)) | exact congrArg Value.bool (beq_eq_false_iff_ne.2 (by omega)) | exact congrArg Value.bool (bne_iff_ne.2 (by omega)) | exact congrArg Value.bool (bne_eq_false_iff_eq.2 (by omega)) | exact congrArg (Value.int .i64) (wrapi (by omega) (by omega)) | exact congrArg (Value.int .u8) (wrap8 (by omega) (by omega)) | exact congrArg (Value.int .u32) (wrap32 (by omega) (by omega)) | exact rfl) rfl ?_ | refine e_s rfl rfl ?_ | refine e_nil ?_ | refine then_n ?_)
      refine e_cond_f rfl rfl rfl (e_skip (then_n (e_seq (e_region ?_))))
      repeat (first | refine e_mv rfl rfl rfl rfl ?_ | refine e_ops rfl rfl rfl (by first | exact congrArg Value.bool (decide_eq_true (by omega)) | exact congrArg Value.bool (decide_eq_false (by omega)) | exact congrArg Value.bool (beq_iff_eq.2 (by omega)) | exact congrArg Value.bool (beq_eq_false_iff_ne.2 (by omega)) | exact congrArg Value.bool (bne_iff_ne.2 (by omega)) | exact congrArg Value.bool (bne_eq_false_iff_eq.2 (by omega)) | exact congrArg (Value.int .i64) (wrapi (by omega) (by omega)) | exact congrArg (Value.int .u8) (wrap8 (by omega) (by omega)) | exact congrArg (Value.int .u32) (wrap32 (by omega) (by omega)) | exact rfl) rfl ?_ | refine e_s rfl rfl ?_ | refine e_nil ?_ | refine then_n ?_)
      have hlast : ∀ j, i ≤ j → (∀ q, i ≤ q → q < j → row.getD q 0 = 0) → j < n := fun j hj h => by
        rcases Nat.lt_or_ge j n with h' | h'
        · exact h'
        · exact absurd (h (n - 1) (by omega) (by omega)) (hnz (by omega))
      refine e_cut (α := Nat) (fun kk s' => s2 = s' ∧ 0 < kk ∧ kk ≤ 256 ∧ i + kk < n ∧ sqz 0 (row.drop i) = sqz kk (row.drop (i + kk)) ∧ (kk = 256 ∨ row.getD (i + kk) 0 ≠ 0)) (fun kk => [(5, .slice rx rk re), (6, .int .i64 n), (8, .int .i64 i), (7, .slice x k e), (9, .int .i64 kk)]) ?_ ?_
      · repeat (first | refine e_mv rfl rfl rfl rfl ?_ | refine e_ops rfl rfl rfl (by first | exact congrArg Value.bool (decide_eq_true (by omega)) | exact congrArg Value.bool (decide_eq_false (by omega)) | exact congrArg Value.bool (beq_iff_eq.2 (by omega)) | exact congrArg Value.bool (beq_eq_false_iff_ne.2 (by omega)) | exact congrArg Value.bool (bne_iff_ne.2 (by omega)) | exact congrArg Value.bool (bne_eq_false_iff_eq.2 (by omega)) | exact congrArg (Value.int .i64) (wrapi (by omega) (by omega)) | exact congrArg (Value.int .u8) (wrap8 (by omega) (by omega)) | exact congrArg (Value.int .u32) (wrap32 (by omega) (by omega)) | exact rfl) rfl ?_ | refine e_s rfl rfl ?_ | refine e_nil ?_ | refine then_n ?_ | refine e_seq ?_ | refine e_region ?_ | refine e_block ?_ | refine e_ret ?_ | refine e_skip ?_ | refine e_exit ?_ | refine then_ret ?_ | refine then_exit ?_ | refine blk_n ?_ | refine blk_ret ?_ | refine blk_here ?_ | refine blk_there rfl ?_ | refine e_cond_t rfl rfl rfl ?_ | refine e_cond_f rfl rfl rfl ?_)
        refine e_loop (α := Nat) (fun kk s' => s2 = s' ∧ kk ≤ 256 ∧ (∀ q, i ≤ q → q < i + kk → row.getD q 0 = 0) ∧ sqz 0 (row.drop i) = sqz kk (row.drop (i + kk))) (fun kk => [(5, .slice rx rk re), (6, .int .i64 n), (8, .int .i64 i), (7, .slice x k e), (9, .int .i64 kk)]) (fun kk => 256 - kk) 0
          ⟨rfl, Nat.zero_le _, fun q h1 h2 => by omega, rfl⟩ ⟨rfl, rfl, rfl, rfl, rfl, trivial⟩ ?_
        rintro kk env _ ⟨rfl, hkk, hzz, hsq⟩
        have hlt := hlast (i + kk) (by omega) hzz
        by_cases h256 : kk < 256
        · repeat (first | refine e_mv rfl rfl rfl rfl ?_ | refine e_ops rfl rfl rfl (by first | exact congrArg Value.bool (decide_eq_true (by omega)) | exact congrArg Value.bool (decide_eq_false (by omega)) | exact congrArg Value.bool (beq_iff_eq.2 (by omega)) | exact congrArg Value.bool (beq_eq_false_iff_ne.2 (by omega)) | exact congrArg Value.bool (bne_iff_ne.2 (by omega)) | exact congrArg Value.bool (bne_eq_false_iff_eq.2 (by omega)) | exact congrArg (Value.int .i64) (wrapi (by omega) (by omega)) | exact congrArg (Value.int .u8) (wrap8 (by omega) (by omega)) | exact congrArg (Value.int .u32) (wrap32 (by omega) (by omega)) | exact rfl) rfl ?_ | refine e_s rfl rfl ?_ | refine e_nil ?_ | refine then_n ?_ | refine e_seq ?_ | refine e_region ?_ | refine e_block ?_ | refine e_ret ?_ | refine e_skip ?_ | refine e_exit ?_ | refine then_ret ?_ | refine then_exit ?_ | refine blk_n ?_ | refine blk_ret ?_ | refine blk_here ?_ | refine blk_there rfl ?_ | refine e_cond_t rfl rfl rfl ?_ | refine e_cond_f rfl rfl rfl ?_)
          refine e_ixi rfl rfl rfl rfl rfl hRH2 (by omega) (by omega) fun p hp => ?_
          rw [show ((i : Int) + (kk : Int)).toNat = i + kk by omega] at hp
          refine e_ld rfl rfl rfl rfl hp ?_
          by_cases hy : row.getD (i + kk) 0 = 0
          · repeat (first | refine e_mv rfl rfl rfl rfl ?_ | refine e_ops rfl rfl rfl (by first | exact congrArg Value.bool (beq_iff_eq.2 hy) | exact congrArg Value.bool (decide_eq_true (by omega)) | exact congrArg Value.bool (decide_eq_false (by omega)) | exact congrArg Value.bool (beq_iff_eq.2 (by omega)) | exact congrArg Value.bool (beq_eq_false_iff_ne.2 (by omega)) | exact congrArg Value.bool (bne_iff_ne.2 (by omega)) | exact congrArg Value.bool (bne_eq_false_iff_eq.2 (by omega)) | exact congrArg (Value.int .i64) (wrapi (by omega) (by omega)) | exact congrArg (Value.int .u8) (wrap8 (by omega) (by omega)) | exact congrArg (Value.int .u32) (wrap32 (by omega) (by omega)) | exact rfl) rfl ?_ | refine e_s rfl rfl ?_ | refine e_nil ?_ | refine then_n ?_ | refine e_seq ?_ | refine e_region ?_ | refine e_block ?_ | refine e_ret ?_ | refine e_skip ?_ | refine e_exit ?_ | refine then_ret ?_ | refine then_exit ?_ | refine blk_n ?_ | refine blk_ret ?_ | refine blk_here ?_ | refine blk_there rfl ?_ | refine e_cond_t rfl rfl rfl ?_ | refine e_cond_f rfl rfl rfl ?_)
            refine ⟨kk + 1, _, rfl, by first | omega | (simp only; omega), ⟨rfl, by omega, fun q q1 q2 => if h : q = i + kk then by rw [h]; exact hy else hzz q q1 (by omega), ?_⟩, rfl, rfl, rfl, rfl, rfl, trivial⟩
            rw [hsq, sqz_drop_zero (by omega) hy]
            rfl
          · repeat (first | refine e_mv rfl rfl rfl rfl ?_ | refine e_ops rfl rfl rfl (by first | exact congrArg Value.bool (beq_eq_false_iff_ne.2 hy) | exact congrArg Value.bool (decide_eq_true (by omega)) | exact congrArg Value.bool (decide_eq_false (by omega)) | exact congrArg Value.bool (beq_iff_eq.2 (by omega)) | exact congrArg Value.bool (beq_eq_false_iff_ne.2 (by omega)) | exact congrArg Value.bool (bne_iff_ne.2 (by omega)) | exact congrArg Value.bool (bne_eq_false_iff_eq.2 (by omega)) | exact congrArg (Value.int .i64) (wrapi (by omega) (by omega)) | exact congrArg (Value.int .u8) (wrap8 (by omega) (by omega)) | exact congrArg (Value.int .u32) (wrap32 (by omega) (by omega)) | exact rfl) rfl ?_ | refine e_s rfl rfl ?_ | refine e_nil ?_ | refine then_n ?_ | refine e_seq ?_ | refine e_region ?_ | refine e_block ?_ | refine e_ret ?_ | refine e_skip ?_ | refine e_exit ?_ | refine then_ret ?_ | refine then_exit ?_ | refine blk_n ?_ | refine blk_ret ?_ | refine blk_here ?_ | refine blk_there rfl ?_ | refine e_cond_t rfl rfl rfl ?_ | refine e_cond_f rfl rfl rfl ?_)
            refine ⟨kk, _, rfl, ⟨rfl, ?_, hkk, hlt, hsq, .inr hy⟩, rfl, rfl, rfl, rfl, rfl, trivial⟩
            rcases Nat.eq_zero_or_pos kk with h | h
            · subst h; exact absurd hx hy
            · exact h
        · repeat (first | refine e_mv rfl rfl rfl rfl ?_ | refine e_ops rfl rfl rfl (by first | exact congrArg Value.bool (decide_eq_true (by omega)) | exact congrArg Value.bool (decide_eq_false (by omega)) | exact congrArg Value.bool (beq_iff_eq.2 (by omega)) | exact congrArg Value.bool (beq_eq_false_iff_ne.2 (by omega)) | exact congrArg Value.bool (bne_iff_ne.2 (by omega)) | exact congrArg Value.bool (bne_eq_false_iff_eq.2 (by omega)) | exact congrArg (Value.int .i64) (wrapi (by omega) (by omega)) | exact congrArg (Value.int .u8) (wrap8 (by omega) (by omega)) | exact congrArg (Value.int .u32) (wrap32 (by omega) (by omega)) | exact rfl) rfl ?_ | refine e_s rfl rfl ?_ | refine e_nil ?_ | refine then_n ?_ | refine e_seq ?_ | refine e_region ?_ | refine e_block ?_ | refine e_ret ?_ | refine e_skip ?_ | refine e_exit ?_ | refine then_ret ?_ | refine then_exit ?_ | refine blk_n ?_ | refine blk_ret ?_ | refine blk_here ?_ | refine blk_there rfl ?_ | refine e_cond_t rfl rfl rfl ?_ | refine e_cond_f rfl rfl rfl ?_)
          exact ⟨kk, _, rfl, ⟨rfl, by omega, hkk, hlt, hsq, .inl (by omega)⟩, rfl, rfl, rfl, rfl, rfl, trivial⟩
      rintro kk env _ ⟨rfl, hk0, hk256, hlt, hsq, hend⟩
      repeat (first | refine e_mv rfl rfl rfl rfl ?_ | refine e_ops rfl rfl rfl (by first | exact congrArg Value.bool (decide_eq_true (by omega)) | exact congrArg Value.bool (decide_eq_false (by omega)) | exact congrArg Value.bool (beq_iff_eq.2 (by omega)) | exact congrArg Value.bool (beq_eq_false_iff_ne.2 (by omega)) | exact congrArg Value.bool (bne_iff_ne.2 (by omega)) | exact congrArg Value.bool (bne_eq_false_iff_eq.2 (by omega)) | exact congrArg (Value.int .i64) (wrapi (by omega) (by omega)) | exact congrArg (Value.int .u8) (wrap8 (by omega) (by omega)) | exact congrArg (Value.int .u32) (wrap32 (by omega) (by omega)) | exact rfl) rfl ?_ | refine e_s rfl rfl ?_ | refine e_nil ?_ | refine then_n ?_ | refine e_seq ?_ | refine e_region ?_ | refine e_block ?_ | refine e_ret ?_ | refine e_skip ?_ | refine e_exit ?_ | refine then_ret ?_ | refine then_exit ?_ | refine blk_n ?_ | refine blk_ret ?_ | refine blk_here ?_ | refine blk_there rfl ?_ | refine e_cond_t rfl rfl rfl ?_ | refine e_cond_f rfl rfl rfl ?_)
      refine e_lit (n0 := s2.next) (k := 1) (vs := u8l [0, (kk : Int) - 1]) rfl rfl rfl (Nat.le_refl _) fun q s3 hO3 hK3 => ?_
      refine e_appi (by_ := 1) rfl rfl rfl rfl rfl (hO.kp (Nat.le_refl _) hK3) hO3.has (by omega) hN2 fun x4 c4 s4 hO4 hK4 => ?_
      repeat (first | refine e_mv rfl rfl rfl rfl ?_ | refine e_ops rfl rfl rfl (by first | exact congrArg Value.bool (decide_eq_true (by omega)) | exact congrArg Value.bool (decide_eq_false (by omega)) | exact congrArg Value.bool (beq_iff_eq.2 (by omega)) | exact congrArg Value.bool (beq_eq_false_iff_ne.2 (by omega)) | exact congrArg Value.bool (bne_iff_ne.2 (by omega)) | exact congrArg Value.bool (bne_eq_false_iff_eq.2 (by omega)) | exact congrArg (Value.int .i64) (wrapi (by omega) (by omega)) | exact congrArg (Value.int .u8) (wrap8 (by omega) (by omega)) | exact congrArg (Value.int .u32) (wrap32 (by omega) (by omega)) | exact rfl) rfl ?_ | refine e_s rfl rfl ?_ | refine e_nil ?_ | refine then_n ?_ | refine e_seq ?_ | refine e_region ?_ | refine e_block ?_ | refine e_ret ?_ | refine e_skip ?_ | refine e_exit ?_ | refine then_ret ?_ | refine then_exit ?_ | refine blk_n ?_ | refine blk_ret ?_ | refine blk_here ?_ | refine blk_there rfl ?_ | refine e_cond_t rfl rfl rfl ?_ | refine e_cond_f rfl rfl rfl ?_)
      refine ⟨(i + kk, x4, k + 2, c4, out ++ [0, (kk : Int) - 1]), _, rfl, by first | omega | (simp only; omega), ⟨by omega, by omega, hO4, ?_, (hK.trans (hK3.weaken hO.le)).trans hK4⟩, ⟨rfl, rfl, rfl, rfl, trivial⟩⟩
      rw [← hq, hsq, List.append_assoc]
      congr 1
      rcases hend with rfl | hy
      · have := sqz_more (row.drop (i + 256)) 0 ⟨row.getD (n - 1) 0, ?_, hnz (by omega)⟩
        · rw [Nat.add_zero] at this; rw [this]; rfl
        · rw [List.mem_iff_getElem?]
          refine ⟨n - 1 - (i + 256), ?_⟩
          rw [List.getElem?_drop, show i + 256 + (n - 1 - (i + 256)) = n - 1 by omega]
          have : n - 1 < row.length := by omega
          simp [List.getD, this]
      · rw [sqz_drop_other (by omega) hy, sqz_drop_other (z := kk) (by omega) hy, flush_zero, flush_low hk0 hk256]
        rfl
    · repeat (first | refine e_mv rfl rfl rfl rfl ?_ | refine e_ops rfl rfl rfl (by first | exact congrArg Value.bool (bne_iff_ne.2 hx) | exact congrArg Value.bool (decide_eq_true (by omega)) | exact congrArg Value.bool (decide_eq_false (by omega)) | exact congrArg Value.bool (beq_iff_eq.2 (by omega)) | exact congrArg Value.bool (beq_eq_false_iff_ne.2 (by omega)) | exact congrArg Value.bool (bne_iff_ne.2 (by omega)) | exact congrArg Value.bool (bne_eq_false_iff_eq.2 (by omega)) | exact congrArg (Value.int .i64) (wrapi (by omega) (by omega)) | exact congrArg (Value.int .u8) (wrap8 (by omega) (by omega)) | exact congrArg (Value.int .u32) (wrap32 (by omega) (by omega)) | exact rfl) rfl ?_ | refine e_s rfl rfl ?_ | refine e_nil ?_ | refine then_n ?_ | refine e_seq ?_ | refine e_region ?_ | refine e_block ?_ | refine e_ret ?_ | refine e_skip ?_ | refine e_exit ?_ | refine then_ret ?_ | refine then_exit ?_ | refine blk_n ?_ | refine blk_ret ?_ | refine blk_here ?_ | refine blk_there rfl ?_ | refine e_cond_t rfl rfl rfl ?_ | refine e_cond_f rfl rfl rfl ?_)
      refine e_ixi rfl rfl rfl rfl rfl hRH2 (by omega) (by omega) fun p hp => ?_
      refine e_ld rfl rfl rfl rfl hp ?_
      refine e_lit (n0 := s2.next) (k := 1) (vs := u8l [row.getD i 0]) rfl rfl rfl (Nat.le_refl _) fun q s3 hO3 hK3 => ?_
      refine e_appi (by_ := 1) rfl rfl rfl rfl rfl (hO.kp (Nat.le_refl _) hK3) hO3.has (by omega) hN2 fun x4 c4 s4 hO4 hK4 => ?_
      repeat (first | refine e_mv rfl rfl rfl rfl ?_ | refine e_ops rfl rfl rfl (by first | exact congrArg Value.bool (decide_eq_true (by omega)) | exact congrArg Value.bool (decide_eq_false (by omega)) | exact congrArg Value.bool (beq_iff_eq.2 (by omega)) | exact congrArg Value.bool (beq_eq_false_iff_ne.2 (by omega)) | exact congrArg Value.bool (bne_iff_ne.2 (by omega)) | exact congrArg Value.bool (bne_eq_false_iff_eq.2 (by omega)) | exact congrArg (Value.int .i64) (wrapi (by omega) (by omega)) | exact congrArg (Value.int .u8) (wrap8 (by omega) (by omega)) | exact congrArg (Value.int .u32) (wrap32 (by omega) (by omega)) | exact rfl) rfl ?_ | refine e_s rfl rfl ?_ | refine e_nil ?_ | refine then_n ?_ | refine e_seq ?_ | refine e_region ?_ | refine e_block ?_ | refine e_ret ?_ | refine e_skip ?_ | refine e_exit ?_ | refine then_ret ?_ | refine then_exit ?_ | refine blk_n ?_ | refine blk_ret ?_ | refine blk_here ?_ | refine blk_there rfl ?_ | refine e_cond_t rfl rfl rfl ?_ | refine e_cond_f rfl rfl rfl ?_)
      refine ⟨(i + 1, x4, k + 1, c4, out ++ [row.getD i 0]), _, rfl, by first | omega | (simp only; omega), ⟨by omega, by omega, hO4, ?_, (hK.trans (hK3.weaken hO.le)).trans hK4⟩, ⟨rfl, rfl, rfl, rfl, trivial⟩⟩
      rw [← hq, sqz_drop_other (by omega) hx, flush_zero]
      simp
  · repeat (first | refine e_mv rfl rfl rfl rfl ?_ | refine e_ops rfl rfl rfl (by first | exact congrArg Value.bool (decide_eq_true (by omega)) | exact congrArg Value.bool (decide_eq_false (by omega)) | exact congrArg Value.bool (beq_iff_eq.2 (by omega)) | exact congrArg Value.bool (beq_eq_false_iff_ne.2 (by omega)) | exact congrArg Value.bool (bne_iff_ne.2 (by omega)) | exact congrArg Value.bool (bne_eq_false_iff_eq.2 (by omega)) | exact congrArg (Value.int .i64) (wrapi (by omega) (by omega)) | exact congrArg (Value.int .u8) (wrap8 (by omega) (by omega)) | exact congrArg (Value.int .u32) (wrap32 (by omega) (by omega)) | exact rfl) rfl ?_ | refine e_s rfl rfl ?_ | refine e_nil ?_ | refine then_n ?_ | refine e_seq ?_ | refine e_region ?_ | refine e_block ?_ | refine e_ret ?_ | refine e_skip ?_ | refine e_exit ?_ | refine then_ret ?_ | refine then_exit ?_ | refine blk_n ?_ | refine blk_ret ?_ | refine blk_here ?_ | refine blk_there rfl ?_ | refine e_cond_t rfl rfl rfl ?_ | refine e_cond_f rfl rfl rfl ?_)
    apply e_done (Or.inr rfl)
    case hr => rfl
    case hv => rfl
    case hR =>
      refine ⟨x, k, e, rfl, ?_, hK1.trans (hK.weaken hK1.le)⟩
      rw [← hq, sqz_zeros 0, List.append_nil]
      · exact hO.weaken hK1.le
      · intro y hy
        obtain ⟨j, hj⟩ := List.mem_iff_getElem?.1 hy
        rw [List.getElem?_drop] at hj
        have := hz (i + j) (by omega)
        simpa [List.getD, hj] using this

end Go.Proofs.Ytddenboepgfbgaa
