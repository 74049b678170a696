/- What the small functions over bytes answer: copies with a mark, likeness. No statement of the seat is proved in this text. -/
import Derived.Test.YtddenboepgfbgaaAb16
import Derived.Test.YtddenboepgfbgaaProg
import Derived.KernelRfl
set_option linter.unusedVariables false
set_option linter.unusedSimpArgs false
set_option maxRecDepth 100000
namespace Go.Proofs.Ytddenboepgfbgaa
open GAb Go

abbrev u8l (zs : List Int) : List Value := zs.map (.int .u8)
abbrev Bs (σ : AState) (x : Option Addr) (len cap : Nat) (zs : List Int) : Prop := Has σ x len cap 1 (u8l zs)

def eqS (xs ys : List Int) : Bool := (strOfNums xs).toList == (strOfNums ys).toList
theorem eqS_self (xs : List Int) : eqS xs xs = true := by unfold eqS; exact beq_self_eq_true _

theorem same_call (D : Nat → Prop) {σ : AState} {a b : Option Addr} {l c m d : Nat} {xs ys : List Int} (h1 : Bs σ a l c xs) (h2 : Bs σ b m d ys) :
    SCall Try.prog D 11 [.slice a l c, .slice b m d] σ fun v s => v = .bool (eqS xs ys) ∧ s = σ := by
  refine e_fun (m := 10) Try.func11 rfl rfl fun B hB => ?_
  repeat (first | refine e_mv rfl rfl rfl rfl ?_ | refine e_ops rfl rfl rfl (by first | exact rfl) rfl ?_ | refine e_s rfl rfl ?_ | refine e_nil ?_ | refine then_n ?_ | refine e_seq ?_ | refine e_region ?_ | refine e_block ?_ | refine e_ret ?_ | refine e_skip ?_ | refine e_exit ?_ | refine then_ret ?_ | refine then_exit ?_ | refine blk_n ?_ | refine blk_ret ?_ | refine blk_here ?_ | refine blk_there rfl ?_ | refine e_cond_t rfl rfl rfl ?_ | refine e_cond_f rfl rfl rfl ?_)
  refine e_str rfl rfl rfl rfl h1 ?_
  repeat (first | refine e_mv rfl rfl rfl rfl ?_ | refine e_ops rfl rfl rfl (by first | exact rfl) rfl ?_ | refine e_s rfl rfl ?_ | refine e_nil ?_ | refine then_n ?_ | refine e_seq ?_ | refine e_region ?_ | refine e_block ?_ | refine e_ret ?_ | refine e_skip ?_ | refine e_exit ?_ | refine then_ret ?_ | refine then_exit ?_ | refine blk_n ?_ | refine blk_ret ?_ | refine blk_here ?_ | refine blk_there rfl ?_ | refine e_cond_t rfl rfl rfl ?_ | refine e_cond_f rfl rfl rfl ?_)
  refine e_str rfl rfl rfl rfl h2 ?_
  repeat (first | refine e_mv rfl rfl rfl rfl ?_ | refine e_ops rfl rfl rfl (by first | exact rfl) rfl ?_ | refine e_s rfl rfl ?_ | refine e_nil ?_ | refine then_n ?_ | refine e_seq ?_ | refine e_region ?_ | refine e_block ?_ | refine e_ret ?_ | refine e_skip ?_ | refine e_exit ?_ | refine then_ret ?_ | refine then_exit ?_ | refine blk_n ?_ | refine blk_ret ?_ | refine blk_here ?_ | refine blk_there rfl ?_ | refine e_cond_t rfl rfl rfl ?_ | refine e_cond_f rfl rfl rfl ?_)
  apply e_done (Or.inr rfl)
  case hr => rfl
  case hv => rfl
  case hR => exact ⟨rfl, rfl⟩

theorem one_all (zs : List Int) : (u8l zs).all Value.oneCell' = true := by
  rw [List.all_eq_true]
  intro x hx
  obtain ⟨z, _, rfl⟩ := List.mem_map.1 hx
  rfl

/-- A copy with a mark behind it. -/
theorem lent_call (D : Nat → Prop) {σ : AState} {a : Option Addr} {l c : Nat} {xs : List Int} (h1 : Bs σ a l c xs) (hl : l ≤ 1000000) :
    SCall Try.prog D 9 [.slice a l c] σ fun v s => ∃ x d zs, v = .slice x l d ∧ l + 1 ≤ d ∧ Own σ.next s x l d 1 (u8l xs) ∧ Row s x l d 1 zs ∧ zs.take (l + 1) = u8l (xs ++ [77]) ∧ Kp σ.next σ s := by
  have hxl : xs.length = l := by simpa using h1.size
  refine e_fun' (m := 14) Try.func9 rfl rfl fun B hB hN => ?_
  repeat (first | refine e_mv rfl rfl rfl rfl ?_ | refine e_ops rfl rfl rfl (by first | exact rfl) rfl ?_ | refine e_s rfl rfl ?_ | refine e_nil ?_ | refine then_n ?_ | refine e_seq ?_ | refine e_region ?_ | refine e_block ?_ | refine e_ret ?_ | refine e_skip ?_ | refine e_exit ?_ | refine then_ret ?_ | refine then_exit ?_ | refine blk_n ?_ | refine blk_ret ?_ | refine blk_here ?_ | refine blk_there rfl ?_ | refine e_cond_t rfl rfl rfl ?_ | refine e_cond_f rfl rfl rfl ?_)
  refine e_lit (n0 := σ.next) (k := 1) (vs := u8l []) rfl rfl rfl (Nat.le_refl _) fun q s1 hO hK => ?_
  repeat (first | refine e_mv rfl rfl rfl rfl ?_ | refine e_ops rfl rfl rfl (by first | exact rfl) rfl ?_ | refine e_s rfl rfl ?_ | refine e_nil ?_ | refine then_n ?_ | refine e_seq ?_ | refine e_region ?_ | refine e_block ?_ | refine e_ret ?_ | refine e_skip ?_ | refine e_exit ?_ | refine then_ret ?_ | refine then_exit ?_ | refine blk_n ?_ | refine blk_ret ?_ | refine blk_here ?_ | refine blk_there rfl ?_ | refine e_cond_t rfl rfl rfl ?_ | refine e_cond_f rfl rfl rfl ?_)
  refine e_appi (by_ := 1) rfl rfl rfl rfl rfl hO (h1.kp (Nat.le_refl _) hK) (by omega) hN fun x2 c2 s2 hO2 hK2 => ?_
  repeat (first | refine e_mv rfl rfl rfl rfl ?_ | refine e_ops rfl rfl rfl (by first | exact rfl) rfl ?_ | refine e_s rfl rfl ?_ | refine e_nil ?_ | refine then_n ?_ | refine e_seq ?_ | refine e_region ?_ | refine e_block ?_ | refine e_ret ?_ | refine e_skip ?_ | refine e_exit ?_ | refine then_ret ?_ | refine then_exit ?_ | refine blk_n ?_ | refine blk_ret ?_ | refine blk_here ?_ | refine blk_there rfl ?_ | refine e_cond_t rfl rfl rfl ?_ | refine e_cond_f rfl rfl rfl ?_)
  refine e_lit (n0 := s2.next) (k := 1) (vs := u8l [77]) rfl rfl rfl (Nat.le_refl _) fun q3 s3 hO3 hK3 => ?_
  repeat (first | refine e_mv rfl rfl rfl rfl ?_ | refine e_ops rfl rfl rfl (by first | exact rfl) rfl ?_ | refine e_s rfl rfl ?_ | refine e_nil ?_ | refine then_n ?_ | refine e_seq ?_ | refine e_region ?_ | refine e_block ?_ | refine e_ret ?_ | refine e_skip ?_ | refine e_exit ?_ | refine then_ret ?_ | refine then_exit ?_ | refine blk_n ?_ | refine blk_ret ?_ | refine blk_here ?_ | refine blk_there rfl ?_ | refine e_cond_t rfl rfl rfl ?_ | refine e_cond_f rfl rfl rfl ?_)
  refine e_appi (by_ := 1) rfl rfl rfl rfl rfl (hO2.kp (Nat.le_refl _) hK3) hO3.has (by omega) hN fun x4 c4 s4 hO4 hK4 => ?_
  repeat (first | refine e_mv rfl rfl rfl rfl ?_ | refine e_ops rfl rfl rfl (by first | exact rfl) rfl ?_ | refine e_s rfl rfl ?_ | refine e_nil ?_ | refine then_n ?_ | refine e_seq ?_ | refine e_region ?_ | refine e_block ?_ | refine e_ret ?_ | refine e_skip ?_ | refine e_exit ?_ | refine then_ret ?_ | refine then_exit ?_ | refine blk_n ?_ | refine blk_ret ?_ | refine blk_here ?_ | refine blk_there rfl ?_ | refine e_cond_t rfl rfl rfl ?_ | refine e_cond_f rfl rfl rfl ?_)
  obtain ⟨zs, hR, hz⟩ := hO4.has
  rw [Nat.mul_one] at hz
  have hc4 := hR.size
  refine e_sl (es := 1) (l := 0) (h := l) rfl rfl rfl rfl hR rfl ⟨rfl, _, _, rfl, by omega, by simp⟩ (by omega) (by omega) fun x5 hR5 hO5 => ?_
  repeat (first | refine e_mv rfl rfl rfl rfl ?_ | refine e_ops rfl rfl rfl (by first | exact rfl) rfl ?_ | refine e_s rfl rfl ?_ | refine e_nil ?_ | refine then_n ?_ | refine e_seq ?_ | refine e_region ?_ | refine e_block ?_ | refine e_ret ?_ | refine e_skip ?_ | refine e_exit ?_ | refine then_ret ?_ | refine then_exit ?_ | refine blk_n ?_ | refine blk_ret ?_ | refine blk_here ?_ | refine blk_there rfl ?_ | refine e_cond_t rfl rfl rfl ?_ | refine e_cond_f rfl rfl rfl ?_)
  apply e_done (Or.inr rfl)
  case hr => rfl
  case hv => rfl
  case hR =>
    rw [Nat.zero_add] at hz
    refine ⟨x5, c4, zs, by simp [one], by omega, ?_, by simpa using hR5, by simpa using hz, ?_⟩
    · refine hO5 σ.next _ rfl ?_ ?_
      · have := congrArg (List.take l) hz
        rw [List.take_take, Nat.min_eq_left (by omega)] at this
        rw [Nat.mul_one, this]
        simp [u8l, ← hxl]
      · rw [Nat.mul_one, Nat.zero_add, hz]; simpa using hO4
    · exact ((hK.trans hK2).trans (hK3.weaken hO2.le)).trans hK4

/-- Is it as it was, and the mark? -/
theorem kept_call (D : Nat → Prop) {σ : AState} {a b : Option Addr} {l c m d : Nat} {zs : List Value} {xs : List Int} (hR : Row σ a l c 1 zs) (h1 : Bs σ a l c xs) (h2 : Bs σ b m d xs) (hz : zs.take (l + 1) = u8l (xs ++ [77])) (hl : l ≤ 1000000) :
    SCall Try.prog D 13 [.slice a l c, .slice b m d] σ fun v s => v = .bool true ∧ s = σ := by
  have hxl : xs.length = l := by simpa using h1.size
  have hxm : xs.length = m := by simpa using h2.size
  have hlm : l = m := by omega
  subst hlm
  have hcs := hR.size
  have hc : l + 1 ≤ c := by
    have := congrArg List.length hz
    simp at this
    omega
  refine e_fun (m := 22) Try.func13 rfl rfl fun B hB => ?_
  repeat (first | refine e_mv rfl rfl rfl rfl ?_ | refine e_ops rfl rfl rfl (by first | exact rfl) rfl ?_ | refine e_s rfl rfl ?_ | refine e_nil ?_ | refine then_n ?_ | refine e_seq ?_ | refine e_region ?_ | refine e_block ?_ | refine e_ret ?_ | refine e_skip ?_ | refine e_exit ?_ | refine then_ret ?_ | refine then_exit ?_ | refine blk_n ?_ | refine blk_ret ?_ | refine blk_here ?_ | refine blk_there rfl ?_ | refine e_cond_t rfl rfl rfl ?_ | refine e_cond_f rfl rfl rfl ?_)
  refine e_str rfl rfl rfl rfl h1 ?_
  repeat (first | refine e_mv rfl rfl rfl rfl ?_ | refine e_ops rfl rfl rfl (by first | exact rfl) rfl ?_ | refine e_s rfl rfl ?_ | refine e_nil ?_ | refine then_n ?_ | refine e_seq ?_ | refine e_region ?_ | refine e_block ?_ | refine e_ret ?_ | refine e_skip ?_ | refine e_exit ?_ | refine then_ret ?_ | refine then_exit ?_ | refine blk_n ?_ | refine blk_ret ?_ | refine blk_here ?_ | refine blk_there rfl ?_ | refine e_cond_t rfl rfl rfl ?_ | refine e_cond_f rfl rfl rfl ?_)
  refine e_str rfl rfl rfl rfl h2 ?_
  refine e_op rfl rfl rfl ?_
  refine e_t rfl rfl (eqS_self xs) rfl ?_
  repeat (first | refine e_mv rfl rfl rfl rfl ?_ | refine e_ops rfl rfl rfl (by first | exact rfl) rfl ?_ | refine e_s rfl rfl ?_ | refine e_nil ?_ | refine then_n ?_ | refine e_seq ?_ | refine e_region ?_ | refine e_block ?_ | refine e_ret ?_ | refine e_skip ?_ | refine e_exit ?_ | refine then_ret ?_ | refine then_exit ?_ | refine blk_n ?_ | refine blk_ret ?_ | refine blk_here ?_ | refine blk_there rfl ?_ | refine e_cond_t rfl rfl rfl ?_ | refine e_cond_f rfl rfl rfl ?_)
  refine e_sl (es := 1) (l := 0) (h := l + 1) rfl rfl rfl rfl hR rfl ⟨rfl, _, _, rfl, by rw [wrapi (by omega) (by omega)]; omega, by rw [wrapi (by omega) (by omega)]; omega⟩ (by omega) hc fun x5 hR5 _ => ?_
  repeat (first | refine e_mv rfl rfl rfl rfl ?_ | refine e_ops rfl rfl rfl (by first | exact rfl) rfl ?_ | refine e_s rfl rfl ?_ | refine e_nil ?_ | refine then_n ?_ | refine e_seq ?_ | refine e_region ?_ | refine e_block ?_ | refine e_ret ?_ | refine e_skip ?_ | refine e_exit ?_ | refine then_ret ?_ | refine then_exit ?_ | refine blk_n ?_ | refine blk_ret ?_ | refine blk_here ?_ | refine blk_there rfl ?_ | refine e_cond_t rfl rfl rfl ?_ | refine e_cond_f rfl rfl rfl ?_)
  have hH5 : Bs σ x5 (l + 1) c (xs ++ [77]) := ⟨zs, by simpa using hR5, by rw [Nat.mul_one]; exact hz⟩
  refine e_ixi rfl rfl rfl rfl rfl hH5 (by omega) (by omega) fun p hp => ?_
  have hlast : (xs ++ [77]).getD ((l : Int).toNat) 0 = 77 := by
    rw [Int.toNat_natCast, ← hxl]
    simp
  rw [hlast] at hp
  refine e_ld rfl rfl rfl rfl hp ?_
  repeat (first | refine e_mv rfl rfl rfl rfl ?_ | refine e_ops rfl rfl rfl (by first | exact rfl) rfl ?_ | refine e_s rfl rfl ?_ | refine e_nil ?_ | refine then_n ?_ | refine e_seq ?_ | refine e_region ?_ | refine e_block ?_ | refine e_ret ?_ | refine e_skip ?_ | refine e_exit ?_ | refine then_ret ?_ | refine then_exit ?_ | refine blk_n ?_ | refine blk_ret ?_ | refine blk_here ?_ | refine blk_there rfl ?_ | refine e_cond_t rfl rfl rfl ?_ | refine e_cond_f rfl rfl rfl ?_)
  apply e_done (Or.inr rfl)
  case hr => rfl
  case hv => rfl
  case hR => exact ⟨rfl, rfl⟩

end Go.Proofs.Ytddenboepgfbgaa
