/- Stacks as plain rows of bytes: frames and their chain. No statement of the seat is proved in this text. -/
import Derived.Test.YtocfmecenpeoiaaGreatFmtB
import Derived.Test.YtocfmecenpeoiaaGreatLibPut
set_option linter.unusedVariables false
set_option linter.unusedSimpArgs false
set_option maxRecDepth 100000
set_option maxHeartbeats 4000000
namespace Go.Proofs.YtocfmecenpeoiaaGreat.Stk
open GAb Go

/-- A stack's cells. -/
abbrev sC (a : Option Addr) (n c : Nat) (size fp : Int) (on : Bool) : List Value := [.slice a n c, .int .i64 size, .int .i64 fp, .bool on]
/-- The number at a place; 0: there is none. -/
def at4 (bs : List Int) (p : Int) : Int := (beR bs p 4).1
theorem at4_bd {bs : List Int} (hB : Bytes bs) (p : Int) : 0 ≤ at4 bs p ∧ at4 bs p ≤ 4294967295 := by
  unfold at4 beR
  split
  · exact ⟨Int.le_refl _, by decide⟩
  · split
    · exact ⟨Int.le_refl _, by decide⟩
    · exact be_lt4 hB _ (by decide)
def fmtB (bs : List Int) (f t : Int) : List Int := (bs.drop (f + 8).toNat).take (t.toNat - (f + 8).toNat)
def fmtN (bs : List Int) (f t : Int) : Int := pr 0 (fmtB bs f t)
def fmtF (bs : List Int) (f t : Int) : List Int := (bs.drop (f + 8).toNat).take ((f + 8 + fmtN bs f t).toNat - (f + 8).toNat)
def fmtP (bs : List Int) (f t : Int) : Int := (locR (fmtF bs f t)).1
def fmtS (bs : List Int) (f t : Int) : Int := (locR (fmtF bs f t)).2.1
/-- A frame lies at f, and ends at t or ahead of it. -/
def FrameOK (bs : List Int) (f t : Int) : Prop := f % 4 = 0 ∧ f + 10 ≤ t ∧ fmtN bs f t ≠ 0 ∧ at4 bs f = fmtP bs f t + fmtS bs f t ∧ at4 bs (f + 4) = fmtP bs f t ∧ f + fmtP bs f t + fmtS bs f t ≤ t
inductive Chain (bs : List Int) : Int → Int → Prop
  | base {t : Int} : FrameOK bs 0 t → Chain bs 0 t
  | step {f t : Int} : FrameOK bs f t → f ≠ 0 → 16 ≤ f → Chain bs (at4 bs (f - 4)) (f - 16) → Chain bs f t
theorem Chain.frame {bs : List Int} {f t : Int} (h : Chain bs f t) : FrameOK bs f t := by cases h <;> assumption
theorem Chain.ge {bs : List Int} {f t : Int} (h : Chain bs f t) : f = 0 ∨ 16 ≤ f := by
  cases h
  · exact .inl rfl
  · exact .inr (by assumption)
theorem Chain.prev {bs : List Int} {f t : Int} (h : Chain bs f t) (h0 : f ≠ 0) : 16 ≤ f ∧ Chain bs (at4 bs (f - 4)) (f - 16) := by
  cases h
  · exact (h0 rfl).elim
  · exact ⟨by assumption, by assumption⟩
theorem chain_iff {bs : List Int} {f t : Int} : Chain bs f t ↔ FrameOK bs f t ∧ (f = 0 ∨ f ≠ 0 ∧ 16 ≤ f ∧ Chain bs (at4 bs (f - 4)) (f - 16)) := by
  constructor
  · intro h
    refine ⟨h.frame, ?_⟩
    by_cases h0 : f = 0
    · exact .inl h0
    · exact .inr ⟨h0, h.prev h0⟩
  · rintro ⟨h, rfl | ⟨h1, h2, h3⟩⟩
    · exact .base h
    · exact .step h h1 h2 h3

/-- How great locals are. -/
theorem tot_bd (bs : List Int) (hv : ∀ i : Int, 0 ≤ i → i % 2 = 0 → i + 3 < bs.length → (bs.getD i.toNat 0 = 1 ∨ bs.getD i.toNat 0 = 2 ∨ bs.getD i.toNat 0 = 4) ∧ 1 ≤ bs.getD (i + 1).toNat 0 ∧ bs.getD (i + 1).toNat 0 ≤ 255) :
    ∀ k : Nat, 2 * (k : Int) + 2 ≤ bs.length → 0 ≤ tot bs k ∧ tot bs k ≤ 1100 * k
  | 0, _ => by simp [tot]
  | k + 1, h => by
    obtain ⟨h1, h2⟩ := tot_bd bs hv k (by omega)
    obtain ⟨n1, n2, n3⟩ := hv (2 * k) (by omega) (by omega) (by omega)
    have e1 : (2 * (k : Int)).toNat = 2 * k := by omega
    have e2 : (2 * (k : Int) + 1).toNat = 2 * k + 1 := by omega
    rw [e1] at n1
    rw [e2] at n2 n3
    have hu := up_le (a := tot bs k) n1
    have hm : 0 ≤ bs.getD (2 * k) 0 * bs.getD (2 * k + 1) 0 ∧ bs.getD (2 * k) 0 * bs.getD (2 * k + 1) 0 ≤ 1020 := by
      rcases n1 with h | h | h <;> rw [h] <;> omega
    simp only [tot]
    omega
theorem locR_bd {bs : List Int} (hB : Bytes bs) (hl : bs.length ≤ 100000) : 0 ≤ (locR bs).1 ∧ (locR bs).1 ≤ bs.length + 11 ∧ 0 ≤ (locR bs).2.1 ∧ (locR bs).2.1 ≤ 120000000 ∧ (locR bs).1 % 4 = 0 ∧ (locR bs).2.1 % 4 = 0 := by
  unfold locR
  split
  · simp only; omega
  · rename_i h
    obtain ⟨a1, a2, a3⟩ := fmt_valid hB (by omega) (by omega)
    have hk : 2 * ((((bs.length : Int) - 2).toNat / 2 : Nat) : Int) + 2 ≤ bs.length := by omega
    have := tot_bd bs a3 _ hk
    have e : T bs ((bs.length : Int) - 2) = tot bs (((bs.length : Int) - 2).toNat / 2) := rfl
    simp only
    rw [e]
    omega
theorem fmt_bd {bs : List Int} (hB : Bytes bs) (hl : bs.length ≤ 100000) (f t : Int) : 0 ≤ fmtP bs f t ∧ fmtP bs f t ≤ 200000 ∧ 0 ≤ fmtS bs f t ∧ fmtS bs f t ≤ 120000000 ∧ fmtP bs f t % 4 = 0 ∧ fmtS bs f t % 4 = 0 := by
  have h := locR_bd (bs := fmtF bs f t) ((hB.drop _).take _) (by simp only [fmtF, List.length_take, List.length_drop]; omega)
  have : (fmtF bs f t).length ≤ bs.length := by simp only [fmtF, List.length_take, List.length_drop]; omega
  unfold fmtP fmtS
  omega
theorem pr_bd (bs : List Int) : 0 ≤ pr 0 bs ∧ pr 0 bs ≤ bs.length := by
  by_cases h : pr 0 bs = 0
  · omega
  · obtain ⟨a1, a2, a3, a4⟩ := pr_spec bs _ bs.length 0 (by omega) (by rw [List.drop_zero]) h (by omega)
    omega
theorem fmtN_bd (bs : List Int) (f t : Int) : 0 ≤ fmtN bs f t ∧ fmtN bs f t ≤ (t.toNat - (f + 8).toNat : Nat) ∧ fmtN bs f t ≤ (bs.length - (f + 8).toNat : Nat) := by
  have h := pr_bd (fmtB bs f t)
  simp only [fmtB, List.length_take, List.length_drop] at h
  unfold fmtN fmtB
  omega

end Go.Proofs.YtocfmecenpeoiaaGreat.Stk
