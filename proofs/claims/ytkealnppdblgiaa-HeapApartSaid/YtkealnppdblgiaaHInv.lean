/- What holds of a heap at all times: plain laws. No statement of the seat is proved in this text. -/
import Derived.Test.YtkealnppdblgiaaHAct
import Derived.Test.YtkealnppdblgiaaHFull
import Derived.Test.YtkealnppdblgiaaHFirst
set_option linter.unusedVariables false
set_option linter.unusedSimpArgs false
set_option maxHeartbeats 4000000
namespace Go.Proofs.Ytkealnppdblgiaa
open GAb Go

structure HOK (most st en : Int) (bl : List (Int × Int)) : Prop where
  blk : BlkOK bl
  len : bl.length ≤ 4096
  ust : U32 st
  uen : U32 en
  emp : bl = [] → st = 0 ∧ en = 0
  on : bl ≠ [] → st ≠ 0 ∧ st % 256 = 0 ∧ en % 256 = 0 ∧ en ≤ most ∧ rightL en st bl = true
theorem hok_new (most : Int) : HOK most 0 0 [] := ⟨fun x h => (by cases h), by simp, by decide, by decide, fun _ => ⟨rfl, rfl⟩, fun h => absurd rfl h⟩
theorem rightL_top {en en' : Int} (he : en ≤ en') : ∀ {bl : List (Int × Int)} {p : Int}, rightL en p bl = true → rightL en' p bl = true
  | [], p, h => by simp only [rightL, decide_eq_true_eq] at *; omega
  | b :: bl, p, h => by
    simp only [rightL] at *
    split at h
    · cases h
    · rw [if_neg (by assumption)]; exact rightL_top he h
theorem rightL_ins {en en' n : Int} (hn : 0 < n) (he : en ≤ en') : ∀ {bl : List (Int × Int)} {p : Int}, BlkOK bl → rightL en p bl = true → (placeR n p bl).1 + n ≤ en' → rightL en' p (ins bl (placeR n p bl).2 ((placeR n p bl).1, n)) = true ∧ 0 ≤ (placeR n p bl).2
  | [], p, _, h, h1 => by
    simp only [placeR] at *
    refine ⟨?_, by omega⟩
    simp only [ins, List.take_nil, List.drop_nil, List.nil_append, rightL]
    rw [if_neg (by (first | omega | (dsimp only; omega) | (simp only; omega)))]
    simpa using h1
  | b :: bl, p, hB, h, h1 => by
    obtain ⟨⟨a1, a2⟩, ⟨a3, a4⟩⟩ := hB b (by simp)
    rw [placeR] at h1 ⊢
    split
    · rename_i hle
      rw [if_pos hle] at h1
      refine ⟨?_, by simp⟩
      have hi : ins (b :: bl) ((p, (0 : Int)) : Int × Int).2 (((p, (0 : Int)) : Int × Int).1, n) = (p, n) :: b :: bl := by simp [ins]
      rw [hi, rightL, if_neg (by (first | omega | (dsimp only; omega) | (simp only; omega)))]
      exact rightL_top he (by
        have := h
        simp only [rightL] at this ⊢
        split at this
        · cases this
        · rw [if_neg (by (first | omega | (dsimp only; omega) | (simp only; omega)))]; exact this)
    · rename_i hle
      rw [if_neg hle] at h1
      simp only at h1 ⊢
      simp only [rightL] at h
      split at h
      · cases h
      · rename_i hb
        obtain ⟨ih1, ih2⟩ := rightL_ins hn he (fun x hx => hB x (by simp [hx])) h h1
        refine ⟨?_, by omega⟩
        have e1 : ((placeR n (b.1 + b.2) bl).2 + 1).toNat = (placeR n (b.1 + b.2) bl).2.toNat + 1 := by omega
        have hi : ins (b :: bl) ((placeR n (b.1 + b.2) bl).2 + 1) ((placeR n (b.1 + b.2) bl).1, n) = b :: ins bl (placeR n (b.1 + b.2) bl).2 ((placeR n (b.1 + b.2) bl).1, n) := by
          simp [ins, e1]
        rw [hi, rightL, if_neg hb]
        exact ih1
theorem rightL_erase {en : Int} : ∀ {bl : List (Int × Int)} {p : Int} (i : Nat), BlkOK bl → rightL en p bl = true → rightL en p (bl.eraseIdx i) = true
  | [], p, i, _, h => by simpa using h
  | b :: bl, p, 0, hB, h => by
    obtain ⟨⟨a1, a2⟩, ⟨a3, a4⟩⟩ := hB b (by simp)
    simp only [rightL] at h
    split at h
    · cases h
    · simp only [List.eraseIdx_cons_zero]; exact rightL_low (by omega) h
  | b :: bl, p, i + 1, hB, h => by
    simp only [rightL] at h
    split at h
    · cases h
    · rename_i hb
      simp only [List.eraseIdx_cons_succ, rightL]
      rw [if_neg hb]
      exact rightL_erase i (fun x hx => hB x (by simp [hx])) h
theorem blk_ins {bl : List (Int × Int)} (hB : BlkOK bl) {i : Int} {x : Int × Int} (hx : U32 x.1 ∧ U32 x.2) : BlkOK (ins bl i x) := fun y hy => by
  unfold ins at hy
  rcases List.mem_append.1 hy with h | h
  · exact hB y (List.mem_of_mem_take h)
  · rcases List.mem_cons.1 h with rfl | h
    · exact hx
    · exact hB y (List.mem_of_mem_drop h)
theorem ins_ne (bl : List (Int × Int)) (i : Int) (x : Int × Int) : ins bl i x ≠ [] := by unfold ins; simp

theorem hok_mallocA {most st0 en0 st en n : Int} {bl : List (Int × Int)} (h0 : HOK most st0 en0 bl) (hB : BlkOK bl) (hn : 0 < n) (hl : bl.length < 4096) (hm : U32 most) (hu : n ≤ 4294967295) (hst : st ≠ 0 ∧ st % 256 = 0 ∧ en % 256 = 0 ∧ en ≤ most ∧ rightL en st bl = true) (us : U32 st) :
    HOK most (mallocA most st0 en0 st en bl n).st (mallocA most st0 en0 st en bl n).en (mallocA most st0 en0 st en bl n).bl := by
  obtain ⟨m0, m1⟩ := hm
  obtain ⟨q1, q2, q3, q4, q5⟩ := hst
  obtain ⟨s0, s1⟩ := us
  have hp := placeR_in (n := n) hB q5
  have hbd := placeR_bound n bl st hB s0 (by omega)
  generalize hpe : placeR n st bl = pi at hp hbd
  obtain ⟨p, i⟩ := pi
  have hlen : (ins bl i (p, n)).length ≤ 4096 := by rw [ins_length bl i (p, n) (by simp only at hbd; omega) (by simp only at hbd; omega)]; omega
  simp only at hp hbd
  have key : ∀ en', en ≤ en' → p + n ≤ en' → en' % 256 = 0 → en' ≤ most → HOK most st en' (ins bl i (p, n)) := fun en' g1 g2 g3 g4 => by
    have := rightL_ins (en' := en') hn g1 hB q5 (by rw [hpe]; exact g2)
    rw [hpe] at this
    exact ⟨blk_ins hB ⟨⟨by (first | omega | (dsimp only; omega) | (simp only; omega)), by (first | omega | (dsimp only; omega) | (simp only; omega))⟩, ⟨by (first | omega | (dsimp only; omega) | (simp only; omega)), by (first | omega | (dsimp only; omega) | (simp only; omega))⟩⟩, hlen, ⟨s0, s1⟩, ⟨by omega, by omega⟩, fun h => absurd h (ins_ne _ _ _), fun _ => ⟨q1, q2, g3, g4, this.1⟩⟩
  by_cases h1 : p + n ≤ en
  · rw [mallocA_in hpe h1]; exact key en (by omega) h1 q3 q4
  · by_cases h2 : (p + n + 255) / 256 * 256 ≤ most
    · rw [mallocA_top hpe (by omega) h2 m1]; exact key ((p + n + 255) / 256 * 256) (by omega) (by omega) (by omega) h2
    · rw [mallocA_no hpe (by omega) (by omega)]; exact h0
theorem hok_malloc {most st en n e : Int} {bl : List (Int × Int)} (h0 : HOK most st en bl) (hm : U32 most) (hn : U32 n) (he : U32 e) :
    HOK most (mallocR most st en bl n e).st (mallocR most st en bl n e).en (mallocR most st en bl n e).bl := by
  obtain ⟨n0, n1⟩ := hn
  by_cases h1 : n = 0 ∨ bl.length = 4096 ∨ bl = [] ∧ (e = 0 ∨ e % 256 ≠ 0 ∨ e > most)
  · rw [mallocR_none h1]; exact h0
  · have hl := h0.len
    by_cases h2 : bl = []
    · subst h2
      have h3 : ¬ (e = 0 ∨ e % 256 ≠ 0 ∨ e > most) := fun h => h1 (.inr (.inr ⟨rfl, h⟩))
      rw [mallocR_new (by omega) (by omega) (by omega) (by omega)]
      exact hok_mallocA h0 h0.blk (by omega) (by simp) hm n1 ⟨by omega, by omega, by omega, by omega, by simp [rightL]⟩ he
    · have h3 : n ≠ 0 := fun h => h1 (.inl h)
      have h4 : bl.length ≠ 4096 := fun h => h1 (.inr (.inl h))
      rw [mallocR_on h3 h2 h4]
      exact hok_mallocA h0 h0.blk (by omega) (by omega) hm n1 (h0.on h2) h0.ust
theorem hok_free {most st en ad : Int} {bl : List (Int × Int)} (h0 : HOK most st en bl) : HOK most (freeR st en bl ad).st (freeR st en bl ad).en (freeR st en bl ad).bl := by
  have hB : BlkOK (bl.eraseIdx (idxR ad bl).toNat) := fun x hx => h0.blk x (List.mem_of_mem_eraseIdx hx)
  have hl : (bl.eraseIdx (idxR ad bl).toNat).length ≤ 4096 := Nat.le_trans (List.length_eraseIdx_le _ _) h0.len
  unfold freeR
  split
  · exact h0
  · split
    · rename_i h
      have : bl.eraseIdx (idxR ad bl).toNat = [] := List.eq_nil_of_length_eq_zero h
      exact ⟨hB, hl, (by decide : U32 0), (by decide : U32 0), fun _ => ⟨rfl, rfl⟩, fun h => absurd this h⟩
    · rename_i h1 h
      have hne : bl ≠ [] := fun e => by subst e; exact h (by simp)
      obtain ⟨q1, q2, q3, q4, q5⟩ := h0.on hne
      exact ⟨hB, hl, h0.ust, h0.uen, fun e => absurd (by simp only at e; rw [e]; rfl) h, fun _ => ⟨q1, q2, q3, q4, rightL_erase _ h0.blk q5⟩⟩
theorem hok_load {most st0 en0 st en : Int} {bl0 xs : List (Int × Int)} (h0 : HOK most st0 en0 bl0) (hB : BlkOK xs) (hs : U32 st) (he : U32 en) : HOK most (loadR most st0 en0 bl0 st en xs).st (loadR most st0 en0 bl0 st en xs).en (loadR most st0 en0 bl0 st en xs).bl := by
  unfold loadR
  split
  · exact h0
  · split
    · exact h0
    · rename_i h1 h2
      have h2 : rightR most st en xs = true := by cases h : rightR most st en xs <;> simp_all
      refine ⟨hB, by (first | omega | (dsimp only; omega) | (simp only; omega)), hs, he, fun e => ?_, fun e => ?_⟩
      · simp only at e; subst e
        simpa [rightR] using h2
      · have := rightR_on (fun h => e (List.eq_nil_of_length_eq_zero (by dsimp only; omega))) h2
        exact ⟨fun h => this.1 h.symm, this.2.1, this.2.2.1, this.2.2.2.1, this.2.2.2.2⟩
end Go.Proofs.Ytkealnppdblgiaa
