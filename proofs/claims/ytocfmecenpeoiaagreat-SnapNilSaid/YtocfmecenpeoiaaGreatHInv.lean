/- What holds of a heap at all times: plain laws. No statement of the seat is proved in this text. -/
import Derived.Test.YtocfmecenpeoiaaGreatHeap4
set_option linter.unusedVariables false
set_option linter.unusedSimpArgs false
set_option maxRecDepth 100000
set_option maxHeartbeats 4000000
namespace Go.Proofs.YtocfmecenpeoiaaGreat
open GAb Go

theorem alignR_ok {x : Int} (h : (x + 255) / 256 * 256 ≤ 4294967295) : alignR x = ((x + 255) / 256 * 256, true) := if_neg (by omega)
theorem alignR_no {x : Int} (h : ¬ (x + 255) / 256 * 256 ≤ 4294967295) : alignR x = (0, false) := if_pos (by omega)
section
variable {most s0 e0 st en n p i : Int} {bl : List (Int × Int)}
theorem mallocA_in (h : placeR n st bl = (p, i)) (h1 : p + n ≤ en) : mallocA most s0 e0 st en bl n = ⟨p, true, st, en, ins bl i (p, n)⟩ := by
  unfold mallocA; rw [h]; exact if_neg (by dsimp only; omega)
theorem mallocA_top (h : placeR n st bl = (p, i)) (h1 : en < p + n) (h2 : (p + n + 255) / 256 * 256 ≤ most) (hm : most ≤ 4294967295) : mallocA most s0 e0 st en bl n = ⟨p, true, st, (p + n + 255) / 256 * 256, ins bl i (p, n)⟩ := by
  unfold mallocA; rw [h]
  dsimp only
  rw [if_pos h1, if_neg (by omega), alignR_ok (by omega), if_neg (by simp), if_neg (by dsimp only; omega)]
theorem mallocA_no (h : placeR n st bl = (p, i)) (h1 : en < p + n) (h2 : most < (p + n + 255) / 256 * 256) : mallocA most s0 e0 st en bl n = ⟨0, false, s0, e0, bl⟩ := by
  unfold mallocA; rw [h]
  dsimp only
  rw [if_pos h1]
  by_cases h3 : p + n > most
  · rw [if_pos h3]
  · rw [if_neg h3]
    by_cases ha : (p + n + 255) / 256 * 256 ≤ 4294967295
    · rw [alignR_ok ha, if_neg (by simp), if_pos (by dsimp only; omega)]
    · rw [alignR_no ha, if_pos rfl]
theorem mallocR_on (h0 : n ≠ 0) (h1 : bl ≠ []) (h2 : bl.length ≠ 4096) {e : Int} : mallocR most st en bl n e = mallocA most st en st en bl n := by
  have : bl.length ≠ 0 := fun h => h1 (List.eq_nil_of_length_eq_zero h)
  unfold mallocR
  rw [if_neg h0, if_neg (by omega), if_neg (by omega)]
theorem mallocR_new (h0 : n ≠ 0) {e : Int} (h1 : e ≠ 0) (h2 : e % 256 = 0) (h3 : e ≤ most) : mallocR most st en [] n e = mallocA most st en e e [] n := by
  unfold mallocR
  rw [if_neg h0, if_neg (by simp), if_pos (by simp), if_neg h1, if_neg (by omega), if_neg (by omega)]
theorem mallocR_none {e : Int} (h : n = 0 ∨ bl.length = 4096 ∨ bl = [] ∧ (e = 0 ∨ e % 256 ≠ 0 ∨ e > most)) : mallocR most st en bl n e = ⟨0, false, st, en, bl⟩ := by
  unfold mallocR
  split
  · rfl
  split
  · rfl
  split
  · split
    · rfl
    split
    · rfl
    split
    · rfl
    omega
  · rcases h with h | h | ⟨rfl, _⟩
    · omega
    · omega
    · simp_all
end
theorem first_ok {most e n : Int} (hm : most ≤ 4294967295) (h0 : 0 < n) (h1 : 0 < e) (h2 : e % 256 = 0) (h3 : e + n ≤ most - most % 256) : mallocR most 0 0 [] n e = ⟨e, true, e, (e + n + 255) / 256 * 256, [(e, n)]⟩ := by
  rw [mallocR_new (by omega) (by omega) h2 (by omega), mallocA_top (show placeR n e [] = (e, 0) from rfl) (by omega) (by omega) hm]
  rfl
theorem first_no {most e n : Int} (hm : 0 ≤ most) (h0 : 0 ≤ n) (h1 : 0 ≤ e) (h : n = 0 ∨ e = 0 ∨ e % 256 ≠ 0 ∨ e > most ∨ e + n > most - most % 256) : mallocR most 0 0 [] n e = ⟨0, false, 0, 0, []⟩ := by
  by_cases h2 : n = 0 ∨ e = 0 ∨ e % 256 ≠ 0 ∨ e > most
  · exact mallocR_none (by rcases h2 with h | h; exact .inl h; exact .inr (.inr ⟨rfl, h⟩))
  · rw [mallocR_new (by omega) (by omega) (by omega) (by omega), mallocA_no (show placeR n e [] = (e, 0) from rfl) (by omega) (by omega)]
theorem more_no {most e n : Int} (hm : most ≤ 4294967295) (h0 : 0 < n) (h1 : 0 < e) (h2 : e % 256 = 0) (h3 : e + n ≤ most - most % 256) :
    mallocR most e ((e + n + 255) / 256 * 256) [(e, n)] (most - most % 256 - e - n + 1) 0 = ⟨0, false, e, (e + n + 255) / 256 * 256, [(e, n)]⟩ := by
  have hp : placeR (most - most % 256 - e - n + 1) e [(e, n)] = (e + n, 0 + 1) := if_neg (by dsimp only; omega)
  rw [mallocR_on (by omega) (by simp) (by simp), mallocA_no hp (by omega) (by omega)]
theorem left_ok {most e n : Int} (hm : most ≤ 4294967295) (h0 : 0 < n) (h1 : 0 < e) (h2 : e % 256 = 0) (h3 : e + n < most - most % 256) :
    mallocR most e ((e + n + 255) / 256 * 256) [(e, n)] (most - most % 256 - e - n) 0 = ⟨e + n, true, e, most - most % 256, [(e, n), (e + n, most - most % 256 - e - n)]⟩ := by
  have hp : placeR (most - most % 256 - e - n) e [(e, n)] = (e + n, 0 + 1) := if_neg (by dsimp only; omega)
  have e1 : e + n + (most - most % 256 - e - n) = most - most % 256 := by omega
  rw [mallocR_on (by omega) (by simp) (by simp)]
  by_cases h5 : most - most % 256 > (e + n + 255) / 256 * 256
  · have e2 : (most - most % 256 + 255) / 256 * 256 = most - most % 256 := by omega
    rw [mallocA_top hp (by omega) (by rw [e1]; omega) hm, e1, e2]
    rfl
  · have e2 : (e + n + 255) / 256 * 256 = most - most % 256 := by omega
    rw [mallocA_in hp (by omega), e2]
    rfl
theorem left_no {most e n st en : Int} {bl : List (Int × Int)} : mallocR most st en bl 0 e = ⟨0, false, st, en, bl⟩ := by
  rw [mallocR, if_pos rfl]

theorem rightL_low {en : Int} : ∀ {xs : List (Int × Int)} {p q : Int}, q ≤ p → rightL en p xs = true → rightL en q xs = true
  | [], p, q, h, k => by simp only [rightL, decide_eq_true_eq] at *; omega
  | b :: bl, p, q, h, k => by
    simp only [rightL] at *
    split at k
    · cases k
    · rw [if_neg (by omega)]; exact k
theorem rightL_le {en : Int} : ∀ {xs : List (Int × Int)} {p : Int}, BlkOK xs → rightL en p xs = true → p ≤ en
  | [], p, _, k => by simpa only [rightL, decide_eq_true_eq] using k
  | b :: bl, p, hB, k => by
    obtain ⟨⟨a1, a2⟩, ⟨a3, a4⟩⟩ := hB b (by simp)
    simp only [rightL] at k
    split at k
    · cases k
    · have := rightL_le (fun x hx => hB x (by simp [hx])) k; omega
theorem rightL_at {en p : Int} {xs : List (Int × Int)} {i : Nat} (hB : BlkOK xs) (hi : i < xs.length) (h : rightL en p (xs.drop i) = true) :
    (xs.getD i default).2 ≠ 0 ∧ p ≤ (xs.getD i default).1 ∧ (xs.getD i default).1 + (xs.getD i default).2 ≤ en ∧ rightL en ((xs.getD i default).1 + (xs.getD i default).2) (xs.drop (i + 1)) = true := by
  rw [rightL_drop hi] at h
  split at h
  · cases h
  · have := rightL_le (fun x hx => hB x (List.mem_of_mem_drop hx)) h
    exact ⟨by omega, by omega, by omega, h⟩
theorem placeR_in {en n : Int} : ∀ {xs : List (Int × Int)} {p : Int}, BlkOK xs → rightL en p xs = true → p ≤ (placeR n p xs).1 ∧ (placeR n p xs).1 ≤ en
  | [], p, _, k => by simp only [rightL, decide_eq_true_eq] at k; simp [placeR]; omega
  | b :: bl, p, hB, k => by
    obtain ⟨⟨a1, a2⟩, ⟨a3, a4⟩⟩ := hB b (by simp)
    have hle := rightL_le hB k
    simp only [rightL] at k
    split at k
    · cases k
    · have := placeR_in (n := n) (fun x hx => hB x (by simp [hx])) k
      rw [placeR]
      split
      · simp; omega
      · simp only; omega
theorem rightR_on {most st en : Int} {xs : List (Int × Int)} (hx : (xs.length : Int) ≠ 0) (h : rightR most st en xs = true) : 0 ≠ st ∧ st % 256 = 0 ∧ en % 256 = 0 ∧ en ≤ most ∧ rightL en st xs = true := by
  unfold rightR at h
  rw [if_neg hx] at h
  split at h
  · cases h
  · exact ⟨by omega, by omega, by omega, by omega, h⟩
def FInv (n p f : Int) (l : List (Int × Int)) : Prop := ((placeR n f l).1 = p ∧ rightL 65536 f l = true) ∨ (f = p ∧ rightL 65536 (p + n) l = true)
structure HOK (most st en : Int) (bl : List (Int × Int)) : Prop where
  blk : BlkOK bl
  len : bl.length ≤ 4096
  ust : U32 st
  uen : U32 en
  emp : bl = [] → st = 0 ∧ en = 0
  on : bl ≠ [] → st ≠ 0 ∧ st % 256 = 0 ∧ en % 256 = 0 ∧ en ≤ most ∧ rightL en st bl = true
theorem hok_new (most : Int) : HOK most 0 0 [] := ⟨fun x h => (by cases h), by simp, by decide, by decide, fun _ => ⟨rfl, rfl⟩, fun h => absurd rfl h⟩
theorem rightL_top {en en' : Int} (he : en ≤ en') : ∀ {bl : List (Int × Int)} {p : Int}, rightL en p bl = true → rightL en' p bl = true
  | [], p, h => by simp only [rightL, decide_eq_true_eq] at *; omega
  | b :: bl, p, h => by
    simp only [rightL] at *
    split at h
    · cases h
    · rw [if_neg (by assumption)]; exact rightL_top he h
theorem rightL_ins {en en' n : Int} (hn : 0 < n) (he : en ≤ en') : ∀ {bl : List (Int × Int)} {p : Int}, BlkOK bl → rightL en p bl = true → (placeR n p bl).1 + n ≤ en' → rightL en' p (ins bl (placeR n p bl).2 ((placeR n p bl).1, n)) = true ∧ 0 ≤ (placeR n p bl).2
  | [], p, _, h, h1 => by
    simp only [placeR] at *
    refine ⟨?_, by omega⟩
    simp only [ins, List.take_nil, List.drop_nil, List.nil_append, rightL]
    rw [if_neg (by (first | omega | (dsimp only; omega) | (simp only; omega)))]
    simpa using h1
  | b :: bl, p, hB, h, h1 => by
    obtain ⟨⟨a1, a2⟩, ⟨a3, a4⟩⟩ := hB b (by simp)
    rw [placeR] at h1 ⊢
    split
    · rename_i hle
      rw [if_pos hle] at h1
      refine ⟨?_, by simp⟩
      have hi : ins (b :: bl) ((p, (0 : Int)) : Int × Int).2 (((p, (0 : Int)) : Int × Int).1, n) = (p, n) :: b :: bl := by simp [ins]
      rw [hi, rightL, if_neg (by (first | omega | (dsimp only; omega) | (simp only; omega)))]
      exact rightL_top he (by
        have := h
        simp only [rightL] at this ⊢
        split at this
        · cases this
        · rw [if_neg (by (first | omega | (dsimp only; omega) | (simp only; omega)))]; exact this)
    · rename_i hle
      rw [if_neg hle] at h1
      simp only at h1 ⊢
      simp only [rightL] at h
      split at h
      · cases h
      · rename_i hb
        obtain ⟨ih1, ih2⟩ := rightL_ins hn he (fun x hx => hB x (by simp [hx])) h h1
        refine ⟨?_, by omega⟩
        have e1 : ((placeR n (b.1 + b.2) bl).2 + 1).toNat = (placeR n (b.1 + b.2) bl).2.toNat + 1 := by omega
        have hi : ins (b :: bl) ((placeR n (b.1 + b.2) bl).2 + 1) ((placeR n (b.1 + b.2) bl).1, n) = b :: ins bl (placeR n (b.1 + b.2) bl).2 ((placeR n (b.1 + b.2) bl).1, n) := by
          simp [ins, e1]
        rw [hi, rightL, if_neg hb]
        exact ih1
theorem rightL_erase {en : Int} : ∀ {bl : List (Int × Int)} {p : Int} (i : Nat), BlkOK bl → rightL en p bl = true → rightL en p (bl.eraseIdx i) = true
  | [], p, i, _, h => by simpa using h
  | b :: bl, p, 0, hB, h => by
    obtain ⟨⟨a1, a2⟩, ⟨a3, a4⟩⟩ := hB b (by simp)
    simp only [rightL] at h
    split at h
    · cases h
    · simp only [List.eraseIdx_cons_zero]; exact rightL_low (by omega) h
  | b :: bl, p, i + 1, hB, h => by
    simp only [rightL] at h
    split at h
    · cases h
    · rename_i hb
      simp only [List.eraseIdx_cons_succ, rightL]
      rw [if_neg hb]
      exact rightL_erase i (fun x hx => hB x (by simp [hx])) h
theorem blk_ins {bl : List (Int × Int)} (hB : BlkOK bl) {i : Int} {x : Int × Int} (hx : U32 x.1 ∧ U32 x.2) : BlkOK (ins bl i x) := fun y hy => by
  unfold ins at hy
  rcases List.mem_append.1 hy with h | h
  · exact hB y (List.mem_of_mem_take h)
  · rcases List.mem_cons.1 h with rfl | h
    · exact hx
    · exact hB y (List.mem_of_mem_drop h)
theorem ins_ne (bl : List (Int × Int)) (i : Int) (x : Int × Int) : ins bl i x ≠ [] := by unfold ins; simp

theorem hok_mallocA {most st0 en0 st en n : Int} {bl : List (Int × Int)} (h0 : HOK most st0 en0 bl) (hB : BlkOK bl) (hn : 0 < n) (hl : bl.length < 4096) (hm : U32 most) (hu : n ≤ 4294967295) (hst : st ≠ 0 ∧ st % 256 = 0 ∧ en % 256 = 0 ∧ en ≤ most ∧ rightL en st bl = true) (us : U32 st) :
    HOK most (mallocA most st0 en0 st en bl n).st (mallocA most st0 en0 st en bl n).en (mallocA most st0 en0 st en bl n).bl := by
  obtain ⟨m0, m1⟩ := hm
  obtain ⟨q1, q2, q3, q4, q5⟩ := hst
  obtain ⟨s0, s1⟩ := us
  have hp := placeR_in (n := n) hB q5
  have hbd := placeR_bound n bl st hB s0 (by omega)
  generalize hpe : placeR n st bl = pi at hp hbd
  obtain ⟨p, i⟩ := pi
  have hlen : (ins bl i (p, n)).length ≤ 4096 := by rw [ins_length bl i (p, n) (by simp only at hbd; omega) (by simp only at hbd; omega)]; omega
  simp only at hp hbd
  have key : ∀ en', en ≤ en' → p + n ≤ en' → en' % 256 = 0 → en' ≤ most → HOK most st en' (ins bl i (p, n)) := fun en' g1 g2 g3 g4 => by
    have := rightL_ins (en' := en') hn g1 hB q5 (by rw [hpe]; exact g2)
    rw [hpe] at this
    exact ⟨blk_ins hB ⟨⟨by (first | omega | (dsimp only; omega) | (simp only; omega)), by (first | omega | (dsimp only; omega) | (simp only; omega))⟩, ⟨by (first | omega | (dsimp only; omega) | (simp only; omega)), by (first | omega | (dsimp only; omega) | (simp only; omega))⟩⟩, hlen, ⟨s0, s1⟩, ⟨by omega, by omega⟩, fun h => absurd h (ins_ne _ _ _), fun _ => ⟨q1, q2, g3, g4, this.1⟩⟩
  by_cases h1 : p + n ≤ en
  · rw [mallocA_in hpe h1]; exact key en (by omega) h1 q3 q4
  · by_cases h2 : (p + n + 255) / 256 * 256 ≤ most
    · rw [mallocA_top hpe (by omega) h2 m1]; exact key ((p + n + 255) / 256 * 256) (by omega) (by omega) (by omega) h2
    · rw [mallocA_no hpe (by omega) (by omega)]; exact h0
theorem hok_malloc {most st en n e : Int} {bl : List (Int × Int)} (h0 : HOK most st en bl) (hm : U32 most) (hn : U32 n) (he : U32 e) :
    HOK most (mallocR most st en bl n e).st (mallocR most st en bl n e).en (mallocR most st en bl n e).bl := by
  obtain ⟨n0, n1⟩ := hn
  by_cases h1 : n = 0 ∨ bl.length = 4096 ∨ bl = [] ∧ (e = 0 ∨ e % 256 ≠ 0 ∨ e > most)
  · rw [mallocR_none h1]; exact h0
  · have hl := h0.len
    by_cases h2 : bl = []
    · subst h2
      have h3 : ¬ (e = 0 ∨ e % 256 ≠ 0 ∨ e > most) := fun h => h1 (.inr (.inr ⟨rfl, h⟩))
      rw [mallocR_new (by omega) (by omega) (by omega) (by omega)]
      exact hok_mallocA h0 h0.blk (by omega) (by simp) hm n1 ⟨by omega, by omega, by omega, by omega, by simp [rightL]⟩ he
    · have h3 : n ≠ 0 := fun h => h1 (.inl h)
      have h4 : bl.length ≠ 4096 := fun h => h1 (.inr (.inl h))
      rw [mallocR_on h3 h2 h4]
      exact hok_mallocA h0 h0.blk (by omega) (by omega) hm n1 (h0.on h2) h0.ust
theorem hok_free {most st en ad : Int} {bl : List (Int × Int)} (h0 : HOK most st en bl) : HOK most (freeR st en bl ad).st (freeR st en bl ad).en (freeR st en bl ad).bl := by
  have hB : BlkOK (bl.eraseIdx (idxR ad bl).toNat) := fun x hx => h0.blk x (List.mem_of_mem_eraseIdx hx)
  have hl : (bl.eraseIdx (idxR ad bl).toNat).length ≤ 4096 := Nat.le_trans (List.length_eraseIdx_le _ _) h0.len
  unfold freeR
  split
  · exact h0
  · split
    · rename_i h
      have : bl.eraseIdx (idxR ad bl).toNat = [] := List.eq_nil_of_length_eq_zero h
      exact ⟨hB, hl, (by decide : U32 0), (by decide : U32 0), fun _ => ⟨rfl, rfl⟩, fun h => absurd this h⟩
    · rename_i h1 h
      have hne : bl ≠ [] := fun e => by subst e; exact h (by simp)
      obtain ⟨q1, q2, q3, q4, q5⟩ := h0.on hne
      exact ⟨hB, hl, h0.ust, h0.uen, fun e => absurd (by simp only at e; rw [e]; rfl) h, fun _ => ⟨q1, q2, q3, q4, rightL_erase _ h0.blk q5⟩⟩
theorem hok_load {most st0 en0 st en : Int} {bl0 xs : List (Int × Int)} (h0 : HOK most st0 en0 bl0) (hB : BlkOK xs) (hs : U32 st) (he : U32 en) : HOK most (loadR most st0 en0 bl0 st en xs).st (loadR most st0 en0 bl0 st en xs).en (loadR most st0 en0 bl0 st en xs).bl := by
  unfold loadR
  split
  · exact h0
  · split
    · exact h0
    · rename_i h1 h2
      have h2 : rightR most st en xs = true := by cases h : rightR most st en xs <;> simp_all
      refine ⟨hB, by (first | omega | (dsimp only; omega) | (simp only; omega)), hs, he, fun e => ?_, fun e => ?_⟩
      · simp only at e; subst e
        simpa [rightR] using h2
      · have := rightR_on (fun h => e (List.eq_nil_of_length_eq_zero (by dsimp only; omega))) h2
        exact ⟨fun h => this.1 h.symm, this.2.1, this.2.2.1, this.2.2.2.1, this.2.2.2.2⟩
end Go.Proofs.YtocfmecenpeoiaaGreat
