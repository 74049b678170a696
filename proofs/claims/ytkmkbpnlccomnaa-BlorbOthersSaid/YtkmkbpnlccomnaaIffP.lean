/- Strings as numbers; what is wrong with a form's first bytes, with a chunk; which chunks bytes are. No statement of the seat is proved in this text. -/
import Derived.Test.YtkmkbpnlccomnaaIffB
set_option linter.unusedVariables false
set_option linter.unusedSimpArgs false
set_option maxRecDepth 100000
set_option maxHeartbeats 4000000
namespace Go.Proofs.Ytkmkbpnlccomnaa
open GAb Go

theorem ltr_str {xs : List Int} (h : Bytes xs) : ltr (strOfNums xs) = xs := by
  show ((xs.map fun n => UInt8.ofNat n.toNat).toArray.toList).map (fun b : UInt8 => (b.toNat : Int)) = xs
  rw [List.toList_toArray, List.map_map]
  refine List.ext_getElem (by simp) fun i h1 h2 => ?_
  have hb := h i h2
  simp only [List.getD, List.getElem?_eq_getElem h2, Option.getD_some] at hb
  simp only [List.getElem_map, Function.comp]
  rw [UInt8.toNat_ofNat']
  omega
theorem str_size (xs : List Int) : (strOfNums xs).size = xs.length := by
  show (List.toArray _).size = _
  simp
theorem str_ltr (s : ByteArray) : strOfNums (ltr s) = s := by
  unfold strOfNums
  obtain ⟨⟨l⟩⟩ := s
  congr 1
  simp only [ltr, List.map_map]
  congr 1
  rw [List.map_congr_left (g := id) (fun b hb => by simp)]
  simp
theorem ltr_inj {s t : ByteArray} (h : ltr s = ltr t) : s = t := by rw [← str_ltr s, ← str_ltr t, h]
theorem ltr_bytes (s : ByteArray) : Bytes (ltr s) := fun i _ => ltr_bd s i
theorem Bytes.take {bs : List Int} (h : Bytes bs) (k : Nat) : Bytes (bs.take k) := fun i hi => by
  have := h.at i
  rw [List.length_take] at hi
  have e : (bs.take k).getD i 0 = bs.getD i 0 := by simp [List.getD, List.getElem?_take, show i < k by omega]
  rw [e]; exact this
/-- Likeness of strings, as the program tells it. -/
theorem sbeq_iff {s t : ByteArray} : (s.toList == t.toList) = true ↔ ltr s = ltr t := by
  rw [ByteArray.toList_eq, ByteArray.toList_eq, beq_iff_eq]
  exact ⟨fun h => by unfold ltr; rw [h], fun h => by rw [ltr_inj h]⟩
theorem sbeq_str {xs ys : List Int} (hx : Bytes xs) (hy : Bytes ys) : ((strOfNums xs).toList == (strOfNums ys).toList) = true ↔ xs = ys := by
  rw [sbeq_iff, ltr_str hx, ltr_str hy]

theorem beR_ok {bs : List Int} {p : Int} (h : 0 ≤ p ∧ p + 4 ≤ bs.length) : beR bs p 4 = (be bs p.toNat 4, 0) := by
  unfold beR; rw [if_neg (by omega), if_neg (by omega)]; rfl
/-- Some bytes of a row. -/
abbrev cutB (bs : List Int) (p n : Nat) : List Int := (bs.drop p).take n
def headR (bs : List Int) : Int × Int :=
  if (bs.length : Int) > 4194304 then (3, 0)
  else if bs.take (min bs.length 4) ≠ [70, 79, 82, 77].take (min bs.length 4) then (50, 0)
  else if (bs.length : Int) < 12 then (2, bs.length)
  else if be bs 4 4 ≠ bs.length - 8 then (51, 4)
  else if idR (cutB bs 8 4) = false then (50, 8)
  else (0, 0)
def chunkE (bs : List Int) (p : Int) : Int × Int :=
  if (bs.length : Int) - p < 8 then (2, bs.length)
  else if idR (cutB bs p.toNat 4) = false then (50, p)
  else if be bs (p + 4).toNat 4 > bs.length - p - 8 then (51, p + 4)
  else if be bs (p + 4).toNat 4 % 2 = 1 ∧ p + 8 + be bs (p + 4).toNat 4 = bs.length then (2, bs.length)
  else if be bs (p + 4).toNat 4 % 2 = 1 ∧ bs.getD (p + 8 + be bs (p + 4).toNat 4).toNat 0 ≠ 0 then (52, p + 8 + be bs (p + 4).toNat 4)
  else (0, 0)
/-- A chunk's letters and data. -/
def chunkI (bs : List Int) (p : Int) : List Int × List Int := (cutB bs p.toNat 4, cutB bs (p + 8).toNat (be bs (p + 4).toNat 4).toNat)
def stepP (bs : List Int) (p : Int) : Int := p + (8 + be bs (p + 4).toNat 4 + be bs (p + 4).toNat 4 % 2)
def goK (bs : List Int) : Nat → Int → List (List Int × List Int) → Int × Int × List (List Int × List Int)
  | 0, _, acc => (0, bs.length, acc)
  | k + 1, p, acc =>
    if p < bs.length then
      if acc.length = 1024 then (4, p, [])
      else if (chunkE bs p).1 ≠ 0 then ((chunkE bs p).1, (chunkE bs p).2, [])
      else goK bs k (stepP bs p) (acc ++ [chunkI bs p])
    else (0, bs.length, acc)
theorem goK_eq {bs : List Int} {k : Nat} {p : Int} {acc : List (List Int × List Int)} (hk : 0 < k) : goK bs k p acc = if p < bs.length then if acc.length = 1024 then (4, p, []) else if (chunkE bs p).1 ≠ 0 then ((chunkE bs p).1, (chunkE bs p).2, []) else goK bs (k - 1) (stepP bs p) (acc ++ [chunkI bs p]) else (0, bs.length, acc) := by
  obtain ⟨j, rfl⟩ : ∃ j, k = j + 1 := ⟨k - 1, by omega⟩
  rfl
/-- A form's fault, its place, its letters, its chunks. -/
def parseR (bs : List Int) : Int × Int × List Int × List (List Int × List Int) :=
  if (headR bs).1 ≠ 0 then ((headR bs).1, (headR bs).2, [], [])
  else if (goK bs bs.length 12 []).1 ≠ 0 then ((goK bs bs.length 12 []).1, (goK bs bs.length 12 []).2.1, [], [])
  else (0, bs.length, cutB bs 8 4, (goK bs bs.length 12 []).2.2)
theorem head_ok {bs : List Int} (h : (headR bs).1 = 0) : 12 ≤ bs.length ∧ bs.take 4 = [70, 79, 82, 77] ∧ be bs 4 4 = bs.length - 8 ∧ idR (cutB bs 8 4) = true := by
  unfold headR at h
  split at h
  · cases h
  split at h
  · cases h
  split at h
  · cases h
  split at h
  · cases h
  split at h
  · cases h
  rename_i h1 h2 h3 h4 h5
  have e : min bs.length 4 = 4 := by omega
  rw [e] at h2
  exact ⟨by omega, by simpa using h2, by omega, by simpa using h5⟩
theorem parse_go {bs : List Int} (h : (headR bs).1 = 0) {e at_ : Int} {acc : List (List Int × List Int)} (hg : goK bs bs.length 12 [] = (e, at_, acc)) : parseR bs = if e ≠ 0 then (e, at_, [], []) else (0, bs.length, cutB bs 8 4, acc) := by
  unfold parseR; rw [if_neg (not_not_intro h), hg]
/-- A chunk that is read lies within the bytes. -/
theorem chunkE_ok {bs : List Int} {p : Int} (h : (chunkE bs p).1 = 0) : 8 ≤ bs.length - p ∧ idR (cutB bs p.toNat 4) = true ∧ be bs (p + 4).toNat 4 ≤ bs.length - p - 8 ∧ ¬ (be bs (p + 4).toNat 4 % 2 = 1 ∧ p + 8 + be bs (p + 4).toNat 4 = bs.length) ∧ ¬ (be bs (p + 4).toNat 4 % 2 = 1 ∧ bs.getD (p + 8 + be bs (p + 4).toNat 4).toNat 0 ≠ 0) := by
  unfold chunkE at h
  split at h
  · cases h
  split at h
  · cases h
  split at h
  · cases h
  split at h
  · cases h
  split at h
  · cases h
  rename_i h1 h2 h3 h4 h5
  exact ⟨by omega, by simpa using h2, by omega, h4, h5⟩
theorem stepP_bd {bs : List Int} (hB : Bytes bs) {p : Int} (h : (chunkE bs p).1 = 0) : p + 8 ≤ stepP bs p ∧ stepP bs p ≤ bs.length := by
  obtain ⟨h1, h2, h3, h4, h5⟩ := chunkE_ok h
  have hb := be_lt4 hB (p + 4).toNat (k := 4) (by omega)
  unfold stepP
  omega
theorem chunkI_len {bs : List Int} (hB : Bytes bs) {p : Int} (hp : 0 ≤ p) (h : (chunkE bs p).1 = 0) : (chunkI bs p).1.length = 4 ∧ ((chunkI bs p).2.length : Int) = be bs (p + 4).toNat 4 := by
  obtain ⟨h1, h2, h3, h4, h5⟩ := chunkE_ok h
  have hb := be_lt4 hB (p + 4).toNat (k := 4) (by omega)
  unfold chunkI cutB
  simp only [List.length_take, List.length_drop]
  omega
theorem chunkI_bytes {bs : List Int} (hB : Bytes bs) (p : Int) : Bytes (chunkI bs p).1 ∧ Bytes (chunkI bs p).2 := ⟨(hB.drop _).take _, (hB.drop _).take _⟩

end Go.Proofs.Ytkmkbpnlccomnaa
