/- Words that are rolled, in plain terms. No statement of the seat is proved in this text. -/
import Derived.Test.YthbooolgpfhcmaaStI
set_option linter.unusedVariables false
set_option linter.unusedSimpArgs false
set_option maxRecDepth 100000
set_option maxHeartbeats 4000000
namespace Go.Proofs.Ythbooolgpfhcmaa
open GAb Go

theorem putsR_drop (vs : List Int) (k : Nat) : (putsR vs).drop (4 * k) = putsR (vs.drop k) := by
  by_cases hk : k ≤ vs.length
  · have h := putsR_app (vs.take k) (vs.drop k)
    rw [List.take_append_drop] at h
    have hl : (putsR (vs.take k)).length = 4 * k := by rw [putsR_len, List.length_take]; omega
    rw [h, ← hl, List.drop_left]
  · rw [List.drop_eq_nil_of_le (by rw [putsR_len]; omega), List.drop_eq_nil_of_le (by omega)]; rfl
theorem putsR_take4 (vs : List Int) (k : Nat) : (putsR vs).take (4 * k) = putsR (vs.take k) := by
  by_cases hk : k ≤ vs.length
  · have h := putsR_app (vs.take k) (vs.drop k)
    rw [List.take_append_drop] at h
    have hl : (putsR (vs.take k)).length = 4 * k := by rw [putsR_len, List.length_take]; omega
    rw [h, ← hl, List.take_left]
  · rw [List.take_of_length_le (by rw [putsR_len]; omega), List.take_of_length_le (by omega)]
def rollW (vs : List Int) (n b : Nat) : List Int := vs.take (vs.length - n) ++ (vs.drop (vs.length - b) ++ (vs.drop (vs.length - n)).take (n - b))
theorem rollW_len {vs : List Int} {n b : Nat} (h : b ≤ n ∧ n ≤ vs.length) : (rollW vs n b).length = vs.length := by
  simp only [rollW, List.length_append, List.length_take, List.length_drop]; omega
theorem rollB_words {vs : List Int} {n b : Int} (h : 0 ≤ b ∧ b ≤ n ∧ n ≤ vs.length) : rollB (fr0 ++ putsR vs) (24 + 4 * vs.length) n b = fr0 ++ putsR (rollW vs n.toNat b.toNat) := by
  obtain ⟨h0, h1, h2⟩ := h
  have hf : fr0.length = 24 := rfl
  have d : ∀ j : Nat, (fr0 ++ putsR vs).drop (24 + 4 * j) = putsR (vs.drop j) := fun j => by
    rw [← List.drop_drop, show 24 = fr0.length from rfl, List.drop_left, putsR_drop]
  have tk : ∀ j : Nat, (fr0 ++ putsR vs).take (24 + 4 * j) = fr0 ++ putsR (vs.take j) := fun j => by
    rw [List.take_append, List.take_of_length_le (by rw [hf]; omega), hf, show 24 + 4 * j - 24 = 4 * j by omega, putsR_take4]
  unfold rollB rollW
  rw [show (((24 + 4 * vs.length : Nat) : Int) - 4 * n).toNat = 24 + 4 * (vs.length - n.toNat) by omega,
    show (((24 + 4 * vs.length : Nat) : Int) - 4 * b).toNat = 24 + 4 * (vs.length - b.toNat) by omega,
    show (4 * n - 4 * b).toNat = 4 * (n.toNat - b.toNat) by omega, d, d, tk, putsR_take4, putsR_app, putsR_app, List.append_assoc]
theorem at4_fr0a (X : List Int) : at4 (fr0 ++ X) 0 = 24 := by
  unfold at4 beR
  rw [if_neg (by omega), if_neg (by simp only [List.length_append, List.length_cons]; omega)]
  rfl
theorem countR_words (vs : List Int) : countR true (fr0 ++ putsR vs) ((24 + 4 * vs.length : Nat) : Int) 0 = vs.length := by
  unfold countR
  rw [if_neg (by decide), at4_fr0a]; omega
theorem holdsE_words (vs : List Int) (k : Int) : holdsE true (fr0 ++ putsR vs) (24 + 4 * vs.length) 0 k = if (vs.length : Int) < k then 101 else 0 := by
  unfold holdsE
  rw [if_neg (by decide), countR_words]
def rollV (vs : List Int) (n k : Int) : List Int := if n ≤ vs.length ∧ n ≠ 0 then rollW vs n.toNat (rollN n k).toNat else vs
theorem rollA_words {vs : List Int} {n k : Int} (h : 0 ≤ n) : rollA true (fr0 ++ putsR vs) (24 + 4 * vs.length) 0 n k = fr0 ++ putsR (rollV vs n k) := by
  unfold rollA rollV
  rw [holdsE_words]
  by_cases h1 : n ≤ vs.length ∧ n ≠ 0
  · have hb := rollN_bd (cnt := n) (k := k) (by omega)
    rw [if_pos h1, if_pos ⟨if_neg (by omega), h1.2⟩, rollB_words ⟨hb.1, by omega, h1.1⟩]
  · rw [if_neg h1, if_neg]
    rintro ⟨h2, h3⟩
    split at h2
    · cases h2
    · exact h1 ⟨by omega, h3⟩
theorem rollV_len {vs : List Int} {n k : Int} (h : 0 ≤ n) : (rollV vs n k).length = vs.length := by
  unfold rollV
  split
  · rename_i h1
    have hb := rollN_bd (cnt := n) (k := k) (by omega)
    exact rollW_len ⟨by omega, by omega⟩
  · rfl
theorem rollW_zero {vs : List Int} {n : Nat} (h : n ≤ vs.length) : rollW vs n 0 = vs := by
  unfold rollW
  have e : (vs.drop (vs.length - n)).take n = vs.drop (vs.length - n) := List.take_of_length_le (by rw [List.length_drop]; omega)
  rw [Nat.sub_zero, List.drop_length, List.nil_append, Nat.sub_zero, e, List.take_append_drop]
theorem rollW_parts {P A B : List Int} : rollW (P ++ (A ++ B)) (A.length + B.length) B.length = P ++ (B ++ A) := by
  unfold rollW
  have e1 : (P ++ (A ++ B)).length - (A.length + B.length) = P.length := by simp only [List.length_append]; omega
  have e2 : (P ++ (A ++ B)).length - B.length = P.length + A.length := by simp only [List.length_append]; omega
  rw [e1, e2, List.take_left, List.drop_left, show A.length + B.length - B.length = A.length by omega, List.take_left, ← List.append_assoc P A B, show P.length + A.length = (P ++ A).length by simp, List.drop_left]
theorem rollW_split {vs : List Int} {n b : Nat} (h : b ≤ n ∧ n ≤ vs.length) : ∃ P A B : List Int, vs = P ++ (A ++ B) ∧ A.length = n - b ∧ B.length = b ∧ rollW vs n b = P ++ (B ++ A) := by
  obtain ⟨h1, h2⟩ := h
  refine ⟨vs.take (vs.length - n), (vs.drop (vs.length - n)).take (n - b), (vs.drop (vs.length - n)).drop (n - b), ?_, ?_, ?_, ?_⟩
  · rw [List.take_append_drop, List.take_append_drop]
  · rw [List.length_take, List.length_drop]; omega
  · rw [List.length_drop, List.length_drop]; omega
  · unfold rollW
    rw [List.drop_drop, show vs.length - n + (n - b) = vs.length - b by omega]
theorem rollW_back {vs : List Int} {n b : Nat} (h : b ≤ n ∧ n ≤ vs.length) : rollW (rollW vs n b) n (n - b) = vs := by
  obtain ⟨P, A, B, h1, h2, h3, h4⟩ := rollW_split h
  rw [h4, h1]
  have := rollW_parts (P := P) (A := B) (B := A)
  rw [show B.length + A.length = n by omega, h2] at this
  exact this
theorem rollW_last {vs : List Int} {n b : Nat} (h : b < n ∧ n ≤ vs.length) : (rollW vs n b).getD (vs.length - 1) 0 = vs.getD (vs.length - 1 - b) 0 := by
  obtain ⟨P, A, B, h1, h2, h3, h4⟩ := rollW_split (b := b) ⟨by omega, h.2⟩
  rw [h4, h1]
  have e : (P ++ (A ++ B)).length = P.length + n := by simp only [List.length_append]; omega
  rw [e]
  simp only [List.getD]
  rw [List.getElem?_append_right (by omega), List.getElem?_append_right (by omega), List.getElem?_append_right (by omega), List.getElem?_append_left (by omega)]
  congr 2
  omega
/-- The integer of the word less. -/
def ngW (k : Int) : Int := (-k) % 4294967296
theorem si_ng {k : Int} (h : U32 k) (hk : k ≠ 2147483648) : si (ngW k) = -si k := by
  obtain ⟨h1, h2⟩ := h
  unfold ngW si
  by_cases h0 : k = 0
  · subst h0; rfl
  · rw [show (-k) % 4294967296 = 4294967296 - k by omega]
    split <;> split <;> omega
theorem rollN_ng {n k : Int} (hn : 0 < n) (h : U32 k) (hk : k ≠ 2147483648) : rollN n (ngW k) = if rollN n k = 0 then 0 else n - rollN n k := by
  unfold rollN
  rw [si_ng h hk, Int.neg_tmod]
  have h1 := Int.tmod_lt_of_pos (si k) hn
  have h2 := Int.lt_tmod_of_pos (si k) hn
  split <;> split <;> split <;> omega
theorem rollV_back {vs : List Int} {n k : Int} (hn : 0 ≤ n) (h : U32 k) (hk : k ≠ 2147483648) : rollV (rollV vs n k) n (ngW k) = vs := by
  have hl := rollV_len (vs := vs) (k := k) hn
  by_cases h1 : n ≤ vs.length ∧ n ≠ 0
  · have hb := rollN_bd (cnt := n) (k := k) (by omega)
    have e1 : rollV vs n k = rollW vs n.toNat (rollN n k).toNat := if_pos h1
    have e2 : rollV (rollV vs n k) n (ngW k) = rollW (rollV vs n k) n.toNat (rollN n (ngW k)).toNat := if_pos ⟨by omega, h1.2⟩
    rw [e2, e1, rollN_ng (by omega) h hk]
    by_cases h0 : rollN n k = 0
    · rw [if_pos h0, h0]
      show rollW (rollW vs n.toNat 0) n.toNat 0 = vs
      have e := rollW_zero (vs := vs) (n := n.toNat) (by omega)
      rw [e, e]
    · rw [if_neg h0, show (n - rollN n k).toNat = n.toNat - (rollN n k).toNat by omega]
      exact rollW_back ⟨by omega, by omega⟩
  · have e1 : rollV vs n k = vs := if_neg h1
    rw [e1]
    exact if_neg h1
theorem rollV_self {vs : List Int} {n : Int} (hn : 0 ≤ n ∧ n ≤ 2147483647) : rollV vs n n = vs := by
  by_cases h1 : n ≤ vs.length ∧ n ≠ 0
  · have e1 : rollV vs n n = rollW vs n.toNat (rollN n n).toNat := if_pos h1
    have e2 : rollN n n = 0 := by
      unfold rollN
      rw [show si n = n from if_neg (by omega), Int.tmod_self]; rfl
    rw [e1, e2]
    exact rollW_zero (by omega)
  · exact if_neg h1
theorem rollN_law {n k : Int} (hn : 0 < n) : ((si k).tmod n + n).tmod n = rollN n k := by
  have h1 := Int.tmod_lt_of_pos (si k) hn
  have h2 := Int.lt_tmod_of_pos (si k) hn
  rw [Int.tmod_eq_emod_of_nonneg (by omega)]
  unfold rollN
  split
  · exact Int.emod_eq_of_lt (by omega) (by omega)
  · rw [Int.add_emod_right]; exact Int.emod_eq_of_lt (by omega) (by omega)
/-- The word on top. -/
theorem at4_top {vs : List Int} (hU : Words vs) {i : Nat} (hi : i < vs.length) : at4 (fr0 ++ putsR vs) (((24 + 4 * i : Nat)) : Int) = vs.getD i 0 := by
  obtain ⟨u1, u2⟩ := hU i hi
  have e : putsR vs = putsR (vs.take i) ++ (putR (vs.getD i 0) 4 ++ putsR (vs.drop (i + 1))) := by
    have h := putsR_app (vs.take (i + 1)) (vs.drop (i + 1))
    rw [List.take_append_drop, putsR_take hi, List.append_assoc] at h
    exact h
  have hl : (fr0 ++ putsR (vs.take i)).length = 24 + 4 * i := by
    rw [List.length_append, putsR_len, List.length_take, show fr0.length = 24 from rfl]; omega
  have hl2 : (fr0 ++ putsR vs).length = 24 + 4 * vs.length := by rw [List.length_append, putsR_len]; rfl
  have hb := be_put (fr0 ++ putsR (vs.take i)) (putsR (vs.drop (i + 1))) (vs.getD i 0) 4 (by omega)
  rw [hl, List.append_assoc, ← e] at hb
  unfold at4 beR
  rw [if_neg (by omega), if_neg (by rw [hl2]; omega)]
  show be (fr0 ++ putsR vs) (((24 + 4 * i : Nat)) : Int).toNat 4 = _
  rw [Int.toNat_natCast]
  exact hb.trans (Int.emod_eq_of_lt u1 (by show vs.getD i 0 < 4294967296; omega))
theorem words_at {vs : List Int} : Words vs ↔ ∀ x ∈ vs, U32 x := by
  constructor
  · intro h x hx
    obtain ⟨i, hi, rfl⟩ := List.mem_iff_getElem.1 hx
    have := h i hi
    simpa [List.getD, hi] using this
  · intro h i hi
    simpa [List.getD, hi] using h _ (List.getElem_mem hi)
theorem rollV_words {vs : List Int} {n k : Int} (hU : Words vs) : Words (rollV vs n k) := by
  rw [words_at] at hU ⊢
  intro x hx
  unfold rollV at hx
  split at hx
  · unfold rollW at hx
    rcases List.mem_append.1 hx with h | h
    · exact hU x (List.mem_of_mem_take h)
    · rcases List.mem_append.1 h with h | h
      · exact hU x (List.mem_of_mem_drop h)
      · exact hU x (List.mem_of_mem_drop (List.mem_of_mem_take h))
  · exact hU x hx

/-- A frame and words. -/
def stB (vs : List Int) : List Int := fr0 ++ putsR vs
theorem stB_nil : stB [] = fr0 := by unfold stB; simp [putsR]
theorem stB_len (vs : List Int) : (stB vs).length = 24 + 4 * vs.length := by unfold stB; rw [List.length_append, putsR_len]; rfl
theorem stB_bytes (vs : List Int) : Bytes (stB vs) := Bytes.app bytes_fr0 (putsR_bytes vs)
theorem stB_push (vs : List Int) (x : Int) : stB vs ++ putR x 4 = stB (vs ++ [x]) := by
  unfold stB; rw [putsR_app, List.append_assoc]; simp [putsR]
theorem stB_take {vs : List Int} {i : Nat} (h : i < vs.length) : stB (vs.take i) ++ putR (vs.getD i 0) 4 = stB (vs.take (i + 1)) := by
  unfold stB; rw [putsR_take h, List.append_assoc]
theorem stB_at0 (vs : List Int) : at4 (stB vs) 0 = 24 := at4_fr0a _
theorem stB_holds (vs : List Int) (k : Int) : holdsE true (stB vs) (24 + 4 * vs.length) 0 k = if (vs.length : Int) < k then 101 else 0 := holdsE_words vs k
theorem stB_roll {vs : List Int} {n k : Int} (h : 0 ≤ n) : rollA true (stB vs) (24 + 4 * vs.length) 0 n k = stB (rollV vs n k) := rollA_words h
theorem stB_top {vs : List Int} (hU : Words vs) {i : Nat} (hi : i < vs.length) : at4 (stB vs) (((24 + 4 * i : Nat)) : Int) = vs.getD i 0 := at4_top hU hi

end Go.Proofs.Ythbooolgpfhcmaa
