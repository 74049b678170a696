/- What a container holds, in plain numbers; where chunks begin. No statement of the seat is proved in this text. -/
import Derived.Test.YtkmkbpnlccomnaaBlB
import Derived.Test.YtkmkbpnlccomnaaAb34
set_option linter.unusedVariables false
set_option linter.unusedSimpArgs false
set_option maxRecDepth 100000
set_option maxHeartbeats 4000000
namespace Go.Proofs.Ytkmkbpnlccomnaa
open GAb Go

abbrev CL := List (List Int × List Int)
abbrev RL := List (List Int × Int × List Int × List Int)
def lenP : CL → Int
  | [] => 0
  | c :: l => 8 + c.2.length + (c.2.length : Int) % 2 + lenP l
theorem lenP_take {l : CL} {i : Nat} (h : i < l.length) : lenP (l.take (i + 1)) = lenP (l.take i) + (8 + ((l.getD i default).2.length : Int) + ((l.getD i default).2.length : Int) % 2) := by
  induction l generalizing i with
  | nil => cases h
  | cons t ts ih =>
    cases i with
    | zero => simp [lenP]
    | succ i =>
      simp only [List.take_succ_cons, lenP, List.getD_cons_succ]
      rw [ih (by simp at h; omega)]
      omega
theorem lenP_nn : ∀ l : CL, 0 ≤ lenP l
  | [] => by simp [lenP]
  | c :: l => by have := lenP_nn l; simp only [lenP]; omega
theorem lenP_le (l : CL) (i : Nat) : lenP (l.take i) ≤ lenP l := by
  induction l generalizing i with
  | nil => simp [lenP]
  | cons t ts ih =>
    cases i with
    | zero => have := lenP_nn (t :: ts); simpa [lenP] using this
    | succ i => have := ih i; simp only [List.take_succ_cons, lenP]; omega
theorem lenP_lt {l : CL} {i j : Nat} (hij : i < j) (hj : j ≤ l.length) : lenP (l.take i) + 8 ≤ lenP (l.take j) := by
  have h1 := lenP_take (l := l) (i := i) (by omega)
  have h2 := lenP_le (l.take j) (i + 1)
  rw [List.take_take, Nat.min_eq_left (by omega)] at h2
  omega
/-- Where the i-th chunk begins. -/
def plcP (l : CL) (i : Nat) : Int := 12 + lenP (l.take i)
def plcL (l : CL) (n : Nat) : List Int := (List.range n).map (plcP l)
theorem plcL_succ (l : CL) (n : Nat) : plcL l (n + 1) = plcL l n ++ [plcP l n] := by
  unfold plcL; rw [List.range_succ, List.map_append]; rfl
theorem plcL_at {l : CL} {n i : Nat} (h : i < n) : (plcL l n).getD i 0 = plcP l i := by
  unfold plcL; simp [List.getD, h]
theorem plcL_len (l : CL) (n : Nat) : (plcL l n).length = n := by unfold plcL; simp
/-- Which chunk begins at a place. -/
def begN (l : CL) (n : Nat) : List (MK × Int) := (List.range n).map fun i => (MK.num (plcP l i), (i : Int))
theorem begN_succ (l : CL) (n : Nat) : begN l (n + 1) = begN l n ++ [(MK.num (plcP l n), (n : Int))] := by
  unfold begN; rw [List.range_succ, List.map_append]; rfl
theorem begN_kd (l : CL) (n : Nat) : AllK false (begN l n) := by
  intro e he
  obtain ⟨i, _, rfl⟩ := List.mem_map.1 he
  rfl
theorem begN_new {l : CL} {n : Nat} (hn : n < l.length) : ∀ e ∈ begN l n, e.1 ≠ MK.num (plcP l n) := by
  intro e he h
  obtain ⟨i, hi, rfl⟩ := List.mem_map.1 he
  have := lenP_lt (l := l) (i := i) (j := n) (by simpa using hi) (by omega)
  simp only [MK.num.injEq, plcP] at h
  omega
theorem mlook_app (kvs : List (MK × Int)) (e : MK × Int) (k : MK) : mlook (kvs ++ [e]) k = if (∃ x ∈ kvs, x.1 = k) then mlook kvs k else if k = e.1 then e.2 else 0 := by
  induction kvs with
  | nil => simp [mlook]
  | cons x l ih =>
    rw [List.cons_append]
    unfold mlook
    by_cases h : k = x.1
    · rw [if_pos h, if_pos ⟨x, List.mem_cons_self .., h.symm⟩, if_pos h]
    · rw [if_neg h, ih]
      by_cases h2 : ∃ y ∈ l, y.1 = k
      · obtain ⟨y, hy, e⟩ := h2
        rw [if_pos ⟨y, hy, e⟩, if_pos ⟨y, List.mem_cons_of_mem _ hy, e⟩, if_neg h]
      · rw [if_neg h2]
        refine (if_neg ?_).symm
        rintro ⟨y, hy, e⟩
        rcases List.mem_cons.1 hy with rfl | hy
        · exact h e.symm
        · exact h2 ⟨y, hy, e⟩
theorem mlook_new {kvs : List (MK × Int)} {k : MK} (h : ∀ e ∈ kvs, e.1 ≠ k) : mlook kvs k = 0 := by
  rcases findM_look (k := k) (kvs := kvs) (i := 0) with ⟨_, h2, _⟩ | ⟨j, h1⟩
  · exact h2
  · rw [findM_new h] at h1; cases h1
theorem mlook_pos {kvs : List (MK × Int)} {k : MK} (h : ∀ e ∈ kvs, e.2 = 1) : mlook kvs k > 0 ↔ ∃ e ∈ kvs, e.1 = k := by
  induction kvs with
  | nil => simp [mlook]
  | cons x l ih =>
    unfold mlook
    by_cases hk : k = x.1
    · rw [if_pos hk, h x (List.mem_cons_self ..)]
      exact ⟨fun _ => ⟨x, List.mem_cons_self .., hk.symm⟩, fun _ => by decide⟩
    · rw [if_neg hk, ih (fun e he => h e (List.mem_cons_of_mem _ he))]
      refine ⟨fun ⟨e, he, e1⟩ => ⟨e, List.mem_cons_of_mem _ he, e1⟩, fun ⟨e, he, e1⟩ => ?_⟩
      rcases List.mem_cons.1 he with rfl | he
      · exact (hk e1.symm).elim
      · exact ⟨e, he, e1⟩
def findC (l : CL) (n : Nat) (start : Int) : Int := mlook (begN l n) (.num start)
theorem findC_zero (l : CL) (start : Int) : findC l 0 start = 0 := rfl
theorem findC_succ {l : CL} {n : Nat} (hn : n < l.length) (start : Int) : findC l (n + 1) start = if plcP l n = start then (n : Int) else findC l n start := by
  unfold findC
  rw [begN_succ, mlook_app]
  by_cases h : plcP l n = start
  · subst h
    rw [if_pos rfl, if_neg (fun ⟨x, hx, e⟩ => begN_new hn x hx e), if_pos rfl]
  · rw [if_neg h]
    by_cases h2 : ∃ x ∈ begN l n, x.1 = MK.num start
    · rw [if_pos h2]
    · rw [if_neg h2, if_neg (fun e => h (MK.num.inj e).symm), mlook_new (fun e he q => h2 ⟨e, he, q⟩)]
theorem findC_bd {l : CL} : ∀ {n : Nat} (start : Int), n ≤ l.length → 0 ≤ findC l n start ∧ (findC l n start = 0 ∨ findC l n start < n)
  | 0, start, _ => ⟨by rw [findC_zero]; omega, .inl (findC_zero l start)⟩
  | n + 1, start, h => by
    rw [findC_succ (by omega)]
    have ih := findC_bd (l := l) (n := n) start (by omega)
    split <;> omega

def kindB : List Int := [73, 70, 82, 83]
def ridxB : List Int := [82, 73, 100, 120]
def idxR (l : CL) : Int × Int :=
  if l.length = 0 ∨ (l.getD 0 default).1 ≠ ridxB then (0, 61)
  else if ((l.getD 0 default).2.length : Int) < 4 ∨ ((l.getD 0 default).2.length : Int) ≠ 4 + 12 * be (l.getD 0 default).2 0 4 then (0, 61)
  else if be (l.getD 0 default).2 0 4 > 512 then (0, 4)
  else (be (l.getD 0 default).2 0 4, 0)
theorem idx_ok {l : CL} (hB : Bytes (l.getD 0 default).2) (h : (idxR l).2 = 0) : l.length ≠ 0 ∧ (l.getD 0 default).1 = ridxB ∧ ((l.getD 0 default).2.length : Int) = 4 + 12 * (idxR l).1 ∧ 0 ≤ (idxR l).1 ∧ (idxR l).1 ≤ 512 ∧ (idxR l).1 = be (l.getD 0 default).2 0 4 := by
  have hb := be_lt4 hB 0 (k := 4) (by omega)
  unfold idxR at h ⊢
  split at h
  · cases h
  rename_i h1
  split at h
  · cases h
  rename_i h2
  split at h
  · cases h
  rename_i h3
  rw [if_neg h1, if_neg h2, if_neg h3]
  refine ⟨fun q => h1 (.inl q), Decidable.not_not.1 fun q => h1 (.inr q), by omega, by omega, by omega, rfl⟩
def hasU (acc : RL) (u : List Int) (x : Int) : Prop := ∃ r ∈ acc, r.1 = u ∧ r.2.1 = x
instance (acc : RL) (u : List Int) (x : Int) : Decidable (hasU acc u x) := by unfold hasU; infer_instance
abbrev entU (bs : List Int) (i : Int) : List Int := cutB bs (24 + 12 * i).toNat 4
abbrev entX (bs : List Int) (i : Int) : Int := be bs (24 + 12 * i + 4).toNat 4
abbrev entC (bs : List Int) (l : CL) (i : Int) : Int := findC l l.length (be bs (24 + 12 * i + 8).toNat 4)
abbrev entV (bs : List Int) (l : CL) (i : Int) : List Int × Int × List Int × List Int := (entU bs i, entX bs i, (l.getD (entC bs l i).toNat default).1, (l.getD (entC bs l i).toNat default).2)
def goE (bs : List Int) (l : CL) (n : Int) : Nat → Int → RL → Int × Int × RL
  | 0, _, acc => (0, bs.length, acc)
  | k + 1, i, acc =>
    if i < n then
      if idR (entU bs i) = false then (61, 24 + 12 * i, [])
      else if hasU acc (entU bs i) (entX bs i) then (6, 24 + 12 * i, [])
      else if entC bs l i = 0 then (61, 24 + 12 * i + 8, [])
      else goE bs l n k (i + 1) (acc ++ [entV bs l i])
    else (0, bs.length, acc)
theorem goE_eq {bs : List Int} {l : CL} {n : Int} {k : Nat} {i : Int} {acc : RL} (hk : 0 < k) : goE bs l n k i acc = if i < n then
      if idR (entU bs i) = false then (61, 24 + 12 * i, [])
      else if hasU acc (entU bs i) (entX bs i) then (6, 24 + 12 * i, [])
      else if entC bs l i = 0 then (61, 24 + 12 * i + 8, [])
      else goE bs l n (k - 1) (i + 1) (acc ++ [entV bs l i])
    else (0, bs.length, acc) := by
  obtain ⟨j, rfl⟩ : ∃ j, k = j + 1 := ⟨k - 1, by omega⟩
  rfl
/-- A container's fault, its place, its resources. -/
def readR (bs : List Int) : Int × Int × RL :=
  if (parseR bs).1 ≠ 0 then ((parseR bs).1, (parseR bs).2.1, [])
  else if (parseR bs).2.2.1 ≠ kindB then (60, 8, [])
  else if (idxR (parseR bs).2.2.2).2 ≠ 0 then ((idxR (parseR bs).2.2.2).2, 12, [])
  else goE bs (parseR bs).2.2.2 (idxR (parseR bs).2.2.2).1 600 0 []

/-! What is read keeps what was read before. -/
theorem goK_pre {bs : List Int} : ∀ {k : Nat} {p : Int} {acc : CL}, (goK bs k p acc).1 = 0 → ∃ r, (goK bs k p acc).2.2 = acc ++ r
  | 0, p, acc, _ => ⟨[], by simp [goK]⟩
  | k + 1, p, acc, h => by
    unfold goK at h ⊢
    split
    · rename_i hp
      rw [if_pos hp] at h
      split
      · rename_i h4; rw [if_pos h4] at h; cases h
      · rename_i h4
        rw [if_neg h4] at h
        split
        · rename_i hc; rw [if_pos hc] at h; exact (hc h).elim
        · rename_i hc
          rw [if_neg hc] at h
          obtain ⟨r, hr⟩ := goK_pre h
          exact ⟨chunkI bs p :: r, by rw [hr]; simp⟩
    · exact ⟨[], by simp⟩
/-- All places of a form's chunks lie within. -/
theorem goK_len {bs : List Int} (hB : Bytes bs) : ∀ {k : Nat} {p : Int} {acc : CL}, 12 ≤ p → p ≤ bs.length → p = 12 + lenP acc → bs.length - p < k → (goK bs k p acc).1 = 0 → 12 + lenP (goK bs k p acc).2.2 = bs.length
  | 0, p, acc, _, h1, _, h2, _ => by omega
  | k + 1, p, acc, p0, p1, hp, hk, h => by
    unfold goK at h ⊢
    split
    · rename_i hlt
      rw [if_pos hlt] at h
      split
      · rename_i h4; rw [if_pos h4] at h; cases h
      · rename_i h4
        rw [if_neg h4] at h
        split
        · rename_i hc; rw [if_pos hc] at h; exact (hc h).elim
        · rename_i hc
          rw [if_neg hc] at h
          have hc0 : (chunkE bs p).1 = 0 := by omega
          have hs := stepP_bd hB hc0
          have hL := chunkI_len hB (p := p) (by omega) hc0
          have e : lenP (acc ++ [chunkI bs p]) = lenP acc + (8 + be bs (p + 4).toNat 4 + be bs (p + 4).toNat 4 % 2) := by
            have : ∀ a : CL, lenP (a ++ [chunkI bs p]) = lenP a + (8 + be bs (p + 4).toNat 4 + be bs (p + 4).toNat 4 % 2) := by
              intro a
              induction a with
              | nil => simp only [List.nil_append, lenP, hL.2]; omega
              | cons x a ih => simp only [List.cons_append, lenP, ih]; omega
            exact this acc
          exact goK_len hB (k := k) (p := stepP bs p) (acc := acc ++ [chunkI bs p]) (by omega) hs.2 (by rw [e]; unfold stepP; omega) (by omega) h
    · show 12 + lenP acc = bs.length
      omega
theorem lenP_ge : ∀ l : CL, 8 * (l.length : Int) ≤ lenP l
  | [] => by simp [lenP]
  | c :: l => by have := lenP_ge l; simp only [lenP, List.length_cons]; omega
/-- What a form's chunks are, where the bytes are a form. -/
theorem parse_ok {bs : List Int} (hB : Bytes bs) (h : (parseR bs).1 = 0) : 12 + lenP (parseR bs).2.2.2 = bs.length ∧ 12 ≤ bs.length ∧ ((parseR bs).2.2.2 ≠ [] → ((parseR bs).2.2.2.getD 0 default).2 = cutB bs 20 ((parseR bs).2.2.2.getD 0 default).2.length) := by
  unfold parseR at h
  split at h
  · rename_i h1; exact (h1 h).elim
  rename_i h1
  split at h
  · rename_i h2; exact (h2 h).elim
  rename_i h2
  have hh := head_ok (bs := bs) (by omega)
  have e : parseR bs = (0, (bs.length : Int), cutB bs 8 4, (goK bs bs.length 12 []).2.2) := by unfold parseR; rw [if_neg h1, if_neg h2]
  rw [e]
  refine ⟨goK_len hB (by omega) (by omega) (by simp [lenP]) (by omega) (by omega), hh.1, fun hne => ?_⟩
  simp only at hne ⊢
  have h0 : (goK bs bs.length 12 []).1 = 0 := by omega
  clear h2 e h h1
  rw [goK_eq (by omega)] at h0 hne ⊢
  split
  · rename_i hlt
    rw [if_pos hlt] at h0 hne
    split
    · rename_i h4; exact absurd h4 (by decide)
    · rename_i h4
      rw [if_neg h4] at h0 hne
      split
      · rename_i hc; rw [if_pos hc] at h0; exact (hc h0).elim
      · rename_i hc
        rw [if_neg hc] at h0
        obtain ⟨r, hr⟩ := goK_pre h0
        rw [hr]
        have hL := chunkI_len hB (p := 12) (by omega) (by omega)
        show (chunkI bs 12).2 = cutB bs 20 (chunkI bs 12).2.length
        have : (chunkI bs 12).2.length = (be bs 16 4).toNat := by have := hL.2; rw [show ((12 : Int) + 4).toNat = 16 from rfl] at this; omega
        rw [this]
        rfl
  · rename_i hlt
    rw [if_neg hlt] at hne
    exact (hne rfl).elim
end Go.Proofs.Ytkmkbpnlccomnaa
