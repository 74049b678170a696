/- How instructions are laid and read, as plain laws. No statement of the seat is proved in this text. -/
import Derived.Test.YtkemnodaadlonaaLibBe
set_option linter.unusedVariables false
set_option linter.unusedSimpArgs false
set_option maxRecDepth 100000
set_option maxHeartbeats 4000000
namespace Go.Proofs.Ytkemnodaadlonaa
open GAb Go

def szm (m : Int) : Int := if m < 0 ∨ m > 15 then -1 else [(0 : Int), 1, 2, 4, -1, 1, 2, 4, 0, 1, 2, 4, -1, 1, 2, 4].getD m.toNat 0
def cst (m : Int) : Bool := decide (1 ≤ m ∧ m ≤ 3)
def mayR (c m : Int) : Bool := decide (0 ≤ szm m ∧ (c = 76 ∨ cst m = false))
def extR (x k : Int) : Int := if k = 1 then (if x % 256 < 128 then x % 256 else x % 256 + 4294967040) else if k = 2 then (if x % 65536 < 32768 then x % 65536 else x % 65536 + 4294901760) else x
theorem szm_cases {m : Int} (h : 0 ≤ szm m) : 0 ≤ m ∧ m ≤ 15 ∧ (szm m = 0 ∨ szm m = 1 ∨ szm m = 2 ∨ szm m = 4) ∧ (cst m = true → szm m = 1 ∨ szm m = 2 ∨ szm m = 4) := by
  unfold szm at h ⊢
  unfold cst
  split at h
  · omega
  · rename_i hm
    rw [if_neg hm]
    have : m = 0 ∨ m = 1 ∨ m = 2 ∨ m = 3 ∨ m = 4 ∨ m = 5 ∨ m = 6 ∨ m = 7 ∨ m = 8 ∨ m = 9 ∨ m = 10 ∨ m = 11 ∨ m = 12 ∨ m = 13 ∨ m = 14 ∨ m = 15 := by omega
    rcases this with rfl | rfl | rfl | rfl | rfl | rfl | rfl | rfl | rfl | rfl | rfl | rfl | rfl | rfl | rfl | rfl <;> simp_all (decide := true)
/-- The value that a mode and so many bytes tell. -/
def telR (m x : Int) : Int := if cst m then extR x (szm m) else x
/-- Can a mode tell a value? -/
def tellsR (m v : Int) : Bool :=
  if szm m = 0 then decide (v = 0) else if szm m = 4 then true else if cst m then decide (extR v (szm m) = v) else decide (v < 256 ^ (szm m).toNat)
def putR (v k : Int) : List Int :=
  if k = 1 then [v % 256] else if k = 2 then [v / 256 % 256, v % 256] else if k = 4 then [v / 16777216 % 256, v / 65536 % 256, v / 256 % 256, v % 256] else []
theorem putR_len {v k : Int} (h : k = 0 ∨ k = 1 ∨ k = 2 ∨ k = 4) : ((putR v k).length : Int) = k := by
  rcases h with rfl | rfl | rfl | rfl <;> rfl
theorem getD_app (A X : List Int) (i : Nat) : (A ++ X).getD (A.length + i) 0 = X.getD i 0 := by
  simp [List.getD, List.getElem?_append_right]
theorem getD_app0 (A X : List Int) : (A ++ X).getD A.length 0 = X.getD 0 0 := getD_app A X 0
theorem be_put (A C : List Int) (v k : Int) (h : k = 1 ∨ k = 2 ∨ k = 4) : be (A ++ (putR v k ++ C)) A.length k.toNat = v % (256 ^ k.toNat) := by
  rcases h with rfl | rfl | rfl
  · show be _ _ 1 = v % 256 ^ 1
    simp only [be, getD_app]
    simp [putR]
  · show be _ _ 2 = v % 256 ^ 2
    simp only [be, getD_app]
    simp [putR]
    omega
  · show be _ _ 4 = v % 256 ^ 4
    simp only [be, getD_app]
    simp [putR]
    omega
theorem tel_put {m v : Int} (hs : 0 < szm m) (hm : 0 ≤ szm m) (ht : tellsR m v = true) (hv : 0 ≤ v ∧ v ≤ 4294967295) : telR m (v % (256 ^ (szm m).toNat)) = v := by
  obtain ⟨h0, h1, h2, h3⟩ := szm_cases hm
  unfold tellsR at ht
  unfold telR
  rw [if_neg (by omega)] at ht
  rcases h2 with h2 | h2 | h2 | h2
  · omega
  all_goals
    rw [h2] at ht ⊢
  · rw [if_neg (by decide)] at ht
    by_cases hc : cst m = true
    · rw [if_pos hc] at ht ⊢
      simp [extR] at ht ⊢
      omega
    · rw [if_neg hc] at ht ⊢
      simp at ht ⊢
      omega
  · rw [if_neg (by decide)] at ht
    by_cases hc : cst m = true
    · rw [if_pos hc] at ht ⊢
      simp [extR] at ht ⊢
      omega
    · rw [if_neg hc] at ht ⊢
      simp at ht ⊢
      omega
  · have : v % 256 ^ (4 : Int).toNat = v := by simp; omega
    rw [this]
    split
    · simp [extR]
    · rfl

/-- The values behind the modes, from a place on. -/
def valsR (bs : List Int) : Int → List Int → Option (List (Int × Int) × Int)
  | q, [] => some ([], q)
  | q, m :: ms =>
    if szm m = 0 then (valsR bs q ms).map fun r => ((m, 0) :: r.1, r.2)
    else if q + szm m > bs.length then none
    else (valsR bs (q + szm m) ms).map fun r => ((m, telR m (be bs q.toNat (szm m).toNat)) :: r.1, r.2)
def dataR : List (Int × Int) → List Int
  | [] => []
  | a :: ars => putR a.2 (szm a.1) ++ dataR ars
def sumR : List Int → Int
  | [] => 0
  | m :: ms => szm m + sumR ms
theorem sumR_data : ∀ (ars : List (Int × Int)), (∀ a ∈ ars, 0 ≤ szm a.1) → sumR (ars.map Prod.fst) = (dataR ars).length
  | [], _ => rfl
  | a :: ars, h => by
    have h1 := (szm_cases (h a (List.mem_cons_self ..))).2.2.1
    have h2 := sumR_data ars (fun x hx => h x (List.mem_cons_of_mem _ hx))
    have h3 := putR_len (v := a.2) h1
    simp only [List.map_cons, sumR, dataR, List.length_append]
    omega
theorem vals_data : ∀ (ars : List (Int × Int)) (A C : List Int), (∀ a ∈ ars, 0 ≤ szm a.1 ∧ tellsR a.1 a.2 = true ∧ 0 ≤ a.2 ∧ a.2 ≤ 4294967295) →
    valsR (A ++ (dataR ars ++ C)) A.length (ars.map Prod.fst) = some (ars, (A.length : Int) + ((dataR ars).length : Int))
  | [], A, C, _ => by simp [valsR, dataR]
  | (m, v) :: ars, A, C, h => by
    obtain ⟨h1, h2, h3, h4⟩ := h (m, v) (List.mem_cons_self ..)
    simp only at h1 h2 h3 h4
    have ih := fun A => vals_data ars A C (fun x hx => h x (List.mem_cons_of_mem _ hx))
    have hc := (szm_cases h1).2.2.1
    have hl := putR_len (v := v) hc
    simp only [List.map_cons, valsR, dataR]
    by_cases h0 : szm m = 0
    · rw [if_pos h0]
      have hp : putR v (szm m) = [] := by rw [h0]; rfl
      have hv : v = 0 := by
        unfold tellsR at h2
        rw [if_pos h0] at h2
        simpa using h2
      rw [hp, List.nil_append, ih A, hv]
      rfl
    · rw [if_neg h0, if_neg (by simp only [List.length_append]; omega)]
      have e1 : (A : List Int) ++ (putR v (szm m) ++ dataR ars ++ C) = (A ++ putR v (szm m)) ++ (dataR ars ++ C) := by simp only [List.append_assoc]
      have e2 : (A.length : Int) + szm m = ((A ++ putR v (szm m)).length : Nat) := by simp only [List.length_append]; omega
      have e3 : be (A ++ (putR v (szm m) ++ dataR ars ++ C)) (A.length : Int).toNat (szm m).toNat = v % 256 ^ (szm m).toNat := by
        rw [Int.toNat_natCast, List.append_assoc]
        exact be_put A _ v _ (by omega)
      rw [e3, tel_put (by omega) h1 h2 ⟨h3, h4⟩, e2, e1, ih]
      simp only [Option.map_some, List.length_append, Option.some.injEq, Prod.mk.injEq, true_and]
      omega
theorem vals_end {bs : List Int} : ∀ (ms : List Int) (q : Int) {r : List (Int × Int) × Int}, (∀ m ∈ ms, 0 ≤ szm m) → q ≤ bs.length → valsR bs q ms = some r → r.2 = q + sumR ms ∧ r.2 ≤ bs.length ∧ r.1.map Prod.fst = ms
  | [], q, r, _, hq, h => by cases h; exact ⟨by simp [sumR], hq, rfl⟩
  | m :: ms, q, r, hm, hq, h => by
    simp only [valsR] at h
    have hmm := hm m (List.mem_cons_self ..)
    split at h
    · rename_i h0
      cases h1 : valsR bs q ms with
      | none => rw [h1] at h; cases h
      | some r1 =>
        rw [h1] at h
        cases h
        obtain ⟨a1, a2, a3⟩ := vals_end ms q (fun x hx => hm x (List.mem_cons_of_mem _ hx)) hq h1
        refine ⟨by simp only [sumR]; omega, a2, by simp only [List.map_cons, a3]⟩
    · split at h
      · cases h
      · cases h1 : valsR bs (q + szm m) ms with
        | none => rw [h1] at h; cases h
        | some r1 =>
          rw [h1] at h
          cases h
          obtain ⟨a1, a2, a3⟩ := vals_end ms (q + szm m) (fun x hx => hm x (List.mem_cons_of_mem _ hx)) (by omega) h1
          refine ⟨by simp only [sumR]; omega, a2, by simp only [List.map_cons, a3]⟩

/-- Modes, two a byte, the first one low. -/
def packR : List Int → List Int
  | [] => []
  | [m] => [m]
  | m :: n :: ms => (m + 16 * n) :: packR ms
def nibR (bs : List Int) (p : Int) (i : Nat) : Int := bs.getD (p + (i / 2 : Nat)).toNat 0 / (if i % 2 = 0 then 1 else 16) % 16
def modesR (bs : List Int) (p : Int) (k : Nat) : List Int := (List.range k).map (nibR bs p)
theorem packR_len : ∀ ms : List Int, (packR ms).length = (ms.length + 1) / 2
  | [] => rfl
  | [m] => by simp [packR]
  | m :: n :: ms => by simp only [packR, List.length_cons, packR_len ms]; omega
theorem nib_pack : ∀ (ms A C : List Int) (i : Nat), (∀ m ∈ ms, 0 ≤ m ∧ m ≤ 15) → i < ms.length → nibR (A ++ (packR ms ++ C)) A.length i = ms.getD i 0
  | [], _, _, _, _, h => by simp at h
  | [m], A, C, i, hm, h => by
    have hi : i = 0 := by simp at h; omega
    have := hm m (by simp)
    subst hi
    simp only [nibR, packR]
    simp
    omega
  | m :: n :: ms, A, C, i, hm, h => by
    have h1 := hm m (by simp)
    have h2 := hm n (by simp)
    have e1 : A ++ (packR (m :: n :: ms) ++ C) = (A ++ [m + 16 * n]) ++ (packR ms ++ C) := by simp [packR]
    by_cases hi : i < 2
    · have : i = 0 ∨ i = 1 := by omega
      rcases this with rfl | rfl
      · simp only [nibR, packR]
        simp
        omega
      · simp only [nibR, packR]
        simp
        omega
    · have ih := nib_pack ms (A ++ [m + 16 * n]) C (i - 2) (fun x hx => hm x (by simp [hx])) (by simp at h; omega)
      rw [e1]
      have e2 : ((A ++ [m + 16 * n]).length : Int) + ((i - 2) / 2 : Nat) = A.length + (i / 2 : Nat) := by simp; omega
      have e3 : (i - 2) % 2 = i % 2 := by omega
      unfold nibR at ih ⊢
      rw [e2, e3] at ih
      rw [ih]
      obtain ⟨j, rfl⟩ : ∃ j, i = j + 2 := ⟨i - 2, by omega⟩
      simp
theorem modes_pack {ms A C : List Int} (hm : ∀ m ∈ ms, 0 ≤ m ∧ m ≤ 15) : modesR (A ++ (packR ms ++ C)) A.length ms.length = ms := by
  apply List.ext_getElem
  · simp [modesR]
  · intro i h1 h2
    simp only [modesR, List.getElem_map, List.getElem_range]
    rw [nib_pack ms A C i hm h2]
    simp [List.getD, h2]

def numR (bs : List Int) (at_ : Int) : Option (Int × Int) :=
  if at_ + 1 > bs.length then none
  else if bs.getD at_.toNat 0 ≥ 192 then (if at_ + 4 > bs.length then none else some (be bs at_.toNat 4 - 3221225472, 4))
  else if bs.getD at_.toNat 0 ≥ 128 then (if at_ + 2 > bs.length then none else some (be bs at_.toNat 2 - 32768, 2))
  else some (be bs at_.toNat 1, 1)
def allMay : List Int → List Int → Bool
  | c :: cs, m :: ms => mayR c m && allMay cs ms
  | _, _ => true
/-- The instruction at a place. -/
def decR (sg : Int → Option (List Int)) (bs : List Int) (at_ : Int) : Int × List (Int × Int) × Int × Int :=
  if at_ < 0 then (0, [], 0, 1) else
  match numR bs at_ with
  | none => (0, [], 0, 90)
  | some (op, n) =>
    match sg op with
    | none => (0, [], 0, 110)
    | some s =>
      if at_ + n + ((s.length + 1) / 2 : Nat) > bs.length then (0, [], 0, 90)
      else if allMay s (modesR bs (at_ + n) s.length) = false then (0, [], 0, 111)
      else match valsR bs (at_ + n + ((s.length + 1) / 2 : Nat)) (modesR bs (at_ + n) s.length) with
        | none => (0, [], 0, 90)
        | some (ars, q) => (op, ars, q - at_, 0)
def okArgs : List Int → List (Int × Int) → Bool
  | c :: cs, a :: ars => mayR c a.1 && tellsR a.1 a.2 && okArgs cs ars
  | _, _ => true
def opB (op : Int) : List Int := if op < 128 then putR op 1 else putR (op + 32768) 2
def restR (ars : List (Int × Int)) : List Int := packR (ars.map Prod.fst) ++ dataR ars
/-- An instruction laid. -/
def encR (sg : Int → Option (List Int)) (op : Int) (ars : List (Int × Int)) : Option (List Int) :=
  match sg op with
  | none => none
  | some s => if s.length ≠ ars.length then none else if okArgs s ars = false then none else some (opB op ++ restR ars)
theorem may_sz {c m : Int} (h : mayR c m = true) : 0 ≤ szm m := by
  unfold mayR at h
  simp at h
  exact h.1
theorem okArgs_all : ∀ (s : List Int) (ars : List (Int × Int)), s.length = ars.length → okArgs s ars = true → (∀ a ∈ ars, 0 ≤ szm a.1 ∧ tellsR a.1 a.2 = true) ∧ allMay s (ars.map Prod.fst) = true
  | [], [], _, _ => ⟨fun a ha => by simp at ha, rfl⟩
  | [], _ :: _, h, _ => by simp at h
  | _ :: _, [], h, _ => by simp at h
  | c :: cs, a :: ars, h, h2 => by
    simp only [okArgs, Bool.and_eq_true] at h2
    obtain ⟨i1, i2⟩ := okArgs_all cs ars (by simpa using h) h2.2
    refine ⟨fun x hx => ?_, ?_⟩
    · rcases List.mem_cons.1 hx with rfl | hx
      · exact ⟨may_sz h2.1.1, h2.1.2⟩
      · exact i1 x hx
    · simp only [List.map_cons, allMay, Bool.and_eq_true]
      exact ⟨h2.1.1, i2⟩
theorem enc_some {sg : Int → Option (List Int)} {op : Int} {ars : List (Int × Int)} {b : List Int} (h : encR sg op ars = some b) :
    ∃ s, sg op = some s ∧ s.length = ars.length ∧ okArgs s ars = true ∧ b = opB op ++ restR ars := by
  unfold encR at h
  cases hs : sg op with
  | none => rw [hs] at h; cases h
  | some s =>
    rw [hs] at h
    simp only at h
    split at h
    · cases h
    · split at h
      · cases h
      · rename_i h1 h2
        cases h
        exact ⟨s, rfl, by omega, by simpa using h2, rfl⟩
/-- With its number laid in any way it is read ars it was. -/
theorem dec_form {sg : Int → Option (List Int)} {op : Int} {ars : List (Int × Int)} {s A N C : List Int} (hs : sg op = some s) (hl : s.length = ars.length) (hk : okArgs s ars = true)
    (hv : ∀ a ∈ ars, 0 ≤ a.2 ∧ a.2 ≤ 4294967295) (hn : numR (A ++ (N ++ (restR ars ++ C))) A.length = some (op, (N.length : Int))) :
    decR sg (A ++ (N ++ (restR ars ++ C))) A.length = (op, ars, ((N.length + (restR ars).length : Nat) : Int), 0) := by
  obtain ⟨h1, h2⟩ := okArgs_all s ars hl hk
  have hm : ∀ m ∈ ars.map Prod.fst, 0 ≤ m ∧ m ≤ 15 := by
    intro m hm
    obtain ⟨a, ha, rfl⟩ := List.mem_map.1 hm
    have := szm_cases (h1 a ha).1
    omega
  have e1 : A ++ (N ++ (restR ars ++ C)) = (A ++ N) ++ (packR (ars.map Prod.fst) ++ (dataR ars ++ C)) := by simp [restR]
  have e2 : (A.length : Int) + N.length = ((A ++ N).length : Nat) := by simp
  have e3 : A ++ (N ++ (restR ars ++ C)) = (A ++ N ++ packR (ars.map Prod.fst)) ++ (dataR ars ++ C) := by simp [restR]
  have e4 : (A.length : Int) + N.length + ((s.length + 1) / 2 : Nat) = ((A ++ N ++ packR (ars.map Prod.fst)).length : Nat) := by
    simp only [List.length_append, packR_len, List.length_map]
    omega
  have e5 : modesR (A ++ (N ++ (restR ars ++ C))) (A.length + N.length) s.length = ars.map Prod.fst := by
    rw [e1, e2]
    have := modes_pack (A := A ++ N) (C := dataR ars ++ C) hm
    rw [List.length_map] at this
    rw [hl]
    exact this
  have e6 := vals_data ars (A ++ N ++ packR (ars.map Prod.fst)) C (fun a ha => ⟨(h1 a ha).1, (h1 a ha).2, hv a ha⟩)
  unfold decR
  rw [if_neg (by omega), hn]
  simp only [hs]
  rw [e5, e4, e3, if_neg (by simp only [List.length_append]; omega), if_neg (by rw [h2]; decide), e6]
  simp only [Prod.mk.injEq, true_and, and_true]
  simp only [restR, List.length_append]
  omega
theorem num_one {A C : List Int} {op : Int} (h : 0 ≤ op ∧ op < 128) : numR (A ++ (opB op ++ C)) A.length = some (op, ((opB op).length : Int)) := by
  have e : opB op = putR op 1 := if_pos h.2
  have hb := be_put A C op 1 (by omega)
  have hg : (A ++ (putR op 1 ++ C)).getD A.length 0 = op := by rw [getD_app0]; simp [putR]; omega
  rw [e]
  unfold numR
  rw [Int.toNat_natCast, if_neg (by simp [putR]; omega), hg, if_neg (by omega), if_neg (by omega)]
  have hb' : be (A ++ (putR op 1 ++ C)) A.length 1 = op % 256 ^ 1 := hb
  rw [hb']
  simp [putR]
  omega
theorem num_two {A C : List Int} {op : Int} (h : 0 ≤ op ∧ op < 16384) : numR (A ++ (putR (op + 32768) 2 ++ C)) A.length = some (op, ((putR (op + 32768) 2).length : Int)) := by
  have hb : be (A ++ (putR (op + 32768) 2 ++ C)) A.length 2 = (op + 32768) % 256 ^ 2 := be_put A C (op + 32768) 2 (by omega)
  have hg : (A ++ (putR (op + 32768) 2 ++ C)).getD A.length 0 = (op + 32768) / 256 % 256 := by rw [getD_app0]; simp [putR]
  unfold numR
  rw [Int.toNat_natCast, if_neg (by simp [putR]; omega), hg, if_neg (by omega), if_pos (by omega), if_neg (by simp [putR]; omega), hb]
  simp [putR]
  omega
theorem num_four {A C : List Int} {op : Int} (h : 0 ≤ op ∧ op < 1073741824) : numR (A ++ (putR (op + 3221225472) 4 ++ C)) A.length = some (op, ((putR (op + 3221225472) 4).length : Int)) := by
  have hb : be (A ++ (putR (op + 3221225472) 4 ++ C)) A.length 4 = (op + 3221225472) % 256 ^ 4 := be_put A C (op + 3221225472) 4 (by omega)
  have hg : (A ++ (putR (op + 3221225472) 4 ++ C)).getD A.length 0 = (op + 3221225472) / 16777216 % 256 := by rw [getD_app0]; simp [putR]
  unfold numR
  rw [Int.toNat_natCast, if_neg (by simp [putR]; omega), hg, if_pos (by omega), if_neg (by simp [putR]; omega), hb]
  simp [putR]
  omega
theorem num_opB {A C : List Int} {op : Int} (h : 0 ≤ op ∧ op < 16384) : numR (A ++ (opB op ++ C)) A.length = some (op, ((opB op).length : Int)) := by
  by_cases h1 : op < 128
  · exact num_one (by omega)
  · have e : opB op = putR (op + 32768) 2 := if_neg h1
    rw [e]
    exact num_two (by omega)
/-- What is laid is read ars it was. -/
theorem dec_enc {sg : Int → Option (List Int)} {op : Int} {ars : List (Int × Int)} {A C b : List Int} (hs : ∀ x, sg x ≠ none → 0 ≤ x ∧ x < 16384)
    (hv : ∀ a ∈ ars, 0 ≤ a.2 ∧ a.2 ≤ 4294967295) (h : encR sg op ars = some b) : decR sg (A ++ (b ++ C)) A.length = (op, ars, (b.length : Int), 0) := by
  obtain ⟨s, h1, h2, h3, rfl⟩ := enc_some h
  have h4 := dec_form (A := A) (N := opB op) (C := C) h1 h2 h3 hv (num_opB (hs op (by rw [h1]; simp)))
  rw [List.append_assoc, h4]
  simp
theorem getD_take {bs : List Int} {n i : Nat} (h : i < n) : (bs.take n).getD i 0 = bs.getD i 0 := by simp [List.getD, List.getElem?_take, h]
theorem be_take {bs : List Int} {n i : Nat} : ∀ k : Nat, i + k ≤ n → be (bs.take n) i k = be bs i k
  | 0, _ => rfl
  | k + 1, h => by simp only [be]; rw [be_take k (by omega), getD_take (by omega)]
/-- Of what is cut none is read. -/
theorem dec_cut {sg : Int → Option (List Int)} {op : Int} {ars : List (Int × Int)} {b : List Int} {cut : Nat} (hs : ∀ x, sg x ≠ none → 0 ≤ x ∧ x < 16384)
    (h : encR sg op ars = some b) (hc : cut < b.length) : decR sg (b.take cut) 0 = (0, [], 0, 90) := by
  obtain ⟨s, h1, h2, h3, rfl⟩ := enc_some h
  obtain ⟨g1, g2⟩ := okArgs_all s ars h2 h3
  have hn := num_opB (A := []) (C := restR ars) (hs op (by rw [h1]; simp))
  rw [List.nil_append, List.length_nil] at hn
  have hm : ∀ m ∈ ars.map Prod.fst, 0 ≤ m ∧ m ≤ 15 := by
    intro m hm
    obtain ⟨a, ha, rfl⟩ := List.mem_map.1 hm
    have := szm_cases (g1 a ha).1
    omega
  have hol : (opB op).length = 1 ∨ (opB op).length = 2 := by
    unfold opB
    split
    · exact .inl rfl
    · exact .inr rfl
  generalize hb : opB op ++ restR ars = b at hc hn
  have hlb : b.length = (opB op).length + (restR ars).length := by rw [← hb, List.length_append]
  have hlt : (b.take cut).length = cut := by rw [List.length_take]; omega
  -- the number of what is cut
  have hnum : numR (b.take cut) 0 = none ∨ numR (b.take cut) 0 = some (op, ((opB op).length : Int)) ∧ (opB op).length ≤ cut := by
    unfold numR at hn ⊢
    rw [hlt]
    by_cases hz : (0 : Int) + 1 > cut
    · rw [if_pos hz]; exact .inl rfl
    · rw [if_neg hz]
      rw [if_neg (by omega)] at hn
      have hg : (b.take cut).getD (0 : Int).toNat 0 = b.getD (0 : Int).toNat 0 := getD_take (by simp; omega)
      rw [hg]
      have cast0 : ((0 : Nat) : Int).toNat = (0 : Int).toNat := rfl
      rw [cast0] at hn
      split at hn
      · rename_i hx
        rw [if_pos hx]
        split
        · exact .inl rfl
        · rename_i hy
          rw [be_take 4 (by simp; omega)]
          split at hn
          · cases hn
          · refine .inr ⟨hn, ?_⟩
            simp only [Option.some.injEq, Prod.mk.injEq] at hn
            omega
      · rename_i hx
        rw [if_neg hx]
        split at hn
        · rename_i hx2
          rw [if_pos hx2]
          split
          · exact .inl rfl
          · rename_i hy
            rw [be_take 2 (by simp; omega)]
            split at hn
            · cases hn
            · refine .inr ⟨hn, ?_⟩
              simp only [Option.some.injEq, Prod.mk.injEq] at hn
              omega
        · rename_i hx2
          rw [if_neg hx2, be_take 1 (by simp; omega)]
          refine .inr ⟨hn, ?_⟩
          simp only [Option.some.injEq, Prod.mk.injEq] at hn
          omega
  unfold decR
  rw [if_neg (by omega)]
  rcases hnum with hnum | ⟨hnum, hle⟩
  · rw [hnum]
  · rw [hnum]
    simp only [h1]
    rw [hlt]
    split
    · rfl
    · rename_i hq
      have e5 : modesR (b.take cut) (0 + (opB op).length) s.length = ars.map Prod.fst := by
        have := modes_pack (A := opB op) (C := dataR ars) hm
        rw [List.length_map] at this
        rw [h2, ← this]
        unfold modesR
        apply List.map_congr_left
        intro i hi
        rw [List.mem_range] at hi
        unfold nibR
        rw [Int.zero_add, getD_take (by omega), ← hb]
        rfl
      rw [e5, if_neg (by rw [g2]; decide)]
      cases hv : valsR (b.take cut) (0 + (opB op).length + ((s.length + 1) / 2 : Nat)) (ars.map Prod.fst) with
      | none => rfl
      | some r =>
        exfalso
        obtain ⟨a1, a2, _⟩ := vals_end (ars.map Prod.fst) _ (fun m hm => by
          obtain ⟨a, ha, rfl⟩ := List.mem_map.1 hm
          exact (g1 a ha).1) (by rw [hlt]; omega) hv
        rw [sumR_data ars (fun a ha => (g1 a ha).1)] at a1
        rw [hlt] at a2
        have e6 : (restR ars).length = (ars.length + 1) / 2 + (dataR ars).length := by
          simp only [restR, List.length_append, packR_len, List.length_map]
        omega

end Go.Proofs.Ytkemnodaadlonaa
