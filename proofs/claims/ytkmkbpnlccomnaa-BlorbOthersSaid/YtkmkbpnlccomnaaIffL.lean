/- What is built is read as it was: in plain numbers. No statement of the seat is proved in this text. -/
import Derived.Test.YtkmkbpnlccomnaaIffP
set_option linter.unusedVariables false
set_option linter.unusedSimpArgs false
set_option maxRecDepth 100000
set_option maxHeartbeats 4000000
namespace Go.Proofs.Ytkmkbpnlccomnaa
open GAb Go

theorem bytes_mem {bs : List Int} : Bytes bs ↔ ∀ x ∈ bs, 0 ≤ x ∧ x ≤ 255 := by
  constructor
  · intro h x hx
    obtain ⟨i, hi, rfl⟩ := List.mem_iff_getElem.1 hx
    have := h i hi
    simpa [List.getD, hi] using this
  · intro h i hi
    simpa [List.getD, hi] using h _ (List.getElem_mem hi)
theorem Bytes.app {xs ys : List Int} (h : Bytes xs) (k : Bytes ys) : Bytes (xs ++ ys) := bytes_mem.2 fun x hx => by
  rcases List.mem_append.1 hx with hx | hx
  · exact bytes_mem.1 h x hx
  · exact bytes_mem.1 k x hx
theorem bytes_put (v k : Int) : Bytes (putR v k) := bytes_mem.2 fun x hx => by
  unfold putR at hx
  split at hx
  · simp at hx; omega
  split at hx
  · simp at hx; omega
  split at hx
  · simp at hx; omega
  · cases hx
theorem bytes_bldC {t : CK} (h : Bytes t.d) : Bytes (bldC t) := by
  unfold bldC
  refine Bytes.app (ltr_bytes _) (Bytes.app (bytes_put _ _) (Bytes.app h ?_))
  split
  · exact bytes_mem.2 fun x hx => by simp at hx; omega
  · exact bytes_mem.2 fun x hx => by cases hx
theorem bytes_bldR {kind : ByteArray} {ts : List CK} (h : ∀ t ∈ ts, Bytes t.d) : Bytes (bldR kind ts) := by
  unfold bldR
  refine Bytes.app (Bytes.app (Bytes.app (bytes_mem.2 fun x hx => ?_) (bytes_put _ _)) (ltr_bytes _)) (bytes_mem.2 fun x hx => ?_)
  · simp at hx; omega
  · obtain ⟨t, ht, hx⟩ := List.mem_flatMap.1 hx
    exact bytes_mem.1 (bytes_bldC (h t ht)) x hx
/-- A chunk whose letters and data are in order. -/
def GoodC (t : CK) : Prop := idR (ltr t.id) = true ∧ t.d.length = t.l ∧ t.l ≤ 100000000
theorem GoodC.four {t : CK} (h : GoodC t) : (ltr t.id).length = 4 := (idR_iff.1 h.1).1
theorem put4_len (v : Int) : (putR v 4).length = 4 := rfl
theorem bldC_len {t : CK} (h : GoodC t) : ((bldC t).length : Int) = 8 + t.l + (t.l : Int) % 2 := by
  have h4 := h.four
  obtain ⟨_, h2, _⟩ := h
  unfold bldC
  simp only [List.length_append, h4, put4_len, h2]
  split
  · simp; omega
  · simp; omega
theorem body_len : ∀ {ts : List CK}, (∀ t ∈ ts, GoodC t) → ((ts.flatMap bldC).length : Int) = sizeK ts
  | [], _ => rfl
  | t :: ts, h => by
    have h1 := bldC_len (h t (List.mem_cons_self ..))
    have h2 := body_len fun u hu => h u (List.mem_cons_of_mem _ hu)
    rw [List.flatMap_cons, List.length_append]
    simp only [sizeK]
    omega
theorem cut_mid (A X C : List Int) : cutB (A ++ (X ++ C)) A.length X.length = X := by
  unfold cutB; rw [List.drop_left, List.take_left]
theorem getD_mid (A : List Int) (x : Int) (C : List Int) : (A ++ x :: C).getD A.length 0 = x := by
  simp [List.getD]
/-- A chunk's place, read. -/
theorem chunk_at {A C : List Int} {t : CK} (h : GoodC t) : chunkE (A ++ (bldC t ++ C)) A.length = (0, 0) ∧ chunkI (A ++ (bldC t ++ C)) A.length = (ltr t.id, t.d) ∧ stepP (A ++ (bldC t ++ C)) A.length = (A ++ bldC t).length := by
  have h4 := h.four
  have hlen := bldC_len h
  obtain ⟨h1, h2, h3⟩ := h
  have hN : ((A ++ (bldC t ++ C)).length : Int) = A.length + (8 + t.l + (t.l : Int) % 2) + C.length := by
    simp only [List.length_append]; omega
  have e1 : A ++ (bldC t ++ C) = A ++ (ltr t.id ++ (putR t.l 4 ++ (t.d ++ ((if (t.l : Int) % 2 = 1 then [0] else []) ++ C)))) := by
    unfold bldC; simp only [List.append_assoc]
  have c1 : cutB (A ++ (bldC t ++ C)) A.length 4 = ltr t.id := by
    rw [e1, ← h4, cut_mid]
  have e2 : A ++ (bldC t ++ C) = (A ++ ltr t.id) ++ (putR t.l 4 ++ (t.d ++ ((if (t.l : Int) % 2 = 1 then [0] else []) ++ C))) := by rw [e1]; simp only [List.append_assoc]
  have l2 : (A ++ ltr t.id).length = A.length + 4 := by rw [List.length_append, h4]
  have c2 : be (A ++ (bldC t ++ C)) (A.length + 4) 4 = t.l := by
    rw [e2, ← l2, show (4 : Nat) = (4 : Int).toNat from rfl, be_put _ _ _ 4 (by decide)]
    exact Int.emod_eq_of_lt (by omega) (by show (t.l : Int) < 256 ^ 4; omega)
  have e3 : A ++ (bldC t ++ C) = (A ++ ltr t.id ++ putR t.l 4) ++ (t.d ++ ((if (t.l : Int) % 2 = 1 then [0] else []) ++ C)) := by rw [e1]; simp only [List.append_assoc]
  have l3 : (A ++ ltr t.id ++ putR t.l 4).length = A.length + 8 := by rw [List.length_append, l2, put4_len]
  have c3 : cutB (A ++ (bldC t ++ C)) (A.length + 8) t.l = t.d := by
    rw [e3, ← l3, ← h2, cut_mid]
  have p4 : ((A.length : Int) + 4).toNat = A.length + 4 := by omega
  have p8 : ((A.length : Int) + 8).toNat = A.length + 8 := by omega
  refine ⟨?_, ?_, ?_⟩
  · unfold chunkE
    rw [Int.toNat_natCast, p4, c1, c2, if_neg (by omega), if_neg (by rw [h1]; decide), if_neg (by omega), if_neg (by omega), if_neg ?_]
    rintro ⟨k1, k2⟩
    refine k2 ?_
    have e5 : A ++ (bldC t ++ C) = (A ++ ltr t.id ++ putR t.l 4 ++ t.d) ++ 0 :: C := by rw [e1, if_pos k1]; simp only [List.append_assoc, List.singleton_append]
    have l5 : (A ++ ltr t.id ++ putR t.l 4 ++ t.d).length = ((A.length : Int) + 8 + t.l).toNat := by rw [List.length_append, l3, h2]; omega
    rw [e5, ← l5, getD_mid]
  · unfold chunkI
    rw [Int.toNat_natCast, p4, p8, c1, c2, Int.toNat_natCast, c3]
  · unfold stepP
    rw [p4, c2, List.length_append]
    omega
theorem go_back : ∀ {ts : List CK} {A : List Int} {acc : List (List Int × List Int)} {k : Nat}, (∀ t ∈ ts, GoodC t) → acc.length + ts.length ≤ 1024 → (ts.flatMap bldC).length < k →
    goK (A ++ ts.flatMap bldC) k A.length acc = (0, ((A ++ ts.flatMap bldC).length : Int), acc ++ ts.map fun t => (ltr t.id, t.d))
  | [], A, acc, k, _, _, hk => by
    rw [goK_eq (by omega), if_neg (by simp)]
    simp
  | t :: ts, A, acc, k, hg, hn, hk => by
    have ht := hg t (List.mem_cons_self ..)
    have hl := bldC_len ht
    obtain ⟨c1, c2, c3⟩ := chunk_at (A := A) (C := ts.flatMap bldC) ht
    rw [List.flatMap_cons] at hk ⊢
    rw [List.length_append] at hk
    rw [goK_eq (by omega), if_pos (by simp only [List.length_append]; omega), if_neg (by simp only [List.length_cons] at hn; omega), if_neg (by rw [c1]; decide), c2, c3]
    rw [← List.append_assoc]
    rw [go_back (fun u hu => hg u (List.mem_cons_of_mem _ hu)) (by simp only [List.length_append, List.length_cons, List.length_nil] at hn ⊢; omega) (by omega)]
    rw [List.append_assoc acc, List.map_cons, List.singleton_append]
theorem bldR_len {kind : ByteArray} {ts : List CK} (hk : idR (ltr kind) = true) (hg : ∀ t ∈ ts, GoodC t) : ((bldR kind ts).length : Int) = 12 + sizeK ts := by
  have k4 := (idR_iff.1 hk).1
  have hb := body_len hg
  unfold bldR
  simp only [List.length_append, put4_len, k4, List.length_cons, List.length_nil]
  omega
theorem back {kind : ByteArray} {ts : List CK} (hk : idR (ltr kind) = true) (hg : ∀ t ∈ ts, GoodC t) (hn : ts.length ≤ 1024) (hs : 12 + sizeK ts ≤ 4194304) :
    parseR (bldR kind ts) = (0, ((bldR kind ts).length : Int), ltr kind, ts.map fun t => (ltr t.id, t.d)) := by
  have k4 := (idR_iff.1 hk).1
  have hb := body_len hg
  have e1 : bldR kind ts = [70, 79, 82, 77] ++ (putR (sizeK ts + 4) 4 ++ (ltr kind ++ ts.flatMap bldC)) := by unfold bldR; simp only [List.append_assoc]
  have hN : ((bldR kind ts).length : Int) = 12 + sizeK ts := by
    rw [e1]; simp only [List.length_append, put4_len, k4]; simp only [List.length_cons, List.length_nil]; omega
  have hs0 := (sizeK_bd ts).1
  have c1 : be (bldR kind ts) 4 4 = sizeK ts + 4 := by
    have := be_put [70, 79, 82, 77] (ltr kind ++ ts.flatMap bldC) (sizeK ts + 4) 4 (by decide)
    rw [← e1] at this
    exact this.trans (Int.emod_eq_of_lt (by omega) (by show sizeK ts + 4 < 256 ^ 4; omega))
  have e2 : bldR kind ts = ([70, 79, 82, 77] ++ putR (sizeK ts + 4) 4) ++ (ltr kind ++ ts.flatMap bldC) := by rw [e1]; simp only [List.append_assoc]
  have c2 : cutB (bldR kind ts) 8 4 = ltr kind := by
    have := cut_mid ([70, 79, 82, 77] ++ putR (sizeK ts + 4) 4) (ltr kind) (ts.flatMap bldC)
    rw [← e2, k4] at this
    exact this
  have hh : headR (bldR kind ts) = (0, 0) := by
    unfold headR
    rw [if_neg (by omega), if_neg ?_, if_neg (by omega), c1, if_neg (by omega), c2, if_neg (by rw [hk]; decide)]
    rw [show min (bldR kind ts).length 4 = 4 by omega, e1]
    exact not_not_intro rfl
  have hgo : goK (bldR kind ts) (bldR kind ts).length 12 [] = (0, ((bldR kind ts).length : Int), ts.map fun t => (ltr t.id, t.d)) := by
    have e3 : bldR kind ts = ([70, 79, 82, 77] ++ putR (sizeK ts + 4) 4 ++ ltr kind) ++ ts.flatMap bldC := by rw [e1]; simp only [List.append_assoc]
    have l3 : ([70, 79, 82, 77] ++ putR (sizeK ts + 4) 4 ++ ltr kind).length = 12 := by simp only [List.length_append, put4_len, k4]; rfl
    have := go_back (A := [70, 79, 82, 77] ++ putR (sizeK ts + 4) 4 ++ ltr kind) (acc := []) (k := (bldR kind ts).length) hg (by simpa using hn) (by omega)
    rw [← e3, l3] at this
    exact this
  rw [parse_go (by rw [hh]) hgo, if_neg (by decide), c2]

end Go.Proofs.Ytkmkbpnlccomnaa
