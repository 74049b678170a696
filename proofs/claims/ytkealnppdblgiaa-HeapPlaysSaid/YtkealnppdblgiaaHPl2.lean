/- The least free place, as the document tells it: plain laws. No statement of the seat is proved in this text. -/
import Derived.Test.YtkealnppdblgiaaHPl1
set_option linter.unusedVariables false
set_option linter.unusedSimpArgs false
set_option maxHeartbeats 4000000
namespace Go.Proofs.Ytkealnppdblgiaa
open GAb Go

/-- Touches no block of them. -/
def freeAt (bl : List (Int × Int)) (a n : Int) : Prop := ∀ b ∈ bl, ¬ (a < b.1 + b.2 ∧ b.1 < a + n)
theorem rightL_all {en : Int} : ∀ {bl : List (Int × Int)} {q : Int}, BlkOK bl → rightL en q bl = true → ∀ b ∈ bl, q ≤ b.1 ∧ 0 < b.2
  | [], q, _, _ => fun b h => (by cases h)
  | x :: bl, q, hB, h => by
    obtain ⟨⟨a1, a2⟩, ⟨a3, a4⟩⟩ := hB x (by simp)
    simp only [rightL] at h
    split at h
    · cases h
    intro b hb
    rcases List.mem_cons.1 hb with rfl | hb
    · omega
    · have := rightL_all (fun x hx => hB x (by simp [hx])) h b hb
      omega
theorem placeR_spec {en n : Int} (hn : 0 < n) : ∀ {bl : List (Int × Int)} {q : Int}, BlkOK bl → rightL en q bl = true →
    ((placeR n q bl).1 = q ∨ ∃ b ∈ bl, (placeR n q bl).1 = b.1 + b.2) ∧ freeAt bl (placeR n q bl).1 n ∧
      (∀ a, (a = q ∨ ∃ b ∈ bl, a = b.1 + b.2) → freeAt bl a n → (placeR n q bl).1 ≤ a)
  | [], q, _, _ => by
    refine ⟨.inl rfl, fun b h => (by cases h), fun a h _ => ?_⟩
    rcases h with rfl | ⟨b, h, _⟩
    · exact Int.le_refl _
    · cases h
  | b :: bl, q, hB, h => by
    obtain ⟨⟨a1, a2⟩, ⟨a3, a4⟩⟩ := hB b (by simp)
    have hB' : BlkOK bl := fun x hx => hB x (by simp [hx])
    have hall := rightL_all hB h
    simp only [rightL] at h
    split at h
    · cases h
    rename_i hb
    have hall2 := rightL_all hB' h
    rw [placeR]
    split
    · rename_i hq
      refine ⟨.inl rfl, fun x hx => ?_, fun a ha _ => ?_⟩
      · rcases List.mem_cons.1 hx with rfl | hx
        · dsimp only; omega
        · have := hall2 x hx; dsimp only; omega
      · rcases ha with rfl | ⟨x, hx, rfl⟩
        · exact Int.le_refl _
        · have := hall x hx; dsimp only; omega
    · rename_i hq
      obtain ⟨h1, h2, h3⟩ := placeR_spec hn hB' h
      have hp := (placeR_in (n := n) hB' h).1
      refine ⟨?_, fun x hx => ?_, fun a ha hf => ?_⟩
      · rcases h1 with h1 | ⟨x, hx, h1⟩
        · exact .inr ⟨b, by simp, h1⟩
        · exact .inr ⟨x, by simp [hx], h1⟩
      · rcases List.mem_cons.1 hx with rfl | hx
        · dsimp only; omega
        · exact h2 x hx
      · have hf' : freeAt bl a n := fun x hx => hf x (by simp [hx])
        rcases ha with rfl | ⟨x, hx, rfl⟩
        · exfalso; exact hf b (by simp) (by omega)
        · rcases List.mem_cons.1 hx with rfl | hx
          · exact h3 _ (.inl rfl) hf'
          · exact h3 _ (.inr ⟨x, hx, rfl⟩) hf'
end Go.Proofs.Ytkealnppdblgiaa
