/- What a call only reads, where it takes other pieces along. No statement of the seat is proved in this text. -/
import Derived.Test.YtddenboepgfbgaaAb25
set_option linter.unusedVariables false
set_option linter.unusedSimpArgs false
namespace GAb
open Go
variable {O : Nat → Prop} {σ0 σ : AState} {L : List Fact}
theorem pk_at {L : List Fact} {is : List Nat} {f : Fact} (h : f ∈ pk L is) : ∃ i ∈ is, L[i]? = some f := by
  rw [pk_eq, List.mem_filterMap] at h; exact h
theorem Facts.oldO (F : Facts O σ0 σ L) {a : Option Addr} {l c es : Nat} {vs : List Value} (h : Old O σ0 a l c es vs) (is : List Nat) : Old (fpOf (pk L is)) σ a l c es vs :=
  ⟨F.old h, fun m hm ⟨f, hf, hfm⟩ => by
    rcases F.fo f (pk_mem hf) m hfm with h1 | h1
    · exact h.2 m hm h1
    · have := h.1.nm_lt hm; omega⟩
theorem Facts.oldK (F : Facts O σ0 σ L) (is : List Nat) (k : Nat) {a : Option Addr} {l c es : Nat} {vs : List Value} (hk : L[k]? = some (own a l c es vs)) (hn : k ∉ is) : Old (fpOf (pk L is)) σ a l c es vs :=
  ⟨F.has k hk, fun m ⟨o, e, he, _⟩ ⟨f, hf, hfm⟩ => by
    obtain ⟨i, hi, hif⟩ := pk_at hf
    exact pw_at F.di (fun h : i = k => hn (h ▸ hi)) hif hk m hfm ⟨o, e, he⟩⟩
theorem Facts.oldCO (F : Facts O σ0 σ L) {m : Nat} {vs : List Value} (h : OldC O σ0 m vs) (is : List Nat) : OldC (fpOf (pk L is)) σ m vs :=
  ⟨F.oldc h, fun ⟨f, hf, hfm⟩ => by
    rcases F.fo f (pk_mem hf) m hfm with h1 | h1
    · exact h.2 h1
    · have := h.1.1; omega⟩
theorem Facts.oldCK (F : Facts O σ0 σ L) (is : List Nat) (k : Nat) {m : Nat} {vs : List Value} (hk : L[k]? = some (cel m vs)) (hn : k ∉ is) : OldC (fpOf (pk L is)) σ m vs :=
  ⟨F.ho _ (List.mem_of_getElem? hk), fun ⟨f, hf, hfm⟩ => by
    obtain ⟨i, hi, hif⟩ := pk_at hf
    exact pw_at F.di (fun h : i = k => hn (h ▸ hi)) hif hk m hfm rfl⟩
end GAb
