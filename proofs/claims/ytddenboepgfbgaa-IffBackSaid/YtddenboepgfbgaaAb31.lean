/- Many pieces as one. No statement of the seat is proved in this text. -/
import Derived.Test.YtddenboepgfbgaaAb30
set_option linter.unusedVariables false
set_option linter.unusedSimpArgs false
namespace GAb
open Go
def many (A : List Fact) : Fact where
  P σ := (∀ f ∈ A, f.P σ) ∧ A.Pairwise Apart
  fp := fpOf A
  lt := by
    rintro σ ⟨h, _⟩ m ⟨f, hf, hm⟩
    exact f.lt σ (h f hf) m hm
  st := by
    rintro σ σ' ⟨h, k⟩ hle he
    exact ⟨fun f hf => f.st σ σ' (h f hf) hle fun m hm => he m ⟨f, hf, hm⟩, k⟩
variable {O : Nat → Prop} {σ0 σ : AState} {L R A : List Fact} {f : Fact}
theorem Facts.nomany (F : Facts O σ0 σ L) : Facts O σ0 σ (many [] :: L) := by
  refine ⟨F.le, F.eq, fun g hg => ?_, fun g hg m hm => ?_, ?_⟩
  · rcases List.mem_cons.1 hg with rfl | hg
    · exact ⟨(fun f hf => by cases hf), List.Pairwise.nil⟩
    · exact F.ho g hg
  · rcases List.mem_cons.1 hg with rfl | hg
    · obtain ⟨f, hf, _⟩ := hm; cases hf
    · exact F.fo g hg m hm
  · exact List.pairwise_cons.2 ⟨(fun g _ m ⟨f, hf, _⟩ => by cases hf), F.di⟩
/-- One more comes to the many. -/
theorem Facts.join (F : Facts O σ0 σ (many A :: f :: R)) : Facts O σ0 σ (many (A ++ [f]) :: R) := by
  obtain ⟨h1, h2⟩ := List.pairwise_cons.1 F.di
  obtain ⟨h3, h4⟩ := List.pairwise_cons.1 h2
  have hA := F.ho (many A) (by simp)
  have hf := F.ho f (by simp)
  refine ⟨F.le, F.eq, fun g hg => ?_, fun g hg m hm => ?_, ?_⟩
  · rcases List.mem_cons.1 hg with rfl | hg
    · refine ⟨fun g hg => ?_, ?_⟩
      · rcases List.mem_append.1 hg with hg | hg
        · exact hA.1 g hg
        · rw [List.mem_singleton.1 hg]; exact hf
      · refine List.pairwise_append.2 ⟨hA.2, List.pairwise_singleton _ _, fun g hg g' hg' m k1 k2 => ?_⟩
        rw [List.mem_singleton.1 hg'] at k2
        exact h1 f (by simp) m ⟨g, hg, k1⟩ k2
    · exact F.ho g (by simp [hg])
  · rcases List.mem_cons.1 hg with rfl | hg
    · obtain ⟨g, hg, hm⟩ := hm
      rcases List.mem_append.1 hg with hg | hg
      · exact F.fo (many A) (by simp) m ⟨g, hg, hm⟩
      · rw [List.mem_singleton.1 hg] at hm
        exact F.fo f (by simp) m hm
    · exact F.fo g (by simp [hg]) m hm
  · refine List.pairwise_cons.2 ⟨fun g hg m ⟨g', hg', k1⟩ k2 => ?_, h4⟩
    rcases List.mem_append.1 hg' with hg' | hg'
    · exact h1 g (by simp [hg]) m ⟨g', hg', k1⟩ k2
    · rw [List.mem_singleton.1 hg'] at k1
      exact h3 g hg m k1 k2
/-- One of the many. -/
theorem Facts.hasM (F : Facts O σ0 σ L) (k : Nat) (hk : L[k]? = some (many A)) {a : Option Addr} {l c es : Nat} {vs : List Value} (hf : own a l c es vs ∈ A) : Has σ a l c es vs :=
  Own.has ((F.ho _ (List.mem_of_getElem? hk)).1 _ hf)
theorem Facts.manyK (F : Facts O σ0 σ L) (is : List Nat) (k : Nat) (hk : L[k]? = some (many A)) (hn : k ∉ is) {a : Option Addr} {l c es : Nat} {vs : List Value} (hf : own a l c es vs ∈ A) : Old (fpOf (pk L is)) σ a l c es vs :=
  ⟨F.hasM k hk hf, fun m ⟨o, e, ha, _⟩ ⟨g, hg, hgm⟩ => by
    rw [pk_eq, List.mem_filterMap] at hg
    obtain ⟨i, hi, hg⟩ := hg
    exact pw_at F.di (fun e => hn (by rw [← e]; exact hi)) hg hk m hgm ⟨_, hf, ⟨o, e, ha⟩⟩⟩
end GAb
namespace GAb
open Go Go.RowKit
theorem opn_strS {P : Program} {t : TypeId} (ht : P.underlying t = some .string) : Opn P t fun _ vs => ∃ s : ByteArray, vs = [.string s] ∧ s.size ≤ reachBytes :=
  ⟨fun _ _ _ h _ => h, fun hy hz => by
    obtain ⟨b, rfl, hy1, hb⟩ := DataW.trod_string ht hy
    refine comes_pf rfl fun _ => ⟨b, rfl, ?_⟩
    subst hy1
    unfold Szd at hz
    simpa [DataW.weights] using hz⟩
end GAb
