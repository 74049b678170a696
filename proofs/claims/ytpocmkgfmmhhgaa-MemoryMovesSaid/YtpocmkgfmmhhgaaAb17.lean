/- From what comes in to the abstract heap: a slice of numbers is a row that is only read. No statement of the seat is proved in this text. -/
import Derived.Test.YtpocmkgfmmhhgaaAb16
set_option linter.unusedVariables false
set_option linter.unusedSimpArgs false
namespace GAb
open Go Go.RowKit

/-- What is told of a slice of numbers that came in. -/
def IsRow (k : IntKind) (w : World) (a : Option Addr) (len cap : Nat) (zs : List Int) : Prop :=
  (a = none ∧ len = 0 ∧ cap = 0 ∧ zs = []) ∨
  ∃ x, a = some x ∧ len ≤ cap ∧ cap ≤ maxLen ∧ zs.length = cap ∧ (∀ i, i < zs.length → w.cell? (x.add i) = some (.int k (zs.getD i 0))) ∧ ∀ n ∈ zs, (Lit.int k n).wf = true

def Ro (σ : AState) : Prop := ∀ n b, σ.get n = some b → b.ro = true
theorem ro_empty : Ro empty := fun n b h => by rw [get_empty] at h; cases h

theorem hrel_cells {φ : Ren} {σ : AState} {w : World} (h : HRel φ σ w) (hro : Ro σ) {g o es : Nat} {cs : Array Value} {e : TypeId} {fz : Nat × Nat} (hg : w.heap[g]? = some (.cells cs e fz)) {vs : List Value} (hle : o + vs.length ≤ cs.size) (hv : LRel φ vs ((cs.toList.drop o).take vs.length)) :
    HRel (φ.up σ.next ⟨g, o, cs.size, es⟩) (σ.alloc ⟨vs, es, true⟩) w ∧ Ren.le φ (φ.up σ.next ⟨g, o, cs.size, es⟩) ∧ Ro (σ.alloc ⟨vs, es, true⟩) := by
  have hle1 : Ren.le φ (φ.up σ.next ⟨g, o, cs.size, es⟩) := Ren.le_up (h.fresh _ (Nat.le_refl _)) _
  have hget : ∀ n b, (σ.alloc ⟨vs, es, true⟩).get n = some b → (n = σ.next ∧ b = ⟨vs, es, true⟩) ∨ (n ≠ σ.next ∧ σ.get n = some b) := fun n b hb => by
    rw [AState.get_alloc] at hb
    split at hb
    · rename_i hn; injection hb with hb; exact .inl ⟨hn.symm, hb.symm⟩
    · rename_i hn; exact .inr ⟨fun e => hn e.symm, hb⟩
  refine ⟨⟨?_, ?_, ?_, ?_, ?_⟩, hle1, ?_⟩
  · intro n hn
    have : σ.next + 1 ≤ n := hn
    unfold Ren.up
    rw [if_neg (by omega)]
    exact h.fresh n (by omega)
  · intro n hn
    have : σ.next + 1 ≤ n := hn
    rw [AState.get_alloc, if_neg (by omega)]
    exact h.dead n (by omega)
  · intro n b hb
    rcases hget n b hb with ⟨rfl, rfl⟩ | ⟨hn, hb⟩
    · exact .inl ⟨_, cs, e, fz, by unfold Ren.up; rw [if_pos rfl], hg, rfl, rfl, hle, hv.mono hle1, fun h => by cases h⟩
    · rcases h.blk n b hb with ⟨p, cs', e', fz', h1, h2, h3, h4, h5, h6, h7⟩ | hB
      · exact .inl ⟨p, cs', e', fz', hle1 _ _ h1, h2, h3, h4, h5, h6.mono hle1, h7⟩
      · exact .inr (hB.mv hle1 fun _ _ _ => rfl)
  · intro n m bn bm p q hn hm hf _ _ _
    rcases hget n bn hn with ⟨rfl, rfl⟩ | ⟨_, hb⟩
    · cases hf
    · rw [hro n bn hb] at hf; cases hf
  · intro n p hp
    unfold Ren.up at hp
    split at hp
    · injection hp with hp
      subst hp
      exact (Array.getElem?_eq_some_iff.1 hg).1
    · exact h.lt n p hp
  · intro n b hb
    rcases hget n b hb with ⟨_, rfl⟩ | ⟨_, hb⟩
    · rfl
    · exact hro n b hb

theorem hrel_row {φ : Ren} {σ : AState} {w : World} (h : HRel φ σ w) (hro : Ro σ) {k : IntKind} {a : Option Addr} {len cap : Nat} {zs : List Int} (hw : IsRow k w a len cap zs) :
    ∃ φ' σ' x, HRel φ' σ' w ∧ Ro σ' ∧ Ren.le φ φ' ∧ Kp σ.next σ σ' ∧ VRel φ' (.slice x len cap) (.slice a len cap) ∧ Row σ' x len cap 1 (zs.map (.int k)) := by
  rcases hw with ⟨rfl, rfl, rfl, rfl⟩ | ⟨x, rfl, hl, hm, hz, hc, hwf⟩
  · exact ⟨φ, σ, none, h, hro, .refl _, Kp.refl _ _, .sliceNone, .inl ⟨rfl, rfl, rfl, rfl⟩⟩
  by_cases h0 : cap = 0
  · have hl0 : len = 0 := by omega
    subst h0; subst hl0
    have : zs = [] := List.eq_nil_of_length_eq_zero hz
    subst this
    exact ⟨φ, σ, some ⟨0, 0, some 0⟩, h, hro, .refl _, Kp.refl _ _, .sliceE _ _, .inr ⟨0, 0, some 0, rfl, .inl ⟨rfl, rfl, rfl, rfl⟩⟩⟩
  have hx0 := hc 0 (by omega)
  have hsp : x.spot = none := by
    have := World.cell?_spot hx0
    rw [show x.add 0 = x by unfold Addr.add; split <;> simp_all] at this
    exact this
  obtain ⟨g, o, sp⟩ := x
  simp only at hsp
  subst hsp
  have hcell : ∀ i, i < cap → ∃ cs e fz, w.heap[g]? = some (.cells cs e fz) ∧ cs[o + i]? = some (.int k (zs.getD i 0)) := fun i hi => by
    have := hc i (by omega)
    rw [add_plain] at this
    unfold World.cell? at this
    simp only at this
    split at this
    · rename_i cs e fz hg
      exact ⟨cs, e, fz, hg, this⟩
    · cases this
  obtain ⟨cs, e, fz, hg, _⟩ := hcell 0 (by omega)
  have hat : ∀ i, i < cap → cs[o + i]? = some (.int k (zs.getD i 0)) := fun i hi => by
    obtain ⟨cs', e', fz', h1, h2⟩ := hcell i hi
    rw [hg] at h1
    injection h1 with h1
    injection h1 with h1 _ _
    subst h1
    exact h2
  have hsz : o + cap ≤ cs.size := by
    have := hat (cap - 1) (by omega)
    obtain ⟨h1, _⟩ := Array.getElem?_eq_some_iff.1 this
    omega
  have hlen : (zs.map (Value.int k)).length = cap := by simpa using hz
  obtain ⟨r1, r2, r3⟩ := hrel_cells (o := o) (es := 1) (vs := zs.map (.int k)) h hro hg (by omega) (by
    refine LRel.of_get (by simp; omega) fun i v u h1 h2 => ?_
    rw [hlen, List.getElem?_take] at h2
    split at h2
    · rename_i hi
      rw [List.getElem?_drop] at h2
      have h3 := hat i hi
      rw [← Array.getElem?_toList, h2] at h3
      injection h3 with h3
      subst h3
      have hi' : i < zs.length := by omega
      simp [hi'] at h1
      subst h1
      simp only [List.getD, List.getElem?_eq_getElem hi', Option.getD_some]
      exact .int _ _
    · cases h2)
  refine ⟨_, _, some ⟨σ.next, 0, none⟩, r1, r3, r2, Kp.alloc _ (Nat.le_refl _), ?_, ?_⟩
  · have := VRel.slice (φ := φ.up σ.next ⟨g, o, cs.size, 1⟩) (n := σ.next) (o := 0) (len := len) (cap := cap) (cap' := cap) (Ren.up_self _ _ _) (Nat.le_refl _) (by simp only; omega)
    simpa using this
  · exact .inr ⟨σ.next, 0, none, rfl, .inr ⟨.inl rfl, Nat.lt_succ_self _, hl, _, by rw [AState.get_alloc, if_pos rfl], rfl, by simp only; omega, by simp only [List.drop_zero]; exact List.take_of_length_le (by omega)⟩⟩

theorem law_of {P : Program} {D : Nat → Prop} {f : FuncId} {args : List Value} {args' : List Value} {φ : Ren} {σ : AState} {w : World} (hr : HRel φ σ w) (hro : Ro σ) (ha : LRel φ args args') (h : SCall P D f args σ fun v _ => v = .bool true) :
    Calls P f args'.toArray w fun e w' => e = .returned (.bool true) ∧ Below w.heap.size w w' :=
  (h _ w args' hr ha).mono fun e w' ⟨v, σ', φ', u, he, hv, hu, hg⟩ => by
    subst hv
    have : u = .bool true := pf_eq rfl hu
    subst this
    exact ⟨he, below_of_ro hro hg⟩

end GAb
