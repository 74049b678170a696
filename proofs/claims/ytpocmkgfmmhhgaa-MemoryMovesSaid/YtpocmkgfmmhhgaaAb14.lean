/- Rows in the abstract heap: what a slice shows, who may write it; the operations on rows by what they leave. No statement of the seat is proved in this text. -/
import Derived.Test.YtpocmkgfmmhhgaaAb13
set_option linter.unusedVariables false
set_option linter.unusedSimpArgs false
namespace GAb
open Go Go.RowKit

/-- All names below n0 are as they were. -/
structure Kp (n0 : Nat) (σ σ' : AState) : Prop where
  le : σ.next ≤ σ'.next
  eq : ∀ m, m < n0 → σ'.get m = σ.get m
theorem Kp.refl (n0 : Nat) (σ : AState) : Kp n0 σ σ := ⟨Nat.le_refl _, fun _ _ => rfl⟩
theorem Kp.trans {n0 : Nat} {σ σ1 σ2 : AState} (h : Kp n0 σ σ1) (k : Kp n0 σ1 σ2) : Kp n0 σ σ2 := ⟨Nat.le_trans h.le k.le, fun m hm => (k.eq m hm).trans (h.eq m hm)⟩
theorem Kp.weaken {n0 n1 : Nat} {σ σ' : AState} (h : Kp n1 σ σ') (hn : n0 ≤ n1) : Kp n0 σ σ' := ⟨h.le, fun m hm => h.eq m (Nat.lt_of_lt_of_le hm hn)⟩
theorem Kp.alloc {n0 : Nat} {σ : AState} (b : Blk) (h : n0 ≤ σ.next) : Kp n0 σ (σ.alloc b) := ⟨Nat.le_succ _, fun m hm => by rw [AState.get_alloc, if_neg (by omega)]⟩
theorem Kp.put {n0 n : Nat} {σ : AState} (b : Option Blk) (h : n0 ≤ n) : Kp n0 σ (σ.put n b) := ⟨Nat.le_refl _, fun m hm => by rw [AState.get_put, if_neg (by omega)]⟩

/-- A slice's row, with all the room that is known of. -/
def Row (σ : AState) (x : Option Addr) (len cap es : Nat) (zs : List Value) : Prop :=
  (x = none ∧ len = 0 ∧ cap = 0 ∧ zs = []) ∨
  ∃ n o e, x = some ⟨n, o, e⟩ ∧ ((len = 0 ∧ cap = 0 ∧ zs = [] ∧ e = some 0) ∨
    ((e = none ∨ e = some 0) ∧ n < σ.next ∧ len ≤ cap ∧ ∃ b, σ.get n = some b ∧ b.es = es ∧ o + cap * es ≤ b.cells.length ∧ (b.cells.drop o).take (cap * es) = zs))
/-- What a slice shows. -/
def Has (σ : AState) (x : Option Addr) (len cap es : Nat) (vs : List Value) : Prop := ∃ zs, Row σ x len cap es zs ∧ zs.take (len * es) = vs

theorem Row.size {σ : AState} {x : Option Addr} {len cap es : Nat} {zs : List Value} (h : Row σ x len cap es zs) : zs.length = cap * es ∧ len ≤ cap := by
  rcases h with ⟨_, rfl, rfl, rfl⟩ | ⟨n, o, e, _, ⟨rfl, rfl, rfl, _⟩ | ⟨_, _, hl, b, _, _, h1, h2⟩⟩
  · simp
  · simp
  · rw [← h2]; simp; omega
theorem Row.kp {n0 : Nat} {σ σ' : AState} {x : Option Addr} {len cap es : Nat} {zs : List Value} (h : Row σ x len cap es zs) (hn : σ.next ≤ n0) (k : Kp n0 σ σ') : Row σ' x len cap es zs := by
  rcases h with h | ⟨n, o, e, hx, h | ⟨h1, h2, h3, b, h4, h5⟩⟩
  · exact .inl h
  · exact .inr ⟨n, o, e, hx, .inl h⟩
  · exact .inr ⟨n, o, e, hx, .inr ⟨h1, Nat.lt_of_lt_of_le h2 k.le, h3, b, by rw [k.eq n (by omega)]; exact h4, h5⟩⟩
theorem Row.has {σ : AState} {x : Option Addr} {len cap es : Nat} {zs : List Value} (h : Row σ x len cap es zs) : Has σ x len cap es (zs.take (len * es)) := ⟨zs, h, rfl⟩
theorem Has.kp {n0 : Nat} {σ σ' : AState} {x : Option Addr} {len cap es : Nat} {vs : List Value} (h : Has σ x len cap es vs) (hn : σ.next ≤ n0) (k : Kp n0 σ σ') : Has σ' x len cap es vs := by
  obtain ⟨zs, h1, h2⟩ := h
  exact ⟨zs, h1.kp hn k, h2⟩
theorem Has.size {σ : AState} {x : Option Addr} {len cap es : Nat} {vs : List Value} (h : Has σ x len cap es vs) : vs.length = len * es := by
  obtain ⟨zs, h1, rfl⟩ := h
  obtain ⟨h2, h3⟩ := h1.size
  have := Nat.mul_le_mul_right es h3
  simp; omega

theorem rd_of {σ : AState} {n o k : Nat} {b : Blk} (h : σ.get n = some b) (hk : o + k ≤ b.cells.length) : rd σ n o k = some ((b.cells.drop o).take k) := by
  unfold rd; rw [h]; simp only; rw [if_pos hk]

/-- .. of which some cells are read. -/
theorem Has.rd {σ : AState} {x : Option Addr} {len cap es : Nat} {vs : List Value} (h : Has σ x len cap es vs) (hpos : 0 < len) :
    ∃ n o e, x = some ⟨n, o, e⟩ ∧ ∀ i k, i + k ≤ len * es → rd σ n (o + i) k = some ((vs.drop i).take k) := by
  obtain ⟨zs, h1, rfl⟩ := h
  rcases h1 with ⟨_, rfl, _⟩ | ⟨n, o, e, hx, ⟨rfl, _⟩ | ⟨_, _, hl, b, hb, _, h2, h3⟩⟩
  · omega
  · omega
  · refine ⟨n, o, e, hx, fun i k hk => ?_⟩
    have hle := Nat.mul_le_mul_right es hl
    rw [rd_of hb (by omega), ← h3]
    congr 1
    rw [List.take_take, Nat.min_eq_left hle, List.drop_take, List.take_take, Nat.min_eq_left (by omega), List.drop_drop]
theorem Has.cells {σ : AState} {x : Option Addr} {len cap es : Nat} {vs : List Value} (h : Has σ x len cap es vs) (n : Nat) (hn : n ≤ len) : aCells σ es n (.slice x len cap) = some (vs.take (n * es)) := by
  by_cases hl : len = 0
  · have hn0 : n = 0 := by omega
    subst hl; subst hn0
    obtain ⟨zs, h1, rfl⟩ := h
    rcases h1 with ⟨rfl, _, rfl, rfl⟩ | ⟨m, o, e, rfl, _⟩
    · simp [aCells]
    · simp [aCells]
  · obtain ⟨m, o, e, rfl, hr⟩ := h.rd (by omega)
    unfold aCells
    simp only [hn, if_true]
    have hle := Nat.mul_le_mul_right es hn
    by_cases hz : n * es = 0
    · rw [if_pos hz, hz]; simp
    · rw [if_neg hz]
      have := hr 0 (n * es) (by omega)
      simpa using this

/-- A row that this function has made, and alone knows. -/
def Own (n0 : Nat) (σ : AState) (x : Option Addr) (len cap es : Nat) (vs : List Value) : Prop :=
  n0 ≤ σ.next ∧ ((x = none ∧ len = 0 ∧ cap = 0 ∧ vs = []) ∨
  ∃ n e cs, x = some ⟨n, 0, e⟩ ∧ (e = none ∨ e = some 0) ∧ n0 ≤ n ∧ n < σ.next ∧ len ≤ cap ∧ σ.get n = some ⟨cs, es, false⟩ ∧ cs.length = cap * es ∧ cs.take (len * es) = vs)
theorem Own.nil {n0 es : Nat} {σ : AState} (h : n0 ≤ σ.next) : Own n0 σ none 0 0 es [] := ⟨h, .inl ⟨rfl, rfl, rfl, rfl⟩⟩
theorem Own.has {n0 : Nat} {σ : AState} {x : Option Addr} {len cap es : Nat} {vs : List Value} (h : Own n0 σ x len cap es vs) : Has σ x len cap es vs := by
  rcases h with ⟨_, ⟨rfl, rfl, rfl, rfl⟩ | ⟨n, e, cs, rfl, he, _, hn, hl, hg, hc, hv⟩⟩
  · exact ⟨[], .inl ⟨rfl, rfl, rfl, rfl⟩, by simp⟩
  · refine ⟨cs, .inr ⟨n, 0, e, rfl, .inr ⟨he, hn, hl, _, hg, rfl, by simp only; omega, ?_⟩⟩, hv⟩
    simp only [List.drop_zero]
    exact List.take_of_length_le (by omega)
theorem Own.weaken {n0 n1 : Nat} {σ : AState} {x : Option Addr} {len cap es : Nat} {vs : List Value} (h : Own n1 σ x len cap es vs) (hn : n0 ≤ n1) : Own n0 σ x len cap es vs := by
  rcases h with ⟨h0, h | ⟨n, e, cs, hx, he, h1, h2⟩⟩
  · exact ⟨by omega, .inl h⟩
  · exact ⟨by omega, .inr ⟨n, e, cs, hx, he, by omega, h2⟩⟩
theorem Own.le {n0 : Nat} {σ : AState} {x : Option Addr} {len cap es : Nat} {vs : List Value} (h : Own n0 σ x len cap es vs) : n0 ≤ σ.next := h.1
/-- .. through a call that leaves alone what there is. -/
theorem Own.kp {n0 n1 : Nat} {σ σ' : AState} {x : Option Addr} {len cap es : Nat} {vs : List Value} (h : Own n0 σ x len cap es vs) (hn : σ.next ≤ n1) (k : Kp n1 σ σ') : Own n0 σ' x len cap es vs := by
  rcases h with ⟨h0, h | ⟨n, e, cs, hx, he, h1, h2, h3, h4, h5⟩⟩
  · exact ⟨Nat.le_trans h0 k.le, .inl h⟩
  · exact ⟨Nat.le_trans h0 k.le, .inr ⟨n, e, cs, hx, he, h1, Nat.lt_of_lt_of_le h2 k.le, h3, by rw [k.eq n (by omega)]; exact h4, h5⟩⟩

theorem own_alloc {n0 es len cap : Nat} {σ : AState} {cs : List Value} (e : Option Nat) (he : e = none ∨ e = some 0) (h : n0 ≤ σ.next) (hc : cs.length = cap * es) (hl : len ≤ cap) : Own n0 (σ.alloc ⟨cs, es, false⟩) (some ⟨σ.next, 0, e⟩) len cap es (cs.take (len * es)) :=
  ⟨Nat.le_succ_of_le h, .inr ⟨σ.next, e, cs, rfl, he, h, Nat.lt_succ_self _, hl, by rw [AState.get_alloc, if_pos rfl], hc, rfl⟩⟩

theorem splice_at (cs ns : List Value) (o : Nat) (h : o + ns.length ≤ cs.length) : (splice cs o ns).take (o + ns.length) = cs.take o ++ ns := by
  unfold splice
  rw [← List.append_assoc]
  have : (cs.take o ++ ns).length = o + ns.length := by simp; omega
  rw [← this, List.take_left']
  rfl

/-- An append to a row of one's own. -/
theorem aTail_own {P : Program} {elem : TypeId} {n0 n len cap es by_ : Nat} {σ : AState} {x : Option Addr} {vs ns : List Value} {z : Value} (h : Own n0 σ x len cap es vs)
    (hz : tz P elem = some z) (hzs : z.cells.size = es) (hb : tby P elem = some by_) (hn : ns.length = n * es) (h1 : ns.all Value.oneCell' = true) (hbd : (len + n) * by_ ≤ 140737488355328 ∧ len + n ≤ 4611686018427387904) :
    ∃ x' cap' σ' wn, aTail P elem es n ns (.slice x len cap) σ = some (.slice x' (len + n) cap', σ', wn) ∧ (∀ m, wn = some m → n0 ≤ m) ∧ Own n0 σ' x' (len + n) cap' es (vs ++ ns) ∧ Kp n0 σ σ' := by
  have hvs := h.has.size
  rcases h with ⟨h0, ⟨rfl, rfl, rfl, rfl⟩ | ⟨m, e, cs, rfl, he, h2, h3, h4, h5, h6, h7⟩⟩
  · unfold aTail
    simp only [hz, hb, hzs, hn, h1, and_self, if_true]
    by_cases hn0 : n = 0
    · subst hn0
      have : ns = [] := List.eq_nil_of_length_eq_zero (by simpa using hn)
      subst this
      exact ⟨none, 0, σ, none, by simp, (fun _ h => by cases h), ⟨h0, .inl ⟨rfl, rfl, rfl, rfl⟩⟩, Kp.refl _ _⟩
    · rw [if_neg hn0, if_pos (by simpa using hbd)]
      refine ⟨_, _, _, _, by rw [Nat.zero_add], (fun _ h => by cases h), ?_, Kp.alloc _ h0⟩
      have := own_alloc (n0 := n0) (len := n) (cap := n) (σ := σ) none (.inl rfl) h0 hn (Nat.le_refl _)
      rw [List.take_of_length_le (by omega)] at this
      simpa using this
  · unfold aTail
    simp only [hz, hb, hzs, hn, h1, and_self, if_true]
    have hle := Nat.mul_le_mul_right es h4
    by_cases hfit : len + n ≤ cap
    · rw [if_pos hfit]
      have hf2 := Nat.mul_le_mul_right es hfit
      rw [Nat.add_mul] at hf2
      cases ns with
      | nil =>
        have hz0 : n * es = 0 := by simpa using hn.symm
        refine ⟨_, _, _, _, rfl, (fun _ h => by cases h), ⟨h0, .inr ⟨m, e, cs, rfl, he, h2, h3, hfit, h5, h6, ?_⟩⟩, Kp.refl _ _⟩
        rw [Nat.add_mul, hz0, Nat.add_zero, List.append_nil]; exact h7
      | cons y ys =>
        simp only [Nat.zero_add]
        unfold wr
        rw [h5]
        simp only
        rw [if_pos ⟨trivial, by rw [hn]; omega, h1⟩]
        refine ⟨_, _, _, _, rfl, (fun k h => by injection h with h; subst h; exact h2), ⟨h0, .inr ⟨m, e, _, rfl, he, h2, h3, hfit, by rw [AState.get_put, if_pos rfl], ?_, ?_⟩⟩, Kp.put _ h2⟩
        · rw [splice_length (by rw [hn]; omega)]; exact h6
        · rw [Nat.add_mul, ← hn, splice_at _ _ _ (by rw [hn]; omega), h7]
    · rw [if_neg hfit, if_pos hbd]
      rcases he with rfl | rfl
      · simp only [h5]
        rw [if_pos ⟨trivial, trivial, by omega⟩]
        refine ⟨_, _, _, _, rfl, (fun k h => by injection h with h; subst h; exact h2), ?_, (Kp.put _ h2).trans (Kp.alloc _ h0)⟩
        rw [List.drop_zero, h7]
        have := own_alloc (n0 := n0) (len := len + n) (cap := len + n) (σ := σ.put m none) (cs := vs ++ ns) (es := es) none (.inl rfl) h0 (by rw [List.length_append, hvs, hn, Nat.add_mul]) (Nat.le_refl _)
        rw [List.take_of_length_le (by rw [List.length_append, hvs, hn, Nat.add_mul]; omega)] at this
        exact this
      · have hown : Own n0 σ (some ⟨m, 0, some 0⟩) len cap es vs := ⟨h0, .inr ⟨m, some 0, cs, rfl, .inr rfl, h2, h3, h4, h5, h6, h7⟩⟩
        simp only [hown.has.cells len (Nat.le_refl _), Option.map_some]
        refine ⟨_, _, _, _, rfl, (fun k h => by cases h), ?_, Kp.alloc _ h0⟩
        rw [List.take_of_length_le (by omega)]
        have := own_alloc (n0 := n0) (len := len + n) (cap := len + n) (σ := σ) (cs := vs ++ ns) (es := es) none (.inl rfl) h0 (by rw [List.length_append, hvs, hn, Nat.add_mul]) (Nat.le_refl _)
        rw [List.take_of_length_le (by rw [List.length_append, hvs, hn, Nat.add_mul]; omega)] at this
        exact this

end GAb
