/- What comes in as a slice of structs: each element by its cells, the slice as a row that is only read. No statement of the seat is proved in this text. -/
import Derived.Test.YtocfmecenpeoiaaGreatAb18
import Derived.ChangeArms
import Derived.DataReads
set_option linter.unusedVariables false
set_option linter.unusedSimpArgs false
namespace GAb
open Go Go.RowKit

/-- Cells, and what they are to be told of behind the abstract heap: E. -/
def Comes (w : World) (E : AState → List Value → Prop) (cs : List Value) : Prop :=
  ∀ φ σ, HRel φ σ w → Ro σ → ∃ φ' σ' vs, HRel φ' σ' w ∧ Ro σ' ∧ Ren.le φ φ' ∧ Kp σ.next σ σ' ∧ LRel φ' vs cs ∧ E σ' vs

theorem comes_pf {w : World} {E : AState → List Value → Prop} {cs : List Value} (h : cs.all flat = true) (hE : ∀ σ, E σ cs) : Comes w E cs :=
  fun φ σ hr ro => ⟨φ, σ, cs, hr, ro, .refl _, Kp.refl _ _, flat_cells h, hE σ⟩
theorem comes_row {w : World} {E : AState → List Value → Prop} {k : IntKind} {a : Option Addr} {len cap : Nat} {zs : List Int} (hw : IsRow k w a len cap zs) (hE : ∀ σ x, Row σ x len cap 1 (zs.map (.int k)) → E σ [.slice x len cap]) : Comes w E [.slice a len cap] :=
  fun φ σ hr ro => by
    obtain ⟨φ', σ', x, h1, h2, h3, h4, h5, h6⟩ := hrel_row hr ro hw
    exact ⟨φ', σ', [.slice x len cap], h1, h2, h3, h4, .cons h5 .nil, hE σ' x h6⟩
theorem comes_append {w : World} {E F G : AState → List Value → Prop} {cs ds : List Value} (h : Comes w E cs) (k : Comes w F ds) (hK : ∀ σ σ' vs, E σ vs → Kp σ.next σ σ' → E σ' vs) (hG : ∀ σ vs us, E σ vs → F σ us → G σ (vs ++ us)) : Comes w G (cs ++ ds) :=
  fun φ σ hr ro => by
    obtain ⟨φ1, σ1, vs, h1, h2, h3, h4, h5, h6⟩ := h φ σ hr ro
    obtain ⟨φ2, σ2, us, k1, k2, k3, k4, k5, k6⟩ := k φ1 σ1 h1 h2
    exact ⟨φ2, σ2, vs ++ us, k1, k2, h3.trans k3, h4.trans (k4.weaken h4.le), (h5.mono k3).append k5, hG σ2 vs us (hK _ _ _ h6 k4) k6⟩
theorem comes_mono {w : World} {E F : AState → List Value → Prop} {cs : List Value} (h : Comes w E cs) (hF : ∀ σ vs, E σ vs → F σ vs) : Comes w F cs :=
  fun φ σ hr ro => by
    obtain ⟨φ1, σ1, vs, h1, h2, h3, h4, h5, h6⟩ := h φ σ hr ro
    exact ⟨φ1, σ1, vs, h1, h2, h3, h4, h5, hF _ _ h6⟩

/-- Elements one behind the other. -/
def Els (es : Nat) (E : AState → List Value → Prop) (σ : AState) (n : Nat) (vs : List Value) : Prop := vs.length = n * es ∧ ∀ i, i < n → E σ ((vs.drop (i * es)).take es)
theorem Els.kp {es : Nat} {E : AState → List Value → Prop} (hK : ∀ σ σ' vs, E σ vs → Kp σ.next σ σ' → E σ' vs) {σ σ' : AState} {n : Nat} {vs : List Value} (h : Els es E σ n vs) (k : Kp σ.next σ σ') : Els es E σ' n vs := ⟨h.1, fun i hi => hK _ _ _ (h.2 i hi) k⟩
theorem comes_els {w : World} {es : Nat} {E : AState → List Value → Prop} (hK : ∀ σ σ' vs, E σ vs → Kp σ.next σ σ' → E σ' vs) : ∀ (n : Nat) (cs : List Value), cs.length = n * es → (∀ i, i < n → Comes w E ((cs.drop (i * es)).take es)) → Comes w (fun σ vs => Els es E σ n vs) cs
  | 0, cs, hl, _ => by
    have : cs = [] := List.eq_nil_of_length_eq_zero (by simpa using hl)
    subst this
    exact comes_pf rfl fun σ => ⟨by simp, fun i hi => by omega⟩
  | n + 1, cs, hl, h => by
    have hlen : (cs.take (n * es)).length = n * es := by rw [List.length_take, hl, Nat.add_mul]; omega
    have ih := comes_els hK n (cs.take (n * es)) hlen fun i hi => by
      have := h i (by omega)
      have hle : i * es + es ≤ n * es := by have := Nat.mul_le_mul_right es (show i + 1 ≤ n by omega); rw [Nat.add_mul, Nat.one_mul] at this; exact this
      rw [List.drop_take, List.take_take, Nat.min_eq_left (by omega)]
      exact this
    have hl1 : cs.drop (n * es) = (cs.drop (n * es)).take es := by
      rw [List.take_of_length_le]
      rw [List.length_drop, hl, Nat.add_mul]; omega
    have key := comes_append (G := fun σ vs => Els es E σ (n + 1) vs) ih (comes_mono (F := fun σ vs => E σ vs ∧ vs.length = es) (E := fun σ vs => E σ vs ∧ vs.length = es) (cs := cs.drop (n * es)) (fun φ σ hr ro => by
      obtain ⟨φ1, σ1, vs, h1, h2, h3, h4, h5, h6⟩ := h n (by omega) φ σ hr ro
      rw [← hl1] at h5
      refine ⟨φ1, σ1, vs, h1, h2, h3, h4, h5, h6, ?_⟩
      rw [h5.length, List.length_drop, hl, Nat.add_mul]; omega) fun _ _ h => h) (fun σ σ' vs h k => h.kp hK k) (fun σ vs us h k => ?_)
    · rwa [List.take_append_drop] at key
    · obtain ⟨k1, k2⟩ := k
      refine ⟨by rw [List.length_append, h.1, k2, Nat.add_mul]; omega, fun i hi => ?_⟩
      rcases Nat.lt_or_ge i n with hin | hin
      · have hle : i * es + es ≤ n * es := by have := Nat.mul_le_mul_right es (show i + 1 ≤ n by omega); rw [Nat.add_mul, Nat.one_mul] at this; exact this
        rw [List.drop_append_of_le_length (by rw [h.1]; omega), List.take_append_of_le_length (by rw [List.length_drop, h.1]; omega)]
        exact h.2 i hin
      · have : i = n := by omega
        subst this
        rw [← h.1, List.drop_left, List.take_of_length_le (by omega)]
        exact k1

theorem wall_mem {H : Type} {P : Program} {e : TypeId} {d : DataW H} {n : Nat} (hn : n ∈ d.weights P e) : ∀ {l : List (DataW H)}, d ∈ l → n ∈ DataW.weightsAll P e l
  | x :: l, h => by
    simp only [DataW.weightsAll]
    rcases List.mem_cons.1 h with rfl | h
    · exact List.mem_append_left _ hn
    · exact List.mem_append_right _ (wall_mem hn h)
/-- Every slice and string in it is within reach. -/
def Szd {H : Type} (P : Program) (t : TypeId) (d : DataW H) : Prop := (d.weights P t).all (· ≤ reachBytes) = true
theorem szd_slice {H : Type} {P : Program} {t e : TypeId} {xs ys : List (DataW H)} (ht : P.underlying t = some (.slice e)) (h : Szd P t (.slice xs ys)) : (xs.length + ys.length) * P.bytesOf e ≤ reachBytes ∧ ∀ d, d ∈ xs ∨ d ∈ ys → Szd P e d := by
  unfold Szd at h
  simp only [DataW.weights, ht, List.all_cons, List.all_append, Bool.and_eq_true, decide_eq_true_eq] at h
  obtain ⟨h1, h2, h3⟩ := h
  refine ⟨h1, fun d hd => List.all_eq_true.2 fun n hn => ?_⟩
  rcases hd with hd | hd
  · exact List.all_eq_true.1 h2 n (wall_mem hn hd)
  · exact List.all_eq_true.1 h3 n (wall_mem hn hd)
/-- The slice itself. -/
theorem hrel_slice {H : Type} {enc : TypeId × Value → H} {P : Program} {w : World} {base fuel : Nat} {held : Bool} {t e : TypeId} {cs : List Value} {y : DataW H × List MemPlace} (ht : P.underlying t = some (.slice e)) {es : Nat} (hes : P.cellsOf e = es) (hpos : 0 < es) (h : DataW.trod enc P w base (fun _ => true) held fuel t cs = some y)
    (hz : Szd P t y.1) {E : AState → List Value → Prop} (hK : ∀ σ σ' vs, E σ vs → Kp σ.next σ σ' → E σ' vs) (hE : ∀ n xs z, DataW.trod enc P w base (fun _ => true) held n e xs = some z → Szd P e z.1 → xs.length = es → Comes w E xs) :
    Comes w (fun σ vs => ∃ x len cap zs, vs = [.slice x len cap] ∧ Row σ x len cap es zs ∧ Els es E σ cap zs ∧ cap * P.bytesOf e ≤ reachBytes) cs := by
  subst hes
  rcases DataW.trod_slice ht h with ⟨rfl, _⟩ | ⟨a, len, cap, elems, rest, n, _, rfl, rfl, hb, hl, hm, hlen, hel, hsp, _⟩
  · exact comes_pf rfl fun σ => ⟨none, 0, 0, [], rfl, .inl ⟨rfl, rfl, rfl, rfl⟩, ⟨by simp, fun i hi => by omega⟩, by rw [Nat.zero_mul]; exact Nat.zero_le _⟩
  by_cases hc0 : cap = 0
  · subst hc0
    have : len = 0 := by omega
    subst this
    exact fun φ σ hr ro => ⟨φ, σ, [.slice (some ⟨0, 0, some 0⟩) 0 0], hr, ro, .refl _, Kp.refl _ _, .cons (.sliceE _ _) .nil, _, 0, 0, [], rfl, .inr ⟨0, 0, some 0, rfl, .inl ⟨rfl, rfl, rfl, rfl⟩⟩, ⟨by simp, fun i hi => by omega⟩, by rw [Nat.zero_mul]; exact Nat.zero_le _⟩
  obtain ⟨hrl, hre⟩ := hsp rfl
  obtain ⟨hz1, hz2⟩ := szd_slice ht hz
  have hm : cap * P.bytesOf e ≤ reachBytes := by
    simp only [List.length_map] at hz1
    rw [hlen, hrl, show len + (cap - len) = cap by omega] at hz1; exact hz1
  -- every element's cells
  have each : ∀ i, i < cap → ∃ xs z, w.cells? base (a.add (i * P.cellsOf e)) (P.cellsOf e) = some xs ∧ DataW.trod enc P w base (fun _ => true) held n e xs = some z ∧ Szd P e z.1 := fun i hi => by
    by_cases hil : i < len
    · have h1 := hel i hil
      rw [List.getElem?_eq_getElem (show i < elems.length by omega)] at h1
      cases hx : w.cells? base (a.add (i * P.cellsOf e)) (P.cellsOf e) with
      | none => rw [hx] at h1; cases h1
      | some xs => rw [hx] at h1; exact ⟨xs, _, rfl, h1, hz2 _ (.inl (List.mem_map_of_mem (List.getElem_mem _)))⟩
    · have h1 := hre (i - len) (by omega)
      rw [show len + (i - len) = i by omega, List.getElem?_eq_getElem (show i - len < rest.length by omega)] at h1
      cases hx : w.cells? base (a.add (i * P.cellsOf e)) (P.cellsOf e) with
      | none => rw [hx] at h1; cases h1
      | some xs => rw [hx] at h1; exact ⟨xs, _, rfl, h1, hz2 _ (.inr (List.mem_map_of_mem (List.getElem_mem _)))⟩
  have at_ : ∀ i, i < cap → ∃ xs z, xs.length = P.cellsOf e ∧ (DataW.trod enc P w base (fun _ => true) held n e xs = some z ∧ Szd P e z.1) ∧ ∀ j, j < P.cellsOf e → w.cell? ((a.add (i * P.cellsOf e)).add j) = xs[j]? := fun i hi => by
    obtain ⟨xs, z, h1, h2⟩ := each i hi
    have h3 := World.cells?_some h1
    exact ⟨xs, z, h3.2.1, h2, h3.2.2⟩
  have hspot : a.spot = none := by
    obtain ⟨xs, z, h1, _, h3⟩ := at_ 0 (by omega)
    have h4 := h3 0 hpos
    rw [List.getElem?_eq_getElem (by omega)] at h4
    have h5 := World.cell?_spot h4
    rw [Nat.zero_mul] at h5
    simpa [Addr.add] using h5
  obtain ⟨g, o, sp⟩ := a
  simp only at hspot
  subst hspot
  have cell : ∀ i j, i < cap → j < P.cellsOf e → ∃ ds ty fz, w.heap[g]? = some (.cells ds ty fz) ∧ o + i * P.cellsOf e + j < ds.size := fun i j hi hj => by
    obtain ⟨xs, z, h1, _, h3⟩ := at_ i hi
    have h4 := h3 j hj
    rw [add_plain, add_plain, List.getElem?_eq_getElem (by omega)] at h4
    unfold World.cell? at h4
    simp only at h4
    split at h4
    · rename_i ds ty fz hg
      exact ⟨ds, ty, fz, hg, (Array.getElem?_eq_some_iff.1 h4).1⟩
    · cases h4
  obtain ⟨ds, ty, fz, hg, _⟩ := cell 0 0 (by omega) hpos
  have hsz : o + cap * P.cellsOf e ≤ ds.size := by
    obtain ⟨ds', ty', fz', hg', hlt⟩ := cell (cap - 1) (P.cellsOf e - 1) (by omega) (by omega)
    rw [hg] at hg'
    injection hg' with hg'
    injection hg' with hg' _ _
    subst hg'
    have : (cap - 1) * P.cellsOf e + P.cellsOf e = cap * P.cellsOf e := by
      rw [← Nat.succ_mul]; congr 1; omega
    omega
  have hraw : ((ds.toList.drop o).take (cap * P.cellsOf e)).length = cap * P.cellsOf e := by simp; omega
  have part : ∀ i, i < cap → Comes w E ((((ds.toList.drop o).take (cap * P.cellsOf e)).drop (i * P.cellsOf e)).take (P.cellsOf e)) := fun i hi => by
    obtain ⟨xs, z, h1, h2, h3⟩ := at_ i hi
    have hle : i * P.cellsOf e + P.cellsOf e ≤ cap * P.cellsOf e := by
      have := Nat.mul_le_mul_right (P.cellsOf e) (show i + 1 ≤ cap by omega); rw [Nat.add_mul, Nat.one_mul] at this; exact this
    have : (((ds.toList.drop o).take (cap * P.cellsOf e)).drop (i * P.cellsOf e)).take (P.cellsOf e) = xs := by
      apply List.ext_getElem?
      intro j
      rw [List.getElem?_take]
      split
      · rename_i hj
        have h4 := h3 j hj
        rw [add_plain, add_plain] at h4
        unfold World.cell? at h4
        simp only [hg] at h4
        rw [← h4, List.getElem?_drop, List.getElem?_take, if_pos (by omega), List.getElem?_drop, Array.getElem?_toList]
        congr 1
        omega
      · rw [List.getElem?_eq_none (by omega)]
    rw [this]
    exact hE n xs z h2.1 h2.2 h1
  intro φ σ hr ro
  obtain ⟨φ1, σ1, vs, h1, h2, h3, h4, h5, h6⟩ := comes_els hK cap _ hraw part φ σ hr ro
  have hvl := h6.1
  obtain ⟨r1, r2, r3⟩ := hrel_cells (o := o) (es := P.cellsOf e) (vs := vs) h1 h2 hg (by omega) (by rw [hvl]; exact h5)
  refine ⟨_, _, [.slice (some ⟨σ1.next, 0, none⟩) len cap], r1, r3, h3.trans r2, h4.trans (Kp.alloc _ h4.le), ?_, some ⟨σ1.next, 0, none⟩, len, cap, vs, rfl, ?_, h6.kp hK (Kp.alloc _ (Nat.le_refl _)), hm⟩
  · have := VRel.slice (φ := φ1.up σ1.next ⟨g, o, ds.size, P.cellsOf e⟩) (n := σ1.next) (o := 0) (len := len) (cap := cap) (cap' := cap) (Ren.up_self _ _ _) (Nat.le_refl _) (by simp only; omega)
    exact .cons (by simpa using this) .nil
  · exact .inr ⟨σ1.next, 0, none, rfl, .inr ⟨.inl rfl, Nat.lt_succ_self _, hl, _, by rw [AState.get_alloc, if_pos rfl], rfl, by simp only; omega, by simp only [List.drop_zero]; exact List.take_of_length_le (by omega)⟩⟩

end GAb
