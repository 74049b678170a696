/- What comes in, by its type: numbers, truths, strings, structs, slices of them. No statement of the seat is proved in this text. -/
import Derived.Test.YtddenboepgfbgaaAb24
import Derived.Test.YtddenboepgfbgaaAb19
import Derived.SizedLaws
set_option linter.unusedVariables false
set_option linter.unusedSimpArgs false
namespace GAb
open Go Go.RowKit

theorem LRel.one {φ : Ren} {v u : Value} (h : LRel φ [v] [u]) : VRel φ v u := by
  cases h with | cons h _ => exact h
abbrev Shape := AState → List Value → Prop
/-- Cells of a type that come in are told by E. -/
structure Opn (P : Program) (t : TypeId) (E : Shape) : Prop where
  keep : ∀ σ σ' vs, E σ vs → Kp σ.next σ σ' → E σ' vs
  come : ∀ {H : Type} {enc : TypeId × Value → H} {w : World} {base fuel : Nat} {held : Bool} {cs : List Value} {y : DataW H × List MemPlace}, DataW.trod enc P w base (fun _ => true) held fuel t cs = some y → Szd P t y.1 → Comes w E cs

variable {P : Program}
theorem opn_mono {t : TypeId} {E F : Shape} (h : Opn P t E) (hF : ∀ σ vs, E σ vs → F σ vs) (hK : ∀ σ σ' vs, F σ vs → Kp σ.next σ σ' → F σ' vs) : Opn P t F :=
  ⟨hK, fun hy hz => comes_mono (h.come hy hz) hF⟩
theorem opn_int {t : TypeId} {k : IntKind} (ht : P.underlying t = some (.int k)) : Opn P t fun _ vs => ∃ n, vs = [.int k n] ∧ (Lit.int k n).wf = true :=
  ⟨fun _ _ _ h _ => h, fun hy _ => by
    obtain ⟨n, rfl, _, hw⟩ := DataW.trod_int ht hy
    exact comes_pf rfl fun _ => ⟨n, rfl, hw⟩⟩
theorem opn_bool {t : TypeId} (ht : P.underlying t = some .bool) : Opn P t fun _ vs => ∃ b, vs = [.bool b] :=
  ⟨fun _ _ _ h _ => h, fun hy _ => by
    obtain ⟨b, rfl, _⟩ := DataW.trod_bool ht hy
    exact comes_pf rfl fun _ => ⟨b, rfl⟩⟩
theorem opn_str {t : TypeId} (ht : P.underlying t = some .string) : Opn P t fun _ vs => ∃ s : ByteArray, vs = [.string s] ∧ s.size ≤ maxLen :=
  ⟨fun _ _ _ h _ => h, fun hy _ => by
    obtain ⟨b, rfl, _, hb⟩ := DataW.trod_string ht hy
    exact comes_pf rfl fun _ => ⟨b, rfl, hb⟩⟩
theorem opn_slice {t e : TypeId} {es : Nat} {E : Shape} (ht : P.underlying t = some (.slice e)) (hes : P.cellsOf e = es) (hpos : 0 < es) (hE : Opn P e E) :
    Opn P t fun σ vs => ∃ x len cap zs, vs = [.slice x len cap] ∧ Row σ x len cap es zs ∧ Els es E σ cap zs ∧ cap * P.bytesOf e ≤ reachBytes :=
  ⟨fun σ σ' vs ⟨x, len, cap, zs, h1, h2, h3, h4⟩ k => ⟨x, len, cap, zs, h1, h2.kp (Nat.le_refl _) k, h3.kp hE.keep k, h4⟩,
   fun hy hz => hrel_slice ht hes hpos hy hz hE.keep fun n xs z h hz _ => hE.come h hz⟩

/-- Cells one behind the other. -/
def Cat : List Shape → Shape
  | [], _, vs => vs = []
  | E :: Es, σ, vs => ∃ us ws, vs = us ++ ws ∧ E σ us ∧ Cat Es σ ws
inductive OpnL (P : Program) : List Field → List Shape → Prop
  | nil : OpnL P [] []
  | cons {f : Field} {fs : List Field} {E : Shape} {Es : List Shape} (h : Opn P f.type E) (t : OpnL P fs Es) : OpnL P (f :: fs) (E :: Es)
theorem OpnL.keep {fs : List Field} {Es : List Shape} (h : OpnL P fs Es) : ∀ σ σ' vs, Cat Es σ vs → Kp σ.next σ σ' → Cat Es σ' vs := by
  induction h with
  | nil => exact fun _ _ _ h _ => h
  | cons h _ ih => exact fun σ σ' vs ⟨us, ws, h1, h2, h3⟩ k => ⟨us, ws, h1, h.keep _ _ _ h2 k, ih _ _ _ h3 k⟩
/-- The fields lie one behind the other. -/
def chainB (P : Program) (tot : Nat) : Nat → List Field → Bool
  | o, [] => o == tot
  | o, f :: fs => f.offset == o && chainB P tot (o + P.cellsOf f.type) fs
theorem comes_cat {w : World} {cs : List Value} : ∀ {fs : List Field} {Es : List Shape}, OpnL P fs Es → ∀ o, chainB P cs.length o fs = true → o ≤ cs.length →
    (∀ f ∈ fs, ∀ E, Opn P f.type E → Comes w E ((cs.drop f.offset).take (P.cellsOf f.type))) → Comes w (Cat Es) (cs.drop o)
  | _, _, .nil, o, hc, ho, _ => by
    rw [List.drop_of_length_le (by have := of_decide_eq_true (show decide (o = cs.length) = true from by simpa [chainB] using hc); omega)]
    exact comes_pf rfl fun _ => rfl
  | f :: fs, E :: Es, .cons h t, o, hc, ho, hf => by
    simp only [chainB, Bool.and_eq_true, beq_iff_eq] at hc
    obtain ⟨rfl, hc⟩ := hc
    by_cases hle : f.offset + P.cellsOf f.type ≤ cs.length
    · have ih := comes_cat t _ hc hle fun g hg => hf g (List.mem_cons_of_mem _ hg)
      have hd : cs.drop f.offset = (cs.drop f.offset).take (P.cellsOf f.type) ++ cs.drop (f.offset + P.cellsOf f.type) := by
        rw [← List.drop_drop, List.take_append_drop]
      rw [hd]
      exact comes_append (hf f (by simp) E h) ih h.keep fun σ vs us h1 h2 => ⟨vs, us, rfl, h1, h2⟩
    · exfalso
      have : ∀ (gs : List Field) (o : Nat), cs.length < o → chainB P cs.length o gs = true → False := fun gs => by
        induction gs with
        | nil => intro o h1 h2; simp [chainB] at h2; omega
        | cons g gs ih => intro o h1 h2; simp only [chainB, Bool.and_eq_true, beq_iff_eq] at h2; exact ih _ (by omega) h2.2
      exact this _ _ (by omega) hc
theorem szd_field {H : Type} {t : TypeId} {fs : Array Field} {xs : List (DataW H)} (ht : P.underlying t = some (.struct fs)) (h : Szd P t (.agg xs)) {i : Nat} {f : Field} {d : DataW H} (hf : fs.toList[i]? = some f) (hd : xs[i]? = some d) : Szd P f.type d := by
  unfold Szd at *
  simp only [DataW.weights, ht] at h
  refine List.all_eq_true.2 fun n hn => List.all_eq_true.1 h n (DataW.weights_mem_each (j := i) ?_ hd n hn)
  rw [List.getElem?_map, hf]; rfl
theorem szd_param {H : Type} {ts : List TypeId} {ds : List (DataW H)} (h : (DataW.weightsEach P ts ds).all (· ≤ reachBytes) = true) (j : Nat) {t : TypeId} {d : DataW H} (ht : ts[j]? = some t) (hd : ds[j]? = some d) : Szd P t d :=
  List.all_eq_true.2 fun n hn => List.all_eq_true.1 h n (DataW.weights_mem_each ht hd n hn)
theorem opn_struct {t : TypeId} {fs : Array Field} {Es : List Shape} (ht : P.underlying t = some (.struct fs)) (hch : chainB P (P.cellsOf t) 0 fs.toList = true) (h : OpnL P fs.toList Es) : Opn P t (Cat Es) :=
  ⟨h.keep, fun {H enc w base fuel held cs y} hy hz => by
    obtain ⟨xs, n, _, rfl, hl, hlen, hf⟩ := DataW.trod_struct ht hy
    have := comes_cat (w := w) (cs := cs) h 0 (by rw [hl]; exact hch) (Nat.zero_le _) fun f hfm E hE => by
      obtain ⟨i, hi, rfl⟩ := List.mem_iff_getElem.1 hfm
      have hi' : i < fs.size := by simpa using hi
      have h1 := hf i fs[i] (by rw [Array.getElem?_eq_getElem hi'])
      rw [List.getElem?_eq_getElem (by omega)] at h1
      exact hE.come (by simpa using h1) (szd_field ht hz (i := i) (by rw [List.getElem?_eq_getElem hi]) (by simp [List.getElem?_eq_getElem (show i < xs.length by omega)]))
    simpa using this⟩

/-- Elements that are told by x, as a row. -/
theorem els_rows {β : Type} {es : Nat} {e : β → List Value} {Q : β → Prop} {σ : AState} : ∀ {n : Nat} {zs : List Value}, Els es (fun _ vs => ∃ x, vs = e x ∧ Q x) σ n zs → ∃ xs : List β, zs = rows e xs ∧ xs.length = n ∧ ∀ x ∈ xs, Q x
  | 0, zs, h => ⟨[], by have := h.1; simp at this; simp [rows, this], rfl, fun _ h => by cases h⟩
  | n + 1, zs, h => by
    obtain ⟨h1, h2⟩ := h
    obtain ⟨x, hx, hq⟩ := h2 0 (by omega)
    rw [Nat.zero_mul, List.drop_zero] at hx
    obtain ⟨xs, k1, k2, k3⟩ := els_rows (n := n) (zs := zs.drop es) (es := es) (e := e) (Q := Q) (σ := σ) ⟨by rw [List.length_drop, h1, Nat.add_mul]; omega, fun i hi => by
      have := h2 (i + 1) (by omega)
      rw [List.drop_drop, show es + i * es = (i + 1) * es by rw [Nat.add_mul]; omega]
      exact this⟩
    refine ⟨x :: xs, ?_, by simp [k2], fun y hy => ?_⟩
    · rw [← List.take_append_drop es zs, hx, k1]; simp [rows]
    · rcases List.mem_cons.1 hy with rfl | hy
      · exact hq
      · exact k3 y hy
end GAb
