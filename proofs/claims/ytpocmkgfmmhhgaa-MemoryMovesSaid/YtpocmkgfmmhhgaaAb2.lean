/- What reading, writing, laying and appending do to the abstract heap, and that the machine does the same. No statement of the seat is proved in this text. -/
import Derived.Test.YtpocmkgfmmhhgaaAb1
import Derived.Laws.Cells
import Derived.Laws.IdiomCopy
import Derived.Laws.NewFold
set_option linter.unusedVariables false
set_option linter.unusedSimpArgs false
namespace GAb
open Go

theorem add_plain (g x k : Nat) : (⟨g, x, none⟩ : Addr).add k = ⟨g, x + k, none⟩ := by unfold Addr.add; split <;> simp_all

def rd (σ : AState) (n o k : Nat) : Option (List Value) :=
  match σ.get n with
  | some b => if o + k ≤ b.cells.length then some ((b.cells.drop o).take k) else none
  | none => none

def splice (cs : List Value) (o : Nat) (vs : List Value) : List Value := cs.take o ++ (vs ++ cs.drop (o + vs.length))
theorem splice_length {cs : List Value} {o : Nat} {vs : List Value} (h : o + vs.length ≤ cs.length) : (splice cs o vs).length = cs.length := by
  simp [splice]; omega
theorem splice_nil (cs : List Value) (o : Nat) : splice cs o [] = cs := by simp [splice]
theorem splice_cons (cs : List Value) (o : Nat) (v : Value) (vs : List Value) (h : o + (vs.length + 1) ≤ cs.length) :
    splice (cs.set o v) (o + 1) vs = splice cs o (v :: vs) := by
  have ho : o < cs.length := by omega
  simp only [splice, List.length_cons]
  rw [List.drop_set_of_lt (by omega), show o + (vs.length + 1) = o + 1 + vs.length by omega]
  have e1 : (cs.set o v).take (o + 1) = cs.take o ++ [v] := by
    apply List.ext_getElem?
    intro i
    simp only [List.getElem?_take, List.getElem?_set, List.getElem?_append, List.length_take]
    by_cases h1 : i < o
    · rw [if_pos (by omega), if_neg (by omega), if_pos (by omega), if_pos h1]
    · rw [if_neg (show ¬ i < min o cs.length by omega)]
      by_cases h2 : i = o
      · subst h2
        rw [if_pos (by omega), if_pos rfl, if_pos ho, show i - min i cs.length = 0 by omega]; rfl
      · rw [if_neg (by omega), List.getElem?_eq_none (by simp; omega)]
  rw [e1]; simp

def wr (σ : AState) (n o : Nat) (vs : List Value) : Option AState :=
  match σ.get n with
  | some b => if b.ro = false ∧ o + vs.length ≤ b.cells.length ∧ vs.all Value.oneCell' = true then some (σ.put n (some { b with cells := splice b.cells o vs })) else none
  | none => none

theorem cell_of {w : World} {g : Nat} {cs : Array Value} {e : TypeId} {fz : Nat × Nat} (h : w.heap[g]? = some (.cells cs e fz)) (i : Nat) : w.cell? ⟨g, i, none⟩ = cs[i]? := by
  simp [World.cell?, h]
theorem frozen_of {w : World} {g : Nat} {cs : Array Value} {e : TypeId} {fz : Nat × Nat} (h : w.heap[g]? = some (.cells cs e fz)) (i : Nat) : w.frozen? ⟨g, i, none⟩ = (decide (fz.1 ≤ i) && decide (i < fz.2)) := by
  simp [World.frozen?, h]

theorem nofz {fz : Nat × Nat} {n : Nat} (h : fz.1 = fz.2 ∨ n ≤ fz.1) (i : Nat) (hi : i < n) : ¬ (fz.1 ≤ i ∧ i < fz.2) := by omega

theorem LRel.of_take {φ : Ren} {vs us : List Value} {k : Nat} (h : LRel φ vs (us.take k)) (o m : Nat) (hm : o + m ≤ vs.length) : LRel φ ((vs.drop o).take m) ((us.drop o).take m) := by
  have h1 := (h.drop o).take m
  have h2 := LRel.length h
  have e : ((us.take k).drop o).take m = (us.drop o).take m := by
    rw [List.drop_take, List.take_take]
    congr 1
    simp at h2
    omega
  rw [e] at h1
  exact h1

theorem rd_sound {φ : Ren} {σ : AState} {w : World} (hr : HRel φ σ w) {n o k : Nat} {vs : List Value} (h : rd σ n o k = some vs) {p : Pl} (hp : φ n = some p) :
    ∃ us : List Value, LRel φ vs us ∧ us.length = k ∧ (∀ j u, us[j]? = some u → w.cell? ⟨p.g, p.o + o + j, none⟩ = some u) ∧
      (∀ P : Program, (loadCells ⟨p.g, p.o + o, none⟩ k).run P w = .ok us.toArray w) ∧ ∀ (P : Program) (w2 : World), w2.heap[p.g]? = w.heap[p.g]? → (∀ j u, us[j]? = some u → w2.cell? ⟨p.g, p.o + o + j, none⟩ = some u) ∧ (loadCells ⟨p.g, p.o + o, none⟩ k).run P w2 = .ok us.toArray w2 := by
  unfold rd at h
  split at h
  · rename_i b hb
    split at h
    · rename_i hle
      injection h with h
      subst h
      rcases hr.blk n b hb with hB | hB
      rotate_left
      · have h0 := hB.es.2
        rw [h0] at hle ⊢
        obtain ⟨rfl, rfl⟩ : o = 0 ∧ k = 0 := by simp at hle; omega
        exact ⟨[], .nil, rfl, fun j u hu => by simp at hu, fun P => rfl, fun P w2 _ => ⟨fun j u hu => by simp at hu, rfl⟩⟩
      obtain ⟨q, cs, e, fz, hq, hg, hsz, _, hlen, hl, _⟩ := hB
      rw [hp] at hq; injection hq with hq; subst hq
      have hc := LRel.of_take hl o k hle
      have hk : (((cs.toList.drop p.o).drop o).take k).length = k := by simp; omega
      have hcell : ∀ j u, (((cs.toList.drop p.o).drop o).take k)[j]? = some u → w.cell? ⟨p.g, p.o + o + j, none⟩ = some u := fun j u hu => by
        rw [cell_of hg]
        rw [List.getElem?_take] at hu
        split at hu
        · simp only [List.getElem?_drop] at hu
          rw [← Array.getElem?_toList, ← hu]
          congr 1; omega
        · cases hu
      have hsame : ∀ (w2 : World) (i : Nat), w2.heap[p.g]? = w.heap[p.g]? → w2.cell? ⟨p.g, i, none⟩ = w.cell? ⟨p.g, i, none⟩ := fun w2 i h => by simp only [World.cell?, h]
      have gen : ∀ (P : Program) (w2 : World), w2.heap[p.g]? = w.heap[p.g]? → (∀ j u, (((cs.toList.drop p.o).drop o).take k)[j]? = some u → w2.cell? ⟨p.g, p.o + o + j, none⟩ = some u) ∧ (loadCells ⟨p.g, p.o + o, none⟩ k).run P w2 = .ok (((cs.toList.drop p.o).drop o).take k).toArray w2 := fun P w2 h2 => by
        have hc2 : ∀ j u, (((cs.toList.drop p.o).drop o).take k)[j]? = some u → w2.cell? ⟨p.g, p.o + o + j, none⟩ = some u := fun j u hu => by rw [hsame w2 _ h2]; exact hcell j u hu
        have := run_loadCells_list (P := P) w2 ⟨p.g, p.o + o, none⟩ _ (fun j u hu => by rw [add_plain]; exact hc2 j u hu)
        rw [hk] at this
        exact ⟨hc2, this⟩
      exact ⟨_, hc, hk, hcell, fun P => (gen P w rfl).2, gen⟩
    · cases h
  · cases h

/-- What a row of stores leaves. -/
theorem setCells_heap : ∀ (us : List Value) (g o : Nat) (w : World) (cs : Array Value) (e : TypeId) (fz : Nat × Nat), w.heap[g]? = some (.cells cs e fz) → o + us.length ≤ cs.size →
    ∃ cs' : Array Value, (w.setCells g o us).heap[g]? = some (.cells cs' e fz) ∧ cs'.toList = splice cs.toList o us ∧ (∀ g', g' ≠ g → (w.setCells g o us).heap[g']? = w.heap[g']?) ∧
      (w.setCells g o us).heap.size = w.heap.size ∧ (w.setCells g o us).tape = w.tape ∧ (w.setCells g o us).os = w.os ∧ (w.setCells g o us).output = w.output
  | [], g, o, w, cs, e, fz, h, _ => ⟨cs, h, (splice_nil _ _).symm, fun _ _ => rfl, rfl, rfl, rfl, rfl⟩
  | v :: us, g, o, w, cs, e, fz, h, hl => by
    simp only [List.length_cons] at hl
    have h1 : (w.setCell ⟨g, o, none⟩ v).heap[g]? = some (.cells (cs.setIfInBounds o v) e fz) := by
      simp only [World.setCell, Array.getElem?_modify, h]
      simp
    obtain ⟨cs', a1, a2, a3, a4, a5, a6, a7⟩ := setCells_heap us g (o + 1) (w.setCell ⟨g, o, none⟩ v) _ e fz h1 (by simp; omega)
    refine ⟨cs', a1, ?_, fun g' hg' => ?_, ?_, a5, a6, a7⟩
    · rw [a2, Array.toList_setIfInBounds, splice_cons _ _ _ _ (by simp; omega)]
    · show ((w.setCell ⟨g, o, none⟩ v).setCells g (o + 1) us).heap[g']? = _
      rw [a3 g' hg']
      simp only [World.setCell, Array.getElem?_modify]
      rw [if_neg (fun e => hg' e.symm)]
    · show ((w.setCell ⟨g, o, none⟩ v).setCells g (o + 1) us).heap.size = _
      rw [a4]; simp [World.setCell]

theorem oneCell_rel {φ : Ren} {v u : Value} (h : VRel φ v u) (k : v.oneCell' = true) : u.oneCell' = true := by
  cases h <;> first | rfl | (simp [Value.oneCell'] at k)
theorem oneCells_rel {φ : Ren} {vs us : List Value} (h : LRel φ vs us) (k : vs.all Value.oneCell' = true) : ∀ u ∈ us, u.oneCell' = true := by
  induction h with
  | nil => intro u hu; cases hu
  | cons h _ ih =>
    simp only [List.all_cons, Bool.and_eq_true] at k
    intro u hu
    rcases List.mem_cons.1 hu with rfl | hu
    · exact oneCell_rel h k.1
    · exact ih k.2 u hu

theorem LRel.splice {φ : Ren} {a b vs us : List Value} (h : LRel φ a b) (k : LRel φ vs us) (o : Nat) : LRel φ (splice a o vs) (splice b o us) := by
  unfold GAb.splice
  rw [← LRel.length k]
  exact (h.take o).append (k.append (h.drop _))

theorem splice_window {cs us : List Value} {po o k : Nat} (h : o + us.length ≤ k) (hk : po + k ≤ cs.length) :
    ((splice cs (po + o) us).drop po).take k = splice ((cs.drop po).take k) o us := by
  apply List.ext_getElem?
  intro i
  simp only [GAb.splice, List.getElem?_take, List.getElem?_drop, List.getElem?_append, List.length_take, List.length_drop]
  rw [show min (po + o) cs.length = po + o by omega, show min o (min k (cs.length - po)) = o by omega, show po + i - (po + o) = i - o by omega]
  by_cases hi : i < k
  · rw [if_pos hi]
    by_cases h1 : i < o
    · rw [if_pos (show po + i < po + o by omega), if_pos (show po + i < po + o by omega), if_pos h1, if_pos h1, if_pos hi]
    · rw [if_neg (show ¬ po + i < po + o by omega), if_neg h1]
      by_cases h2 : i - o < us.length
      · rw [if_pos h2, if_pos h2]
      · rw [if_neg h2, if_neg h2, if_pos (by omega)]
        congr 1; omega
  · rw [if_neg hi, if_neg (by omega), if_neg (by omega), if_neg (by omega)]

theorem wr_sound {φ : Ren} {σ σ' : AState} {w : World} (hr : HRel φ σ w) {n o : Nat} {vs us : List Value} (h : wr σ n o vs = some σ') {p : Pl} (hp : φ n = some p) (hv : LRel φ vs us) :
    ∃ w', (∀ P : Program, (storeCells ⟨p.g, p.o + o, none⟩ us).run P w = .ok () w') ∧ Goes (· = n) φ σ w φ σ' w' := by
  unfold wr at h
  split at h
  · rename_i b hb
    split at h
    · rename_i hc
      obtain ⟨hro, hle, hone⟩ := hc
      injection h with h
      subst h
      rcases hr.blk n b hb with hB | hB
      rotate_left
      · have h0 := hB.es.2
        rw [h0] at hle
        obtain rfl : vs = [] := List.eq_nil_of_length_eq_zero (by rw [List.length_nil] at hle; omega)
        cases hv
        have hsame : ∀ m, (σ.put n (some { b with cells := splice b.cells o [] })).get m = σ.get m := fun m => by
          rw [AState.get_put]
          split
          · rename_i e; subst e; rw [hb, splice_nil]
          · rfl
        refine ⟨w, fun P => rfl, ⟨.refl _, hr.same hsame rfl, Nat.le_refl _, rfl, rfl, rfl, Nat.le_refl _, fun m bm _ hm => ⟨bm, by rw [← hsame]; exact hm, rfl⟩, fun _ _ _ => rfl, fun m q h1 h2 => by rw [h1] at h2; cases h2⟩⟩
      obtain ⟨q, cs, e, fz, hq, hg, hsz, hes, hlen, hl, hfz⟩ := hB
      rw [hp] at hq; injection hq with hq; subst hq
      have hul := LRel.length hv
      obtain ⟨cs', a1, a2, a3, a4, a5, a6, a7⟩ := setCells_heap us p.g (p.o + o) w cs e fz hg (by omega)
      have hcs' : cs'.size = cs.size := by
        have := congrArg List.length a2
        rw [splice_length (by simp; omega)] at this
        simpa using this
      have hrun : ∀ P : Program, (storeCells ⟨p.g, p.o + o, none⟩ us).run P w = .ok () (w.setCells p.g (p.o + o) us) := fun P => by
        have := run_storeCells_cells (P := P) p.g (p.o + o) us 0 w (fun j hj => by
            rw [cell_of hg, Nat.add_zero]
            simp; omega)
          (fun j hj => by
            rw [frozen_of hg]
            have := nofz ((hfz hro).imp id And.left) (p.o + o + 0 + j) (by omega)
            simpa using this)
          (oneCells_rel hv hone)
        simpa using this
      refine ⟨_, hrun, ⟨.refl _, ⟨hr.fresh, fun m hm => ?_, ?_, ?_, fun m q hq => by rw [a4]; exact hr.lt m q hq⟩, by rw [a4]; exact Nat.le_refl _, a5, a6, a7, Nat.le_refl _, ?_, ?_, fun m q h1 h2 => by rw [h1] at h2; cases h2⟩⟩
      · rw [AState.get_put]
        have := hr.dead m hm
        split
        · rename_i hnm; subst hnm; rw [hb] at this; cases this
        · exact this
      · intro m bm hm
        rw [AState.get_put] at hm
        split at hm
        · rename_i hnm
          subst hnm
          injection hm with hm
          subst hm
          refine .inl ⟨p, cs', e, fz, hp, a1, by omega, hes, ?_, ?_, fun h => by rw [hcs']; exact hfz h⟩
          · simp only [splice_length hle]; omega
          · simp only [splice_length hle]
            rw [a2, splice_window (by omega) (by simp; omega)]
            exact hl.splice hv o
        · rename_i hnm
          have hgq : ∀ q, φ m = some q → q.g ≠ p.g := fun q b1 e => hnm (hr.inj n m b bm p q hb hm hro hp b1 e.symm)
          rcases hr.blk m bm hm with ⟨q, c2, e2, f2, b1, b2, b3, b4, b5, b6, b7⟩ | hB2
          · exact .inl ⟨q, c2, e2, f2, b1, by rw [a3 _ (hgq q b1)]; exact b2, b3, b4, b5, b6, b7⟩
          · exact .inr (hB2.mv (.refl _) fun q hq _ => a3 _ (hgq q hq))
      · intro m1 m2 b1 b2 q1 q2 h1 h2 h3 h4 h5 h6
        rw [AState.get_put] at h1 h2
        have k1 : ∃ b1', σ.get m1 = some b1' ∧ b1'.ro = false := by
          split at h1
          · rename_i e; subst e; exact ⟨b, hb, hro⟩
          · exact ⟨b1, h1, h3⟩
        have k2 : ∃ b2', σ.get m2 = some b2' := by
          split at h2
          · rename_i e; subst e; exact ⟨b, hb⟩
          · exact ⟨b2, h2⟩
        obtain ⟨b1', g1, g2⟩ := k1
        obtain ⟨b2', g3⟩ := k2
        exact hr.inj m1 m2 b1' b2' q1 q2 g1 g3 g2 h4 h5 h6
      · intro m bm _ hm
        rw [AState.get_put] at hm
        split at hm
        · rename_i e; subst e; injection hm with hm; subst hm; exact ⟨b, hb, rfl⟩
        · exact ⟨bm, hm, rfl⟩
      · intro g _ hn
        rw [a3 g (fun e => hn n b p hb hro hp e.symm rfl)]
    · cases h
  · cases h

/-- A new block: the machine's may have more cells than the abstract one. -/
theorem alloc_soundF {φ : Ren} {σ : AState} {w : World} (hr : HRel φ σ w) {D : Nat → Prop} {vs : List Value} {us : Array Value} (es : Nat) (e : TypeId) (fz : Nat × Nat) (hfz : fz.1 = fz.2 ∨ us.size ≤ fz.1 ∧ es = 1) (hle : vs.length ≤ us.size) (hv : LRel φ vs (us.toList.take vs.length)) :
    Goes D φ σ w (φ.up σ.next ⟨w.heap.size, 0, us.size, es⟩) (σ.alloc ⟨vs, es, false⟩) (w.alloc (.cells us e fz)) := by
  have hfr := hr.fresh σ.next (Nat.le_refl _)
  have hle' := Ren.le_up hfr ⟨w.heap.size, 0, us.size, es⟩
  have hheap : (w.alloc (.cells us e fz)).heap = w.heap.push (.cells us e fz) := rfl
  have hpush : ∀ g, g < w.heap.size → (w.alloc (.cells us e fz)).heap[g]? = w.heap[g]? := fun g hg => by
    rw [hheap, Array.getElem?_push, if_neg (by omega)]
  refine ⟨hle', ⟨fun m hm => ?_, fun m hm => ?_, fun m bm hm => ?_, ?_, fun m q hq => ?_⟩, by rw [hheap]; simp, rfl, rfl, rfl, by simp, fun m bm hm h => ⟨bm, by rw [AState.get_alloc, if_neg (by omega)] at h; exact h, rfl⟩, fun g hg _ => hpush g hg, fun m q h1 h2 => ?_⟩
  · simp only [AState.next_alloc] at hm
    simp only [Ren.up]
    rw [if_neg (by omega)]
    exact hr.fresh m (by omega)
  · simp only [AState.next_alloc] at hm
    rw [AState.get_alloc, if_neg (by omega)]
    exact hr.dead m (by omega)
  · rw [AState.get_alloc] at hm
    split at hm
    · rename_i hnm
      subst hnm
      injection hm with hm
      subst hm
      refine .inl ⟨⟨w.heap.size, 0, us.size, es⟩, us, e, fz, by simp [Ren.up], by rw [hheap]; simp, rfl, rfl, by simpa using hle, ?_, fun _ => hfz⟩
      simp only [List.drop_zero]
      exact hv.mono hle'
    · rcases hr.blk m bm hm with ⟨q, c2, e2, f2, b1, b2, b3, b4, b5, b6, b7⟩ | hB2
      · exact .inl ⟨q, c2, e2, f2, hle' _ _ b1, by rw [hpush _ (hr.lt m q b1)]; exact b2, b3, b4, b5, b6.mono hle', b7⟩
      · exact .inr (hB2.mv hle' fun q hq _ => hpush _ (hr.lt m q hq))
  · intro m1 m2 b1 b2 q1 q2 h1 h2 h3 h4 h5 h6
    rw [AState.get_alloc] at h1 h2
    simp only [Ren.up] at h4 h5
    split at h1
    · rename_i e1
      subst e1
      rw [if_pos rfl] at h4
      injection h4 with h4
      subst h4
      split at h2
      · assumption
      · rename_i e2
        rw [if_neg (fun e => e2 e.symm)] at h5
        have := hr.lt m2 q2 h5
        simp at h6
        omega
    · rename_i e1
      rw [if_neg (fun e => e1 e.symm)] at h4
      split at h2
      · rename_i e2
        subst e2
        rw [if_pos rfl] at h5
        injection h5 with h5
        subst h5
        have := hr.lt m1 q1 h4
        simp at h6
        omega
      · rename_i e2
        rw [if_neg (fun e => e2 e.symm)] at h5
        exact hr.inj m1 m2 b1 b2 q1 q2 h1 h2 h3 h4 h5 h6
  · simp only [Ren.up] at hq
    split at hq
    · injection hq with hq; subst hq; rw [hheap]; simp
    · have := hr.lt m q hq
      rw [hheap]; simp; omega
  · simp only [Ren.up] at h2
    split at h2
    · injection h2 with h2; subst h2; exact .inl (Nat.le_refl _)
    · rw [h1] at h2; cases h2

theorem alloc_sound {φ : Ren} {σ : AState} {w : World} (hr : HRel φ σ w) {D : Nat → Prop} {vs : List Value} {us : Array Value} (es : Nat) (e : TypeId) (hle : vs.length ≤ us.size) (hv : LRel φ vs (us.toList.take vs.length)) :
    Goes D φ σ w (φ.up σ.next ⟨w.heap.size, 0, us.size, es⟩) (σ.alloc ⟨vs, es, false⟩) (w.alloc (.cells us e)) := alloc_soundF hr es e (0, 0) (.inl rfl) hle hv

/-- Appending in place, where it is not known whether there is room: the old name is gone, a new one stands for the longer row. -/
theorem inplace_sound {φ : Ren} {σ : AState} {w : World} (hr : HRel φ σ w) {n o k : Nat} {b : Blk} {p : Pl} {ns us : List Value} (hb : σ.get n = some b) (hro : b.ro = false) (hp : φ n = some p)
    (hk : o + k ≤ b.cells.length) (hroom : p.o + o + k + us.length ≤ p.sz) (hone : ns.all Value.oneCell' = true) (hv : LRel φ ns us) :
    ∃ w', (∀ P : Program, (storeCells ⟨p.g, p.o + o + k, none⟩ us).run P w = .ok () w') ∧
      Goes (· = n) φ σ w (φ.up σ.next ⟨p.g, p.o + o, p.sz, p.es⟩) ((σ.put n none).alloc ⟨(b.cells.drop o).take k ++ ns, b.es, false⟩) w' := by
  obtain ⟨q, cs, e, fz, hq, hg, hsz, hes, hlen, hl, hfz⟩ := hr.cel hb hp (by omega)
  rw [hp] at hq; injection hq with hq; subst hq
  have hfr := hr.fresh σ.next (Nat.le_refl _)
  have hnlt : n < σ.next := by
    rcases Nat.lt_or_ge n σ.next with h | h
    · exact h
    · rw [hr.fresh n h] at hp; cases hp
  have hle' := Ren.le_up hfr ⟨p.g, p.o + o, p.sz, p.es⟩
  have hul := LRel.length hv
  obtain ⟨cs', a1, a2, a3, a4, a5, a6, a7⟩ := setCells_heap us p.g (p.o + o + k) w cs e fz hg (by omega)
  have hcs' : cs'.size = cs.size := by
    have := congrArg List.length a2
    rw [splice_length (by simp; omega)] at this
    simpa using this
  have hrun : ∀ P : Program, (storeCells ⟨p.g, p.o + o + k, none⟩ us).run P w = .ok () (w.setCells p.g (p.o + o + k) us) := fun P => by
    have := run_storeCells_cells (P := P) p.g (p.o + o + k) us 0 w (fun j hj => by
        rw [cell_of hg, Nat.add_zero]
        simp; omega)
      (fun j hj => by
        rw [frozen_of hg]
        have := nofz ((hfz hro).imp id And.left) (p.o + o + k + 0 + j) (by omega)
        simpa using this)
      (oneCells_rel hv hone)
    simpa using this
  have other : ∀ m bm q, m ≠ n → σ.get m = some bm → φ m = some q → q.g ≠ p.g := fun m bm q hmn hm hq e => hmn (hr.inj n m b bm p q hb hm hro hp hq e.symm).symm
  refine ⟨_, hrun, ⟨hle', ⟨fun m hm => ?_, fun m hm => ?_, fun m bm hm => ?_, ?_, fun m q hq => ?_⟩, by rw [a4]; exact Nat.le_refl _, a5, a6, a7, by simp, fun m bm hm h => ?_, fun g hg hn => ?_, fun m q h1 h2 => ?_⟩⟩
  · simp only [AState.next_alloc, AState.next_put] at hm
    simp only [Ren.up]
    rw [if_neg (by omega)]
    exact hr.fresh m (by omega)
  · simp only [AState.next_alloc, AState.next_put] at hm
    rw [AState.get_alloc, AState.next_put, if_neg (by omega), AState.get_put]
    split
    · rfl
    · exact hr.dead m (by omega)
  · rw [AState.get_alloc, AState.next_put, AState.get_put] at hm
    split at hm
    · rename_i hnm
      subst hnm
      injection hm with hm
      subst hm
      have hlen2 : ((b.cells.drop o).take k ++ ns).length = k + us.length := by simp; omega
      refine .inl ⟨⟨p.g, p.o + o, p.sz, p.es⟩, cs', e, fz, by simp [Ren.up], a1, (show p.sz = cs'.size by omega), hes, ?_, ?_, fun _ => by rw [hcs']; exact hfz hro⟩
      · simp only [hlen2]; omega
      · simp only [hlen2]
        rw [a2]
        have e1 : ((splice cs.toList (p.o + o + k) us).drop (p.o + o)).take (k + us.length) = ((cs.toList.drop p.o).drop o).take k ++ us := by
          apply List.ext_getElem?
          intro i
          simp only [GAb.splice, List.getElem?_take, List.getElem?_drop, List.getElem?_append, List.length_take, List.length_drop, Array.length_toList]
          by_cases hi : i < k
          · rw [if_pos (by omega), if_pos (by omega), if_pos (by omega), if_pos (by omega), if_pos hi]
            congr 1; omega
          · rw [if_neg (show ¬ i < min k (cs.size - p.o - o) by omega), if_neg (show ¬ p.o + o + i < min (p.o + o + k) cs.size by omega)]
            by_cases h2 : i < k + us.length
            · rw [if_pos h2, if_pos (by omega)]
              congr 1; omega
            · rw [if_neg h2]
              rw [List.getElem?_eq_none (by omega)]
        rw [e1]
        exact ((LRel.of_take hl o k hk).append hv).mono hle'
    · split at hm
      · cases hm
      · rename_i _ hnm
        rcases hr.blk m bm hm with ⟨q, c2, e2, f2, b1, b2, b3, b4, b5, b6, b7⟩ | hB2
        · have hgq := other m bm q (fun e => hnm e.symm) hm b1
          exact .inl ⟨q, c2, e2, f2, hle' _ _ b1, by rw [a3 _ hgq]; exact b2, b3, b4, b5, b6.mono hle', b7⟩
        · exact .inr (hB2.mv hle' fun q hq _ => a3 _ (other m bm q (fun e => hnm e.symm) hm hq))
  · intro m1 m2 b1 b2 q1 q2 h1 h2 h3 h4 h5 h6
    rw [AState.get_alloc, AState.next_put, AState.get_put] at h1 h2
    simp only [Ren.up] at h4 h5
    split at h1
    · rename_i e1
      subst e1
      rw [if_pos rfl] at h4
      injection h4 with h4
      subst h4
      split at h2
      · assumption
      · rename_i e2
        rw [if_neg (fun e => e2 e.symm)] at h5
        split at h2
        · cases h2
        · rename_i e3
          exact absurd h6.symm (other m2 b2 q2 (fun e => e3 e.symm) h2 h5)
    · rename_i e1
      rw [if_neg (fun e => e1 e.symm)] at h4
      split at h1
      · cases h1
      · rename_i e0
        split at h2
        · rename_i e2
          subst e2
          rw [if_pos rfl] at h5
          injection h5 with h5
          subst h5
          exact absurd h6 (other m1 b1 q1 (fun e => e0 e.symm) h1 h4)
        · rename_i e2
          rw [if_neg (fun e => e2 e.symm)] at h5
          split at h2
          · cases h2
          · exact hr.inj m1 m2 b1 b2 q1 q2 h1 h2 h3 h4 h5 h6
  · simp only [Ren.up] at hq
    split at hq
    · injection hq with hq; subst hq; simp only []; rw [a4]; exact hr.lt n p hp
    · rw [a4]; exact hr.lt m q hq
  · rw [AState.get_alloc, AState.next_put, if_neg (by omega), AState.get_put] at h
    split at h
    · cases h
    · exact ⟨bm, h, rfl⟩
  · exact a3 g (fun e => hn n b p hb hro hp e.symm rfl)
  · simp only [Ren.up] at h2
    split at h2
    · injection h2 with h2; subst h2; exact .inr ⟨n, b, p, hb, hro, hp, rfl, rfl⟩
    · rw [h1] at h2; cases h2

/-- A name is given up. -/
theorem kill_sound {φ : Ren} {σ : AState} {w : World} (hr : HRel φ σ w) (n : Nat) : HRel φ (σ.put n none) w := by
  refine ⟨hr.fresh, fun m hm => ?_, fun m b hm => ?_, fun m1 m2 b1 b2 p q h1 h2 h3 h4 h5 h6 => ?_, hr.lt⟩
  · rw [AState.get_put]
    split
    · rfl
    · exact hr.dead m hm
  · rw [AState.get_put] at hm
    split at hm
    · cases hm
    · exact hr.blk m b hm
  · rw [AState.get_put] at h1 h2
    split at h1
    · cases h1
    · split at h2
      · cases h2
      · exact hr.inj m1 m2 b1 b2 p q h1 h2 h3 h4 h5 h6

theorem kill_goes {D : Nat → Prop} {φ : Ren} {σ : AState} {w : World} (hr : HRel φ σ w) (n : Nat) : Goes D φ σ w φ (σ.put n none) w :=
  ⟨.refl _, kill_sound hr n, Nat.le_refl _, rfl, rfl, rfl, Nat.le_refl _, fun m b _ h => by
    rw [AState.get_put] at h
    split at h
    · cases h
    · exact ⟨b, h, rfl⟩, fun _ _ _ => rfl, fun q p h1 h2 => by rw [h1] at h2; cases h2⟩

/-- Draws move a count. -/
theorem HRel.drew {φ : Ren} {σ : AState} {w : World} (hr : HRel φ σ w) (n : Nat) : HRel φ σ { w with drawn := n } := ⟨hr.fresh, hr.dead, hr.blk, hr.inj, hr.lt⟩
theorem Goes.drew {D : Nat → Prop} {φ : Ren} {σ : AState} {w : World} (hr : HRel φ σ w) (n : Nat) : Goes D φ σ w φ σ { w with drawn := n } :=
  ⟨.refl _, hr.drew n, Nat.le_refl _, rfl, rfl, rfl, Nat.le_refl _, fun m b _ h => ⟨b, h, rfl⟩, fun _ _ _ => rfl, fun n p h1 h2 => by rw [h1] at h2; cases h2⟩

/-- A mark just behind a block's cells. -/
theorem freeze_sound {φ : Ren} {σ : AState} {w : World} (hr : HRel φ σ w) {n : Nat} {b : Blk} {p : Pl} (hes1 : b.es = 1) (hb : σ.get n = some b) (hro : b.ro = false) (hp : φ n = some p) :
    Goes (· = n) φ σ w φ σ (w.freeze ⟨p.g, p.sz, none⟩ 1) := by
  obtain ⟨q, cs, e, fz, hq, hg, hsz, hes, hlen, hl, hfz⟩ := hr.cel1 hb (by omega)
  rw [hp] at hq; injection hq with hq; subst hq
  have hheap : ∀ g, g ≠ p.g → (w.freeze ⟨p.g, p.sz, none⟩ 1).heap[g]? = w.heap[g]? := fun g hgn => by
    unfold World.freeze
    rw [if_neg (by decide)]
    show (w.heap.modify _ _)[g]? = _
    rw [Array.getElem?_modify, if_neg (fun e => hgn e.symm)]
  have hat : ∃ fz', (w.freeze ⟨p.g, p.sz, none⟩ 1).heap[p.g]? = some (.cells cs e fz') ∧ (fz'.1 = fz'.2 ∨ cs.size ≤ fz'.1 ∧ b.es = 1) := by
    unfold World.freeze
    rw [if_neg (by decide)]
    show ∃ fz', (w.heap.modify _ _)[p.g]? = _ ∧ _
    rw [Array.getElem?_modify, if_pos rfl, hg]
    refine ⟨_, rfl, ?_⟩
    have := hfz hro
    split
    · exact .inr (by simp; omega)
    · rename_i hne
      simp at hne
      refine .inr ?_
      simp only
      omega
  have hsize : (w.freeze ⟨p.g, p.sz, none⟩ 1).heap.size = w.heap.size := by simp [World.freeze]
  obtain ⟨fz', h1, h2⟩ := hat
  refine ⟨.refl _, ⟨hr.fresh, hr.dead, fun m bm hm => ?_, hr.inj, fun m q hq => by rw [hsize]; exact hr.lt m q hq⟩, by rw [hsize]; exact Nat.le_refl _, rfl, rfl, rfl, Nat.le_refl _, fun m b _ h => ⟨b, h, rfl⟩, fun g _ hn => hheap g fun e => hn n b p hb hro hp e.symm rfl, fun m q h1 h2 => by rw [h1] at h2; cases h2⟩
  rcases hr.blk m bm hm with ⟨q, c2, e2, f2, b1, b2, b3, b4, b5, b6, b7⟩ | hB2
  rotate_left
  · refine .inr (hB2.mv (.refl _) fun q hq ⟨es, clk, hk⟩ => hheap _ fun e => ?_)
    rw [e, hg] at hk; cases hk
  by_cases hgq : q.g = p.g
  · rw [hgq, hg] at b2
    injection b2 with b2
    injection b2 with k1 k2 k3
    subst k1; subst k2
    have hnm := hr.inj n m b bm p q hb hm hro hp b1 hgq.symm
    have hbm : bm = b := by
      subst hnm; rw [hb] at hm; injection hm with hm; exact hm.symm
    exact .inl ⟨q, cs, e, fz', b1, by rw [hgq]; exact h1, b3, b4, b5, b6, fun _ => by rw [hbm]; exact h2⟩
  · exact .inl ⟨q, c2, e2, f2, b1, by rw [hheap _ hgq]; exact b2, b3, b4, b5, b6, b7⟩

end GAb
