/- The abstract operations, one by one, and that the machine's do the same. No statement of the seat is proved in this text. -/
import Derived.Test.YtpocmkgfmmhhgaaAb2
import Derived.Laws.Append
set_option linter.unusedVariables false
set_option linter.unusedSimpArgs false
namespace GAb
open Go

/-! ### The types' table -/
def tsz (P : Program) (t : TypeId) : Option Nat := (P.info? t).map (·.size)
def tby (P : Program) (t : TypeId) : Option Nat := (P.info? t).map (·.bytes)
def tz (P : Program) (t : TypeId) : Option Value := (P.info? t).bind (·.zero)

section
variable {P : Program} {w : World}
theorem run_info {t : TypeId} {i : TypeInfo} (h : P.info? t = some i) : (typeInfo t).run P w = .ok i w := by simp [typeInfo, h]
theorem run_und {t : TypeId} {d : TypeDesc} (h : P.underlying t = some d) : (underlying t).run P w = .ok d w := by simp [underlying, h]
theorem run_size {t : TypeId} {k : Nat} (h : tsz P t = some k) : (Go.sizeOf t).run P w = .ok k w := by
  unfold tsz at h
  cases hi : P.info? t with
  | none => simp [hi] at h
  | some i => simp [hi] at h; simp [Go.sizeOf, run_info hi, h]
theorem run_bytes {t : TypeId} {k : Nat} (h : tby P t = some k) : ∃ i, (typeInfo t).run P w = .ok i w ∧ i.bytes = k := by
  unfold tby at h
  cases hi : P.info? t with
  | none => simp [hi] at h
  | some i => simp [hi] at h; exact ⟨i, run_info hi, h⟩
theorem run_zero {t : TypeId} {v : Value} (h : tz P t = some v) : (zeroValue t).run P w = .ok v w := by
  unfold tz at h
  cases hi : P.info? t with
  | none => simp [hi] at h
  | some i => simp [hi] at h; simp [zeroValue, run_info hi, h]
end

def agg? : TypeDesc → Bool
  | .struct _ | .array _ _ => true
  | _ => false
theorem run_isAgg {P : Program} {w : World} {t : TypeId} {d : TypeDesc} (h : P.underlying t = some d) : (isAgg t).run P w = .ok (agg? d) w := by
  simp only [isAgg, Sem.run_bind, run_und h, Result.andThen_ok]
  cases d <;> rfl

/-- The block that a place lies in. -/
def rdName : Value → Option Nat
  | .pointer (some ⟨n, _, _⟩) => some n
  | .slice (some ⟨n, _, _⟩) _ _ => some n
  | _ => none

/-! ### Load, store -/
def aLoad (P : Program) (t : TypeId) (v : Value) (σ : AState) : Option Value :=
  match v with
  | .pointer (some ⟨n, o, none⟩) =>
    match P.underlying t with
    | some d => if agg? d then
        match tsz P t with
        | some k => (rd σ n o k).map fun vs => .agg vs.toArray
        | none => none
      else match rd σ n o 1 with
        | some [x] => some x
        | _ => none
    | none => none
  | _ => none

theorem aLoad_sound {P : Program} {t : TypeId} {v r : Value} {σ : AState} (h : aLoad P t v σ = some r) {φ : Ren} {w : World} {u : Value} (hr : HRel φ σ w) (hv : VRel φ v u) :
    ∃ x, (∀ w2 : World, (∀ n p, rdName v = some n → φ n = some p → w2.heap[p.g]? = w.heap[p.g]?) → (Instr.loadAt t u).run P w2 = .ok x w2) ∧ VRel φ r x := by
  unfold aLoad at h
  split at h
  · rename_i n o
    cases hv with
    | @ptr _ p _ hp =>
    split at h
    · rename_i d hd
      split at h
      · rename_i ha
        split at h
        · rename_i k hk
          cases hrd : rd σ n o k with
          | none => simp [hrd] at h
          | some vs =>
            simp [hrd] at h
            subst h
            obtain ⟨us, h1, _, _, _, h4⟩ := rd_sound hr hrd hp
            refine ⟨.agg us.toArray, fun w2 hw2 => ?_, .agg' (by simpa [RRel] using h1)⟩
            simp [Instr.loadAt, Instr.sureAddr, loadVar, run_isAgg hd, ha, run_size hk, (h4 P w2 (hw2 _ _ rfl hp)).2]
        · cases h
      · rename_i ha
        split at h
        · rename_i x hrd
          injection h with h
          subst h
          obtain ⟨us, h1, h2, _, _, h3⟩ := rd_sound hr hrd hp
          cases h1 with
          | @cons _ y _ us' hx ht =>
            cases ht
            refine ⟨y, fun w2 hw2 => ?_, hx⟩
            have := (h3 P w2 (hw2 _ _ rfl hp)).1 0 y (by simp)
            simp only [Nat.add_zero] at this
            simp [Instr.loadAt, Instr.sureAddr, loadVar, run_isAgg hd, ha, this]
        · cases h
    · cases h
  · cases h

def aStore (P : Program) (t : TypeId) (v x : Value) (σ : AState) : Option (AState × Nat) :=
  match v with
  | .pointer (some ⟨n, o, none⟩) => if tsz P t = some x.cells.size then (wr σ n o x.cells.toList).map fun s => (s, n) else none
  | _ => none

theorem aStore_sound {P : Program} {t : TypeId} {v x : Value} {σ σ' : AState} {n : Nat} (h : aStore P t v x σ = some (σ', n)) {φ : Ren} {w : World} {u y : Value} (hr : HRel φ σ w) (hv : VRel φ v u) (hx : VRel φ x y) :
    ∃ w', (Instr.storeAt t u y).run P w = .ok () w' ∧ Goes (· = n) φ σ w φ σ' w' := by
  unfold aStore at h
  split at h
  · rename_i m o
    cases hv with
    | @ptr _ p _ hp =>
    split at h
    · rename_i hk
      cases hw : wr σ m o x.cells.toList with
      | none => simp [hw] at h
      | some s =>
        simp [hw] at h
        obtain ⟨rfl, rfl⟩ := h
        obtain ⟨w', h1, h2⟩ := wr_sound hr hw hp hx.cells
        refine ⟨w', ?_, h2⟩
        have hsz := hx.cells.size
        simp [Instr.storeAt, Instr.sureAddr, storeVar, run_size hk, ← hsz, h1 P]
    · cases h
  · cases h

/-! ### New variables -/
theorem flat_cells {φ : Ren} {vs : List Value} (h : vs.all flat = true) : LRel φ vs vs := by
  induction vs with
  | nil => exact .nil
  | cons v vs ih => simp only [List.all_cons, Bool.and_eq_true] at h; exact .cons (flat_rel h.1) (ih h.2)

def aAlloc (P : Program) (t : TypeId) (σ : AState) : Option (Value × AState) :=
  match tz P t with
  | some z => if z.cells.toList.all flat then some (.pointer (some ⟨σ.next, 0, none⟩), σ.alloc ⟨z.cells.toList, 0, false⟩) else none
  | none => none

theorem aAlloc_sound {P : Program} {t : TypeId} {v : Value} {σ σ' : AState} (h : aAlloc P t σ = some (v, σ')) {φ : Ren} {w : World} (hr : HRel φ σ w) (D : Nat → Prop) :
    ∃ φ' u w', (Instr.alloc t true (.tuple #[])).run P w = .ok u w' ∧ VRel φ' v u ∧ Goes D φ σ w φ' σ' w' := by
  unfold aAlloc at h
  split at h
  · rename_i z hz
    split at h
    · rename_i hf
      injection h with h
      injection h with h1 h2
      subst h1; subst h2
      have := alloc_sound hr (D := D) (vs := z.cells.toList) (us := z.cells) 0 t (by simp) (by rw [List.take_of_length_le (by simp)]; exact flat_cells hf)
      refine ⟨_, .pointer (some ⟨w.heap.size, 0, none⟩), _, ?_, ?_, this⟩
      · simp [Instr.alloc, run_zero hz, newVar, newRow]
      · exact .ptr (p := ⟨w.heap.size, 0, z.cells.size, 0⟩) 0 (by simp [Ren.up])
    · cases h
  · cases h

def aBox (v : Value) (σ : AState) : Value × AState := (.pointer (some ⟨σ.next, 0, none⟩), σ.alloc ⟨v.cells.toList, 0, false⟩)
theorem aBox_sound {P : Program} {t : TypeId} {v u : Value} {σ : AState} {φ : Ren} {w : World} (hr : HRel φ σ w) (hv : VRel φ v u) (D : Nat → Prop) :
    ∃ φ' x w', (Instr.box t u).run P w = .ok x w' ∧ VRel φ' (aBox v σ).1 x ∧ Goes D φ σ w φ' (aBox v σ).2 w' := by
  have hc := hv.cells
  have hs := hc.size
  have := alloc_sound hr (D := D) (vs := v.cells.toList) (us := u.cells) 0 t (by simp; omega) (by rw [List.take_of_length_le (by simp; omega)]; exact hc)
  refine ⟨_, .pointer (some ⟨w.heap.size, 0, none⟩), _, ?_, ?_, this⟩
  · simp [Instr.box, newVar, newRow]
  · exact .ptr (p := ⟨w.heap.size, 0, u.cells.size, 0⟩) 0 (by simp [Ren.up])

/-! ### Building values -/
theorem fold_rel {φ : Ren} (off : Nat) {xs ys : List Value} (h : LRel φ xs ys) : ∀ (k : Nat) (a b : Array Value), RRel φ a b →
    RRel φ ((xs.zipIdx k).foldl (fun cs (c : Value × Nat) => cs.setIfInBounds (off + c.2) c.1) a) ((ys.zipIdx k).foldl (fun cs (c : Value × Nat) => cs.setIfInBounds (off + c.2) c.1) b) := by
  induction h with
  | nil => intro k a b h; exact h
  | cons hx _ ih =>
    intro k a b h
    simp only [List.zipIdx_cons, List.foldl_cons]
    refine ih (k + 1) _ _ (RRel.of_at (by simpa using h.size) fun i h1 h2 => ?_)
    rw [Array.getElem_setIfInBounds (by simpa using h1), Array.getElem_setIfInBounds (by simpa using h2)]
    split
    · exact hx
    · exact h.at_ i (by simpa using h1) (by simpa using h2)

inductive PRel (φ : Ren) : List (Nat × Value) → List (Nat × Value) → Prop where
  | nil : PRel φ [] []
  | cons {i : Nat} {v u : Value} {vs us : List (Nat × Value)} : VRel φ v u → PRel φ vs us → PRel φ ((i, v) :: vs) ((i, u) :: us)

theorem fill_rel {φ : Ren} (place : Nat → Option (Nat × Nat)) : ∀ (ps qs : List (Nat × Value)) (a b c : Array Value), PRel φ ps qs → RRel φ a b → Instr.fill place a ps = some c →
    ∃ d, Instr.fill place b qs = some d ∧ RRel φ c d
  | _, _, a, b, c, .nil, h, e => by simp only [Instr.fill, Option.some.injEq] at e ⊢; subst e; exact ⟨b, rfl, h⟩
  | _, _, a, b, c, .cons (i := i) (v := v) (u := u) hv hp, h, e => by
    simp only [Instr.fill] at e ⊢
    cases hpl : place i with
    | none => simp [hpl] at e
    | some q =>
      obtain ⟨off, sz⟩ := q
      simp only [hpl] at e ⊢
      have h1 := hv.cells.size
      have h2 := h.size
      split at e
      · cases e
      · rename_i hc
        rw [if_neg (by rw [← h1, ← h2]; exact hc)]
        refine fill_rel place _ _ _ _ _ hp ?_ e
        have := fold_rel off hv.cells 0 a b h
        simpa only [← Array.foldl_toList, Array.toList_zipIdx] using this

def mapSizes (P : Program) : List Field → Option (List (Nat × Nat))
  | [] => some []
  | f :: fs => match tsz P f.type, mapSizes P fs with
    | some k, some l => some ((f.offset, k) :: l)
    | _, _ => none
theorem run_mapSizes {P : Program} {w : World} : ∀ (fs : List Field) (l : List (Nat × Nat)), mapSizes P fs = some l →
    (fs.mapM (m := Sem) fun f => do pure (f.offset, ← Go.sizeOf f.type)).run P w = .ok l w
  | [], l, h => by simp only [mapSizes, Option.some.injEq] at h; subst h; rfl
  | f :: fs, l, h => by
    simp only [mapSizes] at h
    split at h
    · rename_i k l' h1 h2
      injection h with h
      subst h
      rw [List.mapM_cons]
      simp only [Sem.run_bind, run_size h1, Result.andThen_ok, Sem.run_pure]
      rw [run_mapSizes fs l' h2]
      rfl
    · cases h

def aBuild (P : Program) (t : TypeId) (parts : List (Nat × Value)) : Option Value :=
  match tz P t, P.underlying t with
  | some z, some (.struct fields) =>
    if z.cells.toList.all flat then
      match mapSizes P fields.toList with
      | some places => (Instr.fill (places.toArray[·]?) z.cells parts).map .agg
      | none => none
    else none
  | some z, some (.array _ elem) =>
    if z.cells.toList.all flat then
      match tsz P elem with
      | some k => (Instr.fill (fun i => some (i * k, k)) z.cells parts).map .agg
      | none => none
    else none
  | _, _ => none

theorem aBuild_sound {P : Program} {t : TypeId} {ps qs : List (Nat × Value)} {v : Value} (h : aBuild P t ps = some v) {φ : Ren} (hp : PRel φ ps qs) :
    ∃ u, (∀ w : World, (Instr.build t qs.toArray).run P w = .ok u w) ∧ VRel φ v u := by
  unfold aBuild at h
  split at h
  · rename_i z fields hz hu
    split at h
    · rename_i hf
      split at h
      · rename_i places hpl
        cases hfill : Instr.fill (places.toArray[·]?) z.cells ps with
        | none => rw [hfill] at h; cases h
        | some c =>
          rw [hfill, Option.map_some] at h
          injection h with h
          subst h
          obtain ⟨d, h1, h2⟩ := fill_rel (φ := φ) _ _ _ _ _ _ hp (show RRel φ z.cells z.cells from flat_cells hf) hfill
          refine ⟨.agg d, fun w => ?_, .agg' h2⟩
          have hm : (fields.mapM (m := Sem) fun f => do pure (f.offset, ← Go.sizeOf f.type)).run P w = .ok places.toArray w := by
            rw [Array.mapM_eq_mapM_toList]
            simp only [Sem.run_map, run_mapSizes _ _ hpl, Result.andThen_ok]
          simp only [Instr.build, Sem.run_bind, Sem.run_map, run_zero hz, run_und hu, Result.andThen_ok]
          rw [hm]
          simp only [Result.andThen_ok, h1, Sem.run_pure]
      · cases h
    · cases h
  · rename_i z n elem hz hu
    split at h
    · rename_i hf
      split at h
      · rename_i k hk
        cases hfill : Instr.fill (fun i => some (i * k, k)) z.cells ps with
        | none => rw [hfill] at h; cases h
        | some c =>
          rw [hfill, Option.map_some] at h
          injection h with h
          subst h
          obtain ⟨d, h1, h2⟩ := fill_rel (φ := φ) _ _ _ _ _ _ hp (show RRel φ z.cells z.cells from flat_cells hf) hfill
          refine ⟨.agg d, fun w => ?_, .agg' h2⟩
          simp [Instr.build, run_zero hz, run_und hu, run_size hk, h1]
      · cases h
    · cases h
  · cases h

/-- So many zero values side by side. -/
def zrow (z : List Value) : Nat → List Value
  | 0 => []
  | n + 1 => z ++ zrow z n
theorem zrow_length (z : List Value) : ∀ n, (zrow z n).length = n * z.length
  | 0 => by simp [zrow]
  | n + 1 => by simp [zrow, zrow_length z n, Nat.succ_mul]; omega
theorem zrow_get (z : List Value) : ∀ (n i : Nat), i < n * z.length → (zrow z n)[i]? = z[i % z.length]?
  | 0, i, h => by simp at h
  | n + 1, i, h => by
    simp only [zrow, List.getElem?_append]
    split
    · rename_i hi; rw [Nat.mod_eq_of_lt hi]
    · rename_i hi
      have hz : 0 < z.length := by
        rcases Nat.eq_zero_or_pos z.length with e | e
        · rw [e] at h; simp at h
        · exact e
      rw [zrow_get z n (i - z.length) (by rw [Nat.add_mul, Nat.one_mul] at h; omega), ← Nat.mod_eq_sub_mod (by omega)]
theorem zrow_one (v : Value) : ∀ n, zrow [v] n = List.replicate n v
  | 0 => rfl
  | n + 1 => by simp [zrow, zrow_one v n, List.replicate_succ]
theorem zrow_flat {z : List Value} (h : z.all flat = true) : ∀ n, (zrow z n).all flat = true
  | 0 => rfl
  | n + 1 => by simp [zrow, h, zrow_flat h n]
theorem zrow_eq (z : Array Value) (n m : Nat) (hm : m = n * z.size) : ((Array.range m).map fun i => z[i % z.size]!) = (zrow z.toList n).toArray := by
  subst hm
  apply Array.ext'
  apply List.ext_getElem?
  intro i
  simp only [Array.toList_map, Array.toList_range, List.getElem?_map, List.toList_toArray]
  by_cases hi : i < n * z.size
  · have hz : 0 < z.size := by
      rcases Nat.eq_zero_or_pos z.size with e | e
      · rw [e] at hi; simp at hi
      · exact e
    have hlt := Nat.mod_lt i hz
    rw [zrow_get z.toList n i (by simpa using hi), List.getElem?_range hi]
    simp [hlt]
  · rw [List.getElem?_eq_none (by simp; omega), List.getElem?_eq_none (by rw [zrow_length]; simp; omega)]
    rfl

end GAb
