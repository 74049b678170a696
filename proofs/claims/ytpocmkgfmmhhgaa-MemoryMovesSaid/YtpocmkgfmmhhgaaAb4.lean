/- The abstract operations on slices, one by one, and that the machine's do the same. No statement of the seat is proved in this text. -/
import Derived.Test.YtpocmkgfmmhhgaaAb3
set_option linter.unusedVariables false
set_option linter.unusedSimpArgs false
namespace GAb
open Go

/-! ### A slice written out, make -/
def aBuildSlice (P : Program) (t : TypeId) (len : Nat) (parts : List (Nat × Value)) (σ : AState) : Option (Value × AState) :=
  match P.underlying t with
  | some (.slice elem) =>
    match tsz P elem, tz P elem with
    | some k, some z =>
      if len * k ≤ 2 ^ 24 ∧ z.cells.toList.all flat = true ∧ z.cells.size = k then
        (Instr.fill (fun i => some (i * k, k)) (zrow z.cells.toList len).toArray parts).map fun c => (.slice (some ⟨σ.next, 0, some 0⟩) len len, σ.alloc ⟨c.toList, k, false⟩)
      else none
    | _, _ => none
  | _ => none

theorem aBuildSlice_sound {P : Program} {t : TypeId} {len : Nat} {ps qs : List (Nat × Value)} {v : Value} {σ σ' : AState} (h : aBuildSlice P t len ps σ = some (v, σ')) {φ : Ren} {w : World} (hr : HRel φ σ w) (hp : PRel φ ps qs) (D : Nat → Prop) :
    ∃ φ' u w', (Instr.buildSlice t len qs.toArray).run P w = .ok u w' ∧ VRel φ' v u ∧ Goes D φ σ w φ' σ' w' := by
  unfold aBuildSlice at h
  split at h
  · rename_i elem hu
    split at h
    · rename_i k z hk hz
      split at h
      · rename_i hc
        obtain ⟨hlim, hf, hzk⟩ := hc
        cases hfill : Instr.fill (fun i => some (i * k, k)) (zrow z.cells.toList len).toArray ps with
        | none => rw [hfill] at h; cases h
        | some c =>
          rw [hfill, Option.map_some] at h
          injection h with h
          injection h with e1 e2
          subst e1; subst e2
          obtain ⟨d, h1, h2⟩ := fill_rel (φ := φ) _ _ _ _ _ _ hp (show RRel φ (zrow z.cells.toList len).toArray (zrow z.cells.toList len).toArray from flat_cells (zrow_flat hf len)) hfill
          have hs := h2.size
          have := alloc_sound hr (D := D) (vs := c.toList) (us := d) k elem (by simp; omega) (by rw [List.take_of_length_le (by simp; omega)]; exact h2)
          refine ⟨_, .slice (some ⟨w.heap.size, 0, none⟩) len len, _, ?_, ?_, this⟩
          · simp only [Instr.buildSlice, Sem.run_bind, run_und hu, run_size hk, Result.andThen_ok]
            rw [if_neg (by omega)]
            by_cases h0 : len * k = 0
            · have hz0 : zrow z.cells.toList len = [] := List.eq_nil_of_length_eq_zero (by rw [zrow_length]; simp [hzk, h0])
              rw [hz0] at h1
              have hr0 : ∀ f : Nat → Value, (Array.range (len * k)).map f = #[] := fun f => by rw [h0]; simp
              simp only [if_pos h0, Sem.run_bind, Sem.run_pure, Result.andThen_ok, hr0]
              rw [h1]
              simp [newRow]
            · rw [if_neg h0]
              simp only [Sem.run_bind, Sem.run_pure, Result.andThen_ok, run_zero hz]
              rw [zrow_eq z.cells len (len * k) (by rw [hzk]), h1]
              simp [newRow]
          · exact .sliceX (p := ⟨w.heap.size, 0, d.size, k⟩) (by simp [Ren.up])
      · cases h
    · cases h
  · cases h

def aMake (P : Program) (t : TypeId) (l c : Value) (σ : AState) : Option (Value × AState) :=
  match P.underlying t, l, c with
  | some (.slice elem), .int _ ln, .int _ cn =>
    match tsz P elem, tz P elem, tby P elem with
    | some k, some z, some by_ =>
      if 0 ≤ ln ∧ ln ≤ cn ∧ cn ≤ 9223372036854775807 ∧ (by_ : Int) * cn ≤ 2 ^ 48 ∧ z.cells.toList.all flat = true ∧ z.cells.size = k then
        some (.slice (some ⟨σ.next, 0, some 0⟩) ln.toNat cn.toNat, σ.alloc ⟨zrow z.cells.toList cn.toNat, k, false⟩)
      else none
    | _, _, _ => none
  | _, _, _ => none

theorem wrap_i64 {x : Int} (h0 : 0 ≤ x) (h1 : x ≤ 9223372036854775807) : IntKind.i64.wrap x = x := by
  simp only [IntKind.wrap, IntKind.bits, IntKind.signed]
  simp
  omega

theorem aMake_sound {P : Program} {t : TypeId} {l c v : Value} {σ σ' : AState} (h : aMake P t l c σ = some (v, σ')) {φ : Ren} {w : World} (hr : HRel φ σ w) (D : Nat → Prop) :
    ∃ φ' u w', (Instr.makeSlice t l c).run P w = .ok u w' ∧ VRel φ' v u ∧ Goes D φ σ w φ' σ' w' := by
  unfold aMake at h
  split at h
  · rename_i elem k1 ln k2 cn hu
    split at h
    · rename_i k z b hk hz hb
      split at h
      · rename_i hc
        obtain ⟨h0, h1, h2, h3, hf, hzk⟩ := hc
        injection h with h
        injection h with e1 e2
        subst e1; subst e2
        obtain ⟨i, hi, hib⟩ := run_bytes (w := w) hb
        have hw1 := wrap_i64 h0 (by omega)
        have hw2 := wrap_i64 (by omega) h2
        have := alloc_sound hr (D := D) (vs := zrow z.cells.toList cn.toNat) (us := (zrow z.cells.toList cn.toNat).toArray) k elem (by simp) (by rw [List.take_of_length_le (by simp)]; exact flat_cells (zrow_flat hf _))
        refine ⟨_, .slice (some ⟨w.heap.size, 0, none⟩) ln.toNat cn.toNat, _, ?_, ?_, this⟩
        · have ht : (decide (cn < 0) || decide ((i.bytes : Int) * cn > 2 ^ 48)) = false := by
            rw [hib]
            simp only [Bool.or_eq_false_iff, decide_eq_false_iff_not]
            omega
          simp only [Instr.makeSlice, Sem.run_bind, run_und hu, Result.andThen_ok, asInt, asIntOf, Sem.run_pure, hi, hw1, hw2, ht]
          rw [if_neg (by simp; omega)]
          simp only [Sem.run_bind, run_askRoom, run_size hk, Result.andThen_ok]
          by_cases h0 : cn.toNat * k = 0
          · have hz0 : zrow z.cells.toList cn.toNat = [] := List.eq_nil_of_length_eq_zero (by rw [zrow_length]; simp [hzk, h0])
            have hr0 : ∀ f : Nat → Value, (Array.range (cn.toNat * k)).map f = #[] := fun f => by rw [h0]; simp
            simp only [if_pos h0, Sem.run_bind, Sem.run_pure, Result.andThen_ok, hr0, hz0]
            simp [newRow]
          · rw [if_neg h0]
            simp only [Sem.run_bind, Sem.run_pure, Result.andThen_ok, run_zero hz]
            rw [zrow_eq z.cells cn.toNat (cn.toNat * k) (by rw [hzk])]
            simp [newRow]
        · exact .sliceX (p := ⟨w.heap.size, 0, (zrow z.cells.toList cn.toNat).toArray.size, k⟩) (by simp [Ren.up])
      · cases h
    · cases h
  · cases h

/-! ### Slices of slices -/
def bnd (x : Option Value) (d : Nat) : Option Nat :=
  match x with
  | none => some d
  | some (.int _ i) => if 0 ≤ i then some i.toNat else none
  | some _ => none

def aSlice (P : Program) (t : TypeId) (x : Value) (lo hi mx : Option Value) (σ : AState) : Option Value :=
  match P.underlying t, x with
  | some (.slice elem), .slice none 0 0 =>
    match bnd lo 0, bnd hi 0, bnd mx 0 with
    | some 0, some 0, some 0 => if mx.isSome ∧ hi.isNone then none else (tsz P elem).map fun _ => .slice none 0 0
    | _, _, _ => none
  | some (.slice elem), .slice (some ⟨n, o, ex⟩) len cap =>
    match bnd lo 0, bnd hi len, bnd mx cap, tsz P elem with
    | some l, some h, some m, some k =>
      if l ≤ h ∧ h ≤ m ∧ m ≤ cap then
        match mx, ex with
        | none, none => match σ.get n with
          | some b => if b.es = k then some (.slice (some ⟨n, o + l * k, none⟩) (h - l) (cap - l)) else none
          | none => none
        | none, some 0 => some (.slice (some ⟨n, o + l * k, some 0⟩) (h - l) (cap - l))
        | some _, _ => if hi.isSome then some (.slice (some ⟨n, o + l * k, some 0⟩) (h - l) (m - l)) else none
        | _, _ => none
      else none
    | _, _, _, _ => none
  | _, _ => none

theorem run_sliceBound {P : Program} {w : World} {k : IntKind} {i : Int} {y : Nat} {code : BoundsCode} (h : 0 ≤ i) (h1 : i.toNat ≤ y) : (Instr.sliceBound (.int k i) y code).run P w = .ok i.toNat w := by
  simp only [Instr.sliceBound, asIntOf, Sem.run_bind, Sem.run_pure, Result.andThen_ok]
  rw [if_pos (by omega)]
  rfl

theorem run_bounds {P : Program} {w : World} {len cap cap' l h m : Nat} {lo hi mx : Option Value} (hl : bnd lo 0 = some l) (hh : bnd hi len = some h) (hm : bnd mx cap' = some m) (h1 : l ≤ h) (h2 : h ≤ m) (h3 : m ≤ cap') (hx : mx.isSome → hi.isSome) :
    (Instr.sliceBounds true len cap' lo hi mx).run P w = .ok (l, h, m) w := by
  have low : ∀ code, (match lo with | some v => Instr.sliceBound v h code | none => pure 0 : Sem Nat).run P w = .ok l w := fun code => by
    unfold bnd at hl
    split at hl
    · injection hl with hl; subst hl; rfl
    · split at hl
      · injection hl with hl; subst hl; exact run_sliceBound (by assumption) h1
      · cases hl
    · cases hl
  have high : ∀ (code : BoundsCode) (y : Nat), h ≤ y → ∀ v, hi = some v → (Instr.sliceBound v y code).run P w = .ok h w := fun code y hy v hv => by
    subst hv
    unfold bnd at hh
    split at hh
    · contradiction
    · rename_i i e
      injection e with e
      subst e
      split at hh
      · injection hh with hh; subst hh; exact run_sliceBound (by assumption) hy
      · cases hh
    · cases hh
  cases mx with
  | none =>
    simp only [bnd, Option.some.injEq] at hm
    subst hm
    cases hi with
    | none =>
      simp only [bnd, Option.some.injEq] at hh
      subst hh
      simp only [Instr.sliceBounds, Sem.run_bind, Sem.run_pure, Result.andThen_ok]
      have := low .sliceB
      cases lo <;> simp_all
    | some v =>
      have hv := high .sliceAcap cap' h2 v rfl
      simp only [Instr.sliceBounds, Sem.run_bind, Sem.run_pure, Result.andThen_ok, if_true, hv]
      have := low .sliceB
      cases lo <;> simp_all
  | some x =>
    cases hi with
    | none => simp at hx
    | some v =>
      have hv := high .slice3B m h2 v rfl
      have hm' : (Instr.sliceBound x cap' .slice3Acap).run P w = .ok m w := by
        unfold bnd at hm
        split at hm
        · contradiction
        · rename_i i e
          injection e with e
          subst e
          split at hm
          · injection hm with hm; subst hm; exact run_sliceBound (by assumption) h3
          · cases hm
        · cases hm
      simp only [Instr.sliceBounds, Sem.run_bind, Sem.run_pure, Result.andThen_ok, if_true, hv, hm']
      have := low .slice3C
      cases lo <;> simp_all

theorem aSlice_sound {P : Program} {t : TypeId} {x v : Value} {lo hi mx : Option Value} {σ : AState} (h : aSlice P t x lo hi mx σ = some v) {φ : Ren} {w : World} {u : Value} (hr : HRel φ σ w) (hx : VRel φ x u) :
    ∃ y, (∀ w : World, (Instr.sliceAt t u lo hi mx).run P w = .ok y w) ∧ VRel φ v y := by
  unfold aSlice at h
  split at h
  · rename_i elem hu
    split at h
    · rename_i h1 h2 h3
      split at h
      · cases h
      · rename_i hnot
        cases hk : tsz P elem with
        | none => rw [hk] at h; cases h
        | some k =>
          rw [hk] at h
          injection h with h
          subst h
          cases hx
          refine ⟨.slice none 0 0, fun w => ?_, .sliceNone⟩
          have := run_bounds (P := P) (w := w) (len := 0) (cap := 0) (cap' := 0) h1 h2 h3 (by omega) (by omega) (by omega) (fun hm => by cases hi <;> simp_all)
          simp only [Instr.sliceAt, Instr.slice, Sem.run_bind, run_und hu, Result.andThen_ok, this, run_size hk]
          simp
    · cases h
  · rename_i elem n o ex len cap hu
    split at h
    · rename_i l hh m k h1 h2 h3 hk
      split at h
      · rename_i hc
        obtain ⟨c1, c2, c3⟩ := hc
        -- what the machine's slice is
        have key : ∀ (cap' m' : Nat) (a' : Addr), bnd mx cap' = some m' → hh ≤ m' → m' ≤ cap' → (mx.isSome → hi.isSome) →
            ∀ w : World, (Instr.sliceAt t (.slice (some a') len cap') lo hi mx).run P w = .ok (.slice (some (if m' = l then a' else a'.add (l * k))) (hh - l) (m' - l)) w := by
          intro cap' m' a' e1 e2 e3 e4 w
          have := run_bounds (P := P) (w := w) (len := len) (cap := cap) h1 h2 e1 c1 e2 e3 e4
          simp only [Instr.sliceAt, Instr.slice, Sem.run_bind, run_und hu, Result.andThen_ok, this, run_size hk, Sem.run_pure]
          by_cases hml : m' = l
          · simp [hml]
          · simp [hml]
        cases mx with
        | none =>
          simp only [bnd, Option.some.injEq] at h3
          subst h3
          cases ex with
          | none =>
            simp only at h
            split at h
            · rename_i b hb
              split at h
              · rename_i hes
                injection h with h
                subst h
                cases hx with
                | @slice _ _ _ _ cap' p hp hcap hbd =>
                  refine ⟨_, key cap' cap' _ rfl (by omega) (by omega) (by simp), ?_⟩
                  obtain ⟨q, cs, e, fz, hq, hg, hsz, hpe, _⟩ := hr.cel hb hp (by omega)
                  rw [hp] at hq; injection hq with hq; subst hq
                  by_cases hl : cap' = l
                  · rw [if_pos hl, show hh - l = 0 by omega, show cap' - l = 0 by omega, show cap - l = 0 by omega]
                    exact .sliceE _ _
                  · rw [if_neg hl, add_plain, Nat.add_assoc]
                    refine .slice hp (by omega) ?_
                    have : (cap' - l) * p.es + l * k = cap' * p.es := by
                      rw [hpe, hes, ← Nat.add_mul]; congr 1; omega
                    omega
                | sliceE _ a' =>
                  refine ⟨_, key 0 0 a' rfl (by omega) (by omega) (by simp), ?_⟩
                  rw [show hh - l = 0 by omega, show 0 - l = 0 by omega]
                  exact .sliceE _ _
              · cases h
            · cases h
          | some s =>
            cases s with
            | succ s => simp at h
            | zero =>
              simp only [Option.some.injEq] at h
              subst h
              cases hx with
              | @sliceX _ _ _ _ p hp =>
                refine ⟨_, key cap cap _ rfl (by omega) (by omega) (by simp), ?_⟩
                by_cases hl : cap = l
                · rw [if_pos hl, show hh - l = 0 by omega, show cap - l = 0 by omega]
                  exact .sliceE _ _
                · rw [if_neg hl, add_plain, Nat.add_assoc]
                  exact .sliceX hp
              | sliceE _ a' =>
                refine ⟨_, key 0 0 a' rfl (by omega) (by omega) (by simp), ?_⟩
                rw [show hh - l = 0 by omega, show 0 - l = 0 by omega]
                exact .sliceE _ _
        | some xm =>
          have hhi : hi.isSome = true := by
            cases ex <;> simp at h <;> exact h.1
          have hv : v = .slice (some ⟨n, o + l * k, some 0⟩) (hh - l) (m - l) := by
            cases ex <;> simp at h <;> exact h.2.symm
          subst hv
          have hmb : ∀ c, bnd (some xm) c = some m := fun c => by
            cases xm <;> exact h3
          cases hx with
          | @slice _ _ _ _ cap' p hp hcap hbd =>
            refine ⟨_, key cap' m _ (hmb _) c2 (by omega) (fun _ => hhi), ?_⟩
            by_cases hl : m = l
            · rw [if_pos hl, show hh - l = 0 by omega, show m - l = 0 by omega]
              exact .sliceE _ _
            · rw [if_neg hl, add_plain, Nat.add_assoc]
              exact .sliceX hp
          | @sliceX _ _ _ _ p hp =>
            refine ⟨_, key cap m _ (hmb _) c2 (by omega) (fun _ => hhi), ?_⟩
            by_cases hl : m = l
            · rw [if_pos hl, show hh - l = 0 by omega, show m - l = 0 by omega]
              exact .sliceE _ _
            · rw [if_neg hl, add_plain, Nat.add_assoc]
              exact .sliceX hp
          | sliceE _ a' =>
            refine ⟨_, key 0 m a' (hmb _) c2 (by omega) (fun _ => hhi), ?_⟩
            rw [show hh - l = 0 by omega, show m - l = 0 by omega]
            exact .sliceE _ _
      · cases h
    · cases h
  · cases h

/-! ### Addresses of parts -/
def aFieldAddr (P : Program) (s : TypeId) (x : Value) (f : Nat) : Option Value :=
  match P.underlying s, x with
  | some (.struct fields), .pointer (some ⟨n, o, none⟩) =>
    match fields[f]? with
    | some fl => match tsz P fl.type with
      | some (_ + 1) => some (.pointer (some ⟨n, o + fl.offset, none⟩))
      | _ => none
    | none => none
  | _, _ => none

theorem aFieldAddr_sound {P : Program} {s : TypeId} {x v : Value} {f : Nat} (h : aFieldAddr P s x f = some v) {φ : Ren} {u : Value} (hx : VRel φ x u) :
    ∃ y, (∀ w : World, (Instr.fieldAt s u f).run P w = .ok y w) ∧ VRel φ v y := by
  unfold aFieldAddr at h
  split at h
  · rename_i fields n o hu
    split at h
    · rename_i fl hfl
      split at h
      · rename_i k hk
        injection h with h
        subst h
        cases hx with
        | @ptr _ p _ hp =>
        refine ⟨.pointer (some ⟨p.g, p.o + (o + fl.offset), none⟩), fun w => ?_, .ptr _ hp⟩
        simp only [Instr.fieldAt, Sem.run_bind, run_und hu, Result.andThen_ok, hfl, Instr.sureAddr, Sem.run_pure, fieldPlace, run_size hk]
        rw [if_neg (by omega), add_plain]
        simp [Nat.add_assoc]
      · cases h
    · cases h
  · cases h

def aIndexAddr (P : Program) (t : TypeId) (x ix : Value) : Option Value :=
  match P.underlying t, x, ix with
  | some (.slice elem), .slice (some ⟨n, o, _⟩) len _, .int _ i =>
    if 0 ≤ i ∧ i < len then (tsz P elem).map fun k => .pointer (some ⟨n, o + i.toNat * k, none⟩) else none
  | some (.array len elem), .pointer (some ⟨n, o, none⟩), .int _ i =>
    if 0 ≤ i ∧ i < len then (tsz P elem).map fun k => .pointer (some ⟨n, o + i.toNat * k, none⟩) else none
  | _, _, _ => none

theorem aIndexAddr_sound {P : Program} {t : TypeId} {x ix v : Value} (h : aIndexAddr P t x ix = some v) {φ : Ren} {u y : Value} (hx : VRel φ x u) (hi : VRel φ ix y) :
    ∃ z, (∀ w : World, (Instr.indexAt t u y).run P w = .ok z w) ∧ VRel φ v z := by
  unfold aIndexAddr at h
  split at h
  · rename_i elem n o _ len _ _ i hu
    split at h
    · rename_i hb
      cases hi
      cases hk : tsz P elem with
      | none => rw [hk] at h; cases h
      | some k =>
        rw [hk, Option.map_some] at h
        injection h with h
        subst h
        have run : ∀ (g x' c : Nat) (w : World), (Instr.indexAt t (.slice (some ⟨g, x', none⟩) len c) (.int ‹_› i)).run P w = .ok (.pointer (some ⟨g, x' + i.toNat * k, none⟩)) w := fun g x' c w => by
          simp only [Instr.indexAt, asIntOf, Sem.run_bind, Sem.run_pure, Result.andThen_ok, run_und hu]
          rw [if_pos hb]
          simp only [Sem.run_bind, run_size hk, Result.andThen_ok, Sem.run_pure, add_plain]
        cases hx with
        | @slice _ _ _ _ c' p hp _ _ => exact ⟨_, run _ _ _, by rw [Nat.add_assoc]; exact .ptr _ hp⟩
        | @sliceX _ _ _ _ p hp => exact ⟨_, run _ _ _, by rw [Nat.add_assoc]; exact .ptr _ hp⟩
        | sliceE _ a' => simp at hb; omega
    · cases h
  · rename_i len elem n o _ i hu
    split at h
    · rename_i hb
      cases hi
      cases hk : tsz P elem with
      | none => rw [hk] at h; cases h
      | some k =>
        rw [hk, Option.map_some] at h
        injection h with h
        subst h
        cases hx with
        | @ptr _ p _ hp =>
          refine ⟨.pointer (some ⟨p.g, p.o + (o + i.toNat * k), none⟩), fun w => ?_, .ptr _ hp⟩
          simp only [Instr.indexAt, Instr.sureAddr, asIntOf, Sem.run_bind, Sem.run_pure, Result.andThen_ok, run_und hu]
          rw [if_pos hb]
          simp only [Sem.run_bind, run_size hk, Result.andThen_ok, Sem.run_pure, add_plain, Nat.add_assoc]
    · cases h
  · cases h

/-! ### Parts of values -/
def aExtract (x : Value) (i : Nat) : Option Value :=
  match x with
  | .tuple vs => vs[i]?
  | _ => none
theorem aExtract_sound {P : Program} {x v : Value} {i : Nat} (h : aExtract x i = some v) {φ : Ren} {u : Value} (hx : VRel φ x u) : ∃ y, (∀ w : World, (Instr.extract u i).run P w = .ok y w) ∧ VRel φ v y := by
  unfold aExtract at h
  split at h
  · obtain ⟨us, rfl, hr⟩ := hx.tuple_inv
    obtain ⟨y, h1, h2⟩ := LRel.get hr i v (by simpa using h)
    exact ⟨y, fun w => by simp at h1; simp [Instr.extract, h1], h2⟩
  · cases h

def aField (P : Program) (t : TypeId) (x : Value) (f : Nat) : Option Value :=
  match P.underlying t, x with
  | some (.struct fields), .agg cs =>
    match fields[f]? with
    | some fl => match P.underlying fl.type with
      | some d => if agg? d then (tsz P fl.type).map fun k => .agg (cs.extract fl.offset (fl.offset + k)) else cs[fl.offset]?
      | none => none
    | none => none
  | _, _ => none
theorem aField_sound {P : Program} {t : TypeId} {x v : Value} {f : Nat} (h : aField P t x f = some v) {φ : Ren} {u : Value} (hx : VRel φ x u) : ∃ y, (∀ w : World, (Instr.field t u f).run P w = .ok y w) ∧ VRel φ v y := by
  unfold aField at h
  split at h
  · rename_i fields cs hu
    obtain ⟨us, rfl, hr⟩ := hx.agg_inv
    split at h
    · rename_i fl hfl
      split at h
      · rename_i d hd
        split at h
        · rename_i ha
          cases hk : tsz P fl.type with
          | none => rw [hk] at h; cases h
          | some k =>
            rw [hk, Option.map_some] at h
            injection h with h
            subst h
            refine ⟨.agg (us.extract fl.offset (fl.offset + k)), fun w => ?_, .agg' ?_⟩
            · simp [Instr.field, run_und hu, hfl, asAgg, part, run_isAgg hd, ha, run_size hk]
            · unfold RRel
              simp only [Array.toList_extract, List.extract_eq_take_drop]
              exact (LRel.drop hr _).take _
        · rename_i ha
          obtain ⟨y, h1, h2⟩ := LRel.get hr fl.offset v (by simpa using h)
          refine ⟨y, fun w => ?_, h2⟩
          simp at h1
          simp [Instr.field, run_und hu, hfl, asAgg, part, run_isAgg hd, ha, h1]
      · cases h
    · cases h
  · cases h

end GAb
