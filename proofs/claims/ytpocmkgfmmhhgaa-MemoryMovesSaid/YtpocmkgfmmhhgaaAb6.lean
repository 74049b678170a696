/- Append, copy, clear, strings; the operation as a whole: what it does in the abstract heap, and that the machine does the same. No statement of the seat is proved in this text. -/
import Derived.Test.YtpocmkgfmmhhgaaAb5
set_option linter.unusedVariables false
set_option linter.unusedSimpArgs false
namespace GAb
open Go

def isInt : Option TypeDesc → Bool
  | some (.int _) => true
  | _ => false

def aAppend (P : Program) (ts : Array TypeId) (s x : Value) (σ : AState) : Option (Value × AState × Option Nat) :=
  match ts[0]?, ts[1]? with
  | some st, some xt =>
    match P.underlying st, P.underlying xt with
    | some (.slice elem), some xd =>
      match tsz P elem, tz P elem, tby P elem with
      | some k, some z, some by_ =>
        if isInt (some xd) then
          match x with
          | .int _ l => if 0 ≤ l ∧ l ≤ 9223372036854775807 ∧ l * (by_ : Int) ≤ 2 ^ 48 ∧ z.cells.toList.all flat = true ∧ z.cells.size = k then aTail P elem k l.toNat (zrow z.cells.toList l.toNat) s σ else none
          | _ => none
        else match aLen x with
          | some n => match aCells σ k n x with
            | some ns => aTail P elem k n ns s σ
            | none => none
          | none => none
      | _, _, _ => none
    | _, _ => none
  | _, _ => none

theorem append_eq (ts : Array TypeId) (ty : TypeId) (args : Array Value) (P : Program) (w : World) {st xt : TypeId} {base : Option Addr} {sLen sCap k : Nat} {x : Value} {elem : TypeId} {xd : TypeDesc}
    (h1 : ts[0]? = some st) (h2 : ts[1]? = some xt) (h3 : args[0]? = some (.slice base sLen sCap)) (h4 : args[1]? = some x) (hu : P.underlying st = some (.slice elem)) (hx : P.underlying xt = some xd) (hk : tsz P elem = some k) :
    (Builtin.append_ ts ty args).run P w = if isInt (some xd) then
      (do
        let l := IntKind.i64.wrap (← asInt x)
        if l < 0 then runtimePanic (.error "makeslice: len out of range")
        if l * (← typeInfo elem).bytes > 2 ^ 48 then
          let made ← choose (.extern "append.ofMake.carriedOut" 2)
          runtimePanic (.error (if made == 1 then "makeslice: len out of range" else "growslice: len out of range"))
        let n ← pure l.toNat
        appTail elem k sLen sCap n true base (.slice base sLen sCap) x (if n * k = 0 then pure #[] else do pure (Builtin.zeroCells (← zeroValue elem).cells n)) : Sem Value).run P w
    else (do
        let n ← Builtin.lenOf x
        appTail elem k sLen sCap n false base (.slice base sLen sCap) x (Builtin.firstCells k n x) : Sem Value).run P w := by
  unfold Builtin.append_
  simp only [h1, h2, h3, h4, Sem.run_bind, run_und hu, run_und hx, run_size hk, Result.andThen_ok, Sem.run_pure]
  cases xd <;> simp only [isInt, appTail, if_true, Bool.false_eq_true, if_false, Bool.not_true, Bool.not_false, true_or, false_or, Sem.run_bind] <;> rfl

theorem aAppend_sound {P : Program} {ts : Array TypeId} {ty : TypeId} {s x v : Value} {σ σ' : AState} {wn : Option Nat} (h : aAppend P ts s x σ = some (v, σ', wn)) {φ : Ren} {w : World} (hr : HRel φ σ w) {s' x' : Value} (hs : VRel φ s s') (hx : VRel φ x x') :
    ∃ φ' u w', (Builtin.append_ ts ty #[s', x']).run P w = .ok u w' ∧ VRel φ' v u ∧ Goes (fun m => wn = some m) φ σ w φ' σ' w' := by
  unfold aAppend at h
  split at h
  · rename_i st xt h1 h2
    split at h
    · rename_i elem xd hu hxd
      split at h
      · rename_i k z by_ hk hz hb
        have hsl : ∃ base sLen sCap, s' = .slice base sLen sCap := by
          have gen : ∀ n ns, aTail P elem k n ns s σ = some (v, σ', wn) → ∃ base sLen sCap, s' = .slice base sLen sCap := fun n ns h => by
            unfold aTail at h
            split at h
            · split at h
              · split at h
                · cases hs; exact ⟨_, _, _, rfl⟩
                · cases hs <;> exact ⟨_, _, _, rfl⟩
                · cases h
              · cases h
            · cases h
          split at h
          · split at h
            · split at h
              · exact gen _ _ h
              · cases h
            · cases h
          · split at h
            · split at h
              · exact gen _ _ h
              · cases h
            · cases h
        obtain ⟨base, sLen, sCap, rfl⟩ := hsl
        rw [append_eq ts ty #[.slice base sLen sCap, x'] P w (x := x') (base := base) (sLen := sLen) (sCap := sCap) h1 h2 rfl rfl hu hxd hk]
        split at h
        · rename_i hint
          rw [if_pos hint]
          split at h
          · rename_i kk l
            split at h
            · rename_i hc
              obtain ⟨c0, c1, c2, c3, c4⟩ := hc
              cases hx
              obtain ⟨i, hi, hib⟩ := run_bytes (w := w) hb
              have hw := wrap_i64 c0 c1
              have happ : ∀ d, (if l.toNat * k = 0 then (pure #[] : Sem (Array Value)) else do pure (Builtin.zeroCells (← zeroValue elem).cells l.toNat)).run P { w with drawn := d } = .ok (zrow z.cells.toList l.toNat).toArray { w with drawn := d } := fun d => by
                split
                · rename_i h0
                  have : zrow z.cells.toList l.toNat = [] := List.eq_nil_of_length_eq_zero (by rw [zrow_length]; simp [c4, h0])
                  rw [this]; rfl
                · simp [run_zero hz, zeroCells_eq]
              obtain ⟨φ', u, w', g1, g2, g3⟩ := aTail_sound (zeros := true) (x := .int kk l) h hr hs rfl (flat_cells (zrow_flat c3 _)) happ
              refine ⟨φ', u, w', ?_, g2, g3⟩
              simp only [asInt, asIntOf, Sem.run_bind, Sem.run_pure, Result.andThen_ok, hw]
              rw [if_neg (by omega)]
              simp only [Sem.run_bind, Sem.run_pure, Result.andThen_ok, hi]
              rw [if_neg (by rw [hib]; omega)]
              simp only [Sem.run_bind, Sem.run_pure, Result.andThen_ok]
              exact g1
            · cases h
          · cases h
        · rename_i hint
          rw [if_neg hint]
          split at h
          · rename_i n hn
            split at h
            · rename_i ns hns
              obtain ⟨us, k1, k2⟩ := aCells_sound hns hr hx
              obtain ⟨φ', u, w', g1, g2, g3⟩ := aTail_sound (zeros := false) (x := x') h hr hs rfl k1 (fun d => k2 P d)
              refine ⟨φ', u, w', ?_, g2, g3⟩
              simp only [Sem.run_bind, aLen_sound hn hx, Result.andThen_ok]
              exact g1
            · cases h
          · cases h
      · cases h
    · cases h
  · cases h

/-! ### copy, clear -/
def aCopy (P : Program) (ts : Array TypeId) (d x : Value) (σ : AState) : Option (Value × AState × Option Nat) :=
  match ts[0]? with
  | some dt =>
    match P.underlying dt with
    | some (.slice elem) =>
      match tsz P elem, d, aLen x with
      | some k, .slice base dLen _, some n0 =>
        match aCells σ k (min n0 dLen) x with
        | some ns =>
          match ns, base with
          | [], _ => some (.int .i64 (min n0 dLen : Nat), σ, none)
          | _, some ⟨m, o, _⟩ => (wr σ m o ns).map fun s => (.int .i64 (min n0 dLen : Nat), s, some m)
          | _, none => none
        | none => none
      | _, _, _ => none
    | _ => none
  | none => none

theorem aCopy_sound {P : Program} {ts : Array TypeId} {ty : TypeId} {d x v : Value} {σ σ' : AState} {wn : Option Nat} (h : aCopy P ts d x σ = some (v, σ', wn)) {φ : Ren} {w : World} (hr : HRel φ σ w) {d' x' : Value} (hd : VRel φ d d') (hx : VRel φ x x') :
    ∃ u w', (Builtin.copy_ ts ty #[d', x']).run P w = .ok u w' ∧ VRel φ v u ∧ Goes (fun m => wn = some m) φ σ w φ σ' w' := by
  unfold aCopy at h
  split at h
  · rename_i dt h1
    split at h
    · rename_i elem hu
      split at h
      · rename_i k base dLen cap n0 hk hn
        split at h
        · rename_i ns hns
          obtain ⟨us, k1, k2⟩ := aCells_sound hns hr hx
          have k2' : (Builtin.firstCells k (min n0 dLen) x').run P w = .ok us.toArray w := k2 P w.drawn
          have hd' : ∃ base' c', d' = .slice base' dLen c' ∧ (∀ m o ex, base = some ⟨m, o, ex⟩ → (∃ p, φ m = some p ∧ base' = some ⟨p.g, p.o + o, none⟩) ∨ dLen = 0) := by
            cases hd with
            | sliceNone => exact ⟨none, 0, rfl, fun m o ex e => by cases e⟩
            | @slice _ _ _ _ c' p hp _ _ => exact ⟨_, c', rfl, fun m o ex e => by injection e with e; injection e with e1 e2 e3; subst e1; subst e2; exact .inl ⟨p, hp, rfl⟩⟩
            | @sliceX _ _ _ _ p hp => exact ⟨_, _, rfl, fun m o ex e => by injection e with e; injection e with e1 e2 e3; subst e1; subst e2; exact .inl ⟨p, hp, rfl⟩⟩
            | sliceE a a' => exact ⟨some a', 0, rfl, fun m o ex e => .inr rfl⟩
          obtain ⟨base', c', rfl, hbase⟩ := hd'
          have run : ∀ w', (match base' with | some a => storeCells a us.toArray.toList | none => pure () : Sem Unit).run P w = .ok () w' → (Builtin.copy_ ts ty #[.slice base' dLen c', x']).run P w = .ok (.int .i64 (min n0 dLen : Nat)) w' := fun w' hw => by
            unfold Builtin.copy_
            have hmin : Nat.min n0 dLen = min n0 dLen := rfl
            simp only [h1, Sem.run_bind, run_und hu, run_size hk, Result.andThen_ok, Sem.run_pure, aLen_sound hn hx, hmin, k2']
            cases base' with
            | none =>
              simp only [Sem.run_pure] at hw
              injection hw with _ hw
              subst hw
              simp [hmin, k2', goInt, aLen_sound hn hx, run_und hu, run_size hk]
            | some a =>
              simp only at hw
              simp [hmin, k2', goInt, aLen_sound hn hx, run_und hu, run_size hk, hw]
          split at h
          · injection h with h
            injection h with e1 e2
            injection e2 with e2 e3
            subst e1; subst e2; subst e3
            cases k1
            refine ⟨_, w, run w ?_, .int _ _, Goes.refl hr⟩
            cases base' <;> rfl
          · rename_i _ m o ex hne
            cases hw : wr σ m o ns with
            | none => rw [hw] at h; cases h
            | some s =>
              rw [hw, Option.map_some] at h
              injection h with h
              injection h with e1 e2
              injection e2 with e2 e3
              subst e1; subst e2; subst e3
              rcases hbase m o ex rfl with ⟨p, hp, rfl⟩ | h0
              · obtain ⟨w', g1, g2⟩ := wr_sound hr hw hp k1
                exact ⟨_, w', run w' (g1 P), .int _ _, g2.weaken hr fun q _ hq => by rw [hq]⟩
              · exfalso
                have := aCells_length hns
                rw [h0] at this
                simp at this
                exact hne this
          · cases h
        · cases h
      · cases h
    · cases h
  · cases h

def aClear (P : Program) (ts : Array TypeId) (x : Value) (σ : AState) : Option (Value × AState × Option Nat) :=
  match ts[0]? with
  | some t =>
    match P.underlying t, x with
    | some (.slice elem), .slice _ 0 _ => some (undef, σ, none)
    | some (.slice elem), .slice (some ⟨m, o, _⟩) len _ =>
      match tz P elem with
      | some z => if z.cells.toList.all flat then (wr σ m o (zrow z.cells.toList len)).map fun s => (undef, s, some m) else none
      | none => none
    | _, _ => none
  | none => none

theorem aClear_sound {P : Program} {ts : Array TypeId} {ty : TypeId} {x v : Value} {σ σ' : AState} {wn : Option Nat} (h : aClear P ts x σ = some (v, σ', wn)) {φ : Ren} {w : World} (hr : HRel φ σ w) {x' : Value} (hx : VRel φ x x') :
    ∃ u w', (Builtin.clear_ ts ty #[x']).run P w = .ok u w' ∧ VRel φ v u ∧ Goes (fun m => wn = some m) φ σ w φ σ' w' := by
  unfold aClear at h
  split at h
  · rename_i t h1
    split at h
    · rename_i elem a c hu
      injection h with h
      injection h with e1 e2
      injection e2 with e2 e3
      subst e1; subst e2; subst e3
      have : ∃ a' c', x' = .slice a' 0 c' := by cases hx <;> exact ⟨_, _, rfl⟩
      obtain ⟨a', c', rfl⟩ := this
      refine ⟨undef, w, ?_, VRel.undef _, Goes.refl hr⟩
      unfold Builtin.clear_
      simp only [h1, Sem.run_bind, run_und hu, Result.andThen_ok, Sem.run_pure]
      cases a' <;> simp [undef, run_und hu]
    · rename_i elem m o ex len c hne hu
      split at h
      · rename_i z hz
        split at h
        · rename_i hf
          cases hw : wr σ m o (zrow z.cells.toList len) with
          | none => rw [hw] at h; cases h
          | some s =>
            rw [hw, Option.map_some] at h
            injection h with h
            injection h with e1 e2
            injection e2 with e2 e3
            subst e1; subst e2; subst e3
            have go : ∀ (p : Pl) (c' : Nat), φ m = some p → ∃ u w', (Builtin.clear_ ts ty #[.slice (some ⟨p.g, p.o + o, none⟩) len c']).run P w = .ok u w' ∧ VRel φ undef u ∧ Goes (fun q => some m = some q) φ σ w φ s w' := fun p c' hp => by
              obtain ⟨w', g1, g2⟩ := wr_sound hr hw hp (flat_cells (zrow_flat hf _))
              refine ⟨undef, w', ?_, VRel.undef _, g2.weaken hr fun q _ hq => by rw [hq]⟩
              unfold Builtin.clear_
              simp only [h1, Sem.run_bind, run_und hu, Result.andThen_ok, Sem.run_pure]
              cases len with
              | zero => exact (hne rfl).elim
              | succ len => simp [undef, run_und hu, run_zero hz, zeroCells_eq, g1 P]
            cases hx with
            | @slice _ _ _ _ c' p hp _ _ => exact go p c' hp
            | @sliceX _ _ _ _ p hp => exact go p c hp
            | sliceE => exact (hne rfl).elim
        · cases h
      · cases h
    · cases h
  · cases h

end GAb
