/- Appending, copying, clearing, bytes and strings, in the abstract heap, and that the machine does the same. No statement of the seat is proved in this text. -/
import Derived.Test.YtpocmkgfmmhhgaaAb4
set_option linter.unusedVariables false
set_option linter.unusedSimpArgs false
namespace GAb
open Go

/-! ### The first cells of a slice or a string -/
def byte (b : UInt8) : Value := .int .u8 b.toNat
def aLen : Value → Option Nat
  | .slice _ n _ => some n
  | .string s => some s.size
  | _ => none
def aCells (σ : AState) (k n : Nat) : Value → Option (List Value)
  | .slice (some ⟨m, o, _⟩) len _ => if n ≤ len then (if n * k = 0 then some [] else rd σ m o (n * k)) else none
  | .slice none 0 0 => if n = 0 then some [] else none
  | .string s => if n ≤ s.size then (if k = 1 then some ((s.data.toList.take n).map byte) else none) else none
  | _ => none

theorem aLen_sound {P : Program} {w : World} {φ : Ren} {v u : Value} {n : Nat} (h : aLen v = some n) (hv : VRel φ v u) : (Builtin.lenOf u).run P w = .ok n w := by
  unfold aLen at h
  split at h
  · injection h with h; subst h; cases hv <;> rfl
  · injection h with h; subst h; cases hv; rfl
  · cases h

theorem rd_length {σ : AState} {n o k : Nat} {vs : List Value} (h : rd σ n o k = some vs) : vs.length = k := by
  unfold rd at h
  split at h
  · split at h
    · injection h with h; subst h; simp; omega
    · cases h
  · cases h
theorem bytes_flat (l : List UInt8) : (l.map byte).all flat = true := by
  induction l with
  | nil => rfl
  | cons b l ih => rw [List.map_cons, List.all_cons, ih]; rfl
theorem aCells_length {σ : AState} {k n : Nat} {v : Value} {vs : List Value} (h : aCells σ k n v = some vs) : vs.length = n * k := by
  unfold aCells at h
  split at h
  · split at h
    · split at h
      · rename_i h0
        injection h with h; subst h; rw [h0]; rfl
      · exact rd_length h
    · cases h
  · split at h
    · rename_i h0
      injection h with h; subst h; rw [h0, Nat.zero_mul]; rfl
    · cases h
  · split at h
    · split at h
      · rename_i s hn hk
        injection h with h; subst h; subst hk
        rw [List.length_map, List.length_take, Array.length_toList, Nat.mul_one]
        exact Nat.min_eq_left hn
      · cases h
    · cases h
  · cases h

theorem aCells_sound {σ : AState} {k n : Nat} {v u : Value} {vs : List Value} (h : aCells σ k n v = some vs) {φ : Ren} {w : World} (hr : HRel φ σ w) (hv : VRel φ v u) :
    ∃ us : List Value, LRel φ vs us ∧ ∀ (P : Program) (d : Nat), (Builtin.firstCells k n u).run P { w with drawn := d } = .ok us.toArray { w with drawn := d } := by
  unfold aCells at h
  split at h
  · rename_i m o ex len cap
    split at h
    · rename_i hn
      split at h
      · rename_i h0
        injection h with h
        subst h
        refine ⟨[], .nil, fun P d => ?_⟩
        cases hv <;> (simp only [Builtin.firstCells, h0]; rfl)
      · rename_i h0
        cases hv with
        | @slice _ _ _ _ c' p hp _ _ =>
          obtain ⟨us, h1, _, _, _, h4⟩ := rd_sound hr h hp
          exact ⟨us, h1, fun P d => (h4 P { w with drawn := d } rfl).2⟩
        | @sliceX _ _ _ _ p hp =>
          obtain ⟨us, h1, _, _, _, h4⟩ := rd_sound hr h hp
          exact ⟨us, h1, fun P d => (h4 P { w with drawn := d } rfl).2⟩
        | sliceE _ a' =>
          have : n = 0 := by omega
          subst this
          simp at h0
    · cases h
  · split at h
    · injection h with h
      subst h
      cases hv
      exact ⟨[], .nil, fun P d => rfl⟩
    · cases h
  · split at h
    · rename_i s hn
      split at h
      · injection h with h
        subst h
        cases hv
        refine ⟨_, flat_cells (vs := (s.data.toList.take n).map byte) (bytes_flat _), fun P d => ?_⟩
        simp only [Builtin.firstCells, Sem.run_pure]
        congr 1
        apply Array.ext'
        simp only [ByteArray.data_extract, Array.toList_map, Array.toList_extract, List.extract_eq_take_drop, List.drop_zero, Nat.sub_zero]
        rfl
      · cases h
    · cases h
  · cases h

/-! ### append -/
def appTail (elem : TypeId) (size sLen sCap n : Nat) (zeros : Bool) (base : Option Addr) (s x : Value) (appended : Sem (Array Value)) : Sem Value := do
  let need := sLen + n
  if need ≤ sCap then
    let new ← appended
    if let some a := base then storeCells (a.add (sLen * size)) new.toList
    pure (.slice base need sCap)
  else
  if (need : Int) > IntKind.i64.max ∧ (zeros ∨ (← typeInfo elem).bytes = 0) then runtimePanic (.error "growslice: len out of range")
  if Builtin.nextslicecap need sCap * (← typeInfo elem).bytes > 2 ^ 48 then (if zeros then runtimePanic (.error "growslice: len out of range") else do
    if !(← Builtin.mayShare size sLen n base x) then mark .noRoom
    unsupported (.resourceLimit "append: a slice or a string whose bytes no memory bears"))
  let newCap ← choose (.appendCap need sCap elem)
  askRoom (newCap * (← typeInfo elem).bytes)
  let old ← Builtin.firstCells size sLen s
  let new ← appended
  let rest := Builtin.zeroCells (← zeroValue elem).cells (newCap - need)
  pure (.slice (some (← newRow elem (old ++ new ++ rest))) need newCap)

/-- What an append leaves, the elements being known. -/
def aTail (P : Program) (elem : TypeId) (k n : Nat) (ns : List Value) (s : Value) (σ : AState) : Option (Value × AState × Option Nat) :=
  match tz P elem, tby P elem with
  | some z, some by_ =>
    if z.cells.size = k ∧ ns.length = n * k ∧ ns.all Value.oneCell' = true then
      match s with
      | .slice none 0 0 =>
        if n = 0 then some (.slice none 0 0, σ, none)
        else if n * by_ ≤ 140737488355328 ∧ n ≤ 4611686018427387904 then some (.slice (some ⟨σ.next, 0, none⟩) n n, σ.alloc ⟨ns, k, false⟩, none) else none
      | .slice (some ⟨m, o, ex⟩) len cap =>
        if len + n ≤ cap then
          match ns with
          | [] => some (.slice (some ⟨m, o, ex⟩) (len + n) cap, σ, none)
          | _ => (wr σ m (o + len * k) ns).map fun s => (.slice (some ⟨m, o, ex⟩) (len + n) cap, s, some m)
        else if (len + n) * by_ ≤ 140737488355328 ∧ len + n ≤ 4611686018427387904 then
          match ex with
          | none => match σ.get m with
            | some b => if b.ro = false ∧ b.es = k ∧ o + len * k ≤ b.cells.length then
                some (.slice (some ⟨σ.next, 0, none⟩) (len + n) (len + n), (σ.put m none).alloc ⟨(b.cells.drop o).take (len * k) ++ ns, b.es, false⟩, some m)
              else none
            | none => none
          | some 0 => (aCells σ k len (.slice (some ⟨m, o, some 0⟩) len cap)).map fun old => (.slice (some ⟨σ.next, 0, none⟩) (len + n) (len + n), σ.alloc ⟨old ++ ns, k, false⟩, none)
          | _ => none
        else none
      | _ => none
    else none
  | _, _ => none

theorem zeroCells_eq (z : Array Value) (n : Nat) : Builtin.zeroCells z n = (zrow z.toList n).toArray := zrow_eq z n _ rfl

/-- The machine's new block behind an append that finds no room. -/
theorem grow_sound {P : Program} {elem : TypeId} {k n len cap' by_ : Nat} {zeros : Bool} {z : Value} {base : Option Addr} {s x : Value} {appended : Sem (Array Value)} {φ : Ren} {σ : AState} {w : World} {old ns os us : List Value}
    (hr : HRel φ σ w) (hz : tz P elem = some z) (hb : tby P elem = some by_) (hzk : z.cells.size = k) (hn : ns.length = n * k) (ho : old.length = len * k) (hcap : cap' < len + n) (hlim : (len + n) * by_ ≤ 140737488355328) (hlim2 : len + n ≤ 4611686018427387904)
    (hos : LRel φ old os) (hus : LRel φ ns us) (hold : ∀ d, (Builtin.firstCells k len s).run P { w with drawn := d } = .ok os.toArray { w with drawn := d }) (happ : ∀ d, appended.run P { w with drawn := d } = .ok us.toArray { w with drawn := d }) (D : Nat → Prop) :
    ∃ φ' u w', (appTail elem k len cap' n zeros base s x appended).run P w = .ok u w' ∧ VRel φ' (.slice (some ⟨σ.next, 0, none⟩) (len + n) (len + n)) u ∧ Goes D φ σ w φ' (σ.alloc ⟨old ++ ns, k, false⟩) w' := by
  obtain ⟨i, hi, hib⟩ := run_bytes (w := w) hb
  have hi' : ∀ w, (typeInfo elem).run P w = .ok i w := fun w => by
    obtain ⟨j, hj, _⟩ := run_bytes (P := P) (w := w) hb
    have : i = j := by
      unfold typeInfo at hi hj
      simp only [Sem.run_bind, run_program, Result.andThen_ok] at hi hj
      cases hp : P.info? elem with
      | none => simp [hp] at hi
      | some q => simp [hp] at hi hj; exact hi.symm.trans hj
    rw [this]; exact hj
  have hfit := growslice_fits (need := len + n) (old := cap') (bytes := by_) hcap hlim
  have hq : ∀ t, ∃ c, (Question.appendCap (len + n) cap' elem).cut t = len + n + c := fun t => ⟨_, rfl⟩
  obtain ⟨c, hc⟩ := hq (w.tape w.drawn (.appendCap (len + n) cap' elem))
  have hol := LRel.length hos
  have hul := LRel.length hus
  let cells : Array Value := os.toArray ++ us.toArray ++ (zrow z.cells.toList c).toArray
  have hsize : cells.size = (len + n + c) * k := by
    simp only [cells, Array.size_append, List.size_toArray, zrow_length, Array.length_toList, hzk]
    rw [← hol, ← hul, ho, hn, Nat.add_mul, Nat.add_mul]
  have hal := alloc_sound (hr.drew (w.drawn + 1)) (D := D) (vs := old ++ ns) (us := cells) k elem
    (by rw [hsize]; simp only [List.length_append, ho, hn, Nat.add_mul]; omega)
    (by
      have e : cells.toList.take (old ++ ns).length = os ++ us := by
        simp only [cells, Array.toList_append, List.toList_toArray]
        rw [List.take_append_of_le_length (by simp; omega)]
        exact List.take_of_length_le (by simp; omega)
      rw [e]; exact hos.append hus)
  refine ⟨_, .slice (some ⟨w.heap.size, 0, none⟩) (len + n) (len + n + c), _, ?_, ?_, (Goes.drew hr _).trans hal (fun _ _ h => h) hr⟩
  · have hzero : ∀ w, (zeroValue elem).run P w = .ok z w := fun w => run_zero hz
    unfold appTail
    simp only [Sem.run_ite]
    rw [if_neg (by omega)]
    simp only [Sem.run_bind, hi', Result.andThen_ok]
    rw [if_neg (by
      intro h
      have h1 := h.1
      simp [IntKind.max, IntKind.bits, IntKind.signed] at h1
      omega)]
    simp only [Sem.run_bind, Sem.run_pure, hi', Result.andThen_ok]
    rw [if_neg (by rw [hib]; omega)]
    simp only [Sem.run_bind, Sem.run_pure, hi', Result.andThen_ok, run_choose, Question.forced, Bool.false_eq_true, if_false, run_askRoom, hold, happ, hzero, hc]
    rw [show len + n + c - (len + n) = c by omega, zeroCells_eq]
    simp [newRow, cells]
  · refine .slice (p := ⟨w.heap.size, 0, cells.size, k⟩) (by simp [Ren.up]) (by omega) ?_
    show 0 + 0 + (len + n + c) * k ≤ cells.size
    rw [hsize]; omega

theorem aTail_sound {P : Program} {elem : TypeId} {k n : Nat} {zeros : Bool} {ns : List Value} {s u0 x : Value} {σ σ' : AState} {v : Value} {wn : Option Nat} (h : aTail P elem k n ns s σ = some (v, σ', wn))
    {φ : Ren} {w : World} (hr : HRel φ σ w) (hs : VRel φ s u0) {base : Option Addr} {sLen sCap : Nat} (hu0 : u0 = .slice base sLen sCap) {appended : Sem (Array Value)} {us : List Value} (hus : LRel φ ns us)
    (happ : ∀ d, appended.run P { w with drawn := d } = .ok us.toArray { w with drawn := d }) :
    ∃ φ' u w', (appTail elem k sLen sCap n zeros base u0 x appended).run P w = .ok u w' ∧ VRel φ' v u ∧ Goes (fun m => wn = some m) φ σ w φ' σ' w' := by
  have happ0 : appended.run P w = .ok us.toArray w := happ w.drawn
  unfold aTail at h
  split at h
  · rename_i z by_ hz hb
    split at h
    · rename_i hc
      obtain ⟨hzk, hnl, hone⟩ := hc
      split at h
      · -- nil
        cases hs
        injection hu0 with e1 e2 e3
        subst e1; subst e2; subst e3
        split at h
        · rename_i hn0
          injection h with h
          injection h with e1 e2
          injection e2 with e2 e3
          subst e1; subst e2; subst e3; subst hn0
          refine ⟨φ, .slice none 0 0, w, ?_, .sliceNone, Goes.refl hr⟩
          simp [appTail, happ0]
        · rename_i hn0
          split at h
          · rename_i hl
            injection h with h
            injection h with e1 e2
            injection e2 with e2 e3
            subst e1; subst e2; subst e3
            have := grow_sound (base := none) (x := x) (zeros := zeros) (cap' := 0) (len := 0) (s := .slice none 0 0) (old := []) (os := []) hr hz hb hzk hnl (by simp) (by omega) (by simpa using hl.1) (by omega) .nil hus (fun d => rfl) happ (fun m => (none : Option Nat) = some m)
            simpa using this
          · cases h
      · rename_i m o ex len cap
        split at h
        · -- room is known
          rename_i hroom
          -- the machine's slice
          have cases_s : (∃ (p : Pl) (c' : Nat), φ m = some p ∧ cap ≤ c' ∧ base = some ⟨p.g, p.o + o, none⟩ ∧ sLen = len ∧ sCap = c' ∧ VRel φ (.slice (some ⟨m, o, ex⟩) (len + n) cap) (.slice (some ⟨p.g, p.o + o, none⟩) (len + n) c')) ∨
              (len = 0 ∧ cap = 0 ∧ ∃ a', base = some a' ∧ sLen = 0 ∧ sCap = 0) := by
            cases hs with
            | @slice _ _ _ _ c' p hp hcap hbd =>
              injection hu0 with e1 e2 e3
              exact .inl ⟨p, c', hp, hcap, e1.symm, e2.symm, e3.symm, .slice hp hcap hbd⟩
            | @sliceX _ _ _ _ p hp =>
              injection hu0 with e1 e2 e3
              exact .inl ⟨p, cap, hp, Nat.le_refl _, e1.symm, e2.symm, e3.symm, .sliceX hp⟩
            | sliceE _ a' =>
              injection hu0 with e1 e2 e3
              exact .inr ⟨rfl, rfl, a', e1.symm, e2.symm, e3.symm⟩
          split at h
          · injection h with h
            injection h with e1 e2
            injection e2 with e2 e3
            subst e1; subst e2; subst e3
            cases hus
            rcases cases_s with ⟨p, c', hp, hcc, rfl, rfl, rfl, hv⟩ | ⟨rfl, rfl, a', rfl, rfl, rfl⟩
            · refine ⟨φ, _, w, ?_, hv, Goes.refl hr⟩
              simp only [appTail]
              rw [if_pos (by omega)]
              simp [happ0, storeCells]
            · have : n = 0 := by omega
              subst this
              refine ⟨φ, .slice (some a') 0 0, w, ?_, .sliceE _ _, Goes.refl hr⟩
              simp [appTail, happ0, storeCells]
          · rename_i hne
            cases hwr : wr σ m (o + len * k) ns with
            | none => rw [hwr] at h; cases h
            | some s2 =>
              rw [hwr, Option.map_some] at h
              injection h with h
              injection h with e1 e2
              injection e2 with e2 e3
              subst e1; subst e2; subst e3
              rcases cases_s with ⟨p, c', hp, hcc, rfl, rfl, rfl, hv⟩ | ⟨rfl, rfl, a', rfl, rfl, rfl⟩
              · obtain ⟨w', h1, h2⟩ := wr_sound hr hwr hp hus
                refine ⟨φ, _, w', ?_, hv, h2.weaken hr fun q _ hq => by rw [hq]⟩
                simp only [appTail]
                rw [if_pos (by omega)]
                simp only [Sem.run_bind, happ0, Result.andThen_ok, add_plain, Nat.add_assoc] at h1 ⊢
                simp [h1 P]
              · exfalso
                have : n = 0 := by omega
                subst this
                simp at hnl
                exact hne hnl
        · rename_i hroom
          split at h
          · rename_i hl
            split at h
            · -- room is not known
              split at h
              · rename_i b hbk
                split at h
                · rename_i hbc
                  obtain ⟨hro, hes, hlen⟩ := hbc
                  injection h with h
                  injection h with e1 e2
                  injection e2 with e2 e3
                  subst e1; subst e2; subst e3
                  have kg : Goes (fun q => some m = some q) φ σ w φ (σ.put m none) w := kill_goes hr m
                  have newcase : ∀ (os : List Value), LRel φ ((b.cells.drop o).take (len * k)) os → (∀ d, (Builtin.firstCells k len u0).run P { w with drawn := d } = .ok os.toArray { w with drawn := d }) → sLen = len → sCap < len + n →
                      ∃ φ' u w', (appTail elem k sLen sCap n zeros base u0 x appended).run P w = .ok u w' ∧ VRel φ' (.slice (some ⟨σ.next, 0, none⟩) (len + n) (len + n)) u ∧
                        Goes (fun q => some m = some q) φ σ w φ' ((σ.put m none).alloc ⟨(b.cells.drop o).take (len * k) ++ ns, b.es, false⟩) w' := by
                    intro os ho1 ho2 e1 hlt
                    subst e1
                    obtain ⟨φ', u, w', g1, g2, g3⟩ := grow_sound (base := base) (x := x) (zeros := zeros) (s := u0) kg.rel hz hb hzk hnl (by simp; omega) hlt hl.1 hl.2 ho1 hus ho2 happ (fun q => some m = some q)
                    exact ⟨φ', u, w', g1, g2, kg.trans (by rw [hes]; exact g3) (fun _ _ h => h) hr⟩
                  cases hs with
                  | @slice _ _ _ _ c' p hp hcap hbd =>
                    injection hu0 with e1 e2 e3
                    subst e1; subst e2; subst e3
                    by_cases hfit : len + n ≤ c'
                    · have hul := LRel.length hus
                      obtain ⟨q, cs, e, fz, hq, hg, hsz, hpe, _⟩ := hr.cel hbk hp (by omega)
                      rw [hp] at hq; injection hq with hq; subst hq
                      have hmul : (len + n) * p.es ≤ c' * p.es := Nat.mul_le_mul_right _ hfit
                      rw [Nat.add_mul] at hmul
                      have hpk : p.es = k := hpe.trans hes
                      obtain ⟨w', h1, h2⟩ := inplace_sound hr hbk hro hp hlen (by rw [← hul, hnl]; rw [hpk] at hmul hbd; omega) hone hus
                      refine ⟨_, .slice (some ⟨p.g, p.o + o, none⟩) (len + n) c', w', ?_, ?_, h2.weaken hr fun q _ hq => by rw [hq]⟩
                      · simp only [appTail]
                        rw [if_pos hfit]
                        simp only [Sem.run_bind, happ0, Result.andThen_ok, add_plain]
                        simp [h1 P]
                      · have := VRel.slice (φ := φ.up σ.next ⟨p.g, p.o + o, p.sz, p.es⟩) (n := σ.next) (o := 0) (len := len + n) (cap := len + n) (cap' := c') (p := ⟨p.g, p.o + o, p.sz, p.es⟩) (by simp [Ren.up]) hfit (by simpa using hbd)
                        simpa using this
                    · have hrd : rd σ m o (len * k) = some ((b.cells.drop o).take (len * k)) := by
                        simp only [rd, hbk]
                        rw [if_pos hlen]
                      obtain ⟨os, ho1, _, _, _, ho2⟩ := rd_sound hr hrd hp
                      exact newcase os ho1 (fun d => (ho2 P { w with drawn := d } rfl).2) rfl (by omega)
                  | sliceE _ a' =>
                    injection hu0 with e1 e2 e3
                    subst e1; subst e2; subst e3
                    refine newcase [] (by simp; exact .nil) (fun d => ?_) rfl (by omega)
                    simp [Builtin.firstCells, loadCells, loadCellsFrom]
                · cases h
              · cases h
            · -- the capacity is known
              cases hold : aCells σ k len (.slice (some ⟨m, o, some 0⟩) len cap) with
              | none => rw [hold] at h; cases h
              | some old =>
                rw [hold, Option.map_some] at h
                injection h with h
                injection h with e1 e2
                injection e2 with e2 e3
                subst e1; subst e2; subst e3
                obtain ⟨os, ho1, ho2⟩ := aCells_sound hold hr hs
                have hcap : sLen = len ∧ sCap = cap := by
                  cases hs <;> (injection hu0 with e1 e2 e3; exact ⟨e2.symm, e3.symm⟩)
                obtain ⟨rfl, rfl⟩ := hcap
                exact grow_sound (base := base) (x := x) (zeros := zeros) (s := u0) hr hz hb hzk hnl (aCells_length hold) (by omega) hl.1 hl.2 ho1 hus (fun d => ho2 P d) happ _
            · cases h
          · cases h
      · cases h
    · cases h
  · cases h

end GAb
