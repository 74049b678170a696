/- The operation as a whole: what it does in the abstract heap, and that the machine does the same. No statement of the seat is proved in this text. -/
import Derived.Test.YtpocmkgfmmhhgaaAb6
import Derived.Lib.ConvBytes
import Derived.Laws.BytesArg
set_option linter.unusedVariables false
set_option linter.unusedSimpArgs false
namespace GAb
open Go

theorem Ren.up_self (φ : Ren) (n : Nat) (p : Pl) : (φ.up n p) n = some p := by simp [Ren.up]

/-! ### Bytes and strings -/
def u8s : List Value → Option (List Int)
  | [] => some []
  | .int .u8 n :: vs => (u8s vs).map (n :: ·)
  | _ :: _ => none
theorem u8s_eq : ∀ {vs : List Value} {xs : List Int}, u8s vs = some xs → vs = xs.map (Value.int .u8)
  | [], xs, h => by simp only [u8s, Option.some.injEq] at h; subst h; rfl
  | v :: vs, xs, h => by
    unfold u8s at h
    split at h
    · rename_i e
      cases e
    · rename_i n vs' e
      injection e with e1 e2
      subst e1; subst e2
      cases hr : u8s vs with
      | none => rw [hr] at h; cases h
      | some ys =>
        rw [hr] at h
        injection h with h
        subst h
        simp [← u8s_eq hr]
    · cases h

def aStr (P : Program) (src dst : TypeId) (x : Value) (σ : AState) : Option Value :=
  match P.underlying src, P.underlying dst with
  | some (.slice e), some .string =>
    match P.underlying e with
    | some (.int .u8) =>
      match x with
      | .slice none 0 0 => some (.string (strOfNums []))
      | .slice (some ⟨m, o, _⟩) len _ => if len = 0 then some (.string (strOfNums [])) else
        match rd σ m o len with
        | some vs => (u8s vs).map fun xs => .string (strOfNums xs)
        | none => none
      | _ => none
    | _ => none
  | _, _ => none

theorem aStr_sound {P : Program} {src dst : TypeId} {x v : Value} {σ : AState} (h : aStr P src dst x σ = some v) {φ : Ren} {w : World} {u : Value} (hr : HRel φ σ w) (hx : VRel φ x u) :
    (∀ w2 : World, (∀ n p, rdName x = some n → φ n = some p → w2.heap[p.g]? = w.heap[p.g]?) → (convert src dst u).run P w2 = .ok v w2) ∧ VRel φ v v := by
  unfold aStr at h
  split at h
  · rename_i e hs hd
    split at h
    · rename_i he
      split at h
      · injection h with h
        subst h
        cases hx
        exact ⟨fun w _ => run_convert_bytes_nil w src e hs he 0 0 dst hd, .string _⟩
      · rename_i m o ex len cap
        split at h
        · rename_i h0
          injection h with h
          subst h; subst h0
          have key : ∀ (a' : Addr) c' (w : World), (convert src dst (.slice (some a') 0 c')).run P w = .ok (.string (strOfNums [])) w := fun a' c' w => by
            have hl : (loadCells a' 0).run P w = .ok (([] : List Int).map (Value.int .u8)).toArray w := rfl
            rw [run_convert_bytes_string w src dst e _ 0 c' hs he hd, run_bytesToString w _ 0 c' [] hl]
            rfl
          refine ⟨fun w _ => ?_, .string _⟩
          cases hx <;> exact key _ _ w
        · rename_i h0
          split at h
          · rename_i vs hrd
            cases hu : u8s vs with
            | none => rw [hu] at h; cases h
            | some xs =>
              rw [hu] at h
              injection h with h
              subst h
              have hvs := u8s_eq hu
              have key : ∀ (p : Pl) c', φ m = some p → ∀ w2 : World, w2.heap[p.g]? = w.heap[p.g]? → (convert src dst (.slice (some ⟨p.g, p.o + o, none⟩) len c')).run P w2 = .ok (.string (strOfNums xs)) w2 := fun p c' hp w2 hw2 => by
                obtain ⟨us, h1, h2, _, _, h3'⟩ := rd_sound hr hrd hp
                have h3 := (h3' P w2 hw2).1
                have hus : us = vs := by
                  have : ∀ {a b : List Value}, LRel φ a b → (∀ x ∈ a, flat x = true) → b = a := fun {a b} h => by
                    induction h with
                    | nil => intro _; rfl
                    | cons h _ ih =>
                      intro hf
                      rw [flat_eq (hf _ (by simp)) h, ih fun x hx => hf x (by simp [hx])]
                  exact this h1 fun x hx => by rw [hvs] at hx; obtain ⟨n, _, rfl⟩ := List.mem_map.1 hx; rfl
                subst hus
                have hlen : xs.length = len := by rw [← h2, hvs]; simp
                exact run_convert_bytes_arg w2 src e hs he _ _ len c' xs hlen (fun i hi => h3 i _ (by rw [hvs]; simp [hlen, hi, List.getD])) dst hd
              refine ⟨fun w2 hw2 => ?_, .string _⟩
              cases hx with
              | @slice _ _ _ _ c' p hp _ _ => exact key p c' hp w2 (hw2 _ _ rfl hp)
              | @sliceX _ _ _ _ p hp => exact key p cap hp w2 (hw2 _ _ rfl hp)
              | sliceE => exact absurd rfl h0
          · cases h
      · cases h
    · cases h
  · cases h

/-- A string's bytes in a new row; what room there is behind them is not known. -/
def aBytes (P : Program) (src dst : TypeId) (x : Value) (σ : AState) : Option (Value × AState) :=
  match P.underlying src, P.underlying dst, x with
  | some _, some (.slice e), .string s =>
    match P.underlying e with
    | some (.int .u8) => some (.slice (some ⟨σ.next, 0, none⟩) s.size s.size, σ.alloc ⟨s.data.toList.map byte, 1, false⟩)
    | _ => none
  | _, _, _ => none

theorem aBytes_sound {P : Program} {src dst : TypeId} {x v : Value} {σ σ' : AState} (h : aBytes P src dst x σ = some (v, σ')) {φ : Ren} {w : World} {u : Value} (hr : HRel φ σ w) (hx : VRel φ x u) (D : Nat → Prop) :
    ∃ φ' y w', (convert src dst u).run P w = .ok y w' ∧ VRel φ' v y ∧ Goes D φ σ w φ' σ' w' := by
  unfold aBytes at h
  split at h
  · rename_i d e s hs hd
    split at h
    · rename_i he
      injection h with h
      injection h with e1 e2
      subst e1; subst e2
      cases hx
      have hq : ∀ t, ∃ c, (Question.appendCap s.size 0 e).cut t = s.size + c := fun t => ⟨_, rfl⟩
      have hcap : ∃ c, grownCap w s.size 0 e = s.size + c := hq _
      obtain ⟨c, hc⟩ := hcap
      have hsz : (Lib.bytesCells w e s).size = s.size + c := by
        simp only [Lib.bytesCells, hc, Array.size_append, Array.size_map, Array.size_replicate]
        show s.size + _ = _
        omega
      have hal := alloc_sound (hr.drew (w.drawn + 1)) (D := D) (vs := s.data.toList.map byte) (us := Lib.bytesCells w e s) 1 e
        (by rw [hsz, List.length_map, Array.length_toList]; show s.size ≤ _; omega)
        (by
          have : (Lib.bytesCells w e s).toList.take (s.data.toList.map byte).length = s.data.toList.map byte := by
            simp only [Lib.bytesCells, Array.toList_append, Array.toList_map]
            rw [List.take_append_of_le_length (by rw [List.length_map, List.length_map]; exact Nat.le_refl _)]
            exact List.take_of_length_le (by rw [List.length_map, List.length_map]; exact Nat.le_refl _)
          rw [this]
          exact flat_cells (bytes_flat _))
      have hfz := freeze_sound hal.rel (hes1 := rfl) (n := σ.next) (b := ⟨s.data.toList.map byte, 1, false⟩) (p := ⟨w.heap.size, 0, (Lib.bytesCells w e s).size, 1⟩) (by rw [AState.get_alloc, if_pos rfl]) rfl (Ren.up_self _ _ _)
      refine ⟨_, _, _, Lib.run_convert_string_bytes w src dst e s hs hd he, ?_, ((Goes.drew hr _).trans hal (fun _ _ h => h) hr).trans hfz (fun n hn hD => by omega) hr⟩
      refine .slice (p := ⟨w.heap.size, 0, (Lib.bytesCells w e s).size, 1⟩) (Ren.up_self _ _ _) (by omega) ?_
      show 0 + 0 + _ * 1 ≤ (Lib.bytesCells w e s).size
      rw [hsz, hc]; omega
    · cases h
  · cases h

/-- A row of bytes that is turned to its own type: it is marked. -/
def aSame (P : Program) (src dst : TypeId) (x : Value) (σ : AState) : Option (Value × AState × Option Nat) :=
  match P.underlying src, P.underlying dst, x with
  | some (.slice _), some (.slice e), .slice (some ⟨m, o, ex⟩) (l + 1) c =>
    match P.underlying e, σ.get m with
    | some (.int .u8), some b => if src = dst ∧ b.ro = false ∧ b.es = 1 then some (.slice (some ⟨m, o, ex⟩) (l + 1) c, σ, some m) else none
    | _, _ => none
  | _, _, _ => none

theorem aSame_sound {P : Program} {src dst : TypeId} {x v : Value} {σ σ' : AState} {wn : Option Nat} (h : aSame P src dst x σ = some (v, σ', wn)) {φ : Ren} {w : World} {u : Value} (hr : HRel φ σ w) (hx : VRel φ x u) :
    ∃ w', (convert src dst u).run P w = .ok u w' ∧ VRel φ v u ∧ Goes (fun n => wn = some n) φ σ w φ σ' w' := by
  unfold aSame at h
  split at h
  · rename_i es e m o ex l c hs hd
    split at h
    · rename_i b he hb
      split at h
      · rename_i hc
        obtain ⟨rfl, hro, hes1⟩ := hc
        injection h with h
        injection h with e1 e2
        injection e2 with e2 e3
        subst e1; subst e2; subst e3
        obtain ⟨p, cs, te, fz, hq, hg, hsz, _⟩ := hr.cel1 hb (by omega)
        have hee : es = e := by
          rw [hs] at hd
          injection hd with hd
          injection hd
        subst hee
        have run : ∀ x' l' c', (convert src src (.slice (some ⟨p.g, x', none⟩) l' c')).run P w = .ok (.slice (some ⟨p.g, x', none⟩) l' c') (w.freeze ⟨p.g, p.sz, none⟩ 1) := fun x' l' c' => by
          have hsh : w.shape? p.g = some (te, cs.size) := by simp [World.shape?, hg]
          simp [convert, run_und hs, run_und he, markStringish, hsh, hsz]
        have hgo := (freeze_sound hr hes1 hb hro hq).weaken hr (E := fun n => some m = some n) fun n _ hn => by rw [hn]
        cases hx with
        | @slice _ _ _ _ c' q hp h1 h2 =>
          rw [hq] at hp; injection hp with hp; subst hp
          exact ⟨_, run _ _ _, .slice hq h1 h2, hgo⟩
        | @sliceX _ _ _ _ q hp =>
          rw [hq] at hp; injection hp with hp; subst hp
          exact ⟨_, run _ _ _, .sliceX hq, hgo⟩
      · cases h
    · cases h
  · cases h

/-! ### Whatever only reckons with values that hold no places -/
def pv {α : Type} (P : Program) : Sem α → Option α
  | .pure a => some a
  | .program k => pv P (k P)
  | .mark _ k => pv P k
  | _ => none
theorem pv_run {α : Type} {P : Program} {s : Sem α} {a : α} (h : pv P s = some a) (w : World) : s.run P w = .ok a w := by
  induction s with
  | pure b => simp only [pv, Option.some.injEq] at h; subst h; rfl
  | program k ih => simp only [pv] at h; simp only [Sem.run]; exact ih P h
  | mark m k ih => simp only [pv] at h; simp only [Sem.run]; exact ih h
  | _ => cases h

def aval (a : Act) : Operand → Option Value
  | .tmp t => some (a.tmps.getD t undef)
  | .const v => if pf v then some v else none
  | .func f => some (.func (.func f) #[] #[])
  | .global _ => none
def avals (a : Act) : List Operand → Option (List Value)
  | [] => some []
  | x :: xs => match aval a x, avals a xs with
    | some v, some vs => some (v :: vs)
    | _, _ => none

structure ARel (φ : Ren) (a a' : Act) : Prop where
  tmps : RRel φ a.tmps a'.tmps
  d1 : a.defers = []
  d2 : a'.defers = []
theorem ARel.mono {φ ψ : Ren} (hl : Ren.le φ ψ) {a a' : Act} (h : ARel φ a a') : ARel ψ a a' := ⟨h.tmps.mono hl, h.d1, h.d2⟩
theorem RRel.getD {φ : Ren} {vs us : Array Value} (h : RRel φ vs us) (t : Nat) : VRel φ (vs.getD t undef) (us.getD t undef) := by
  by_cases ht : t < vs.size
  · have hu : t < us.size := by rw [← h.size]; exact ht
    have := h.at_ t ht hu
    simpa [Array.getD, ht, hu] using this
  · have hu : ¬ t < us.size := by rw [← h.size]; exact ht
    simpa [Array.getD, ht, hu] using VRel.undef φ
theorem RRel.set {φ : Ren} {vs us : Array Value} (h : RRel φ vs us) (t : Nat) {v u : Value} (hv : VRel φ v u) : RRel φ (vs.setIfInBounds t v) (us.setIfInBounds t u) := by
  refine RRel.of_at (by simpa using h.size) fun i h1 h2 => ?_
  rw [Array.getElem_setIfInBounds (by simpa using h1), Array.getElem_setIfInBounds (by simpa using h2)]
  split
  · exact hv
  · exact h.at_ i (by simpa using h1) (by simpa using h2)
theorem ARel.put {φ : Ren} {a a' : Act} (h : ARel φ a a') (d : Option Tmp) {v u : Value} (hv : VRel φ v u) : ARel φ (a.put d v) (a'.put d u) := by
  cases d with
  | none => exact h
  | some d => exact ⟨h.tmps.set d hv, h.d1, h.d2⟩
theorem aval_sound {φ : Ren} {a a' : Act} (h : ARel φ a a') {x : Operand} {v : Value} (hx : aval a x = some v) : VRel φ v (a'.eval x) := by
  cases x with
  | tmp t => simp only [aval, Option.some.injEq] at hx; subst hx; exact h.tmps.getD t
  | const c =>
    simp only [aval] at hx
    split at hx
    · rename_i hp; injection hx with hx; subst hx; exact pf_rel hp
    · cases hx
  | func f => simp only [aval, Option.some.injEq] at hx; subst hx; exact pf_rel rfl
  | global g => cases hx
theorem aval_eval {a : Act} {x : Operand} {v : Value} (hx : aval a x = some v) : a.eval x = v := by
  cases x with
  | tmp t => simp only [aval, Option.some.injEq] at hx; subst hx; rfl
  | const c =>
    simp only [aval] at hx
    split at hx
    · injection hx
    · cases hx
  | func f => simp only [aval, Option.some.injEq] at hx; subst hx; rfl
  | global g => cases hx
theorem avals_sound {φ : Ren} {a a' : Act} (h : ARel φ a a') : ∀ {xs : List Operand} {vs : List Value}, avals a xs = some vs → LRel φ vs (xs.map a'.eval)
  | [], vs, hx => by simp only [avals, Option.some.injEq] at hx; subst hx; exact .nil
  | x :: xs, vs, hx => by
    simp only [avals] at hx
    split at hx
    · rename_i v vs' h1 h2
      injection hx with hx
      subst hx
      exact .cons (aval_sound h h1) (avals_sound h h2)
    · cases hx

def noSel : Op → Bool
  | .select .. => false
  | _ => true
def pfOperand (a : Act) (x : Operand) : Bool := match aval a x with | some v => pf v | none => false
def gen (P : Program) (o : Oper) (a : Act) (σ : AState) : Option (Value × AState × Option Nat) :=
  if o.op.operands.toList.all (pfOperand a) && noSel o.op then
    match pv P (execOp a.eval o) with
    | some (.value v) => if pf v then some (v, σ, none) else none
    | _ => none
  else none

def OpOK (P : Program) (o : Oper) (a : Act) (σ : AState) (v : Value) (σ' : AState) (wn : Option Nat) : Prop :=
  ∀ φ w a', HRel φ σ w → ARel φ a a' → ∃ φ' u w', ((execOp a'.eval o).run P w = .ok (.value u) w' ∨ (execOp a'.eval o).run P w = .ok .skip w' ∧ u = undef) ∧ VRel φ' v u ∧ Goes (fun n => wn = some n) φ σ w φ' σ' w'

theorem gen_sound {P : Program} {o : Oper} {a : Act} {σ σ' : AState} {v : Value} {wn : Option Nat} (h : gen P o a σ = some (v, σ', wn)) : OpOK P o a σ v σ' wn := by
  unfold gen at h
  split at h
  · rename_i hc
    simp only [Bool.and_eq_true, List.all_eq_true] at hc
    obtain ⟨hall, hns⟩ := hc
    split at h
    · rename_i v' hpv
      split at h
      · rename_i hp
        injection h with h
        injection h with e1 e2
        injection e2 with e2 e3
        subst e1; subst e2; subst e3
        intro φ w a' hr ha
        have he : execOp a'.eval o = execOp a.eval o := execOp_congr o (fun cs b e => by rw [e] at hns; cases hns) fun x hx => by
          have hpx := hall x (by simpa using hx)
          unfold pfOperand at hpx
          split at hpx
          · rename_i u hu
            rw [aval_eval hu]
            exact pf_eq hpx (aval_sound ha hu)
          · cases hpx
        exact ⟨φ, _, w, .inl (by rw [he]; exact pv_run hpv w), pf_rel hp, Goes.refl hr⟩
      · cases h
    · cases h
  · cases h

end GAb
