/- The abstract heap, its values, and how they stand for the machine's. No statement of the seat is proved in this text. -/
import Derived.Calls
import Derived.Defers
import Derived.Tactics
import Derived.OrdersHeld
import Derived.Laws.Cells
import Derived.Laws.IdiomCopy
import Derived.Laws.NewFold
import Derived.Laws.Append
import Derived.Lib.ConvBytes
import Derived.Laws.BytesArg
set_option linter.unusedVariables false
set_option linter.unusedSimpArgs false
namespace GAb
open Go

/-! ### A finite map from numbers -/
inductive Tr (α : Type) where
  | leaf
  | node (l : Tr α) (v : Option α) (r : Tr α)

def key : Nat → Nat → List Bool
  | 0, _ => []
  | f + 1, n => if n = 0 then [] else (n % 2 == 1) :: key f (n / 2)

def keyVal : List Bool → Nat
  | [] => 0
  | b :: k => (if b then 1 else 0) + 2 * keyVal k

theorem keyVal_key : ∀ (f n : Nat), n ≤ f → keyVal (key f n) = n
  | 0, n, h => by simp [key, keyVal]; omega
  | f + 1, n, h => by
    unfold key
    split
    · simp [keyVal]; omega
    · rw [keyVal, keyVal_key f (n / 2) (by omega)]
      by_cases h2 : n % 2 = 1
      · simp [h2]; omega
      · simp [h2]; omega

theorem key_inj {n m : Nat} (h : key n n = key m m) : n = m := by
  have h1 := keyVal_key n n (Nat.le_refl _)
  have h2 := keyVal_key m m (Nat.le_refl _)
  rw [h, h2] at h1
  exact h1.symm

def Tr.get {α : Type} : Tr α → List Bool → Option α
  | .leaf, _ => none
  | .node _ v _, [] => v
  | .node l _ r, b :: k => if b then r.get k else l.get k

def Tr.set {α : Type} : Tr α → List Bool → Option α → Tr α
  | .leaf, [], v => .node .leaf v .leaf
  | .leaf, b :: k, v => if b then .node .leaf none (Tr.set .leaf k v) else .node (Tr.set .leaf k v) none .leaf
  | .node l _ r, [], v => .node l v r
  | .node l x r, b :: k, v => if b then .node l x (r.set k v) else .node (l.set k v) x r

theorem Tr.get_set {α : Type} : ∀ (k : List Bool) (t : Tr α) (v : Option α) (k' : List Bool), (t.set k v).get k' = if k = k' then v else t.get k' := by
  intro k
  induction k with
  | nil =>
    intro t v k'
    cases t <;> cases k' <;> simp [Tr.set, Tr.get]
  | cons b k ih =>
    intro t v k'
    cases t with
    | leaf =>
      cases k' with
      | nil => cases b <;> simp [Tr.set, Tr.get]
      | cons b' k' => cases b <;> cases b' <;> simp [Tr.set, Tr.get, ih]
    | node l x r =>
      cases k' with
      | nil => cases b <;> simp [Tr.set, Tr.get]
      | cons b' k' => cases b <;> cases b' <;> simp [Tr.set, Tr.get, ih]

/-! ### The abstract heap -/
structure Blk where
  cells : List Value
  es : Nat
  ro : Bool

structure AState where
  heap : Tr Blk
  next : Nat

def AState.get (σ : AState) (n : Nat) : Option Blk := σ.heap.get (key n n)
def AState.put (σ : AState) (n : Nat) (b : Option Blk) : AState := { σ with heap := σ.heap.set (key n n) b }
def AState.alloc (σ : AState) (b : Blk) : AState := { heap := σ.heap.set (key σ.next σ.next) (some b), next := σ.next + 1 }

theorem AState.get_put (σ : AState) (n m : Nat) (b : Option Blk) : (σ.put n b).get m = if n = m then b else σ.get m := by
  simp only [AState.get, AState.put, Tr.get_set]
  by_cases h : n = m
  · subst h; simp
  · rw [if_neg (fun e => h (key_inj e)), if_neg h]
theorem AState.get_alloc (σ : AState) (m : Nat) (b : Blk) : (σ.alloc b).get m = if σ.next = m then some b else σ.get m := by
  simp only [AState.get, AState.alloc, Tr.get_set]
  by_cases h : σ.next = m
  · subst h; simp
  · rw [if_neg (fun e => h (key_inj e)), if_neg h]
@[simp] theorem AState.next_put (σ : AState) (n : Nat) (b : Option Blk) : (σ.put n b).next = σ.next := rfl
@[simp] theorem AState.next_alloc (σ : AState) (b : Blk) : (σ.alloc b).next = σ.next + 1 := rfl

/-! ### Names and places -/
structure Pl where
  g : Nat
  o : Nat
  sz : Nat
  es : Nat

abbrev Ren := Nat → Option Pl
def Ren.le (φ ψ : Ren) : Prop := ∀ n p, φ n = some p → ψ n = some p
theorem Ren.le.refl (φ : Ren) : Ren.le φ φ := fun _ _ h => h
theorem Ren.le.trans {φ ψ χ : Ren} (h : Ren.le φ ψ) (k : Ren.le ψ χ) : Ren.le φ χ := fun n p e => k n p (h n p e)
def Ren.up (φ : Ren) (n : Nat) (p : Pl) : Ren := fun m => if m = n then some p else φ m
theorem Ren.le_up {φ : Ren} {n : Nat} (h : φ n = none) (p : Pl) : Ren.le φ (φ.up n p) := fun m q e => by
  unfold Ren.up
  split
  · rename_i hm; subst hm; rw [h] at e; cases e
  · exact e

/-! ### Values -/
inductive VRel (φ : Ren) : Value → Value → Prop where
  | bool (b : Bool) : VRel φ (.bool b) (.bool b)
  | int (k : IntKind) (n : Int) : VRel φ (.int k n) (.int k n)
  | string (s : ByteArray) : VRel φ (.string s) (.string s)
  | ptrNone : VRel φ (.pointer none) (.pointer none)
  | ptr {n : Nat} {p : Pl} (o : Nat) : φ n = some p → VRel φ (.pointer (some ⟨n, o, none⟩)) (.pointer (some ⟨p.g, p.o + o, none⟩))
  | sliceNone : VRel φ (.slice none 0 0) (.slice none 0 0)
  | slice {n o len cap cap' : Nat} {p : Pl} : φ n = some p → cap ≤ cap' → p.o + o + cap' * p.es ≤ p.sz → VRel φ (.slice (some ⟨n, o, none⟩) len cap) (.slice (some ⟨p.g, p.o + o, none⟩) len cap')
  | sliceX {n o len cap : Nat} {p : Pl} : φ n = some p → VRel φ (.slice (some ⟨n, o, some 0⟩) len cap) (.slice (some ⟨p.g, p.o + o, none⟩) len cap)
  | sliceE (a a' : Addr) : VRel φ (.slice (some a) 0 0) (.slice (some a') 0 0)
  | func (fn : Fn) {fs fs' cs cs' : Array Value} : fs.size = fs'.size → (∀ i (h : i < fs.size) (h' : i < fs'.size), VRel φ fs[i] fs'[i]) →
      cs.size = cs'.size → (∀ i (h : i < cs.size) (h' : i < cs'.size), VRel φ cs[i] cs'[i]) → VRel φ (.func fn fs cs) (.func fn fs' cs')
  | nilFunc : VRel φ .nilFunc .nilFunc
  | iface (t : TypeId) {v u : Value} : VRel φ v u → VRel φ (.iface t v) (.iface t u)
  | nilIface : VRel φ .nilIface .nilIface
  | agg {cs cs' : Array Value} : cs.size = cs'.size → (∀ i (h : i < cs.size) (h' : i < cs'.size), VRel φ cs[i] cs'[i]) → VRel φ (.agg cs) (.agg cs')
  | tuple {cs cs' : Array Value} : cs.size = cs'.size → (∀ i (h : i < cs.size) (h' : i < cs'.size), VRel φ cs[i] cs'[i]) → VRel φ (.tuple cs) (.tuple cs')
  | mapNone : VRel φ (.map none) (.map none)
  | map {n : Nat} {p : Pl} : φ n = some p → p.sz < p.o → VRel φ (.map (some n)) (.map (some p.g))

theorem VRel.mono {φ ψ : Ren} (hl : Ren.le φ ψ) {v u : Value} (h : VRel φ v u) : VRel ψ v u := by
  induction h with
  | bool b => exact .bool b
  | int k n => exact .int k n
  | string s => exact .string s
  | ptrNone => exact .ptrNone
  | ptr o h => exact .ptr o (hl _ _ h)
  | sliceNone => exact .sliceNone
  | slice h h1 h2 => exact .slice (hl _ _ h) h1 h2
  | sliceX h => exact .sliceX (hl _ _ h)
  | sliceE a a' => exact .sliceE a a'
  | func fn h1 _ h3 _ ih1 ih2 => exact .func fn h1 ih1 h3 ih2
  | nilFunc => exact .nilFunc
  | iface t _ ih => exact .iface t ih
  | nilIface => exact .nilIface
  | agg h1 _ ih => exact .agg h1 ih
  | tuple h1 _ ih => exact .tuple h1 ih
  | mapNone => exact .mapNone
  | map h h1 => exact .map (hl _ _ h) h1

/-- Rows of values. -/
inductive LRel (φ : Ren) : List Value → List Value → Prop where
  | nil : LRel φ [] []
  | cons {v u : Value} {vs us : List Value} : VRel φ v u → LRel φ vs us → LRel φ (v :: vs) (u :: us)
theorem LRel.mono {φ ψ : Ren} (hl : Ren.le φ ψ) {vs us : List Value} (h : LRel φ vs us) : LRel ψ vs us := by
  induction h with
  | nil => exact .nil
  | cons h _ ih => exact .cons (h.mono hl) ih
theorem LRel.length {φ : Ren} {vs us : List Value} (h : LRel φ vs us) : vs.length = us.length := by
  induction h with
  | nil => rfl
  | cons _ _ ih => simp [ih]
theorem LRel.get {φ : Ren} {vs us : List Value} (h : LRel φ vs us) : ∀ (i : Nat) (v : Value), vs[i]? = some v → ∃ u, us[i]? = some u ∧ VRel φ v u := by
  induction h with
  | nil => intro i v e; simp at e
  | cons h _ ih =>
    intro i v e
    cases i with
    | zero => simp at e; subst e; exact ⟨_, by simp, h⟩
    | succ i => simp at e ⊢; exact ih i v e
theorem LRel.of_get {φ : Ren} : ∀ {vs us : List Value}, vs.length = us.length → (∀ (i : Nat) (v u : Value), vs[i]? = some v → us[i]? = some u → VRel φ v u) → LRel φ vs us
  | [], [], _, _ => .nil
  | v :: vs, u :: us, hl, h => .cons (h 0 v u (by simp) (by simp)) (LRel.of_get (by simpa using hl) fun i v' u' h1 h2 => h (i + 1) v' u' (by simpa using h1) (by simpa using h2))
theorem LRel.append {φ : Ren} {a b c d : List Value} (h : LRel φ a b) (k : LRel φ c d) : LRel φ (a ++ c) (b ++ d) := by
  induction h with
  | nil => exact k
  | cons h _ ih => exact .cons h ih
theorem LRel.take {φ : Ren} {a b : List Value} (h : LRel φ a b) : ∀ n, LRel φ (a.take n) (b.take n) := by
  induction h with
  | nil => intro n; simp; exact .nil
  | cons h _ ih => intro n; cases n with
    | zero => exact .nil
    | succ n => exact .cons h (ih n)
theorem LRel.drop {φ : Ren} {a b : List Value} (h : LRel φ a b) : ∀ n, LRel φ (a.drop n) (b.drop n) := by
  induction h with
  | nil => intro n; simp; exact .nil
  | cons h t ih => intro n; cases n with
    | zero => exact .cons h t
    | succ n => exact ih n
def RRel (φ : Ren) (vs us : Array Value) : Prop := LRel φ vs.toList us.toList
theorem RRel.size {φ : Ren} {vs us : Array Value} (h : RRel φ vs us) : vs.size = us.size := by simpa using LRel.length h
theorem RRel.mono {φ ψ : Ren} (hl : Ren.le φ ψ) {vs us : Array Value} (h : RRel φ vs us) : RRel ψ vs us := LRel.mono hl h
theorem RRel.at_ {φ : Ren} {vs us : Array Value} (h : RRel φ vs us) (i : Nat) (h1 : i < vs.size) (h2 : i < us.size) : VRel φ vs[i] us[i] := by
  obtain ⟨u, e, k⟩ := LRel.get h i vs[i] (by simp [h1])
  simp [h2] at e
  subst e; exact k
theorem RRel.of_at {φ : Ren} {vs us : Array Value} (hs : vs.size = us.size) (h : ∀ i (h1 : i < vs.size) (h2 : i < us.size), VRel φ vs[i] us[i]) : RRel φ vs us := by
  refine LRel.of_get (by simpa using hs) fun i v u e1 e2 => ?_
  have h1 : i < vs.size := by
    rcases Nat.lt_or_ge i vs.size with h | h
    · exact h
    · simp [h] at e1
  have h2 : i < us.size := by omega
  simp [h1] at e1
  simp [h2] at e2
  subst e1; subst e2
  exact h i h1 h2
theorem VRel.agg' {φ : Ren} {cs cs' : Array Value} (h : RRel φ cs cs') : VRel φ (.agg cs) (.agg cs') := .agg h.size fun i h1 h2 => h.at_ i h1 h2
theorem VRel.tuple' {φ : Ren} {cs cs' : Array Value} (h : RRel φ cs cs') : VRel φ (.tuple cs) (.tuple cs') := .tuple h.size fun i h1 h2 => h.at_ i h1 h2
theorem VRel.func' {φ : Ren} (fn : Fn) {fs fs' cs cs' : Array Value} (h : RRel φ fs fs') (k : RRel φ cs cs') : VRel φ (.func fn fs cs) (.func fn fs' cs') :=
  .func fn h.size (fun i h1 h2 => h.at_ i h1 h2) k.size (fun i h1 h2 => k.at_ i h1 h2)
theorem VRel.agg_inv {φ : Ren} {cs : Array Value} {u : Value} (h : VRel φ (.agg cs) u) : ∃ cs', u = .agg cs' ∧ RRel φ cs cs' := by
  cases h with
  | agg h1 h2 => exact ⟨_, rfl, RRel.of_at h1 h2⟩
theorem VRel.tuple_inv {φ : Ren} {cs : Array Value} {u : Value} (h : VRel φ (.tuple cs) u) : ∃ cs', u = .tuple cs' ∧ RRel φ cs cs' := by
  cases h with
  | tuple h1 h2 => exact ⟨_, rfl, RRel.of_at h1 h2⟩
theorem VRel.func_inv {φ : Ren} {fn : Fn} {fs cs : Array Value} {u : Value} (h : VRel φ (.func fn fs cs) u) : ∃ fs' cs', u = .func fn fs' cs' ∧ RRel φ fs fs' ∧ RRel φ cs cs' := by
  cases h with
  | func _ h1 h2 h3 h4 => exact ⟨_, _, rfl, RRel.of_at h1 h2, RRel.of_at h3 h4⟩
theorem VRel.undef (φ : Ren) : VRel φ undef undef := .tuple rfl fun i h _ => by simp at h

/-- A value's cells. -/
theorem VRel.cells {φ : Ren} {v u : Value} (h : VRel φ v u) : RRel φ v.cells u.cells := by
  cases h with
  | agg h1 h2 => exact RRel.of_at h1 h2
  | tuple h1 h2 => exact .cons (.tuple h1 h2) .nil
  | func fn h1 h2 h3 h4 => exact .cons (.func fn h1 h2 h3 h4) .nil
  | bool b => exact .cons (.bool b) .nil
  | int k n => exact .cons (.int k n) .nil
  | string s => exact .cons (.string s) .nil
  | ptrNone => exact .cons .ptrNone .nil
  | ptr o h => exact .cons (.ptr o h) .nil
  | sliceNone => exact .cons .sliceNone .nil
  | slice h h1 h2 => exact .cons (.slice h h1 h2) .nil
  | sliceX h => exact .cons (.sliceX h) .nil
  | sliceE a a' => exact .cons (.sliceE a a') .nil
  | nilFunc => exact .cons .nilFunc .nil
  | iface t h => exact .cons (.iface t h) .nil
  | nilIface => exact .cons .nilIface .nil
  | mapNone => exact .cons .mapNone .nil
  | map h h1 => exact .cons (.map h h1) .nil

/-! ### Values without places: they stand for themselves -/
def flat : Value → Bool
  | .bool _ | .int _ _ | .string _ | .pointer none | .slice none 0 0 | .nilFunc | .nilIface | .map none => true
  | _ => false
def pf : Value → Bool
  | .agg cs | .tuple cs => cs.toList.all flat
  | .func _ fs cs => fs.toList.isEmpty && cs.toList.isEmpty
  | v => flat v
theorem flat_rel {φ : Ren} {v : Value} (h : flat v = true) : VRel φ v v := by
  unfold flat at h
  split at h <;> first | (simp at h; done) | constructor
theorem flat_eq {φ : Ren} {v u : Value} (h : flat v = true) (k : VRel φ v u) : u = v := by
  unfold flat at h
  split at h <;> first | (simp at h; done) | (cases k; rfl)
theorem pf_rel {φ : Ren} {v : Value} (h : pf v = true) : VRel φ v v := by
  unfold pf at h
  split at h
  · exact .agg rfl fun i h1 h2 => flat_rel (List.all_eq_true.1 h _ (by simp))
  · exact .tuple rfl fun i h1 h2 => flat_rel (List.all_eq_true.1 h _ (by simp))
  · simp at h
    obtain ⟨rfl, rfl⟩ := h
    exact .func _ rfl (fun i h _ => by simp at h) rfl (fun i h _ => by simp at h)
  · exact flat_rel h
theorem pf_eq {φ : Ren} {v u : Value} (h : pf v = true) (k : VRel φ v u) : u = v := by
  unfold pf at h
  split at h
  · rename_i cs
    obtain ⟨cs', rfl, hr⟩ := k.agg_inv
    congr 1
    refine Array.ext hr.size.symm fun i h1 h2 => ?_
    exact flat_eq (List.all_eq_true.1 h _ (by simp)) (hr.at_ i h2 h1)
  · rename_i cs
    obtain ⟨cs', rfl, hr⟩ := k.tuple_inv
    congr 1
    refine Array.ext hr.size.symm fun i h1 h2 => ?_
    exact flat_eq (List.all_eq_true.1 h _ (by simp)) (hr.at_ i h2 h1)
  · simp at h
    obtain ⟨rfl, rfl⟩ := h
    obtain ⟨fs', cs', rfl, h1, h2⟩ := k.func_inv
    have e1 : fs' = #[] := Array.eq_empty_of_size_eq_zero (by simpa using h1.size.symm)
    have e2 : cs' = #[] := Array.eq_empty_of_size_eq_zero (by simpa using h2.size.symm)
    rw [e1, e2]
  · exact flat_eq h k

/-! ### Maps: a map's entries, told by one number -/
inductive MK where
  | num (k : Int)
  | nam (s : ByteArray) (x : Int)
  deriving DecidableEq
/-- A key's value. -/
def MK.val : MK → Value
  | .num k => .int .u32 k
  | .nam s x => .agg #[.string s, .int .u32 x]
def zc (z : Int) : Nat := if 0 ≤ z then 2 * z.toNat else 2 * (-z).toNat + 1
theorem zc_inj {a b : Int} (h : zc a = zc b) : a = b := by
  unfold zc at h
  split at h <;> split at h <;> omega
def lc : List Nat → Nat
  | [] => 0
  | a :: l => 2 ^ a * (2 * lc l + 1)
theorem pow_odd : ∀ {a b x y : Nat}, 2 ^ a * (2 * x + 1) = 2 ^ b * (2 * y + 1) → a = b ∧ x = y
  | 0, 0, x, y, h => by simp at h; exact ⟨rfl, by omega⟩
  | 0, b + 1, x, y, h => by
    exfalso
    rw [Nat.pow_succ, Nat.pow_zero, Nat.mul_comm (2 ^ b) 2, Nat.mul_assoc] at h
    omega
  | a + 1, 0, x, y, h => by
    exfalso
    rw [Nat.pow_succ, Nat.pow_zero, Nat.mul_comm (2 ^ a) 2, Nat.mul_assoc] at h
    omega
  | a + 1, b + 1, x, y, h => by
    rw [Nat.pow_succ, Nat.pow_succ, Nat.mul_comm (2 ^ a) 2, Nat.mul_comm (2 ^ b) 2, Nat.mul_assoc, Nat.mul_assoc] at h
    obtain ⟨h1, h2⟩ := pow_odd (Nat.eq_of_mul_eq_mul_left (by omega) h)
    exact ⟨by omega, h2⟩
theorem lc_inj : ∀ {l m : List Nat}, lc l = lc m → l = m
  | [], [], _ => rfl
  | [], b :: m, h => by
    exfalso
    have : 0 < 2 ^ b * (2 * lc m + 1) := Nat.mul_pos (Nat.two_pow_pos b) (by omega)
    simp only [lc] at h
    omega
  | a :: l, [], h => by
    exfalso
    have : 0 < 2 ^ a * (2 * lc l + 1) := Nat.mul_pos (Nat.two_pow_pos a) (by omega)
    simp only [lc] at h
    omega
  | a :: l, b :: m, h => by
    obtain ⟨h1, h2⟩ := pow_odd h
    rw [h1, lc_inj h2]
def MK.code : MK → List Nat
  | .num k => [0, zc k]
  | .nam s x => 1 :: zc x :: s.data.toList.map (·.toNat)
theorem MK.code_inj {a b : MK} (h : a.code = b.code) : a = b := by
  cases a with
  | num k => cases b with
    | num k' => simp only [MK.code, List.cons.injEq, and_true, true_and] at h; rw [zc_inj h]
    | nam s x => simp [MK.code] at h
  | nam s x => cases b with
    | num k => simp [MK.code] at h
    | nam s' x' =>
      simp only [MK.code, List.cons.injEq, true_and] at h
      obtain ⟨h1, h2⟩ := h
      have h3 : s.data.toList = s'.data.toList := List.map_inj_right (fun _ _ h => UInt8.toNat_inj.1 h) |>.1 h2
      have : s = s' := by
        obtain ⟨⟨l⟩⟩ := s
        obtain ⟨⟨m⟩⟩ := s'
        simp only at h3
        rw [h3]
      rw [this, zc_inj h1]
/-- A map's entries as one number. -/
def mcode (kvs : List (MK × Int)) : Nat := 1000 + lc (kvs.map fun e => lc (zc e.2 :: e.1.code))
theorem mcode_inj {a b : List (MK × Int)} (h : mcode a = mcode b) : a = b := by
  have h1 := lc_inj (Nat.add_left_cancel h)
  refine List.map_inj_right (fun x y h => ?_) |>.1 h1
  have h2 := lc_inj h
  simp only [List.cons.injEq] at h2
  exact Prod.ext (MK.code_inj h2.2) (zc_inj h2.1)
/-- The machine's entries. -/
def entsOf : List (MK × Int) → Nat → List MapEntry
  | [], _ => []
  | e :: l, i => ⟨e.1.val, .int .i64 e.2, i⟩ :: entsOf l (i + 1)
/-- A name that stands for a map. -/
def MapBlk (φ : Ren) (w : World) (n : Nat) (b : Blk) : Prop :=
  ∃ p kvs es clk, φ n = some p ∧ w.heap[p.g]? = some (.map es clk) ∧ p.sz < p.o ∧ b.cells = [] ∧ b.ro = false ∧ b.es = mcode kvs ∧ es.toList = entsOf kvs 0 ∧ clk = kvs.length
theorem MapBlk.es {φ : Ren} {w : World} {n : Nat} {b : Blk} (h : MapBlk φ w n b) : 1000 ≤ b.es ∧ b.cells = [] := by
  obtain ⟨p, kvs, es, clk, _, _, _, h1, _, h2, _⟩ := h
  exact ⟨by rw [h2]; unfold mcode; omega, h1⟩
theorem MapBlk.no {φ : Ren} {w : World} {n : Nat} {b : Blk} (h : MapBlk φ w n b) {p : Pl} (hp : φ n = some p) (hl : p.o ≤ p.sz) : False := by
  obtain ⟨q, kvs, es, clk, h1, _, h2, _⟩ := h
  rw [hp] at h1; injection h1 with h1; subst h1; omega
theorem MapBlk.mv {φ φ' : Ren} {w w' : World} {n : Nat} {b : Blk} (h : MapBlk φ w n b) (hl : Ren.le φ φ') (hg : ∀ p, φ n = some p → (∃ es clk, w.heap[p.g]? = some (.map es clk)) → w'.heap[p.g]? = w.heap[p.g]?) : MapBlk φ' w' n b := by
  obtain ⟨p, kvs, es, clk, h1, h2, h3⟩ := h
  exact ⟨p, kvs, es, clk, hl _ _ h1, by rw [hg p h1 ⟨_, _, h2⟩]; exact h2, h3⟩

/-! ### The heap stands for a part of the world -/
structure HRel (φ : Ren) (σ : AState) (w : World) : Prop where
  fresh : ∀ n, σ.next ≤ n → φ n = none
  dead : ∀ n, σ.next ≤ n → σ.get n = none
  blk : ∀ n b, σ.get n = some b → (∃ p cs e fz, φ n = some p ∧ w.heap[p.g]? = some (.cells cs e fz) ∧ p.sz = cs.size ∧ p.es = b.es ∧ p.o + b.cells.length ≤ cs.size ∧
    LRel φ b.cells ((cs.toList.drop p.o).take b.cells.length) ∧ (b.ro = false → fz.1 = fz.2 ∨ cs.size ≤ fz.1 ∧ b.es = 1)) ∨ MapBlk φ w n b
  inj : ∀ n m bn bm p q, σ.get n = some bn → σ.get m = some bm → bn.ro = false → φ n = some p → φ m = some q → p.g = q.g → n = m
  lt : ∀ n p, φ n = some p → p.g < w.heap.size

theorem HRel.same {φ : Ren} {σ σ' : AState} {w : World} (h : HRel φ σ w) (hg : ∀ m, σ'.get m = σ.get m) (hn : σ'.next = σ.next) : HRel φ σ' w :=
  ⟨fun n hn' => h.fresh n (by omega), fun n hn' => by rw [hg]; exact h.dead n (by omega), fun n b hb => h.blk n b (by rw [← hg]; exact hb), fun n m bn bm p q h1 h2 => h.inj n m bn bm p q (by rw [← hg]; exact h1) (by rw [← hg]; exact h2), h.lt⟩
theorem HRel.cel {φ : Ren} {σ : AState} {w : World} (h : HRel φ σ w) {n : Nat} {b : Blk} (hb : σ.get n = some b) {p : Pl} (hp : φ n = some p) (hl : p.o ≤ p.sz) : ∃ p cs e fz, φ n = some p ∧ w.heap[p.g]? = some (.cells cs e fz) ∧ p.sz = cs.size ∧ p.es = b.es ∧ p.o + b.cells.length ≤ cs.size ∧
    LRel φ b.cells ((cs.toList.drop p.o).take b.cells.length) ∧ (b.ro = false → fz.1 = fz.2 ∨ cs.size ≤ fz.1 ∧ b.es = 1) := by
  rcases h.blk n b hb with h | h
  · exact h
  · exact (h.no hp hl).elim
theorem HRel.cel1 {φ : Ren} {σ : AState} {w : World} (h : HRel φ σ w) {n : Nat} {b : Blk} (hb : σ.get n = some b) (he : b.es < 1000) : ∃ p cs e fz, φ n = some p ∧ w.heap[p.g]? = some (.cells cs e fz) ∧ p.sz = cs.size ∧ p.es = b.es ∧ p.o + b.cells.length ≤ cs.size ∧
    LRel φ b.cells ((cs.toList.drop p.o).take b.cells.length) ∧ (b.ro = false → fz.1 = fz.2 ∨ cs.size ≤ fz.1 ∧ b.es = 1) := by
  rcases h.blk n b hb with h | h
  · exact h
  · have := h.es.1; omega

/-- From 'w' to 'w'': what may have been written lies in blocks of names in D; all else is as it was. -/
structure Goes (D : Nat → Prop) (φ : Ren) (σ : AState) (w : World) (φ' : Ren) (σ' : AState) (w' : World) : Prop where
  le : Ren.le φ φ'
  rel : HRel φ' σ' w'
  size : w.heap.size ≤ w'.heap.size
  tape : w'.tape = w.tape
  os : w'.os = w.os
  output : w'.output = w.output
  next : σ.next ≤ σ'.next
  old : ∀ n b', n < σ.next → σ'.get n = some b' → ∃ b, σ.get n = some b ∧ b.ro = b'.ro
  kept : ∀ g, g < w.heap.size → (∀ n b p, σ.get n = some b → b.ro = false → φ n = some p → p.g = g → ¬ D n) → w'.heap[g]? = w.heap[g]?
  new : ∀ n p, φ n = none → φ' n = some p → w.heap.size ≤ p.g ∨ ∃ m b q, σ.get m = some b ∧ b.ro = false ∧ φ m = some q ∧ D m ∧ q.g = p.g

theorem Goes.refl {D : Nat → Prop} {φ : Ren} {σ : AState} {w : World} (h : HRel φ σ w) : Goes D φ σ w φ σ w :=
  ⟨.refl _, h, Nat.le_refl _, rfl, rfl, rfl, Nat.le_refl _, fun n b _ h => ⟨b, h, rfl⟩, fun _ _ _ => rfl, fun n p h1 h2 => by rw [h1] at h2; cases h2⟩

theorem Goes.trans {D E : Nat → Prop} {φ φ1 φ2 : Ren} {σ σ1 σ2 : AState} {w w1 w2 : World} (h : Goes D φ σ w φ1 σ1 w1) (k : Goes E φ1 σ1 w1 φ2 σ2 w2)
    (hE : ∀ n, n < σ.next → E n → D n) (hσ : HRel φ σ w) : Goes D φ σ w φ2 σ2 w2 := by
  have low : ∀ n p, φ n = some p → n < σ.next := fun n p e => by
    rcases Nat.lt_or_ge n σ.next with h | h
    · exact h
    · rw [hσ.fresh n h] at e; cases e
  refine ⟨h.le.trans k.le, k.rel, Nat.le_trans h.size k.size, k.tape.trans h.tape, k.os.trans h.os, k.output.trans h.output, Nat.le_trans h.next k.next, ?_, ?_, ?_⟩
  · intro n b' hn hb'
    obtain ⟨b1, h1, h2⟩ := k.old n b' (Nat.lt_of_lt_of_le hn h.next) hb'
    obtain ⟨b, h3, h4⟩ := h.old n b1 hn h1
    exact ⟨b, h3, h4.trans h2⟩
  · intro g hg hn
    rw [k.kept g (Nat.lt_of_lt_of_le hg h.size) ?_, h.kept g hg hn]
    intro n b p hb hro hp hpg hEn
    cases hφ : φ n with
    | some q =>
      have hq := h.le n q hφ
      rw [hp] at hq
      injection hq with hq
      subst hq
      obtain ⟨b0, h1, h2⟩ := h.old n b (low n p hφ) hb
      exact hn n b0 p h1 (h2.trans hro) hφ hpg (hE n (low n p hφ) hEn)
    | none =>
      rcases h.new n p hφ hp with h1 | ⟨m, bm, q, h0, h00, h1, h2, h3⟩
      · omega
      · exact hn m bm q h0 h00 h1 (h3.trans hpg) h2
  · intro n p h0 h2
    cases h1 : φ1 n with
    | some q =>
      have hq := k.le n q h1
      rw [h2] at hq
      injection hq with hq
      subst hq
      exact h.new n p h0 h1
    | none =>
      rcases k.new n p h1 h2 with h3 | ⟨m, b, q, hb, hro, h3, h4, h5⟩
      · exact .inl (Nat.le_trans h.size h3)
      · cases h6 : φ m with
        | some q' =>
          have hq := h.le m q' h6
          rw [h3] at hq
          injection hq with hq
          subst hq
          obtain ⟨b0, k1, k2⟩ := h.old m b (low m q h6) hb
          exact .inr ⟨m, b0, q, k1, k2.trans hro, h6, hE m (low m q h6) h4, h5⟩
        | none =>
          rcases h.new m q h6 h3 with h7 | ⟨m', b', q', k1, k2, h7, h8, h9⟩
          · exact .inl (h5 ▸ h7)
          · exact .inr ⟨m', b', q', k1, k2, h7, h8, h9.trans h5⟩

theorem Goes.weaken {D E : Nat → Prop} {φ φ1 : Ren} {σ σ1 : AState} {w w1 : World} (hσ : HRel φ σ w) (h : Goes D φ σ w φ1 σ1 w1) (hD : ∀ n, n < σ.next → D n → E n) : Goes E φ σ w φ1 σ1 w1 :=
  Goes.trans (Goes.refl hσ) h hD hσ

end GAb

set_option linter.unusedVariables false
set_option linter.unusedSimpArgs false
namespace GAb
open Go

theorem add_plain (g x k : Nat) : (⟨g, x, none⟩ : Addr).add k = ⟨g, x + k, none⟩ := by unfold Addr.add; split <;> simp_all

def rd (σ : AState) (n o k : Nat) : Option (List Value) :=
  match σ.get n with
  | some b => if o + k ≤ b.cells.length then some ((b.cells.drop o).take k) else none
  | none => none

def splice (cs : List Value) (o : Nat) (vs : List Value) : List Value := cs.take o ++ (vs ++ cs.drop (o + vs.length))
theorem splice_length {cs : List Value} {o : Nat} {vs : List Value} (h : o + vs.length ≤ cs.length) : (splice cs o vs).length = cs.length := by
  simp [splice]; omega
theorem splice_nil (cs : List Value) (o : Nat) : splice cs o [] = cs := by simp [splice]
theorem splice_cons (cs : List Value) (o : Nat) (v : Value) (vs : List Value) (h : o + (vs.length + 1) ≤ cs.length) :
    splice (cs.set o v) (o + 1) vs = splice cs o (v :: vs) := by
  have ho : o < cs.length := by omega
  simp only [splice, List.length_cons]
  rw [List.drop_set_of_lt (by omega), show o + (vs.length + 1) = o + 1 + vs.length by omega]
  have e1 : (cs.set o v).take (o + 1) = cs.take o ++ [v] := by
    apply List.ext_getElem?
    intro i
    simp only [List.getElem?_take, List.getElem?_set, List.getElem?_append, List.length_take]
    by_cases h1 : i < o
    · rw [if_pos (by omega), if_neg (by omega), if_pos (by omega), if_pos h1]
    · rw [if_neg (show ¬ i < min o cs.length by omega)]
      by_cases h2 : i = o
      · subst h2
        rw [if_pos (by omega), if_pos rfl, if_pos ho, show i - min i cs.length = 0 by omega]; rfl
      · rw [if_neg (by omega), List.getElem?_eq_none (by simp; omega)]
  rw [e1]; simp

def wr (σ : AState) (n o : Nat) (vs : List Value) : Option AState :=
  match σ.get n with
  | some b => if b.ro = false ∧ o + vs.length ≤ b.cells.length ∧ vs.all Value.oneCell' = true then some (σ.put n (some { b with cells := splice b.cells o vs })) else none
  | none => none

theorem cell_of {w : World} {g : Nat} {cs : Array Value} {e : TypeId} {fz : Nat × Nat} (h : w.heap[g]? = some (.cells cs e fz)) (i : Nat) : w.cell? ⟨g, i, none⟩ = cs[i]? := by
  simp [World.cell?, h]
theorem frozen_of {w : World} {g : Nat} {cs : Array Value} {e : TypeId} {fz : Nat × Nat} (h : w.heap[g]? = some (.cells cs e fz)) (i : Nat) : w.frozen? ⟨g, i, none⟩ = (decide (fz.1 ≤ i) && decide (i < fz.2)) := by
  simp [World.frozen?, h]

theorem nofz {fz : Nat × Nat} {n : Nat} (h : fz.1 = fz.2 ∨ n ≤ fz.1) (i : Nat) (hi : i < n) : ¬ (fz.1 ≤ i ∧ i < fz.2) := by omega

theorem LRel.of_take {φ : Ren} {vs us : List Value} {k : Nat} (h : LRel φ vs (us.take k)) (o m : Nat) (hm : o + m ≤ vs.length) : LRel φ ((vs.drop o).take m) ((us.drop o).take m) := by
  have h1 := (h.drop o).take m
  have h2 := LRel.length h
  have e : ((us.take k).drop o).take m = (us.drop o).take m := by
    rw [List.drop_take, List.take_take]
    congr 1
    simp at h2
    omega
  rw [e] at h1
  exact h1

theorem rd_sound {φ : Ren} {σ : AState} {w : World} (hr : HRel φ σ w) {n o k : Nat} {vs : List Value} (h : rd σ n o k = some vs) {p : Pl} (hp : φ n = some p) :
    ∃ us : List Value, LRel φ vs us ∧ us.length = k ∧ (∀ j u, us[j]? = some u → w.cell? ⟨p.g, p.o + o + j, none⟩ = some u) ∧
      (∀ P : Program, (loadCells ⟨p.g, p.o + o, none⟩ k).run P w = .ok us.toArray w) ∧ ∀ (P : Program) (w2 : World), w2.heap[p.g]? = w.heap[p.g]? → (∀ j u, us[j]? = some u → w2.cell? ⟨p.g, p.o + o + j, none⟩ = some u) ∧ (loadCells ⟨p.g, p.o + o, none⟩ k).run P w2 = .ok us.toArray w2 := by
  unfold rd at h
  split at h
  · rename_i b hb
    split at h
    · rename_i hle
      injection h with h
      subst h
      rcases hr.blk n b hb with hB | hB
      rotate_left
      · have h0 := hB.es.2
        rw [h0] at hle ⊢
        obtain ⟨rfl, rfl⟩ : o = 0 ∧ k = 0 := by simp at hle; omega
        exact ⟨[], .nil, rfl, fun j u hu => by simp at hu, fun P => rfl, fun P w2 _ => ⟨fun j u hu => by simp at hu, rfl⟩⟩
      obtain ⟨q, cs, e, fz, hq, hg, hsz, _, hlen, hl, _⟩ := hB
      rw [hp] at hq; injection hq with hq; subst hq
      have hc := LRel.of_take hl o k hle
      have hk : (((cs.toList.drop p.o).drop o).take k).length = k := by simp; omega
      have hcell : ∀ j u, (((cs.toList.drop p.o).drop o).take k)[j]? = some u → w.cell? ⟨p.g, p.o + o + j, none⟩ = some u := fun j u hu => by
        rw [cell_of hg]
        rw [List.getElem?_take] at hu
        split at hu
        · simp only [List.getElem?_drop] at hu
          rw [← Array.getElem?_toList, ← hu]
          congr 1; omega
        · cases hu
      have hsame : ∀ (w2 : World) (i : Nat), w2.heap[p.g]? = w.heap[p.g]? → w2.cell? ⟨p.g, i, none⟩ = w.cell? ⟨p.g, i, none⟩ := fun w2 i h => by simp only [World.cell?, h]
      have gen : ∀ (P : Program) (w2 : World), w2.heap[p.g]? = w.heap[p.g]? → (∀ j u, (((cs.toList.drop p.o).drop o).take k)[j]? = some u → w2.cell? ⟨p.g, p.o + o + j, none⟩ = some u) ∧ (loadCells ⟨p.g, p.o + o, none⟩ k).run P w2 = .ok (((cs.toList.drop p.o).drop o).take k).toArray w2 := fun P w2 h2 => by
        have hc2 : ∀ j u, (((cs.toList.drop p.o).drop o).take k)[j]? = some u → w2.cell? ⟨p.g, p.o + o + j, none⟩ = some u := fun j u hu => by rw [hsame w2 _ h2]; exact hcell j u hu
        have := run_loadCells_list (P := P) w2 ⟨p.g, p.o + o, none⟩ _ (fun j u hu => by rw [add_plain]; exact hc2 j u hu)
        rw [hk] at this
        exact ⟨hc2, this⟩
      exact ⟨_, hc, hk, hcell, fun P => (gen P w rfl).2, gen⟩
    · cases h
  · cases h

/-- What a row of stores leaves. -/
theorem setCells_heap : ∀ (us : List Value) (g o : Nat) (w : World) (cs : Array Value) (e : TypeId) (fz : Nat × Nat), w.heap[g]? = some (.cells cs e fz) → o + us.length ≤ cs.size →
    ∃ cs' : Array Value, (w.setCells g o us).heap[g]? = some (.cells cs' e fz) ∧ cs'.toList = splice cs.toList o us ∧ (∀ g', g' ≠ g → (w.setCells g o us).heap[g']? = w.heap[g']?) ∧
      (w.setCells g o us).heap.size = w.heap.size ∧ (w.setCells g o us).tape = w.tape ∧ (w.setCells g o us).os = w.os ∧ (w.setCells g o us).output = w.output
  | [], g, o, w, cs, e, fz, h, _ => ⟨cs, h, (splice_nil _ _).symm, fun _ _ => rfl, rfl, rfl, rfl, rfl⟩
  | v :: us, g, o, w, cs, e, fz, h, hl => by
    simp only [List.length_cons] at hl
    have h1 : (w.setCell ⟨g, o, none⟩ v).heap[g]? = some (.cells (cs.setIfInBounds o v) e fz) := by
      simp only [World.setCell, Array.getElem?_modify, h]
      simp
    obtain ⟨cs', a1, a2, a3, a4, a5, a6, a7⟩ := setCells_heap us g (o + 1) (w.setCell ⟨g, o, none⟩ v) _ e fz h1 (by simp; omega)
    refine ⟨cs', a1, ?_, fun g' hg' => ?_, ?_, a5, a6, a7⟩
    · rw [a2, Array.toList_setIfInBounds, splice_cons _ _ _ _ (by simp; omega)]
    · show ((w.setCell ⟨g, o, none⟩ v).setCells g (o + 1) us).heap[g']? = _
      rw [a3 g' hg']
      simp only [World.setCell, Array.getElem?_modify]
      rw [if_neg (fun e => hg' e.symm)]
    · show ((w.setCell ⟨g, o, none⟩ v).setCells g (o + 1) us).heap.size = _
      rw [a4]; simp [World.setCell]

theorem oneCell_rel {φ : Ren} {v u : Value} (h : VRel φ v u) (k : v.oneCell' = true) : u.oneCell' = true := by
  cases h <;> first | rfl | (simp [Value.oneCell'] at k)
theorem oneCells_rel {φ : Ren} {vs us : List Value} (h : LRel φ vs us) (k : vs.all Value.oneCell' = true) : ∀ u ∈ us, u.oneCell' = true := by
  induction h with
  | nil => intro u hu; cases hu
  | cons h _ ih =>
    simp only [List.all_cons, Bool.and_eq_true] at k
    intro u hu
    rcases List.mem_cons.1 hu with rfl | hu
    · exact oneCell_rel h k.1
    · exact ih k.2 u hu

theorem LRel.splice {φ : Ren} {a b vs us : List Value} (h : LRel φ a b) (k : LRel φ vs us) (o : Nat) : LRel φ (splice a o vs) (splice b o us) := by
  unfold GAb.splice
  rw [← LRel.length k]
  exact (h.take o).append (k.append (h.drop _))

theorem splice_window {cs us : List Value} {po o k : Nat} (h : o + us.length ≤ k) (hk : po + k ≤ cs.length) :
    ((splice cs (po + o) us).drop po).take k = splice ((cs.drop po).take k) o us := by
  apply List.ext_getElem?
  intro i
  simp only [GAb.splice, List.getElem?_take, List.getElem?_drop, List.getElem?_append, List.length_take, List.length_drop]
  rw [show min (po + o) cs.length = po + o by omega, show min o (min k (cs.length - po)) = o by omega, show po + i - (po + o) = i - o by omega]
  by_cases hi : i < k
  · rw [if_pos hi]
    by_cases h1 : i < o
    · rw [if_pos (show po + i < po + o by omega), if_pos (show po + i < po + o by omega), if_pos h1, if_pos h1, if_pos hi]
    · rw [if_neg (show ¬ po + i < po + o by omega), if_neg h1]
      by_cases h2 : i - o < us.length
      · rw [if_pos h2, if_pos h2]
      · rw [if_neg h2, if_neg h2, if_pos (by omega)]
        congr 1; omega
  · rw [if_neg hi, if_neg (by omega), if_neg (by omega), if_neg (by omega)]

theorem wr_sound {φ : Ren} {σ σ' : AState} {w : World} (hr : HRel φ σ w) {n o : Nat} {vs us : List Value} (h : wr σ n o vs = some σ') {p : Pl} (hp : φ n = some p) (hv : LRel φ vs us) :
    ∃ w', (∀ P : Program, (storeCells ⟨p.g, p.o + o, none⟩ us).run P w = .ok () w') ∧ Goes (· = n) φ σ w φ σ' w' := by
  unfold wr at h
  split at h
  · rename_i b hb
    split at h
    · rename_i hc
      obtain ⟨hro, hle, hone⟩ := hc
      injection h with h
      subst h
      rcases hr.blk n b hb with hB | hB
      rotate_left
      · have h0 := hB.es.2
        rw [h0] at hle
        obtain rfl : vs = [] := List.eq_nil_of_length_eq_zero (by rw [List.length_nil] at hle; omega)
        cases hv
        have hsame : ∀ m, (σ.put n (some { b with cells := splice b.cells o [] })).get m = σ.get m := fun m => by
          rw [AState.get_put]
          split
          · rename_i e; subst e; rw [hb, splice_nil]
          · rfl
        refine ⟨w, fun P => rfl, ⟨.refl _, hr.same hsame rfl, Nat.le_refl _, rfl, rfl, rfl, Nat.le_refl _, fun m bm _ hm => ⟨bm, by rw [← hsame]; exact hm, rfl⟩, fun _ _ _ => rfl, fun m q h1 h2 => by rw [h1] at h2; cases h2⟩⟩
      obtain ⟨q, cs, e, fz, hq, hg, hsz, hes, hlen, hl, hfz⟩ := hB
      rw [hp] at hq; injection hq with hq; subst hq
      have hul := LRel.length hv
      obtain ⟨cs', a1, a2, a3, a4, a5, a6, a7⟩ := setCells_heap us p.g (p.o + o) w cs e fz hg (by omega)
      have hcs' : cs'.size = cs.size := by
        have := congrArg List.length a2
        rw [splice_length (by simp; omega)] at this
        simpa using this
      have hrun : ∀ P : Program, (storeCells ⟨p.g, p.o + o, none⟩ us).run P w = .ok () (w.setCells p.g (p.o + o) us) := fun P => by
        have := run_storeCells_cells (P := P) p.g (p.o + o) us 0 w (fun j hj => by
            rw [cell_of hg, Nat.add_zero]
            simp; omega)
          (fun j hj => by
            rw [frozen_of hg]
            have := nofz ((hfz hro).imp id And.left) (p.o + o + 0 + j) (by omega)
            simpa using this)
          (oneCells_rel hv hone)
        simpa using this
      refine ⟨_, hrun, ⟨.refl _, ⟨hr.fresh, fun m hm => ?_, ?_, ?_, fun m q hq => by rw [a4]; exact hr.lt m q hq⟩, by rw [a4]; exact Nat.le_refl _, a5, a6, a7, Nat.le_refl _, ?_, ?_, fun m q h1 h2 => by rw [h1] at h2; cases h2⟩⟩
      · rw [AState.get_put]
        have := hr.dead m hm
        split
        · rename_i hnm; subst hnm; rw [hb] at this; cases this
        · exact this
      · intro m bm hm
        rw [AState.get_put] at hm
        split at hm
        · rename_i hnm
          subst hnm
          injection hm with hm
          subst hm
          refine .inl ⟨p, cs', e, fz, hp, a1, by omega, hes, ?_, ?_, fun h => by rw [hcs']; exact hfz h⟩
          · simp only [splice_length hle]; omega
          · simp only [splice_length hle]
            rw [a2, splice_window (by omega) (by simp; omega)]
            exact hl.splice hv o
        · rename_i hnm
          have hgq : ∀ q, φ m = some q → q.g ≠ p.g := fun q b1 e => hnm (hr.inj n m b bm p q hb hm hro hp b1 e.symm)
          rcases hr.blk m bm hm with ⟨q, c2, e2, f2, b1, b2, b3, b4, b5, b6, b7⟩ | hB2
          · exact .inl ⟨q, c2, e2, f2, b1, by rw [a3 _ (hgq q b1)]; exact b2, b3, b4, b5, b6, b7⟩
          · exact .inr (hB2.mv (.refl _) fun q hq _ => a3 _ (hgq q hq))
      · intro m1 m2 b1 b2 q1 q2 h1 h2 h3 h4 h5 h6
        rw [AState.get_put] at h1 h2
        have k1 : ∃ b1', σ.get m1 = some b1' ∧ b1'.ro = false := by
          split at h1
          · rename_i e; subst e; exact ⟨b, hb, hro⟩
          · exact ⟨b1, h1, h3⟩
        have k2 : ∃ b2', σ.get m2 = some b2' := by
          split at h2
          · rename_i e; subst e; exact ⟨b, hb⟩
          · exact ⟨b2, h2⟩
        obtain ⟨b1', g1, g2⟩ := k1
        obtain ⟨b2', g3⟩ := k2
        exact hr.inj m1 m2 b1' b2' q1 q2 g1 g3 g2 h4 h5 h6
      · intro m bm _ hm
        rw [AState.get_put] at hm
        split at hm
        · rename_i e; subst e; injection hm with hm; subst hm; exact ⟨b, hb, rfl⟩
        · exact ⟨bm, hm, rfl⟩
      · intro g _ hn
        rw [a3 g (fun e => hn n b p hb hro hp e.symm rfl)]
    · cases h
  · cases h

/-- A new block: the machine's may have more cells than the abstract one. -/
theorem alloc_soundF {φ : Ren} {σ : AState} {w : World} (hr : HRel φ σ w) {D : Nat → Prop} {vs : List Value} {us : Array Value} (es : Nat) (e : TypeId) (fz : Nat × Nat) (hfz : fz.1 = fz.2 ∨ us.size ≤ fz.1 ∧ es = 1) (hle : vs.length ≤ us.size) (hv : LRel φ vs (us.toList.take vs.length)) :
    Goes D φ σ w (φ.up σ.next ⟨w.heap.size, 0, us.size, es⟩) (σ.alloc ⟨vs, es, false⟩) (w.alloc (.cells us e fz)) := by
  have hfr := hr.fresh σ.next (Nat.le_refl _)
  have hle' := Ren.le_up hfr ⟨w.heap.size, 0, us.size, es⟩
  have hheap : (w.alloc (.cells us e fz)).heap = w.heap.push (.cells us e fz) := rfl
  have hpush : ∀ g, g < w.heap.size → (w.alloc (.cells us e fz)).heap[g]? = w.heap[g]? := fun g hg => by
    rw [hheap, Array.getElem?_push, if_neg (by omega)]
  refine ⟨hle', ⟨fun m hm => ?_, fun m hm => ?_, fun m bm hm => ?_, ?_, fun m q hq => ?_⟩, by rw [hheap]; simp, rfl, rfl, rfl, by simp, fun m bm hm h => ⟨bm, by rw [AState.get_alloc, if_neg (by omega)] at h; exact h, rfl⟩, fun g hg _ => hpush g hg, fun m q h1 h2 => ?_⟩
  · simp only [AState.next_alloc] at hm
    simp only [Ren.up]
    rw [if_neg (by omega)]
    exact hr.fresh m (by omega)
  · simp only [AState.next_alloc] at hm
    rw [AState.get_alloc, if_neg (by omega)]
    exact hr.dead m (by omega)
  · rw [AState.get_alloc] at hm
    split at hm
    · rename_i hnm
      subst hnm
      injection hm with hm
      subst hm
      refine .inl ⟨⟨w.heap.size, 0, us.size, es⟩, us, e, fz, by simp [Ren.up], by rw [hheap]; simp, rfl, rfl, by simpa using hle, ?_, fun _ => hfz⟩
      simp only [List.drop_zero]
      exact hv.mono hle'
    · rcases hr.blk m bm hm with ⟨q, c2, e2, f2, b1, b2, b3, b4, b5, b6, b7⟩ | hB2
      · exact .inl ⟨q, c2, e2, f2, hle' _ _ b1, by rw [hpush _ (hr.lt m q b1)]; exact b2, b3, b4, b5, b6.mono hle', b7⟩
      · exact .inr (hB2.mv hle' fun q hq _ => hpush _ (hr.lt m q hq))
  · intro m1 m2 b1 b2 q1 q2 h1 h2 h3 h4 h5 h6
    rw [AState.get_alloc] at h1 h2
    simp only [Ren.up] at h4 h5
    split at h1
    · rename_i e1
      subst e1
      rw [if_pos rfl] at h4
      injection h4 with h4
      subst h4
      split at h2
      · assumption
      · rename_i e2
        rw [if_neg (fun e => e2 e.symm)] at h5
        have := hr.lt m2 q2 h5
        simp at h6
        omega
    · rename_i e1
      rw [if_neg (fun e => e1 e.symm)] at h4
      split at h2
      · rename_i e2
        subst e2
        rw [if_pos rfl] at h5
        injection h5 with h5
        subst h5
        have := hr.lt m1 q1 h4
        simp at h6
        omega
      · rename_i e2
        rw [if_neg (fun e => e2 e.symm)] at h5
        exact hr.inj m1 m2 b1 b2 q1 q2 h1 h2 h3 h4 h5 h6
  · simp only [Ren.up] at hq
    split at hq
    · injection hq with hq; subst hq; rw [hheap]; simp
    · have := hr.lt m q hq
      rw [hheap]; simp; omega
  · simp only [Ren.up] at h2
    split at h2
    · injection h2 with h2; subst h2; exact .inl (Nat.le_refl _)
    · rw [h1] at h2; cases h2

theorem alloc_sound {φ : Ren} {σ : AState} {w : World} (hr : HRel φ σ w) {D : Nat → Prop} {vs : List Value} {us : Array Value} (es : Nat) (e : TypeId) (hle : vs.length ≤ us.size) (hv : LRel φ vs (us.toList.take vs.length)) :
    Goes D φ σ w (φ.up σ.next ⟨w.heap.size, 0, us.size, es⟩) (σ.alloc ⟨vs, es, false⟩) (w.alloc (.cells us e)) := alloc_soundF hr es e (0, 0) (.inl rfl) hle hv

/-- Appending in place, where it is not known whether there is room: the old name is gone, a new one stands for the longer row. -/
theorem inplace_sound {φ : Ren} {σ : AState} {w : World} (hr : HRel φ σ w) {n o k : Nat} {b : Blk} {p : Pl} {ns us : List Value} (hb : σ.get n = some b) (hro : b.ro = false) (hp : φ n = some p)
    (hk : o + k ≤ b.cells.length) (hroom : p.o + o + k + us.length ≤ p.sz) (hone : ns.all Value.oneCell' = true) (hv : LRel φ ns us) :
    ∃ w', (∀ P : Program, (storeCells ⟨p.g, p.o + o + k, none⟩ us).run P w = .ok () w') ∧
      Goes (· = n) φ σ w (φ.up σ.next ⟨p.g, p.o + o, p.sz, p.es⟩) ((σ.put n none).alloc ⟨(b.cells.drop o).take k ++ ns, b.es, false⟩) w' := by
  obtain ⟨q, cs, e, fz, hq, hg, hsz, hes, hlen, hl, hfz⟩ := hr.cel hb hp (by omega)
  rw [hp] at hq; injection hq with hq; subst hq
  have hfr := hr.fresh σ.next (Nat.le_refl _)
  have hnlt : n < σ.next := by
    rcases Nat.lt_or_ge n σ.next with h | h
    · exact h
    · rw [hr.fresh n h] at hp; cases hp
  have hle' := Ren.le_up hfr ⟨p.g, p.o + o, p.sz, p.es⟩
  have hul := LRel.length hv
  obtain ⟨cs', a1, a2, a3, a4, a5, a6, a7⟩ := setCells_heap us p.g (p.o + o + k) w cs e fz hg (by omega)
  have hcs' : cs'.size = cs.size := by
    have := congrArg List.length a2
    rw [splice_length (by simp; omega)] at this
    simpa using this
  have hrun : ∀ P : Program, (storeCells ⟨p.g, p.o + o + k, none⟩ us).run P w = .ok () (w.setCells p.g (p.o + o + k) us) := fun P => by
    have := run_storeCells_cells (P := P) p.g (p.o + o + k) us 0 w (fun j hj => by
        rw [cell_of hg, Nat.add_zero]
        simp; omega)
      (fun j hj => by
        rw [frozen_of hg]
        have := nofz ((hfz hro).imp id And.left) (p.o + o + k + 0 + j) (by omega)
        simpa using this)
      (oneCells_rel hv hone)
    simpa using this
  have other : ∀ m bm q, m ≠ n → σ.get m = some bm → φ m = some q → q.g ≠ p.g := fun m bm q hmn hm hq e => hmn (hr.inj n m b bm p q hb hm hro hp hq e.symm).symm
  refine ⟨_, hrun, ⟨hle', ⟨fun m hm => ?_, fun m hm => ?_, fun m bm hm => ?_, ?_, fun m q hq => ?_⟩, by rw [a4]; exact Nat.le_refl _, a5, a6, a7, by simp, fun m bm hm h => ?_, fun g hg hn => ?_, fun m q h1 h2 => ?_⟩⟩
  · simp only [AState.next_alloc, AState.next_put] at hm
    simp only [Ren.up]
    rw [if_neg (by omega)]
    exact hr.fresh m (by omega)
  · simp only [AState.next_alloc, AState.next_put] at hm
    rw [AState.get_alloc, AState.next_put, if_neg (by omega), AState.get_put]
    split
    · rfl
    · exact hr.dead m (by omega)
  · rw [AState.get_alloc, AState.next_put, AState.get_put] at hm
    split at hm
    · rename_i hnm
      subst hnm
      injection hm with hm
      subst hm
      have hlen2 : ((b.cells.drop o).take k ++ ns).length = k + us.length := by simp; omega
      refine .inl ⟨⟨p.g, p.o + o, p.sz, p.es⟩, cs', e, fz, by simp [Ren.up], a1, (show p.sz = cs'.size by omega), hes, ?_, ?_, fun _ => by rw [hcs']; exact hfz hro⟩
      · simp only [hlen2]; omega
      · simp only [hlen2]
        rw [a2]
        have e1 : ((splice cs.toList (p.o + o + k) us).drop (p.o + o)).take (k + us.length) = ((cs.toList.drop p.o).drop o).take k ++ us := by
          apply List.ext_getElem?
          intro i
          simp only [GAb.splice, List.getElem?_take, List.getElem?_drop, List.getElem?_append, List.length_take, List.length_drop, Array.length_toList]
          by_cases hi : i < k
          · rw [if_pos (by omega), if_pos (by omega), if_pos (by omega), if_pos (by omega), if_pos hi]
            congr 1; omega
          · rw [if_neg (show ¬ i < min k (cs.size - p.o - o) by omega), if_neg (show ¬ p.o + o + i < min (p.o + o + k) cs.size by omega)]
            by_cases h2 : i < k + us.length
            · rw [if_pos h2, if_pos (by omega)]
              congr 1; omega
            · rw [if_neg h2]
              rw [List.getElem?_eq_none (by omega)]
        rw [e1]
        exact ((LRel.of_take hl o k hk).append hv).mono hle'
    · split at hm
      · cases hm
      · rename_i _ hnm
        rcases hr.blk m bm hm with ⟨q, c2, e2, f2, b1, b2, b3, b4, b5, b6, b7⟩ | hB2
        · have hgq := other m bm q (fun e => hnm e.symm) hm b1
          exact .inl ⟨q, c2, e2, f2, hle' _ _ b1, by rw [a3 _ hgq]; exact b2, b3, b4, b5, b6.mono hle', b7⟩
        · exact .inr (hB2.mv hle' fun q hq _ => a3 _ (other m bm q (fun e => hnm e.symm) hm hq))
  · intro m1 m2 b1 b2 q1 q2 h1 h2 h3 h4 h5 h6
    rw [AState.get_alloc, AState.next_put, AState.get_put] at h1 h2
    simp only [Ren.up] at h4 h5
    split at h1
    · rename_i e1
      subst e1
      rw [if_pos rfl] at h4
      injection h4 with h4
      subst h4
      split at h2
      · assumption
      · rename_i e2
        rw [if_neg (fun e => e2 e.symm)] at h5
        split at h2
        · cases h2
        · rename_i e3
          exact absurd h6.symm (other m2 b2 q2 (fun e => e3 e.symm) h2 h5)
    · rename_i e1
      rw [if_neg (fun e => e1 e.symm)] at h4
      split at h1
      · cases h1
      · rename_i e0
        split at h2
        · rename_i e2
          subst e2
          rw [if_pos rfl] at h5
          injection h5 with h5
          subst h5
          exact absurd h6 (other m1 b1 q1 (fun e => e0 e.symm) h1 h4)
        · rename_i e2
          rw [if_neg (fun e => e2 e.symm)] at h5
          split at h2
          · cases h2
          · exact hr.inj m1 m2 b1 b2 q1 q2 h1 h2 h3 h4 h5 h6
  · simp only [Ren.up] at hq
    split at hq
    · injection hq with hq; subst hq; simp only []; rw [a4]; exact hr.lt n p hp
    · rw [a4]; exact hr.lt m q hq
  · rw [AState.get_alloc, AState.next_put, if_neg (by omega), AState.get_put] at h
    split at h
    · cases h
    · exact ⟨bm, h, rfl⟩
  · exact a3 g (fun e => hn n b p hb hro hp e.symm rfl)
  · simp only [Ren.up] at h2
    split at h2
    · injection h2 with h2; subst h2; exact .inr ⟨n, b, p, hb, hro, hp, rfl, rfl⟩
    · rw [h1] at h2; cases h2

/-- A name is given up. -/
theorem kill_sound {φ : Ren} {σ : AState} {w : World} (hr : HRel φ σ w) (n : Nat) : HRel φ (σ.put n none) w := by
  refine ⟨hr.fresh, fun m hm => ?_, fun m b hm => ?_, fun m1 m2 b1 b2 p q h1 h2 h3 h4 h5 h6 => ?_, hr.lt⟩
  · rw [AState.get_put]
    split
    · rfl
    · exact hr.dead m hm
  · rw [AState.get_put] at hm
    split at hm
    · cases hm
    · exact hr.blk m b hm
  · rw [AState.get_put] at h1 h2
    split at h1
    · cases h1
    · split at h2
      · cases h2
      · exact hr.inj m1 m2 b1 b2 p q h1 h2 h3 h4 h5 h6

theorem kill_goes {D : Nat → Prop} {φ : Ren} {σ : AState} {w : World} (hr : HRel φ σ w) (n : Nat) : Goes D φ σ w φ (σ.put n none) w :=
  ⟨.refl _, kill_sound hr n, Nat.le_refl _, rfl, rfl, rfl, Nat.le_refl _, fun m b _ h => by
    rw [AState.get_put] at h
    split at h
    · cases h
    · exact ⟨b, h, rfl⟩, fun _ _ _ => rfl, fun q p h1 h2 => by rw [h1] at h2; cases h2⟩

/-- Draws move a count. -/
theorem HRel.drew {φ : Ren} {σ : AState} {w : World} (hr : HRel φ σ w) (n : Nat) : HRel φ σ { w with drawn := n } := ⟨hr.fresh, hr.dead, hr.blk, hr.inj, hr.lt⟩
theorem Goes.drew {D : Nat → Prop} {φ : Ren} {σ : AState} {w : World} (hr : HRel φ σ w) (n : Nat) : Goes D φ σ w φ σ { w with drawn := n } :=
  ⟨.refl _, hr.drew n, Nat.le_refl _, rfl, rfl, rfl, Nat.le_refl _, fun m b _ h => ⟨b, h, rfl⟩, fun _ _ _ => rfl, fun n p h1 h2 => by rw [h1] at h2; cases h2⟩

/-- A mark just behind a block's cells. -/
theorem freeze_sound {φ : Ren} {σ : AState} {w : World} (hr : HRel φ σ w) {n : Nat} {b : Blk} {p : Pl} (hes1 : b.es = 1) (hb : σ.get n = some b) (hro : b.ro = false) (hp : φ n = some p) :
    Goes (· = n) φ σ w φ σ (w.freeze ⟨p.g, p.sz, none⟩ 1) := by
  obtain ⟨q, cs, e, fz, hq, hg, hsz, hes, hlen, hl, hfz⟩ := hr.cel1 hb (by omega)
  rw [hp] at hq; injection hq with hq; subst hq
  have hheap : ∀ g, g ≠ p.g → (w.freeze ⟨p.g, p.sz, none⟩ 1).heap[g]? = w.heap[g]? := fun g hgn => by
    unfold World.freeze
    rw [if_neg (by decide)]
    show (w.heap.modify _ _)[g]? = _
    rw [Array.getElem?_modify, if_neg (fun e => hgn e.symm)]
  have hat : ∃ fz', (w.freeze ⟨p.g, p.sz, none⟩ 1).heap[p.g]? = some (.cells cs e fz') ∧ (fz'.1 = fz'.2 ∨ cs.size ≤ fz'.1 ∧ b.es = 1) := by
    unfold World.freeze
    rw [if_neg (by decide)]
    show ∃ fz', (w.heap.modify _ _)[p.g]? = _ ∧ _
    rw [Array.getElem?_modify, if_pos rfl, hg]
    refine ⟨_, rfl, ?_⟩
    have := hfz hro
    split
    · exact .inr (by simp; omega)
    · rename_i hne
      simp at hne
      refine .inr ?_
      simp only
      omega
  have hsize : (w.freeze ⟨p.g, p.sz, none⟩ 1).heap.size = w.heap.size := by simp [World.freeze]
  obtain ⟨fz', h1, h2⟩ := hat
  refine ⟨.refl _, ⟨hr.fresh, hr.dead, fun m bm hm => ?_, hr.inj, fun m q hq => by rw [hsize]; exact hr.lt m q hq⟩, by rw [hsize]; exact Nat.le_refl _, rfl, rfl, rfl, Nat.le_refl _, fun m b _ h => ⟨b, h, rfl⟩, fun g _ hn => hheap g fun e => hn n b p hb hro hp e.symm rfl, fun m q h1 h2 => by rw [h1] at h2; cases h2⟩
  rcases hr.blk m bm hm with ⟨q, c2, e2, f2, b1, b2, b3, b4, b5, b6, b7⟩ | hB2
  rotate_left
  · refine .inr (hB2.mv (.refl _) fun q hq ⟨es, clk, hk⟩ => hheap _ fun e => ?_)
    rw [e, hg] at hk; cases hk
  by_cases hgq : q.g = p.g
  · rw [hgq, hg] at b2
    injection b2 with b2
    injection b2 with k1 k2 k3
    subst k1; subst k2
    have hnm := hr.inj n m b bm p q hb hm hro hp b1 hgq.symm
    have hbm : bm = b := by
      subst hnm; rw [hb] at hm; injection hm with hm; exact hm.symm
    exact .inl ⟨q, cs, e, fz', b1, by rw [hgq]; exact h1, b3, b4, b5, b6, fun _ => by rw [hbm]; exact h2⟩
  · exact .inl ⟨q, c2, e2, f2, b1, by rw [hheap _ hgq]; exact b2, b3, b4, b5, b6, b7⟩

end GAb

set_option linter.unusedVariables false
set_option linter.unusedSimpArgs false
namespace GAb
open Go

/-! ### The types' table -/
def tsz (P : Program) (t : TypeId) : Option Nat := (P.info? t).map (·.size)
def tby (P : Program) (t : TypeId) : Option Nat := (P.info? t).map (·.bytes)
def tz (P : Program) (t : TypeId) : Option Value := (P.info? t).bind (·.zero)

section
variable {P : Program} {w : World}
theorem run_info {t : TypeId} {i : TypeInfo} (h : P.info? t = some i) : (typeInfo t).run P w = .ok i w := by simp [typeInfo, h]
theorem run_und {t : TypeId} {d : TypeDesc} (h : P.underlying t = some d) : (underlying t).run P w = .ok d w := by simp [underlying, h]
theorem run_size {t : TypeId} {k : Nat} (h : tsz P t = some k) : (Go.sizeOf t).run P w = .ok k w := by
  unfold tsz at h
  cases hi : P.info? t with
  | none => simp [hi] at h
  | some i => simp [hi] at h; simp [Go.sizeOf, run_info hi, h]
theorem run_bytes {t : TypeId} {k : Nat} (h : tby P t = some k) : ∃ i, (typeInfo t).run P w = .ok i w ∧ i.bytes = k := by
  unfold tby at h
  cases hi : P.info? t with
  | none => simp [hi] at h
  | some i => simp [hi] at h; exact ⟨i, run_info hi, h⟩
theorem run_zero {t : TypeId} {v : Value} (h : tz P t = some v) : (zeroValue t).run P w = .ok v w := by
  unfold tz at h
  cases hi : P.info? t with
  | none => simp [hi] at h
  | some i => simp [hi] at h; simp [zeroValue, run_info hi, h]
end

def agg? : TypeDesc → Bool
  | .struct _ | .array _ _ => true
  | _ => false
theorem run_isAgg {P : Program} {w : World} {t : TypeId} {d : TypeDesc} (h : P.underlying t = some d) : (isAgg t).run P w = .ok (agg? d) w := by
  simp only [isAgg, Sem.run_bind, run_und h, Result.andThen_ok]
  cases d <;> rfl

/-- The block that a place lies in. -/
def rdName : Value → Option Nat
  | .pointer (some ⟨n, _, _⟩) => some n
  | .slice (some ⟨n, _, _⟩) _ _ => some n
  | _ => none

/-! ### Load, store -/
def aLoad (P : Program) (t : TypeId) (v : Value) (σ : AState) : Option Value :=
  match v with
  | .pointer (some ⟨n, o, none⟩) =>
    match P.underlying t with
    | some d => if agg? d then
        match tsz P t with
        | some k => (rd σ n o k).map fun vs => .agg vs.toArray
        | none => none
      else match rd σ n o 1 with
        | some [x] => some x
        | _ => none
    | none => none
  | _ => none

theorem aLoad_sound {P : Program} {t : TypeId} {v r : Value} {σ : AState} (h : aLoad P t v σ = some r) {φ : Ren} {w : World} {u : Value} (hr : HRel φ σ w) (hv : VRel φ v u) :
    ∃ x, (∀ w2 : World, (∀ n p, rdName v = some n → φ n = some p → w2.heap[p.g]? = w.heap[p.g]?) → (Instr.loadAt t u).run P w2 = .ok x w2) ∧ VRel φ r x := by
  unfold aLoad at h
  split at h
  · rename_i n o
    cases hv with
    | @ptr _ p _ hp =>
    split at h
    · rename_i d hd
      split at h
      · rename_i ha
        split at h
        · rename_i k hk
          cases hrd : rd σ n o k with
          | none => simp [hrd] at h
          | some vs =>
            simp [hrd] at h
            subst h
            obtain ⟨us, h1, _, _, _, h4⟩ := rd_sound hr hrd hp
            refine ⟨.agg us.toArray, fun w2 hw2 => ?_, .agg' (by simpa [RRel] using h1)⟩
            simp [Instr.loadAt, Instr.sureAddr, loadVar, run_isAgg hd, ha, run_size hk, (h4 P w2 (hw2 _ _ rfl hp)).2]
        · cases h
      · rename_i ha
        split at h
        · rename_i x hrd
          injection h with h
          subst h
          obtain ⟨us, h1, h2, _, _, h3⟩ := rd_sound hr hrd hp
          cases h1 with
          | @cons _ y _ us' hx ht =>
            cases ht
            refine ⟨y, fun w2 hw2 => ?_, hx⟩
            have := (h3 P w2 (hw2 _ _ rfl hp)).1 0 y (by simp)
            simp only [Nat.add_zero] at this
            simp [Instr.loadAt, Instr.sureAddr, loadVar, run_isAgg hd, ha, this]
        · cases h
    · cases h
  · cases h

def aStore (P : Program) (t : TypeId) (v x : Value) (σ : AState) : Option (AState × Nat) :=
  match v with
  | .pointer (some ⟨n, o, none⟩) => if tsz P t = some x.cells.size then (wr σ n o x.cells.toList).map fun s => (s, n) else none
  | _ => none

theorem aStore_sound {P : Program} {t : TypeId} {v x : Value} {σ σ' : AState} {n : Nat} (h : aStore P t v x σ = some (σ', n)) {φ : Ren} {w : World} {u y : Value} (hr : HRel φ σ w) (hv : VRel φ v u) (hx : VRel φ x y) :
    ∃ w', (Instr.storeAt t u y).run P w = .ok () w' ∧ Goes (· = n) φ σ w φ σ' w' := by
  unfold aStore at h
  split at h
  · rename_i m o
    cases hv with
    | @ptr _ p _ hp =>
    split at h
    · rename_i hk
      cases hw : wr σ m o x.cells.toList with
      | none => simp [hw] at h
      | some s =>
        simp [hw] at h
        obtain ⟨rfl, rfl⟩ := h
        obtain ⟨w', h1, h2⟩ := wr_sound hr hw hp hx.cells
        refine ⟨w', ?_, h2⟩
        have hsz := hx.cells.size
        simp [Instr.storeAt, Instr.sureAddr, storeVar, run_size hk, ← hsz, h1 P]
    · cases h
  · cases h

/-! ### New variables -/
theorem flat_cells {φ : Ren} {vs : List Value} (h : vs.all flat = true) : LRel φ vs vs := by
  induction vs with
  | nil => exact .nil
  | cons v vs ih => simp only [List.all_cons, Bool.and_eq_true] at h; exact .cons (flat_rel h.1) (ih h.2)

def aAlloc (P : Program) (t : TypeId) (σ : AState) : Option (Value × AState) :=
  match tz P t with
  | some z => if z.cells.toList.all flat then some (.pointer (some ⟨σ.next, 0, none⟩), σ.alloc ⟨z.cells.toList, 0, false⟩) else none
  | none => none

theorem aAlloc_sound {P : Program} {t : TypeId} {v : Value} {σ σ' : AState} (h : aAlloc P t σ = some (v, σ')) {φ : Ren} {w : World} (hr : HRel φ σ w) (D : Nat → Prop) :
    ∃ φ' u w', (Instr.alloc t true (.tuple #[])).run P w = .ok u w' ∧ VRel φ' v u ∧ Goes D φ σ w φ' σ' w' := by
  unfold aAlloc at h
  split at h
  · rename_i z hz
    split at h
    · rename_i hf
      injection h with h
      injection h with h1 h2
      subst h1; subst h2
      have := alloc_sound hr (D := D) (vs := z.cells.toList) (us := z.cells) 0 t (by simp) (by rw [List.take_of_length_le (by simp)]; exact flat_cells hf)
      refine ⟨_, .pointer (some ⟨w.heap.size, 0, none⟩), _, ?_, ?_, this⟩
      · simp [Instr.alloc, run_zero hz, newVar, newRow]
      · exact .ptr (p := ⟨w.heap.size, 0, z.cells.size, 0⟩) 0 (by simp [Ren.up])
    · cases h
  · cases h

def aBox (v : Value) (σ : AState) : Value × AState := (.pointer (some ⟨σ.next, 0, none⟩), σ.alloc ⟨v.cells.toList, 0, false⟩)
theorem aBox_sound {P : Program} {t : TypeId} {v u : Value} {σ : AState} {φ : Ren} {w : World} (hr : HRel φ σ w) (hv : VRel φ v u) (D : Nat → Prop) :
    ∃ φ' x w', (Instr.box t u).run P w = .ok x w' ∧ VRel φ' (aBox v σ).1 x ∧ Goes D φ σ w φ' (aBox v σ).2 w' := by
  have hc := hv.cells
  have hs := hc.size
  have := alloc_sound hr (D := D) (vs := v.cells.toList) (us := u.cells) 0 t (by simp; omega) (by rw [List.take_of_length_le (by simp; omega)]; exact hc)
  refine ⟨_, .pointer (some ⟨w.heap.size, 0, none⟩), _, ?_, ?_, this⟩
  · simp [Instr.box, newVar, newRow]
  · exact .ptr (p := ⟨w.heap.size, 0, u.cells.size, 0⟩) 0 (by simp [Ren.up])

/-! ### Building values -/
theorem fold_rel {φ : Ren} (off : Nat) {xs ys : List Value} (h : LRel φ xs ys) : ∀ (k : Nat) (a b : Array Value), RRel φ a b →
    RRel φ ((xs.zipIdx k).foldl (fun cs (c : Value × Nat) => cs.setIfInBounds (off + c.2) c.1) a) ((ys.zipIdx k).foldl (fun cs (c : Value × Nat) => cs.setIfInBounds (off + c.2) c.1) b) := by
  induction h with
  | nil => intro k a b h; exact h
  | cons hx _ ih =>
    intro k a b h
    simp only [List.zipIdx_cons, List.foldl_cons]
    refine ih (k + 1) _ _ (RRel.of_at (by simpa using h.size) fun i h1 h2 => ?_)
    rw [Array.getElem_setIfInBounds (by simpa using h1), Array.getElem_setIfInBounds (by simpa using h2)]
    split
    · exact hx
    · exact h.at_ i (by simpa using h1) (by simpa using h2)

inductive PRel (φ : Ren) : List (Nat × Value) → List (Nat × Value) → Prop where
  | nil : PRel φ [] []
  | cons {i : Nat} {v u : Value} {vs us : List (Nat × Value)} : VRel φ v u → PRel φ vs us → PRel φ ((i, v) :: vs) ((i, u) :: us)

theorem fill_rel {φ : Ren} (place : Nat → Option (Nat × Nat)) : ∀ (ps qs : List (Nat × Value)) (a b c : Array Value), PRel φ ps qs → RRel φ a b → Instr.fill place a ps = some c →
    ∃ d, Instr.fill place b qs = some d ∧ RRel φ c d
  | _, _, a, b, c, .nil, h, e => by simp only [Instr.fill, Option.some.injEq] at e ⊢; subst e; exact ⟨b, rfl, h⟩
  | _, _, a, b, c, .cons (i := i) (v := v) (u := u) hv hp, h, e => by
    simp only [Instr.fill] at e ⊢
    cases hpl : place i with
    | none => simp [hpl] at e
    | some q =>
      obtain ⟨off, sz⟩ := q
      simp only [hpl] at e ⊢
      have h1 := hv.cells.size
      have h2 := h.size
      split at e
      · cases e
      · rename_i hc
        rw [if_neg (by rw [← h1, ← h2]; exact hc)]
        refine fill_rel place _ _ _ _ _ hp ?_ e
        have := fold_rel off hv.cells 0 a b h
        simpa only [← Array.foldl_toList, Array.toList_zipIdx] using this

def mapSizes (P : Program) : List Field → Option (List (Nat × Nat))
  | [] => some []
  | f :: fs => match tsz P f.type, mapSizes P fs with
    | some k, some l => some ((f.offset, k) :: l)
    | _, _ => none
theorem run_mapSizes {P : Program} {w : World} : ∀ (fs : List Field) (l : List (Nat × Nat)), mapSizes P fs = some l →
    (fs.mapM (m := Sem) fun f => do pure (f.offset, ← Go.sizeOf f.type)).run P w = .ok l w
  | [], l, h => by simp only [mapSizes, Option.some.injEq] at h; subst h; rfl
  | f :: fs, l, h => by
    simp only [mapSizes] at h
    split at h
    · rename_i k l' h1 h2
      injection h with h
      subst h
      rw [List.mapM_cons]
      simp only [Sem.run_bind, run_size h1, Result.andThen_ok, Sem.run_pure]
      rw [run_mapSizes fs l' h2]
      rfl
    · cases h

def aBuild (P : Program) (t : TypeId) (parts : List (Nat × Value)) : Option Value :=
  match tz P t, P.underlying t with
  | some z, some (.struct fields) =>
    if z.cells.toList.all flat then
      match mapSizes P fields.toList with
      | some places => (Instr.fill (places.toArray[·]?) z.cells parts).map .agg
      | none => none
    else none
  | some z, some (.array _ elem) =>
    if z.cells.toList.all flat then
      match tsz P elem with
      | some k => (Instr.fill (fun i => some (i * k, k)) z.cells parts).map .agg
      | none => none
    else none
  | _, _ => none

theorem aBuild_sound {P : Program} {t : TypeId} {ps qs : List (Nat × Value)} {v : Value} (h : aBuild P t ps = some v) {φ : Ren} (hp : PRel φ ps qs) :
    ∃ u, (∀ w : World, (Instr.build t qs.toArray).run P w = .ok u w) ∧ VRel φ v u := by
  unfold aBuild at h
  split at h
  · rename_i z fields hz hu
    split at h
    · rename_i hf
      split at h
      · rename_i places hpl
        cases hfill : Instr.fill (places.toArray[·]?) z.cells ps with
        | none => rw [hfill] at h; cases h
        | some c =>
          rw [hfill, Option.map_some] at h
          injection h with h
          subst h
          obtain ⟨d, h1, h2⟩ := fill_rel (φ := φ) _ _ _ _ _ _ hp (show RRel φ z.cells z.cells from flat_cells hf) hfill
          refine ⟨.agg d, fun w => ?_, .agg' h2⟩
          have hm : (fields.mapM (m := Sem) fun f => do pure (f.offset, ← Go.sizeOf f.type)).run P w = .ok places.toArray w := by
            rw [Array.mapM_eq_mapM_toList]
            simp only [Sem.run_map, run_mapSizes _ _ hpl, Result.andThen_ok]
          simp only [Instr.build, Sem.run_bind, Sem.run_map, run_zero hz, run_und hu, Result.andThen_ok]
          rw [hm]
          simp only [Result.andThen_ok, h1, Sem.run_pure]
      · cases h
    · cases h
  · rename_i z n elem hz hu
    split at h
    · rename_i hf
      split at h
      · rename_i k hk
        cases hfill : Instr.fill (fun i => some (i * k, k)) z.cells ps with
        | none => rw [hfill] at h; cases h
        | some c =>
          rw [hfill, Option.map_some] at h
          injection h with h
          subst h
          obtain ⟨d, h1, h2⟩ := fill_rel (φ := φ) _ _ _ _ _ _ hp (show RRel φ z.cells z.cells from flat_cells hf) hfill
          refine ⟨.agg d, fun w => ?_, .agg' h2⟩
          simp [Instr.build, run_zero hz, run_und hu, run_size hk, h1]
      · cases h
    · cases h
  · cases h

/-- So many zero values side by side. -/
def zrow (z : List Value) : Nat → List Value
  | 0 => []
  | n + 1 => z ++ zrow z n
theorem zrow_length (z : List Value) : ∀ n, (zrow z n).length = n * z.length
  | 0 => by simp [zrow]
  | n + 1 => by simp [zrow, zrow_length z n, Nat.succ_mul]; omega
theorem zrow_get (z : List Value) : ∀ (n i : Nat), i < n * z.length → (zrow z n)[i]? = z[i % z.length]?
  | 0, i, h => by simp at h
  | n + 1, i, h => by
    simp only [zrow, List.getElem?_append]
    split
    · rename_i hi; rw [Nat.mod_eq_of_lt hi]
    · rename_i hi
      have hz : 0 < z.length := by
        rcases Nat.eq_zero_or_pos z.length with e | e
        · rw [e] at h; simp at h
        · exact e
      rw [zrow_get z n (i - z.length) (by rw [Nat.add_mul, Nat.one_mul] at h; omega), ← Nat.mod_eq_sub_mod (by omega)]
theorem zrow_one (v : Value) : ∀ n, zrow [v] n = List.replicate n v
  | 0 => rfl
  | n + 1 => by simp [zrow, zrow_one v n, List.replicate_succ]
theorem zrow_flat {z : List Value} (h : z.all flat = true) : ∀ n, (zrow z n).all flat = true
  | 0 => rfl
  | n + 1 => by simp [zrow, h, zrow_flat h n]
theorem zrow_eq (z : Array Value) (n m : Nat) (hm : m = n * z.size) : ((Array.range m).map fun i => z[i % z.size]!) = (zrow z.toList n).toArray := by
  subst hm
  apply Array.ext'
  apply List.ext_getElem?
  intro i
  simp only [Array.toList_map, Array.toList_range, List.getElem?_map, List.toList_toArray]
  by_cases hi : i < n * z.size
  · have hz : 0 < z.size := by
      rcases Nat.eq_zero_or_pos z.size with e | e
      · rw [e] at hi; simp at hi
      · exact e
    have hlt := Nat.mod_lt i hz
    rw [zrow_get z.toList n i (by simpa using hi), List.getElem?_range hi]
    simp [hlt]
  · rw [List.getElem?_eq_none (by simp; omega), List.getElem?_eq_none (by rw [zrow_length]; simp; omega)]
    rfl

end GAb

set_option linter.unusedVariables false
set_option linter.unusedSimpArgs false
namespace GAb
open Go

/-! ### A slice written out, make -/
def aBuildSlice (P : Program) (t : TypeId) (len : Nat) (parts : List (Nat × Value)) (σ : AState) : Option (Value × AState) :=
  match P.underlying t with
  | some (.slice elem) =>
    match tsz P elem, tz P elem with
    | some k, some z =>
      if len * k ≤ 2 ^ 24 ∧ z.cells.toList.all flat = true ∧ z.cells.size = k then
        (Instr.fill (fun i => some (i * k, k)) (zrow z.cells.toList len).toArray parts).map fun c => (.slice (some ⟨σ.next, 0, some 0⟩) len len, σ.alloc ⟨c.toList, k, false⟩)
      else none
    | _, _ => none
  | _ => none

theorem aBuildSlice_sound {P : Program} {t : TypeId} {len : Nat} {ps qs : List (Nat × Value)} {v : Value} {σ σ' : AState} (h : aBuildSlice P t len ps σ = some (v, σ')) {φ : Ren} {w : World} (hr : HRel φ σ w) (hp : PRel φ ps qs) (D : Nat → Prop) :
    ∃ φ' u w', (Instr.buildSlice t len qs.toArray).run P w = .ok u w' ∧ VRel φ' v u ∧ Goes D φ σ w φ' σ' w' := by
  unfold aBuildSlice at h
  split at h
  · rename_i elem hu
    split at h
    · rename_i k z hk hz
      split at h
      · rename_i hc
        obtain ⟨hlim, hf, hzk⟩ := hc
        cases hfill : Instr.fill (fun i => some (i * k, k)) (zrow z.cells.toList len).toArray ps with
        | none => rw [hfill] at h; cases h
        | some c =>
          rw [hfill, Option.map_some] at h
          injection h with h
          injection h with e1 e2
          subst e1; subst e2
          obtain ⟨d, h1, h2⟩ := fill_rel (φ := φ) _ _ _ _ _ _ hp (show RRel φ (zrow z.cells.toList len).toArray (zrow z.cells.toList len).toArray from flat_cells (zrow_flat hf len)) hfill
          have hs := h2.size
          have := alloc_sound hr (D := D) (vs := c.toList) (us := d) k elem (by simp; omega) (by rw [List.take_of_length_le (by simp; omega)]; exact h2)
          refine ⟨_, .slice (some ⟨w.heap.size, 0, none⟩) len len, _, ?_, ?_, this⟩
          · simp only [Instr.buildSlice, Sem.run_bind, run_und hu, run_size hk, Result.andThen_ok]
            rw [if_neg (by omega)]
            by_cases h0 : len * k = 0
            · have hz0 : zrow z.cells.toList len = [] := List.eq_nil_of_length_eq_zero (by rw [zrow_length]; simp [hzk, h0])
              rw [hz0] at h1
              have hr0 : ∀ f : Nat → Value, (Array.range (len * k)).map f = #[] := fun f => by rw [h0]; simp
              simp only [if_pos h0, Sem.run_bind, Sem.run_pure, Result.andThen_ok, hr0]
              rw [h1]
              simp [newRow]
            · rw [if_neg h0]
              simp only [Sem.run_bind, Sem.run_pure, Result.andThen_ok, run_zero hz]
              rw [zrow_eq z.cells len (len * k) (by rw [hzk]), h1]
              simp [newRow]
          · exact .sliceX (p := ⟨w.heap.size, 0, d.size, k⟩) (by simp [Ren.up])
      · cases h
    · cases h
  · cases h

def aMake (P : Program) (t : TypeId) (l c : Value) (σ : AState) : Option (Value × AState) :=
  match P.underlying t, l, c with
  | some (.slice elem), .int _ ln, .int _ cn =>
    match tsz P elem, tz P elem, tby P elem with
    | some k, some z, some by_ =>
      if 0 ≤ ln ∧ ln ≤ cn ∧ cn ≤ 9223372036854775807 ∧ (by_ : Int) * cn ≤ 2 ^ 48 ∧ z.cells.toList.all flat = true ∧ z.cells.size = k then
        some (.slice (some ⟨σ.next, 0, some 0⟩) ln.toNat cn.toNat, σ.alloc ⟨zrow z.cells.toList cn.toNat, k, false⟩)
      else none
    | _, _, _ => none
  | _, _, _ => none

theorem wrap_i64 {x : Int} (h0 : 0 ≤ x) (h1 : x ≤ 9223372036854775807) : IntKind.i64.wrap x = x := by
  simp only [IntKind.wrap, IntKind.bits, IntKind.signed]
  simp
  omega

theorem aMake_sound {P : Program} {t : TypeId} {l c v : Value} {σ σ' : AState} (h : aMake P t l c σ = some (v, σ')) {φ : Ren} {w : World} (hr : HRel φ σ w) (D : Nat → Prop) :
    ∃ φ' u w', (Instr.makeSlice t l c).run P w = .ok u w' ∧ VRel φ' v u ∧ Goes D φ σ w φ' σ' w' := by
  unfold aMake at h
  split at h
  · rename_i elem k1 ln k2 cn hu
    split at h
    · rename_i k z b hk hz hb
      split at h
      · rename_i hc
        obtain ⟨h0, h1, h2, h3, hf, hzk⟩ := hc
        injection h with h
        injection h with e1 e2
        subst e1; subst e2
        obtain ⟨i, hi, hib⟩ := run_bytes (w := w) hb
        have hw1 := wrap_i64 h0 (by omega)
        have hw2 := wrap_i64 (by omega) h2
        have := alloc_sound hr (D := D) (vs := zrow z.cells.toList cn.toNat) (us := (zrow z.cells.toList cn.toNat).toArray) k elem (by simp) (by rw [List.take_of_length_le (by simp)]; exact flat_cells (zrow_flat hf _))
        refine ⟨_, .slice (some ⟨w.heap.size, 0, none⟩) ln.toNat cn.toNat, _, ?_, ?_, this⟩
        · have ht : (decide (cn < 0) || decide ((i.bytes : Int) * cn > 2 ^ 48)) = false := by
            rw [hib]
            simp only [Bool.or_eq_false_iff, decide_eq_false_iff_not]
            omega
          simp only [Instr.makeSlice, Sem.run_bind, run_und hu, Result.andThen_ok, asInt, asIntOf, Sem.run_pure, hi, hw1, hw2, ht]
          rw [if_neg (by simp; omega)]
          simp only [Sem.run_bind, run_askRoom, run_size hk, Result.andThen_ok]
          by_cases h0 : cn.toNat * k = 0
          · have hz0 : zrow z.cells.toList cn.toNat = [] := List.eq_nil_of_length_eq_zero (by rw [zrow_length]; simp [hzk, h0])
            have hr0 : ∀ f : Nat → Value, (Array.range (cn.toNat * k)).map f = #[] := fun f => by rw [h0]; simp
            simp only [if_pos h0, Sem.run_bind, Sem.run_pure, Result.andThen_ok, hr0, hz0]
            simp [newRow]
          · rw [if_neg h0]
            simp only [Sem.run_bind, Sem.run_pure, Result.andThen_ok, run_zero hz]
            rw [zrow_eq z.cells cn.toNat (cn.toNat * k) (by rw [hzk])]
            simp [newRow]
        · exact .sliceX (p := ⟨w.heap.size, 0, (zrow z.cells.toList cn.toNat).toArray.size, k⟩) (by simp [Ren.up])
      · cases h
    · cases h
  · cases h

/-! ### Slices of slices -/
def bnd (x : Option Value) (d : Nat) : Option Nat :=
  match x with
  | none => some d
  | some (.int _ i) => if 0 ≤ i then some i.toNat else none
  | some _ => none

def aSlice (P : Program) (t : TypeId) (x : Value) (lo hi mx : Option Value) (σ : AState) : Option Value :=
  match P.underlying t, x with
  | some (.slice elem), .slice none 0 0 =>
    match bnd lo 0, bnd hi 0, bnd mx 0 with
    | some 0, some 0, some 0 => if mx.isSome ∧ hi.isNone then none else (tsz P elem).map fun _ => .slice none 0 0
    | _, _, _ => none
  | some (.slice elem), .slice (some ⟨n, o, ex⟩) len cap =>
    match bnd lo 0, bnd hi len, bnd mx cap, tsz P elem with
    | some l, some h, some m, some k =>
      if l ≤ h ∧ h ≤ m ∧ m ≤ cap then
        match mx, ex with
        | none, none => match σ.get n with
          | some b => if b.es = k then some (.slice (some ⟨n, o + l * k, none⟩) (h - l) (cap - l)) else none
          | none => none
        | none, some 0 => some (.slice (some ⟨n, o + l * k, some 0⟩) (h - l) (cap - l))
        | some _, _ => if hi.isSome then some (.slice (some ⟨n, o + l * k, some 0⟩) (h - l) (m - l)) else none
        | _, _ => none
      else none
    | _, _, _, _ => none
  | _, _ => none

theorem run_sliceBound {P : Program} {w : World} {k : IntKind} {i : Int} {y : Nat} {code : BoundsCode} (h : 0 ≤ i) (h1 : i.toNat ≤ y) : (Instr.sliceBound (.int k i) y code).run P w = .ok i.toNat w := by
  simp only [Instr.sliceBound, asIntOf, Sem.run_bind, Sem.run_pure, Result.andThen_ok]
  rw [if_pos (by omega)]
  rfl

theorem run_bounds {P : Program} {w : World} {len cap cap' l h m : Nat} {lo hi mx : Option Value} (hl : bnd lo 0 = some l) (hh : bnd hi len = some h) (hm : bnd mx cap' = some m) (h1 : l ≤ h) (h2 : h ≤ m) (h3 : m ≤ cap') (hx : mx.isSome → hi.isSome) :
    (Instr.sliceBounds true len cap' lo hi mx).run P w = .ok (l, h, m) w := by
  have low : ∀ code, (match lo with | some v => Instr.sliceBound v h code | none => pure 0 : Sem Nat).run P w = .ok l w := fun code => by
    unfold bnd at hl
    split at hl
    · injection hl with hl; subst hl; rfl
    · split at hl
      · injection hl with hl; subst hl; exact run_sliceBound (by assumption) h1
      · cases hl
    · cases hl
  have high : ∀ (code : BoundsCode) (y : Nat), h ≤ y → ∀ v, hi = some v → (Instr.sliceBound v y code).run P w = .ok h w := fun code y hy v hv => by
    subst hv
    unfold bnd at hh
    split at hh
    · contradiction
    · rename_i i e
      injection e with e
      subst e
      split at hh
      · injection hh with hh; subst hh; exact run_sliceBound (by assumption) hy
      · cases hh
    · cases hh
  cases mx with
  | none =>
    simp only [bnd, Option.some.injEq] at hm
    subst hm
    cases hi with
    | none =>
      simp only [bnd, Option.some.injEq] at hh
      subst hh
      simp only [Instr.sliceBounds, Sem.run_bind, Sem.run_pure, Result.andThen_ok]
      have := low .sliceB
      cases lo <;> simp_all
    | some v =>
      have hv := high .sliceAcap cap' h2 v rfl
      simp only [Instr.sliceBounds, Sem.run_bind, Sem.run_pure, Result.andThen_ok, if_true, hv]
      have := low .sliceB
      cases lo <;> simp_all
  | some x =>
    cases hi with
    | none => simp at hx
    | some v =>
      have hv := high .slice3B m h2 v rfl
      have hm' : (Instr.sliceBound x cap' .slice3Acap).run P w = .ok m w := by
        unfold bnd at hm
        split at hm
        · contradiction
        · rename_i i e
          injection e with e
          subst e
          split at hm
          · injection hm with hm; subst hm; exact run_sliceBound (by assumption) h3
          · cases hm
        · cases hm
      simp only [Instr.sliceBounds, Sem.run_bind, Sem.run_pure, Result.andThen_ok, if_true, hv, hm']
      have := low .slice3C
      cases lo <;> simp_all

theorem aSlice_sound {P : Program} {t : TypeId} {x v : Value} {lo hi mx : Option Value} {σ : AState} (h : aSlice P t x lo hi mx σ = some v) {φ : Ren} {w : World} {u : Value} (hr : HRel φ σ w) (hx : VRel φ x u) :
    ∃ y, (∀ w : World, (Instr.sliceAt t u lo hi mx).run P w = .ok y w) ∧ VRel φ v y := by
  unfold aSlice at h
  split at h
  · rename_i elem hu
    split at h
    · rename_i h1 h2 h3
      split at h
      · cases h
      · rename_i hnot
        cases hk : tsz P elem with
        | none => rw [hk] at h; cases h
        | some k =>
          rw [hk] at h
          injection h with h
          subst h
          cases hx
          refine ⟨.slice none 0 0, fun w => ?_, .sliceNone⟩
          have := run_bounds (P := P) (w := w) (len := 0) (cap := 0) (cap' := 0) h1 h2 h3 (by omega) (by omega) (by omega) (fun hm => by cases hi <;> simp_all)
          simp only [Instr.sliceAt, Instr.slice, Sem.run_bind, run_und hu, Result.andThen_ok, this, run_size hk]
          simp
    · cases h
  · rename_i elem n o ex len cap hu
    split at h
    · rename_i l hh m k h1 h2 h3 hk
      split at h
      · rename_i hc
        obtain ⟨c1, c2, c3⟩ := hc
        -- what the machine's slice is
        have key : ∀ (cap' m' : Nat) (a' : Addr), bnd mx cap' = some m' → hh ≤ m' → m' ≤ cap' → (mx.isSome → hi.isSome) →
            ∀ w : World, (Instr.sliceAt t (.slice (some a') len cap') lo hi mx).run P w = .ok (.slice (some (if m' = l then a' else a'.add (l * k))) (hh - l) (m' - l)) w := by
          intro cap' m' a' e1 e2 e3 e4 w
          have := run_bounds (P := P) (w := w) (len := len) (cap := cap) h1 h2 e1 c1 e2 e3 e4
          simp only [Instr.sliceAt, Instr.slice, Sem.run_bind, run_und hu, Result.andThen_ok, this, run_size hk, Sem.run_pure]
          by_cases hml : m' = l
          · simp [hml]
          · simp [hml]
        cases mx with
        | none =>
          simp only [bnd, Option.some.injEq] at h3
          subst h3
          cases ex with
          | none =>
            simp only at h
            split at h
            · rename_i b hb
              split at h
              · rename_i hes
                injection h with h
                subst h
                cases hx with
                | @slice _ _ _ _ cap' p hp hcap hbd =>
                  refine ⟨_, key cap' cap' _ rfl (by omega) (by omega) (by simp), ?_⟩
                  obtain ⟨q, cs, e, fz, hq, hg, hsz, hpe, _⟩ := hr.cel hb hp (by omega)
                  rw [hp] at hq; injection hq with hq; subst hq
                  by_cases hl : cap' = l
                  · rw [if_pos hl, show hh - l = 0 by omega, show cap' - l = 0 by omega, show cap - l = 0 by omega]
                    exact .sliceE _ _
                  · rw [if_neg hl, add_plain, Nat.add_assoc]
                    refine .slice hp (by omega) ?_
                    have : (cap' - l) * p.es + l * k = cap' * p.es := by
                      rw [hpe, hes, ← Nat.add_mul]; congr 1; omega
                    omega
                | sliceE _ a' =>
                  refine ⟨_, key 0 0 a' rfl (by omega) (by omega) (by simp), ?_⟩
                  rw [show hh - l = 0 by omega, show 0 - l = 0 by omega]
                  exact .sliceE _ _
              · cases h
            · cases h
          | some s =>
            cases s with
            | succ s => simp at h
            | zero =>
              simp only [Option.some.injEq] at h
              subst h
              cases hx with
              | @sliceX _ _ _ _ p hp =>
                refine ⟨_, key cap cap _ rfl (by omega) (by omega) (by simp), ?_⟩
                by_cases hl : cap = l
                · rw [if_pos hl, show hh - l = 0 by omega, show cap - l = 0 by omega]
                  exact .sliceE _ _
                · rw [if_neg hl, add_plain, Nat.add_assoc]
                  exact .sliceX hp
              | sliceE _ a' =>
                refine ⟨_, key 0 0 a' rfl (by omega) (by omega) (by simp), ?_⟩
                rw [show hh - l = 0 by omega, show 0 - l = 0 by omega]
                exact .sliceE _ _
        | some xm =>
          have hhi : hi.isSome = true := by
            cases ex <;> simp at h <;> exact h.1
          have hv : v = .slice (some ⟨n, o + l * k, some 0⟩) (hh - l) (m - l) := by
            cases ex <;> simp at h <;> exact h.2.symm
          subst hv
          have hmb : ∀ c, bnd (some xm) c = some m := fun c => by
            cases xm <;> exact h3
          cases hx with
          | @slice _ _ _ _ cap' p hp hcap hbd =>
            refine ⟨_, key cap' m _ (hmb _) c2 (by omega) (fun _ => hhi), ?_⟩
            by_cases hl : m = l
            · rw [if_pos hl, show hh - l = 0 by omega, show m - l = 0 by omega]
              exact .sliceE _ _
            · rw [if_neg hl, add_plain, Nat.add_assoc]
              exact .sliceX hp
          | @sliceX _ _ _ _ p hp =>
            refine ⟨_, key cap m _ (hmb _) c2 (by omega) (fun _ => hhi), ?_⟩
            by_cases hl : m = l
            · rw [if_pos hl, show hh - l = 0 by omega, show m - l = 0 by omega]
              exact .sliceE _ _
            · rw [if_neg hl, add_plain, Nat.add_assoc]
              exact .sliceX hp
          | sliceE _ a' =>
            refine ⟨_, key 0 m a' (hmb _) c2 (by omega) (fun _ => hhi), ?_⟩
            rw [show hh - l = 0 by omega, show m - l = 0 by omega]
            exact .sliceE _ _
      · cases h
    · cases h
  · cases h

/-! ### Addresses of parts -/
def aFieldAddr (P : Program) (s : TypeId) (x : Value) (f : Nat) : Option Value :=
  match P.underlying s, x with
  | some (.struct fields), .pointer (some ⟨n, o, none⟩) =>
    match fields[f]? with
    | some fl => match tsz P fl.type with
      | some (_ + 1) => some (.pointer (some ⟨n, o + fl.offset, none⟩))
      | _ => none
    | none => none
  | _, _ => none

theorem aFieldAddr_sound {P : Program} {s : TypeId} {x v : Value} {f : Nat} (h : aFieldAddr P s x f = some v) {φ : Ren} {u : Value} (hx : VRel φ x u) :
    ∃ y, (∀ w : World, (Instr.fieldAt s u f).run P w = .ok y w) ∧ VRel φ v y := by
  unfold aFieldAddr at h
  split at h
  · rename_i fields n o hu
    split at h
    · rename_i fl hfl
      split at h
      · rename_i k hk
        injection h with h
        subst h
        cases hx with
        | @ptr _ p _ hp =>
        refine ⟨.pointer (some ⟨p.g, p.o + (o + fl.offset), none⟩), fun w => ?_, .ptr _ hp⟩
        simp only [Instr.fieldAt, Sem.run_bind, run_und hu, Result.andThen_ok, hfl, Instr.sureAddr, Sem.run_pure, fieldPlace, run_size hk]
        rw [if_neg (by omega), add_plain]
        simp [Nat.add_assoc]
      · cases h
    · cases h
  · cases h

def aIndexAddr (P : Program) (t : TypeId) (x ix : Value) : Option Value :=
  match P.underlying t, x, ix with
  | some (.slice elem), .slice (some ⟨n, o, _⟩) len _, .int _ i =>
    if 0 ≤ i ∧ i < len then (tsz P elem).map fun k => .pointer (some ⟨n, o + i.toNat * k, none⟩) else none
  | some (.array len elem), .pointer (some ⟨n, o, none⟩), .int _ i =>
    if 0 ≤ i ∧ i < len then (tsz P elem).map fun k => .pointer (some ⟨n, o + i.toNat * k, none⟩) else none
  | _, _, _ => none

theorem aIndexAddr_sound {P : Program} {t : TypeId} {x ix v : Value} (h : aIndexAddr P t x ix = some v) {φ : Ren} {u y : Value} (hx : VRel φ x u) (hi : VRel φ ix y) :
    ∃ z, (∀ w : World, (Instr.indexAt t u y).run P w = .ok z w) ∧ VRel φ v z := by
  unfold aIndexAddr at h
  split at h
  · rename_i elem n o _ len _ _ i hu
    split at h
    · rename_i hb
      cases hi
      cases hk : tsz P elem with
      | none => rw [hk] at h; cases h
      | some k =>
        rw [hk, Option.map_some] at h
        injection h with h
        subst h
        have run : ∀ (g x' c : Nat) (w : World), (Instr.indexAt t (.slice (some ⟨g, x', none⟩) len c) (.int ‹_› i)).run P w = .ok (.pointer (some ⟨g, x' + i.toNat * k, none⟩)) w := fun g x' c w => by
          simp only [Instr.indexAt, asIntOf, Sem.run_bind, Sem.run_pure, Result.andThen_ok, run_und hu]
          rw [if_pos hb]
          simp only [Sem.run_bind, run_size hk, Result.andThen_ok, Sem.run_pure, add_plain]
        cases hx with
        | @slice _ _ _ _ c' p hp _ _ => exact ⟨_, run _ _ _, by rw [Nat.add_assoc]; exact .ptr _ hp⟩
        | @sliceX _ _ _ _ p hp => exact ⟨_, run _ _ _, by rw [Nat.add_assoc]; exact .ptr _ hp⟩
        | sliceE _ a' => simp at hb; omega
    · cases h
  · rename_i len elem n o _ i hu
    split at h
    · rename_i hb
      cases hi
      cases hk : tsz P elem with
      | none => rw [hk] at h; cases h
      | some k =>
        rw [hk, Option.map_some] at h
        injection h with h
        subst h
        cases hx with
        | @ptr _ p _ hp =>
          refine ⟨.pointer (some ⟨p.g, p.o + (o + i.toNat * k), none⟩), fun w => ?_, .ptr _ hp⟩
          simp only [Instr.indexAt, Instr.sureAddr, asIntOf, Sem.run_bind, Sem.run_pure, Result.andThen_ok, run_und hu]
          rw [if_pos hb]
          simp only [Sem.run_bind, run_size hk, Result.andThen_ok, Sem.run_pure, add_plain, Nat.add_assoc]
    · cases h
  · cases h

/-! ### Parts of values -/
def aExtract (x : Value) (i : Nat) : Option Value :=
  match x with
  | .tuple vs => vs[i]?
  | _ => none
theorem aExtract_sound {P : Program} {x v : Value} {i : Nat} (h : aExtract x i = some v) {φ : Ren} {u : Value} (hx : VRel φ x u) : ∃ y, (∀ w : World, (Instr.extract u i).run P w = .ok y w) ∧ VRel φ v y := by
  unfold aExtract at h
  split at h
  · obtain ⟨us, rfl, hr⟩ := hx.tuple_inv
    obtain ⟨y, h1, h2⟩ := LRel.get hr i v (by simpa using h)
    exact ⟨y, fun w => by simp at h1; simp [Instr.extract, h1], h2⟩
  · cases h

def aField (P : Program) (t : TypeId) (x : Value) (f : Nat) : Option Value :=
  match P.underlying t, x with
  | some (.struct fields), .agg cs =>
    match fields[f]? with
    | some fl => match P.underlying fl.type with
      | some d => if agg? d then (tsz P fl.type).map fun k => .agg (cs.extract fl.offset (fl.offset + k)) else cs[fl.offset]?
      | none => none
    | none => none
  | _, _ => none
theorem aField_sound {P : Program} {t : TypeId} {x v : Value} {f : Nat} (h : aField P t x f = some v) {φ : Ren} {u : Value} (hx : VRel φ x u) : ∃ y, (∀ w : World, (Instr.field t u f).run P w = .ok y w) ∧ VRel φ v y := by
  unfold aField at h
  split at h
  · rename_i fields cs hu
    obtain ⟨us, rfl, hr⟩ := hx.agg_inv
    split at h
    · rename_i fl hfl
      split at h
      · rename_i d hd
        split at h
        · rename_i ha
          cases hk : tsz P fl.type with
          | none => rw [hk] at h; cases h
          | some k =>
            rw [hk, Option.map_some] at h
            injection h with h
            subst h
            refine ⟨.agg (us.extract fl.offset (fl.offset + k)), fun w => ?_, .agg' ?_⟩
            · simp [Instr.field, run_und hu, hfl, asAgg, part, run_isAgg hd, ha, run_size hk]
            · unfold RRel
              simp only [Array.toList_extract, List.extract_eq_take_drop]
              exact (LRel.drop hr _).take _
        · rename_i ha
          obtain ⟨y, h1, h2⟩ := LRel.get hr fl.offset v (by simpa using h)
          refine ⟨y, fun w => ?_, h2⟩
          simp at h1
          simp [Instr.field, run_und hu, hfl, asAgg, part, run_isAgg hd, ha, h1]
      · cases h
    · cases h
  · cases h

end GAb

set_option linter.unusedVariables false
set_option linter.unusedSimpArgs false
namespace GAb
open Go

/-! ### The first cells of a slice or a string -/
def byte (b : UInt8) : Value := .int .u8 b.toNat
def aLen : Value → Option Nat
  | .slice _ n _ => some n
  | .string s => some s.size
  | _ => none
def aCells (σ : AState) (k n : Nat) : Value → Option (List Value)
  | .slice (some ⟨m, o, _⟩) len _ => if n ≤ len then (if n * k = 0 then some [] else rd σ m o (n * k)) else none
  | .slice none 0 0 => if n = 0 then some [] else none
  | .string s => if n ≤ s.size then (if k = 1 then some ((s.data.toList.take n).map byte) else none) else none
  | _ => none

theorem aLen_sound {P : Program} {w : World} {φ : Ren} {v u : Value} {n : Nat} (h : aLen v = some n) (hv : VRel φ v u) : (Builtin.lenOf u).run P w = .ok n w := by
  unfold aLen at h
  split at h
  · injection h with h; subst h; cases hv <;> rfl
  · injection h with h; subst h; cases hv; rfl
  · cases h

theorem rd_length {σ : AState} {n o k : Nat} {vs : List Value} (h : rd σ n o k = some vs) : vs.length = k := by
  unfold rd at h
  split at h
  · split at h
    · injection h with h; subst h; simp; omega
    · cases h
  · cases h
theorem bytes_flat (l : List UInt8) : (l.map byte).all flat = true := by
  induction l with
  | nil => rfl
  | cons b l ih => rw [List.map_cons, List.all_cons, ih]; rfl
theorem aCells_length {σ : AState} {k n : Nat} {v : Value} {vs : List Value} (h : aCells σ k n v = some vs) : vs.length = n * k := by
  unfold aCells at h
  split at h
  · split at h
    · split at h
      · rename_i h0
        injection h with h; subst h; rw [h0]; rfl
      · exact rd_length h
    · cases h
  · split at h
    · rename_i h0
      injection h with h; subst h; rw [h0, Nat.zero_mul]; rfl
    · cases h
  · split at h
    · split at h
      · rename_i s hn hk
        injection h with h; subst h; subst hk
        rw [List.length_map, List.length_take, Array.length_toList, Nat.mul_one]
        exact Nat.min_eq_left hn
      · cases h
    · cases h
  · cases h

theorem aCells_sound {σ : AState} {k n : Nat} {v u : Value} {vs : List Value} (h : aCells σ k n v = some vs) {φ : Ren} {w : World} (hr : HRel φ σ w) (hv : VRel φ v u) :
    ∃ us : List Value, LRel φ vs us ∧ ∀ (P : Program) (d : Nat), (Builtin.firstCells k n u).run P { w with drawn := d } = .ok us.toArray { w with drawn := d } := by
  unfold aCells at h
  split at h
  · rename_i m o ex len cap
    split at h
    · rename_i hn
      split at h
      · rename_i h0
        injection h with h
        subst h
        refine ⟨[], .nil, fun P d => ?_⟩
        cases hv <;> (simp only [Builtin.firstCells, h0]; rfl)
      · rename_i h0
        cases hv with
        | @slice _ _ _ _ c' p hp _ _ =>
          obtain ⟨us, h1, _, _, _, h4⟩ := rd_sound hr h hp
          exact ⟨us, h1, fun P d => (h4 P { w with drawn := d } rfl).2⟩
        | @sliceX _ _ _ _ p hp =>
          obtain ⟨us, h1, _, _, _, h4⟩ := rd_sound hr h hp
          exact ⟨us, h1, fun P d => (h4 P { w with drawn := d } rfl).2⟩
        | sliceE _ a' =>
          have : n = 0 := by omega
          subst this
          simp at h0
    · cases h
  · split at h
    · injection h with h
      subst h
      cases hv
      exact ⟨[], .nil, fun P d => rfl⟩
    · cases h
  · split at h
    · rename_i s hn
      split at h
      · injection h with h
        subst h
        cases hv
        refine ⟨_, flat_cells (vs := (s.data.toList.take n).map byte) (bytes_flat _), fun P d => ?_⟩
        simp only [Builtin.firstCells, Sem.run_pure]
        congr 1
        apply Array.ext'
        simp only [ByteArray.data_extract, Array.toList_map, Array.toList_extract, List.extract_eq_take_drop, List.drop_zero, Nat.sub_zero]
        rfl
      · cases h
    · cases h
  · cases h

/-! ### append -/
def appTail (elem : TypeId) (size sLen sCap n : Nat) (zeros : Bool) (base : Option Addr) (s x : Value) (appended : Sem (Array Value)) : Sem Value := do
  let need := sLen + n
  if need ≤ sCap then
    let new ← appended
    if let some a := base then storeCells (a.add (sLen * size)) new.toList
    pure (.slice base need sCap)
  else
  if (need : Int) > IntKind.i64.max ∧ (zeros ∨ (← typeInfo elem).bytes = 0) then runtimePanic (.error "growslice: len out of range")
  if Builtin.nextslicecap need sCap * (← typeInfo elem).bytes > 2 ^ 48 then (if zeros then runtimePanic (.error "growslice: len out of range") else do
    if !(← Builtin.mayShare size sLen n base x) then mark .noRoom
    unsupported (.resourceLimit "append: a slice or a string whose bytes no memory bears"))
  let newCap ← choose (.appendCap need sCap elem)
  askRoom (newCap * (← typeInfo elem).bytes)
  let old ← Builtin.firstCells size sLen s
  let new ← appended
  let rest := Builtin.zeroCells (← zeroValue elem).cells (newCap - need)
  pure (.slice (some (← newRow elem (old ++ new ++ rest))) need newCap)

/-- What an append leaves, the elements being known. -/
def aTail (P : Program) (elem : TypeId) (k n : Nat) (ns : List Value) (s : Value) (σ : AState) : Option (Value × AState × Option Nat) :=
  match tz P elem, tby P elem with
  | some z, some by_ =>
    if z.cells.size = k ∧ ns.length = n * k ∧ ns.all Value.oneCell' = true then
      match s with
      | .slice none 0 0 =>
        if n = 0 then some (.slice none 0 0, σ, none)
        else if n * by_ ≤ 140737488355328 ∧ n ≤ 4611686018427387904 then some (.slice (some ⟨σ.next, 0, none⟩) n n, σ.alloc ⟨ns, k, false⟩, none) else none
      | .slice (some ⟨m, o, ex⟩) len cap =>
        if len + n ≤ cap then
          match ns with
          | [] => some (.slice (some ⟨m, o, ex⟩) (len + n) cap, σ, none)
          | _ => (wr σ m (o + len * k) ns).map fun s => (.slice (some ⟨m, o, ex⟩) (len + n) cap, s, some m)
        else if (len + n) * by_ ≤ 140737488355328 ∧ len + n ≤ 4611686018427387904 then
          match ex with
          | none => match σ.get m with
            | some b => if b.ro = false ∧ b.es = k ∧ o + len * k ≤ b.cells.length then
                some (.slice (some ⟨σ.next, 0, none⟩) (len + n) (len + n), (σ.put m none).alloc ⟨(b.cells.drop o).take (len * k) ++ ns, b.es, false⟩, some m)
              else none
            | none => none
          | some 0 => (aCells σ k len (.slice (some ⟨m, o, some 0⟩) len cap)).map fun old => (.slice (some ⟨σ.next, 0, none⟩) (len + n) (len + n), σ.alloc ⟨old ++ ns, k, false⟩, none)
          | _ => none
        else none
      | _ => none
    else none
  | _, _ => none

theorem zeroCells_eq (z : Array Value) (n : Nat) : Builtin.zeroCells z n = (zrow z.toList n).toArray := zrow_eq z n _ rfl

/-- The machine's new block behind an append that finds no room. -/
theorem grow_sound {P : Program} {elem : TypeId} {k n len cap' by_ : Nat} {zeros : Bool} {z : Value} {base : Option Addr} {s x : Value} {appended : Sem (Array Value)} {φ : Ren} {σ : AState} {w : World} {old ns os us : List Value}
    (hr : HRel φ σ w) (hz : tz P elem = some z) (hb : tby P elem = some by_) (hzk : z.cells.size = k) (hn : ns.length = n * k) (ho : old.length = len * k) (hcap : cap' < len + n) (hlim : (len + n) * by_ ≤ 140737488355328) (hlim2 : len + n ≤ 4611686018427387904)
    (hos : LRel φ old os) (hus : LRel φ ns us) (hold : ∀ d, (Builtin.firstCells k len s).run P { w with drawn := d } = .ok os.toArray { w with drawn := d }) (happ : ∀ d, appended.run P { w with drawn := d } = .ok us.toArray { w with drawn := d }) (D : Nat → Prop) :
    ∃ φ' u w', (appTail elem k len cap' n zeros base s x appended).run P w = .ok u w' ∧ VRel φ' (.slice (some ⟨σ.next, 0, none⟩) (len + n) (len + n)) u ∧ Goes D φ σ w φ' (σ.alloc ⟨old ++ ns, k, false⟩) w' := by
  obtain ⟨i, hi, hib⟩ := run_bytes (w := w) hb
  have hi' : ∀ w, (typeInfo elem).run P w = .ok i w := fun w => by
    obtain ⟨j, hj, _⟩ := run_bytes (P := P) (w := w) hb
    have : i = j := by
      unfold typeInfo at hi hj
      simp only [Sem.run_bind, run_program, Result.andThen_ok] at hi hj
      cases hp : P.info? elem with
      | none => simp [hp] at hi
      | some q => simp [hp] at hi hj; exact hi.symm.trans hj
    rw [this]; exact hj
  have hfit := growslice_fits (need := len + n) (old := cap') (bytes := by_) hcap hlim
  have hq : ∀ t, ∃ c, (Question.appendCap (len + n) cap' elem).cut t = len + n + c := fun t => ⟨_, rfl⟩
  obtain ⟨c, hc⟩ := hq (w.tape w.drawn (.appendCap (len + n) cap' elem))
  have hol := LRel.length hos
  have hul := LRel.length hus
  let cells : Array Value := os.toArray ++ us.toArray ++ (zrow z.cells.toList c).toArray
  have hsize : cells.size = (len + n + c) * k := by
    simp only [cells, Array.size_append, List.size_toArray, zrow_length, Array.length_toList, hzk]
    rw [← hol, ← hul, ho, hn, Nat.add_mul, Nat.add_mul]
  have hal := alloc_sound (hr.drew (w.drawn + 1)) (D := D) (vs := old ++ ns) (us := cells) k elem
    (by rw [hsize]; simp only [List.length_append, ho, hn, Nat.add_mul]; omega)
    (by
      have e : cells.toList.take (old ++ ns).length = os ++ us := by
        simp only [cells, Array.toList_append, List.toList_toArray]
        rw [List.take_append_of_le_length (by simp; omega)]
        exact List.take_of_length_le (by simp; omega)
      rw [e]; exact hos.append hus)
  refine ⟨_, .slice (some ⟨w.heap.size, 0, none⟩) (len + n) (len + n + c), _, ?_, ?_, (Goes.drew hr _).trans hal (fun _ _ h => h) hr⟩
  · have hzero : ∀ w, (zeroValue elem).run P w = .ok z w := fun w => run_zero hz
    unfold appTail
    simp only [Sem.run_ite]
    rw [if_neg (by omega)]
    simp only [Sem.run_bind, hi', Result.andThen_ok]
    rw [if_neg (by
      intro h
      have h1 := h.1
      simp [IntKind.max, IntKind.bits, IntKind.signed] at h1
      omega)]
    simp only [Sem.run_bind, Sem.run_pure, hi', Result.andThen_ok]
    rw [if_neg (by rw [hib]; omega)]
    simp only [Sem.run_bind, Sem.run_pure, hi', Result.andThen_ok, run_choose, Question.forced, Bool.false_eq_true, if_false, run_askRoom, hold, happ, hzero, hc]
    rw [show len + n + c - (len + n) = c by omega, zeroCells_eq]
    simp [newRow, cells]
  · refine .slice (p := ⟨w.heap.size, 0, cells.size, k⟩) (by simp [Ren.up]) (by omega) ?_
    show 0 + 0 + (len + n + c) * k ≤ cells.size
    rw [hsize]; omega

theorem aTail_sound {P : Program} {elem : TypeId} {k n : Nat} {zeros : Bool} {ns : List Value} {s u0 x : Value} {σ σ' : AState} {v : Value} {wn : Option Nat} (h : aTail P elem k n ns s σ = some (v, σ', wn))
    {φ : Ren} {w : World} (hr : HRel φ σ w) (hs : VRel φ s u0) {base : Option Addr} {sLen sCap : Nat} (hu0 : u0 = .slice base sLen sCap) {appended : Sem (Array Value)} {us : List Value} (hus : LRel φ ns us)
    (happ : ∀ d, appended.run P { w with drawn := d } = .ok us.toArray { w with drawn := d }) :
    ∃ φ' u w', (appTail elem k sLen sCap n zeros base u0 x appended).run P w = .ok u w' ∧ VRel φ' v u ∧ Goes (fun m => wn = some m) φ σ w φ' σ' w' := by
  have happ0 : appended.run P w = .ok us.toArray w := happ w.drawn
  unfold aTail at h
  split at h
  · rename_i z by_ hz hb
    split at h
    · rename_i hc
      obtain ⟨hzk, hnl, hone⟩ := hc
      split at h
      · -- nil
        cases hs
        injection hu0 with e1 e2 e3
        subst e1; subst e2; subst e3
        split at h
        · rename_i hn0
          injection h with h
          injection h with e1 e2
          injection e2 with e2 e3
          subst e1; subst e2; subst e3; subst hn0
          refine ⟨φ, .slice none 0 0, w, ?_, .sliceNone, Goes.refl hr⟩
          simp [appTail, happ0]
        · rename_i hn0
          split at h
          · rename_i hl
            injection h with h
            injection h with e1 e2
            injection e2 with e2 e3
            subst e1; subst e2; subst e3
            have := grow_sound (base := none) (x := x) (zeros := zeros) (cap' := 0) (len := 0) (s := .slice none 0 0) (old := []) (os := []) hr hz hb hzk hnl (by simp) (by omega) (by simpa using hl.1) (by omega) .nil hus (fun d => rfl) happ (fun m => (none : Option Nat) = some m)
            simpa using this
          · cases h
      · rename_i m o ex len cap
        split at h
        · -- room is known
          rename_i hroom
          -- the machine's slice
          have cases_s : (∃ (p : Pl) (c' : Nat), φ m = some p ∧ cap ≤ c' ∧ base = some ⟨p.g, p.o + o, none⟩ ∧ sLen = len ∧ sCap = c' ∧ VRel φ (.slice (some ⟨m, o, ex⟩) (len + n) cap) (.slice (some ⟨p.g, p.o + o, none⟩) (len + n) c')) ∨
              (len = 0 ∧ cap = 0 ∧ ∃ a', base = some a' ∧ sLen = 0 ∧ sCap = 0) := by
            cases hs with
            | @slice _ _ _ _ c' p hp hcap hbd =>
              injection hu0 with e1 e2 e3
              exact .inl ⟨p, c', hp, hcap, e1.symm, e2.symm, e3.symm, .slice hp hcap hbd⟩
            | @sliceX _ _ _ _ p hp =>
              injection hu0 with e1 e2 e3
              exact .inl ⟨p, cap, hp, Nat.le_refl _, e1.symm, e2.symm, e3.symm, .sliceX hp⟩
            | sliceE _ a' =>
              injection hu0 with e1 e2 e3
              exact .inr ⟨rfl, rfl, a', e1.symm, e2.symm, e3.symm⟩
          split at h
          · injection h with h
            injection h with e1 e2
            injection e2 with e2 e3
            subst e1; subst e2; subst e3
            cases hus
            rcases cases_s with ⟨p, c', hp, hcc, rfl, rfl, rfl, hv⟩ | ⟨rfl, rfl, a', rfl, rfl, rfl⟩
            · refine ⟨φ, _, w, ?_, hv, Goes.refl hr⟩
              simp only [appTail]
              rw [if_pos (by omega)]
              simp [happ0, storeCells]
            · have : n = 0 := by omega
              subst this
              refine ⟨φ, .slice (some a') 0 0, w, ?_, .sliceE _ _, Goes.refl hr⟩
              simp [appTail, happ0, storeCells]
          · rename_i hne
            cases hwr : wr σ m (o + len * k) ns with
            | none => rw [hwr] at h; cases h
            | some s2 =>
              rw [hwr, Option.map_some] at h
              injection h with h
              injection h with e1 e2
              injection e2 with e2 e3
              subst e1; subst e2; subst e3
              rcases cases_s with ⟨p, c', hp, hcc, rfl, rfl, rfl, hv⟩ | ⟨rfl, rfl, a', rfl, rfl, rfl⟩
              · obtain ⟨w', h1, h2⟩ := wr_sound hr hwr hp hus
                refine ⟨φ, _, w', ?_, hv, h2.weaken hr fun q _ hq => by rw [hq]⟩
                simp only [appTail]
                rw [if_pos (by omega)]
                simp only [Sem.run_bind, happ0, Result.andThen_ok, add_plain, Nat.add_assoc] at h1 ⊢
                simp [h1 P]
              · exfalso
                have : n = 0 := by omega
                subst this
                simp at hnl
                exact hne hnl
        · rename_i hroom
          split at h
          · rename_i hl
            split at h
            · -- room is not known
              split at h
              · rename_i b hbk
                split at h
                · rename_i hbc
                  obtain ⟨hro, hes, hlen⟩ := hbc
                  injection h with h
                  injection h with e1 e2
                  injection e2 with e2 e3
                  subst e1; subst e2; subst e3
                  have kg : Goes (fun q => some m = some q) φ σ w φ (σ.put m none) w := kill_goes hr m
                  have newcase : ∀ (os : List Value), LRel φ ((b.cells.drop o).take (len * k)) os → (∀ d, (Builtin.firstCells k len u0).run P { w with drawn := d } = .ok os.toArray { w with drawn := d }) → sLen = len → sCap < len + n →
                      ∃ φ' u w', (appTail elem k sLen sCap n zeros base u0 x appended).run P w = .ok u w' ∧ VRel φ' (.slice (some ⟨σ.next, 0, none⟩) (len + n) (len + n)) u ∧
                        Goes (fun q => some m = some q) φ σ w φ' ((σ.put m none).alloc ⟨(b.cells.drop o).take (len * k) ++ ns, b.es, false⟩) w' := by
                    intro os ho1 ho2 e1 hlt
                    subst e1
                    obtain ⟨φ', u, w', g1, g2, g3⟩ := grow_sound (base := base) (x := x) (zeros := zeros) (s := u0) kg.rel hz hb hzk hnl (by simp; omega) hlt hl.1 hl.2 ho1 hus ho2 happ (fun q => some m = some q)
                    exact ⟨φ', u, w', g1, g2, kg.trans (by rw [hes]; exact g3) (fun _ _ h => h) hr⟩
                  cases hs with
                  | @slice _ _ _ _ c' p hp hcap hbd =>
                    injection hu0 with e1 e2 e3
                    subst e1; subst e2; subst e3
                    by_cases hfit : len + n ≤ c'
                    · have hul := LRel.length hus
                      obtain ⟨q, cs, e, fz, hq, hg, hsz, hpe, _⟩ := hr.cel hbk hp (by omega)
                      rw [hp] at hq; injection hq with hq; subst hq
                      have hmul : (len + n) * p.es ≤ c' * p.es := Nat.mul_le_mul_right _ hfit
                      rw [Nat.add_mul] at hmul
                      have hpk : p.es = k := hpe.trans hes
                      obtain ⟨w', h1, h2⟩ := inplace_sound hr hbk hro hp hlen (by rw [← hul, hnl]; rw [hpk] at hmul hbd; omega) hone hus
                      refine ⟨_, .slice (some ⟨p.g, p.o + o, none⟩) (len + n) c', w', ?_, ?_, h2.weaken hr fun q _ hq => by rw [hq]⟩
                      · simp only [appTail]
                        rw [if_pos hfit]
                        simp only [Sem.run_bind, happ0, Result.andThen_ok, add_plain]
                        simp [h1 P]
                      · have := VRel.slice (φ := φ.up σ.next ⟨p.g, p.o + o, p.sz, p.es⟩) (n := σ.next) (o := 0) (len := len + n) (cap := len + n) (cap' := c') (p := ⟨p.g, p.o + o, p.sz, p.es⟩) (by simp [Ren.up]) hfit (by simpa using hbd)
                        simpa using this
                    · have hrd : rd σ m o (len * k) = some ((b.cells.drop o).take (len * k)) := by
                        simp only [rd, hbk]
                        rw [if_pos hlen]
                      obtain ⟨os, ho1, _, _, _, ho2⟩ := rd_sound hr hrd hp
                      exact newcase os ho1 (fun d => (ho2 P { w with drawn := d } rfl).2) rfl (by omega)
                  | sliceE _ a' =>
                    injection hu0 with e1 e2 e3
                    subst e1; subst e2; subst e3
                    refine newcase [] (by simp; exact .nil) (fun d => ?_) rfl (by omega)
                    simp [Builtin.firstCells, loadCells, loadCellsFrom]
                · cases h
              · cases h
            · -- the capacity is known
              cases hold : aCells σ k len (.slice (some ⟨m, o, some 0⟩) len cap) with
              | none => rw [hold] at h; cases h
              | some old =>
                rw [hold, Option.map_some] at h
                injection h with h
                injection h with e1 e2
                injection e2 with e2 e3
                subst e1; subst e2; subst e3
                obtain ⟨os, ho1, ho2⟩ := aCells_sound hold hr hs
                have hcap : sLen = len ∧ sCap = cap := by
                  cases hs <;> (injection hu0 with e1 e2 e3; exact ⟨e2.symm, e3.symm⟩)
                obtain ⟨rfl, rfl⟩ := hcap
                exact grow_sound (base := base) (x := x) (zeros := zeros) (s := u0) hr hz hb hzk hnl (aCells_length hold) (by omega) hl.1 hl.2 ho1 hus (fun d => ho2 P d) happ _
            · cases h
          · cases h
      · cases h
    · cases h
  · cases h

end GAb

set_option linter.unusedVariables false
set_option linter.unusedSimpArgs false
namespace GAb
open Go

def isInt : Option TypeDesc → Bool
  | some (.int _) => true
  | _ => false

def aAppend (P : Program) (ts : Array TypeId) (s x : Value) (σ : AState) : Option (Value × AState × Option Nat) :=
  match ts[0]?, ts[1]? with
  | some st, some xt =>
    match P.underlying st, P.underlying xt with
    | some (.slice elem), some xd =>
      match tsz P elem, tz P elem, tby P elem with
      | some k, some z, some by_ =>
        if isInt (some xd) then
          match x with
          | .int _ l => if 0 ≤ l ∧ l ≤ 9223372036854775807 ∧ l * (by_ : Int) ≤ 2 ^ 48 ∧ z.cells.toList.all flat = true ∧ z.cells.size = k then aTail P elem k l.toNat (zrow z.cells.toList l.toNat) s σ else none
          | _ => none
        else match aLen x with
          | some n => match aCells σ k n x with
            | some ns => aTail P elem k n ns s σ
            | none => none
          | none => none
      | _, _, _ => none
    | _, _ => none
  | _, _ => none

theorem append_eq (ts : Array TypeId) (ty : TypeId) (args : Array Value) (P : Program) (w : World) {st xt : TypeId} {base : Option Addr} {sLen sCap k : Nat} {x : Value} {elem : TypeId} {xd : TypeDesc}
    (h1 : ts[0]? = some st) (h2 : ts[1]? = some xt) (h3 : args[0]? = some (.slice base sLen sCap)) (h4 : args[1]? = some x) (hu : P.underlying st = some (.slice elem)) (hx : P.underlying xt = some xd) (hk : tsz P elem = some k) :
    (Builtin.append_ ts ty args).run P w = if isInt (some xd) then
      (do
        let l := IntKind.i64.wrap (← asInt x)
        if l < 0 then runtimePanic (.error "makeslice: len out of range")
        if l * (← typeInfo elem).bytes > 2 ^ 48 then
          let made ← choose (.extern "append.ofMake.carriedOut" 2)
          runtimePanic (.error (if made == 1 then "makeslice: len out of range" else "growslice: len out of range"))
        let n ← pure l.toNat
        appTail elem k sLen sCap n true base (.slice base sLen sCap) x (if n * k = 0 then pure #[] else do pure (Builtin.zeroCells (← zeroValue elem).cells n)) : Sem Value).run P w
    else (do
        let n ← Builtin.lenOf x
        appTail elem k sLen sCap n false base (.slice base sLen sCap) x (Builtin.firstCells k n x) : Sem Value).run P w := by
  unfold Builtin.append_
  simp only [h1, h2, h3, h4, Sem.run_bind, run_und hu, run_und hx, run_size hk, Result.andThen_ok, Sem.run_pure]
  cases xd <;> simp only [isInt, appTail, if_true, Bool.false_eq_true, if_false, Bool.not_true, Bool.not_false, true_or, false_or, Sem.run_bind] <;> rfl

theorem aAppend_sound {P : Program} {ts : Array TypeId} {ty : TypeId} {s x v : Value} {σ σ' : AState} {wn : Option Nat} (h : aAppend P ts s x σ = some (v, σ', wn)) {φ : Ren} {w : World} (hr : HRel φ σ w) {s' x' : Value} (hs : VRel φ s s') (hx : VRel φ x x') :
    ∃ φ' u w', (Builtin.append_ ts ty #[s', x']).run P w = .ok u w' ∧ VRel φ' v u ∧ Goes (fun m => wn = some m) φ σ w φ' σ' w' := by
  unfold aAppend at h
  split at h
  · rename_i st xt h1 h2
    split at h
    · rename_i elem xd hu hxd
      split at h
      · rename_i k z by_ hk hz hb
        have hsl : ∃ base sLen sCap, s' = .slice base sLen sCap := by
          have gen : ∀ n ns, aTail P elem k n ns s σ = some (v, σ', wn) → ∃ base sLen sCap, s' = .slice base sLen sCap := fun n ns h => by
            unfold aTail at h
            split at h
            · split at h
              · split at h
                · cases hs; exact ⟨_, _, _, rfl⟩
                · cases hs <;> exact ⟨_, _, _, rfl⟩
                · cases h
              · cases h
            · cases h
          split at h
          · split at h
            · split at h
              · exact gen _ _ h
              · cases h
            · cases h
          · split at h
            · split at h
              · exact gen _ _ h
              · cases h
            · cases h
        obtain ⟨base, sLen, sCap, rfl⟩ := hsl
        rw [append_eq ts ty #[.slice base sLen sCap, x'] P w (x := x') (base := base) (sLen := sLen) (sCap := sCap) h1 h2 rfl rfl hu hxd hk]
        split at h
        · rename_i hint
          rw [if_pos hint]
          split at h
          · rename_i kk l
            split at h
            · rename_i hc
              obtain ⟨c0, c1, c2, c3, c4⟩ := hc
              cases hx
              obtain ⟨i, hi, hib⟩ := run_bytes (w := w) hb
              have hw := wrap_i64 c0 c1
              have happ : ∀ d, (if l.toNat * k = 0 then (pure #[] : Sem (Array Value)) else do pure (Builtin.zeroCells (← zeroValue elem).cells l.toNat)).run P { w with drawn := d } = .ok (zrow z.cells.toList l.toNat).toArray { w with drawn := d } := fun d => by
                split
                · rename_i h0
                  have : zrow z.cells.toList l.toNat = [] := List.eq_nil_of_length_eq_zero (by rw [zrow_length]; simp [c4, h0])
                  rw [this]; rfl
                · simp [run_zero hz, zeroCells_eq]
              obtain ⟨φ', u, w', g1, g2, g3⟩ := aTail_sound (zeros := true) (x := .int kk l) h hr hs rfl (flat_cells (zrow_flat c3 _)) happ
              refine ⟨φ', u, w', ?_, g2, g3⟩
              simp only [asInt, asIntOf, Sem.run_bind, Sem.run_pure, Result.andThen_ok, hw]
              rw [if_neg (by omega)]
              simp only [Sem.run_bind, Sem.run_pure, Result.andThen_ok, hi]
              rw [if_neg (by rw [hib]; omega)]
              simp only [Sem.run_bind, Sem.run_pure, Result.andThen_ok]
              exact g1
            · cases h
          · cases h
        · rename_i hint
          rw [if_neg hint]
          split at h
          · rename_i n hn
            split at h
            · rename_i ns hns
              obtain ⟨us, k1, k2⟩ := aCells_sound hns hr hx
              obtain ⟨φ', u, w', g1, g2, g3⟩ := aTail_sound (zeros := false) (x := x') h hr hs rfl k1 (fun d => k2 P d)
              refine ⟨φ', u, w', ?_, g2, g3⟩
              simp only [Sem.run_bind, aLen_sound hn hx, Result.andThen_ok]
              exact g1
            · cases h
          · cases h
      · cases h
    · cases h
  · cases h

/-! ### copy, clear -/
def aCopy (P : Program) (ts : Array TypeId) (d x : Value) (σ : AState) : Option (Value × AState × Option Nat) :=
  match ts[0]? with
  | some dt =>
    match P.underlying dt with
    | some (.slice elem) =>
      match tsz P elem, d, aLen x with
      | some k, .slice base dLen _, some n0 =>
        match aCells σ k (min n0 dLen) x with
        | some ns =>
          match ns, base with
          | [], _ => some (.int .i64 (min n0 dLen : Nat), σ, none)
          | _, some ⟨m, o, _⟩ => (wr σ m o ns).map fun s => (.int .i64 (min n0 dLen : Nat), s, some m)
          | _, none => none
        | none => none
      | _, _, _ => none
    | _ => none
  | none => none

theorem aCopy_sound {P : Program} {ts : Array TypeId} {ty : TypeId} {d x v : Value} {σ σ' : AState} {wn : Option Nat} (h : aCopy P ts d x σ = some (v, σ', wn)) {φ : Ren} {w : World} (hr : HRel φ σ w) {d' x' : Value} (hd : VRel φ d d') (hx : VRel φ x x') :
    ∃ u w', (Builtin.copy_ ts ty #[d', x']).run P w = .ok u w' ∧ VRel φ v u ∧ Goes (fun m => wn = some m) φ σ w φ σ' w' := by
  unfold aCopy at h
  split at h
  · rename_i dt h1
    split at h
    · rename_i elem hu
      split at h
      · rename_i k base dLen cap n0 hk hn
        split at h
        · rename_i ns hns
          obtain ⟨us, k1, k2⟩ := aCells_sound hns hr hx
          have k2' : (Builtin.firstCells k (min n0 dLen) x').run P w = .ok us.toArray w := k2 P w.drawn
          have hd' : ∃ base' c', d' = .slice base' dLen c' ∧ (∀ m o ex, base = some ⟨m, o, ex⟩ → (∃ p, φ m = some p ∧ base' = some ⟨p.g, p.o + o, none⟩) ∨ dLen = 0) := by
            cases hd with
            | sliceNone => exact ⟨none, 0, rfl, fun m o ex e => by cases e⟩
            | @slice _ _ _ _ c' p hp _ _ => exact ⟨_, c', rfl, fun m o ex e => by injection e with e; injection e with e1 e2 e3; subst e1; subst e2; exact .inl ⟨p, hp, rfl⟩⟩
            | @sliceX _ _ _ _ p hp => exact ⟨_, _, rfl, fun m o ex e => by injection e with e; injection e with e1 e2 e3; subst e1; subst e2; exact .inl ⟨p, hp, rfl⟩⟩
            | sliceE a a' => exact ⟨some a', 0, rfl, fun m o ex e => .inr rfl⟩
          obtain ⟨base', c', rfl, hbase⟩ := hd'
          have run : ∀ w', (match base' with | some a => storeCells a us.toArray.toList | none => pure () : Sem Unit).run P w = .ok () w' → (Builtin.copy_ ts ty #[.slice base' dLen c', x']).run P w = .ok (.int .i64 (min n0 dLen : Nat)) w' := fun w' hw => by
            unfold Builtin.copy_
            have hmin : Nat.min n0 dLen = min n0 dLen := rfl
            simp only [h1, Sem.run_bind, run_und hu, run_size hk, Result.andThen_ok, Sem.run_pure, aLen_sound hn hx, hmin, k2']
            cases base' with
            | none =>
              simp only [Sem.run_pure] at hw
              injection hw with _ hw
              subst hw
              simp [hmin, k2', goInt, aLen_sound hn hx, run_und hu, run_size hk]
            | some a =>
              simp only at hw
              simp [hmin, k2', goInt, aLen_sound hn hx, run_und hu, run_size hk, hw]
          split at h
          · injection h with h
            injection h with e1 e2
            injection e2 with e2 e3
            subst e1; subst e2; subst e3
            cases k1
            refine ⟨_, w, run w ?_, .int _ _, Goes.refl hr⟩
            cases base' <;> rfl
          · rename_i _ m o ex hne
            cases hw : wr σ m o ns with
            | none => rw [hw] at h; cases h
            | some s =>
              rw [hw, Option.map_some] at h
              injection h with h
              injection h with e1 e2
              injection e2 with e2 e3
              subst e1; subst e2; subst e3
              rcases hbase m o ex rfl with ⟨p, hp, rfl⟩ | h0
              · obtain ⟨w', g1, g2⟩ := wr_sound hr hw hp k1
                exact ⟨_, w', run w' (g1 P), .int _ _, g2.weaken hr fun q _ hq => by rw [hq]⟩
              · exfalso
                have := aCells_length hns
                rw [h0] at this
                simp at this
                exact hne this
          · cases h
        · cases h
      · cases h
    · cases h
  · cases h

def aClear (P : Program) (ts : Array TypeId) (x : Value) (σ : AState) : Option (Value × AState × Option Nat) :=
  match ts[0]? with
  | some t =>
    match P.underlying t, x with
    | some (.slice elem), .slice _ 0 _ => some (undef, σ, none)
    | some (.slice elem), .slice (some ⟨m, o, _⟩) len _ =>
      match tz P elem with
      | some z => if z.cells.toList.all flat then (wr σ m o (zrow z.cells.toList len)).map fun s => (undef, s, some m) else none
      | none => none
    | _, _ => none
  | none => none

theorem aClear_sound {P : Program} {ts : Array TypeId} {ty : TypeId} {x v : Value} {σ σ' : AState} {wn : Option Nat} (h : aClear P ts x σ = some (v, σ', wn)) {φ : Ren} {w : World} (hr : HRel φ σ w) {x' : Value} (hx : VRel φ x x') :
    ∃ u w', (Builtin.clear_ ts ty #[x']).run P w = .ok u w' ∧ VRel φ v u ∧ Goes (fun m => wn = some m) φ σ w φ σ' w' := by
  unfold aClear at h
  split at h
  · rename_i t h1
    split at h
    · rename_i elem a c hu
      injection h with h
      injection h with e1 e2
      injection e2 with e2 e3
      subst e1; subst e2; subst e3
      have : ∃ a' c', x' = .slice a' 0 c' := by cases hx <;> exact ⟨_, _, rfl⟩
      obtain ⟨a', c', rfl⟩ := this
      refine ⟨undef, w, ?_, VRel.undef _, Goes.refl hr⟩
      unfold Builtin.clear_
      simp only [h1, Sem.run_bind, run_und hu, Result.andThen_ok, Sem.run_pure]
      cases a' <;> simp [undef, run_und hu]
    · rename_i elem m o ex len c hne hu
      split at h
      · rename_i z hz
        split at h
        · rename_i hf
          cases hw : wr σ m o (zrow z.cells.toList len) with
          | none => rw [hw] at h; cases h
          | some s =>
            rw [hw, Option.map_some] at h
            injection h with h
            injection h with e1 e2
            injection e2 with e2 e3
            subst e1; subst e2; subst e3
            have go : ∀ (p : Pl) (c' : Nat), φ m = some p → ∃ u w', (Builtin.clear_ ts ty #[.slice (some ⟨p.g, p.o + o, none⟩) len c']).run P w = .ok u w' ∧ VRel φ undef u ∧ Goes (fun q => some m = some q) φ σ w φ s w' := fun p c' hp => by
              obtain ⟨w', g1, g2⟩ := wr_sound hr hw hp (flat_cells (zrow_flat hf _))
              refine ⟨undef, w', ?_, VRel.undef _, g2.weaken hr fun q _ hq => by rw [hq]⟩
              unfold Builtin.clear_
              simp only [h1, Sem.run_bind, run_und hu, Result.andThen_ok, Sem.run_pure]
              cases len with
              | zero => exact (hne rfl).elim
              | succ len => simp [undef, run_und hu, run_zero hz, zeroCells_eq, g1 P]
            cases hx with
            | @slice _ _ _ _ c' p hp _ _ => exact go p c' hp
            | @sliceX _ _ _ _ p hp => exact go p c hp
            | sliceE => exact (hne rfl).elim
        · cases h
      · cases h
    · cases h
  · cases h

end GAb

set_option linter.unusedVariables false
set_option linter.unusedSimpArgs false
namespace GAb
open Go

theorem Ren.up_self (φ : Ren) (n : Nat) (p : Pl) : (φ.up n p) n = some p := by simp [Ren.up]

/-! ### Bytes and strings -/
def u8s : List Value → Option (List Int)
  | [] => some []
  | .int .u8 n :: vs => (u8s vs).map (n :: ·)
  | _ :: _ => none
theorem u8s_eq : ∀ {vs : List Value} {xs : List Int}, u8s vs = some xs → vs = xs.map (Value.int .u8)
  | [], xs, h => by simp only [u8s, Option.some.injEq] at h; subst h; rfl
  | v :: vs, xs, h => by
    unfold u8s at h
    split at h
    · rename_i e
      cases e
    · rename_i n vs' e
      injection e with e1 e2
      subst e1; subst e2
      cases hr : u8s vs with
      | none => rw [hr] at h; cases h
      | some ys =>
        rw [hr] at h
        injection h with h
        subst h
        simp [← u8s_eq hr]
    · cases h

def aStr (P : Program) (src dst : TypeId) (x : Value) (σ : AState) : Option Value :=
  match P.underlying src, P.underlying dst with
  | some (.slice e), some .string =>
    match P.underlying e with
    | some (.int .u8) =>
      match x with
      | .slice none 0 0 => some (.string (strOfNums []))
      | .slice (some ⟨m, o, _⟩) len _ => if len = 0 then some (.string (strOfNums [])) else
        match rd σ m o len with
        | some vs => (u8s vs).map fun xs => .string (strOfNums xs)
        | none => none
      | _ => none
    | _ => none
  | _, _ => none

theorem aStr_sound {P : Program} {src dst : TypeId} {x v : Value} {σ : AState} (h : aStr P src dst x σ = some v) {φ : Ren} {w : World} {u : Value} (hr : HRel φ σ w) (hx : VRel φ x u) :
    (∀ w2 : World, (∀ n p, rdName x = some n → φ n = some p → w2.heap[p.g]? = w.heap[p.g]?) → (convert src dst u).run P w2 = .ok v w2) ∧ VRel φ v v := by
  unfold aStr at h
  split at h
  · rename_i e hs hd
    split at h
    · rename_i he
      split at h
      · injection h with h
        subst h
        cases hx
        exact ⟨fun w _ => run_convert_bytes_nil w src e hs he 0 0 dst hd, .string _⟩
      · rename_i m o ex len cap
        split at h
        · rename_i h0
          injection h with h
          subst h; subst h0
          have key : ∀ (a' : Addr) c' (w : World), (convert src dst (.slice (some a') 0 c')).run P w = .ok (.string (strOfNums [])) w := fun a' c' w => by
            have hl : (loadCells a' 0).run P w = .ok (([] : List Int).map (Value.int .u8)).toArray w := rfl
            rw [run_convert_bytes_string w src dst e _ 0 c' hs he hd, run_bytesToString w _ 0 c' [] hl]
            rfl
          refine ⟨fun w _ => ?_, .string _⟩
          cases hx <;> exact key _ _ w
        · rename_i h0
          split at h
          · rename_i vs hrd
            cases hu : u8s vs with
            | none => rw [hu] at h; cases h
            | some xs =>
              rw [hu] at h
              injection h with h
              subst h
              have hvs := u8s_eq hu
              have key : ∀ (p : Pl) c', φ m = some p → ∀ w2 : World, w2.heap[p.g]? = w.heap[p.g]? → (convert src dst (.slice (some ⟨p.g, p.o + o, none⟩) len c')).run P w2 = .ok (.string (strOfNums xs)) w2 := fun p c' hp w2 hw2 => by
                obtain ⟨us, h1, h2, _, _, h3'⟩ := rd_sound hr hrd hp
                have h3 := (h3' P w2 hw2).1
                have hus : us = vs := by
                  have : ∀ {a b : List Value}, LRel φ a b → (∀ x ∈ a, flat x = true) → b = a := fun {a b} h => by
                    induction h with
                    | nil => intro _; rfl
                    | cons h _ ih =>
                      intro hf
                      rw [flat_eq (hf _ (by simp)) h, ih fun x hx => hf x (by simp [hx])]
                  exact this h1 fun x hx => by rw [hvs] at hx; obtain ⟨n, _, rfl⟩ := List.mem_map.1 hx; rfl
                subst hus
                have hlen : xs.length = len := by rw [← h2, hvs]; simp
                exact run_convert_bytes_arg w2 src e hs he _ _ len c' xs hlen (fun i hi => h3 i _ (by rw [hvs]; simp [hlen, hi, List.getD])) dst hd
              refine ⟨fun w2 hw2 => ?_, .string _⟩
              cases hx with
              | @slice _ _ _ _ c' p hp _ _ => exact key p c' hp w2 (hw2 _ _ rfl hp)
              | @sliceX _ _ _ _ p hp => exact key p cap hp w2 (hw2 _ _ rfl hp)
              | sliceE => exact absurd rfl h0
          · cases h
      · cases h
    · cases h
  · cases h

/-- A string's bytes in a new row; what room there is behind them is not known. -/
def aBytes (P : Program) (src dst : TypeId) (x : Value) (σ : AState) : Option (Value × AState) :=
  match P.underlying src, P.underlying dst, x with
  | some _, some (.slice e), .string s =>
    match P.underlying e with
    | some (.int .u8) => some (.slice (some ⟨σ.next, 0, none⟩) s.size s.size, σ.alloc ⟨s.data.toList.map byte, 1, false⟩)
    | _ => none
  | _, _, _ => none

theorem aBytes_sound {P : Program} {src dst : TypeId} {x v : Value} {σ σ' : AState} (h : aBytes P src dst x σ = some (v, σ')) {φ : Ren} {w : World} {u : Value} (hr : HRel φ σ w) (hx : VRel φ x u) (D : Nat → Prop) :
    ∃ φ' y w', (convert src dst u).run P w = .ok y w' ∧ VRel φ' v y ∧ Goes D φ σ w φ' σ' w' := by
  unfold aBytes at h
  split at h
  · rename_i d e s hs hd
    split at h
    · rename_i he
      injection h with h
      injection h with e1 e2
      subst e1; subst e2
      cases hx
      have hq : ∀ t, ∃ c, (Question.appendCap s.size 0 e).cut t = s.size + c := fun t => ⟨_, rfl⟩
      have hcap : ∃ c, grownCap w s.size 0 e = s.size + c := hq _
      obtain ⟨c, hc⟩ := hcap
      have hsz : (Lib.bytesCells w e s).size = s.size + c := by
        simp only [Lib.bytesCells, hc, Array.size_append, Array.size_map, Array.size_replicate]
        show s.size + _ = _
        omega
      have hal := alloc_sound (hr.drew (w.drawn + 1)) (D := D) (vs := s.data.toList.map byte) (us := Lib.bytesCells w e s) 1 e
        (by rw [hsz, List.length_map, Array.length_toList]; show s.size ≤ _; omega)
        (by
          have : (Lib.bytesCells w e s).toList.take (s.data.toList.map byte).length = s.data.toList.map byte := by
            simp only [Lib.bytesCells, Array.toList_append, Array.toList_map]
            rw [List.take_append_of_le_length (by rw [List.length_map, List.length_map]; exact Nat.le_refl _)]
            exact List.take_of_length_le (by rw [List.length_map, List.length_map]; exact Nat.le_refl _)
          rw [this]
          exact flat_cells (bytes_flat _))
      have hfz := freeze_sound hal.rel (hes1 := rfl) (n := σ.next) (b := ⟨s.data.toList.map byte, 1, false⟩) (p := ⟨w.heap.size, 0, (Lib.bytesCells w e s).size, 1⟩) (by rw [AState.get_alloc, if_pos rfl]) rfl (Ren.up_self _ _ _)
      refine ⟨_, _, _, Lib.run_convert_string_bytes w src dst e s hs hd he, ?_, ((Goes.drew hr _).trans hal (fun _ _ h => h) hr).trans hfz (fun n hn hD => by omega) hr⟩
      refine .slice (p := ⟨w.heap.size, 0, (Lib.bytesCells w e s).size, 1⟩) (Ren.up_self _ _ _) (by omega) ?_
      show 0 + 0 + _ * 1 ≤ (Lib.bytesCells w e s).size
      rw [hsz, hc]; omega
    · cases h
  · cases h

/-- A row of bytes that is turned to its own type: it is marked. -/
def aSame (P : Program) (src dst : TypeId) (x : Value) (σ : AState) : Option (Value × AState × Option Nat) :=
  match P.underlying src, P.underlying dst, x with
  | some (.slice _), some (.slice e), .slice (some ⟨m, o, ex⟩) (l + 1) c =>
    match P.underlying e, σ.get m with
    | some (.int .u8), some b => if src = dst ∧ b.ro = false ∧ b.es = 1 then some (.slice (some ⟨m, o, ex⟩) (l + 1) c, σ, some m) else none
    | _, _ => none
  | _, _, _ => none

theorem aSame_sound {P : Program} {src dst : TypeId} {x v : Value} {σ σ' : AState} {wn : Option Nat} (h : aSame P src dst x σ = some (v, σ', wn)) {φ : Ren} {w : World} {u : Value} (hr : HRel φ σ w) (hx : VRel φ x u) :
    ∃ w', (convert src dst u).run P w = .ok u w' ∧ VRel φ v u ∧ Goes (fun n => wn = some n) φ σ w φ σ' w' := by
  unfold aSame at h
  split at h
  · rename_i es e m o ex l c hs hd
    split at h
    · rename_i b he hb
      split at h
      · rename_i hc
        obtain ⟨rfl, hro, hes1⟩ := hc
        injection h with h
        injection h with e1 e2
        injection e2 with e2 e3
        subst e1; subst e2; subst e3
        obtain ⟨p, cs, te, fz, hq, hg, hsz, _⟩ := hr.cel1 hb (by omega)
        have hee : es = e := by
          rw [hs] at hd
          injection hd with hd
          injection hd
        subst hee
        have run : ∀ x' l' c', (convert src src (.slice (some ⟨p.g, x', none⟩) l' c')).run P w = .ok (.slice (some ⟨p.g, x', none⟩) l' c') (w.freeze ⟨p.g, p.sz, none⟩ 1) := fun x' l' c' => by
          have hsh : w.shape? p.g = some (te, cs.size) := by simp [World.shape?, hg]
          simp [convert, run_und hs, run_und he, markStringish, hsh, hsz]
        have hgo := (freeze_sound hr hes1 hb hro hq).weaken hr (E := fun n => some m = some n) fun n _ hn => by rw [hn]
        cases hx with
        | @slice _ _ _ _ c' q hp h1 h2 =>
          rw [hq] at hp; injection hp with hp; subst hp
          exact ⟨_, run _ _ _, .slice hq h1 h2, hgo⟩
        | @sliceX _ _ _ _ q hp =>
          rw [hq] at hp; injection hp with hp; subst hp
          exact ⟨_, run _ _ _, .sliceX hq, hgo⟩
      · cases h
    · cases h
  · cases h

/-! ### Whatever only reckons with values that hold no places -/
def pv {α : Type} (P : Program) : Sem α → Option α
  | .pure a => some a
  | .program k => pv P (k P)
  | .mark _ k => pv P k
  | _ => none
theorem pv_run {α : Type} {P : Program} {s : Sem α} {a : α} (h : pv P s = some a) (w : World) : s.run P w = .ok a w := by
  induction s with
  | pure b => simp only [pv, Option.some.injEq] at h; subst h; rfl
  | program k ih => simp only [pv] at h; simp only [Sem.run]; exact ih P h
  | mark m k ih => simp only [pv] at h; simp only [Sem.run]; exact ih h
  | _ => cases h

def aval (a : Act) : Operand → Option Value
  | .tmp t => some (a.tmps.getD t undef)
  | .const v => if pf v then some v else none
  | .func f => some (.func (.func f) #[] #[])
  | .global _ => none
def avals (a : Act) : List Operand → Option (List Value)
  | [] => some []
  | x :: xs => match aval a x, avals a xs with
    | some v, some vs => some (v :: vs)
    | _, _ => none

structure ARel (φ : Ren) (a a' : Act) : Prop where
  tmps : RRel φ a.tmps a'.tmps
  d1 : a.defers = []
  d2 : a'.defers = []
theorem ARel.mono {φ ψ : Ren} (hl : Ren.le φ ψ) {a a' : Act} (h : ARel φ a a') : ARel ψ a a' := ⟨h.tmps.mono hl, h.d1, h.d2⟩
theorem RRel.getD {φ : Ren} {vs us : Array Value} (h : RRel φ vs us) (t : Nat) : VRel φ (vs.getD t undef) (us.getD t undef) := by
  by_cases ht : t < vs.size
  · have hu : t < us.size := by rw [← h.size]; exact ht
    have := h.at_ t ht hu
    simpa [Array.getD, ht, hu] using this
  · have hu : ¬ t < us.size := by rw [← h.size]; exact ht
    simpa [Array.getD, ht, hu] using VRel.undef φ
theorem RRel.set {φ : Ren} {vs us : Array Value} (h : RRel φ vs us) (t : Nat) {v u : Value} (hv : VRel φ v u) : RRel φ (vs.setIfInBounds t v) (us.setIfInBounds t u) := by
  refine RRel.of_at (by simpa using h.size) fun i h1 h2 => ?_
  rw [Array.getElem_setIfInBounds (by simpa using h1), Array.getElem_setIfInBounds (by simpa using h2)]
  split
  · exact hv
  · exact h.at_ i (by simpa using h1) (by simpa using h2)
theorem ARel.put {φ : Ren} {a a' : Act} (h : ARel φ a a') (d : Option Tmp) {v u : Value} (hv : VRel φ v u) : ARel φ (a.put d v) (a'.put d u) := by
  cases d with
  | none => exact h
  | some d => exact ⟨h.tmps.set d hv, h.d1, h.d2⟩
theorem aval_sound {φ : Ren} {a a' : Act} (h : ARel φ a a') {x : Operand} {v : Value} (hx : aval a x = some v) : VRel φ v (a'.eval x) := by
  cases x with
  | tmp t => simp only [aval, Option.some.injEq] at hx; subst hx; exact h.tmps.getD t
  | const c =>
    simp only [aval] at hx
    split at hx
    · rename_i hp; injection hx with hx; subst hx; exact pf_rel hp
    · cases hx
  | func f => simp only [aval, Option.some.injEq] at hx; subst hx; exact pf_rel rfl
  | global g => cases hx
theorem aval_eval {a : Act} {x : Operand} {v : Value} (hx : aval a x = some v) : a.eval x = v := by
  cases x with
  | tmp t => simp only [aval, Option.some.injEq] at hx; subst hx; rfl
  | const c =>
    simp only [aval] at hx
    split at hx
    · injection hx
    · cases hx
  | func f => simp only [aval, Option.some.injEq] at hx; subst hx; rfl
  | global g => cases hx
theorem avals_sound {φ : Ren} {a a' : Act} (h : ARel φ a a') : ∀ {xs : List Operand} {vs : List Value}, avals a xs = some vs → LRel φ vs (xs.map a'.eval)
  | [], vs, hx => by simp only [avals, Option.some.injEq] at hx; subst hx; exact .nil
  | x :: xs, vs, hx => by
    simp only [avals] at hx
    split at hx
    · rename_i v vs' h1 h2
      injection hx with hx
      subst hx
      exact .cons (aval_sound h h1) (avals_sound h h2)
    · cases hx

def noSel : Op → Bool
  | .select .. => false
  | _ => true
def pfOperand (a : Act) (x : Operand) : Bool := match aval a x with | some v => pf v | none => false
def gen (P : Program) (o : Oper) (a : Act) (σ : AState) : Option (Value × AState × Option Nat) :=
  if o.op.operands.toList.all (pfOperand a) && noSel o.op then
    match pv P (execOp a.eval o) with
    | some (.value v) => if pf v then some (v, σ, none) else none
    | _ => none
  else none

def OpOK (P : Program) (o : Oper) (a : Act) (σ : AState) (v : Value) (σ' : AState) (wn : Option Nat) : Prop :=
  ∀ φ w a', HRel φ σ w → ARel φ a a' → ∃ φ' u w', ((execOp a'.eval o).run P w = .ok (.value u) w' ∨ (execOp a'.eval o).run P w = .ok .skip w' ∧ u = undef) ∧ VRel φ' v u ∧ Goes (fun n => wn = some n) φ σ w φ' σ' w'

theorem gen_sound {P : Program} {o : Oper} {a : Act} {σ σ' : AState} {v : Value} {wn : Option Nat} (h : gen P o a σ = some (v, σ', wn)) : OpOK P o a σ v σ' wn := by
  unfold gen at h
  split at h
  · rename_i hc
    simp only [Bool.and_eq_true, List.all_eq_true] at hc
    obtain ⟨hall, hns⟩ := hc
    split at h
    · rename_i v' hpv
      split at h
      · rename_i hp
        injection h with h
        injection h with e1 e2
        injection e2 with e2 e3
        subst e1; subst e2; subst e3
        intro φ w a' hr ha
        have he : execOp a'.eval o = execOp a.eval o := execOp_congr o (fun cs b e => by rw [e] at hns; cases hns) fun x hx => by
          have hpx := hall x (by simpa using hx)
          unfold pfOperand at hpx
          split at hpx
          · rename_i u hu
            rw [aval_eval hu]
            exact pf_eq hpx (aval_sound ha hu)
          · cases hpx
        exact ⟨φ, _, w, .inl (by rw [he]; exact pv_run hpv w), pf_rel hp, Goes.refl hr⟩
      · cases h
    · cases h
  · cases h

end GAb

set_option linter.unusedVariables false
set_option linter.unusedSimpArgs false
namespace GAb
open Go

/-! ### Is it nil? -/
def aNil (P : Program) (t : TypeId) (v u : Value) : Option Bool :=
  match P.underlying t, v, u with
  | some (.pointer _), .pointer (some _), .pointer none => some false
  | some (.pointer _), .pointer none, .pointer (some _) => some false
  | some (.slice _), .slice (some _) _ _, .slice none _ _ => some false
  | some (.slice _), .slice none _ _, .slice (some _) _ _ => some false
  | _, _, _ => none
def aEq (P : Program) (op : BinOp) (t : TypeId) (v u : Value) : Option Value :=
  match op with
  | .eql => (aNil P t v u).map .bool
  | .neq => (aNil P t v u).map fun b => .bool !b
  | _ => none

theorem nilPtr1 {P : Program} {w : World} {t e : TypeId} (hd : P.underlying t = some (.pointer e)) (a : Addr) (d : Nat) : (Op.equalIn (d + 1) t (.pointer (some a)) (.pointer none)).run P w = .ok false w := by
  simp only [Op.equalIn, Sem.run_bind, run_und hd, Result.andThen_ok, Sem.run_pure]
theorem nilPtr2 {P : Program} {w : World} {t e : TypeId} (hd : P.underlying t = some (.pointer e)) (a : Addr) (d : Nat) : (Op.equalIn (d + 1) t (.pointer none) (.pointer (some a))).run P w = .ok false w := by
  simp only [Op.equalIn, Sem.run_bind, run_und hd, Result.andThen_ok, Sem.run_pure]
  rfl
theorem nilSl1 {P : Program} {w : World} {t e : TypeId} (hd : P.underlying t = some (.slice e)) (a : Addr) (l c l' c' d : Nat) : (Op.equalIn (d + 1) t (.slice (some a) l c) (.slice none l' c')).run P w = .ok false w := by
  simp only [Op.equalIn, Sem.run_bind, run_und hd, Result.andThen_ok, Sem.run_pure]
theorem nilSl2 {P : Program} {w : World} {t e : TypeId} (hd : P.underlying t = some (.slice e)) (a : Addr) (l c l' c' d : Nat) : (Op.equalIn (d + 1) t (.slice none l' c') (.slice (some a) l c)).run P w = .ok false w := by
  simp only [Op.equalIn, Sem.run_bind, run_und hd, Result.andThen_ok, Sem.run_pure]
  rfl

theorem aNil_sound {P : Program} {t : TypeId} {v u : Value} {b : Bool} (h : aNil P t v u = some b) {φ : Ren} {v' u' : Value} (hv : VRel φ v v') (hu : VRel φ u u') (x y : Operand) :
    (∀ w : World, (Op.equal t v' u').run P w = .ok b w) ∧ (∀ op (w : World), (eqGuard op t x y v' u').run P w = .ok () w) ∧ binOp .eql t v' u' = (do pure (.bool (← Op.equal t v' u'))) ∧ binOp .neq t v' u' = (do pure (.bool (!(← Op.equal t v' u')))) := by
  unfold aNil at h
  split at h
  · rename_i e a hd
    injection h with h; subst h
    cases hv with
    | ptr o hp =>
    cases hu
    exact ⟨fun w => nilPtr1 hd _ 9999, fun op w => by cases op <;> rfl, rfl, rfl⟩
  · rename_i e a hd
    injection h with h; subst h
    cases hu with
    | ptr o hp =>
    cases hv
    exact ⟨fun w => nilPtr2 hd _ 9999, fun op w => by cases op <;> rfl, rfl, rfl⟩
  · rename_i e a _ _ _ _ hd
    injection h with h; subst h
    have h1 : ∃ a' l c, v' = .slice (some a') l c := by cases hv <;> exact ⟨_, _, _, rfl⟩
    have h2 : ∃ l c, u' = .slice none l c := by cases hu; exact ⟨_, _, rfl⟩
    obtain ⟨a', l, c, rfl⟩ := h1
    obtain ⟨l', c', rfl⟩ := h2
    exact ⟨fun w => nilSl1 hd _ _ _ _ _ 9999, fun op w => by cases op <;> rfl, rfl, rfl⟩
  · rename_i e _ _ a _ _ hd
    injection h with h; subst h
    have h1 : ∃ a' l c, u' = .slice (some a') l c := by cases hu <;> exact ⟨_, _, _, rfl⟩
    have h2 : ∃ l c, v' = .slice none l c := by cases hv; exact ⟨_, _, rfl⟩
    obtain ⟨a', l, c, rfl⟩ := h1
    obtain ⟨l', c', rfl⟩ := h2
    exact ⟨fun w => nilSl2 hd _ _ _ _ _ 9999, fun op w => by cases op <;> rfl, rfl, rfl⟩
  · cases h

theorem aEq_sound {P : Program} {op : BinOp} {t : TypeId} {v u r : Value} (h : aEq P op t v u = some r) {φ : Ren} {v' u' : Value} (hv : VRel φ v v') (hu : VRel φ u u') (x y : Operand) :
    (∀ w : World, (do eqGuard op t x y v' u'; binOp op t v' u' : Sem Value).run P w = .ok r w) ∧ VRel φ r r := by
  unfold aEq at h
  split at h
  · cases hn : aNil P t v u with
    | none => rw [hn] at h; cases h
    | some b =>
      rw [hn] at h
      injection h with h
      subst h
      obtain ⟨h1, h2, h3, _⟩ := aNil_sound hn hv hu x y
      refine ⟨fun w => ?_, .bool _⟩
      simp only [Sem.run_bind, h2, Result.andThen_ok, h3, h1, Sem.run_pure]
  · cases hn : aNil P t v u with
    | none => rw [hn] at h; cases h
    | some b =>
      rw [hn] at h
      injection h with h
      subst h
      obtain ⟨h1, h2, _, h3⟩ := aNil_sound hn hv hu x y
      refine ⟨fun w => ?_, .bool _⟩
      simp only [Sem.run_bind, h2, Result.andThen_ok, h3, h1, Sem.run_pure]
  · cases h

/-! ### The operation -/
abbrev AOut := Option (Value × AState × Option Nat)

def aparts (a : Act) : List (Nat × Operand) → Option (List (Nat × Value))
  | [] => some []
  | (i, x) :: ps => match aval a x, aparts a ps with
    | some v, some vs => some ((i, v) :: vs)
    | _, _ => none
theorem aparts_sound {φ : Ren} {a a' : Act} (h : ARel φ a a') : ∀ {xs : List (Nat × Operand)} {vs : List (Nat × Value)}, aparts a xs = some vs → PRel φ vs (xs.map fun p => (p.1, a'.eval p.2))
  | [], vs, hx => by simp only [aparts, Option.some.injEq] at hx; subst hx; exact .nil
  | (i, x) :: xs, vs, hx => by
    simp only [aparts] at hx
    split at hx
    · rename_i v vs' h1 h2
      injection hx with hx
      subst hx
      exact .cons (aval_sound h h1) (aparts_sound h h2)
    · cases hx

def aopt (a : Act) : Option Operand → Option (Option Value)
  | none => some none
  | some x => match aval a x with
    | some v => if pf v then some (some v) else none
    | none => none
theorem aopt_sound {φ : Ren} {a a' : Act} (h : ARel φ a a') {x : Option Operand} {v : Option Value} (hx : aopt a x = some v) : x.map a'.eval = v := by
  cases x with
  | none => simp only [aopt, Option.some.injEq] at hx; subst hx; rfl
  | some x =>
    simp only [aopt] at hx
    split at hx
    · rename_i u hu
      split at hx
      · rename_i hp
        injection hx with hx
        subst hx
        simp [pf_eq hp (aval_sound h hu)]
      · cases hx
    · cases hx

def aBuiltin (P : Program) (b : Builtin) (c : Call) (o : Oper) (a : Act) (σ : AState) : AOut :=
  match b, c.args.toList with
  | .append, [x, y] => match aval a x, aval a y with
    | some v, some u => aAppend P c.argTypes v u σ
    | _, _ => none
  | .copy, [x, y] => match aval a x, aval a y with
    | some v, some u => aCopy P c.argTypes v u σ
    | _, _ => none
  | .clear, [x] => match aval a x with
    | some v => aClear P c.argTypes v σ
    | none => none
  | .len, [x] => match c.argTypes[0]?, aval a x with
    | some t, some (.slice q n cap) => match P.underlying t with
      | some (.slice _) => some (.int .i64 n, σ, none)
      | _ => none
    | _, _ => gen P o a σ
  | .cap, [x] => match c.argTypes[0]?, aval a x with
    | some t, some (.slice (some ⟨_, _, some 0⟩) n cap) => match P.underlying t with
      | some (.slice _) => some (.int .i64 cap, σ, none)
      | _ => none
    | _, _ => gen P o a σ
  | _, _ => gen P o a σ

def aop (P : Program) (o : Oper) (a : Act) (σ : AState) : AOut :=
  match o.op with
  | .move x | .assign x => match aval a x with
    | some v => some (v, σ, none)
    | none => none
  | .pick c x y => match aval a c, aval a x, aval a y with
    | some (.bool t), some v, some u => some (if t then v else u, σ, none)
    | _, _, _ => none
  | .alloc e => match aAlloc P e σ with
    | some (v, s) => some (v, s, none)
    | none => none
  | .box _ x => match aval a x with
    | some v => some ((aBox v σ).1, (aBox v σ).2, none)
    | none => none
  | .build t ps => match aparts a ps.toList with
    | some qs => match aBuild P t qs with
      | some v => some (v, σ, none)
      | none => none
    | none => none
  | .buildSlice t len ps => match aparts a ps.toList with
    | some qs => match aBuildSlice P t len qs σ with
      | some (v, s) => some (v, s, none)
      | none => none
    | none => none
  | .load t x => match aval a x with
    | some v => match aLoad P t v σ with
      | some r => some (r, σ, none)
      | none => none
    | none => none
  | .store t x y => match aval a x, aval a y with
    | some v, some u => match aStore P t v u σ with
      | some (s, n) => some (undef, s, some n)
      | none => none
    | _, _ => none
  | .nilCheck x => match aval a x with
    | some (.pointer (some q)) => some (.pointer (some q), σ, none)
    | _ => none
  | .binOp op t x y _ => match aval a x, aval a y with
    | some v, some u => if pf v && pf u then gen P o a σ else
      match aEq P op t v u with
      | some r => some (r, σ, none)
      | none => none
    | _, _ => none
  | .convert src dst x => match P.underlying src, P.underlying dst, aval a x with
    | some (.slice _), some .string, some v => match aStr P src dst v σ with
      | some r => some (r, σ, none)
      | none => none
    | some .string, some (.slice _), some v => match aBytes P src dst v σ with
      | some (r, s) => some (r, s, none)
      | none => none
    | some (.slice _), some (.slice _), some v => aSame P src dst v σ
    | _, _, _ => gen P o a σ
  | .makeFunc fn fs cs => match avals a fs.toList, avals a cs.toList with
    | some vs, some us => some (.func fn vs.toArray us.toArray, σ, none)
    | _, _ => none
  | .makeSlice t l c => match aval a l, aval a c with
    | some v, some u => if pf v && pf u then
        match aMake P t v u σ with
        | some (r, s) => some (r, s, none)
        | none => none
      else none
    | _, _ => none
  | .slice t x lo hi mx => match aval a x with
    | some (.slice q l c) => match aopt a lo, aopt a hi, aopt a mx with
      | some vl, some vh, some vm => match aSlice P t (.slice q l c) vl vh vm σ with
        | some r => some (r, σ, none)
        | none => none
      | _, _, _ => none
    | _ => gen P o a σ
  | .fieldAddr s x f => match aval a x with
    | some v => match aFieldAddr P s v f with
      | some r => some (r, σ, none)
      | none => none
    | none => none
  | .field t x f => match aval a x with
    | some v => match aField P t v f with
      | some r => some (r, σ, none)
      | none => none
    | none => none
  | .indexAddr t x ix => match aval a x, aval a ix with
    | some v, some u => match aIndexAddr P t v u with
      | some r => some (r, σ, none)
      | none => none
    | _, _ => none
  | .extract x i => match aval a x with
    | some v => match aExtract v i with
      | some r => some (r, σ, none)
      | none => none
    | none => none
  | .call c => match c.callee with
    | .builtin b => aBuiltin P b c o a σ
    | _ => none
  | _ => gen P o a σ

theorem aBuiltin_sound {P : Program} {b : Builtin} {c : Call} {o : Oper} {a : Act} {σ σ' : AState} {v : Value} {wn : Option Nat} (ho : o.op = .call c) (hc : c.callee = .builtin b) (h : aBuiltin P b c o a σ = some (v, σ', wn)) : OpOK P o a σ v σ' wn := by
  have hex : ∀ a' : Act, execOp a'.eval o = (do pure (.value (← (match b with
      | .append => Builtin.append_ c.argTypes o.type (c.args.map a'.eval)
      | .copy => Builtin.copy_ c.argTypes o.type (c.args.map a'.eval)
      | .clear => Builtin.clear_ c.argTypes o.type (c.args.map a'.eval)
      | .len => Builtin.len_ c.argTypes o.type (c.args.map a'.eval)
      | .cap => Builtin.cap_ c.argTypes o.type (c.args.map a'.eval)
      | _ => stuck "")))) ∨ ¬ (b = .append ∨ b = .copy ∨ b = .clear ∨ b = .len ∨ b = .cap) := fun a' => by
    cases b <;> first
      | (refine .inl ?_; simp only [execOp, ho, resolve, hc, pure_bind, invoke, builtin]; done)
      | (refine .inr ?_; simp)
  unfold aBuiltin at h
  split at h
  · rename_i x y hargs
    split at h
    · rename_i v1 v2 h1 h2
      intro φ w a' hr ha
      obtain ⟨φ', u, w', g1, g2, g3⟩ := aAppend_sound (ty := o.type) h hr (aval_sound ha h1) (aval_sound ha h2)
      have hm : c.args.map a'.eval = #[a'.eval x, a'.eval y] := by apply Array.ext'; simp [hargs]
      rcases hex a' with he | he
      · exact ⟨φ', u, w', .inl (by rw [he]; simp [hm, g1]), g2, g3⟩
      · simp at he
    · cases h
  · rename_i x y hargs
    split at h
    · rename_i v1 v2 h1 h2
      intro φ w a' hr ha
      obtain ⟨u, w', g1, g2, g3⟩ := aCopy_sound (ty := o.type) h hr (aval_sound ha h1) (aval_sound ha h2)
      have hm : c.args.map a'.eval = #[a'.eval x, a'.eval y] := by apply Array.ext'; simp [hargs]
      rcases hex a' with he | he
      · exact ⟨φ, u, w', .inl (by rw [he]; simp [hm, g1]), g2, g3⟩
      · simp at he
    · cases h
  · rename_i x hargs
    split at h
    · rename_i v1 h1
      intro φ w a' hr ha
      obtain ⟨u, w', g1, g2, g3⟩ := aClear_sound (ty := o.type) h hr (aval_sound ha h1)
      have hm : c.args.map a'.eval = #[a'.eval x] := by apply Array.ext'; simp [hargs]
      rcases hex a' with he | he
      · exact ⟨φ, u, w', .inl (by rw [he]; simp [hm, g1]), g2, g3⟩
      · simp at he
    · cases h
  · rename_i x hargs
    split at h
    · rename_i t q n cap ht hx
      split at h
      · rename_i e hu
        injection h with h
        injection h with e1 e2
        injection e2 with e2 e3
        subst e1; subst e2; subst e3
        intro φ w a' hr ha
        have hv := aval_sound ha hx
        have hm : c.args.map a'.eval = #[a'.eval x] := by apply Array.ext'; simp [hargs]
        rcases hex a' with he | he
        · refine ⟨φ, .int .i64 n, w, .inl ?_, .int _ _, Goes.refl hr⟩
          rw [he]
          generalize a'.eval x = y at hv hm
          have : ∃ q' c', y = .slice q' n c' := by cases hv <;> exact ⟨_, _, rfl⟩
          obtain ⟨q', c', rfl⟩ := this
          simp [hm, Builtin.len_, ht, run_und hu, goInt]
        · simp at he
      · cases h
    · exact gen_sound h
  · rename_i x hargs
    split at h
    · rename_i t _ _ n cap ht hx
      split at h
      · rename_i e hu
        injection h with h
        injection h with e1 e2
        injection e2 with e2 e3
        subst e1; subst e2; subst e3
        intro φ w a' hr ha
        have hv := aval_sound ha hx
        have hm : c.args.map a'.eval = #[a'.eval x] := by apply Array.ext'; simp [hargs]
        rcases hex a' with he | he
        · refine ⟨φ, .int .i64 cap, w, .inl ?_, .int _ _, Goes.refl hr⟩
          rw [he]
          generalize a'.eval x = y at hv hm
          have : ∃ q', y = .slice q' n cap := by cases hv <;> exact ⟨_, rfl⟩
          obtain ⟨q', rfl⟩ := this
          simp [hm, Builtin.cap_, ht, run_und hu, goInt]
        · simp at he
      · cases h
    · exact gen_sound h
  · exact gen_sound h

end GAb
