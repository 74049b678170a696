/- The abstract heap, its values, and how they stand for the machine's. No statement of the seat is proved in this text. -/
import Derived.Calls
import Derived.Defers
import Derived.Tactics
import Derived.OrdersHeld
set_option linter.unusedVariables false
set_option linter.unusedSimpArgs false
namespace GAb
open Go

/-! ### A finite map from numbers -/
inductive Tr (α : Type) where
  | leaf
  | node (l : Tr α) (v : Option α) (r : Tr α)

def key : Nat → Nat → List Bool
  | 0, _ => []
  | f + 1, n => if n = 0 then [] else (n % 2 == 1) :: key f (n / 2)

def keyVal : List Bool → Nat
  | [] => 0
  | b :: k => (if b then 1 else 0) + 2 * keyVal k

theorem keyVal_key : ∀ (f n : Nat), n ≤ f → keyVal (key f n) = n
  | 0, n, h => by simp [key, keyVal]; omega
  | f + 1, n, h => by
    unfold key
    split
    · simp [keyVal]; omega
    · rw [keyVal, keyVal_key f (n / 2) (by omega)]
      by_cases h2 : n % 2 = 1
      · simp [h2]; omega
      · simp [h2]; omega

theorem key_inj {n m : Nat} (h : key n n = key m m) : n = m := by
  have h1 := keyVal_key n n (Nat.le_refl _)
  have h2 := keyVal_key m m (Nat.le_refl _)
  rw [h, h2] at h1
  exact h1.symm

def Tr.get {α : Type} : Tr α → List Bool → Option α
  | .leaf, _ => none
  | .node _ v _, [] => v
  | .node l _ r, b :: k => if b then r.get k else l.get k

def Tr.set {α : Type} : Tr α → List Bool → Option α → Tr α
  | .leaf, [], v => .node .leaf v .leaf
  | .leaf, b :: k, v => if b then .node .leaf none (Tr.set .leaf k v) else .node (Tr.set .leaf k v) none .leaf
  | .node l _ r, [], v => .node l v r
  | .node l x r, b :: k, v => if b then .node l x (r.set k v) else .node (l.set k v) x r

theorem Tr.get_set {α : Type} : ∀ (k : List Bool) (t : Tr α) (v : Option α) (k' : List Bool), (t.set k v).get k' = if k = k' then v else t.get k' := by
  intro k
  induction k with
  | nil =>
    intro t v k'
    cases t <;> cases k' <;> simp [Tr.set, Tr.get]
  | cons b k ih =>
    intro t v k'
    cases t with
    | leaf =>
      cases k' with
      | nil => cases b <;> simp [Tr.set, Tr.get]
      | cons b' k' => cases b <;> cases b' <;> simp [Tr.set, Tr.get, ih]
    | node l x r =>
      cases k' with
      | nil => cases b <;> simp [Tr.set, Tr.get]
      | cons b' k' => cases b <;> cases b' <;> simp [Tr.set, Tr.get, ih]

/-! ### The abstract heap -/
structure Blk where
  cells : List Value
  es : Nat
  ro : Bool

structure AState where
  heap : Tr Blk
  next : Nat

def AState.get (σ : AState) (n : Nat) : Option Blk := σ.heap.get (key n n)
def AState.put (σ : AState) (n : Nat) (b : Option Blk) : AState := { σ with heap := σ.heap.set (key n n) b }
def AState.alloc (σ : AState) (b : Blk) : AState := { heap := σ.heap.set (key σ.next σ.next) (some b), next := σ.next + 1 }

theorem AState.get_put (σ : AState) (n m : Nat) (b : Option Blk) : (σ.put n b).get m = if n = m then b else σ.get m := by
  simp only [AState.get, AState.put, Tr.get_set]
  by_cases h : n = m
  · subst h; simp
  · rw [if_neg (fun e => h (key_inj e)), if_neg h]
theorem AState.get_alloc (σ : AState) (m : Nat) (b : Blk) : (σ.alloc b).get m = if σ.next = m then some b else σ.get m := by
  simp only [AState.get, AState.alloc, Tr.get_set]
  by_cases h : σ.next = m
  · subst h; simp
  · rw [if_neg (fun e => h (key_inj e)), if_neg h]
@[simp] theorem AState.next_put (σ : AState) (n : Nat) (b : Option Blk) : (σ.put n b).next = σ.next := rfl
@[simp] theorem AState.next_alloc (σ : AState) (b : Blk) : (σ.alloc b).next = σ.next + 1 := rfl

/-! ### Names and places -/
structure Pl where
  g : Nat
  o : Nat
  sz : Nat
  es : Nat

abbrev Ren := Nat → Option Pl
def Ren.le (φ ψ : Ren) : Prop := ∀ n p, φ n = some p → ψ n = some p
theorem Ren.le.refl (φ : Ren) : Ren.le φ φ := fun _ _ h => h
theorem Ren.le.trans {φ ψ χ : Ren} (h : Ren.le φ ψ) (k : Ren.le ψ χ) : Ren.le φ χ := fun n p e => k n p (h n p e)
def Ren.up (φ : Ren) (n : Nat) (p : Pl) : Ren := fun m => if m = n then some p else φ m
theorem Ren.le_up {φ : Ren} {n : Nat} (h : φ n = none) (p : Pl) : Ren.le φ (φ.up n p) := fun m q e => by
  unfold Ren.up
  split
  · rename_i hm; subst hm; rw [h] at e; cases e
  · exact e

/-! ### Values -/
inductive VRel (φ : Ren) : Value → Value → Prop where
  | bool (b : Bool) : VRel φ (.bool b) (.bool b)
  | int (k : IntKind) (n : Int) : VRel φ (.int k n) (.int k n)
  | string (s : ByteArray) : VRel φ (.string s) (.string s)
  | ptrNone : VRel φ (.pointer none) (.pointer none)
  | ptr {n : Nat} {p : Pl} (o : Nat) : φ n = some p → VRel φ (.pointer (some ⟨n, o, none⟩)) (.pointer (some ⟨p.g, p.o + o, none⟩))
  | sliceNone : VRel φ (.slice none 0 0) (.slice none 0 0)
  | slice {n o len cap cap' : Nat} {p : Pl} : φ n = some p → cap ≤ cap' → p.o + o + cap' * p.es ≤ p.sz → VRel φ (.slice (some ⟨n, o, none⟩) len cap) (.slice (some ⟨p.g, p.o + o, none⟩) len cap')
  | sliceX {n o len cap : Nat} {p : Pl} : φ n = some p → VRel φ (.slice (some ⟨n, o, some 0⟩) len cap) (.slice (some ⟨p.g, p.o + o, none⟩) len cap)
  | sliceE (a a' : Addr) : VRel φ (.slice (some a) 0 0) (.slice (some a') 0 0)
  | func (fn : Fn) {fs fs' cs cs' : Array Value} : fs.size = fs'.size → (∀ i (h : i < fs.size) (h' : i < fs'.size), VRel φ fs[i] fs'[i]) →
      cs.size = cs'.size → (∀ i (h : i < cs.size) (h' : i < cs'.size), VRel φ cs[i] cs'[i]) → VRel φ (.func fn fs cs) (.func fn fs' cs')
  | nilFunc : VRel φ .nilFunc .nilFunc
  | iface (t : TypeId) {v u : Value} : VRel φ v u → VRel φ (.iface t v) (.iface t u)
  | nilIface : VRel φ .nilIface .nilIface
  | agg {cs cs' : Array Value} : cs.size = cs'.size → (∀ i (h : i < cs.size) (h' : i < cs'.size), VRel φ cs[i] cs'[i]) → VRel φ (.agg cs) (.agg cs')
  | tuple {cs cs' : Array Value} : cs.size = cs'.size → (∀ i (h : i < cs.size) (h' : i < cs'.size), VRel φ cs[i] cs'[i]) → VRel φ (.tuple cs) (.tuple cs')
  | mapNone : VRel φ (.map none) (.map none)
  | map {n : Nat} {p : Pl} : φ n = some p → p.sz < p.o → VRel φ (.map (some n)) (.map (some p.g))

theorem VRel.mono {φ ψ : Ren} (hl : Ren.le φ ψ) {v u : Value} (h : VRel φ v u) : VRel ψ v u := by
  induction h with
  | bool b => exact .bool b
  | int k n => exact .int k n
  | string s => exact .string s
  | ptrNone => exact .ptrNone
  | ptr o h => exact .ptr o (hl _ _ h)
  | sliceNone => exact .sliceNone
  | slice h h1 h2 => exact .slice (hl _ _ h) h1 h2
  | sliceX h => exact .sliceX (hl _ _ h)
  | sliceE a a' => exact .sliceE a a'
  | func fn h1 _ h3 _ ih1 ih2 => exact .func fn h1 ih1 h3 ih2
  | nilFunc => exact .nilFunc
  | iface t _ ih => exact .iface t ih
  | nilIface => exact .nilIface
  | agg h1 _ ih => exact .agg h1 ih
  | tuple h1 _ ih => exact .tuple h1 ih
  | mapNone => exact .mapNone
  | map h h1 => exact .map (hl _ _ h) h1

/-- Rows of values. -/
inductive LRel (φ : Ren) : List Value → List Value → Prop where
  | nil : LRel φ [] []
  | cons {v u : Value} {vs us : List Value} : VRel φ v u → LRel φ vs us → LRel φ (v :: vs) (u :: us)
theorem LRel.mono {φ ψ : Ren} (hl : Ren.le φ ψ) {vs us : List Value} (h : LRel φ vs us) : LRel ψ vs us := by
  induction h with
  | nil => exact .nil
  | cons h _ ih => exact .cons (h.mono hl) ih
theorem LRel.length {φ : Ren} {vs us : List Value} (h : LRel φ vs us) : vs.length = us.length := by
  induction h with
  | nil => rfl
  | cons _ _ ih => simp [ih]
theorem LRel.get {φ : Ren} {vs us : List Value} (h : LRel φ vs us) : ∀ (i : Nat) (v : Value), vs[i]? = some v → ∃ u, us[i]? = some u ∧ VRel φ v u := by
  induction h with
  | nil => intro i v e; simp at e
  | cons h _ ih =>
    intro i v e
    cases i with
    | zero => simp at e; subst e; exact ⟨_, by simp, h⟩
    | succ i => simp at e ⊢; exact ih i v e
theorem LRel.of_get {φ : Ren} : ∀ {vs us : List Value}, vs.length = us.length → (∀ (i : Nat) (v u : Value), vs[i]? = some v → us[i]? = some u → VRel φ v u) → LRel φ vs us
  | [], [], _, _ => .nil
  | v :: vs, u :: us, hl, h => .cons (h 0 v u (by simp) (by simp)) (LRel.of_get (by simpa using hl) fun i v' u' h1 h2 => h (i + 1) v' u' (by simpa using h1) (by simpa using h2))
theorem LRel.append {φ : Ren} {a b c d : List Value} (h : LRel φ a b) (k : LRel φ c d) : LRel φ (a ++ c) (b ++ d) := by
  induction h with
  | nil => exact k
  | cons h _ ih => exact .cons h ih
theorem LRel.take {φ : Ren} {a b : List Value} (h : LRel φ a b) : ∀ n, LRel φ (a.take n) (b.take n) := by
  induction h with
  | nil => intro n; simp; exact .nil
  | cons h _ ih => intro n; cases n with
    | zero => exact .nil
    | succ n => exact .cons h (ih n)
theorem LRel.drop {φ : Ren} {a b : List Value} (h : LRel φ a b) : ∀ n, LRel φ (a.drop n) (b.drop n) := by
  induction h with
  | nil => intro n; simp; exact .nil
  | cons h t ih => intro n; cases n with
    | zero => exact .cons h t
    | succ n => exact ih n
def RRel (φ : Ren) (vs us : Array Value) : Prop := LRel φ vs.toList us.toList
theorem RRel.size {φ : Ren} {vs us : Array Value} (h : RRel φ vs us) : vs.size = us.size := by simpa using LRel.length h
theorem RRel.mono {φ ψ : Ren} (hl : Ren.le φ ψ) {vs us : Array Value} (h : RRel φ vs us) : RRel ψ vs us := LRel.mono hl h
theorem RRel.at_ {φ : Ren} {vs us : Array Value} (h : RRel φ vs us) (i : Nat) (h1 : i < vs.size) (h2 : i < us.size) : VRel φ vs[i] us[i] := by
  obtain ⟨u, e, k⟩ := LRel.get h i vs[i] (by simp [h1])
  simp [h2] at e
  subst e; exact k
theorem RRel.of_at {φ : Ren} {vs us : Array Value} (hs : vs.size = us.size) (h : ∀ i (h1 : i < vs.size) (h2 : i < us.size), VRel φ vs[i] us[i]) : RRel φ vs us := by
  refine LRel.of_get (by simpa using hs) fun i v u e1 e2 => ?_
  have h1 : i < vs.size := by
    rcases Nat.lt_or_ge i vs.size with h | h
    · exact h
    · simp [h] at e1
  have h2 : i < us.size := by omega
  simp [h1] at e1
  simp [h2] at e2
  subst e1; subst e2
  exact h i h1 h2
theorem VRel.agg' {φ : Ren} {cs cs' : Array Value} (h : RRel φ cs cs') : VRel φ (.agg cs) (.agg cs') := .agg h.size fun i h1 h2 => h.at_ i h1 h2
theorem VRel.tuple' {φ : Ren} {cs cs' : Array Value} (h : RRel φ cs cs') : VRel φ (.tuple cs) (.tuple cs') := .tuple h.size fun i h1 h2 => h.at_ i h1 h2
theorem VRel.func' {φ : Ren} (fn : Fn) {fs fs' cs cs' : Array Value} (h : RRel φ fs fs') (k : RRel φ cs cs') : VRel φ (.func fn fs cs) (.func fn fs' cs') :=
  .func fn h.size (fun i h1 h2 => h.at_ i h1 h2) k.size (fun i h1 h2 => k.at_ i h1 h2)
theorem VRel.agg_inv {φ : Ren} {cs : Array Value} {u : Value} (h : VRel φ (.agg cs) u) : ∃ cs', u = .agg cs' ∧ RRel φ cs cs' := by
  cases h with
  | agg h1 h2 => exact ⟨_, rfl, RRel.of_at h1 h2⟩
theorem VRel.tuple_inv {φ : Ren} {cs : Array Value} {u : Value} (h : VRel φ (.tuple cs) u) : ∃ cs', u = .tuple cs' ∧ RRel φ cs cs' := by
  cases h with
  | tuple h1 h2 => exact ⟨_, rfl, RRel.of_at h1 h2⟩
theorem VRel.func_inv {φ : Ren} {fn : Fn} {fs cs : Array Value} {u : Value} (h : VRel φ (.func fn fs cs) u) : ∃ fs' cs', u = .func fn fs' cs' ∧ RRel φ fs fs' ∧ RRel φ cs cs' := by
  cases h with
  | func _ h1 h2 h3 h4 => exact ⟨_, _, rfl, RRel.of_at h1 h2, RRel.of_at h3 h4⟩
theorem VRel.undef (φ : Ren) : VRel φ undef undef := .tuple rfl fun i h _ => by simp at h

/-- A value's cells. -/
theorem VRel.cells {φ : Ren} {v u : Value} (h : VRel φ v u) : RRel φ v.cells u.cells := by
  cases h with
  | agg h1 h2 => exact RRel.of_at h1 h2
  | tuple h1 h2 => exact .cons (.tuple h1 h2) .nil
  | func fn h1 h2 h3 h4 => exact .cons (.func fn h1 h2 h3 h4) .nil
  | bool b => exact .cons (.bool b) .nil
  | int k n => exact .cons (.int k n) .nil
  | string s => exact .cons (.string s) .nil
  | ptrNone => exact .cons .ptrNone .nil
  | ptr o h => exact .cons (.ptr o h) .nil
  | sliceNone => exact .cons .sliceNone .nil
  | slice h h1 h2 => exact .cons (.slice h h1 h2) .nil
  | sliceX h => exact .cons (.sliceX h) .nil
  | sliceE a a' => exact .cons (.sliceE a a') .nil
  | nilFunc => exact .cons .nilFunc .nil
  | iface t h => exact .cons (.iface t h) .nil
  | nilIface => exact .cons .nilIface .nil
  | mapNone => exact .cons .mapNone .nil
  | map h h1 => exact .cons (.map h h1) .nil

/-! ### Values without places: they stand for themselves -/
def flat : Value → Bool
  | .bool _ | .int _ _ | .string _ | .pointer none | .slice none 0 0 | .nilFunc | .nilIface | .map none => true
  | _ => false
def pf : Value → Bool
  | .agg cs | .tuple cs => cs.toList.all flat
  | .func _ fs cs => fs.toList.isEmpty && cs.toList.isEmpty
  | v => flat v
theorem flat_rel {φ : Ren} {v : Value} (h : flat v = true) : VRel φ v v := by
  unfold flat at h
  split at h <;> first | (simp at h; done) | constructor
theorem flat_eq {φ : Ren} {v u : Value} (h : flat v = true) (k : VRel φ v u) : u = v := by
  unfold flat at h
  split at h <;> first | (simp at h; done) | (cases k; rfl)
theorem pf_rel {φ : Ren} {v : Value} (h : pf v = true) : VRel φ v v := by
  unfold pf at h
  split at h
  · exact .agg rfl fun i h1 h2 => flat_rel (List.all_eq_true.1 h _ (by simp))
  · exact .tuple rfl fun i h1 h2 => flat_rel (List.all_eq_true.1 h _ (by simp))
  · simp at h
    obtain ⟨rfl, rfl⟩ := h
    exact .func _ rfl (fun i h _ => by simp at h) rfl (fun i h _ => by simp at h)
  · exact flat_rel h
theorem pf_eq {φ : Ren} {v u : Value} (h : pf v = true) (k : VRel φ v u) : u = v := by
  unfold pf at h
  split at h
  · rename_i cs
    obtain ⟨cs', rfl, hr⟩ := k.agg_inv
    congr 1
    refine Array.ext hr.size.symm fun i h1 h2 => ?_
    exact flat_eq (List.all_eq_true.1 h _ (by simp)) (hr.at_ i h2 h1)
  · rename_i cs
    obtain ⟨cs', rfl, hr⟩ := k.tuple_inv
    congr 1
    refine Array.ext hr.size.symm fun i h1 h2 => ?_
    exact flat_eq (List.all_eq_true.1 h _ (by simp)) (hr.at_ i h2 h1)
  · simp at h
    obtain ⟨rfl, rfl⟩ := h
    obtain ⟨fs', cs', rfl, h1, h2⟩ := k.func_inv
    have e1 : fs' = #[] := Array.eq_empty_of_size_eq_zero (by simpa using h1.size.symm)
    have e2 : cs' = #[] := Array.eq_empty_of_size_eq_zero (by simpa using h2.size.symm)
    rw [e1, e2]
  · exact flat_eq h k

/-! ### Maps: a map's entries, told by one number -/
inductive MK where
  | num (k : Int)
  | nam (s : ByteArray) (x : Int)
  deriving DecidableEq
/-- A key's value. -/
def MK.val : MK → Value
  | .num k => .int .u32 k
  | .nam s x => .agg #[.string s, .int .u32 x]
def zc (z : Int) : Nat := if 0 ≤ z then 2 * z.toNat else 2 * (-z).toNat + 1
theorem zc_inj {a b : Int} (h : zc a = zc b) : a = b := by
  unfold zc at h
  split at h <;> split at h <;> omega
def lc : List Nat → Nat
  | [] => 0
  | a :: l => 2 ^ a * (2 * lc l + 1)
theorem pow_odd : ∀ {a b x y : Nat}, 2 ^ a * (2 * x + 1) = 2 ^ b * (2 * y + 1) → a = b ∧ x = y
  | 0, 0, x, y, h => by simp at h; exact ⟨rfl, by omega⟩
  | 0, b + 1, x, y, h => by
    exfalso
    rw [Nat.pow_succ, Nat.pow_zero, Nat.mul_comm (2 ^ b) 2, Nat.mul_assoc] at h
    omega
  | a + 1, 0, x, y, h => by
    exfalso
    rw [Nat.pow_succ, Nat.pow_zero, Nat.mul_comm (2 ^ a) 2, Nat.mul_assoc] at h
    omega
  | a + 1, b + 1, x, y, h => by
    rw [Nat.pow_succ, Nat.pow_succ, Nat.mul_comm (2 ^ a) 2, Nat.mul_comm (2 ^ b) 2, Nat.mul_assoc, Nat.mul_assoc] at h
    obtain ⟨h1, h2⟩ := pow_odd (Nat.eq_of_mul_eq_mul_left (by omega) h)
    exact ⟨by omega, h2⟩
theorem lc_inj : ∀ {l m : List Nat}, lc l = lc m → l = m
  | [], [], _ => rfl
  | [], b :: m, h => by
    exfalso
    have : 0 < 2 ^ b * (2 * lc m + 1) := Nat.mul_pos (Nat.two_pow_pos b) (by omega)
    simp only [lc] at h
    omega
  | a :: l, [], h => by
    exfalso
    have : 0 < 2 ^ a * (2 * lc l + 1) := Nat.mul_pos (Nat.two_pow_pos a) (by omega)
    simp only [lc] at h
    omega
  | a :: l, b :: m, h => by
    obtain ⟨h1, h2⟩ := pow_odd h
    rw [h1, lc_inj h2]
def MK.code : MK → List Nat
  | .num k => [0, zc k]
  | .nam s x => 1 :: zc x :: s.data.toList.map (·.toNat)
theorem MK.code_inj {a b : MK} (h : a.code = b.code) : a = b := by
  cases a with
  | num k => cases b with
    | num k' => simp only [MK.code, List.cons.injEq, and_true, true_and] at h; rw [zc_inj h]
    | nam s x => simp [MK.code] at h
  | nam s x => cases b with
    | num k => simp [MK.code] at h
    | nam s' x' =>
      simp only [MK.code, List.cons.injEq, true_and] at h
      obtain ⟨h1, h2⟩ := h
      have h3 : s.data.toList = s'.data.toList := List.map_inj_right (fun _ _ h => UInt8.toNat_inj.1 h) |>.1 h2
      have : s = s' := by
        obtain ⟨⟨l⟩⟩ := s
        obtain ⟨⟨m⟩⟩ := s'
        simp only at h3
        rw [h3]
      rw [this, zc_inj h1]
/-- A map's entries as one number. -/
def mcode (kvs : List (MK × Int)) : Nat := 1000 + lc (kvs.map fun e => lc (zc e.2 :: e.1.code))
theorem mcode_inj {a b : List (MK × Int)} (h : mcode a = mcode b) : a = b := by
  have h1 := lc_inj (Nat.add_left_cancel h)
  refine List.map_inj_right (fun x y h => ?_) |>.1 h1
  have h2 := lc_inj h
  simp only [List.cons.injEq] at h2
  exact Prod.ext (MK.code_inj h2.2) (zc_inj h2.1)
/-- The machine's entries. -/
def entsOf : List (MK × Int) → Nat → List MapEntry
  | [], _ => []
  | e :: l, i => ⟨e.1.val, .int .i64 e.2, i⟩ :: entsOf l (i + 1)
/-- A name that stands for a map. -/
def MapBlk (φ : Ren) (w : World) (n : Nat) (b : Blk) : Prop :=
  ∃ p kvs es clk, φ n = some p ∧ w.heap[p.g]? = some (.map es clk) ∧ p.sz < p.o ∧ b.cells = [] ∧ b.ro = false ∧ b.es = mcode kvs ∧ es.toList = entsOf kvs 0 ∧ clk = kvs.length
theorem MapBlk.es {φ : Ren} {w : World} {n : Nat} {b : Blk} (h : MapBlk φ w n b) : 1000 ≤ b.es ∧ b.cells = [] := by
  obtain ⟨p, kvs, es, clk, _, _, _, h1, _, h2, _⟩ := h
  exact ⟨by rw [h2]; unfold mcode; omega, h1⟩
theorem MapBlk.no {φ : Ren} {w : World} {n : Nat} {b : Blk} (h : MapBlk φ w n b) {p : Pl} (hp : φ n = some p) (hl : p.o ≤ p.sz) : False := by
  obtain ⟨q, kvs, es, clk, h1, _, h2, _⟩ := h
  rw [hp] at h1; injection h1 with h1; subst h1; omega
theorem MapBlk.mv {φ φ' : Ren} {w w' : World} {n : Nat} {b : Blk} (h : MapBlk φ w n b) (hl : Ren.le φ φ') (hg : ∀ p, φ n = some p → (∃ es clk, w.heap[p.g]? = some (.map es clk)) → w'.heap[p.g]? = w.heap[p.g]?) : MapBlk φ' w' n b := by
  obtain ⟨p, kvs, es, clk, h1, h2, h3⟩ := h
  exact ⟨p, kvs, es, clk, hl _ _ h1, by rw [hg p h1 ⟨_, _, h2⟩]; exact h2, h3⟩

/-! ### The heap stands for a part of the world -/
structure HRel (φ : Ren) (σ : AState) (w : World) : Prop where
  fresh : ∀ n, σ.next ≤ n → φ n = none
  dead : ∀ n, σ.next ≤ n → σ.get n = none
  blk : ∀ n b, σ.get n = some b → (∃ p cs e fz, φ n = some p ∧ w.heap[p.g]? = some (.cells cs e fz) ∧ p.sz = cs.size ∧ p.es = b.es ∧ p.o + b.cells.length ≤ cs.size ∧
    LRel φ b.cells ((cs.toList.drop p.o).take b.cells.length) ∧ (b.ro = false → fz.1 = fz.2 ∨ cs.size ≤ fz.1 ∧ b.es = 1)) ∨ MapBlk φ w n b
  inj : ∀ n m bn bm p q, σ.get n = some bn → σ.get m = some bm → bn.ro = false → φ n = some p → φ m = some q → p.g = q.g → n = m
  lt : ∀ n p, φ n = some p → p.g < w.heap.size

theorem HRel.same {φ : Ren} {σ σ' : AState} {w : World} (h : HRel φ σ w) (hg : ∀ m, σ'.get m = σ.get m) (hn : σ'.next = σ.next) : HRel φ σ' w :=
  ⟨fun n hn' => h.fresh n (by omega), fun n hn' => by rw [hg]; exact h.dead n (by omega), fun n b hb => h.blk n b (by rw [← hg]; exact hb), fun n m bn bm p q h1 h2 => h.inj n m bn bm p q (by rw [← hg]; exact h1) (by rw [← hg]; exact h2), h.lt⟩
theorem HRel.cel {φ : Ren} {σ : AState} {w : World} (h : HRel φ σ w) {n : Nat} {b : Blk} (hb : σ.get n = some b) {p : Pl} (hp : φ n = some p) (hl : p.o ≤ p.sz) : ∃ p cs e fz, φ n = some p ∧ w.heap[p.g]? = some (.cells cs e fz) ∧ p.sz = cs.size ∧ p.es = b.es ∧ p.o + b.cells.length ≤ cs.size ∧
    LRel φ b.cells ((cs.toList.drop p.o).take b.cells.length) ∧ (b.ro = false → fz.1 = fz.2 ∨ cs.size ≤ fz.1 ∧ b.es = 1) := by
  rcases h.blk n b hb with h | h
  · exact h
  · exact (h.no hp hl).elim
theorem HRel.cel1 {φ : Ren} {σ : AState} {w : World} (h : HRel φ σ w) {n : Nat} {b : Blk} (hb : σ.get n = some b) (he : b.es < 1000) : ∃ p cs e fz, φ n = some p ∧ w.heap[p.g]? = some (.cells cs e fz) ∧ p.sz = cs.size ∧ p.es = b.es ∧ p.o + b.cells.length ≤ cs.size ∧
    LRel φ b.cells ((cs.toList.drop p.o).take b.cells.length) ∧ (b.ro = false → fz.1 = fz.2 ∨ cs.size ≤ fz.1 ∧ b.es = 1) := by
  rcases h.blk n b hb with h | h
  · exact h
  · have := h.es.1; omega

/-- From 'w' to 'w'': what may have been written lies in blocks of names in D; all else is as it was. -/
structure Goes (D : Nat → Prop) (φ : Ren) (σ : AState) (w : World) (φ' : Ren) (σ' : AState) (w' : World) : Prop where
  le : Ren.le φ φ'
  rel : HRel φ' σ' w'
  size : w.heap.size ≤ w'.heap.size
  tape : w'.tape = w.tape
  os : w'.os = w.os
  output : w'.output = w.output
  next : σ.next ≤ σ'.next
  old : ∀ n b', n < σ.next → σ'.get n = some b' → ∃ b, σ.get n = some b ∧ b.ro = b'.ro
  kept : ∀ g, g < w.heap.size → (∀ n b p, σ.get n = some b → b.ro = false → φ n = some p → p.g = g → ¬ D n) → w'.heap[g]? = w.heap[g]?
  new : ∀ n p, φ n = none → φ' n = some p → w.heap.size ≤ p.g ∨ ∃ m b q, σ.get m = some b ∧ b.ro = false ∧ φ m = some q ∧ D m ∧ q.g = p.g

theorem Goes.refl {D : Nat → Prop} {φ : Ren} {σ : AState} {w : World} (h : HRel φ σ w) : Goes D φ σ w φ σ w :=
  ⟨.refl _, h, Nat.le_refl _, rfl, rfl, rfl, Nat.le_refl _, fun n b _ h => ⟨b, h, rfl⟩, fun _ _ _ => rfl, fun n p h1 h2 => by rw [h1] at h2; cases h2⟩

theorem Goes.trans {D E : Nat → Prop} {φ φ1 φ2 : Ren} {σ σ1 σ2 : AState} {w w1 w2 : World} (h : Goes D φ σ w φ1 σ1 w1) (k : Goes E φ1 σ1 w1 φ2 σ2 w2)
    (hE : ∀ n, n < σ.next → E n → D n) (hσ : HRel φ σ w) : Goes D φ σ w φ2 σ2 w2 := by
  have low : ∀ n p, φ n = some p → n < σ.next := fun n p e => by
    rcases Nat.lt_or_ge n σ.next with h | h
    · exact h
    · rw [hσ.fresh n h] at e; cases e
  refine ⟨h.le.trans k.le, k.rel, Nat.le_trans h.size k.size, k.tape.trans h.tape, k.os.trans h.os, k.output.trans h.output, Nat.le_trans h.next k.next, ?_, ?_, ?_⟩
  · intro n b' hn hb'
    obtain ⟨b1, h1, h2⟩ := k.old n b' (Nat.lt_of_lt_of_le hn h.next) hb'
    obtain ⟨b, h3, h4⟩ := h.old n b1 hn h1
    exact ⟨b, h3, h4.trans h2⟩
  · intro g hg hn
    rw [k.kept g (Nat.lt_of_lt_of_le hg h.size) ?_, h.kept g hg hn]
    intro n b p hb hro hp hpg hEn
    cases hφ : φ n with
    | some q =>
      have hq := h.le n q hφ
      rw [hp] at hq
      injection hq with hq
      subst hq
      obtain ⟨b0, h1, h2⟩ := h.old n b (low n p hφ) hb
      exact hn n b0 p h1 (h2.trans hro) hφ hpg (hE n (low n p hφ) hEn)
    | none =>
      rcases h.new n p hφ hp with h1 | ⟨m, bm, q, h0, h00, h1, h2, h3⟩
      · omega
      · exact hn m bm q h0 h00 h1 (h3.trans hpg) h2
  · intro n p h0 h2
    cases h1 : φ1 n with
    | some q =>
      have hq := k.le n q h1
      rw [h2] at hq
      injection hq with hq
      subst hq
      exact h.new n p h0 h1
    | none =>
      rcases k.new n p h1 h2 with h3 | ⟨m, b, q, hb, hro, h3, h4, h5⟩
      · exact .inl (Nat.le_trans h.size h3)
      · cases h6 : φ m with
        | some q' =>
          have hq := h.le m q' h6
          rw [h3] at hq
          injection hq with hq
          subst hq
          obtain ⟨b0, k1, k2⟩ := h.old m b (low m q h6) hb
          exact .inr ⟨m, b0, q, k1, k2.trans hro, h6, hE m (low m q h6) h4, h5⟩
        | none =>
          rcases h.new m q h6 h3 with h7 | ⟨m', b', q', k1, k2, h7, h8, h9⟩
          · exact .inl (h5 ▸ h7)
          · exact .inr ⟨m', b', q', k1, k2, h7, h8, h9.trans h5⟩

theorem Goes.weaken {D E : Nat → Prop} {φ φ1 : Ren} {σ σ1 : AState} {w w1 : World} (hσ : HRel φ σ w) (h : Goes D φ σ w φ1 σ1 w1) (hD : ∀ n, n < σ.next → D n → E n) : Goes E φ σ w φ1 σ1 w1 :=
  Goes.trans (Goes.refl hσ) h hD hσ

end GAb
