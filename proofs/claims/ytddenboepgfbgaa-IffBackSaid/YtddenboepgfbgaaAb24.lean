/- Function values, parts with a bound on their room. No statement of the seat is proved in this text. -/
import Derived.Test.YtddenboepgfbgaaAb23
set_option linter.unusedVariables false
set_option linter.unusedSimpArgs false
namespace GAb
open Go
section
variable {O : Nat → Prop} {P : Program} {B : Base} {all : Array Oper} {W : Env → AState → Prop} {n : Nat} {pn : Pn} {o : Oper} {rest : List Oper} {d : Option Nat} {env : Env} {σ0 σ : AState} {L : List Fact}
/-- A function's value. -/
def mkfE (n : Nat) (o : Oper) (env : Env) : Option (Fn × List Value × List Value) :=
  match o.op with
  | .makeFunc f fs cs => if okxs fs.toList && okxs cs.toList then some (f, looks n env fs.toList, looks n env cs.toList) else none
  | _ => none
theorem l_mkf {f : Fn} {fs cs : List Value} (hs : mkfE n o env = some (f, fs, cs)) (hw : wantedE all n o env = true) (hd : dsto o = some d) (h : Lin P B all W n pn rest (upd env d (.func f fs.toArray cs.toArray)) σ) : Lin P B all W n pn (o :: rest) env σ := by
  refine l_p (v := .func f fs.toArray cs.toArray) hw hd ?_ (by unfold mkfE at hs; unfold rbE; split at hs <;> first | (rename_i ho; rw [ho]) | cases hs) h
  unfold mkfE at hs
  split at hs
  · rename_i f' fs' cs' ho
    split at hs
    · rename_i hx
      simp only [Bool.and_eq_true] at hx
      injection hs with hs
      injection hs with e1 hs
      injection hs with e2 e3
      subst e1; subst e2; subst e3
      unfold aop
      simp only [ho, looks_avals hx.1, looks_avals hx.2]
    · cases hs
  · cases hs
/-- A part whose room is bounded. -/
def slmE (P : Program) (o : Oper) : Option (Operand × Operand × Operand × Operand × Nat) :=
  match o.op with
  | .slice t x (some lo) (some hi) (some mx) => match P.underlying t with
    | some (.slice elem) => match okx x, tsz P elem with
      | true, some k => some (x, lo, hi, mx, k)
      | _, _ => none
    | _ => none
  | _ => none
theorem l_slm {x lo hi mx : Operand} {es len cap l h m b ofs : Nat} {e : Option Nat} (hs : slmE P o = some (x, lo, hi, mx, es)) (hw : wantedE all n o env = true) (hd : dsto o = some d)
    (hx : look n env x = .slice (some ⟨b, ofs, e⟩) len cap) (hl : Bnd n env (some lo) 0 l) (hh : Bnd n env (some hi) len h) (hm : Bnd n env (some mx) cap m) (hb : l ≤ h ∧ h ≤ m ∧ m ≤ cap)
    (hk : Lin P B all W n pn rest (upd env d (.slice (some ⟨b, ofs + l * es, some 0⟩) (h - l) (m - l))) σ) : Lin P B all W n pn (o :: rest) env σ := by
  obtain ⟨vl, l1, l2⟩ := hl.opt
  obtain ⟨vh, l3, l4⟩ := hh.opt
  obtain ⟨vm, l5, l6⟩ := hm.opt
  refine l_p hw hd (v := _) ?_ (by unfold slmE at hs; unfold rbE; split at hs <;> first | (rename_i ho; rw [ho]) | cases hs) hk
  unfold slmE at hs
  split at hs
  · rename_i t x' lo' hi' mx' ho
    split at hs
    · rename_i elem hu
      split at hs
      · rename_i k hxx hk'
        injection hs with hs
        injection hs with e1 hs
        injection hs with e2 hs
        injection hs with e3 hs
        injection hs with e4 e5
        subst e1; subst e2; subst e3; subst e4; subst e5
        have hvh : vh.isSome = true := by
          cases vh with
          | some _ => rfl
          | none => obtain ⟨k1, k', i', k2, _⟩ := hh; simp [aopt, look_aval k1, k2] at l3
        have hvm : ∃ z, vm = some z := by
          cases vm with
          | some z => exact ⟨z, rfl⟩
          | none => obtain ⟨k1, k', i', k2, _⟩ := hm; simp [aopt, look_aval k1, k2] at l5
        obtain ⟨z, rfl⟩ := hvm
        unfold aop
        simp only [ho, look_aval hxx, hx, l1, l3, l5]
        unfold aSlice
        simp only [hu, l2, l4, l6, hk']
        rw [if_pos hb]
        simp only [hvh, if_true]
      · cases hs
    · cases hs
  · cases hs
end
end GAb
