/- Strings joined. No statement of the seat is proved in this text. -/
import Derived.Test.YtddenboepgfbgaaAb29
set_option linter.unusedVariables false
set_option linter.unusedSimpArgs false
namespace GAb
open Go
variable {P : Program}
/-- Strings joined. -/
def sadE (P : Program) (o : Oper) : Option (Operand × Operand) :=
  match o.op with
  | .binOp .add t x y _ => match okx x, okx y, P.underlying t with
    | true, true, some .string => some (x, y)
    | _, _, _ => none
  | _ => none
section
variable {B : Base} {all : Array Oper} {W : Env → AState → Prop} {n : Nat} {env : Env} {σ : AState} {o : Oper} {rest : List Oper} {d : Option Nat} {pn : Pn}
theorem l_sad {x y : Operand} {s t : ByteArray} (hs : sadE P o = some (x, y)) (hw : wantedE all n o env = true) (hd : dsto o = some d) (h1 : look n env x = .string s) (h2 : look n env y = .string t) (hb : s.size + t.size ≤ 1000000)
    (h : Lin P B all W n pn rest (upd env d (.string (s ++ t))) σ) : Lin P B all W n pn (o :: rest) env σ := by
  unfold sadE at hs
  split at hs
  · rename_i t' x' y' yt ho
    split at hs
    · rename_i k1 k2 hu
      injection hs with hs
      injection hs with e1 e2
      subst e1; subst e2
      have g1 := look_aval (n := n) (env := env) k1
      have g2 := look_aval (n := n) (env := env) k2
      rw [h1] at g1
      rw [h2] at g2
      refine l_p hw hd (aop_bin ho g1 g2 rfl rfl rfl ?_) (by unfold rbE; rw [ho]) h
      have hb2 : (do eqGuard .add t' x' y' (.string s) (.string t); binOp .add t' (.string s) (.string t) : Sem Value) = pure (.string (s ++ t)) := by
        simp [eqGuard, binOp, Op.stringOp]
        intro hh; omega
      rw [hb2]; rfl
    · cases hs
  · cases hs
end
end GAb
