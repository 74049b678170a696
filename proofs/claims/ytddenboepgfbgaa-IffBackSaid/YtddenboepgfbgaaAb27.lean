/- Two structs of numbers are compared. No statement of the seat is proved in this text. -/
import Derived.Test.YtddenboepgfbgaaAb26
set_option linter.unusedVariables false
set_option linter.unusedSimpArgs false
namespace GAb
open Go
variable {P : Program}
theorem pv_bind {α β : Type} {s : Sem α} {f : α → Sem β} {a : α} (h : pv P s = some a) : pv P (s >>= f) = pv P (f a) := by
  induction s with
  | pure b => simp only [pv, Option.some.injEq] at h; subst h; rfl
  | program k ih => simp only [pv] at h; exact ih P h
  | mark m k ih => simp only [pv] at h; exact ih h
  | _ => cases h
theorem pv_und {t : TypeId} {d : TypeDesc} (h : P.underlying t = some d) : pv P (underlying t) = some d := by
  unfold underlying
  rw [pv_bind (a := P) rfl, h]; rfl
theorem pv_eqI {t : TypeId} {k : IntKind} {a b : Int} {d : Nat} (hd : P.underlying t = some (.int k)) : pv P (Op.equalIn (d + 1) t (.int k a) (.int k b)) = some (a == b) := by
  unfold Op.equalIn
  rw [pv_bind (pv_und hd)]
  simp only [if_true]
  rfl
theorem pv_agg {t : TypeId} {k : IntKind} (hd : P.underlying t = some (.int k)) : pv P (isAgg t) = some false := by
  unfold isAgg
  rw [pv_bind (pv_und hd)]; rfl
theorem pv_part {t : TypeId} {k : IntKind} {cs : Array Value} {off : Nat} {v : Value} (hd : P.underlying t = some (.int k)) (hv : cs[off]? = some v) : pv P (part t cs off) = some v := by
  unfold part
  rw [pv_bind (pv_agg hd)]
  simp only [Bool.false_eq_true, if_false, hv]
  rfl
theorem pv_eq2 {t : TypeId} {f0 f1 : Field} {k0 k1 : IntKind} {a0 a1 b0 b1 : Int} {d : Nat} (ht : P.underlying t = some (.struct #[f0, f1])) (hs : P.stoodInHeld t = false) (n0 : f0.name ≠ "_") (n1 : f1.name ≠ "_")
    (h0 : P.underlying f0.type = some (.int k0)) (h1 : P.underlying f1.type = some (.int k1)) (o0 : f0.offset = 0) (o1 : f1.offset = 1) :
    pv P (Op.equalIn (d + 2) t (.agg #[.int k0 a0, .int k1 a1]) (.agg #[.int k0 b0, .int k1 b1])) = some (a0 == b0 && a1 == b1) := by
  unfold Op.equalIn
  rw [pv_bind (pv_und ht)]
  simp only
  rw [pv_bind (a := P) rfl]
  simp only [hs, Bool.false_eq_true, if_false]
  have step : ∀ (f : Field) (k : IntKind) (x y : Int) (cs ds : Array Value), f.name ≠ "_" → P.underlying f.type = some (.int k) → cs[f.offset]? = some (.int k x) → ds[f.offset]? = some (.int k y) →
      pv P (if f.name ≠ "_" then (do
              let a ← part f.type cs f.offset
              let b ← part f.type ds f.offset
              let c ← Op.equalIn (d + 1) f.type a b
              if (!c) = true then pure (ForInStep.done (some false, ())) else pure (ForInStep.yield (none, ())) : Sem (ForInStep (Option Bool × Unit)))
            else pure (ForInStep.yield (none, ()))) = some (if (x == y) = true then ForInStep.yield (none, ()) else ForInStep.done (some false, ())) := by
    intro f k x y cs ds hn hf hx hy
    rw [if_pos hn, pv_bind (pv_part hf hx), pv_bind (pv_part hf hy), pv_bind (pv_eqI hf)]
    cases (x == y) <;> rfl
  rw [← Array.forIn_toList]
  simp only [List.forIn_cons]
  have e0 := step f0 k0 a0 b0 #[.int k0 a0, .int k1 a1] #[.int k0 b0, .int k1 b1] n0 h0 (by rw [o0]; rfl) (by rw [o0]; rfl)
  have e1 := step f1 k1 a1 b1 #[.int k0 a0, .int k1 a1] #[.int k0 b0, .int k1 b1] n1 h1 (by rw [o1]; rfl) (by rw [o1]; rfl)
  cases ha : (a0 == b0)
  · rw [ha] at e0
    exact (pv_bind (a := (some false, ())) ((pv_bind e0).trans rfl)).trans rfl
  · rw [ha] at e0
    cases hb : (a1 == b1)
    · rw [hb] at e1
      exact (pv_bind (a := (some false, ())) ((pv_bind e0).trans ((pv_bind e1).trans rfl))).trans rfl
    · rw [hb] at e1
      exact (pv_bind (a := (none, ())) ((pv_bind e0).trans ((pv_bind e1).trans rfl))).trans rfl

theorem aop_bin {n : Nat} {o : Oper} {env : Env} {σ : AState} {op : BinOp} {t yt : TypeId} {x y : Operand} {p q v : Value} (ho : o.op = .binOp op t x y yt) (h1 : aval (actOf n env) x = some p) (h2 : aval (actOf n env) y = some q) (a1 : pf p = true) (a2 : pf q = true) (a3 : pf v = true)
    (a4 : pv P (do eqGuard op t x y p q; binOp op t p q : Sem Value) = some v) : aop P o (actOf n env) σ = some (v, σ, none) := by
  have hex : ∀ w : Value, execOp (actOf n env).eval o = (do pure (.value (← (do eqGuard op t x y p q; binOp op t p q : Sem Value)))) := fun _ => by
    simp only [execOp, ho, aval_eval h1, aval_eval h2]
  have hops : o.op.operands.toList = [x, y] := by simp [ho, Op.operands]
  unfold aop
  simp only [ho, h1, h2, a1, a2, Bool.and_self, if_true]
  unfold gen
  have hall : (o.op.operands.toList.all (pfOperand (actOf n env)) && noSel o.op) = true := by
    rw [hops]
    simp [pfOperand, h1, h2, a1, a2, noSel, ho]
  rw [if_pos hall]
  have hpv : pv P (execOp (actOf n env).eval o) = some (.value v) := by
    rw [hex undef, pv_bind a4]; rfl
  rw [hpv]
  simp [a3]

/-- Two structs of two numbers, unlike or alike. -/
def cm2E (P : Program) (n : Nat) (o : Oper) (env : Env) : Option (Bool × Int × Int × Int × Int) :=
  match o.op with
  | .binOp op t x y _ =>
    if okx x && okx y && (op == .eql || op == .neq) && !P.eqGuardType P.depth t && !P.stoodInHeld t then
      match P.underlying t, look n env x, look n env y with
      | some (.struct fs), .agg cs, .agg ds => match fs.toList, cs.toList, ds.toList with
        | [f0, f1], [.int k0 a0, .int k1 a1], [.int j0 b0, .int j1 b1] =>
          match P.underlying f0.type, P.underlying f1.type with
          | some (.int i0), some (.int i1) =>
            if k0 = i0 ∧ k1 = i1 ∧ j0 = i0 ∧ j1 = i1 ∧ f0.name ≠ "_" ∧ f1.name ≠ "_" ∧ f0.offset = 0 ∧ f1.offset = 1 then some (op == .neq, a0, a1, b0, b1) else none
          | _, _ => none
        | _, _, _ => none
      | _, _, _ => none
    else none
  | _ => none
theorem cm2E_sound {n : Nat} {o : Oper} {env : Env} {σ : AState} {ng : Bool} {a0 a1 b0 b1 : Int} (h : cm2E P n o env = some (ng, a0, a1, b0, b1)) :
    aop P o (actOf n env) σ = some (.bool (if ng then !(a0 == b0 && a1 == b1) else (a0 == b0 && a1 == b1)), σ, none) ∧ rbE n o env = none := by
  unfold cm2E at h
  split at h
  · rename_i op t x y yt ho
    split at h
    · rename_i hc
      simp only [Bool.and_eq_true, Bool.or_eq_true, beq_iff_eq, Bool.not_eq_true'] at hc
      obtain ⟨⟨⟨⟨hx, hy⟩, hop⟩, hg⟩, hs⟩ := hc
      split at h
      · rename_i fs cs ds ht hlx hly
        split at h
        · rename_i f0 f1 k0 a0' k1 a1' j0 b0' j1 b1' hfs hcs hds
          split at h
          · rename_i i0 i1 h0 h1
            split at h
            · rename_i hh
              obtain ⟨rfl, rfl, rfl, rfl, hn0, hn1, ho0, ho1⟩ := hh
              injection h with h
              injection h with e0 h
              injection h with e1 h
              injection h with e2 h
              injection h with e3 e4
              subst e1; subst e2; subst e3; subst e4
              obtain rfl : fs = #[f0, f1] := by cases fs; simp_all
              obtain rfl : cs = #[.int j0 a0', .int j1 a1'] := by cases cs; simp_all
              obtain rfl : ds = #[.int j0 b0', .int j1 b1'] := by cases ds; simp_all
              have key := pv_eq2 (a0 := a0') (a1 := a1') (b0 := b0') (b1 := b1') (d := 9998) ht hs hn0 hn1 h0 h1 ho0 ho1
              have g1 := look_aval (n := n) (env := env) hx
              have g2 := look_aval (n := n) (env := env) hy
              rw [hlx] at g1
              rw [hly] at g2
              refine ⟨?_, by unfold rbE; rw [ho]⟩
              have guard : pv P (eqGuard op t x y (.agg #[.int j0 a0', .int j1 a1']) (.agg #[.int j0 b0', .int j1 b1'])) = some () := by
                rcases hop with rfl | rfl
                · unfold eqGuard
                  simp only [Bool.not_true, Bool.false_eq_true, if_false]
                  rw [pv_bind (a := P) rfl, pv_bind (a := P) rfl]
                  simp only [hg, Bool.not_false, if_true]
                  rfl
                · unfold eqGuard
                  simp only [Bool.not_true, Bool.false_eq_true, if_false]
                  rw [pv_bind (a := P) rfl, pv_bind (a := P) rfl]
                  simp only [hg, Bool.not_false, if_true]
                  rfl
              refine aop_bin ho g1 g2 rfl rfl rfl ?_
              rw [pv_bind guard]
              rcases hop with rfl | rfl
              · have e : binOp .eql t (.agg #[.int j0 a0', .int j1 a1']) (.agg #[.int j0 b0', .int j1 b1']) = (Op.equalIn 10000 t (.agg #[.int j0 a0', .int j1 a1']) (.agg #[.int j0 b0', .int j1 b1']) >>= fun b => pure (Value.bool b)) := rfl
                rw [e, pv_bind key]; subst e0; rfl
              · have e : binOp .neq t (.agg #[.int j0 a0', .int j1 a1']) (.agg #[.int j0 b0', .int j1 b1']) = (Op.equalIn 10000 t (.agg #[.int j0 a0', .int j1 a1']) (.agg #[.int j0 b0', .int j1 b1']) >>= fun b => pure (Value.bool (!b))) := rfl
                rw [e, pv_bind key]; subst e0; rfl
            · cases h
          · cases h
        · cases h
      · cases h
    · cases h
  · cases h
section
variable {B : Base} {all : Array Oper} {W : Env → AState → Prop} {n : Nat} {env : Env} {σ : AState} {o : Oper} {rest : List Oper} {d : Option Nat} {pn : Pn}
theorem l_cm2 {ng : Bool} {a0 a1 b0 b1 : Int} (hs : cm2E P n o env = some (ng, a0, a1, b0, b1)) (hw : wantedE all n o env = true) (hd : dsto o = some d)
    (h : Lin P B all W n pn rest (upd env d (.bool (irr (if ng then !(a0 == b0 && a1 == b1) else (a0 == b0 && a1 == b1))))) σ) : Lin P B all W n pn (o :: rest) env σ := by
  obtain ⟨h1, h2⟩ := cm2E_sound (σ := σ) hs
  rw [irr_eq] at h
  exact l_p hw hd h1 h2 h
end
end GAb
