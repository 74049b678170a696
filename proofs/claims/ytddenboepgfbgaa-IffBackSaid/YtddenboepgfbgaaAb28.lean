/- A byte of a string, a number of an array. No statement of the seat is proved in this text. -/
import Derived.Test.YtddenboepgfbgaaAb27
set_option linter.unusedVariables false
set_option linter.unusedSimpArgs false
namespace GAb
open Go
variable {P : Program}
/-- A string's bytes as numbers. -/
abbrev ltr (s : ByteArray) : List Int := s.data.toList.map fun b => (b.toNat : Int)
theorem ltr_length (s : ByteArray) : (ltr s).length = s.size := by
  show (List.map _ s.data.toList).length = s.data.size
  simp
theorem ltr_at {s : ByteArray} {i : Nat} (h : i < s.size) : (ltr s).getD i 0 = ((s[i]).toNat : Int) := by
  have h' : i < s.data.size := h
  simp only [List.getD, List.getElem?_map, Array.getElem?_toList, Array.getElem?_eq_getElem h', Option.map_some, Option.getD_some]
  rfl
theorem ltr_bd (s : ByteArray) (i : Nat) : 0 ≤ (ltr s).getD i 0 ∧ (ltr s).getD i 0 ≤ 255 := by
  by_cases h : i < s.size
  · rw [ltr_at h]
    have := UInt8.toNat_lt s[i]
    omega
  · have : (ltr s).getD i 0 = 0 := by
      simp only [List.getD]
      rw [List.getElem?_eq_none (by rw [ltr_length]; omega)]
      rfl
    omega
def sxE (P : Program) (o : Oper) : Option (Operand × Operand) :=
  match o.op with
  | .index t x ix => match P.underlying t with
    | some .string => if okx x && okx ix then some (x, ix) else none
    | _ => none
  | _ => none
def sz1 (P : Program) (e : TypeId) : Bool := match tsz P e with | some j => Nat.beq j 1 | none => false
def axE (P : Program) (o : Oper) : Option (Operand × Operand × Nat) :=
  match o.op with
  | .index t x ix => match P.underlying t with
    | some (.array len e) => match P.underlying e with
      | some (.int _) => if okx x && okx ix && sz1 P e then some (x, ix, len) else none
      | _ => none
    | _ => none
  | _ => none
theorem pv_size {t : TypeId} {k : Nat} (h : tsz P t = some k) : pv P (Go.sizeOf t) = some k := by
  unfold tsz at h
  cases hi : P.info? t with
  | none => simp [hi] at h
  | some i =>
    simp only [hi, Option.map_some, Option.some.injEq] at h
    unfold Go.sizeOf typeInfo
    rw [pv_bind (a := i) (by rw [pv_bind (a := P) rfl, hi]; rfl), ← h]
    rfl
theorem aop_ix {n : Nat} {o : Oper} {env : Env} {σ : AState} {t : TypeId} {x y : Operand} {p q v : Value} (ho : o.op = .index t x y) (h1 : aval (actOf n env) x = some p) (h2 : aval (actOf n env) y = some q) (a1 : pf p = true) (a2 : pf q = true) (a3 : pf v = true)
    (a4 : pv P (Instr.index t p q) = some v) : aop P o (actOf n env) σ = some (v, σ, none) := by
  have hex : execOp (actOf n env).eval o = (do pure (.value (← Instr.index t p q))) := by
    simp only [execOp, ho, aval_eval h1, aval_eval h2]
  have hops : o.op.operands.toList = [x, y] := by simp [ho, Op.operands]
  unfold aop
  simp only [ho]
  unfold gen
  have hall : (o.op.operands.toList.all (pfOperand (actOf n env)) && noSel o.op) = true := by
    rw [hops]
    simp [pfOperand, h1, h2, a1, a2, noSel, ho]
  rw [if_pos hall]
  have hpv : pv P (execOp (actOf n env).eval o) = some (.value v) := by
    rw [hex, pv_bind a4]; rfl
  rw [hpv]
  simp [a3]
section
variable {B : Base} {all : Array Oper} {W : Env → AState → Prop} {n : Nat} {env : Env} {σ : AState} {o : Oper} {rest : List Oper} {d : Option Nat} {pn : Pn}
theorem l_sx {x ix : Operand} {s : ByteArray} {k : IntKind} {i : Int} (hs : sxE P o = some (x, ix)) (hw : wantedE all n o env = true) (hd : dsto o = some d) (hx : look n env x = .string s) (hi : look n env ix = .int k i) (hb : 0 ≤ i ∧ i < s.size)
    (h : Lin P B all W n pn rest (upd env d (.int .u8 ((ltr s).getD i.toNat 0))) σ) : Lin P B all W n pn (o :: rest) env σ := by
  unfold sxE at hs
  split at hs
  · rename_i t x' ix' ho
    split at hs
    · rename_i hu
      split at hs
      · rename_i hok
        simp only [Bool.and_eq_true] at hok
        injection hs with hs
        injection hs with e1 e2
        subst e1; subst e2
        have g1 := look_aval (n := n) (env := env) hok.1
        have g2 := look_aval (n := n) (env := env) hok.2
        rw [hx] at g1
        rw [hi] at g2
        refine l_p hw hd (aop_ix ho g1 g2 rfl rfl rfl ?_) (by unfold rbE; rw [ho]) h
        have hlt : i.toNat < s.size := by omega
        unfold Instr.index
        rw [pv_bind (a := (k, i)) rfl, pv_bind (pv_und hu)]
        have e : (if 0 ≤ i then s[i.toNat]? else none) = some s[i.toNat] := by rw [if_pos hb.1, getElem?_pos s i.toNat hlt]
        simp only [e]
        rw [ltr_at hlt]
        rfl
      · cases hs
    · cases hs
  · cases hs
theorem l_ax {x ix : Operand} {zs : List Int} {kk k : IntKind} {i : Int} {len : Nat} (hs : axE P o = some (x, ix, len)) (hw : wantedE all n o env = true) (hd : dsto o = some d) (hx : look n env x = .agg (zs.map (.int kk)).toArray) (hi : look n env ix = .int k i) (hl : zs.length = len) (hb : 0 ≤ i ∧ i < len)
    (h : Lin P B all W n pn rest (upd env d (.int kk (zs.getD i.toNat 0))) σ) : Lin P B all W n pn (o :: rest) env σ := by
  unfold axE at hs
  split at hs
  · rename_i t x' ix' ho
    split at hs
    · rename_i len' e hu
      split at hs
      · rename_i ik he
        split at hs
        · rename_i hok
          simp only [Bool.and_eq_true] at hok
          obtain ⟨⟨ok1, ok2⟩, ok3⟩ := hok
          injection hs with hs
          injection hs with e1 hs
          injection hs with e2 e3
          subst e1; subst e2; subst e3
          have hsz : tsz P e = some 1 := by
            unfold sz1 at ok3
            split at ok3
            · rename_i j hj
              rw [hj, Nat.eq_of_beq_eq_true ok3]
            · cases ok3
          have g1 := look_aval (n := n) (env := env) ok1
          have g2 := look_aval (n := n) (env := env) ok2
          rw [hx] at g1
          rw [hi] at g2
          have hpf : pf (.agg (zs.map (Value.int kk)).toArray) = true := by
            show (zs.map (Value.int kk)).all flat = true
            rw [List.all_eq_true]
            intro z hz
            obtain ⟨y, _, rfl⟩ := List.mem_map.1 hz
            rfl
          refine l_p hw hd (aop_ix ho g1 g2 hpf rfl rfl ?_) (by unfold rbE; rw [ho]) h
          have hlt : i.toNat < zs.length := by omega
          unfold Instr.index
          rw [pv_bind (a := (k, i)) rfl, pv_bind (pv_und hu)]
          simp only [hb, and_self, if_true]
          rw [pv_bind (pv_size hsz), Nat.mul_one]
          refine pv_part he ?_
          simp [List.getD, hlt]
        · cases hs
      · cases hs
    · cases hs
  · cases hs
/-- Shifts by a number that is not below 0. -/
theorem l_sh {op : BinOp} {x y : Operand} {k ky : IntKind} {p q : Int} (r : Int) (hs : dvE o = some (op, x, y)) (hw : wantedE all n o env = true) (hd : dsto o = some d) (h1 : look n env x = .int k p) (h2 : look n env y = .int ky q) (hq : 0 ≤ q)
    (hr : (op = .shr ∧ p.fdiv (2 ^ min q.toNat k.bits) = r) ∨ (op = .shl ∧ k.wrap (p * 2 ^ min q.toNat k.bits) = r)) (h : Lin P B all W n pn rest (upd env d (.int k r)) σ) : Lin P B all W n pn (o :: rest) env σ := by
  unfold dvE at hs
  split at hs
  · rename_i op' t x' y' yt ho
    split at hs
    · rename_i k1 k2
      injection hs with hs
      injection hs with e1 hs
      injection hs with e2 e3
      subst e1; subst e2; subst e3
      have g1 := look_aval (n := n) (env := env) k1
      have g2 := look_aval (n := n) (env := env) k2
      rw [h1] at g1
      rw [h2] at g2
      refine l_p hw hd (aop_bin ho g1 g2 rfl rfl rfl ?_) (by unfold rbE; rw [ho]) h
      have hq' : ¬ q < 0 := by omega
      have hb : (do eqGuard op' t x' y' (.int k p) (.int ky q); binOp op' t (.int k p) (.int ky q) : Sem Value) = pure (.int k r) := by
        rcases hr with ⟨rfl, rfl⟩ | ⟨rfl, rfl⟩ <;> simp [eqGuard, binOp, Op.shift, hq']
      rw [hb]; rfl
    · cases hs
  · cases hs
end
/-- What lies in a struct of one's own may be read ahead of a call that takes nothing. -/
theorem PnA.cel {pn : Pn} {O : Nat → Prop} {σ0 σ : AState} {L : List Fact} (F : Facts O σ0 σ L) (k : Nat) {m : Nat} {vs : List Value} (hL : L[k]? = some (cel m vs)) (h : PnA pn (fpOf []) σ) : PnA (pnAdd pn (some m)) (fpOf []) σ := by
  have hc := F.ho _ (List.mem_of_getElem? hL)
  have hm : ¬ fpOf [] m ∧ m < σ.next ∧ ∃ b, σ.get m = some b := ⟨fun ⟨f, hf, _⟩ => (by cases hf), hc.1, _, hc.2⟩
  cases pn with
  | none => exact h
  | some l =>
    intro j hj
    have : j = m ∨ j ∈ l := by simpa [pnAdd, pnl] using hj
    rcases this with rfl | hj
    · exact hm
    · exact h j hj
theorem PnA.own {pn : Pn} {O : Nat → Prop} {σ0 σ : AState} {L : List Fact} (F : Facts O σ0 σ L) (k : Nat) {m o l c es : Nat} {e : Option Nat} {vs : List Value} (hL : L[k]? = some (own (some ⟨m, o, e⟩) l c es vs)) (h : PnA pn (fpOf []) σ) : PnA (pnAdd pn (some m)) (fpOf []) σ := by
  have hc : Own 0 σ (some ⟨m, o, e⟩) l c es vs := F.ho _ (List.mem_of_getElem? hL)
  have hm : ¬ fpOf [] m ∧ m < σ.next ∧ ∃ b, σ.get m = some b := by
    obtain ⟨_, ⟨h, _⟩ | ⟨n, e', cs, h, _, _, h1, _, h2, _⟩⟩ := hc
    · cases h
    · injection h with h
      injection h with h _ _
      subst h
      exact ⟨fun ⟨f, hf, _⟩ => (by cases hf), h1, _, h2⟩
  cases pn with
  | none => exact h
  | some l =>
    intro j hj
    have : j = m ∨ j ∈ l := by simpa [pnAdd, pnl] using hj
    rcases this with rfl | hj
    · exact hm
    · exact h j hj
/-- How many bytes a string has. -/
def lnE (P : Program) (o : Oper) : Option Operand :=
  match o.op with
  | .call c => match c.callee, c.args.toList, c.argTypes[0]? with
    | .builtin .len, [x], some t => match okx x, P.underlying t with
      | true, some .string => some x
      | _, _ => none
    | _, _, _ => none
  | _ => none
section
variable {B : Base} {all : Array Oper} {W : Env → AState → Prop} {n : Nat} {env : Env} {σ : AState} {o : Oper} {rest : List Oper} {d : Option Nat} {pn : Pn}
theorem l_ln {x : Operand} {s : ByteArray} (hs : lnE P o = some x) (hw : wantedE all n o env = true) (hd : dsto o = some d) (hx : look n env x = .string s)
    (h : Lin P B all W n pn rest (upd env d (.int .i64 (s.size : Nat))) σ) : Lin P B all W n pn (o :: rest) env σ := by
  unfold lnE at hs
  split at hs
  · rename_i c ho
    split at hs
    · rename_i x' t hc ha ht
      split at hs
      · rename_i k1 hu
        injection hs with hs
        subst hs
        have g1 := look_aval (n := n) (env := env) k1
        rw [hx] at g1
        have hcar : c.args = #[x'] := by cases hcc : c.args; rw [hcc] at ha; simp at ha; rw [ha]
        refine l_p (v := .int .i64 (s.size : Nat)) hw hd ?_ (by unfold rbE; rw [ho]) h
        have hex : execOp (actOf n env).eval o = (do pure (.value (← Builtin.len_ c.argTypes o.type #[.string s]))) := by
          simp only [execOp, ho, resolve, hc, hcar, invoke, builtin]
          have : (actOf n env).eval x' = .string s := aval_eval g1
          simp [this, builtin]
        have hpl : pv P (Builtin.len_ c.argTypes o.type #[.string s]) = some (.int .i64 (s.size : Nat)) := by
          unfold Builtin.len_
          have e0 : (#[Value.string s] : Array Value)[0]? = some (.string s) := rfl
          simp only [ht, e0]
          rw [pv_bind (pv_und hu)]
          rfl
        have hops : o.op.operands.toList = [x'] := by simp [ho, Op.operands, Call.operands, hc, hcar]
        unfold aop
        simp only [ho, hc]
        unfold aBuiltin
        simp only [hcar, ht, g1]
        unfold gen
        have hall : (o.op.operands.toList.all (pfOperand (actOf n env)) && noSel o.op) = true := by
          rw [hops]
          simp [pfOperand, g1, noSel, ho, pf, flat]
        rw [if_pos hall]
        have hpv : pv P (execOp (actOf n env).eval o) = some (.value (.int .i64 (s.size : Nat))) := by
          rw [hex, pv_bind hpl]; rfl
        rw [hpv]
        simp [pf, flat]
      · cases hs
    · cases hs
  · cases hs
end
/-- The room of a nil slice. -/
def cp0E (P : Program) (o : Oper) : Option Operand :=
  match o.op with
  | .call c => match c.callee, c.args.toList, c.argTypes[0]? with
    | .builtin .cap, [x], some t => match okx x, P.underlying t with
      | true, some (.slice _) => some x
      | _, _ => none
    | _, _, _ => none
  | _ => none
section
variable {B : Base} {all : Array Oper} {W : Env → AState → Prop} {n : Nat} {env : Env} {σ : AState} {o : Oper} {rest : List Oper} {d : Option Nat} {pn : Pn}
theorem l_cp0 {x : Operand} (hs : cp0E P o = some x) (hw : wantedE all n o env = true) (hd : dsto o = some d) (hx : look n env x = .slice none 0 0)
    (h : Lin P B all W n pn rest (upd env d (.int .i64 0)) σ) : Lin P B all W n pn (o :: rest) env σ := by
  unfold cp0E at hs
  split at hs
  · rename_i c ho
    split at hs
    · rename_i x' t hc ha ht
      split at hs
      · rename_i el k1 hu
        injection hs with hs
        subst hs
        have g1 := look_aval (n := n) (env := env) k1
        rw [hx] at g1
        have hcar : c.args = #[x'] := by cases hcc : c.args; rw [hcc] at ha; simp at ha; rw [ha]
        refine l_p (v := .int .i64 0) hw hd ?_ (by unfold rbE; rw [ho]) h
        have hex : execOp (actOf n env).eval o = (do pure (.value (← Builtin.cap_ c.argTypes o.type #[.slice none 0 0]))) := by
          simp only [execOp, ho, resolve, hc, hcar, invoke, builtin]
          have : (actOf n env).eval x' = .slice none 0 0 := aval_eval g1
          simp [this, builtin]
        have hpl : pv P (Builtin.cap_ c.argTypes o.type #[.slice none 0 0]) = some (.int .i64 0) := by
          unfold Builtin.cap_
          have e0 : (#[Value.slice none 0 0] : Array Value)[0]? = some (.slice none 0 0) := rfl
          simp only [ht, e0]
          rw [pv_bind (pv_und hu)]
          rfl
        have hops : o.op.operands.toList = [x'] := by simp [ho, Op.operands, Call.operands, hc, hcar]
        unfold aop
        simp only [ho, hc]
        unfold aBuiltin
        simp only [hcar, ht, g1]
        unfold gen
        have hall : (o.op.operands.toList.all (pfOperand (actOf n env)) && noSel o.op) = true := by
          rw [hops]
          simp [pfOperand, g1, noSel, ho, pf, flat]
        rw [if_pos hall]
        have hpv : pv P (execOp (actOf n env).eval o) = some (.value (.int .i64 0)) := by
          rw [hex, pv_bind hpl]; rfl
        rw [hpv]
        simp [pf, flat]
      · cases hs
    · cases hs
  · cases hs
end
/-- .. ahead of what writes another piece. -/
theorem PnA.celE {pn : Pn} {O : Nat → Prop} {σ0 σ : AState} {L : List Fact} {g : Fact} (F : Facts O σ0 σ L) (k j : Nat) {m : Nat} {vs : List Value} (hL : L[k]? = some (GAb.cel m vs)) (hj : L[j]? = some g) (hne : k ≠ j) (h : PnA pn g.fp σ) : PnA (pnAdd pn (some m)) g.fp σ := by
  have hc := F.ho _ (List.mem_of_getElem? hL)
  have hm : ¬ g.fp m ∧ m < σ.next ∧ ∃ b, σ.get m = some b := ⟨pw_at F.di hne hL hj m rfl, hc.1, _, hc.2⟩
  cases pn with
  | none => exact h
  | some l =>
    intro j hj
    have : j = m ∨ j ∈ l := by simpa [pnAdd, pnl] using hj
    rcases this with rfl | hj
    · exact hm
    · exact h j hj
end GAb
