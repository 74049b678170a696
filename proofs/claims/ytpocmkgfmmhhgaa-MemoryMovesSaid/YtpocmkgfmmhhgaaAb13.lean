/- A walk over the abstract heap: temporaries as a function, each operation by what it leaves. No statement of the seat is proved in this text. -/
import Derived.Test.YtpocmkgfmmhhgaaAb12
import Derived.Below
set_option linter.unusedVariables false
set_option linter.unusedSimpArgs false
namespace GAb
open Go Go.RowKit

/-! ### Temporaries as a function -/
abbrev Env := Nat → Value
def upd (env : Env) (d : Option Nat) (v : Value) : Env :=
  match d with
  | some d => fun t => bif Nat.beq t d then v else env t
  | none => env
def actOf (n : Nat) (env : Env) : Act := { tmps := ((List.range n).map env).toArray, defers := [] }
theorem actOf_get (n : Nat) (env : Env) (t : Nat) : (actOf n env).tmps[t]? = if t < n then some (env t) else none := by
  simp only [actOf, List.getElem?_toArray, List.getElem?_map, List.getElem?_range]
  split
  · rename_i h; rw [List.getElem?_range h]; rfl
  · rename_i h; rw [List.getElem?_eq_none (by simp; omega)]; rfl
theorem actOf_put (n : Nat) (env : Env) (d : Option Nat) (v : Value) : (actOf n env).put d v = actOf n (upd env d v) := by
  cases d with
  | none => rfl
  | some d =>
    unfold Act.put actOf
    simp only
    congr 1
    apply Array.ext'
    apply List.ext_getElem?
    intro i
    simp only [List.setIfInBounds_toArray, List.getElem?_set, List.length_map, List.length_range, List.getElem?_map]
    by_cases hi : i < n
    · rw [List.getElem?_range hi]
      by_cases hd : d = i
      · subst hd; simp [hi, upd]
      · have : Nat.beq i d = false := by
          rw [Bool.eq_false_iff]; intro h; exact hd (Nat.eq_of_beq_eq_true h).symm
        simp [hd, upd, this]
    · have hr : (List.range n)[i]? = none := List.getElem?_eq_none (by simp; omega)
      rw [hr]
      by_cases hd : d = i
      · subst hd; simp [hi]
      · simp [hd]

def look (n : Nat) (env : Env) : Operand → Value
  | .tmp t => bif Nat.blt t n then env t else undef
  | .const v => v
  | .func f => .func (.func f) #[] #[]
  | .global g => .pointer (some ⟨g, 0, none⟩)
def okx : Operand → Bool
  | .tmp _ | .func _ => true
  | .const v => pf v
  | .global _ => false
theorem look_aval {n : Nat} {env : Env} {x : Operand} (h : okx x = true) : aval (actOf n env) x = some (look n env x) := by
  cases x with
  | tmp t =>
    simp only [aval, look]
    congr 1
    have := actOf_get n env t
    by_cases ht : t < n
    · have hb : Nat.blt t n = true := by rw [Nat.blt_eq]; exact ht
      rw [if_pos ht] at this
      rw [hb]
      simp only [cond_true]
      obtain ⟨hlt, he⟩ := Array.getElem?_eq_some_iff.1 this
      simp [Array.getD, hlt, he]
    · have hb : Nat.blt t n = false := by rw [Bool.eq_false_iff]; intro h; exact ht (by rwa [Nat.blt_eq] at h)
      rw [hb]
      simp only [cond_false]
      have : ¬ t < (actOf n env).tmps.size := by simp [actOf]; exact Nat.le_of_not_lt ht
      simp [Array.getD, this]
  | const v => simp only [okx] at h; simp [aval, look, h]
  | func f => rfl
  | global g => cases h

/-- A value whose head is written out. -/
def fv : Value → Option Value
  | .bool b => some (.bool b)
  | .int k n => some (.int k n)
  | .float k b => some (.float k b)
  | .complex k r i => some (.complex k r i)
  | .string s => some (.string s)
  | .pointer x => some (.pointer x)
  | .slice x n c => some (.slice x n c)
  | .map r => some (.map r)
  | .chan r => some (.chan r)
  | .func f a b => some (.func f a b)
  | .nilFunc => some .nilFunc
  | .iface t v => some (.iface t v)
  | .nilIface => some .nilIface
  | .agg cs => some (.agg cs)
  | .tuple vs => some (.tuple vs)
theorem fv_eq {v u : Value} (h : fv v = some u) : v = u := by
  unfold fv at h
  split at h <;> (injection h)

/-- Reckoning with whole numbers, bools and strings. -/
def bin (op : BinOp) (v u : Value) : Option Value :=
  match op, v, u with
  | .add, .int k p, .int k' q => if k = k' then some (.int k (k.wrap (p + q))) else none
  | .sub, .int k p, .int k' q => if k = k' then some (.int k (k.wrap (p - q))) else none
  | .mul, .int k p, .int k' q => if k = k' then some (.int k (k.wrap (p * q))) else none
  | .eql, .int k p, .int k' q => if k = k' then some (.bool (p == q)) else none
  | .neq, .int k p, .int k' q => if k = k' then some (.bool (p != q)) else none
  | .lss, .int k p, .int k' q => if k = k' then some (.bool (decide (p < q))) else none
  | .leq, .int k p, .int k' q => if k = k' then some (.bool (decide (p ≤ q))) else none
  | .gtr, .int k p, .int k' q => if k = k' then some (.bool (decide (p > q))) else none
  | .geq, .int k p, .int k' q => if k = k' then some (.bool (decide (p ≥ q))) else none
  | _, _, _ => none

def mm (lo : Bool) (v u : Value) : Option Value :=
  match v, u with
  | .int k p, .int k' q => if k = k' then some (.int k (bif lo then (if q < p then q else p) else (if p < q then q else p))) else none
  | _, _ => none

/-- One operation, over the values of its operands. -/
def bop (P : Program) (n : Nat) (o : Oper) (env : Env) (σ : AState) : AOut :=
  match o.op with
  | .move x | .assign x => match okx x, fv (look n env x) with
    | true, some v => some (v, σ, none)
    | _, _ => none
  | .pick c x y => match okx c, okx x, okx y, look n env c with
    | true, true, true, .bool true => (fv (look n env x)).map fun v => (v, σ, none)
    | true, true, true, .bool false => (fv (look n env y)).map fun v => (v, σ, none)
    | _, _, _, _ => none
  | .binOp op _ x y _ => match okx x, okx y, bin op (look n env x) (look n env y) with
    | true, true, some v => some (v, σ, none)
    | _, _, _ => aop P o (actOf n env) σ
  | .unOp .not _ x => match okx x, look n env x with
    | true, .bool b => some (.bool (!b), σ, none)
    | _, _ => none
  | .extract x i => match okx x, look n env x with
    | true, .tuple vs => match vs[i]? with
      | some v => (fv v).map fun v => (v, σ, none)
      | none => none
    | _, _ => none
  | .buildSlice _ _ _ => none
  | .call c => match c.callee, c.args.toList with
    | .builtin .min, [x, y] => match okx x, okx y, mm true (look n env x) (look n env y) with
      | true, true, some v => some (v, σ, none)
      | _, _, _ => none
    | .builtin .max, [x, y] => match okx x, okx y, mm false (look n env x) (look n env y) with
      | true, true, some v => some (v, σ, none)
      | _, _, _ => none
    | _, _ => aop P o (actOf n env) σ
  | _ => aop P o (actOf n env) σ

theorem pv_intBin {P : Program} {n : Nat} {o : Oper} {env : Env} {σ : AState} {op : BinOp} {t yt : TypeId} {x y : Operand} {v : Value} (ho : o.op = .binOp op t x y yt) (hx : okx x = true) (hy : okx y = true) (h : bin op (look n env x) (look n env y) = some v) :
    aop P o (actOf n env) σ = some (v, σ, none) := by
  have h1 := look_aval (n := n) (env := env) hx
  have h2 := look_aval (n := n) (env := env) hy
  generalize look n env x = p at h h1
  generalize look n env y = q at h h2
  have hex : ∀ w : Value, execOp (actOf n env).eval o = (do pure (.value (← (do eqGuard op t x y p q; binOp op t p q : Sem Value)))) := fun _ => by
    simp only [execOp, ho, aval_eval h1, aval_eval h2]
  have hops : o.op.operands.toList = [x, y] := by simp [ho, Op.operands]
  have key : pf p = true → pf q = true → pf v = true → pv P (do eqGuard op t x y p q; binOp op t p q : Sem Value) = some v → aop P o (actOf n env) σ = some (v, σ, none) := by
    intro a1 a2 a3 a4
    unfold aop
    simp only [ho, h1, h2, a1, a2, Bool.and_self, if_true]
    unfold gen
    have hall : (o.op.operands.toList.all (pfOperand (actOf n env)) && noSel o.op) = true := by
      rw [hops]
      simp [pfOperand, h1, h2, a1, a2, noSel, ho]
    rw [if_pos hall]
    have hpv : pv P (execOp (actOf n env).eval o) = some (.value v) := by
      rw [hex undef]
      generalize (do eqGuard op t x y p q; binOp op t p q : Sem Value) = s at a4 ⊢
      clear hex
      induction s with
      | pure b => simp only [pv, Option.some.injEq] at a4; subst a4; rfl
      | program k ih => simp only [pv] at a4; exact ih P a4
      | mark m k ih => simp only [pv] at a4; exact ih a4
      | _ => cases a4
    rw [hpv]
    simp [a3]
  unfold bin at h
  split at h <;> first
    | (split at h
       · rename_i hk
         subst hk
         injection h with h
         subst h
         refine key rfl rfl rfl ?_
         simp [pv, eqGuard, binOp, Op.intArith, Op.intCmp]
         rfl
       · cases h)
    | cases h

theorem pv_mm {P : Program} {n : Nat} {o : Oper} {env : Env} {σ : AState} {lo : Bool} {c : Call} {x y : Operand} {v : Value} (ho : o.op = .call c) (hc : c.callee = .builtin (if lo then .min else .max)) (ha : c.args.toList = [x, y]) (hx : okx x = true) (hy : okx y = true) (h : mm lo (look n env x) (look n env y) = some v) :
    aop P o (actOf n env) σ = some (v, σ, none) := by
  have h1 := look_aval (n := n) (env := env) hx
  have h2 := look_aval (n := n) (env := env) hy
  generalize look n env x = p at h h1
  generalize look n env y = q at h h2
  unfold mm at h
  split at h
  · rename_i k a k' b
    split at h
    · rename_i hk
      subst hk
      injection h with h
      have hm : c.args.map (actOf n env).eval = #[.int k a, .int k b] := by
        apply Array.ext'
        simp [ha, aval_eval h1, aval_eval h2]
      have hops : o.op.operands.toList = [x, y] := by cases lo <;> simp [ho, Op.operands, Call.operands, hc, ha]
      have hall : (o.op.operands.toList.all (pfOperand (actOf n env)) && noSel o.op) = true := by
        rw [hops]
        simp [pfOperand, h1, h2, noSel, ho, pf, flat]
      have hp : pv P (execOp (actOf n env).eval o) = some (.value v) := by
        cases lo with
        | true =>
          simp only [if_true] at hc
          simp only [execOp, ho, resolve, hc, pure_bind, invoke, builtin, hm]
          rw [← h]; rfl
        | false =>
          simp only [Bool.false_eq_true, if_false] at hc
          simp only [execOp, ho, resolve, hc, pure_bind, invoke, builtin, hm]
          rw [← h]; rfl
      have hb : aop P o (actOf n env) σ = gen P o (actOf n env) σ := by
        unfold aop
        simp only [ho]
        cases lo with
        | true => simp only [if_true] at hc; simp only [hc]; unfold aBuiltin; simp only [ha]
        | false => simp only [Bool.false_eq_true, if_false] at hc; simp only [hc]; unfold aBuiltin; simp only [ha]
      rw [hb]
      unfold gen
      rw [if_pos hall, hp]
      simp only
      rw [← h]; rfl
    · cases h
  · cases h

theorem bop_sound {P : Program} {n : Nat} {o : Oper} {env : Env} {σ σ' : AState} {v : Value} {wn : Option Nat} (h : bop P n o env σ = some (v, σ', wn)) : aop P o (actOf n env) σ = some (v, σ', wn) := by
  unfold bop at h
  split at h
  · rename_i x ho
    split at h
    · rename_i u hx hf
      unfold aop; simp only [ho, look_aval hx, fv_eq hf]; exact h
    · cases h
  · rename_i x ho
    split at h
    · rename_i u hx hf
      unfold aop; simp only [ho, look_aval hx, fv_eq hf]; exact h
    · cases h
  · rename_i c x y ho
    split at h
    · rename_i h1 h2 h3 h4
      cases hf : fv (look n env x) with
      | none => rw [hf] at h; cases h
      | some u =>
        rw [hf] at h
        unfold aop; simp only [ho, look_aval h1, look_aval h2, look_aval h3, h4, if_true, fv_eq hf]; exact h
    · rename_i h1 h2 h3 h4
      cases hf : fv (look n env y) with
      | none => rw [hf] at h; cases h
      | some u =>
        rw [hf] at h
        unfold aop; simp only [ho, look_aval h1, look_aval h2, look_aval h3, h4, Bool.false_eq_true, if_false, fv_eq hf]; exact h
    · cases h
  · rename_i op t x y yt ho
    split at h
    · rename_i u h1 h2 h3
      rw [← h]
      exact pv_intBin ho h1 h2 h3
    · exact h
  · rename_i t x ho
    split at h
    · rename_i b hx hl
      rw [← h]
      have h1 := look_aval (n := n) (env := env) hx
      rw [hl] at h1
      unfold aop
      simp only [ho]
      unfold gen
      have hops : o.op.operands.toList = [x] := by simp [ho, Op.operands]
      have hall : (o.op.operands.toList.all (pfOperand (actOf n env)) && noSel o.op) = true := by
        rw [hops]
        simp [pfOperand, h1, noSel, ho, pf, flat]
      rw [if_pos hall]
      have hpv : pv P (execOp (actOf n env).eval o) = some (.value (.bool (!b))) := by
        simp only [execOp, ho, aval_eval h1, Op.unary]
        rfl
      rw [hpv]
      rfl
    · cases h
  · rename_i x i ho
    split at h
    · rename_i vs hx hl
      split at h
      · rename_i u hu
        cases hf : fv u with
        | none => rw [hf] at h; cases h
        | some u' =>
          rw [hf] at h
          have h1 := look_aval (n := n) (env := env) hx
          rw [hl] at h1
          unfold aop; simp only [ho, h1, aExtract, hu, fv_eq hf]; exact h
      · cases h
    · cases h
  · cases h
  · rename_i c ho
    split at h
    · rename_i x y hc ha
      split at h
      · rename_i u h1 h2 h3
        rw [← h]
        exact pv_mm (lo := true) ho hc ha h1 h2 h3
      · cases h
    · rename_i x y hc ha
      split at h
      · rename_i u h1 h2 h3
        rw [← h]
        exact pv_mm (lo := false) ho hc ha h1 h2 h3
      · cases h
    · exact h
  · exact h

def wantedE (all : Array Oper) (n : Nat) (o : Oper) (env : Env) : Bool :=
  match o.guard with
  | none => true
  | some (j, want) => match (all[j]?).bind (·.dst) with
    | some t => match look n env (.tmp t) with
      | .bool b => b == want
      | _ => false
    | none => false
theorem wantedE_eq (all : Array Oper) (n : Nat) (o : Oper) (env : Env) : Region.wanted o (yielded all (actOf n env).tmps) = wantedE all n o env := by
  unfold Region.wanted wantedE
  cases hg : o.guard with
  | none => rfl
  | some gw =>
    obtain ⟨j, want⟩ := gw
    simp only
    unfold yielded
    cases hd : (all[j]?).bind (·.dst) with
    | none => cases want <;> rfl
    | some t =>
      simp only [Option.bind_some, actOf_get, look]
      by_cases ht : t < n
      · have hb : Nat.blt t n = true := by rw [Nat.blt_eq]; exact ht
        rw [if_pos ht, hb]
        simp only [cond_true]
        cases env t with
        | bool b => cases b <;> cases want <;> rfl
        | _ => cases want <;> rfl
      · have hb : Nat.blt t n = false := by rw [Bool.eq_false_iff]; intro h; exact ht (by rwa [Nat.blt_eq] at h)
        rw [if_neg ht, hb]
        cases want <;> rfl

def dsto (o : Oper) : Option (Option Nat) :=
  match o.dst with
  | none => some none
  | some d => some (some d)
theorem dsto_eq {o : Oper} {d : Option Nat} (h : dsto o = some d) : o.dst = d := by
  unfold dsto at h
  split at h
  · rename_i hd; injection h with h; rw [hd, h]
  · rename_i hd; injection h with h; rw [hd, h]

/-! ### The steps -/
section
variable {P : Program} {B : Base} {Q : Post} {σ : AState} {n : Nat} {env : Env}

def EOps (P : Program) (B : Base) (all : Array Oper) (rest : List Oper) (Q : Post) (n : Nat) (env : Env) (σ : AState) : Prop := SOps P B all rest Q (actOf n env) σ
def ECode (P : Program) (B : Base) (c : Code) (Q : Post) (n : Nat) (env : Env) (σ : AState) : Prop := SCode P B c Q (actOf n env) σ

theorem then_n {K : Act → AState → Prop} {a : Act} (h : K a σ) : thenS K Q .normal a σ := h
theorem then_ret {K : Act → AState → Prop} {a : Act} (h : Q .ret a σ) : thenS K Q .ret a σ := h
theorem then_exit {K : Act → AState → Prop} {a : Act} {id : Nat} (h : Q (.exit id) a σ) : thenS K Q (.exit id) a σ := h
theorem blk_n {id : Nat} {a : Act} (h : Q .normal a σ) : inBlockS id Q .normal a σ := h
theorem blk_ret {id : Nat} {a : Act} (h : Q .ret a σ) : inBlockS id Q .ret a σ := h
theorem blk_here {id : Nat} {a : Act} (h : Q .normal a σ) : inBlockS id Q (.exit id) a σ := by simpa [inBlockS] using h
theorem blk_there {id id' : Nat} {a : Act} (hne : Nat.beq id' id = false) (h : Q (.exit id') a σ) : inBlockS id Q (.exit id') a σ := by
  have : id' ≠ id := fun e => by subst e; simp at hne
  simpa [inBlockS, this] using h

theorem e_seq {x y : Code} (h : ECode P B x (thenS (fun a σ => SCode P B y Q a σ) Q) n env σ) : ECode P B (.seq x y) Q n env σ := s_seq h
theorem e_region {id : Nat} {ops : Array Oper} (h : EOps P B ops ops.toList Q n env σ) : ECode P B (.region id ops false) Q n env σ := s_region h
theorem e_block {id : Nat} {c : Code} (h : ECode P B c (inBlockS id Q) n env σ) : ECode P B (.block id c) Q n env σ := s_block h
theorem e_ret (h : Q .ret (actOf n env) σ) : ECode P B .ret Q n env σ := s_ret h
theorem e_skip (h : Q .normal (actOf n env) σ) : ECode P B .skip Q n env σ := s_skip h
theorem e_exit {id : Nat} (h : Q (.exit id) (actOf n env) σ) : ECode P B (.exit id) Q n env σ := s_exit h
theorem e_nil {ops : Array Oper} (h : Q .normal (actOf n env) σ) : EOps P B ops [] Q n env σ := o_nil h
theorem e_cond_t {c : Operand} {x y : Code} {t : Bool} (hx : okx c = true) (hc : look n env c = .bool t) (ht : t = true) (h : ECode P B x Q n env σ) : ECode P B (.cond c x y) Q n env σ :=
  s_cond (t := true) (by rw [look_aval hx, hc, ht]) h
theorem e_cond_f {c : Operand} {x y : Code} {t : Bool} (hx : okx c = true) (hc : look n env c = .bool t) (ht : t = false) (h : ECode P B y Q n env σ) : ECode P B (.cond c x y) Q n env σ :=
  s_cond (t := false) (by rw [look_aval hx, hc, ht]) h

theorem e_op {all : Array Oper} {o : Oper} {rest : List Oper} {v : Value} {σ' : AState} {d : Option Nat} (hw : wantedE all n o env = true) (ho : bop P n o env σ = some (v, σ', none)) (hd : dsto o = some d) (h : EOps P B all rest Q n (upd env d v) σ') : EOps P B all (o :: rest) Q n env σ := by
  refine o_op (by rw [wantedE_eq]; exact hw) (bop_sound ho) (fun _ h => by cases h) ?_
  rw [actOf_put, dsto_eq hd]; exact h
/-- .. whose value is put in another way. -/
theorem e_opv {all : Array Oper} {o : Oper} {rest : List Oper} {v : Value} (u : Value) {σ' : AState} {d : Option Nat} (hw : wantedE all n o env = true) (ho : bop P n o env σ = some (v, σ', none)) (hu : v = u) (hd : dsto o = some d) (h : EOps P B all rest Q n (upd env d u) σ') : EOps P B all (o :: rest) Q n env σ := by
  subst hu; exact e_op hw ho hd h
/-- .. a test whose answer is known. -/
theorem e_t {all : Array Oper} {o : Oper} {rest : List Oper} {c : Bool} {σ' : AState} {d : Option Nat} (hw : wantedE all n o env = true) (ho : bop P n o env σ = some (.bool c, σ', none)) (hu : c = true) (hd : dsto o = some d) (h : EOps P B all rest Q n (upd env d (.bool true)) σ') : EOps P B all (o :: rest) Q n env σ := by
  subst hu; exact e_op hw ho hd h
theorem e_f {all : Array Oper} {o : Oper} {rest : List Oper} {c : Bool} {σ' : AState} {d : Option Nat} (hw : wantedE all n o env = true) (ho : bop P n o env σ = some (.bool c, σ', none)) (hu : c = false) (hd : dsto o = some d) (h : EOps P B all rest Q n (upd env d (.bool false)) σ') : EOps P B all (o :: rest) Q n env σ := by
  subst hu; exact e_op hw ho hd h
/-- .. that writes. -/
theorem e_w {all : Array Oper} {o : Oper} {rest : List Oper} {v : Value} {σ' : AState} {m : Nat} {d : Option Nat} (hw : wantedE all n o env = true) (ho : bop P n o env σ = some (v, σ', some m)) (hD : B.D m) (hd : dsto o = some d) (h : EOps P B all rest Q n (upd env d v) σ') : EOps P B all (o :: rest) Q n env σ := by
  refine o_op (by rw [wantedE_eq]; exact hw) (bop_sound ho) (fun k h => by injection h with h; subst h; exact hD) ?_
  rw [actOf_put, dsto_eq hd]; exact h
/-- .. that is not wanted. -/
theorem e_s {all : Array Oper} {o : Oper} {rest : List Oper} {d : Option Nat} (hw : wantedE all n o env = false) (hd : dsto o = some d) (h : EOps P B all rest Q n (upd env d undef) σ) : EOps P B all (o :: rest) Q n env σ := by
  refine o_skip (by rw [wantedE_eq]; exact hw) ?_
  rw [actOf_put, dsto_eq hd]; exact h

def looks (n : Nat) (env : Env) : List Operand → List Value
  | [] => []
  | x :: xs => look n env x :: looks n env xs
def okxs : List Operand → Bool
  | [] => true
  | x :: xs => okx x && okxs xs
theorem looks_avals : ∀ {xs : List Operand}, okxs xs = true → avals (actOf n env) xs = some (looks n env xs)
  | [], _ => rfl
  | x :: xs, h => by
    simp only [okxs, Bool.and_eq_true] at h
    simp only [avals, look_aval h.1, looks_avals h.2, looks]
/-- A call by name. -/
def callE (P : Program) (n : Nat) (o : Oper) (env : Env) : Option (FuncId × List Value) :=
  match o.op with
  | .call c => match c.callee with
    | .value (.func g) => match okxs c.args.toList with
      | true => some (g, looks n env c.args.toList)
      | false => none
    | _ => none
  | _ => none
theorem callE_target {o : Oper} {g : FuncId} {vs : List Value} (h : callE P n o env = some (g, vs)) {fn : Func} (hf : P.funcs[g]? = some fn) (hb : (fn.body.isSome && fn.name != "runtime.NumGoroutine") = true) : target P o (actOf n env) = some (g, vs) := by
  unfold callE at h
  split at h
  · rename_i c ho
    split at h
    · rename_i g' hc
      split at h
      · rename_i hx
        injection h with h
        injection h with e1 e2
        subst e1; subst e2
        unfold target
        simp only [ho, hc, aval, looks_avals hx, hf, hb, if_true]
        simp
      · cases h
    · cases h
  · cases h
theorem e_call {all : Array Oper} {o : Oper} {rest : List Oper} {g : FuncId} {vs : List Value} {fn : Func} {D : Nat → Prop} {R : Value → AState → Prop} {d : Option Nat} (hd : dsto o = some d) (hw : wantedE all n o env = true) (ht : callE P n o env = some (g, vs)) (hf : P.funcs[g]? = some fn) (hb : (fn.body.isSome && fn.name != "runtime.NumGoroutine") = true)
    (hc : SCall P D g vs σ R) (hD : ∀ m, D m → B.D m) (h : ∀ v σ', R v σ' → EOps P B all rest Q n (upd env d v) σ') : EOps P B all (o :: rest) Q n env σ := by
  refine o_call (by rw [wantedE_eq]; exact hw) (callE_target ht hf hb) hD (hc.mono (fun _ _ h => h) fun v σ' hR => ?_)
  rw [actOf_put, dsto_eq hd]; exact h v σ' hR
/-- A call that leaves the heap as it is. -/
theorem e_c {all : Array Oper} {o : Oper} {rest : List Oper} {g : FuncId} {vs : List Value} {fn : Func} {v : Value} {d : Option Nat} (hd : dsto o = some d) (hw : wantedE all n o env = true) (ht : callE P n o env = some (g, vs)) (hf : P.funcs[g]? = some fn) (hb : (fn.body.isSome && fn.name != "runtime.NumGoroutine") = true)
    (hc : SCall P (fun _ => False) g vs σ fun u s => u = v ∧ s = σ) (h : EOps P B all rest Q n (upd env d v) σ) : EOps P B all (o :: rest) Q n env σ :=
  e_call hd hw ht hf hb hc (fun _ h => h.elim) fun u s ⟨h1, h2⟩ => by subst h1; subst h2; exact h

def argEnv (args : List Value) : Env := fun t => args.getD t undef
theorem e_fun {D : Nat → Prop} {f : FuncId} {fn : Func} {c : Code} {args : List Value} {R : Value → AState → Prop} {m : Nat} (hf : P.funcs[f]? = some fn) (hb : fn.body = some c) (hm : max fn.ntmps args.length = m)
    (h : ∀ B : Base, B.D = D → ECode P B c (fun e a σ' => (e = .normal ∨ e = .ret) ∧ ∃ v, aResults P fn a σ' = some v ∧ R v σ') m (argEnv args) σ) : SCall P D f args σ R := by
  refine s_fun hf hb fun B hB => ?_
  have : enterAct fn args = actOf m (argEnv args) := by
    unfold enterAct actOf
    congr 1
    apply Array.ext'
    apply List.ext_getElem?
    intro i
    simp only [Array.toList_append, List.toList_toArray, Array.toList_replicate, List.getElem?_append, List.getElem?_replicate, List.getElem?_map]
    by_cases hi : i < args.length
    · rw [if_pos hi, List.getElem?_range (by omega)]
      simp [argEnv, List.getD, hi]
    · rw [if_neg hi]
      by_cases hi2 : i < m
      · rw [if_pos (by omega), List.getElem?_range hi2]
        simp [argEnv, List.getD, List.getElem?_eq_none (show args.length ≤ i by omega)]
      · rw [if_neg (by omega), List.getElem?_eq_none (by simp; omega)]
        rfl
  rw [this]
  exact h B hB

/-- The results that lie in temporaries. -/
def resE (n : Nat) (env : Env) : List ResultVar → Option (List Value)
  | [] => some []
  | .tmp t :: rs => match fv (look n env (.tmp t)), resE n env rs with
    | some v, some vs => some (v :: vs)
    | _, _ => none
  | .cell .. :: _ => none
theorem resE_rsv : ∀ {rs : List ResultVar} {vs : List Value}, resE n env rs = some vs → rsv P (actOf n env) σ rs = some vs
  | [], vs, h => h
  | .tmp t :: rs, vs, h => by
    simp only [resE] at h
    split at h
    · rename_i v vs' h1 h2
      injection h with h
      subst h
      have := look_aval (n := n) (env := env) (x := .tmp t) rfl
      simp only [aval, Option.some.injEq] at this
      simp only [rsv, resE_rsv h2, this, fv_eq h1, Option.map_some]
    · cases h
  | .cell .. :: _, vs, h => by simp [resE] at h
theorem e_done {fn : Func} {R : Value → Prop} {e : Exit} {vs : List Value} {v : Value} (he : e = .normal ∨ e = .ret) (hr : resE n env fn.results.toList = some vs) (hv : one vs = v) (hR : R v) :
    (e = .normal ∨ e = .ret) ∧ ∃ v, aResults P fn (actOf n env) σ = some v ∧ R v := ⟨he, v, by unfold aResults; rw [resE_rsv hr, Option.map_some, hv], hR⟩
end

/-! ### From a law's call to its row -/
theorem below_of_ro {w w' : World} {D : Nat → Prop} {φ φ' : Ren} {σ σ' : AState} (hro : ∀ n b, σ.get n = some b → b.ro = true) (h : Goes D φ σ w φ' σ' w') : Below w.heap.size w w' :=
  ⟨h.os, h.tape, h.output, h.size, fun i hi => h.kept i hi fun n b p hb hf => by rw [hro n b hb] at hf; cases hf⟩

theorem hrel_empty (w : World) : HRel (fun _ => none) empty w :=
  ⟨fun _ _ => rfl, fun n _ => get_empty n, (fun n b h => by rw [get_empty] at h; cases h), (fun n m bn bm p q h => by rw [get_empty] at h; cases h), (fun n p h => by cases h)⟩

theorem lrel_pf {φ : Ren} {vs : List Value} (h : vs.all pf = true) : LRel φ vs vs := by
  induction vs with
  | nil => exact .nil
  | cons v vs ih => simp only [List.all_cons, Bool.and_eq_true] at h; exact .cons (pf_rel h.1) (ih h.2)

/-- A law over values without places. -/
theorem law_pf {P : Program} {D : Nat → Prop} {f : FuncId} {args : List Value} (ha : args.all pf = true) (h : SCall P D f args empty fun v _ => v = .bool true) (w : World) :
    Calls P f args.toArray w fun e w' => e = .returned (.bool true) ∧ Below w.heap.size w w' :=
  (h _ w args (hrel_empty w) (lrel_pf ha)).mono fun e w' ⟨v, σ', φ', u, he, hv, hu, hg⟩ => by
    subst hv
    have : u = .bool true := pf_eq rfl hu
    subst this
    exact ⟨he, below_of_ro (fun n b h => by rw [get_empty] at h; cases h) hg⟩

end GAb
