/- The operations on rows in a walk. No statement of the seat is proved in this text. -/
import Derived.Test.YtpocmkgfmmhhgaaAb14
set_option linter.unusedVariables false
set_option linter.unusedSimpArgs false
namespace GAb
open Go Go.RowKit

def fvs : List Value → Option (List Value)
  | [] => some []
  | v :: vs => match fv v, fvs vs with
    | some v, some vs => some (v :: vs)
    | _, _ => none
theorem fvs_eq : ∀ {vs us : List Value}, fvs vs = some us → vs = us
  | [], us, h => by simpa [fvs] using h
  | v :: vs, us, h => by
    simp only [fvs] at h
    split at h
    · rename_i v' vs' h1 h2
      injection h with h
      rw [← h, fv_eq h1, fvs_eq h2]
    · cases h

def looksP (n : Nat) (env : Env) : List (Nat × Operand) → List (Nat × Value)
  | [] => []
  | (i, x) :: xs => (i, look n env x) :: looksP n env xs
def okxP : List (Nat × Operand) → Bool
  | [] => true
  | (_, x) :: xs => okx x && okxP xs
theorem looksP_aparts {n : Nat} {env : Env} : ∀ {xs : List (Nat × Operand)}, okxP xs = true → aparts (actOf n env) xs = some (looksP n env xs)
  | [], _ => rfl
  | (i, x) :: xs, h => by
    simp only [okxP, Bool.and_eq_true] at h
    simp only [aparts, look_aval h.1, looksP_aparts h.2, looksP]

theorem foldl_set_size (off : Nat) : ∀ (l : List (Value × Nat)) (a : Array Value), (l.foldl (fun cs (x : Value × Nat) => cs.setIfInBounds (off + x.2) x.1) a).size = a.size
  | [], _ => rfl
  | x :: l, a => by rw [List.foldl_cons, foldl_set_size off l]; simp
theorem fill_size (place : Nat → Option (Nat × Nat)) : ∀ (ps : List (Nat × Value)) (a c : Array Value), Instr.fill place a ps = some c → c.size = a.size
  | [], a, c, h => by simp only [Instr.fill, Option.some.injEq] at h; rw [h]
  | (i, v) :: ps, a, c, h => by
    unfold Instr.fill at h
    split at h
    · cases h
    · split at h
      · cases h
      · rw [fill_size place ps _ _ h]
        rw [← Array.foldl_toList]
        exact foldl_set_size _ _ _

/-- A slice written out: its length, an element's cells, all cells. -/
def litE (P : Program) (n : Nat) (o : Oper) (env : Env) : Option (Nat × Nat × List Value) :=
  match o.op with
  | .buildSlice t len ps => match okxP ps.toList, P.underlying t with
    | true, some (.slice elem) => match tsz P elem, tz P elem with
      | some k, some z => match Nat.ble (len * k) 16777216, z.cells.toList.all flat, Nat.beq z.cells.size k with
        | true, true, true => match Instr.fill (fun i => some (i * k, k)) (zrow z.cells.toList len).toArray (looksP n env ps.toList) with
          | some c => match fvs c.toList with
            | some vs => some (len, k, vs)
            | none => none
          | none => none
        | _, _, _ => none
      | _, _ => none
    | _, _ => none
  | _ => none
theorem litE_sound {P : Program} {n : Nat} {o : Oper} {env : Env} {len k : Nat} {vs : List Value} (h : litE P n o env = some (len, k, vs)) (σ : AState) :
    aop P o (actOf n env) σ = some (.slice (some ⟨σ.next, 0, some 0⟩) len len, σ.alloc ⟨vs, k, false⟩, none) ∧ vs.length = len * k := by
  unfold litE at h
  split at h
  · rename_i t len' ps ho
    split at h
    · rename_i elem hx hu
      split at h
      · rename_i k' z hk hz
        split at h
        · rename_i h1 h2 h3
          split at h
          · rename_i c hc
            split at h
            · rename_i us hus
              injection h with h
              injection h with e1 e2
              injection e2 with e2 e3
              subst e1; subst e2; subst e3
              have h1' : len' * k' ≤ 2 ^ 24 := by have := Nat.le_of_ble_eq_true h1; omega
              have h3' : z.cells.size = k' := Nat.eq_of_beq_eq_true h3
              have hcs := fvs_eq hus
              refine ⟨?_, ?_⟩
              · unfold aop aBuildSlice
                simp only [ho, looksP_aparts hx, hu, hk, hz]
                rw [if_pos ⟨h1', h2, h3'⟩]
                simp only [hc, Option.map_some, hcs]
              · rw [← hcs, Array.length_toList, fill_size _ _ _ _ hc]
                simp [zrow_length, h3']
            · cases h
          · cases h
        · cases h
      · cases h
    · cases h
  · cases h

section
variable {P : Program} {B : Base} {Q : Post} {σ : AState} {n : Nat} {env : Env}

theorem e_aop {all : Array Oper} {o : Oper} {rest : List Oper} {v : Value} {σ' : AState} {wn : Option Nat} {d : Option Nat} (hw : wantedE all n o env = true) (ho : aop P o (actOf n env) σ = some (v, σ', wn)) (hD : ∀ m, wn = some m → B.D m) (hd : dsto o = some d) (h : EOps P B all rest Q n (upd env d v) σ') : EOps P B all (o :: rest) Q n env σ := by
  refine o_op (by rw [wantedE_eq]; exact hw) ho hD ?_
  rw [actOf_put, dsto_eq hd]; exact h

/-- A slice written out. -/
theorem e_lit {all : Array Oper} {o : Oper} {rest : List Oper} {len k n0 : Nat} {vs : List Value} {d : Option Nat} (hw : wantedE all n o env = true) (hl : litE P n o env = some (len, k, vs)) (hd : dsto o = some d) (hn : n0 ≤ σ.next)
    (h : ∀ q σ', Own n0 σ' (some q) len len k vs → Kp n0 σ σ' → EOps P B all rest Q n (upd env d (.slice (some q) len len)) σ') : EOps P B all (o :: rest) Q n env σ := by
  obtain ⟨h1, h2⟩ := litE_sound hl σ
  refine e_aop hw h1 (fun _ h => by cases h) hd (h _ _ ?_ (Kp.alloc _ hn))
  have := own_alloc (n0 := n0) (len := len) (cap := len) (σ := σ) (some 0) (.inr rfl) hn h2 (Nat.le_refl _)
  rwa [List.take_of_length_le (by omega)] at this

/-- An append: what is appended to, what is appended, an element's cells and bytes. -/
def appE (P : Program) (o : Oper) : Option (Operand × Operand × TypeId × Nat × Nat) :=
  match o.op with
  | .call c => match c.callee, c.args.toList, c.argTypes[0]?, c.argTypes[1]? with
    | .builtin .append, [x, y], some st, some xt => match okx x, okx y, P.underlying st, P.underlying xt with
      | true, true, some (.slice elem), some xd => match isInt (some xd), tsz P elem, tz P elem, tby P elem with
        | false, some k, some z, some b => match Nat.beq z.cells.size k with
          | true => some (x, y, elem, k, b)
          | false => none
        | _, _, _, _ => none
      | _, _, _, _ => none
    | _, _, _, _ => none
  | _ => none
theorem appE_sound {o : Oper} {x y : Operand} {elem : TypeId} {k b : Nat} (h : appE P o = some (x, y, elem, k, b)) {s v : Value} {m : Nat} {ns : List Value} (hx : look n env x = s) (hy : look n env y = v) (hl : aLen v = some m) (hc : aCells σ k m v = some ns) :
    aop P o (actOf n env) σ = aTail P elem k m ns s σ ∧ (∃ z, tz P elem = some z ∧ z.cells.size = k) ∧ tby P elem = some b := by
  unfold appE at h
  split at h
  · rename_i c ho
    split at h
    · rename_i x' y' st xt hc1 hc2 hc3 hc4
      split at h
      · rename_i elem' xd hx' hy' hu1 hu2
        split at h
        · rename_i k' z b' hi h1 h2 h3
          split at h
          · rename_i hz
            injection h with h
            injection h with e1 h
            injection h with e2 h
            injection h with e3 h
            injection h with e4 e5
            subst e1; subst e2; subst e3; subst e4; subst e5
            refine ⟨?_, ⟨z, h2, Nat.eq_of_beq_eq_true hz⟩, h3⟩
            unfold aop
            simp only [ho, hc1]
            unfold aBuiltin
            simp only [hc2, look_aval hx', look_aval hy', hx, hy]
            unfold aAppend
            simp only [hc3, hc4, hu1, hu2, h1, h2, h3, hi, Bool.false_eq_true, if_false, hl, hc]
          · cases h
        · cases h
      · cases h
    · cases h
  · cases h

theorem e_app {all : Array Oper} {o : Oper} {rest : List Oper} {x y : Operand} {elem : TypeId} {es by_ n0 len cap m : Nat} {a : Option Addr} {v : Value} {vs ns : List Value} {d : Option Nat} (hw : wantedE all n o env = true) (ha : appE P o = some (x, y, elem, es, by_)) (hd : dsto o = some d)
    (hx : look n env x = .slice a len cap) (hy : look n env y = v) (hO : Own n0 σ a len cap es vs) (hl : aLen v = some m) (hc : aCells σ es m v = some ns) (h1 : ns.all Value.oneCell' = true) (hbd : (len + m) * by_ ≤ 140737488355328 ∧ len + m ≤ 4611686018427387904) (hD : ∀ m, n0 ≤ m → B.D m)
    (h : ∀ a' cap' σ', Own n0 σ' a' (len + m) cap' es (vs ++ ns) → Kp n0 σ σ' → EOps P B all rest Q n (upd env d (.slice a' (len + m) cap')) σ') : EOps P B all (o :: rest) Q n env σ := by
  obtain ⟨k1, ⟨z, k2, k3⟩, k4⟩ := appE_sound ha hx hy hl hc
  have hlen : ns.length = m * es := aCells_length hc
  obtain ⟨x', cap', σ', wn, j1, j2, j3, j4⟩ := aTail_own hO k2 k3 k4 hlen h1 hbd
  exact e_aop hw (k1.trans j1) (fun m hm => hD m (j2 m hm)) hd (h _ _ _ j3 j4)
/-- .. of what a slice shows. -/
theorem e_apps {all : Array Oper} {o : Oper} {rest : List Oper} {x y : Operand} {elem : TypeId} {es by_ n0 len cap m c2 : Nat} {a a2 : Option Addr} {vs ns : List Value} {d : Option Nat} (hw : wantedE all n o env = true) (ha : appE P o = some (x, y, elem, es, by_)) (hd : dsto o = some d)
    (hx : look n env x = .slice a len cap) (hy : look n env y = .slice a2 m c2) (hO : Own n0 σ a len cap es vs) (hH : Has σ a2 m c2 es ns) (h1 : ns.all Value.oneCell' = true) (hbd : (len + m) * by_ ≤ 140737488355328 ∧ len + m ≤ 4611686018427387904) (hD : ∀ m, n0 ≤ m → B.D m)
    (h : ∀ a' cap' σ', Own n0 σ' a' (len + m) cap' es (vs ++ ns) → Kp n0 σ σ' → EOps P B all rest Q n (upd env d (.slice a' (len + m) cap')) σ') : EOps P B all (o :: rest) Q n env σ := by
  have hc := hH.cells m (Nat.le_refl _)
  rw [List.take_of_length_le (by rw [hH.size]; omega)] at hc
  exact e_app hw ha hd hx hy hO rfl hc h1 hbd hD h

/-- A place that shows some cells. -/
def At (σ : AState) (p : Option Addr) (vs : List Value) : Prop := ∃ m o, p = some ⟨m, o, none⟩ ∧ rd σ m o vs.length = some vs
/-- An element's place: of what, which. -/
def ixE (P : Program) (o : Oper) : Option (Operand × Operand × Nat) :=
  match o.op with
  | .indexAddr t x ix => match okx x, okx ix, P.underlying t with
    | true, true, some (.slice elem) => (tsz P elem).map fun k => (x, ix, k)
    | _, _, _ => none
  | _ => none
theorem ixE_sound {o : Oper} {x ix : Operand} {k m ofs len cap : Nat} {e : Option Nat} {ik : IntKind} {i : Int} (h : ixE P o = some (x, ix, k)) (hx : look n env x = .slice (some ⟨m, ofs, e⟩) len cap) (hi : look n env ix = .int ik i) (h0 : 0 ≤ i) (h1 : i < len) :
    aop P o (actOf n env) σ = some (.pointer (some ⟨m, ofs + i.toNat * k, none⟩), σ, none) := by
  unfold ixE at h
  split at h
  · rename_i t x' ix' ho
    split at h
    · rename_i elem k1 k2 hu
      cases hk : tsz P elem with
      | none => rw [hk] at h; cases h
      | some k' =>
        rw [hk] at h
        injection h with h
        injection h with e1 h
        injection h with e2 e3
        subst e1; subst e2; subst e3
        unfold aop aIndexAddr
        simp only [ho, look_aval k1, look_aval k2, hx, hi, hu, hk]
        rw [if_pos ⟨h0, h1⟩]
        rfl
    · cases h
  · cases h
theorem e_ix {all : Array Oper} {o : Oper} {rest : List Oper} {x ix : Operand} {es len cap : Nat} {a : Option Addr} {ik : IntKind} {i : Int} {vs : List Value} {d : Option Nat} (hw : wantedE all n o env = true) (hs : ixE P o = some (x, ix, es)) (hd : dsto o = some d)
    (hx : look n env x = .slice a len cap) (hi : look n env ix = .int ik i) (hH : Has σ a len cap es vs) (h0 : 0 ≤ i) (h1 : i < len)
    (h : ∀ p, At σ p ((vs.drop (i.toNat * es)).take es) → EOps P B all rest Q n (upd env d (.pointer p)) σ) : EOps P B all (o :: rest) Q n env σ := by
  obtain ⟨m, ofs, e, rfl, hr⟩ := hH.rd (by omega)
  refine e_aop hw (ixE_sound hs hx hi h0 h1) (fun _ h => by cases h) hd (h _ ⟨m, _, rfl, ?_⟩)
  have hb : i.toNat * es + es ≤ len * es := by
    have := Nat.mul_le_mul_right es (show i.toNat + 1 ≤ len by omega)
    rw [Nat.add_mul, Nat.one_mul] at this; exact this
  have hl := hH.size
  rw [show ((vs.drop (i.toNat * es)).take es).length = es by simp; omega]
  exact hr _ _ hb
/-- .. of a row of numbers. -/
theorem e_ixi {all : Array Oper} {o : Oper} {rest : List Oper} {x ix : Operand} {len cap : Nat} {a : Option Addr} {ik k : IntKind} {i : Int} {zs : List Int} {d : Option Nat} (hw : wantedE all n o env = true) (hs : ixE P o = some (x, ix, 1)) (hd : dsto o = some d)
    (hx : look n env x = .slice a len cap) (hi : look n env ix = .int ik i) (hH : Has σ a len cap 1 (zs.map (.int k))) (h0 : 0 ≤ i) (h1 : i < len)
    (h : ∀ p, At σ p [.int k (zs.getD i.toNat 0)] → EOps P B all rest Q n (upd env d (.pointer p)) σ) : EOps P B all (o :: rest) Q n env σ := by
  refine e_ix hw hs hd hx hi hH h0 h1 fun p hp => h p ?_
  have hl := hH.size
  rw [List.length_map, Nat.mul_one] at hl
  rw [Nat.mul_one] at hp
  have hlt : i.toNat < zs.length := by omega
  have : ((zs.map (Value.int k)).drop i.toNat).take 1 = [.int k (zs.getD i.toNat 0)] := by
    rw [List.drop_eq_getElem_cons (by simpa using hlt)]
    simp [List.getD, hlt]
  rwa [this] at hp

/-- A load of one cell. -/
def ldE (P : Program) (o : Oper) : Option (Operand × Option Nat) :=
  match o.op with
  | .load t x => match okx x, P.underlying t with
    | true, some d => match agg? d with
      | true => (tsz P t).map fun k => (x, some k)
      | false => some (x, none)
    | _, _ => none
  | _ => none
theorem e_ld {all : Array Oper} {o : Oper} {rest : List Oper} {x : Operand} {p : Option Addr} {v : Value} {d : Option Nat} (hw : wantedE all n o env = true) (hs : ldE P o = some (x, none)) (hd : dsto o = some d)
    (hx : look n env x = .pointer p) (hA : At σ p [v]) (h : EOps P B all rest Q n (upd env d v) σ) : EOps P B all (o :: rest) Q n env σ := by
  obtain ⟨m, ofs, rfl, hr⟩ := hA
  refine e_aop hw (v := v) (σ' := σ) (wn := none) ?_ (fun _ h => by cases h) hd h
  unfold ldE at hs
  split at hs
  · rename_i t x' ho
    split at hs
    · rename_i dd h1 hu
      split at hs
      · cases hk : tsz P t <;> rw [hk] at hs <;> simp at hs
      · rename_i ha
        injection hs with hs
        injection hs with e1 e2
        subst e1
        unfold aop aLoad
        simp only [ho, look_aval h1, hx, hu, ha, Bool.false_eq_true, if_false]
        have hr' : rd σ m ofs 1 = some [v] := hr
        simp only [hr']
    · cases hs
  · cases hs
theorem e_lda {all : Array Oper} {o : Oper} {rest : List Oper} {x : Operand} {p : Option Addr} {vs : List Value} {d : Option Nat} (hw : wantedE all n o env = true) (hs : ldE P o = some (x, some vs.length)) (hd : dsto o = some d)
    (hx : look n env x = .pointer p) (hA : At σ p vs) (h : EOps P B all rest Q n (upd env d (.agg vs.toArray)) σ) : EOps P B all (o :: rest) Q n env σ := by
  obtain ⟨m, ofs, rfl, hr⟩ := hA
  refine e_aop hw (v := .agg vs.toArray) (σ' := σ) (wn := none) ?_ (fun _ h => by cases h) hd h
  unfold ldE at hs
  split at hs
  · rename_i t x' ho
    split at hs
    · rename_i dd h1 hu
      split at hs
      · rename_i ha
        cases hk : tsz P t with
        | none => rw [hk] at hs; cases hs
        | some k =>
          rw [hk] at hs
          injection hs with hs
          injection hs with e1 e2
          injection e2 with e2
          subst e1; subst e2
          unfold aop aLoad
          simp only [ho, look_aval h1, hx, hu, ha, if_true, hk, hr, Option.map_some]
      · simp at hs
    · cases hs
  · cases hs

/-- Bytes as a string. -/
def strE (P : Program) (o : Oper) : Option Operand :=
  match o.op with
  | .convert src dst x => match okx x, P.underlying src, P.underlying dst with
    | true, some (.slice e), some .string => match P.underlying e with
      | some (.int .u8) => some x
      | _ => none
    | _, _, _ => none
  | _ => none
theorem u8s_map : ∀ zs : List Int, u8s (zs.map (.int .u8)) = some zs
  | [] => rfl
  | z :: zs => by simp [u8s, u8s_map zs]
theorem e_str {all : Array Oper} {o : Oper} {rest : List Oper} {x : Operand} {a : Option Addr} {len cap : Nat} {zs : List Int} {d : Option Nat} (hw : wantedE all n o env = true) (hs : strE P o = some x) (hd : dsto o = some d)
    (hx : look n env x = .slice a len cap) (hH : Has σ a len cap 1 (zs.map (.int .u8))) (h : EOps P B all rest Q n (upd env d (.string (strOfNums zs))) σ) : EOps P B all (o :: rest) Q n env σ := by
  refine e_aop hw (v := .string (strOfNums zs)) (σ' := σ) (wn := none) ?_ (fun _ h => by cases h) hd h
  have hl := hH.size
  rw [List.length_map, Nat.mul_one] at hl
  unfold strE at hs
  split at hs
  · rename_i src dst x' ho
    split at hs
    · rename_i e h1 h2 h3
      split at hs
      · rename_i h4
        injection hs with hs
        subst hs
        unfold aop
        simp only [ho, h2, h3, look_aval h1, hx]
        unfold aStr
        simp only [h2, h3, h4]
        by_cases h0 : len = 0
        · subst h0
          have : zs = [] := List.eq_nil_of_length_eq_zero hl
          subst this
          obtain ⟨ws, hR, _⟩ := hH
          rcases hR with ⟨rfl, _, rfl, _⟩ | ⟨m, ofs, e', rfl, _⟩
          · rfl
          · simp
        · obtain ⟨m, ofs, e', rfl, hr⟩ := hH.rd (by omega)
          have := hr 0 len (by omega)
          simp only [Nat.add_zero, List.drop_zero] at this
          rw [List.take_of_length_le (by rw [List.length_map, hl]; exact Nat.le_refl _)] at this
          simp only [h0, if_false, this, u8s_map, Option.map_some]
      · cases hs
    · cases hs
  · cases hs

/-! ### Loops -/
def upds (env : Env) : List (Nat × Value) → Env
  | [] => env
  | (t, v) :: l => upd (upds env l) (some t) v
def Sees (env : Env) : List (Nat × Value) → Prop
  | [] => True
  | (t, v) :: l => env t = v ∧ Sees env l
theorem upd_self {env : Env} {t : Nat} {v : Value} (h : env t = v) : upd env (some t) v = env := by
  funext k
  unfold upd
  simp only
  cases hk : Nat.beq k t with
  | true => have := Nat.eq_of_beq_eq_true hk; subst this; simp [h]
  | false => rfl
theorem upds_self {env : Env} : ∀ {l : List (Nat × Value)}, Sees env l → upds env l = env
  | [], _ => rfl
  | (t, v) :: l, h => by
    unfold upds
    rw [upds_self h.2]
    exact upd_self h.1

/-- A loop: what its rounds are told by (α), what the temporaries hold, a number that each round lowers. -/
theorem e_loop {α : Type} {c : Code} (I : α → AState → Prop) (live : α → List (Nat × Value)) (meas : α → Nat) (s0 : α) (h0 : I s0 σ) (hl : Sees env (live s0))
    (round : ∀ s env σ, I s σ → ECode P B c (thenS (fun a' σ' => ∃ s' env', a' = actOf n env' ∧ meas s' < meas s ∧ I s' σ' ∧ Sees env' (live s')) Q) n (upds env (live s)) σ) : ECode P B (.loop c) Q n env σ := by
  refine s_loop (fun k a σ => ∃ s env, a = actOf n env ∧ meas s = k ∧ I s σ ∧ Sees env (live s)) (meas s0) ⟨s0, env, rfl, rfl, h0, hl⟩ ?_
  rintro k a σ ⟨s, env, rfl, rfl, hI, hS⟩
  have := round s env σ hI
  rw [upds_self hS] at this
  refine SCode.mono this ?_
  intro e a' σ' h
  cases e with
  | normal => obtain ⟨s', env', h1, h2, h3, h4⟩ := h; exact ⟨meas s', h2, s', env', h1, rfl, h3, h4⟩
  | _ => exact h
theorem then_round {α : Type} {I : α → AState → Prop} {live : α → List (Nat × Value)} {meas : α → Nat} {s : α} (s' : α) (h2 : meas s' < meas s) (h3 : I s' σ) (h4 : Sees env (live s')) :
    thenS (fun a' σ' => ∃ s' env', a' = actOf n env' ∧ meas s' < meas s ∧ I s' σ' ∧ Sees env' (live s')) Q .normal (actOf n env) σ := ⟨s', env, rfl, h2, h3, h4⟩

/-- A function that may write what it makes. -/
theorem e_fun' {D : Nat → Prop} {f : FuncId} {fn : Func} {c : Code} {args : List Value} {R : Value → AState → Prop} {m : Nat} (hf : P.funcs[f]? = some fn) (hb : fn.body = some c) (hm : max fn.ntmps args.length = m)
    (h : ∀ B : Base, (∀ k, D k → B.D k) → (∀ k, σ.next ≤ k → B.D k) → ECode P B c (fun e a σ' => (e = .normal ∨ e = .ret) ∧ ∃ v, aResults P fn a σ' = some v ∧ R v σ') m (argEnv args) σ) : SCall P D f args σ R :=
  (e_fun (D := fun k => D k ∨ σ.next ≤ k) hf hb hm fun B hB => h B (fun k hk => by rw [hB]; exact .inl hk) (fun k hk => by rw [hB]; exact .inr hk)).mono (fun k hk hD => by
    rcases hD with h | h
    · exact h
    · omega) fun _ _ h => h
end

end GAb
