/- Function values; what comes in by its type; what is only read; structs compared; strings and arrays; many pieces as one; bytes as strings in regions of mixed orders. No statement of the seat is proved in this text. -/
import Derived.Test.YtocfmecenpeoiaaGreatAb23
import Derived.Test.YtocfmecenpeoiaaGreatAb19
import Derived.SizedLaws
set_option linter.unusedVariables false
set_option linter.unusedSimpArgs false
namespace GAb
open Go
section
variable {O : Nat → Prop} {P : Program} {B : Base} {all : Array Oper} {W : Pn → Env → AState → Prop} {n : Nat} {pn : Pn} {o : Oper} {rest : List Oper} {d : Option Nat} {env : Env} {σ0 σ : AState} {L : List Fact}
/-- A function's value. -/
def mkfE (n : Nat) (o : Oper) (env : Env) : Option (Fn × List Value × List Value) :=
  match o.op with
  | .makeFunc f fs cs => if okxs fs.toList && okxs cs.toList then some (f, looks n env fs.toList, looks n env cs.toList) else none
  | _ => none
theorem l_mkf {f : Fn} {fs cs : List Value} (hs : mkfE n o env = some (f, fs, cs)) (hw : wantedE all n o env = true) (hd : dsto o = some d) (h : Lin P B all W n pn rest (upd env d (.func f fs.toArray cs.toArray)) σ) : Lin P B all W n pn (o :: rest) env σ := by
  refine l_p (v := .func f fs.toArray cs.toArray) hw hd ?_ (by unfold mkfE at hs; unfold rbE; split at hs <;> first | (rename_i ho; rw [ho]) | cases hs) h
  unfold mkfE at hs
  split at hs
  · rename_i f' fs' cs' ho
    split at hs
    · rename_i hx
      simp only [Bool.and_eq_true] at hx
      injection hs with hs
      injection hs with e1 hs
      injection hs with e2 e3
      subst e1; subst e2; subst e3
      unfold aop
      simp only [ho, looks_avals hx.1, looks_avals hx.2]
    · cases hs
  · cases hs
/-- A part whose room is bounded. -/
def slmE (P : Program) (o : Oper) : Option (Operand × Operand × Operand × Operand × Nat) :=
  match o.op with
  | .slice t x (some lo) (some hi) (some mx) => match P.underlying t with
    | some (.slice elem) => match okx x, tsz P elem with
      | true, some k => some (x, lo, hi, mx, k)
      | _, _ => none
    | _ => none
  | _ => none
theorem l_slm {x lo hi mx : Operand} {es len cap l h m b ofs : Nat} {e : Option Nat} (hs : slmE P o = some (x, lo, hi, mx, es)) (hw : wantedE all n o env = true) (hd : dsto o = some d)
    (hx : look n env x = .slice (some ⟨b, ofs, e⟩) len cap) (hl : Bnd n env (some lo) 0 l) (hh : Bnd n env (some hi) len h) (hm : Bnd n env (some mx) cap m) (hb : l ≤ h ∧ h ≤ m ∧ m ≤ cap)
    (hk : Lin P B all W n pn rest (upd env d (.slice (some ⟨b, ofs + l * es, some 0⟩) (h - l) (m - l))) σ) : Lin P B all W n pn (o :: rest) env σ := by
  obtain ⟨vl, l1, l2⟩ := hl.opt
  obtain ⟨vh, l3, l4⟩ := hh.opt
  obtain ⟨vm, l5, l6⟩ := hm.opt
  refine l_p hw hd (v := _) ?_ (by unfold slmE at hs; unfold rbE; split at hs <;> first | (rename_i ho; rw [ho]) | cases hs) hk
  unfold slmE at hs
  split at hs
  · rename_i t x' lo' hi' mx' ho
    split at hs
    · rename_i elem hu
      split at hs
      · rename_i k hxx hk'
        injection hs with hs
        injection hs with e1 hs
        injection hs with e2 hs
        injection hs with e3 hs
        injection hs with e4 e5
        subst e1; subst e2; subst e3; subst e4; subst e5
        have hvh : vh.isSome = true := by
          cases vh with
          | some _ => rfl
          | none => obtain ⟨k1, k', i', k2, _⟩ := hh; simp [aopt, look_aval k1, k2] at l3
        have hvm : ∃ z, vm = some z := by
          cases vm with
          | some z => exact ⟨z, rfl⟩
          | none => obtain ⟨k1, k', i', k2, _⟩ := hm; simp [aopt, look_aval k1, k2] at l5
        obtain ⟨z, rfl⟩ := hvm
        unfold aop
        simp only [ho, look_aval hxx, hx, l1, l3, l5]
        unfold aSlice
        simp only [hu, l2, l4, l6, hk']
        rw [if_pos hb]
        simp only [hvh, if_true]
      · cases hs
    · cases hs
  · cases hs
end
end GAb
set_option linter.unusedVariables false
set_option linter.unusedSimpArgs false
namespace GAb
open Go Go.RowKit

theorem LRel.one {φ : Ren} {v u : Value} (h : LRel φ [v] [u]) : VRel φ v u := by
  cases h with | cons h _ => exact h
abbrev Shape := AState → List Value → Prop
/-- Cells of a type that come in are told by E. -/
structure Opn (P : Program) (t : TypeId) (E : Shape) : Prop where
  keep : ∀ σ σ' vs, E σ vs → Kp σ.next σ σ' → E σ' vs
  come : ∀ {H : Type} {enc : TypeId × Value → H} {w : World} {base fuel : Nat} {held : Bool} {cs : List Value} {y : DataW H × List MemPlace}, DataW.trod enc P w base (fun _ => true) held fuel t cs = some y → Szd P t y.1 → Comes w E cs

variable {P : Program}
theorem opn_mono {t : TypeId} {E F : Shape} (h : Opn P t E) (hF : ∀ σ vs, E σ vs → F σ vs) (hK : ∀ σ σ' vs, F σ vs → Kp σ.next σ σ' → F σ' vs) : Opn P t F :=
  ⟨hK, fun hy hz => comes_mono (h.come hy hz) hF⟩
theorem opn_int {t : TypeId} {k : IntKind} (ht : P.underlying t = some (.int k)) : Opn P t fun _ vs => ∃ n, vs = [.int k n] ∧ (Lit.int k n).wf = true :=
  ⟨fun _ _ _ h _ => h, fun hy _ => by
    obtain ⟨n, rfl, _, hw⟩ := DataW.trod_int ht hy
    exact comes_pf rfl fun _ => ⟨n, rfl, hw⟩⟩
theorem opn_bool {t : TypeId} (ht : P.underlying t = some .bool) : Opn P t fun _ vs => ∃ b, vs = [.bool b] :=
  ⟨fun _ _ _ h _ => h, fun hy _ => by
    obtain ⟨b, rfl, _⟩ := DataW.trod_bool ht hy
    exact comes_pf rfl fun _ => ⟨b, rfl⟩⟩
theorem opn_str {t : TypeId} (ht : P.underlying t = some .string) : Opn P t fun _ vs => ∃ s : ByteArray, vs = [.string s] ∧ s.size ≤ maxLen :=
  ⟨fun _ _ _ h _ => h, fun hy _ => by
    obtain ⟨b, rfl, _, hb⟩ := DataW.trod_string ht hy
    exact comes_pf rfl fun _ => ⟨b, rfl, hb⟩⟩
theorem opn_slice {t e : TypeId} {es : Nat} {E : Shape} (ht : P.underlying t = some (.slice e)) (hes : P.cellsOf e = es) (hpos : 0 < es) (hE : Opn P e E) :
    Opn P t fun σ vs => ∃ x len cap zs, vs = [.slice x len cap] ∧ Row σ x len cap es zs ∧ Els es E σ cap zs ∧ cap * P.bytesOf e ≤ reachBytes :=
  ⟨fun σ σ' vs ⟨x, len, cap, zs, h1, h2, h3, h4⟩ k => ⟨x, len, cap, zs, h1, h2.kp (Nat.le_refl _) k, h3.kp hE.keep k, h4⟩,
   fun hy hz => hrel_slice ht hes hpos hy hz hE.keep fun n xs z h hz _ => hE.come h hz⟩

/-- Cells one behind the other. -/
def Cat : List Shape → Shape
  | [], _, vs => vs = []
  | E :: Es, σ, vs => ∃ us ws, vs = us ++ ws ∧ E σ us ∧ Cat Es σ ws
inductive OpnL (P : Program) : List Field → List Shape → Prop
  | nil : OpnL P [] []
  | cons {f : Field} {fs : List Field} {E : Shape} {Es : List Shape} (h : Opn P f.type E) (t : OpnL P fs Es) : OpnL P (f :: fs) (E :: Es)
theorem OpnL.keep {fs : List Field} {Es : List Shape} (h : OpnL P fs Es) : ∀ σ σ' vs, Cat Es σ vs → Kp σ.next σ σ' → Cat Es σ' vs := by
  induction h with
  | nil => exact fun _ _ _ h _ => h
  | cons h _ ih => exact fun σ σ' vs ⟨us, ws, h1, h2, h3⟩ k => ⟨us, ws, h1, h.keep _ _ _ h2 k, ih _ _ _ h3 k⟩
/-- The fields lie one behind the other. -/
def chainB (P : Program) (tot : Nat) : Nat → List Field → Bool
  | o, [] => o == tot
  | o, f :: fs => f.offset == o && chainB P tot (o + P.cellsOf f.type) fs
theorem comes_cat {w : World} {cs : List Value} : ∀ {fs : List Field} {Es : List Shape}, OpnL P fs Es → ∀ o, chainB P cs.length o fs = true → o ≤ cs.length →
    (∀ f ∈ fs, ∀ E, Opn P f.type E → Comes w E ((cs.drop f.offset).take (P.cellsOf f.type))) → Comes w (Cat Es) (cs.drop o)
  | _, _, .nil, o, hc, ho, _ => by
    rw [List.drop_of_length_le (by have := of_decide_eq_true (show decide (o = cs.length) = true from by simpa [chainB] using hc); omega)]
    exact comes_pf rfl fun _ => rfl
  | f :: fs, E :: Es, .cons h t, o, hc, ho, hf => by
    simp only [chainB, Bool.and_eq_true, beq_iff_eq] at hc
    obtain ⟨rfl, hc⟩ := hc
    by_cases hle : f.offset + P.cellsOf f.type ≤ cs.length
    · have ih := comes_cat t _ hc hle fun g hg => hf g (List.mem_cons_of_mem _ hg)
      have hd : cs.drop f.offset = (cs.drop f.offset).take (P.cellsOf f.type) ++ cs.drop (f.offset + P.cellsOf f.type) := by
        rw [← List.drop_drop, List.take_append_drop]
      rw [hd]
      exact comes_append (hf f (by simp) E h) ih h.keep fun σ vs us h1 h2 => ⟨vs, us, rfl, h1, h2⟩
    · exfalso
      have : ∀ (gs : List Field) (o : Nat), cs.length < o → chainB P cs.length o gs = true → False := fun gs => by
        induction gs with
        | nil => intro o h1 h2; simp [chainB] at h2; omega
        | cons g gs ih => intro o h1 h2; simp only [chainB, Bool.and_eq_true, beq_iff_eq] at h2; exact ih _ (by omega) h2.2
      exact this _ _ (by omega) hc
theorem szd_field {H : Type} {t : TypeId} {fs : Array Field} {xs : List (DataW H)} (ht : P.underlying t = some (.struct fs)) (h : Szd P t (.agg xs)) {i : Nat} {f : Field} {d : DataW H} (hf : fs.toList[i]? = some f) (hd : xs[i]? = some d) : Szd P f.type d := by
  unfold Szd at *
  simp only [DataW.weights, ht] at h
  refine List.all_eq_true.2 fun n hn => List.all_eq_true.1 h n (DataW.weights_mem_each (j := i) ?_ hd n hn)
  rw [List.getElem?_map, hf]; rfl
theorem szd_param {H : Type} {ts : List TypeId} {ds : List (DataW H)} (h : (DataW.weightsEach P ts ds).all (· ≤ reachBytes) = true) (j : Nat) {t : TypeId} {d : DataW H} (ht : ts[j]? = some t) (hd : ds[j]? = some d) : Szd P t d :=
  List.all_eq_true.2 fun n hn => List.all_eq_true.1 h n (DataW.weights_mem_each ht hd n hn)
theorem opn_struct {t : TypeId} {fs : Array Field} {Es : List Shape} (ht : P.underlying t = some (.struct fs)) (hch : chainB P (P.cellsOf t) 0 fs.toList = true) (h : OpnL P fs.toList Es) : Opn P t (Cat Es) :=
  ⟨h.keep, fun {H enc w base fuel held cs y} hy hz => by
    obtain ⟨xs, n, _, rfl, hl, hlen, hf⟩ := DataW.trod_struct ht hy
    have := comes_cat (w := w) (cs := cs) h 0 (by rw [hl]; exact hch) (Nat.zero_le _) fun f hfm E hE => by
      obtain ⟨i, hi, rfl⟩ := List.mem_iff_getElem.1 hfm
      have hi' : i < fs.size := by simpa using hi
      have h1 := hf i fs[i] (by rw [Array.getElem?_eq_getElem hi'])
      rw [List.getElem?_eq_getElem (by omega)] at h1
      exact hE.come (by simpa using h1) (szd_field ht hz (i := i) (by rw [List.getElem?_eq_getElem hi]) (by simp [List.getElem?_eq_getElem (show i < xs.length by omega)]))
    simpa using this⟩

/-- Elements that are told by x, as a row. -/
theorem els_rows {β : Type} {es : Nat} {e : β → List Value} {Q : β → Prop} {σ : AState} : ∀ {n : Nat} {zs : List Value}, Els es (fun _ vs => ∃ x, vs = e x ∧ Q x) σ n zs → ∃ xs : List β, zs = rows e xs ∧ xs.length = n ∧ ∀ x ∈ xs, Q x
  | 0, zs, h => ⟨[], by have := h.1; simp at this; simp [rows, this], rfl, fun _ h => by cases h⟩
  | n + 1, zs, h => by
    obtain ⟨h1, h2⟩ := h
    obtain ⟨x, hx, hq⟩ := h2 0 (by omega)
    rw [Nat.zero_mul, List.drop_zero] at hx
    obtain ⟨xs, k1, k2, k3⟩ := els_rows (n := n) (zs := zs.drop es) (es := es) (e := e) (Q := Q) (σ := σ) ⟨by rw [List.length_drop, h1, Nat.add_mul]; omega, fun i hi => by
      have := h2 (i + 1) (by omega)
      rw [List.drop_drop, show es + i * es = (i + 1) * es by rw [Nat.add_mul]; omega]
      exact this⟩
    refine ⟨x :: xs, ?_, by simp [k2], fun y hy => ?_⟩
    · rw [← List.take_append_drop es zs, hx, k1]; simp [rows]
    · rcases List.mem_cons.1 hy with rfl | hy
      · exact hq
      · exact k3 y hy
end GAb
set_option linter.unusedVariables false
set_option linter.unusedSimpArgs false
namespace GAb
open Go
variable {O : Nat → Prop} {σ0 σ : AState} {L : List Fact}
theorem pk_at {L : List Fact} {is : List Nat} {f : Fact} (h : f ∈ pk L is) : ∃ i ∈ is, L[i]? = some f := by
  rw [pk_eq, List.mem_filterMap] at h; exact h
theorem Facts.oldO (F : Facts O σ0 σ L) {a : Option Addr} {l c es : Nat} {vs : List Value} (h : Old O σ0 a l c es vs) (is : List Nat) : Old (fpOf (pk L is)) σ a l c es vs :=
  ⟨F.old h, fun m hm ⟨f, hf, hfm⟩ => by
    rcases F.fo f (pk_mem hf) m hfm with h1 | h1
    · exact h.2 m hm h1
    · have := h.1.nm_lt hm; omega⟩
theorem Facts.oldK (F : Facts O σ0 σ L) (is : List Nat) (k : Nat) {a : Option Addr} {l c es : Nat} {vs : List Value} (hk : L[k]? = some (own a l c es vs)) (hn : k ∉ is) : Old (fpOf (pk L is)) σ a l c es vs :=
  ⟨F.has k hk, fun m ⟨o, e, he, _⟩ ⟨f, hf, hfm⟩ => by
    obtain ⟨i, hi, hif⟩ := pk_at hf
    exact pw_at F.di (fun h : i = k => hn (h ▸ hi)) hif hk m hfm ⟨o, e, he⟩⟩
theorem Facts.oldCO (F : Facts O σ0 σ L) {m : Nat} {vs : List Value} (h : OldC O σ0 m vs) (is : List Nat) : OldC (fpOf (pk L is)) σ m vs :=
  ⟨F.oldc h, fun ⟨f, hf, hfm⟩ => by
    rcases F.fo f (pk_mem hf) m hfm with h1 | h1
    · exact h.2 h1
    · have := h.1.1; omega⟩
theorem Facts.oldCK (F : Facts O σ0 σ L) (is : List Nat) (k : Nat) {m : Nat} {vs : List Value} (hk : L[k]? = some (cel m vs)) (hn : k ∉ is) : OldC (fpOf (pk L is)) σ m vs :=
  ⟨F.ho _ (List.mem_of_getElem? hk), fun ⟨f, hf, hfm⟩ => by
    obtain ⟨i, hi, hif⟩ := pk_at hf
    exact pw_at F.di (fun h : i = k => hn (h ▸ hi)) hif hk m hfm rfl⟩
end GAb
set_option linter.unusedVariables false
set_option linter.unusedSimpArgs false
namespace GAb
open Go
variable {P : Program}
theorem pv_bind {α β : Type} {s : Sem α} {f : α → Sem β} {a : α} (h : pv P s = some a) : pv P (s >>= f) = pv P (f a) := by
  induction s with
  | pure b => simp only [pv, Option.some.injEq] at h; subst h; rfl
  | program k ih => simp only [pv] at h; exact ih P h
  | mark m k ih => simp only [pv] at h; exact ih h
  | _ => cases h
theorem pv_und {t : TypeId} {d : TypeDesc} (h : P.underlying t = some d) : pv P (underlying t) = some d := by
  unfold underlying
  rw [pv_bind (a := P) rfl, h]; rfl
theorem pv_eqI {t : TypeId} {k : IntKind} {a b : Int} {d : Nat} (hd : P.underlying t = some (.int k)) : pv P (Op.equalIn (d + 1) t (.int k a) (.int k b)) = some (a == b) := by
  unfold Op.equalIn
  rw [pv_bind (pv_und hd)]
  simp only [if_true]
  rfl
theorem pv_agg {t : TypeId} {k : IntKind} (hd : P.underlying t = some (.int k)) : pv P (isAgg t) = some false := by
  unfold isAgg
  rw [pv_bind (pv_und hd)]; rfl
theorem pv_part {t : TypeId} {k : IntKind} {cs : Array Value} {off : Nat} {v : Value} (hd : P.underlying t = some (.int k)) (hv : cs[off]? = some v) : pv P (part t cs off) = some v := by
  unfold part
  rw [pv_bind (pv_agg hd)]
  simp only [Bool.false_eq_true, if_false, hv]
  rfl
theorem pv_eq2 {t : TypeId} {f0 f1 : Field} {k0 k1 : IntKind} {a0 a1 b0 b1 : Int} {d : Nat} (ht : P.underlying t = some (.struct #[f0, f1])) (hs : P.stoodInHeld t = false) (n0 : f0.name ≠ "_") (n1 : f1.name ≠ "_")
    (h0 : P.underlying f0.type = some (.int k0)) (h1 : P.underlying f1.type = some (.int k1)) (o0 : f0.offset = 0) (o1 : f1.offset = 1) :
    pv P (Op.equalIn (d + 2) t (.agg #[.int k0 a0, .int k1 a1]) (.agg #[.int k0 b0, .int k1 b1])) = some (a0 == b0 && a1 == b1) := by
  unfold Op.equalIn
  rw [pv_bind (pv_und ht)]
  simp only
  rw [pv_bind (a := P) rfl]
  simp only [hs, Bool.false_eq_true, if_false]
  have step : ∀ (f : Field) (k : IntKind) (x y : Int) (cs ds : Array Value), f.name ≠ "_" → P.underlying f.type = some (.int k) → cs[f.offset]? = some (.int k x) → ds[f.offset]? = some (.int k y) →
      pv P (if f.name ≠ "_" then (do
              let a ← part f.type cs f.offset
              let b ← part f.type ds f.offset
              let c ← Op.equalIn (d + 1) f.type a b
              if (!c) = true then pure (ForInStep.done (some false, ())) else pure (ForInStep.yield (none, ())) : Sem (ForInStep (Option Bool × Unit)))
            else pure (ForInStep.yield (none, ()))) = some (if (x == y) = true then ForInStep.yield (none, ()) else ForInStep.done (some false, ())) := by
    intro f k x y cs ds hn hf hx hy
    rw [if_pos hn, pv_bind (pv_part hf hx), pv_bind (pv_part hf hy), pv_bind (pv_eqI hf)]
    cases (x == y) <;> rfl
  rw [← Array.forIn_toList]
  simp only [List.forIn_cons]
  have e0 := step f0 k0 a0 b0 #[.int k0 a0, .int k1 a1] #[.int k0 b0, .int k1 b1] n0 h0 (by rw [o0]; rfl) (by rw [o0]; rfl)
  have e1 := step f1 k1 a1 b1 #[.int k0 a0, .int k1 a1] #[.int k0 b0, .int k1 b1] n1 h1 (by rw [o1]; rfl) (by rw [o1]; rfl)
  cases ha : (a0 == b0)
  · rw [ha] at e0
    exact (pv_bind (a := (some false, ())) ((pv_bind e0).trans rfl)).trans rfl
  · rw [ha] at e0
    cases hb : (a1 == b1)
    · rw [hb] at e1
      exact (pv_bind (a := (some false, ())) ((pv_bind e0).trans ((pv_bind e1).trans rfl))).trans rfl
    · rw [hb] at e1
      exact (pv_bind (a := (none, ())) ((pv_bind e0).trans ((pv_bind e1).trans rfl))).trans rfl

theorem aop_bin {n : Nat} {o : Oper} {env : Env} {σ : AState} {op : BinOp} {t yt : TypeId} {x y : Operand} {p q v : Value} (ho : o.op = .binOp op t x y yt) (h1 : aval (actOf n env) x = some p) (h2 : aval (actOf n env) y = some q) (a1 : pf p = true) (a2 : pf q = true) (a3 : pf v = true)
    (a4 : pv P (do eqGuard op t x y p q; binOp op t p q : Sem Value) = some v) : aop P o (actOf n env) σ = some (v, σ, none) := by
  have hex : ∀ w : Value, execOp (actOf n env).eval o = (do pure (.value (← (do eqGuard op t x y p q; binOp op t p q : Sem Value)))) := fun _ => by
    simp only [execOp, ho, aval_eval h1, aval_eval h2]
  have hops : o.op.operands.toList = [x, y] := by simp [ho, Op.operands]
  unfold aop
  simp only [ho, h1, h2, a1, a2, Bool.and_self, if_true]
  unfold gen
  have hall : (o.op.operands.toList.all (pfOperand (actOf n env)) && noSel o.op) = true := by
    rw [hops]
    simp [pfOperand, h1, h2, a1, a2, noSel, ho]
  rw [if_pos hall]
  have hpv : pv P (execOp (actOf n env).eval o) = some (.value v) := by
    rw [hex undef, pv_bind a4]; rfl
  rw [hpv]
  simp [a3]

/-- Two structs of two numbers, unlike or alike. -/
def cm2E (P : Program) (n : Nat) (o : Oper) (env : Env) : Option (Bool × Int × Int × Int × Int) :=
  match o.op with
  | .binOp op t x y _ =>
    if okx x && okx y && (op == .eql || op == .neq) && !P.eqGuardType P.depth t && !P.stoodInHeld t then
      match P.underlying t, look n env x, look n env y with
      | some (.struct fs), .agg cs, .agg ds => match fs.toList, cs.toList, ds.toList with
        | [f0, f1], [.int k0 a0, .int k1 a1], [.int j0 b0, .int j1 b1] =>
          match P.underlying f0.type, P.underlying f1.type with
          | some (.int i0), some (.int i1) =>
            if k0 = i0 ∧ k1 = i1 ∧ j0 = i0 ∧ j1 = i1 ∧ f0.name ≠ "_" ∧ f1.name ≠ "_" ∧ f0.offset = 0 ∧ f1.offset = 1 then some (op == .neq, a0, a1, b0, b1) else none
          | _, _ => none
        | _, _, _ => none
      | _, _, _ => none
    else none
  | _ => none
theorem cm2E_sound {n : Nat} {o : Oper} {env : Env} {σ : AState} {ng : Bool} {a0 a1 b0 b1 : Int} (h : cm2E P n o env = some (ng, a0, a1, b0, b1)) :
    aop P o (actOf n env) σ = some (.bool (if ng then !(a0 == b0 && a1 == b1) else (a0 == b0 && a1 == b1)), σ, none) ∧ rbE n o env = none := by
  unfold cm2E at h
  split at h
  · rename_i op t x y yt ho
    split at h
    · rename_i hc
      simp only [Bool.and_eq_true, Bool.or_eq_true, beq_iff_eq, Bool.not_eq_true'] at hc
      obtain ⟨⟨⟨⟨hx, hy⟩, hop⟩, hg⟩, hs⟩ := hc
      split at h
      · rename_i fs cs ds ht hlx hly
        split at h
        · rename_i f0 f1 k0 a0' k1 a1' j0 b0' j1 b1' hfs hcs hds
          split at h
          · rename_i i0 i1 h0 h1
            split at h
            · rename_i hh
              obtain ⟨rfl, rfl, rfl, rfl, hn0, hn1, ho0, ho1⟩ := hh
              injection h with h
              injection h with e0 h
              injection h with e1 h
              injection h with e2 h
              injection h with e3 e4
              subst e1; subst e2; subst e3; subst e4
              obtain rfl : fs = #[f0, f1] := by cases fs; simp_all
              obtain rfl : cs = #[.int j0 a0', .int j1 a1'] := by cases cs; simp_all
              obtain rfl : ds = #[.int j0 b0', .int j1 b1'] := by cases ds; simp_all
              have key := pv_eq2 (a0 := a0') (a1 := a1') (b0 := b0') (b1 := b1') (d := 9998) ht hs hn0 hn1 h0 h1 ho0 ho1
              have g1 := look_aval (n := n) (env := env) hx
              have g2 := look_aval (n := n) (env := env) hy
              rw [hlx] at g1
              rw [hly] at g2
              refine ⟨?_, by unfold rbE; rw [ho]⟩
              have guard : pv P (eqGuard op t x y (.agg #[.int j0 a0', .int j1 a1']) (.agg #[.int j0 b0', .int j1 b1'])) = some () := by
                rcases hop with rfl | rfl
                · unfold eqGuard
                  simp only [Bool.not_true, Bool.false_eq_true, if_false]
                  rw [pv_bind (a := P) rfl, pv_bind (a := P) rfl]
                  simp only [hg, Bool.not_false, if_true]
                  rfl
                · unfold eqGuard
                  simp only [Bool.not_true, Bool.false_eq_true, if_false]
                  rw [pv_bind (a := P) rfl, pv_bind (a := P) rfl]
                  simp only [hg, Bool.not_false, if_true]
                  rfl
              refine aop_bin ho g1 g2 rfl rfl rfl ?_
              rw [pv_bind guard]
              rcases hop with rfl | rfl
              · have e : binOp .eql t (.agg #[.int j0 a0', .int j1 a1']) (.agg #[.int j0 b0', .int j1 b1']) = (Op.equalIn 10000 t (.agg #[.int j0 a0', .int j1 a1']) (.agg #[.int j0 b0', .int j1 b1']) >>= fun b => pure (Value.bool b)) := rfl
                rw [e, pv_bind key]; subst e0; rfl
              · have e : binOp .neq t (.agg #[.int j0 a0', .int j1 a1']) (.agg #[.int j0 b0', .int j1 b1']) = (Op.equalIn 10000 t (.agg #[.int j0 a0', .int j1 a1']) (.agg #[.int j0 b0', .int j1 b1']) >>= fun b => pure (Value.bool (!b))) := rfl
                rw [e, pv_bind key]; subst e0; rfl
            · cases h
          · cases h
        · cases h
      · cases h
    · cases h
  · cases h
section
variable {B : Base} {all : Array Oper} {W : Pn → Env → AState → Prop} {n : Nat} {env : Env} {σ : AState} {o : Oper} {rest : List Oper} {d : Option Nat} {pn : Pn}
theorem l_cm2 {ng : Bool} {a0 a1 b0 b1 : Int} (hs : cm2E P n o env = some (ng, a0, a1, b0, b1)) (hw : wantedE all n o env = true) (hd : dsto o = some d)
    (h : Lin P B all W n pn rest (upd env d (.bool (irr (if ng then !(a0 == b0 && a1 == b1) else (a0 == b0 && a1 == b1))))) σ) : Lin P B all W n pn (o :: rest) env σ := by
  obtain ⟨h1, h2⟩ := cm2E_sound (σ := σ) hs
  rw [irr_eq] at h
  exact l_p hw hd h1 h2 h
end
end GAb
set_option linter.unusedVariables false
set_option linter.unusedSimpArgs false
namespace GAb
open Go
variable {P : Program}
/-- A string's bytes as numbers. -/
abbrev ltr (s : ByteArray) : List Int := s.data.toList.map fun b => (b.toNat : Int)
theorem ltr_length (s : ByteArray) : (ltr s).length = s.size := by
  show (List.map _ s.data.toList).length = s.data.size
  simp
theorem ltr_at {s : ByteArray} {i : Nat} (h : i < s.size) : (ltr s).getD i 0 = ((s[i]).toNat : Int) := by
  have h' : i < s.data.size := h
  simp only [List.getD, List.getElem?_map, Array.getElem?_toList, Array.getElem?_eq_getElem h', Option.map_some, Option.getD_some]
  rfl
theorem ltr_bd (s : ByteArray) (i : Nat) : 0 ≤ (ltr s).getD i 0 ∧ (ltr s).getD i 0 ≤ 255 := by
  by_cases h : i < s.size
  · rw [ltr_at h]
    have := UInt8.toNat_lt s[i]
    omega
  · have : (ltr s).getD i 0 = 0 := by
      simp only [List.getD]
      rw [List.getElem?_eq_none (by rw [ltr_length]; omega)]
      rfl
    omega
def sxE (P : Program) (o : Oper) : Option (Operand × Operand) :=
  match o.op with
  | .index t x ix => match P.underlying t with
    | some .string => if okx x && okx ix then some (x, ix) else none
    | _ => none
  | _ => none
def sz1 (P : Program) (e : TypeId) : Bool := match tsz P e with | some j => Nat.beq j 1 | none => false
def axE (P : Program) (o : Oper) : Option (Operand × Operand × Nat) :=
  match o.op with
  | .index t x ix => match P.underlying t with
    | some (.array len e) => match P.underlying e with
      | some (.int _) => if okx x && okx ix && sz1 P e then some (x, ix, len) else none
      | _ => none
    | _ => none
  | _ => none
theorem pv_size {t : TypeId} {k : Nat} (h : tsz P t = some k) : pv P (Go.sizeOf t) = some k := by
  unfold tsz at h
  cases hi : P.info? t with
  | none => simp [hi] at h
  | some i =>
    simp only [hi, Option.map_some, Option.some.injEq] at h
    unfold Go.sizeOf typeInfo
    rw [pv_bind (a := i) (by rw [pv_bind (a := P) rfl, hi]; rfl), ← h]
    rfl
theorem aop_ix {n : Nat} {o : Oper} {env : Env} {σ : AState} {t : TypeId} {x y : Operand} {p q v : Value} (ho : o.op = .index t x y) (h1 : aval (actOf n env) x = some p) (h2 : aval (actOf n env) y = some q) (a1 : pf p = true) (a2 : pf q = true) (a3 : pf v = true)
    (a4 : pv P (Instr.index t p q) = some v) : aop P o (actOf n env) σ = some (v, σ, none) := by
  have hex : execOp (actOf n env).eval o = (do pure (.value (← Instr.index t p q))) := by
    simp only [execOp, ho, aval_eval h1, aval_eval h2]
  have hops : o.op.operands.toList = [x, y] := by simp [ho, Op.operands]
  unfold aop
  simp only [ho]
  unfold gen
  have hall : (o.op.operands.toList.all (pfOperand (actOf n env)) && noSel o.op) = true := by
    rw [hops]
    simp [pfOperand, h1, h2, a1, a2, noSel, ho]
  rw [if_pos hall]
  have hpv : pv P (execOp (actOf n env).eval o) = some (.value v) := by
    rw [hex, pv_bind a4]; rfl
  rw [hpv]
  simp [a3]
section
variable {B : Base} {all : Array Oper} {W : Pn → Env → AState → Prop} {n : Nat} {env : Env} {σ : AState} {o : Oper} {rest : List Oper} {d : Option Nat} {pn : Pn}
theorem l_sx {x ix : Operand} {s : ByteArray} {k : IntKind} {i : Int} (hs : sxE P o = some (x, ix)) (hw : wantedE all n o env = true) (hd : dsto o = some d) (hx : look n env x = .string s) (hi : look n env ix = .int k i) (hb : 0 ≤ i ∧ i < s.size)
    (h : Lin P B all W n pn rest (upd env d (.int .u8 ((ltr s).getD i.toNat 0))) σ) : Lin P B all W n pn (o :: rest) env σ := by
  unfold sxE at hs
  split at hs
  · rename_i t x' ix' ho
    split at hs
    · rename_i hu
      split at hs
      · rename_i hok
        simp only [Bool.and_eq_true] at hok
        injection hs with hs
        injection hs with e1 e2
        subst e1; subst e2
        have g1 := look_aval (n := n) (env := env) hok.1
        have g2 := look_aval (n := n) (env := env) hok.2
        rw [hx] at g1
        rw [hi] at g2
        refine l_p hw hd (aop_ix ho g1 g2 rfl rfl rfl ?_) (by unfold rbE; rw [ho]) h
        have hlt : i.toNat < s.size := by omega
        unfold Instr.index
        rw [pv_bind (a := (k, i)) rfl, pv_bind (pv_und hu)]
        have e : (if 0 ≤ i then s[i.toNat]? else none) = some s[i.toNat] := by rw [if_pos hb.1, getElem?_pos s i.toNat hlt]
        simp only [e]
        rw [ltr_at hlt]
        rfl
      · cases hs
    · cases hs
  · cases hs
theorem l_ax {x ix : Operand} {zs : List Int} {kk k : IntKind} {i : Int} {len : Nat} (hs : axE P o = some (x, ix, len)) (hw : wantedE all n o env = true) (hd : dsto o = some d) (hx : look n env x = .agg (zs.map (.int kk)).toArray) (hi : look n env ix = .int k i) (hl : zs.length = len) (hb : 0 ≤ i ∧ i < len)
    (h : Lin P B all W n pn rest (upd env d (.int kk (zs.getD i.toNat 0))) σ) : Lin P B all W n pn (o :: rest) env σ := by
  unfold axE at hs
  split at hs
  · rename_i t x' ix' ho
    split at hs
    · rename_i len' e hu
      split at hs
      · rename_i ik he
        split at hs
        · rename_i hok
          simp only [Bool.and_eq_true] at hok
          obtain ⟨⟨ok1, ok2⟩, ok3⟩ := hok
          injection hs with hs
          injection hs with e1 hs
          injection hs with e2 e3
          subst e1; subst e2; subst e3
          have hsz : tsz P e = some 1 := by
            unfold sz1 at ok3
            split at ok3
            · rename_i j hj
              rw [hj, Nat.eq_of_beq_eq_true ok3]
            · cases ok3
          have g1 := look_aval (n := n) (env := env) ok1
          have g2 := look_aval (n := n) (env := env) ok2
          rw [hx] at g1
          rw [hi] at g2
          have hpf : pf (.agg (zs.map (Value.int kk)).toArray) = true := by
            show (zs.map (Value.int kk)).all flat = true
            rw [List.all_eq_true]
            intro z hz
            obtain ⟨y, _, rfl⟩ := List.mem_map.1 hz
            rfl
          refine l_p hw hd (aop_ix ho g1 g2 hpf rfl rfl ?_) (by unfold rbE; rw [ho]) h
          have hlt : i.toNat < zs.length := by omega
          unfold Instr.index
          rw [pv_bind (a := (k, i)) rfl, pv_bind (pv_und hu)]
          simp only [hb, and_self, if_true]
          rw [pv_bind (pv_size hsz), Nat.mul_one]
          refine pv_part he ?_
          simp [List.getD, hlt]
        · cases hs
      · cases hs
    · cases hs
  · cases hs
/-- Shifts by a number that is not below 0. -/
theorem l_sh {op : BinOp} {x y : Operand} {k ky : IntKind} {p q : Int} (r : Int) (hs : dvE o = some (op, x, y)) (hw : wantedE all n o env = true) (hd : dsto o = some d) (h1 : look n env x = .int k p) (h2 : look n env y = .int ky q) (hq : 0 ≤ q)
    (hr : (op = .shr ∧ p.fdiv (2 ^ min q.toNat k.bits) = r) ∨ (op = .shl ∧ k.wrap (p * 2 ^ min q.toNat k.bits) = r)) (h : Lin P B all W n pn rest (upd env d (.int k r)) σ) : Lin P B all W n pn (o :: rest) env σ := by
  unfold dvE at hs
  split at hs
  · rename_i op' t x' y' yt ho
    split at hs
    · rename_i k1 k2
      injection hs with hs
      injection hs with e1 hs
      injection hs with e2 e3
      subst e1; subst e2; subst e3
      have g1 := look_aval (n := n) (env := env) k1
      have g2 := look_aval (n := n) (env := env) k2
      rw [h1] at g1
      rw [h2] at g2
      refine l_p hw hd (aop_bin ho g1 g2 rfl rfl rfl ?_) (by unfold rbE; rw [ho]) h
      have hq' : ¬ q < 0 := by omega
      have hb : (do eqGuard op' t x' y' (.int k p) (.int ky q); binOp op' t (.int k p) (.int ky q) : Sem Value) = pure (.int k r) := by
        rcases hr with ⟨rfl, rfl⟩ | ⟨rfl, rfl⟩ <;> simp [eqGuard, binOp, Op.shift, hq']
      rw [hb]; rfl
    · cases hs
  · cases hs
end
/-- What lies in a struct of one's own may be read ahead of a call that takes nothing. -/
theorem PnA.cel {pn : Pn} {O : Nat → Prop} {σ0 σ : AState} {L : List Fact} (F : Facts O σ0 σ L) (k : Nat) {m : Nat} {vs : List Value} (hL : L[k]? = some (cel m vs)) (h : PnA pn (fpOf []) σ) : PnA (pnAdd pn (some m)) (fpOf []) σ := by
  have hc := F.ho _ (List.mem_of_getElem? hL)
  have hm : ¬ fpOf [] m ∧ m < σ.next ∧ ∃ b, σ.get m = some b := ⟨fun ⟨f, hf, _⟩ => (by cases hf), hc.1, _, hc.2⟩
  cases pn with
  | none => exact h
  | some l =>
    intro j hj
    have : j = m ∨ j ∈ l := by simpa [pnAdd, pnl] using hj
    rcases this with rfl | hj
    · exact hm
    · exact h j hj
theorem PnA.own {pn : Pn} {O : Nat → Prop} {σ0 σ : AState} {L : List Fact} (F : Facts O σ0 σ L) (k : Nat) {m o l c es : Nat} {e : Option Nat} {vs : List Value} (hL : L[k]? = some (own (some ⟨m, o, e⟩) l c es vs)) (h : PnA pn (fpOf []) σ) : PnA (pnAdd pn (some m)) (fpOf []) σ := by
  have hc : Own 0 σ (some ⟨m, o, e⟩) l c es vs := F.ho _ (List.mem_of_getElem? hL)
  have hm : ¬ fpOf [] m ∧ m < σ.next ∧ ∃ b, σ.get m = some b := by
    obtain ⟨_, ⟨h, _⟩ | ⟨n, e', cs, h, _, _, h1, _, h2, _⟩⟩ := hc
    · cases h
    · injection h with h
      injection h with h _ _
      subst h
      exact ⟨fun ⟨f, hf, _⟩ => (by cases hf), h1, _, h2⟩
  cases pn with
  | none => exact h
  | some l =>
    intro j hj
    have : j = m ∨ j ∈ l := by simpa [pnAdd, pnl] using hj
    rcases this with rfl | hj
    · exact hm
    · exact h j hj
/-- How many bytes a string has. -/
def lnE (P : Program) (o : Oper) : Option Operand :=
  match o.op with
  | .call c => match c.callee, c.args.toList, c.argTypes[0]? with
    | .builtin .len, [x], some t => match okx x, P.underlying t with
      | true, some .string => some x
      | _, _ => none
    | _, _, _ => none
  | _ => none
section
variable {B : Base} {all : Array Oper} {W : Pn → Env → AState → Prop} {n : Nat} {env : Env} {σ : AState} {o : Oper} {rest : List Oper} {d : Option Nat} {pn : Pn}
theorem l_ln {x : Operand} {s : ByteArray} (hs : lnE P o = some x) (hw : wantedE all n o env = true) (hd : dsto o = some d) (hx : look n env x = .string s)
    (h : Lin P B all W n pn rest (upd env d (.int .i64 (s.size : Nat))) σ) : Lin P B all W n pn (o :: rest) env σ := by
  unfold lnE at hs
  split at hs
  · rename_i c ho
    split at hs
    · rename_i x' t hc ha ht
      split at hs
      · rename_i k1 hu
        injection hs with hs
        subst hs
        have g1 := look_aval (n := n) (env := env) k1
        rw [hx] at g1
        have hcar : c.args = #[x'] := by cases hcc : c.args; rw [hcc] at ha; simp at ha; rw [ha]
        refine l_p (v := .int .i64 (s.size : Nat)) hw hd ?_ (by unfold rbE; rw [ho]) h
        have hex : execOp (actOf n env).eval o = (do pure (.value (← Builtin.len_ c.argTypes o.type #[.string s]))) := by
          simp only [execOp, ho, resolve, hc, hcar, invoke, builtin]
          have : (actOf n env).eval x' = .string s := aval_eval g1
          simp [this, builtin]
        have hpl : pv P (Builtin.len_ c.argTypes o.type #[.string s]) = some (.int .i64 (s.size : Nat)) := by
          unfold Builtin.len_
          have e0 : (#[Value.string s] : Array Value)[0]? = some (.string s) := rfl
          simp only [ht, e0]
          rw [pv_bind (pv_und hu)]
          rfl
        have hops : o.op.operands.toList = [x'] := by simp [ho, Op.operands, Call.operands, hc, hcar]
        unfold aop
        simp only [ho, hc]
        unfold aBuiltin
        simp only [hcar, ht, g1]
        unfold gen
        have hall : (o.op.operands.toList.all (pfOperand (actOf n env)) && noSel o.op) = true := by
          rw [hops]
          simp [pfOperand, g1, noSel, ho, pf, flat]
        rw [if_pos hall]
        have hpv : pv P (execOp (actOf n env).eval o) = some (.value (.int .i64 (s.size : Nat))) := by
          rw [hex, pv_bind hpl]; rfl
        rw [hpv]
        simp [pf, flat]
      · cases hs
    · cases hs
  · cases hs
end
/-- The room of a nil slice. -/
def cp0E (P : Program) (o : Oper) : Option Operand :=
  match o.op with
  | .call c => match c.callee, c.args.toList, c.argTypes[0]? with
    | .builtin .cap, [x], some t => match okx x, P.underlying t with
      | true, some (.slice _) => some x
      | _, _ => none
    | _, _, _ => none
  | _ => none
section
variable {B : Base} {all : Array Oper} {W : Pn → Env → AState → Prop} {n : Nat} {env : Env} {σ : AState} {o : Oper} {rest : List Oper} {d : Option Nat} {pn : Pn}
theorem l_cp0 {x : Operand} (hs : cp0E P o = some x) (hw : wantedE all n o env = true) (hd : dsto o = some d) (hx : look n env x = .slice none 0 0)
    (h : Lin P B all W n pn rest (upd env d (.int .i64 0)) σ) : Lin P B all W n pn (o :: rest) env σ := by
  unfold cp0E at hs
  split at hs
  · rename_i c ho
    split at hs
    · rename_i x' t hc ha ht
      split at hs
      · rename_i el k1 hu
        injection hs with hs
        subst hs
        have g1 := look_aval (n := n) (env := env) k1
        rw [hx] at g1
        have hcar : c.args = #[x'] := by cases hcc : c.args; rw [hcc] at ha; simp at ha; rw [ha]
        refine l_p (v := .int .i64 0) hw hd ?_ (by unfold rbE; rw [ho]) h
        have hex : execOp (actOf n env).eval o = (do pure (.value (← Builtin.cap_ c.argTypes o.type #[.slice none 0 0]))) := by
          simp only [execOp, ho, resolve, hc, hcar, invoke, builtin]
          have : (actOf n env).eval x' = .slice none 0 0 := aval_eval g1
          simp [this, builtin]
        have hpl : pv P (Builtin.cap_ c.argTypes o.type #[.slice none 0 0]) = some (.int .i64 0) := by
          unfold Builtin.cap_
          have e0 : (#[Value.slice none 0 0] : Array Value)[0]? = some (.slice none 0 0) := rfl
          simp only [ht, e0]
          rw [pv_bind (pv_und hu)]
          rfl
        have hops : o.op.operands.toList = [x'] := by simp [ho, Op.operands, Call.operands, hc, hcar]
        unfold aop
        simp only [ho, hc]
        unfold aBuiltin
        simp only [hcar, ht, g1]
        unfold gen
        have hall : (o.op.operands.toList.all (pfOperand (actOf n env)) && noSel o.op) = true := by
          rw [hops]
          simp [pfOperand, g1, noSel, ho, pf, flat]
        rw [if_pos hall]
        have hpv : pv P (execOp (actOf n env).eval o) = some (.value (.int .i64 0)) := by
          rw [hex, pv_bind hpl]; rfl
        rw [hpv]
        simp [pf, flat]
      · cases hs
    · cases hs
  · cases hs
end
/-- .. ahead of what writes another piece. -/
theorem PnA.celE {pn : Pn} {O : Nat → Prop} {σ0 σ : AState} {L : List Fact} {g : Fact} (F : Facts O σ0 σ L) (k j : Nat) {m : Nat} {vs : List Value} (hL : L[k]? = some (GAb.cel m vs)) (hj : L[j]? = some g) (hne : k ≠ j) (h : PnA pn g.fp σ) : PnA (pnAdd pn (some m)) g.fp σ := by
  have hc := F.ho _ (List.mem_of_getElem? hL)
  have hm : ¬ g.fp m ∧ m < σ.next ∧ ∃ b, σ.get m = some b := ⟨pw_at F.di hne hL hj m rfl, hc.1, _, hc.2⟩
  cases pn with
  | none => exact h
  | some l =>
    intro j hj
    have : j = m ∨ j ∈ l := by simpa [pnAdd, pnl] using hj
    rcases this with rfl | hj
    · exact hm
    · exact h j hj
end GAb
set_option linter.unusedVariables false
set_option linter.unusedSimpArgs false
namespace GAb
open Go
section
variable {P : Program} {O : Nat → Prop} {B : Base} {all : Array Oper} {W : Pn → Env → AState → Prop} {n : Nat} {env : Env} {σ0 σ : AState} {o : Oper} {rest : List Oper} {d : Option Nat} {pn : Pn} {L : List Fact}
theorem l_stoa {x y : Operand} {m j sz len cap es : Nat} {e : Option Nat} {cs : Array Value} {vs : List Value} (F : Facts O σ0 σ L) (k : Nat) (hk : opk o = 6) (hs : stE P o = some (x, y, sz)) (hw : wantedE all n o env = true) (hd : dsto o = some d) (hx : look n env x = .pointer (some ⟨m, j, none⟩)) (hy : look n env y = .agg cs) (h1 : cs.toList.all Value.oneCell' = true) (hL : L[k]? = some (own (some ⟨m, 0, e⟩) len cap es vs)) (hsz : cs.size = sz) (hj : j + sz ≤ len * es) (hD : ∀ k, O k ∨ σ0.next ≤ k → B.D k)
    (h : ∀ σ', Facts O σ0 σ' (L.set k (own (some ⟨m, 0, e⟩) len cap es (splice vs j cs.toList))) → Lin P B all W n pn rest (upd env d undef) σ') (hp : PnA pn (Nm (some ⟨m, 0, e⟩)) σ ∨ PnS pn O σ0 := by first | exact .inl pna_none | exact .inl pna_nil | exact .inr (by assumption) | exact .inl (by assumption)) : Lin P B all W n pn (o :: rest) env σ := by
  have hp := hp.elim id fun h => h.pna F (fun m hm => F.fo _ (List.mem_of_getElem? hL) m hm)
  have hm := List.mem_of_getElem? hL
  have hO : Own 0 σ (some ⟨m, 0, e⟩) len cap es vs := F.ho _ hm
  obtain ⟨σ', w1, w2⟩ := own_wr_f hO rfl (j := j) (ws := cs.toList) (by rw [Array.length_toList, hsz]; exact hj) h1
  exact l_w hw hd (st_eq hs hx hy hsz w1) (st_rb hs) (fun k hk => by injection hk with hk; subst hk; exact ⟨_, _, rfl⟩) (fun k hk => hD _ (F.fo _ hm _ hk)) w2 hp (h σ' (F.set hL w2))
theorem PnA.celP (F : Facts O σ0 σ L) (k : Nat) {m : Nat} {vs : List Value} (hL : L[k]? = some (GAb.cel m vs)) (is : List Nat) (hn : k ∉ is) (h : PnA pn (fpOf (pk L is)) σ) : PnA (pnAdd pn (some m)) (fpOf (pk L is)) σ := by
  have hc := F.oldCK is k hL hn
  have hm : ¬ fpOf (pk L is) m ∧ m < σ.next ∧ ∃ b, σ.get m = some b := ⟨hc.2, hc.1.1, _, hc.1.2⟩
  cases pn with
  | none => exact h
  | some l =>
    intro j hj
    have : j = m ∨ j ∈ l := by simpa [pnAdd, pnl] using hj
    rcases this with rfl | hj
    · exact hm
    · exact h j hj
end
end GAb
set_option linter.unusedVariables false
set_option linter.unusedSimpArgs false
namespace GAb
open Go
variable {P : Program}
/-- Strings joined. -/
def sadE (P : Program) (o : Oper) : Option (Operand × Operand) :=
  match o.op with
  | .binOp .add t x y _ => match okx x, okx y, P.underlying t with
    | true, true, some .string => some (x, y)
    | _, _, _ => none
  | _ => none
section
variable {B : Base} {all : Array Oper} {W : Pn → Env → AState → Prop} {n : Nat} {env : Env} {σ : AState} {o : Oper} {rest : List Oper} {d : Option Nat} {pn : Pn}
theorem l_sad {x y : Operand} {s t : ByteArray} (hs : sadE P o = some (x, y)) (hw : wantedE all n o env = true) (hd : dsto o = some d) (h1 : look n env x = .string s) (h2 : look n env y = .string t) (hb : s.size + t.size ≤ 1000000)
    (h : Lin P B all W n pn rest (upd env d (.string (s ++ t))) σ) : Lin P B all W n pn (o :: rest) env σ := by
  unfold sadE at hs
  split at hs
  · rename_i t' x' y' yt ho
    split at hs
    · rename_i k1 k2 hu
      injection hs with hs
      injection hs with e1 e2
      subst e1; subst e2
      have g1 := look_aval (n := n) (env := env) k1
      have g2 := look_aval (n := n) (env := env) k2
      rw [h1] at g1
      rw [h2] at g2
      refine l_p hw hd (aop_bin ho g1 g2 rfl rfl rfl ?_) (by unfold rbE; rw [ho]) h
      have hb2 : (do eqGuard .add t' x' y' (.string s) (.string t); binOp .add t' (.string s) (.string t) : Sem Value) = pure (.string (s ++ t)) := by
        simp [eqGuard, binOp, Op.stringOp]
        intro hh; omega
      rw [hb2]; rfl
    · cases hs
  · cases hs
end
end GAb
set_option linter.unusedVariables false
set_option linter.unusedSimpArgs false
namespace GAb
open Go
def many (A : List Fact) : Fact where
  P σ := (∀ f ∈ A, f.P σ) ∧ A.Pairwise Apart
  fp := fpOf A
  lt := by
    rintro σ ⟨h, _⟩ m ⟨f, hf, hm⟩
    exact f.lt σ (h f hf) m hm
  st := by
    rintro σ σ' ⟨h, k⟩ hle he
    exact ⟨fun f hf => f.st σ σ' (h f hf) hle fun m hm => he m ⟨f, hf, hm⟩, k⟩
variable {O : Nat → Prop} {σ0 σ : AState} {L R A : List Fact} {f : Fact}
theorem Facts.nomany (F : Facts O σ0 σ L) : Facts O σ0 σ (many [] :: L) := by
  refine ⟨F.le, F.eq, fun g hg => ?_, fun g hg m hm => ?_, ?_⟩
  · rcases List.mem_cons.1 hg with rfl | hg
    · exact ⟨(fun f hf => by cases hf), List.Pairwise.nil⟩
    · exact F.ho g hg
  · rcases List.mem_cons.1 hg with rfl | hg
    · obtain ⟨f, hf, _⟩ := hm; cases hf
    · exact F.fo g hg m hm
  · exact List.pairwise_cons.2 ⟨(fun g _ m ⟨f, hf, _⟩ => by cases hf), F.di⟩
/-- One more comes to the many. -/
theorem Facts.join (F : Facts O σ0 σ (many A :: f :: R)) : Facts O σ0 σ (many (A ++ [f]) :: R) := by
  obtain ⟨h1, h2⟩ := List.pairwise_cons.1 F.di
  obtain ⟨h3, h4⟩ := List.pairwise_cons.1 h2
  have hA := F.ho (many A) (by simp)
  have hf := F.ho f (by simp)
  refine ⟨F.le, F.eq, fun g hg => ?_, fun g hg m hm => ?_, ?_⟩
  · rcases List.mem_cons.1 hg with rfl | hg
    · refine ⟨fun g hg => ?_, ?_⟩
      · rcases List.mem_append.1 hg with hg | hg
        · exact hA.1 g hg
        · rw [List.mem_singleton.1 hg]; exact hf
      · refine List.pairwise_append.2 ⟨hA.2, List.pairwise_singleton _ _, fun g hg g' hg' m k1 k2 => ?_⟩
        rw [List.mem_singleton.1 hg'] at k2
        exact h1 f (by simp) m ⟨g, hg, k1⟩ k2
    · exact F.ho g (by simp [hg])
  · rcases List.mem_cons.1 hg with rfl | hg
    · obtain ⟨g, hg, hm⟩ := hm
      rcases List.mem_append.1 hg with hg | hg
      · exact F.fo (many A) (by simp) m ⟨g, hg, hm⟩
      · rw [List.mem_singleton.1 hg] at hm
        exact F.fo f (by simp) m hm
    · exact F.fo g (by simp [hg]) m hm
  · refine List.pairwise_cons.2 ⟨fun g hg m ⟨g', hg', k1⟩ k2 => ?_, h4⟩
    rcases List.mem_append.1 hg' with hg' | hg'
    · exact h1 g (by simp [hg]) m ⟨g', hg', k1⟩ k2
    · rw [List.mem_singleton.1 hg'] at k1
      exact h3 g hg m k1 k2
/-- One of the many. -/
theorem Facts.hasM (F : Facts O σ0 σ L) (k : Nat) (hk : L[k]? = some (many A)) {a : Option Addr} {l c es : Nat} {vs : List Value} (hf : own a l c es vs ∈ A) : Has σ a l c es vs :=
  Own.has ((F.ho _ (List.mem_of_getElem? hk)).1 _ hf)
theorem Facts.manyK (F : Facts O σ0 σ L) (is : List Nat) (k : Nat) (hk : L[k]? = some (many A)) (hn : k ∉ is) {a : Option Addr} {l c es : Nat} {vs : List Value} (hf : own a l c es vs ∈ A) : Old (fpOf (pk L is)) σ a l c es vs :=
  ⟨F.hasM k hk hf, fun m ⟨o, e, ha, _⟩ ⟨g, hg, hgm⟩ => by
    rw [pk_eq, List.mem_filterMap] at hg
    obtain ⟨i, hi, hg⟩ := hg
    exact pw_at F.di (fun e => hn (by rw [← e]; exact hi)) hg hk m hgm ⟨_, hf, ⟨o, e, ha⟩⟩⟩
end GAb
namespace GAb
open Go Go.RowKit
theorem opn_strS {P : Program} {t : TypeId} (ht : P.underlying t = some .string) : Opn P t fun _ vs => ∃ s : ByteArray, vs = [.string s] ∧ s.size ≤ reachBytes :=
  ⟨fun _ _ _ h _ => h, fun hy hz => by
    obtain ⟨b, rfl, hy1, hb⟩ := DataW.trod_string ht hy
    refine comes_pf rfl fun _ => ⟨b, rfl, ?_⟩
    subst hy1
    unfold Szd at hz
    simpa [DataW.weights] using hz⟩
end GAb
set_option linter.unusedVariables false
set_option linter.unusedSimpArgs false
namespace GAb
open Go
variable {P : Program} {B : Base} {n : Nat} {all : Array Oper} {W : Pn → Env → AState → Prop} {pn : Pn} {env : Env} {σ σ0 : AState} {o : Oper} {rest : List Oper} {d : Option Nat} {O : Nat → Prop} {L : List Fact}
theorem str_aop {x : Operand} {a : Option Addr} {len cap : Nat} {zs : List Int} (hs : strE P o = some x) (hx : look n env x = .slice a len cap) (hH : Has σ a len cap 1 (zs.map (.int .u8))) : aop P o (actOf n env) σ = some (.string (strOfNums zs), σ, none) ∧ rbName o (actOf n env) = rdName (.slice a len cap) := by
  have hl := hH.size
  rw [List.length_map, Nat.mul_one] at hl
  unfold strE at hs
  split at hs
  · rename_i src dst x' ho
    split at hs
    · rename_i e h1 h2 h3
      split at hs
      · rename_i h4
        injection hs with hs
        subst hs
        refine ⟨?_, by unfold rbName; simp only [ho, look_aval h1, hx]⟩
        unfold aop
        simp only [ho, h2, h3, look_aval h1, hx]
        unfold aStr
        simp only [h2, h3, h4]
        by_cases h0 : len = 0
        · subst h0
          have : zs = [] := List.eq_nil_of_length_eq_zero hl
          subst this
          obtain ⟨ws, hR, _⟩ := hH
          rcases hR with ⟨rfl, _, rfl, _⟩ | ⟨m, ofs, e', rfl, _⟩
          · rfl
          · simp
        · obtain ⟨m, ofs, e', rfl, hr⟩ := hH.rd (by omega)
          have := hr 0 len (by omega)
          simp only [Nat.add_zero, List.drop_zero] at this
          rw [List.take_of_length_le (by rw [List.length_map, hl]; exact Nat.le_refl _)] at this
          simp only [h0, if_false, this, u8s_map, Option.map_some]
      · cases hs
    · cases hs
  · cases hs
theorem Old.sfc {O : Nat → Prop} {σ : AState} {a : Option Addr} {l c es : Nat} {vs : List Value} (h : Old O σ a l c es vs) {m o : Nat} {e : Option Nat} (ha : a = some ⟨m, o, e⟩) (hl : 0 < c) : Sf O σ m := by
  have hn : Nr a c m := ⟨o, e, ha, fun ⟨h0, _⟩ => by omega⟩
  refine ⟨h.1.nm_lt hn, h.2 m hn, ?_⟩
  obtain ⟨zs, hR, _⟩ := h.1
  rcases hR with ⟨h0, _⟩ | ⟨m', o', e', h0, ⟨h1, _⟩ | ⟨_, _, _, b, hb, _⟩⟩
  · rw [ha] at h0; cases h0
  · omega
  · rw [ha] at h0; injection h0 with h0; injection h0 with h0 _ _; subst h0; exact ⟨b, hb⟩
theorem l_strm {x : Operand} {a : Option Addr} {len cap : Nat} {zs : List Int} (F : Facts O σ0 σ L) (hO : Old O σ0 a len cap 1 (zs.map (.int .u8))) (hc : a = none ∨ 0 < cap) (hk : opk o = 16) (hs : strE P o = some x) (hw : wantedE all n o env = true) (hd : dsto o = some d) (hx : look n env x = .slice a len cap)
    (h : ∀ pn', (PnS pn O σ0 → PnS pn' O σ0) → Lin P B all W n pn' rest (upd env d (.string (strOfNums zs))) σ) : Lin P B all W n pn (o :: rest) env σ := by
  obtain ⟨h1, h2⟩ := str_aop hs hx (F.old hO)
  cases a with
  | none =>
    refine Lin.rd hw h1 (fun m _ h => by rw [h2] at h; cases h) ?_
    rw [dsto_eq hd, h2]
    exact h _ (fun hp => by cases pn <;> exact hp)
  | some p =>
    obtain ⟨m, ofs, e⟩ := p
    have hS : Sf O σ0 m := hO.sfc rfl (by rcases hc with hc | hc; · cases hc
                                          · exact hc)
    refine l_r hw hd h1 h2 ?_ (h _ (fun hp => hp.add hS))
    rw [F.eq m hS.1 hS.2.1]; exact hS.2.2
end GAb
