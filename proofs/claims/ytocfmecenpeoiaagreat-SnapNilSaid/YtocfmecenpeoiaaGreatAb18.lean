/- One operation and what it yields, for regions of both kinds; makes, copies, stores, rooms of zeros. No statement of the seat is proved in this text. -/
import Derived.Test.YtocfmecenpeoiaaGreatAbB
import Derived.OpenShut
set_option linter.unusedVariables false
set_option linter.unusedSimpArgs false
namespace GAb
open Go Go.RowKit

section
variable {P : Program} {B : Base} {Q : Post} {σ : AState} {n : Nat} {env : Env}

def Yld (P : Program) (n : Nat) (o : Oper) (env : Env) (σ : AState) (K : Value → AState → Option Nat → Prop) : Prop := ∃ v σ' wn, aop P o (actOf n env) σ = some (v, σ', wn) ∧ K v σ' wn

/-- In a region whose order is fixed. -/
theorem e_y {all : Array Oper} {o : Oper} {rest : List Oper} {d : Option Nat} (hw : wantedE all n o env = true) (hd : dsto o = some d) (h : Yld P n o env σ fun v σ' wn => (∀ m, wn = some m → B.D m) ∧ EOps P B all rest Q n (upd env d v) σ') : EOps P B all (o :: rest) Q n env σ := by
  obtain ⟨v, σ', wn, h1, h2, h3⟩ := h
  exact e_aop hw h1 h2 hd h3

/-! ### Regions of mixed orders -/
def EAny (P : Program) (B : Base) (ops : Array Oper) (fuel : Nat) (listed : Array Bool) (js tk : List Nat) (Q : Post) (n : Nat) (env : Env) (σ : AState) : Prop :=
  ∀ pr : List (Nat × Nat), (∀ e ∈ pr, e.1 ∈ js) → SAny P B ops fuel listed pr tk Q (actOf n env) σ
theorem a_region {id : Nat} {ops : Array Oper} (hm : P.follows .mixedOrders = true) (h : EAny P B ops ops.size (Array.replicate ops.size false) [] [] Q n env σ) : ECode P B (.region id ops true) Q n env σ :=
  s_region_draw hm (h [] (by simp))
theorem a_done {ops : Array Oper} {fuel : Nat} {listed : Array Bool} {js tk : List Nat} (hr : Region.ready .any ops listed = []) (h : Q .normal (actOf n env) σ) : EAny P B ops fuel listed js tk Q n env σ :=
  fun pr _ => any_done hr h fuel
theorem a_take {ops : Array Oper} {fuel : Nat} {listed : Array Bool} {js tk : List Nat} (i : Nat) {o : Oper} {d : Option Nat} (hi : ops[i]? = some o) (hs : Region.noSelect ops = true) (hf : Region.free .any ops listed i = true) (hr : (Region.ready .any ops listed).contains i = true)
    (hw : wantedE ops n o env = true) (ht : isTake P o = true) (hd : dsto o = some d) (h : Yld P n o env σ fun v _ _ => EAny P B ops fuel (listed.setIfInBounds i true) (i :: js) (i :: tk) Q n (upd env d v) σ) : EAny P B ops (fuel + 1) listed js tk Q n env σ := by
  intro pr hpr
  obtain ⟨v, σ', wn, h1, h2⟩ := h
  refine any_take hi hs hf hr (by rw [wantedE_eq]; exact hw) ht h1 ?_
  rw [actOf_put, dsto_eq hd]
  refine h2 _ fun e he => ?_
  rcases List.mem_append.1 he with he | he
  · unfold entry at he
    split at he
    · simp at he; rw [he]; simp
    · cases he
  · exact List.mem_cons_of_mem _ (hpr e he)
theorem a_take_skip {ops : Array Oper} {fuel : Nat} {listed : Array Bool} {js tk : List Nat} (i : Nat) {o : Oper} {d : Option Nat} (hi : ops[i]? = some o) (hs : Region.noSelect ops = true) (hf : Region.free .any ops listed i = true) (hr : (Region.ready .any ops listed).contains i = true)
    (hw : wantedE ops n o env = false) (hd : dsto o = some d) (h : EAny P B ops fuel (listed.setIfInBounds i true) js (i :: tk) Q n (upd env d undef) σ) : EAny P B ops (fuel + 1) listed js tk Q n env σ := by
  intro pr hpr
  refine any_take_skip hi hs hf hr (by rw [wantedE_eq]; exact hw) ?_
  rw [actOf_put, dsto_eq hd]
  exact h pr hpr
theorem rem_nil {ops : Array Oper} {i : Nat} {js : List Nat} {pr : List (Nat × Nat)} (hj : js.all (dep ops i) = true) (hpr : ∀ e ∈ pr, e.1 ∈ js) : rem ops i pr = [] := by
  unfold rem
  rw [List.filter_eq_nil_iff]
  intro e he
  have := List.all_eq_true.1 hj e.1 (hpr e he)
  simp [this]
/-- An operation on which nothing else waits that is still to come, and behind all that was read. -/
theorem a_only {ops : Array Oper} {fuel : Nat} {listed : Array Bool} {js tk : List Nat} (i : Nat) {o : Oper} {d : Option Nat} (hi : ops[i]? = some o) (hr : Region.ready .any ops listed = [i]) (hw : wantedE ops n o env = true) (hj : js.all (dep ops i) = true) (hd : dsto o = some d)
    (h : Yld P n o env σ fun v σ' wn => (∀ m, wn = some m → B.D m) ∧ EAny P B ops fuel (listed.setIfInBounds i true) [] tk Q n (upd env d v) σ') : EAny P B ops (fuel + 1) listed js tk Q n env σ := by
  intro pr hpr
  obtain ⟨v, σ', wn, h1, h2, h3⟩ := h
  have hn := rem_nil hj hpr
  refine any_only hi hr (by rw [wantedE_eq]; exact hw) h1 h2 (by rw [hn]; simp) (by rw [hn]; simp) ?_
  rw [actOf_put, dsto_eq hd, hn]
  exact h3 [] (by simp)
theorem a_call {ops : Array Oper} {fuel : Nat} {listed : Array Bool} {js tk : List Nat} (i : Nat) {o : Oper} {d : Option Nat} {g : FuncId} {vs : List Value} {fn : Func} {D : Nat → Prop} {R : Value → AState → Prop} (hi : ops[i]? = some o) (hr : Region.ready .any ops listed = [i]) (hw : wantedE ops n o env = true) (hj : js.all (dep ops i) = true) (hd : dsto o = some d)
    (ht : callE P n o env = some (g, vs)) (hf : P.funcs[g]? = some fn) (hb : (fn.body.isSome && fn.name != "runtime.NumGoroutine") = true) (hc : SCall P D g vs σ R) (hD : ∀ m, D m → B.D m)
    (h : ∀ v σ', R v σ' → EAny P B ops fuel (listed.setIfInBounds i true) [] tk Q n (upd env d v) σ') : EAny P B ops (fuel + 1) listed js tk Q n env σ := by
  intro pr hpr
  have hn := rem_nil hj hpr
  refine any_call hi hr (by rw [wantedE_eq]; exact hw) (callE_target ht hf hb) hD (by rw [hn]; simp) (by rw [hn]; simp) (hc.mono (fun _ _ h => h) fun v σ' hR => ?_)
  rw [actOf_put, dsto_eq hd, hn]
  exact h v σ' hR [] (by simp)

/-! ### What single operations yield -/
section
variable {K : Value → AState → Option Nat → Prop} {o : Oper}
theorem y_op {v u : Value} {σ' : AState} (ho : bop P n o env σ = some (v, σ', none)) (hu : v = u) (h : K u σ' none) : Yld P n o env σ K := by
  subst hu; exact ⟨v, σ', none, bop_sound ho, h⟩
theorem y_ix {x ix : Operand} {es len cap : Nat} {a : Option Addr} {ik : IntKind} {i : Int} {vs : List Value} (hs : ixE P o = some (x, ix, es)) (hx : look n env x = .slice a len cap) (hi : look n env ix = .int ik i) (hH : Has σ a len cap es vs) (h0 : 0 ≤ i) (h1 : i < len)
    (h : ∀ p, At σ p ((vs.drop (i.toNat * es)).take es) → K (.pointer p) σ none) : Yld P n o env σ K := by
  obtain ⟨m, ofs, e, rfl, hr⟩ := hH.rd (by omega)
  refine ⟨_, _, _, ixE_sound hs hx hi h0 h1, h _ ⟨m, _, rfl, ?_⟩⟩
  have hb : i.toNat * es + es ≤ len * es := by
    have := Nat.mul_le_mul_right es (show i.toNat + 1 ≤ len by omega)
    rw [Nat.add_mul, Nat.one_mul] at this; exact this
  have hl := hH.size
  rw [show ((vs.drop (i.toNat * es)).take es).length = es by simp; omega]
  exact hr _ _ hb
theorem y_ixi {x ix : Operand} {len cap : Nat} {a : Option Addr} {ik k : IntKind} {i : Int} {zs : List Int} (hs : ixE P o = some (x, ix, 1)) (hx : look n env x = .slice a len cap) (hi : look n env ix = .int ik i) (hH : Has σ a len cap 1 (zs.map (.int k))) (h0 : 0 ≤ i) (h1 : i < len)
    (h : ∀ p, At σ p [.int k (zs.getD i.toNat 0)] → K (.pointer p) σ none) : Yld P n o env σ K := by
  refine y_ix hs hx hi hH h0 h1 fun p hp => h p ?_
  have hl := hH.size
  rw [List.length_map, Nat.mul_one] at hl
  rw [Nat.mul_one] at hp
  have hlt : i.toNat < zs.length := by omega
  have : ((zs.map (Value.int k)).drop i.toNat).take 1 = [.int k (zs.getD i.toNat 0)] := by
    rw [List.drop_eq_getElem_cons (by simpa using hlt)]
    simp [List.getD, hlt]
  rwa [this] at hp
theorem ld_eq {x : Operand} {p : Option Addr} {v : Value} (hs : ldE P o = some (x, none)) (hx : look n env x = .pointer p) (hA : At σ p [v]) : aop P o (actOf n env) σ = some (v, σ, none) := by
  obtain ⟨m, ofs, rfl, hr⟩ := hA
  unfold ldE at hs
  split at hs
  · rename_i t x' ho
    split at hs
    · rename_i dd h1 hu
      split at hs
      · cases hk : tsz P t <;> rw [hk] at hs <;> simp at hs
      · rename_i ha
        injection hs with hs
        injection hs with e1 e2
        subst e1
        unfold aop aLoad
        simp only [ho, look_aval h1, hx, hu, ha, Bool.false_eq_true, if_false]
        have hr' : rd σ m ofs 1 = some [v] := hr
        simp only [hr']
    · cases hs
  · cases hs
theorem y_ld {x : Operand} {p : Option Addr} {v : Value} (hs : ldE P o = some (x, none)) (hx : look n env x = .pointer p) (hA : At σ p [v]) (h : K v σ none) : Yld P n o env σ K := ⟨_, _, _, ld_eq hs hx hA, h⟩

/-- The place of an element of a row of one's own. -/
def Loc (a p : Option Addr) (j : Nat) : Prop := ∃ m e, a = some ⟨m, 0, e⟩ ∧ p = some ⟨m, j, none⟩
theorem y_ixo {n0 : Nat} {x ix : Operand} {es len cap : Nat} {a : Option Addr} {ik : IntKind} {i : Int} {vs : List Value} (hs : ixE P o = some (x, ix, es)) (hx : look n env x = .slice a len cap) (hi : look n env ix = .int ik i) (hO : Own n0 σ a len cap es vs) (h0 : 0 ≤ i) (h1 : i < len)
    (h : ∀ p, At σ p ((vs.drop (i.toNat * es)).take es) → Loc a p (i.toNat * es) → K (.pointer p) σ none) : Yld P n o env σ K := by
  obtain ⟨m, ofs, e, rfl, hr⟩ := hO.has.rd (by omega)
  have hofs : ofs = 0 := by
    rcases hO with ⟨_, ⟨h, _⟩ | ⟨m', e', cs, h, _⟩⟩
    · cases h
    · injection h with h; injection h
  subst hofs
  refine ⟨_, _, _, ixE_sound hs hx hi h0 h1, h _ ⟨m, _, rfl, ?_⟩ ⟨m, e, rfl, by simp⟩⟩
  have hb : i.toNat * es + es ≤ len * es := by
    have := Nat.mul_le_mul_right es (show i.toNat + 1 ≤ len by omega)
    rw [Nat.add_mul, Nat.one_mul] at this; exact this
  have hl := hO.has.size
  rw [show ((vs.drop (i.toNat * es)).take es).length = es by simp; omega]
  exact hr _ _ hb

/-- A row of one's own is written into. -/
theorem own_wr {n0 len cap es : Nat} {a : Option Addr} {vs ws : List Value} {m : Nat} {e : Option Nat} (hO : Own n0 σ a len cap es vs) (ha : a = some ⟨m, 0, e⟩) {j : Nat} (hj : j + ws.length ≤ len * es) (h1 : ws.all Value.oneCell' = true) :
    ∃ σ', wr σ m j ws = some σ' ∧ n0 ≤ m ∧ Own n0 σ' a len cap es (splice vs j ws) ∧ Kp n0 σ σ' := by
  rcases hO with ⟨h0, ⟨h, _⟩ | ⟨m', e', cs, h, he, h2, h3, h4, h5, h6, h7⟩⟩
  · rw [ha] at h; cases h
  · rw [ha] at h
    injection h with h
    injection h with e1 e2 e3
    subst e1; subst e3
    have hle := Nat.mul_le_mul_right es h4
    refine ⟨σ.put m (some ⟨splice cs j ws, es, false⟩), ?_, h2, ⟨h0, .inr ⟨m, e, _, ha, he, h2, h3, h4, by rw [AState.get_put, if_pos rfl], ?_, ?_⟩⟩, Kp.put _ h2⟩
    · unfold wr; rw [h5]; simp only; rw [if_pos ⟨trivial, by omega, h1⟩]
    · rw [splice_length (by omega)]; exact h6
    · rw [← h7]
      unfold splice
      rw [List.take_append, List.take_append, List.take_take, List.length_take, List.drop_take, List.take_take]
      have e1 : min (len * es) j = j := by omega
      have e2 : min j cs.length = j := by omega
      have e3 : min j (len * es) = j := by omega
      rw [e1, e2, e3, List.take_of_length_le (by omega : ws.length ≤ len * es - j), Nat.sub_sub]

/-- A store of a value's cells. -/
def stE (P : Program) (o : Oper) : Option (Operand × Operand × Nat) :=
  match o.op with
  | .store t x y => match okx x, okx y with
    | true, true => (tsz P t).map fun k => (x, y, k)
    | _, _ => none
  | _ => none
theorem y_st {n0 : Nat} {x y : Operand} {k es len cap j : Nat} {a p : Option Addr} {v : Value} {vs : List Value} (hs : stE P o = some (x, y, k)) (hx : look n env x = .pointer p) (hy : look n env y = v) (hO : Own n0 σ a len cap es vs) (hL : Loc a p j) (hv : v.cells.size = k) (h1 : v.cells.toList.all Value.oneCell' = true) (hj : j + k ≤ len * es)
    (h : ∀ σ' m, n0 ≤ m → Own n0 σ' a len cap es (splice vs j v.cells.toList) → Kp n0 σ σ' → K undef σ' (some m)) : Yld P n o env σ K := by
  obtain ⟨m, e, ha, rfl⟩ := hL
  obtain ⟨σ', w1, w2, w3, w4⟩ := own_wr hO ha (j := j) (ws := v.cells.toList) (by simp [hv]; omega) h1
  refine ⟨undef, σ', some m, ?_, h σ' m w2 w3 w4⟩
  unfold stE at hs
  split at hs
  · rename_i t x' y' ho
    split at hs
    · rename_i k1 k2
      cases hk : tsz P t with
      | none => rw [hk] at hs; cases hs
      | some k' =>
        rw [hk] at hs
        injection hs with hs
        injection hs with e1 hs
        injection hs with e2 e3
        subst e1; subst e2; subst e3
        unfold aop aStore
        simp only [ho, look_aval k1, look_aval k2, hx, hy, hk, hv, if_true, w1, Option.map_some]
    · cases hs
  · cases hs

/-- A row that is made. -/
def mkE (P : Program) (o : Oper) : Option (Operand × Operand × Nat × Nat × List Value) :=
  match o.op with
  | .makeSlice t l c => match okx l, okx c, P.underlying t with
    | true, true, some (.slice elem) => match tsz P elem, tz P elem, tby P elem with
      | some k, some z, some b => match z.cells.toList.all flat, Nat.beq z.cells.size k, fvs z.cells.toList with
        | true, true, some zs => some (l, c, k, b, zs)
        | _, _, _ => none
      | _, _, _ => none
    | _, _, _ => none
  | _ => none
theorem y_mk {n0 : Nat} {l c : Operand} {k b : Nat} {zs : List Value} {lk ck : IntKind} {ln cn : Int} (hs : mkE P o = some (l, c, k, b, zs)) (hl : look n env l = .int lk ln) (hc : look n env c = .int ck cn) (hn : n0 ≤ σ.next) (h0 : 0 ≤ ln) (h1 : ln ≤ cn) (h2 : cn ≤ 9223372036854775807) (h3 : (b : Int) * cn ≤ 2 ^ 48)
    (h : ∀ q σ', Own n0 σ' (some q) ln.toNat cn.toNat k (zrow zs ln.toNat) → Kp n0 σ σ' → K (.slice (some q) ln.toNat cn.toNat) σ' none) : Yld P n o env σ K := by
  unfold mkE at hs
  split at hs
  · rename_i t l' c' ho
    split at hs
    · rename_i elem k1 k2 hu
      split at hs
      · rename_i k' z b' t1 t2 t3
        split at hs
        · rename_i zs' z1 z2 z3
          injection hs with hs
          injection hs with e1 hs
          injection hs with e2 hs
          injection hs with e3 hs
          injection hs with e4 e5
          subst e1; subst e2; subst e3; subst e4; subst e5
          have hz := fvs_eq z3
          have hsz : z.cells.size = k' := Nat.eq_of_beq_eq_true z2
          have hzl : zs'.length = k' := by rw [← hz]; simpa using hsz
          refine ⟨.slice (some ⟨σ.next, 0, some 0⟩) ln.toNat cn.toNat, σ.alloc ⟨zrow z.cells.toList cn.toNat, k', false⟩, none, ?_, h _ _ ?_ (Kp.alloc _ hn)⟩
          · unfold aop aMake
            simp only [ho, look_aval k1, look_aval k2, hl, hc, hu, t1, t2, t3]
            simp only [pf, flat, Bool.and_self, if_true]
            rw [if_pos ⟨h0, h1, h2, h3, z1, hsz⟩]
          · have := own_alloc (n0 := n0) (len := ln.toNat) (cap := cn.toNat) (σ := σ) (cs := zrow zs' cn.toNat) (es := k') (some 0) (.inr rfl) hn (by rw [zrow_length, hzl]) (by omega)
            rw [hz]
            have e : (zrow zs' cn.toNat).take (ln.toNat * k') = zrow zs' ln.toNat := by
              apply List.ext_getElem?
              intro i
              rw [List.getElem?_take]
              split
              · rename_i hi
                rw [zrow_get _ _ _ (by rw [hzl]; have := Nat.mul_le_mul_right k' (show ln.toNat ≤ cn.toNat by omega); omega), zrow_get _ _ _ (by rw [hzl]; exact hi)]
              · rename_i hi
                rw [List.getElem?_eq_none]
                rw [zrow_length, hzl]; omega
            rw [e] at this
            exact this
        · cases hs
      · cases hs
    · cases hs
  · cases hs

/-- A copy into a row of one's own. -/
def cpE (P : Program) (o : Oper) : Option (Operand × Operand × Nat) :=
  match o.op with
  | .call c => match c.callee, c.args.toList, c.argTypes[0]? with
    | .builtin .copy, [x, y], some t => match okx x, okx y, P.underlying t with
      | true, true, some (.slice elem) => (tsz P elem).map fun k => (x, y, k)
      | _, _, _ => none
    | _, _, _ => none
  | _ => none
theorem y_cp {n0 : Nat} {x y : Operand} {es len cap m c2 : Nat} {a b : Option Addr} {vs ns : List Value} (hs : cpE P o = some (x, y, es)) (hx : look n env x = .slice a len cap) (hy : look n env y = .slice b m c2) (hO : Own n0 σ a len cap es vs) (hH : Has σ b m c2 es ns) (h1 : ns.all Value.oneCell' = true)
    (h : ∀ σ' wn, (∀ k, wn = some k → n0 ≤ k) → Own n0 σ' a len cap es (splice vs 0 (ns.take (min m len * es))) → Kp n0 σ σ' → K (.int .i64 (min m len : Nat)) σ' wn) : Yld P n o env σ K := by
  have hc := hH.cells (min m len) (Nat.min_le_left _ _)
  have hsz := hH.size
  unfold cpE at hs
  split at hs
  · rename_i c ho
    split at hs
    · rename_i x' y' t hc1 hc2 hc3
      split at hs
      · rename_i elem k1 k2 hu
        cases hk : tsz P elem with
        | none => rw [hk] at hs; cases hs
        | some k' =>
          rw [hk] at hs
          injection hs with hs
          injection hs with e1 hs
          injection hs with e2 e3
          subst e1; subst e2; subst e3
          have hop : aop P o (actOf n env) σ = aCopy P c.argTypes (.slice a len cap) (.slice b m c2) σ := by
            unfold aop
            simp only [ho, hc1]
            unfold aBuiltin
            simp only [hc2, look_aval k1, look_aval k2, hx, hy]
          have hall : (ns.take (min m len * k')).all Value.oneCell' = true := by
            rw [List.all_eq_true] at h1 ⊢
            exact fun v hv => h1 v (List.mem_of_mem_take hv)
          have hlen : (ns.take (min m len * k')).length ≤ len * k' := by
            have := Nat.mul_le_mul_right k' (Nat.min_le_right m len)
            simp; omega
          cases hns : ns.take (min m len * k') with
          | nil =>
            refine ⟨.int .i64 (min m len : Nat), σ, none, ?_, h σ none (fun _ h => by cases h) (by rw [hns, splice_nil]; exact hO) (Kp.refl _ _)⟩
            rw [hop]
            unfold aCopy
            simp only [hc3, hu, hk, aLen, hc, hns]
          | cons w ws =>
            have hpos : 0 < len := by
              rcases Nat.eq_zero_or_pos len with h | h
              · subst h; rw [hns] at hlen; simp at hlen
              · exact h
            obtain ⟨q, ofs, e, ha, _⟩ := hO.has.rd hpos
            have hofs : ofs = 0 := by
              rcases hO with ⟨_, ⟨h, _⟩ | ⟨m', e', cs, h, _⟩⟩
              · rw [ha] at h; cases h
              · rw [ha] at h; injection h with h; injection h
            subst hofs
            obtain ⟨σ', w1, w2, w3, w4⟩ := own_wr hO ha (j := 0) (by rw [Nat.zero_add]; exact hlen) hall
            refine ⟨.int .i64 (min m len : Nat), σ', some q, ?_, h σ' (some q) (fun k hk => by injection hk with hk; omega) w3 w4⟩
            rw [hop, ha]
            unfold aCopy
            simp only [hc3, hu, hk, aLen, hc, hns]
            rw [hns] at w1
            simp only [w1, Option.map_some]
      · cases hs
    · cases hs
  · cases hs

/-- An append of so many zeros. -/
def azE (P : Program) (o : Oper) : Option (Operand × Operand × TypeId × Nat × Nat × List Value) :=
  match o.op with
  | .call c => match c.callee, c.args.toList, c.argTypes[0]?, c.argTypes[1]? with
    | .builtin .append, [x, y], some st, some xt => match okx x, okx y, P.underlying st, P.underlying xt with
      | true, true, some (.slice elem), some (.int _) => match tsz P elem, tz P elem, tby P elem with
        | some k, some z, some b => match z.cells.toList.all flat, Nat.beq z.cells.size k, fvs z.cells.toList with
          | true, true, some zs => some (x, y, elem, k, b, zs)
          | _, _, _ => none
        | _, _, _ => none
      | _, _, _, _ => none
    | _, _, _, _ => none
  | _ => none
theorem flat_one {v : Value} (h : flat v = true) : v.oneCell' = true := by
  unfold flat at h
  split at h <;> first | rfl | cases h
theorem y_az {n0 : Nat} {x y : Operand} {elem : TypeId} {es by_ len cap : Nat} {a : Option Addr} {vs zs : List Value} {ik : IntKind} {l : Int} (hs : azE P o = some (x, y, elem, es, by_, zs)) (hx : look n env x = .slice a len cap) (hy : look n env y = .int ik l) (hO : Own n0 σ a len cap es vs) (h0 : 0 ≤ l)
    (hbd : (len + l.toNat) * by_ ≤ 140737488355328 ∧ len + l.toNat ≤ 4611686018427387904)
    (h : ∀ a' cap' σ' wn, (∀ k, wn = some k → n0 ≤ k) → Own n0 σ' a' (len + l.toNat) cap' es (vs ++ zrow zs l.toNat) → Kp n0 σ σ' → K (.slice a' (len + l.toNat) cap') σ' wn) : Yld P n o env σ K := by
  unfold azE at hs
  split at hs
  · rename_i c ho
    split at hs
    · rename_i x' y' st xt hc1 hc2 hc3 hc4
      split at hs
      · rename_i elem' ik' k1 k2 hu1 hu2
        split at hs
        · rename_i k' z b' t1 t2 t3
          split at hs
          · rename_i zs' z1 z2 z3
            injection hs with hs
            injection hs with e1 hs
            injection hs with e2 hs
            injection hs with e3 hs
            injection hs with e4 hs
            injection hs with e5 e6
            subst e1; subst e2; subst e3; subst e4; subst e5; subst e6
            have hz := fvs_eq z3
            have hsz : z.cells.size = k' := Nat.eq_of_beq_eq_true z2
            have hzl : zs'.length = k' := by rw [← hz]; simpa using hsz
            have hall : (zrow zs' l.toNat).all Value.oneCell' = true := by
              have := zrow_flat (z := zs') (by rw [← hz]; exact z1) l.toNat
              rw [List.all_eq_true] at this ⊢
              exact fun v hv => flat_one (this v hv)
            obtain ⟨a', cap', σ', wn, j1, j2, j3, j4⟩ := aTail_own (n := l.toNat) hO t2 hsz t3 (ns := zrow zs' l.toNat) (by rw [zrow_length, hzl]) hall hbd
            refine ⟨_, σ', wn, ?_, h a' cap' σ' wn j2 j3 j4⟩
            rw [← j1]
            unfold aop
            simp only [ho, hc1]
            unfold aBuiltin
            simp only [hc2, look_aval k1, look_aval k2, hx, hy]
            unfold aAppend
            simp only [hc3, hc4, hu1, hu2, t1, t2, t3, isInt, if_true]
            rw [if_pos ⟨h0, by omega, by
              have : l * (b' : Int) = ((l.toNat * b' : Nat) : Int) := by rw [Int.natCast_mul, Int.toNat_of_nonneg h0]
              rw [this]
              have := Nat.mul_le_mul_right b' (Nat.le_add_left l.toNat len)
              omega, z1, hsz⟩, hz]
          · cases hs
        · cases hs
      · cases hs
    · cases hs
  · cases hs
end
end

/-- A division whose divisor is not 0. -/
theorem dv_eq {P : Program} {n : Nat} {o : Oper} {env : Env} {σ : AState} {op : BinOp} {t yt : TypeId} {x y : Operand} {k : IntKind} {p q r : Int} (ho : o.op = .binOp op t x y yt) (hx : okx x = true) (hy : okx y = true) (h1 : look n env x = .int k p) (h2 : look n env y = .int k q) (hq : q ≠ 0)
    (hr : (op = .quo ∧ r = k.wrap (p.tdiv q)) ∨ (op = .rem ∧ r = p.tmod q)) : aop P o (actOf n env) σ = some (.int k r, σ, none) := by
  have e1 := look_aval (n := n) (env := env) hx
  have e2 := look_aval (n := n) (env := env) hy
  rw [h1] at e1
  rw [h2] at e2
  have hex : execOp (actOf n env).eval o = (do pure (.value (← (do eqGuard op t x y (.int k p) (.int k q); binOp op t (.int k p) (.int k q) : Sem Value)))) := by
    simp only [execOp, ho, aval_eval e1, aval_eval e2]
  have hops : o.op.operands.toList = [x, y] := by simp [ho, Op.operands]
  unfold aop
  simp only [ho, e1, e2, pf, flat, Bool.and_self, if_true]
  unfold gen
  have hall : (o.op.operands.toList.all (pfOperand (actOf n env)) && noSel o.op) = true := by
    rw [hops]
    simp [pfOperand, e1, e2, noSel, ho, pf, flat]
  rw [if_pos hall, hex]
  have hb : (do eqGuard op t x y (.int k p) (.int k q); binOp op t (.int k p) (.int k q) : Sem Value) = pure (.int k r) := by
    rcases hr with ⟨rfl, rfl⟩ | ⟨rfl, rfl⟩ <;> simp [eqGuard, binOp, Op.intDiv, hq]
  rw [hb]
  rfl
def dvE (o : Oper) : Option (BinOp × Operand × Operand) :=
  match o.op with
  | .binOp op _ x y _ => match okx x, okx y with
    | true, true => some (op, x, y)
    | _, _ => none
  | _ => none
theorem y_dv {P : Program} {n : Nat} {o : Oper} {env : Env} {σ : AState} {K : Value → AState → Option Nat → Prop} {op : BinOp} {x y : Operand} {k : IntKind} {p q r : Int} (hs : dvE o = some (op, x, y)) (h1 : look n env x = .int k p) (h2 : look n env y = .int k q) (hq : q ≠ 0)
    (hr : (op = .quo ∧ r = k.wrap (p.tdiv q)) ∨ (op = .rem ∧ r = p.tmod q)) (h : K (.int k r) σ none) : Yld P n o env σ K := by
  unfold dvE at hs
  split at hs
  · rename_i op' t x' y' yt ho
    split at hs
    · rename_i k1 k2
      injection hs with hs
      injection hs with a1 hs
      injection hs with a2 a3
      subst a1; subst a2; subst a3
      exact ⟨_, _, _, dv_eq ho k1 k2 h1 h2 hq hr, h⟩
    · cases hs
  · cases hs

section
variable {P : Program} {B : Base} {Q : Post} {σ : AState} {n : Nat} {env : Env}
/-- An index and its load, one behind the other. -/
theorem e_ixl {all : Array Oper} {o o2 : Oper} {rest : List Oper} {x ix x2 : Operand} {len cap : Nat} {a : Option Addr} {ik k : IntKind} {i : Int} {zs : List Int} {d d2 : Option Nat} (hs : ixE P o = some (x, ix, 1)) (hs2 : ldE P o2 = some (x2, none)) (hw : wantedE all n o env = true) (hd : dsto o = some d) (hd2 : dsto o2 = some d2)
    (hx : look n env x = .slice a len cap) (hi : look n env ix = .int ik i) (hH : Has σ a len cap 1 (zs.map (.int k))) (h0 : 0 ≤ i) (h1 : i < len) (hw2 : ∀ p, wantedE all n o2 (upd env d (.pointer p)) = true) (hx2 : ∀ p, look n (upd env d (.pointer p)) x2 = .pointer p)
    {z : Int} (hz : zs.getD i.toNat 0 = z) (h : ∀ p, EOps P B all rest Q n (upd (upd env d (.pointer p)) d2 (.int k z)) σ) : EOps P B all (o :: o2 :: rest) Q n env σ :=
  e_ixi hw hs hd hx hi hH h0 h1 fun p hp => e_ld (hw2 p) hs2 hd2 (hx2 p) (by rw [← hz]; exact hp) (h p)
end

/-- The bytes that came in are bytes. -/
theorem isRow8 {w : World} {a : Option Addr} {len cap : Nat} {zs : List Int} (h : IsRow .u8 w a len cap zs) : ∀ x ∈ zs, 0 ≤ x ∧ x ≤ 255 := by
  rcases h with ⟨_, _, _, rfl⟩ | ⟨_, _, _, _, _, _, hwf⟩
  · intro x hx; cases hx
  · intro x hx; exact bounds_u8 (hwf x hx)

end GAb
