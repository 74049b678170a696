/- More operations on rows in a walk: parts of slices, makes, copies, stores. No statement of the seat is proved in this text. -/
import Derived.Test.YtpocmkgfmmhhgaaAb15
set_option linter.unusedVariables false
set_option linter.unusedSimpArgs false
namespace GAb
open Go Go.RowKit

theorem wrapi {x : Int} (h0 : -9223372036854775808 ≤ x) (h1 : x ≤ 9223372036854775807) : IntKind.i64.wrap x = x := by
  simp only [IntKind.wrap, IntKind.bits, IntKind.signed]
  simp
  omega
theorem wrap8 {x : Int} (h0 : 0 ≤ x) (h1 : x ≤ 255) : IntKind.u8.wrap x = x := by
  simp only [IntKind.wrap, IntKind.bits, IntKind.signed]
  simp
  omega
theorem wrap32 {x : Int} (h0 : 0 ≤ x) (h1 : x ≤ 4294967295) : IntKind.u32.wrap x = x := by
  simp only [IntKind.wrap, IntKind.bits, IntKind.signed]
  simp
  omega

section
variable {P : Program} {B : Base} {Q : Post} {σ : AState} {n : Nat} {env : Env}

/-- A part of a slice: of what, from where, to where, an element's cells. -/
def slE (P : Program) (o : Oper) : Option (Operand × Option Operand × Option Operand × Nat) :=
  match o.op with
  | .slice t x lo hi none => match okx x, P.underlying t with
    | true, some (.slice elem) => (tsz P elem).map fun k => (x, lo, hi, k)
    | _, _ => none
  | _ => none
/-- A bound, if there is one, else d. -/
def Bnd (n : Nat) (env : Env) (x : Option Operand) (d r : Nat) : Prop :=
  match x with
  | none => r = d
  | some y => okx y = true ∧ ∃ k i, look n env y = .int k i ∧ 0 ≤ i ∧ i.toNat = r
theorem Bnd.opt {x : Option Operand} {d r : Nat} (h : Bnd n env x d r) : ∃ v, aopt (actOf n env) x = some v ∧ bnd v d = some r := by
  cases x with
  | none => exact ⟨none, rfl, by simpa [bnd, Bnd] using h.symm⟩
  | some y =>
    obtain ⟨h1, k, i, h2, h3, h4⟩ := h
    exact ⟨some (.int k i), by simp [aopt, look_aval h1, h2, pf, flat], by simp [bnd, h3, h4]⟩

theorem e_sl {all : Array Oper} {o : Oper} {rest : List Oper} {x : Operand} {lo hi : Option Operand} {es len cap l h : Nat} {a : Option Addr} {zs : List Value} {d : Option Nat} (hw : wantedE all n o env = true) (hs : slE P o = some (x, lo, hi, es)) (hd : dsto o = some d)
    (hx : look n env x = .slice a len cap) (hR : Row σ a len cap es zs) (hl : Bnd n env lo 0 l) (hh : Bnd n env hi len h) (h1 : l ≤ h) (h2 : h ≤ cap)
    (hk : ∀ a', Row σ a' (h - l) (cap - l) es (zs.drop (l * es)) → (∀ n0 vs, l = 0 → zs.take (h * es) = vs → Own n0 σ a len cap es (zs.take (len * es)) → Own n0 σ a' h cap es vs) → EOps P B all rest Q n (upd env d (.slice a' (h - l) (cap - l))) σ) : EOps P B all (o :: rest) Q n env σ := by
  unfold slE at hs
  split at hs
  · rename_i t x' lo' hi' ho
    split at hs
    · rename_i elem k1 hu
      cases hk' : tsz P elem with
      | none => rw [hk'] at hs; cases hs
      | some k' =>
        rw [hk'] at hs
        injection hs with hs
        injection hs with e1 hs
        injection hs with e2 hs
        injection hs with e3 e4
        subst e1; subst e2; subst e3; subst e4
        obtain ⟨vl, l1, l2⟩ := hl.opt
        obtain ⟨vh, l3, l4⟩ := hh.opt
        have l5 : aopt (actOf n env) none = some none := rfl
        rcases hR with ⟨rfl, rfl, rfl, rfl⟩ | ⟨m, ofs, e, rfl, hR⟩
        · have hh0 : h = 0 := by omega
          have hl0 : l = 0 := by omega
          subst hh0; subst hl0
          refine e_aop hw (v := .slice none 0 0) (σ' := σ) (wn := none) ?_ (fun _ h => by cases h) hd (hk none ?_ (fun n0 vs _ hv hO => by subst hv; simpa using hO))
          · have hb : bnd none 0 = some 0 := rfl
            unfold aop
            simp only [ho, look_aval k1, hx, l1, l3, l5]
            unfold aSlice
            simp only [hu, l2, l4, hk', hb]
            rfl
          · simp [Row]
        · have hb : bnd none cap = some cap := rfl
          rcases hR with ⟨rfl, rfl, rfl, rfl⟩ | ⟨he, r1, r2, b, r3, r4, r5, r6⟩
          · have hh0 : h = 0 := by omega
            have hl0 : l = 0 := by omega
            subst hh0; subst hl0
            refine e_aop hw (v := .slice (some ⟨m, ofs, some 0⟩) 0 0) (σ' := σ) (wn := none) ?_ (fun _ h => by cases h) hd (hk _ ?_ (fun n0 vs _ hv hO => by subst hv; simpa using hO))
            · unfold aop
              simp only [ho, look_aval k1, hx, l1, l3, l5]
              unfold aSlice
              simp only [hu, l2, l4, hk', hb]
              simp
            · exact .inr ⟨m, ofs, some 0, rfl, .inl ⟨rfl, rfl, by simp, rfl⟩⟩
          · have hsz : zs.length = cap * k' := by rw [← r6]; simp; omega
            have hlc := Nat.mul_le_mul_right k' (Nat.le_trans h1 h2)
            have hcl : l * k' + (cap - l) * k' = cap * k' := by rw [← Nat.add_mul]; congr 1; omega
            refine e_aop hw (v := .slice (some ⟨m, ofs + l * k', e⟩) (h - l) (cap - l)) (σ' := σ) (wn := none) ?_ (fun _ h => by cases h) hd (hk _ ?_ ?_)
            · unfold aop
              simp only [ho, look_aval k1, hx, l1, l3, l5]
              unfold aSlice
              simp only [hu, l2, l4, hk', hb]
              rw [if_pos ⟨h1, h2, Nat.le_refl _⟩]
              rcases he with rfl | rfl
              · simp only [r3, r4, if_true]
              · rfl
            · refine .inr ⟨m, _, e, rfl, .inr ⟨he, r1, by omega, b, r3, r4, by omega, ?_⟩⟩
              rw [← r6, ← List.drop_drop, List.drop_take]
              congr 1
              omega
            · intro n0 vs hl0 hv hO
              subst hl0
              rcases hO with ⟨o1, ⟨o2, _⟩ | ⟨m', e', cs, o2, o3, o4, o5, o6, o7, o8, o9⟩⟩
              · cases o2
              · injection o2 with o2
                injection o2 with o2 o10 o11
                subst o2; subst o10; subst o11
                rw [r3] at o7
                injection o7 with o7
                subst o7
                refine ⟨o1, .inr ⟨m, e, cs, by simp, he, o4, o5, h2, r3, o8, ?_⟩⟩
                rw [← hv, ← r6]
                simp only [List.drop_zero]
                rw [List.take_take, Nat.min_eq_left (Nat.mul_le_mul_right k' h2)]
    · cases hs
  · cases hs

/-- A row of numbers that this function has made: an append to it. -/
theorem e_appi {k : IntKind} {all : Array Oper} {o : Oper} {rest : List Oper} {x y : Operand} {elem : TypeId} {by_ n0 len cap m c2 : Nat} {a a2 : Option Addr} {xs ys : List Int} {d : Option Nat} (hw : wantedE all n o env = true) (ha : appE P o = some (x, y, elem, 1, by_)) (hd : dsto o = some d)
    (hx : look n env x = .slice a len cap) (hy : look n env y = .slice a2 m c2) (hO : Own n0 σ a len cap 1 (xs.map (.int k))) (hH : Has σ a2 m c2 1 (ys.map (.int k))) (hbd : (len + m) * by_ ≤ 140737488355328 ∧ len + m ≤ 4611686018427387904) (hD : ∀ m, n0 ≤ m → B.D m)
    (h : ∀ a' cap' σ', Own n0 σ' a' (len + m) cap' 1 ((xs ++ ys).map (.int k)) → Kp n0 σ σ' → EOps P B all rest Q n (upd env d (.slice a' (len + m) cap')) σ') : EOps P B all (o :: rest) Q n env σ :=
  e_apps hw ha hd hx hy hO hH (by
    rw [List.all_eq_true]
    intro x hx
    obtain ⟨z, _, rfl⟩ := List.mem_map.1 hx
    rfl) hbd hD fun a' c' s' h1 h2 => h a' c' s' (by rwa [List.map_append]) h2

/-- A number, put in another way. -/
theorem e_i {all : Array Oper} {o : Oper} {rest : List Oper} {k : IntKind} {z z' : Int} {σ' : AState} {d : Option Nat} (hw : wantedE all n o env = true) (ho : bop P n o env σ = some (.int k z, σ', none)) (hu : z = z') (hd : dsto o = some d) (h : EOps P B all rest Q n (upd env d (.int k z')) σ') : EOps P B all (o :: rest) Q n env σ := by
  subst hu; exact e_op hw ho hd h

def isMv (o : Oper) : Bool :=
  match o.op with
  | .move _ | .assign _ => true
  | _ => false
theorem e_mv {all : Array Oper} {o : Oper} {rest : List Oper} {v : Value} {σ' : AState} {d : Option Nat} (hm : isMv o = true) (hw : wantedE all n o env = true) (ho : bop P n o env σ = some (v, σ', none)) (hd : dsto o = some d) (h : EOps P B all rest Q n (upd env d v) σ') : EOps P B all (o :: rest) Q n env σ := e_op hw ho hd h

/-- A sequence, cut: what is known between both. -/
theorem e_cut {α : Type} {x y : Code} (I : α → AState → Prop) (live : α → List (Nat × Value)) (h1 : ECode P B x (thenS (fun a σ => ∃ s env, a = actOf n env ∧ I s σ ∧ Sees env (live s)) Q) n env σ)
    (h2 : ∀ s env σ, I s σ → ECode P B y Q n (upds env (live s)) σ) : ECode P B (.seq x y) Q n env σ := by
  refine s_seq (SCode.mono h1 ?_)
  intro e a' σ' h
  cases e with
  | normal =>
    obtain ⟨s, env, rfl, hI, hS⟩ := h
    have := h2 s env σ' hI
    rw [upds_self hS] at this
    exact this
  | _ => exact h

/-- An operation that is reckoned out. -/
def plainOp (o : Oper) : Bool :=
  match o.op with
  | .move _ | .assign _ | .pick .. | .binOp .. | .unOp .. | .extract .. | .convert .. | .field .. | .build .. | .nilCheck .. => true
  | .call c => match c.callee with
    | .builtin .len | .builtin .min | .builtin .max => true
    | _ => false
  | _ => false
theorem e_ops {all : Array Oper} {o : Oper} {rest : List Oper} {v u : Value} {σ' : AState} {d : Option Nat} (hp : plainOp o = true) (hw : wantedE all n o env = true) (ho : bop P n o env σ = some (v, σ', none)) (hu : v = u) (hd : dsto o = some d) (h : EOps P B all rest Q n (upd env d u) σ') : EOps P B all (o :: rest) Q n env σ := by
  subst hu; exact e_op hw ho hd h
end
end GAb
