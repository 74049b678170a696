/- Code over the abstract heap: sequences, branches, loops, regions, calls. No statement of the seat is proved in this text. -/
import Derived.Test.YtpocmkgfmmhhgaaAb9
import Derived.Deep.LoopGhost
set_option linter.unusedVariables false
set_option linter.unusedSimpArgs false
namespace GAb
open Go

/-- Where a function was entered; what its code may write. -/
structure Base where
  D : Nat → Prop
  φ : Ren
  σ : AState
  w : World
  h : HRel φ σ w

def Base.Go (B : Base) (φ : Ren) (σ : AState) (w : World) : Prop := Goes B.D B.φ B.σ B.w φ σ w
theorem Base.start (B : Base) : B.Go B.φ B.σ B.w := Goes.refl B.h
theorem Base.Go.step {B : Base} {φ φ' : Ren} {σ σ' : AState} {w w' : World} (h : B.Go φ σ w) {E : Nat → Prop} (k : Goes E φ σ w φ' σ' w') (hE : ∀ n, E n → B.D n) : B.Go φ' σ' w' :=
  Goes.trans h k (fun n _ hn => hE n hn) B.h
theorem Base.Go.drew {B : Base} {φ : Ren} {σ : AState} {w : World} (h : B.Go φ σ w) (n : Nat) : B.Go φ σ { w with drawn := n } := h.step (Goes.drew h.rel n) fun _ hn => hn

def okE : Exit → Bool
  | .panic _ | .outgrown => false
  | _ => true

abbrev Post := Exit → Act → AState → Prop
def SQ (B : Base) (Q : Post) : Exit → Act → World → Prop := fun e a' w' => okE e = true ∧ ∃ a2 σ2 φ2, Q e a2 σ2 ∧ ARel φ2 a2 a' ∧ B.Go φ2 σ2 w'
def SCode (P : Program) (B : Base) (c : Code) (Q : Post) (a : Act) (σ : AState) : Prop :=
  ∀ φ w a', B.Go φ σ w → ARel φ a a' → c.wp P (SQ B Q) a' w
def SCall (P : Program) (D : Nat → Prop) (f : FuncId) (args : List Value) (σ : AState) (R : Value → AState → Prop) : Prop :=
  ∀ φ w args', HRel φ σ w → LRel φ args args' → Calls P f args'.toArray w fun e w' => ∃ v σ' φ' u, e = .returned u ∧ R v σ' ∧ VRel φ' v u ∧ Goes D φ σ w φ' σ' w'

theorem SCall.mono {P : Program} {D E : Nat → Prop} {f : FuncId} {args : List Value} {σ : AState} {R S : Value → AState → Prop} (h : SCall P D f args σ R) (hD : ∀ n, n < σ.next → D n → E n) (hR : ∀ v σ', R v σ' → S v σ') : SCall P E f args σ S :=
  fun φ w args' hr ha => (h φ w args' hr ha).mono fun e w' ⟨v, σ', φ', u, h1, h2, h3, h4⟩ => ⟨v, σ', φ', u, h1, hR _ _ h2, h3, h4.weaken hr hD⟩

section
variable {P : Program} {B : Base} {Q : Post} {a : Act} {σ : AState}

theorem SCode.mono {Q' : Post} {c : Code} (h : SCode P B c Q a σ) (hq : ∀ e a σ, Q e a σ → Q' e a σ) : SCode P B c Q' a σ :=
  fun φ w a' hr ha => Go.wp_mono (h φ w a' hr ha) fun e a1 w1 ⟨h1, a2, σ2, φ2, h2, h3, h4⟩ => ⟨h1, a2, σ2, φ2, hq _ _ _ h2, h3, h4⟩

theorem s_skip (h : Q .normal a σ) : SCode P B .skip Q a σ := fun φ w a' hr ha => wp_skip ⟨rfl, a, σ, φ, h, ha, hr⟩
theorem s_ret (h : Q .ret a σ) : SCode P B .ret Q a σ := fun φ w a' hr ha => wp_ret ⟨rfl, a, σ, φ, h, ha, hr⟩
theorem s_exit {id : Nat} (h : Q (.exit id) a σ) : SCode P B (.exit id) Q a σ := fun φ w a' hr ha => wp_exit ⟨rfl, a, σ, φ, h, ha, hr⟩

def thenS (K : Act → AState → Prop) (Q : Post) : Post
  | .normal, a, σ => K a σ
  | e, a, σ => Q e a σ
theorem s_seq {x y : Code} (h : SCode P B x (thenS (fun a σ => SCode P B y Q a σ) Q) a σ) : SCode P B (.seq x y) Q a σ := by
  intro φ w a' hr ha
  refine wp_seq (Go.wp_mono (h φ w a' hr ha) ?_)
  rintro e a1 w1 ⟨h1, a2, σ2, φ2, h2, h3, h4⟩
  cases e with
  | normal => exact h2 φ2 w1 a1 h4 h3
  | exit id => exact ⟨h1, a2, σ2, φ2, h2, h3, h4⟩
  | goto l => exact ⟨h1, a2, σ2, φ2, h2, h3, h4⟩
  | ret => exact ⟨h1, a2, σ2, φ2, h2, h3, h4⟩
  | panic c => exact ⟨h1, a2, σ2, φ2, h2, h3, h4⟩
  | outgrown => exact ⟨h1, a2, σ2, φ2, h2, h3, h4⟩

theorem s_cond {c : Operand} {x y : Code} {t : Bool} (hc : aval a c = some (.bool t)) (h : SCode P B (if t then x else y) Q a σ) : SCode P B (.cond c x y) Q a σ := by
  intro φ w a' hr ha
  have he : a'.eval c = .bool t := flat_eq rfl (aval_sound ha hc)
  exact wp_cond he (h φ w a' hr ha)

def inBlockS (id : Nat) (Q : Post) : Post
  | .exit id', a, σ => if id' = id then Q .normal a σ else Q (.exit id') a σ
  | e, a, σ => Q e a σ
theorem s_block {id : Nat} {c : Code} (h : SCode P B c (inBlockS id Q) a σ) : SCode P B (.block id c) Q a σ := by
  intro φ w a' hr ha
  refine wp_block (Go.wp_mono (h φ w a' hr ha) ?_)
  rintro e a1 w1 ⟨h1, a2, σ2, φ2, h2, h3, h4⟩
  cases e with
  | exit id' =>
    simp only [inBlockS, Exit.inBlock] at h2 ⊢
    split at h2
    · rename_i he; rw [if_pos he]; exact ⟨rfl, a2, σ2, φ2, h2, h3, h4⟩
    · rename_i he; rw [if_neg he]; exact ⟨rfl, a2, σ2, φ2, h2, h3, h4⟩
  | normal => exact ⟨h1, a2, σ2, φ2, h2, h3, h4⟩
  | goto l => exact ⟨h1, a2, σ2, φ2, h2, h3, h4⟩
  | ret => exact ⟨h1, a2, σ2, φ2, h2, h3, h4⟩
  | panic c => exact ⟨h1, a2, σ2, φ2, h2, h3, h4⟩
  | outgrown => exact ⟨h1, a2, σ2, φ2, h2, h3, h4⟩

/-- A loop, by a number that every round lowers. -/
theorem s_loop {c : Code} (I : Nat → Act → AState → Prop) (n : Nat) (h0 : I n a σ) (round : ∀ n a σ, I n a σ → SCode P B c (thenS (fun a' σ' => ∃ n', n' < n ∧ I n' a' σ') Q) a σ) : SCode P B (.loop c) Q a σ := by
  intro φ w a' hr ha
  refine wp_loop_ghost (fun n a1 w1 => ∃ a2 σ2 φ2, I n a2 σ2 ∧ ARel φ2 a2 a1 ∧ B.Go φ2 σ2 w1) n ⟨a, σ, φ, h0, ha, hr⟩ ?_
  rintro n a1 w1 ⟨a2, σ2, φ2, h1, h2, h3⟩
  refine Go.wp_mono (round n a2 σ2 h1 φ2 w1 a1 h3 h2) ?_
  rintro e a3 w3 ⟨k1, a4, σ4, φ4, k2, k3, k4⟩
  cases e with
  | normal => obtain ⟨n', hlt, hI⟩ := k2; exact ⟨n', hlt, a4, σ4, φ4, hI, k3, k4⟩
  | exit id => exact ⟨k1, a4, σ4, φ4, k2, k3, k4⟩
  | goto l => exact ⟨k1, a4, σ4, φ4, k2, k3, k4⟩
  | ret => exact ⟨k1, a4, σ4, φ4, k2, k3, k4⟩
  | panic c => exact ⟨k1, a4, σ4, φ4, k2, k3, k4⟩
  | outgrown => exact ⟨k1, a4, σ4, φ4, k2, k3, k4⟩

/-! ### Regions without a draw -/
theorem yielded_eq {φ : Ren} {us vs : Array Value} (h : RRel φ us vs) (ops : Array Oper) (j : Nat) : yielded ops vs j = yielded ops us j := by
  unfold yielded
  cases hd : (ops[j]?).bind (·.dst) with
  | none => rfl
  | some t =>
    simp only [Option.bind_some]
    by_cases ht : t < us.size
    · have hu : t < vs.size := by rw [← h.size]; exact ht
      have := h.at_ t ht hu
      rw [Array.getElem?_eq_getElem ht, Array.getElem?_eq_getElem hu]
      generalize us[t] = x at this
      generalize vs[t] = y at this
      cases this <;> rfl
    · have hu : ¬ t < vs.size := by rw [← h.size]; exact ht
      have e1 : vs[t]? = none := Array.getElem?_eq_none (Nat.le_of_not_lt hu)
      have e2 : us[t]? = none := Array.getElem?_eq_none (Nat.le_of_not_lt ht)
      rw [e1, e2]
theorem wanted_eq {φ : Ren} {a a' : Act} (h : ARel φ a a') (ops : Array Oper) (o : Oper) : Region.wanted o (yielded ops a'.tmps) = Region.wanted o (yielded ops a.tmps) := by
  have : yielded ops a'.tmps = yielded ops a.tmps := funext fun j => yielded_eq h.tmps ops j
  rw [this]

def SOps (P : Program) (B : Base) (ops : Array Oper) (rest : List Oper) (Q : Post) (a : Act) (σ : AState) : Prop :=
  ∀ φ w a', B.Go φ σ w → ARel φ a a' → wpList P ops (SQ B Q) rest a' w

theorem s_region {id : Nat} {ops : Array Oper} (h : SOps P B ops ops.toList Q a σ) : SCode P B (.region id ops false) Q a σ :=
  fun φ w a' hr ha => wp_region_list (h φ w a' hr ha)
theorem o_nil {ops : Array Oper} (h : Q .normal a σ) : SOps P B ops [] Q a σ := fun φ w a' hr ha => ⟨rfl, a, σ, φ, h, ha, hr⟩
theorem o_skip {ops : Array Oper} {o : Oper} {rest : List Oper} (hw : Region.wanted o (yielded ops a.tmps) = false) (h : SOps P B ops rest Q (a.put o.dst undef) σ) : SOps P B ops (o :: rest) Q a σ := by
  intro φ w a' hr ha
  unfold wpList
  rw [wanted_eq ha, hw]
  exact h φ w _ hr (ha.put _ (VRel.undef φ))
theorem o_op {ops : Array Oper} {o : Oper} {rest : List Oper} {v : Value} {σ' : AState} {wn : Option Nat} (hw : Region.wanted o (yielded ops a.tmps) = true) (ho : aop P o a σ = some (v, σ', wn)) (hD : ∀ n, wn = some n → B.D n)
    (h : SOps P B ops rest Q (a.put o.dst v) σ') : SOps P B ops (o :: rest) Q a σ := by
  intro φ w a' hr ha
  unfold wpList
  rw [wanted_eq ha, hw, if_pos rfl]
  obtain ⟨φ', u, w', h1, h2, h3⟩ := aop_sound ho φ w a' hr.rel ha
  refine .inl ?_
  have hgo := hr.step h3 hD
  have hrest := fun u' (hu : VRel φ' v u') => h φ' w' (a'.put o.dst u') hgo ((ha.mono h3.le).put _ hu)
  unfold Oper.wp
  rcases h1 with h1 | ⟨h1, rfl⟩
  · rw [h1]; exact hrest u h2
  · rw [h1]; exact hrest undef h2

/-- What is called, with what. -/
def target (P : Program) (o : Oper) (a : Act) : Option (FuncId × List Value) :=
  match o.op with
  | .call c => match c.callee with
    | .value f => match aval a f, avals a c.args.toList with
      | some (.func (.func g) fs cs), some vs => match P.funcs[g]? with
        | some fn => if fn.body.isSome && fn.name != "runtime.NumGoroutine" then some (g, fs.toList ++ vs ++ cs.toList) else none
        | none => none
      | _, _ => none
    | _ => none
  | _ => none

theorem target_sound {o : Oper} {g : FuncId} {vs : List Value} (h : target P o a = some (g, vs)) {φ : Ren} {a' : Act} (ha : ARel φ a a') (w : World) :
    ∃ us, LRel φ vs us ∧ (execOp a'.eval o).run P w = .ok (.enter g us.toArray) w := by
  unfold target at h
  split at h
  · rename_i c ho
    split at h
    · rename_i f hc
      split at h
      · rename_i g' fs cs vs' hf hv
        split at h
        · rename_i fn hfn
          split at h
          · rename_i hb
            simp only [Bool.and_eq_true] at hb
            injection h with h
            injection h with e1 e2
            subst e1; subst e2
            have h1 := aval_sound ha hf
            have h2 := avals_sound ha hv
            obtain ⟨fs', cs', he, k1, k2⟩ := h1.func_inv
            refine ⟨fs'.toList ++ c.args.toList.map a'.eval ++ cs'.toList, (LRel.append k1 h2).append k2, ?_⟩
            have hname : (fn.name == "runtime.NumGoroutine") = false := by simpa using hb.2
            have hbody : fn.body.isNone = false := by cases hbb : fn.body <;> simp_all
            simp only [execOp, ho, resolve, hc, he, Deferred.ofValue, Sem.run_bind, Sem.run_pure, Result.andThen_ok, invoke, callFunc, run_program, hfn, hname, hbody, Bool.false_eq_true, if_false]
            congr 2
            apply Array.ext'
            simp
          · cases h
        · cases h
      · cases h
    · cases h
  · cases h

theorem o_call {ops : Array Oper} {o : Oper} {rest : List Oper} {g : FuncId} {vs : List Value} {D : Nat → Prop} (hw : Region.wanted o (yielded ops a.tmps) = true) (ht : target P o a = some (g, vs)) (hD : ∀ n, D n → B.D n)
    (h : SCall P D g vs σ fun v σ' => SOps P B ops rest Q (a.put o.dst v) σ') : SOps P B ops (o :: rest) Q a σ := by
  intro φ w a' hr ha
  unfold wpList
  rw [wanted_eq ha, hw, if_pos rfl]
  obtain ⟨us, h1, h2⟩ := target_sound ht ha w
  refine .inl ?_
  unfold Oper.wp
  rw [h2]
  refine Calls.mono (h φ w us hr.rel h1) ?_
  rintro e w' ⟨v, σ', φ', u, rfl, k1, k2, k3⟩
  exact k1 φ' w' _ (hr.step k3 hD) ((ha.mono k3.le).put _ k2)

/-! ### Functions -/
def rsv (P : Program) (a : Act) (σ : AState) : List ResultVar → Option (List Value)
  | [] => some []
  | .tmp t :: rs => (rsv P a σ rs).map (a.tmps.getD t undef :: ·)
  | .cell t ty :: rs => match aLoad P ty (a.tmps.getD t undef) σ, rsv P a σ rs with
    | some v, some vs => some (v :: vs)
    | _, _ => none
def one : List Value → Value
  | [v] => v
  | vs => .tuple vs.toArray
def aResults (P : Program) (fn : Func) (a : Act) (σ : AState) : Option Value := (rsv P a σ fn.results.toList).map one

def resf (tmps : Array Value) : ResultVar → Sem Value
  | .tmp t => pure (tmps.getD t undef)
  | .cell t ty => do loadVar ty (← asAddr (tmps.getD t undef))
theorem results_eq (fn : Func) (tmps : Array Value) : results fn tmps = (do let vs ← fn.results.mapM (resf tmps); pure (if h : vs.size = 1 then vs[0] else .tuple vs)) := rfl

theorem rsv_sound {φ : Ren} {w : World} {a' : Act} (hr : HRel φ σ w) (ha : ARel φ a a') : ∀ {rs : List ResultVar} {vs : List Value}, rsv P a σ rs = some vs →
    ∃ us, (rs.mapM (m := Sem) (resf a'.tmps)).run P w = .ok us w ∧ LRel φ vs us
  | [], vs, h => by simp only [rsv, Option.some.injEq] at h; subst h; exact ⟨[], rfl, .nil⟩
  | .tmp t :: rs, vs, h => by
    simp only [rsv] at h
    cases hrs : rsv P a σ rs with
    | none => rw [hrs] at h; cases h
    | some vs' =>
      rw [hrs] at h
      injection h with h
      subst h
      obtain ⟨us, h1, h2⟩ := rsv_sound hr ha hrs
      refine ⟨a'.tmps.getD t undef :: us, ?_, .cons (ha.tmps.getD t) h2⟩
      rw [List.mapM_cons]
      simp only [resf, Sem.run_bind, Sem.run_pure, Result.andThen_ok]
      rw [h1]
      rfl
  | .cell t ty :: rs, vs, h => by
    simp only [rsv] at h
    split at h
    · rename_i v vs' hv hrs
      injection h with h
      subst h
      obtain ⟨us, h1, h2⟩ := rsv_sound hr ha hrs
      obtain ⟨x, h3, h4⟩ := aLoad_sound hv hr (ha.tmps.getD t)
      have h3' := h3 w fun _ _ _ _ => rfl
      refine ⟨x :: us, ?_, .cons h4 h2⟩
      have hl : (do loadVar ty (← asAddr (a'.tmps.getD t undef)) : Sem Value).run P w = .ok x w := by
        have hv' := ha.tmps.getD t
        generalize a'.tmps.getD t undef = y at h3' hv'
        generalize a.tmps.getD t undef = z at hv hv'
        unfold aLoad at hv
        split at hv
        · cases hv' with
          | ptr o hp => simpa [Instr.loadAt, Instr.sureAddr, asAddr] using h3'
        · cases hv
      rw [List.mapM_cons]
      simp only [resf, Sem.run_bind] at hl ⊢
      rw [hl]
      simp only [Result.andThen_ok]
      rw [h1]
      rfl
    · cases h

theorem results_sound {fn : Func} {φ : Ren} {w : World} {a' : Act} {v : Value} (h : aResults P fn a σ = some v) (hr : HRel φ σ w) (ha : ARel φ a a') : ∃ u, (results fn a'.tmps).run P w = .ok u w ∧ VRel φ v u := by
  unfold aResults at h
  cases hrs : rsv P a σ fn.results.toList with
  | none => rw [hrs] at h; cases h
  | some vs =>
    rw [hrs] at h
    injection h with h
    subst h
    obtain ⟨us, h1, h2⟩ := rsv_sound hr ha hrs
    have hm : (fn.results.mapM (m := Sem) (resf a'.tmps)).run P w = .ok us.toArray w := by
      rw [Array.mapM_eq_mapM_toList]
      simp only [Sem.run_map]
      rw [h1]
      rfl
    rw [results_eq]
    simp only [Sem.run_bind]
    rw [hm]
    simp only [Result.andThen_ok, Sem.run_pure]
    refine ⟨_, rfl, ?_⟩
    cases h2 with
    | nil => exact .tuple' .nil
    | cons hx ht => cases ht with
      | nil => exact hx
      | cons hy ht => exact .tuple' (.cons hx (.cons hy ht))

def enterAct (fn : Func) (args : List Value) : Act := { tmps := args.toArray ++ Array.replicate (fn.ntmps - args.length) undef, defers := [] }

theorem s_fun {D : Nat → Prop} {f : FuncId} {fn : Func} {c : Code} {args : List Value} {R : Value → AState → Prop} (hf : P.funcs[f]? = some fn) (hb : fn.body = some c)
    (h : ∀ B : Base, B.D = D → SCode P B c (fun e a σ' => (e = .normal ∨ e = .ret) ∧ ∃ v, aResults P fn a σ' = some v ∧ R v σ') (enterAct fn args) σ) : SCall P D f args σ R := by
  intro φ w args' hr ha
  have hl := LRel.length ha
  have hrep : ∀ n, LRel φ (List.replicate n undef) (List.replicate n undef) := fun n => by
    induction n with
    | zero => exact .nil
    | succ n ih => exact .cons (VRel.undef φ) ih
  have harel : ARel φ (enterAct fn args) { tmps := args'.toArray ++ Array.replicate (fn.ntmps - args'.toArray.size) undef, defers := [] } := by
    refine ⟨?_, rfl, rfl⟩
    unfold RRel enterAct
    simp only [Array.toList_append, List.toList_toArray, Array.toList_replicate, List.size_toArray]
    rw [hl]
    exact ha.append (hrep _)
  refine calls_of_wp hf hb (Go.wp_mono (h ⟨D, φ, σ, w, hr⟩ rfl φ w _ (Goes.refl hr) harel) ?_)
  rintro e a1 w1 ⟨h1, a2, σ2, φ2, ⟨he, v, hv, hR⟩, h3, h4⟩
  obtain ⟨u, k1, k2⟩ := results_sound hv h4.rel h3
  rcases he with rfl | rfl
  · exact ⟨h3.d2, u, k1, v, σ2, φ2, u, rfl, hR, k2, h4⟩
  · exact ⟨h3.d2, u, k1, v, σ2, φ2, u, rfl, hR, k2, h4⟩

end
end GAb
