/- One operation of any kind: the machine does as the abstract heap. No statement of the seat is proved in this text. -/
import Derived.Test.YtocfmecenpeoiaaGreatAbA
import Derived.Deep.LoopGhost
import Derived.Below
set_option linter.unusedVariables false
set_option linter.unusedSimpArgs false
namespace GAb
open Go

theorem aop_sound {P : Program} {o : Oper} {a : Act} {σ σ' : AState} {v : Value} {wn : Option Nat} (h : aop P o a σ = some (v, σ', wn)) : OpOK P o a σ v σ' wn := by
  unfold aop at h
  split at h
  · -- move
    rename_i x ho
    split at h
    · rename_i u hx
      injection h with h; injection h with e1 e2; injection e2 with e2 e3; subst e1; subst e2; subst e3
      intro φ w a' hr ha
      exact ⟨φ, a'.eval x, w, .inl (by simp [execOp, ho]), aval_sound ha hx, Goes.refl hr⟩
    · cases h
  · -- assign
    rename_i x ho
    split at h
    · rename_i u hx
      injection h with h; injection h with e1 e2; injection e2 with e2 e3; subst e1; subst e2; subst e3
      intro φ w a' hr ha
      exact ⟨φ, a'.eval x, w, .inl (by simp [execOp, ho]), aval_sound ha hx, Goes.refl hr⟩
    · cases h
  · -- pick
    rename_i c x y ho
    split at h
    · rename_i t v1 v2 hc hx hy
      injection h with h; injection h with e1 e2; injection e2 with e2 e3; subst e1; subst e2; subst e3
      intro φ w a' hr ha
      have h1 := aval_sound ha hc
      have h2 := aval_sound ha hx
      have h3 := aval_sound ha hy
      have he : a'.eval c = .bool t := flat_eq rfl h1
      refine ⟨φ, if t then a'.eval x else a'.eval y, w, .inl (by simp [execOp, ho, he, asBool]), ?_, Goes.refl hr⟩
      cases t <;> assumption
    · cases h
  · -- alloc
    rename_i e ho
    split at h
    · rename_i v1 s hx
      injection h with h; injection h with e1 e2; injection e2 with e2 e3; subst e1; subst e2; subst e3
      intro φ w a' hr ha
      obtain ⟨φ', u, w', g1, g2, g3⟩ := aAlloc_sound (P := P) hx hr (fun n => (none : Option Nat) = some n)
      exact ⟨φ', u, w', .inl (by simp [execOp, ho, g1]), g2, g3⟩
    · cases h
  · -- box
    rename_i e x ho
    split at h
    · rename_i v1 hx
      injection h with h; injection h with e1 e2; injection e2 with e2 e3; subst e1; subst e2; subst e3
      intro φ w a' hr ha
      obtain ⟨φ', u, w', g1, g2, g3⟩ := aBox_sound (P := P) (t := e) hr (aval_sound ha hx) (fun n => (none : Option Nat) = some n)
      exact ⟨φ', u, w', .inl (by simp [execOp, ho, g1]), g2, g3⟩
    · cases h
  · -- build
    rename_i t ps ho
    split at h
    · rename_i qs hq
      split at h
      · rename_i v1 hb
        injection h with h; injection h with e1 e2; injection e2 with e2 e3; subst e1; subst e2; subst e3
        intro φ w a' hr ha
        obtain ⟨u, g1, g2⟩ := aBuild_sound (φ := φ) hb (aparts_sound ha hq)
        refine ⟨φ, u, w, .inl ?_, g2, Goes.refl hr⟩
        have : (ps.map fun x => (x.1, a'.eval x.2)) = (ps.toList.map fun p => (p.1, a'.eval p.2)).toArray := by apply Array.ext'; simp
        simp only [execOp, ho, this, Sem.run_bind, g1, Result.andThen_ok, Sem.run_pure]
      · cases h
    · cases h
  · -- buildSlice
    rename_i t len ps ho
    split at h
    · rename_i qs hq
      split at h
      · rename_i v1 s hb
        injection h with h; injection h with e1 e2; injection e2 with e2 e3; subst e1; subst e2; subst e3
        intro φ w a' hr ha
        obtain ⟨φ', u, w', g1, g2, g3⟩ := aBuildSlice_sound (P := P) hb hr (aparts_sound ha hq) (fun n => (none : Option Nat) = some n)
        refine ⟨φ', u, w', .inl ?_, g2, g3⟩
        have : (ps.map fun x => (x.1, a'.eval x.2)) = (ps.toList.map fun p => (p.1, a'.eval p.2)).toArray := by apply Array.ext'; simp
        simp only [execOp, ho, this, Sem.run_bind, g1, Result.andThen_ok, Sem.run_pure]
      · cases h
    · cases h
  · -- load
    rename_i t x ho
    split at h
    · rename_i v0 hx
      split at h
      · rename_i r hl
        injection h with h; injection h with e1 e2; injection e2 with e2 e3; subst e1; subst e2; subst e3
        intro φ w a' hr ha
        obtain ⟨u, g1', g2⟩ := aLoad_sound hl hr (aval_sound ha hx)
        have g1 := g1' w fun _ _ _ _ => rfl
        exact ⟨φ, u, w, .inl (by simp only [execOp, ho, Sem.run_bind, g1, Result.andThen_ok, Sem.run_pure]), g2, Goes.refl hr⟩
      · cases h
    · cases h
  · -- store
    rename_i t x y ho
    split at h
    · rename_i v0 u0 hx hy
      split at h
      · rename_i s n hs
        injection h with h; injection h with e1 e2; injection e2 with e2 e3; subst e1; subst e2; subst e3
        intro φ w a' hr ha
        obtain ⟨w', g1, g2⟩ := aStore_sound hs hr (aval_sound ha hx) (aval_sound ha hy)
        exact ⟨φ, undef, w', .inr ⟨by simp only [execOp, ho, Sem.run_bind, g1, Result.andThen_ok, Sem.run_pure], rfl⟩, VRel.undef _, g2.weaken hr fun q _ hq => by rw [hq]⟩
      · cases h
    · cases h
  · -- nilCheck
    rename_i x ho
    split at h
    · rename_i q hx
      injection h with h; injection h with e1 e2; injection e2 with e2 e3; subst e1; subst e2; subst e3
      intro φ w a' hr ha
      have hv := aval_sound ha hx
      refine ⟨φ, a'.eval x, w, .inl ?_, hv, Goes.refl hr⟩
      generalize he : a'.eval x = y at hv
      have : ∃ q', y = .pointer (some q') := by cases hv; exact ⟨_, rfl⟩
      obtain ⟨q', rfl⟩ := this
      simp only [execOp, ho, he]
      rfl
    · cases h
  · -- binOp
    rename_i op t x y yt ho
    split at h
    · rename_i v0 u0 hx hy
      split at h
      · exact gen_sound h
      · split at h
        · rename_i r hq
          injection h with h; injection h with e1 e2; injection e2 with e2 e3; subst e1; subst e2; subst e3
          intro φ w a' hr ha
          obtain ⟨g1, g2⟩ := aEq_sound (P := P) hq (aval_sound ha hx) (aval_sound ha hy) x y
          refine ⟨φ, r, w, .inl ?_, g2, Goes.refl hr⟩
          simp only [execOp, ho]
          have g1' := g1 w
          simp only [Sem.run_bind] at g1' ⊢
          rw [g1']
          rfl
        · cases h
    · cases h
  · -- convert
    rename_i src dst x ho
    split at h
    · rename_i e v0 hs hd hx
      split at h
      · rename_i r hq
        injection h with h; injection h with e1 e2; injection e2 with e2 e3; subst e1; subst e2; subst e3
        intro φ w a' hr ha
        have g1 := (aStr_sound hq hr (aval_sound ha hx)).1 w fun _ _ _ _ => rfl
        have g2 : VRel φ r r := (aStr_sound hq hr (aval_sound ha hx)).2
        exact ⟨φ, r, w, .inl (by simp only [execOp, ho, Sem.run_bind, g1, Result.andThen_ok, Sem.run_pure]), g2, Goes.refl hr⟩
      · cases h
    · rename_i e v0 hs hd hx
      split at h
      · rename_i r s hq
        injection h with h; injection h with e1 e2; injection e2 with e2 e3; subst e1; subst e2; subst e3
        intro φ w a' hr ha
        obtain ⟨φ', u, w', g1, g2, g3⟩ := aBytes_sound hq hr (aval_sound ha hx) (fun n => (none : Option Nat) = some n)
        exact ⟨φ', u, w', .inl (by simp only [execOp, ho, Sem.run_bind, g1, Result.andThen_ok, Sem.run_pure]), g2, g3⟩
      · cases h
    · rename_i e e' v0 hs hd hx
      intro φ w a' hr ha
      obtain ⟨w', g1, g2, g3⟩ := aSame_sound h hr (aval_sound ha hx)
      exact ⟨φ, _, w', .inl (by simp only [execOp, ho, Sem.run_bind, g1, Result.andThen_ok, Sem.run_pure]), g2, g3⟩
    · exact gen_sound h
  · -- makeFunc
    rename_i fn fs cs ho
    split at h
    · rename_i vs us hf hc
      injection h with h; injection h with e1 e2; injection e2 with e2 e3; subst e1; subst e2; subst e3
      intro φ w a' hr ha
      refine ⟨φ, .func fn (fs.map a'.eval) (cs.map a'.eval), w, .inl (by simp [execOp, ho, Instr.makeFunc]), ?_, Goes.refl hr⟩
      refine .func' fn ?_ ?_
      · have := avals_sound ha hf
        simpa [RRel] using this
      · have := avals_sound ha hc
        simpa [RRel] using this
    · cases h
  · -- makeSlice
    rename_i t l c ho
    split at h
    · rename_i v0 u0 hl hc
      split at h
      · rename_i hp
        simp only [Bool.and_eq_true] at hp
        split at h
        · rename_i r s hq
          injection h with h; injection h with e1 e2; injection e2 with e2 e3; subst e1; subst e2; subst e3
          intro φ w a' hr ha
          obtain ⟨φ', u, w', g1, g2, g3⟩ := aMake_sound (P := P) hq hr (fun n => (none : Option Nat) = some n)
          have e1 := pf_eq hp.1 (aval_sound ha hl)
          have e2 := pf_eq hp.2 (aval_sound ha hc)
          exact ⟨φ', u, w', .inl (by simp only [execOp, ho, Sem.run_bind, e1, e2, g1, Result.andThen_ok, Sem.run_pure]), g2, g3⟩
        · cases h
      · cases h
    · cases h
  · -- slice
    rename_i t x lo hi mx ho
    split at h
    · rename_i q l c hx
      split at h
      · rename_i vl vh vm h1 h2 h3
        split at h
        · rename_i r hq
          injection h with h; injection h with e1 e2; injection e2 with e2 e3; subst e1; subst e2; subst e3
          intro φ w a' hr ha
          obtain ⟨u, g1, g2⟩ := aSlice_sound hq hr (aval_sound ha hx)
          exact ⟨φ, u, w, .inl (by simp only [execOp, ho, Sem.run_bind, aopt_sound ha h1, aopt_sound ha h2, aopt_sound ha h3, g1, Result.andThen_ok, Sem.run_pure]), g2, Goes.refl hr⟩
        · cases h
      · cases h
    · exact gen_sound h
  · -- fieldAddr
    rename_i s x f ho
    split at h
    · rename_i v0 hx
      split at h
      · rename_i r hq
        injection h with h; injection h with e1 e2; injection e2 with e2 e3; subst e1; subst e2; subst e3
        intro φ w a' hr ha
        obtain ⟨u, g1, g2⟩ := aFieldAddr_sound hq (aval_sound ha hx)
        exact ⟨φ, u, w, .inl (by simp only [execOp, ho, Sem.run_bind, g1, Result.andThen_ok, Sem.run_pure]), g2, Goes.refl hr⟩
      · cases h
    · cases h
  · -- field
    rename_i t x f ho
    split at h
    · rename_i v0 hx
      split at h
      · rename_i r hq
        injection h with h; injection h with e1 e2; injection e2 with e2 e3; subst e1; subst e2; subst e3
        intro φ w a' hr ha
        obtain ⟨u, g1, g2⟩ := aField_sound hq (aval_sound ha hx)
        exact ⟨φ, u, w, .inl (by simp only [execOp, ho, Sem.run_bind, g1, Result.andThen_ok, Sem.run_pure]), g2, Goes.refl hr⟩
      · cases h
    · cases h
  · -- indexAddr
    rename_i t x ix ho
    split at h
    · rename_i v0 u0 hx hi
      split at h
      · rename_i r hq
        injection h with h; injection h with e1 e2; injection e2 with e2 e3; subst e1; subst e2; subst e3
        intro φ w a' hr ha
        obtain ⟨u, g1, g2⟩ := aIndexAddr_sound hq (aval_sound ha hx) (aval_sound ha hi)
        exact ⟨φ, u, w, .inl (by simp only [execOp, ho, Sem.run_bind, g1, Result.andThen_ok, Sem.run_pure]), g2, Goes.refl hr⟩
      · cases h
    · cases h
  · -- extract
    rename_i x i ho
    split at h
    · rename_i v0 hx
      split at h
      · rename_i r hq
        injection h with h; injection h with e1 e2; injection e2 with e2 e3; subst e1; subst e2; subst e3
        intro φ w a' hr ha
        obtain ⟨u, g1, g2⟩ := aExtract_sound (P := P) hq (aval_sound ha hx)
        exact ⟨φ, u, w, .inl (by simp only [execOp, ho, Sem.run_bind, g1, Result.andThen_ok, Sem.run_pure]), g2, Goes.refl hr⟩
      · cases h
    · cases h
  · -- call
    rename_i c ho
    split at h
    · rename_i b hc
      exact aBuiltin_sound ho hc h
    · cases h
  · exact gen_sound h

end GAb

set_option linter.unusedVariables false
set_option linter.unusedSimpArgs false
namespace GAb
open Go

/-- Where a function was entered; what its code may write. -/
structure Base where
  D : Nat → Prop
  φ : Ren
  σ : AState
  w : World
  h : HRel φ σ w

def Base.Go (B : Base) (φ : Ren) (σ : AState) (w : World) : Prop := Goes B.D B.φ B.σ B.w φ σ w
theorem Base.start (B : Base) : B.Go B.φ B.σ B.w := Goes.refl B.h
theorem Base.Go.step {B : Base} {φ φ' : Ren} {σ σ' : AState} {w w' : World} (h : B.Go φ σ w) {E : Nat → Prop} (k : Goes E φ σ w φ' σ' w') (hE : ∀ n, E n → B.D n) : B.Go φ' σ' w' :=
  Goes.trans h k (fun n _ hn => hE n hn) B.h
theorem Base.Go.drew {B : Base} {φ : Ren} {σ : AState} {w : World} (h : B.Go φ σ w) (n : Nat) : B.Go φ σ { w with drawn := n } := h.step (Goes.drew h.rel n) fun _ hn => hn

def okE : Exit → Bool
  | .panic _ | .outgrown => false
  | _ => true

abbrev Post := Exit → Act → AState → Prop
def SQ (B : Base) (Q : Post) : Exit → Act → World → Prop := fun e a' w' => okE e = true ∧ ∃ a2 σ2 φ2, Q e a2 σ2 ∧ ARel φ2 a2 a' ∧ B.Go φ2 σ2 w'
def SCode (P : Program) (B : Base) (c : Code) (Q : Post) (a : Act) (σ : AState) : Prop :=
  ∀ φ w a', B.Go φ σ w → ARel φ a a' → c.wp P (SQ B Q) a' w
def SCall (P : Program) (D : Nat → Prop) (f : FuncId) (args : List Value) (σ : AState) (R : Value → AState → Prop) : Prop :=
  ∀ φ w args', HRel φ σ w → LRel φ args args' → Calls P f args'.toArray w fun e w' => ∃ v σ' φ' u, e = .returned u ∧ R v σ' ∧ VRel φ' v u ∧ Goes D φ σ w φ' σ' w'

theorem SCall.mono {P : Program} {D E : Nat → Prop} {f : FuncId} {args : List Value} {σ : AState} {R S : Value → AState → Prop} (h : SCall P D f args σ R) (hD : ∀ n, n < σ.next → D n → E n) (hR : ∀ v σ', R v σ' → S v σ') : SCall P E f args σ S :=
  fun φ w args' hr ha => (h φ w args' hr ha).mono fun e w' ⟨v, σ', φ', u, h1, h2, h3, h4⟩ => ⟨v, σ', φ', u, h1, hR _ _ h2, h3, h4.weaken hr hD⟩

section
variable {P : Program} {B : Base} {Q : Post} {a : Act} {σ : AState}

theorem SCode.mono {Q' : Post} {c : Code} (h : SCode P B c Q a σ) (hq : ∀ e a σ, Q e a σ → Q' e a σ) : SCode P B c Q' a σ :=
  fun φ w a' hr ha => Go.wp_mono (h φ w a' hr ha) fun e a1 w1 ⟨h1, a2, σ2, φ2, h2, h3, h4⟩ => ⟨h1, a2, σ2, φ2, hq _ _ _ h2, h3, h4⟩

theorem s_skip (h : Q .normal a σ) : SCode P B .skip Q a σ := fun φ w a' hr ha => wp_skip ⟨rfl, a, σ, φ, h, ha, hr⟩
theorem s_ret (h : Q .ret a σ) : SCode P B .ret Q a σ := fun φ w a' hr ha => wp_ret ⟨rfl, a, σ, φ, h, ha, hr⟩
theorem s_exit {id : Nat} (h : Q (.exit id) a σ) : SCode P B (.exit id) Q a σ := fun φ w a' hr ha => wp_exit ⟨rfl, a, σ, φ, h, ha, hr⟩

def thenS (K : Act → AState → Prop) (Q : Post) : Post
  | .normal, a, σ => K a σ
  | e, a, σ => Q e a σ
theorem s_seq {x y : Code} (h : SCode P B x (thenS (fun a σ => SCode P B y Q a σ) Q) a σ) : SCode P B (.seq x y) Q a σ := by
  intro φ w a' hr ha
  refine wp_seq (Go.wp_mono (h φ w a' hr ha) ?_)
  rintro e a1 w1 ⟨h1, a2, σ2, φ2, h2, h3, h4⟩
  cases e with
  | normal => exact h2 φ2 w1 a1 h4 h3
  | exit id => exact ⟨h1, a2, σ2, φ2, h2, h3, h4⟩
  | goto l => exact ⟨h1, a2, σ2, φ2, h2, h3, h4⟩
  | ret => exact ⟨h1, a2, σ2, φ2, h2, h3, h4⟩
  | panic c => exact ⟨h1, a2, σ2, φ2, h2, h3, h4⟩
  | outgrown => exact ⟨h1, a2, σ2, φ2, h2, h3, h4⟩

theorem s_cond {c : Operand} {x y : Code} {t : Bool} (hc : aval a c = some (.bool t)) (h : SCode P B (if t then x else y) Q a σ) : SCode P B (.cond c x y) Q a σ := by
  intro φ w a' hr ha
  have he : a'.eval c = .bool t := flat_eq rfl (aval_sound ha hc)
  exact wp_cond he (h φ w a' hr ha)

def inBlockS (id : Nat) (Q : Post) : Post
  | .exit id', a, σ => if id' = id then Q .normal a σ else Q (.exit id') a σ
  | e, a, σ => Q e a σ
theorem s_block {id : Nat} {c : Code} (h : SCode P B c (inBlockS id Q) a σ) : SCode P B (.block id c) Q a σ := by
  intro φ w a' hr ha
  refine wp_block (Go.wp_mono (h φ w a' hr ha) ?_)
  rintro e a1 w1 ⟨h1, a2, σ2, φ2, h2, h3, h4⟩
  cases e with
  | exit id' =>
    simp only [inBlockS, Exit.inBlock] at h2 ⊢
    split at h2
    · rename_i he; rw [if_pos he]; exact ⟨rfl, a2, σ2, φ2, h2, h3, h4⟩
    · rename_i he; rw [if_neg he]; exact ⟨rfl, a2, σ2, φ2, h2, h3, h4⟩
  | normal => exact ⟨h1, a2, σ2, φ2, h2, h3, h4⟩
  | goto l => exact ⟨h1, a2, σ2, φ2, h2, h3, h4⟩
  | ret => exact ⟨h1, a2, σ2, φ2, h2, h3, h4⟩
  | panic c => exact ⟨h1, a2, σ2, φ2, h2, h3, h4⟩
  | outgrown => exact ⟨h1, a2, σ2, φ2, h2, h3, h4⟩

/-- A loop, by a number that every round lowers. -/
theorem s_loop {c : Code} (I : Nat → Act → AState → Prop) (n : Nat) (h0 : I n a σ) (round : ∀ n a σ, I n a σ → SCode P B c (thenS (fun a' σ' => ∃ n', n' < n ∧ I n' a' σ') Q) a σ) : SCode P B (.loop c) Q a σ := by
  intro φ w a' hr ha
  refine wp_loop_ghost (fun n a1 w1 => ∃ a2 σ2 φ2, I n a2 σ2 ∧ ARel φ2 a2 a1 ∧ B.Go φ2 σ2 w1) n ⟨a, σ, φ, h0, ha, hr⟩ ?_
  rintro n a1 w1 ⟨a2, σ2, φ2, h1, h2, h3⟩
  refine Go.wp_mono (round n a2 σ2 h1 φ2 w1 a1 h3 h2) ?_
  rintro e a3 w3 ⟨k1, a4, σ4, φ4, k2, k3, k4⟩
  cases e with
  | normal => obtain ⟨n', hlt, hI⟩ := k2; exact ⟨n', hlt, a4, σ4, φ4, hI, k3, k4⟩
  | exit id => exact ⟨k1, a4, σ4, φ4, k2, k3, k4⟩
  | goto l => exact ⟨k1, a4, σ4, φ4, k2, k3, k4⟩
  | ret => exact ⟨k1, a4, σ4, φ4, k2, k3, k4⟩
  | panic c => exact ⟨k1, a4, σ4, φ4, k2, k3, k4⟩
  | outgrown => exact ⟨k1, a4, σ4, φ4, k2, k3, k4⟩

/-! ### Regions without a draw -/
theorem yielded_eq {φ : Ren} {us vs : Array Value} (h : RRel φ us vs) (ops : Array Oper) (j : Nat) : yielded ops vs j = yielded ops us j := by
  unfold yielded
  cases hd : (ops[j]?).bind (·.dst) with
  | none => rfl
  | some t =>
    simp only [Option.bind_some]
    by_cases ht : t < us.size
    · have hu : t < vs.size := by rw [← h.size]; exact ht
      have := h.at_ t ht hu
      rw [Array.getElem?_eq_getElem ht, Array.getElem?_eq_getElem hu]
      generalize us[t] = x at this
      generalize vs[t] = y at this
      cases this <;> rfl
    · have hu : ¬ t < vs.size := by rw [← h.size]; exact ht
      have e1 : vs[t]? = none := Array.getElem?_eq_none (Nat.le_of_not_lt hu)
      have e2 : us[t]? = none := Array.getElem?_eq_none (Nat.le_of_not_lt ht)
      rw [e1, e2]
theorem wanted_eq {φ : Ren} {a a' : Act} (h : ARel φ a a') (ops : Array Oper) (o : Oper) : Region.wanted o (yielded ops a'.tmps) = Region.wanted o (yielded ops a.tmps) := by
  have : yielded ops a'.tmps = yielded ops a.tmps := funext fun j => yielded_eq h.tmps ops j
  rw [this]

def SOps (P : Program) (B : Base) (ops : Array Oper) (rest : List Oper) (Q : Post) (a : Act) (σ : AState) : Prop :=
  ∀ φ w a', B.Go φ σ w → ARel φ a a' → wpList P ops (SQ B Q) rest a' w

theorem s_region {id : Nat} {ops : Array Oper} (h : SOps P B ops ops.toList Q a σ) : SCode P B (.region id ops false) Q a σ :=
  fun φ w a' hr ha => wp_region_list (h φ w a' hr ha)
theorem o_nil {ops : Array Oper} (h : Q .normal a σ) : SOps P B ops [] Q a σ := fun φ w a' hr ha => ⟨rfl, a, σ, φ, h, ha, hr⟩
theorem o_skip {ops : Array Oper} {o : Oper} {rest : List Oper} (hw : Region.wanted o (yielded ops a.tmps) = false) (h : SOps P B ops rest Q (a.put o.dst undef) σ) : SOps P B ops (o :: rest) Q a σ := by
  intro φ w a' hr ha
  unfold wpList
  rw [wanted_eq ha, hw]
  exact h φ w _ hr (ha.put _ (VRel.undef φ))
theorem o_op {ops : Array Oper} {o : Oper} {rest : List Oper} {v : Value} {σ' : AState} {wn : Option Nat} (hw : Region.wanted o (yielded ops a.tmps) = true) (ho : aop P o a σ = some (v, σ', wn)) (hD : ∀ n, wn = some n → B.D n)
    (h : SOps P B ops rest Q (a.put o.dst v) σ') : SOps P B ops (o :: rest) Q a σ := by
  intro φ w a' hr ha
  unfold wpList
  rw [wanted_eq ha, hw, if_pos rfl]
  obtain ⟨φ', u, w', h1, h2, h3⟩ := aop_sound ho φ w a' hr.rel ha
  refine .inl ?_
  have hgo := hr.step h3 hD
  have hrest := fun u' (hu : VRel φ' v u') => h φ' w' (a'.put o.dst u') hgo ((ha.mono h3.le).put _ hu)
  unfold Oper.wp
  rcases h1 with h1 | ⟨h1, rfl⟩
  · rw [h1]; exact hrest u h2
  · rw [h1]; exact hrest undef h2

/-- What is called, with what. -/
def target (P : Program) (o : Oper) (a : Act) : Option (FuncId × List Value) :=
  match o.op with
  | .call c => match c.callee with
    | .value f => match aval a f, avals a c.args.toList with
      | some (.func (.func g) fs cs), some vs => match P.funcs[g]? with
        | some fn => if fn.body.isSome && fn.name != "runtime.NumGoroutine" then some (g, fs.toList ++ vs ++ cs.toList) else none
        | none => none
      | _, _ => none
    | _ => none
  | _ => none

theorem target_sound {o : Oper} {g : FuncId} {vs : List Value} (h : target P o a = some (g, vs)) {φ : Ren} {a' : Act} (ha : ARel φ a a') (w : World) :
    ∃ us, LRel φ vs us ∧ (execOp a'.eval o).run P w = .ok (.enter g us.toArray) w := by
  unfold target at h
  split at h
  · rename_i c ho
    split at h
    · rename_i f hc
      split at h
      · rename_i g' fs cs vs' hf hv
        split at h
        · rename_i fn hfn
          split at h
          · rename_i hb
            simp only [Bool.and_eq_true] at hb
            injection h with h
            injection h with e1 e2
            subst e1; subst e2
            have h1 := aval_sound ha hf
            have h2 := avals_sound ha hv
            obtain ⟨fs', cs', he, k1, k2⟩ := h1.func_inv
            refine ⟨fs'.toList ++ c.args.toList.map a'.eval ++ cs'.toList, (LRel.append k1 h2).append k2, ?_⟩
            have hname : (fn.name == "runtime.NumGoroutine") = false := by simpa using hb.2
            have hbody : fn.body.isNone = false := by cases hbb : fn.body <;> simp_all
            simp only [execOp, ho, resolve, hc, he, Deferred.ofValue, Sem.run_bind, Sem.run_pure, Result.andThen_ok, invoke, callFunc, run_program, hfn, hname, hbody, Bool.false_eq_true, if_false]
            congr 2
            apply Array.ext'
            simp
          · cases h
        · cases h
      · cases h
    · cases h
  · cases h

theorem o_call {ops : Array Oper} {o : Oper} {rest : List Oper} {g : FuncId} {vs : List Value} {D : Nat → Prop} (hw : Region.wanted o (yielded ops a.tmps) = true) (ht : target P o a = some (g, vs)) (hD : ∀ n, D n → B.D n)
    (h : SCall P D g vs σ fun v σ' => SOps P B ops rest Q (a.put o.dst v) σ') : SOps P B ops (o :: rest) Q a σ := by
  intro φ w a' hr ha
  unfold wpList
  rw [wanted_eq ha, hw, if_pos rfl]
  obtain ⟨us, h1, h2⟩ := target_sound ht ha w
  refine .inl ?_
  unfold Oper.wp
  rw [h2]
  refine Calls.mono (h φ w us hr.rel h1) ?_
  rintro e w' ⟨v, σ', φ', u, rfl, k1, k2, k3⟩
  exact k1 φ' w' _ (hr.step k3 hD) ((ha.mono k3.le).put _ k2)

/-! ### Functions -/
def rsv (P : Program) (a : Act) (σ : AState) : List ResultVar → Option (List Value)
  | [] => some []
  | .tmp t :: rs => (rsv P a σ rs).map (a.tmps.getD t undef :: ·)
  | .cell t ty :: rs => match aLoad P ty (a.tmps.getD t undef) σ, rsv P a σ rs with
    | some v, some vs => some (v :: vs)
    | _, _ => none
def one : List Value → Value
  | [v] => v
  | vs => .tuple vs.toArray
def aResults (P : Program) (fn : Func) (a : Act) (σ : AState) : Option Value := (rsv P a σ fn.results.toList).map one

def resf (tmps : Array Value) : ResultVar → Sem Value
  | .tmp t => pure (tmps.getD t undef)
  | .cell t ty => do loadVar ty (← asAddr (tmps.getD t undef))
theorem results_eq (fn : Func) (tmps : Array Value) : results fn tmps = (do let vs ← fn.results.mapM (resf tmps); pure (if h : vs.size = 1 then vs[0] else .tuple vs)) := rfl

theorem rsv_sound {φ : Ren} {w : World} {a' : Act} (hr : HRel φ σ w) (ha : ARel φ a a') : ∀ {rs : List ResultVar} {vs : List Value}, rsv P a σ rs = some vs →
    ∃ us, (rs.mapM (m := Sem) (resf a'.tmps)).run P w = .ok us w ∧ LRel φ vs us
  | [], vs, h => by simp only [rsv, Option.some.injEq] at h; subst h; exact ⟨[], rfl, .nil⟩
  | .tmp t :: rs, vs, h => by
    simp only [rsv] at h
    cases hrs : rsv P a σ rs with
    | none => rw [hrs] at h; cases h
    | some vs' =>
      rw [hrs] at h
      injection h with h
      subst h
      obtain ⟨us, h1, h2⟩ := rsv_sound hr ha hrs
      refine ⟨a'.tmps.getD t undef :: us, ?_, .cons (ha.tmps.getD t) h2⟩
      rw [List.mapM_cons]
      simp only [resf, Sem.run_bind, Sem.run_pure, Result.andThen_ok]
      rw [h1]
      rfl
  | .cell t ty :: rs, vs, h => by
    simp only [rsv] at h
    split at h
    · rename_i v vs' hv hrs
      injection h with h
      subst h
      obtain ⟨us, h1, h2⟩ := rsv_sound hr ha hrs
      obtain ⟨x, h3, h4⟩ := aLoad_sound hv hr (ha.tmps.getD t)
      have h3' := h3 w fun _ _ _ _ => rfl
      refine ⟨x :: us, ?_, .cons h4 h2⟩
      have hl : (do loadVar ty (← asAddr (a'.tmps.getD t undef)) : Sem Value).run P w = .ok x w := by
        have hv' := ha.tmps.getD t
        generalize a'.tmps.getD t undef = y at h3' hv'
        generalize a.tmps.getD t undef = z at hv hv'
        unfold aLoad at hv
        split at hv
        · cases hv' with
          | ptr o hp => simpa [Instr.loadAt, Instr.sureAddr, asAddr] using h3'
        · cases hv
      rw [List.mapM_cons]
      simp only [resf, Sem.run_bind] at hl ⊢
      rw [hl]
      simp only [Result.andThen_ok]
      rw [h1]
      rfl
    · cases h

theorem results_sound {fn : Func} {φ : Ren} {w : World} {a' : Act} {v : Value} (h : aResults P fn a σ = some v) (hr : HRel φ σ w) (ha : ARel φ a a') : ∃ u, (results fn a'.tmps).run P w = .ok u w ∧ VRel φ v u := by
  unfold aResults at h
  cases hrs : rsv P a σ fn.results.toList with
  | none => rw [hrs] at h; cases h
  | some vs =>
    rw [hrs] at h
    injection h with h
    subst h
    obtain ⟨us, h1, h2⟩ := rsv_sound hr ha hrs
    have hm : (fn.results.mapM (m := Sem) (resf a'.tmps)).run P w = .ok us.toArray w := by
      rw [Array.mapM_eq_mapM_toList]
      simp only [Sem.run_map]
      rw [h1]
      rfl
    rw [results_eq]
    simp only [Sem.run_bind]
    rw [hm]
    simp only [Result.andThen_ok, Sem.run_pure]
    refine ⟨_, rfl, ?_⟩
    cases h2 with
    | nil => exact .tuple' .nil
    | cons hx ht => cases ht with
      | nil => exact hx
      | cons hy ht => exact .tuple' (.cons hx (.cons hy ht))

def enterAct (fn : Func) (args : List Value) : Act := { tmps := args.toArray ++ Array.replicate (fn.ntmps - args.length) undef, defers := [] }

theorem s_fun {D : Nat → Prop} {f : FuncId} {fn : Func} {c : Code} {args : List Value} {R : Value → AState → Prop} (hf : P.funcs[f]? = some fn) (hb : fn.body = some c)
    (h : ∀ B : Base, B.D = D → SCode P B c (fun e a σ' => (e = .normal ∨ e = .ret) ∧ ∃ v, aResults P fn a σ' = some v ∧ R v σ') (enterAct fn args) σ) : SCall P D f args σ R := by
  intro φ w args' hr ha
  have hl := LRel.length ha
  have hrep : ∀ n, LRel φ (List.replicate n undef) (List.replicate n undef) := fun n => by
    induction n with
    | zero => exact .nil
    | succ n ih => exact .cons (VRel.undef φ) ih
  have harel : ARel φ (enterAct fn args) { tmps := args'.toArray ++ Array.replicate (fn.ntmps - args'.toArray.size) undef, defers := [] } := by
    refine ⟨?_, rfl, rfl⟩
    unfold RRel enterAct
    simp only [Array.toList_append, List.toList_toArray, Array.toList_replicate, List.size_toArray]
    rw [hl]
    exact ha.append (hrep _)
  refine calls_of_wp hf hb (Go.wp_mono (h ⟨D, φ, σ, w, hr⟩ rfl φ w _ (Goes.refl hr) harel) ?_)
  rintro e a1 w1 ⟨h1, a2, σ2, φ2, ⟨he, v, hv, hR⟩, h3, h4⟩
  obtain ⟨u, k1, k2⟩ := results_sound hv h4.rel h3
  rcases he with rfl | rfl
  · exact ⟨h3.d2, u, k1, v, σ2, φ2, u, rfl, hR, k2, h4⟩
  · exact ⟨h3.d2, u, k1, v, σ2, φ2, u, rfl, hR, k2, h4⟩

end
end GAb

set_option linter.unusedVariables false
set_option linter.unusedSimpArgs false
namespace GAb
open Go

/-- An operation that writes nothing and lays nothing. -/
def isTake (P : Program) (o : Oper) : Bool :=
  match o.op with
  | .move _ | .assign _ | .pick .. | .build .. | .nilCheck _ | .binOp .. | .unOp .. | .makeFunc .. | .slice .. | .fieldAddr .. | .field .. | .indexAddr .. | .index .. | .extract .. | .load .. => true
  | .convert _ dst _ => match P.underlying dst with
    | some (.slice _) => false
    | _ => true
  | .call c => match c.callee with
    | .builtin .len | .builtin .cap | .builtin .min | .builtin .max => true
    | _ => false
  | _ => false

/-- The block that it reads. -/
def rbName (o : Oper) (a : Act) : Option Nat :=
  match o.op with
  | .load _ x | .convert _ _ x => match aval a x with
    | some v => rdName v
    | none => none
  | _ => none

def TakeOK (P : Program) (o : Oper) (a : Act) (σ : AState) (v : Value) : Prop :=
  ∀ φ w a', HRel φ σ w → ARel φ a a' → ∃ u, VRel φ v u ∧ ∀ w2 : World, (∀ n p, rbName o a = some n → φ n = some p → w2.heap[p.g]? = w.heap[p.g]?) → (execOp a'.eval o).run P w2 = .ok (.value u) w2

theorem gen_take {P : Program} {o : Oper} {a : Act} {σ σ' : AState} {v : Value} {wn : Option Nat} (h : gen P o a σ = some (v, σ', wn)) : σ' = σ ∧ TakeOK P o a σ v := by
  unfold gen at h
  split at h
  · rename_i hc
    simp only [Bool.and_eq_true, List.all_eq_true] at hc
    obtain ⟨hall, hns⟩ := hc
    split at h
    · rename_i v' hpv
      split at h
      · rename_i hp
        injection h with h
        injection h with e1 e2
        injection e2 with e2 e3
        subst e1; subst e2; subst e3
        refine ⟨rfl, fun φ w a' hr ha => ?_⟩
        have he : execOp a'.eval o = execOp a.eval o := execOp_congr o (fun cs b e => by rw [e] at hns; cases hns) fun x hx => by
          have hpx := hall x (by simpa using hx)
          unfold pfOperand at hpx
          split at hpx
          · rename_i u hu
            rw [aval_eval hu]
            exact pf_eq hpx (aval_sound ha hu)
          · cases hpx
        exact ⟨_, pf_rel hp, fun w2 _ => by rw [he]; exact pv_run hpv w2⟩
      · cases h
    · cases h
  · cases h

theorem take_sound {P : Program} {o : Oper} {a : Act} {σ σ' : AState} {v : Value} {wn : Option Nat} (ht : isTake P o = true) (h : aop P o a σ = some (v, σ', wn)) : σ' = σ ∧ TakeOK P o a σ v := by
  unfold aop at h
  split at h
  · -- move
    rename_i x ho
    split at h
    · rename_i u hx
      injection h with h; injection h with e1 e2; injection e2 with e2 e3; subst e1; subst e2; subst e3
      exact ⟨rfl, fun φ w a' hr ha => ⟨a'.eval x, aval_sound ha hx, fun w2 _ => by simp [execOp, ho]⟩⟩
    · cases h
  · -- assign
    rename_i x ho
    split at h
    · rename_i u hx
      injection h with h; injection h with e1 e2; injection e2 with e2 e3; subst e1; subst e2; subst e3
      exact ⟨rfl, fun φ w a' hr ha => ⟨a'.eval x, aval_sound ha hx, fun w2 _ => by simp [execOp, ho]⟩⟩
    · cases h
  · -- pick
    rename_i c x y ho
    split at h
    · rename_i t v1 v2 hc hx hy
      injection h with h; injection h with e1 e2; injection e2 with e2 e3; subst e1; subst e2; subst e3
      refine ⟨rfl, fun φ w a' hr ha => ?_⟩
      have h1 := aval_sound ha hc
      have h2 := aval_sound ha hx
      have h3 := aval_sound ha hy
      have he : a'.eval c = .bool t := flat_eq rfl h1
      refine ⟨if t then a'.eval x else a'.eval y, ?_, fun w2 _ => by simp [execOp, ho, he, asBool]⟩
      cases t <;> assumption
    · cases h
  · -- alloc
    rename_i e ho
    simp [isTake, ho] at ht
  · rename_i e x ho
    simp [isTake, ho] at ht
  · -- build
    rename_i t ps ho
    split at h
    · rename_i qs hq
      split at h
      · rename_i v1 hb
        injection h with h; injection h with e1 e2; injection e2 with e2 e3; subst e1; subst e2; subst e3
        refine ⟨rfl, fun φ w a' hr ha => ?_⟩
        obtain ⟨u, g1, g2⟩ := aBuild_sound (φ := φ) hb (aparts_sound ha hq)
        refine ⟨u, g2, fun w2 _ => ?_⟩
        have : (ps.map fun x => (x.1, a'.eval x.2)) = (ps.toList.map fun p => (p.1, a'.eval p.2)).toArray := by apply Array.ext'; simp
        simp only [execOp, ho, this, Sem.run_bind, g1, Result.andThen_ok, Sem.run_pure]
      · cases h
    · cases h
  · rename_i t len ps ho
    simp [isTake, ho] at ht
  · -- load
    rename_i t x ho
    split at h
    · rename_i v0 hx
      split at h
      · rename_i r hl
        injection h with h; injection h with e1 e2; injection e2 with e2 e3; subst e1; subst e2; subst e3
        refine ⟨rfl, fun φ w a' hr ha => ?_⟩
        obtain ⟨u, g1, g2⟩ := aLoad_sound hl hr (aval_sound ha hx)
        refine ⟨u, g2, fun w2 hw2 => ?_⟩
        have := g1 w2 fun n p hn hp => hw2 n p (by simp [rbName, ho, hx, hn]) hp
        simp only [execOp, ho, Sem.run_bind, this, Result.andThen_ok, Sem.run_pure]
      · cases h
    · cases h
  · rename_i t x y ho
    simp [isTake, ho] at ht
  · -- nilCheck
    rename_i x ho
    split at h
    · rename_i q hx
      injection h with h; injection h with e1 e2; injection e2 with e2 e3; subst e1; subst e2; subst e3
      refine ⟨rfl, fun φ w a' hr ha => ?_⟩
      have hv := aval_sound ha hx
      refine ⟨a'.eval x, hv, fun w2 _ => ?_⟩
      generalize he : a'.eval x = y at hv
      have : ∃ q', y = .pointer (some q') := by cases hv; exact ⟨_, rfl⟩
      obtain ⟨q', rfl⟩ := this
      simp only [execOp, ho, he]
      rfl
    · cases h
  · -- binOp
    rename_i op t x y yt ho
    split at h
    · rename_i v0 u0 hx hy
      split at h
      · exact gen_take h
      · split at h
        · rename_i r hq
          injection h with h; injection h with e1 e2; injection e2 with e2 e3; subst e1; subst e2; subst e3
          refine ⟨rfl, fun φ w a' hr ha => ?_⟩
          obtain ⟨g1, g2⟩ := aEq_sound (P := P) hq (aval_sound ha hx) (aval_sound ha hy) x y
          refine ⟨r, g2, fun w2 _ => ?_⟩
          simp only [execOp, ho]
          have g1' := g1 w2
          simp only [Sem.run_bind] at g1' ⊢
          rw [g1']
          rfl
        · cases h
    · cases h
  · -- convert
    rename_i src dst x ho
    split at h
    · rename_i e v0 hs hd hx
      split at h
      · rename_i r hq
        injection h with h; injection h with e1 e2; injection e2 with e2 e3; subst e1; subst e2; subst e3
        refine ⟨rfl, fun φ w a' hr ha => ?_⟩
        obtain ⟨g1, g2⟩ := aStr_sound hq hr (aval_sound ha hx)
        refine ⟨r, g2, fun w2 hw2 => ?_⟩
        have := g1 w2 fun n p hn hp => hw2 n p (by simp [rbName, ho, hx, hn]) hp
        simp only [execOp, ho, Sem.run_bind, this, Result.andThen_ok, Sem.run_pure]
      · cases h
    · rename_i e v0 hs hd hx
      simp [isTake, ho, hd] at ht
    · rename_i e e' v0 hs hd hx
      simp [isTake, ho, hd] at ht
    · exact gen_take h
  · -- makeFunc
    rename_i fn fs cs ho
    split at h
    · rename_i vs us hf hc
      injection h with h; injection h with e1 e2; injection e2 with e2 e3; subst e1; subst e2; subst e3
      refine ⟨rfl, fun φ w a' hr ha => ?_⟩
      refine ⟨.func fn (fs.map a'.eval) (cs.map a'.eval), ?_, fun w2 _ => by simp [execOp, ho, Instr.makeFunc]⟩
      refine .func' fn ?_ ?_
      · have := avals_sound ha hf
        simpa [RRel] using this
      · have := avals_sound ha hc
        simpa [RRel] using this
    · cases h
  · rename_i t l c ho
    simp [isTake, ho] at ht
  · -- slice
    rename_i t x lo hi mx ho
    split at h
    · rename_i q l c hx
      split at h
      · rename_i vl vh vm h1 h2 h3
        split at h
        · rename_i r hq
          injection h with h; injection h with e1 e2; injection e2 with e2 e3; subst e1; subst e2; subst e3
          refine ⟨rfl, fun φ w a' hr ha => ?_⟩
          obtain ⟨u, g1, g2⟩ := aSlice_sound hq hr (aval_sound ha hx)
          exact ⟨u, g2, fun w2 _ => by simp only [execOp, ho, Sem.run_bind, aopt_sound ha h1, aopt_sound ha h2, aopt_sound ha h3, g1, Result.andThen_ok, Sem.run_pure]⟩
        · cases h
      · cases h
    · exact gen_take h
  · -- fieldAddr
    rename_i s x f ho
    split at h
    · rename_i v0 hx
      split at h
      · rename_i r hq
        injection h with h; injection h with e1 e2; injection e2 with e2 e3; subst e1; subst e2; subst e3
        refine ⟨rfl, fun φ w a' hr ha => ?_⟩
        obtain ⟨u, g1, g2⟩ := aFieldAddr_sound hq (aval_sound ha hx)
        exact ⟨u, g2, fun w2 _ => by simp only [execOp, ho, Sem.run_bind, g1, Result.andThen_ok, Sem.run_pure]⟩
      · cases h
    · cases h
  · -- field
    rename_i t x f ho
    split at h
    · rename_i v0 hx
      split at h
      · rename_i r hq
        injection h with h; injection h with e1 e2; injection e2 with e2 e3; subst e1; subst e2; subst e3
        refine ⟨rfl, fun φ w a' hr ha => ?_⟩
        obtain ⟨u, g1, g2⟩ := aField_sound hq (aval_sound ha hx)
        exact ⟨u, g2, fun w2 _ => by simp only [execOp, ho, Sem.run_bind, g1, Result.andThen_ok, Sem.run_pure]⟩
      · cases h
    · cases h
  · -- indexAddr
    rename_i t x ix ho
    split at h
    · rename_i v0 u0 hx hi
      split at h
      · rename_i r hq
        injection h with h; injection h with e1 e2; injection e2 with e2 e3; subst e1; subst e2; subst e3
        refine ⟨rfl, fun φ w a' hr ha => ?_⟩
        obtain ⟨u, g1, g2⟩ := aIndexAddr_sound hq (aval_sound ha hx) (aval_sound ha hi)
        exact ⟨u, g2, fun w2 _ => by simp only [execOp, ho, Sem.run_bind, g1, Result.andThen_ok, Sem.run_pure]⟩
      · cases h
    · cases h
  · -- extract
    rename_i x i ho
    split at h
    · rename_i v0 hx
      split at h
      · rename_i r hq
        injection h with h; injection h with e1 e2; injection e2 with e2 e3; subst e1; subst e2; subst e3
        refine ⟨rfl, fun φ w a' hr ha => ?_⟩
        obtain ⟨u, g1, g2⟩ := aExtract_sound (P := P) hq (aval_sound ha hx)
        exact ⟨u, g2, fun w2 _ => by simp only [execOp, ho, Sem.run_bind, g1, Result.andThen_ok, Sem.run_pure]⟩
      · cases h
    · cases h
  · -- call
    rename_i c ho
    split at h
    · rename_i b hc
      have hb : b = .len ∨ b = .cap ∨ b = .min ∨ b = .max := by
        simp only [isTake, ho, hc] at ht
        cases b <;> simp at ht ⊢
      unfold aBuiltin at h
      have hex : ∀ (a' : Act), (b = .len → execOp a'.eval o = (do pure (.value (← Builtin.len_ c.argTypes o.type (c.args.map a'.eval))))) ∧ (b = .cap → execOp a'.eval o = (do pure (.value (← Builtin.cap_ c.argTypes o.type (c.args.map a'.eval))))) := fun a' =>
        ⟨fun e => by subst e; simp only [execOp, ho, resolve, hc, pure_bind, invoke, builtin], fun e => by subst e; simp only [execOp, ho, resolve, hc, pure_bind, invoke, builtin]⟩
      split at h
      · simp at hb
      · simp at hb
      · simp at hb
      · rename_i x hargs
        split at h
        · rename_i t q n cap ht hx
          split at h
          · rename_i e hu
            injection h with h; injection h with e1 e2; injection e2 with e2 e3; subst e1; subst e2; subst e3
            refine ⟨rfl, fun φ w a' hr ha => ?_⟩
            have hv := aval_sound ha hx
            have hm : c.args.map a'.eval = #[a'.eval x] := by apply Array.ext'; simp [hargs]
            refine ⟨.int .i64 n, .int _ _, fun w2 _ => ?_⟩
            rw [(hex a').1 rfl]
            generalize a'.eval x = y at hv hm
            have : ∃ q' c', y = .slice q' n c' := by cases hv <;> exact ⟨_, _, rfl⟩
            obtain ⟨q', c', rfl⟩ := this
            simp [hm, Builtin.len_, ht, run_und hu, goInt]
          · cases h
        · exact gen_take h
      · rename_i x hargs
        split at h
        · rename_i t _ _ n cap ht hx
          split at h
          · rename_i e hu
            injection h with h; injection h with e1 e2; injection e2 with e2 e3; subst e1; subst e2; subst e3
            refine ⟨rfl, fun φ w a' hr ha => ?_⟩
            have hv := aval_sound ha hx
            have hm : c.args.map a'.eval = #[a'.eval x] := by apply Array.ext'; simp [hargs]
            refine ⟨.int .i64 cap, .int _ _, fun w2 _ => ?_⟩
            rw [(hex a').2 rfl]
            generalize a'.eval x = y at hv hm
            have : ∃ q', y = .slice q' n cap := by cases hv <;> exact ⟨_, rfl⟩
            obtain ⟨q', rfl⟩ := this
            simp [hm, Builtin.cap_, ht, run_und hu, goInt]
          · cases h
        · exact gen_take h
      · exact gen_take h
    · cases h
  · exact gen_take h

/-! ### Any order -/
def dep1 (ops : Array Oper) (k i : Nat) : Bool :=
  match ops[k]? with
  | some o => o.after.any fun e => Region.binds .any e && e.on == i
  | none => false
/-- Does k come behind i, at once or by some between? -/
def depN (ops : Array Oper) : Nat → Nat → Nat → Bool
  | 0, _, _ => false
  | n + 1, k, i => match ops[k]? with
    | some o => o.after.any fun e => Region.binds .any e && (e.on == i || depN ops n e.on i)
    | none => false
def dep (ops : Array Oper) (k i : Nat) : Bool := depN ops 4 k i
theorem dep_at {ops : Array Oper} {k i : Nat} (h : dep1 ops k i = true) : dep ops k i = true := by
  unfold dep1 at h
  unfold dep depN
  split at h
  · obtain ⟨e, he, hb⟩ := Array.any_eq_true'.1 h
    refine Array.any_eq_true'.2 ⟨e, he, ?_⟩
    simp only [Bool.and_eq_true, Bool.or_eq_true] at *
    exact ⟨hb.1, .inl hb.2⟩
  · cases h

/-- Any order; behind each operation G holds of those that have come up and the world. -/
def wpAnyG (P : Program) (ops : Array Oper) (Q : Exit → Act → World → Prop) (G : Array Bool → World → Prop) : Nat → Array Bool → Act → World → Prop
  | 0, listed, a, w => Region.ready .any ops listed = [] ∧ Q .normal a w
  | fuel + 1, listed, a, w => (Region.ready .any ops listed = [] → Q .normal a w) ∧
    ∀ i ∈ Region.ready .any ops listed, wpOp P ops Q i (fun a' w' => G (listed.setIfInBounds i true) w' ∧ wpAnyG P ops Q G fuel (listed.setIfInBounds i true) a' w') a w

section
variable {P : Program} {ops : Array Oper} {Q : Exit → Act → World → Prop} {G G' : Array Bool → World → Prop}

theorem anyG_sound : ∀ (fuel : Nat) (listed : Array Bool) (a : Act) (w : World), wpAnyG P ops Q G fuel listed a w → wpAny P .any ops Q fuel listed a w
  | 0, _, _, _, h => h
  | fuel + 1, _, _, _, h => ⟨h.1, fun i hi => wpOp_mono (fun a' w' h' => anyG_sound fuel _ a' w' h'.2) (h.2 i hi)⟩

theorem anyG_mono (I : Array Bool → Prop) (hI : ∀ L i, I L → I (L.setIfInBounds i true)) (h : ∀ L w, I L → G L w → G' L w) : ∀ (fuel : Nat) (listed : Array Bool) (a : Act) (w : World), I listed → wpAnyG P ops Q G fuel listed a w → wpAnyG P ops Q G' fuel listed a w
  | 0, _, _, _, _, k => k
  | fuel + 1, _, _, _, hl, k => ⟨k.1, fun i hi => wpOp_mono (fun a' w' k' => ⟨h _ _ (hI _ i hl) k'.1, anyG_mono I hI h fuel _ a' w' (hI _ i hl) k'.2⟩) (k.2 i hi)⟩

theorem dep_ready {listed : Array Bool} {j i : Nat} (hj : j ∈ Region.ready .any ops listed) (hi : listed.getD i true = false) : dep1 ops j i = false := by
  obtain ⟨_, o, ho, hall⟩ := mem_ready.1 hj
  unfold dep1
  rw [ho]
  simp only
  rw [Bool.eq_false_iff]
  intro hc
  obtain ⟨e, he, hb⟩ := Array.any_eq_true'.1 hc
  simp only [Bool.and_eq_true, beq_iff_eq] at hb
  have h1 := hall e he hb.1
  rw [hb.2] at h1
  rcases Nat.lt_or_ge i listed.size with h' | h'
  · simp [h'] at hi h1; rw [hi] at h1; cases h1
  · simp [Array.getElem?_eq_none h'] at h1

theorem getD_false_set {listed : Array Bool} {i k : Nat} (h : (listed.setIfInBounds i true).getD k false = true) : k = i ∨ listed.getD k false = true := by
  by_cases hik : i = k
  · exact .inl hik.symm
  · rw [getD_set_ne false hik] at h; exact .inr h

def Closed (ops : Array Oper) (L : Array Bool) : Prop := ∀ k i, L.getD k false = true → dep1 ops k i = true → L.getD i false = true
theorem closed_set {listed : Array Bool} {i : Nat} (hc : Closed ops listed) (hr : i ∈ Region.ready .any ops listed) : Closed ops (listed.setIfInBounds i true) := by
  intro k j hk hd
  rcases getD_false_set hk with rfl | h
  · by_cases hj : listed.getD j true = false
    · rw [dep_ready hr hj] at hd; cases hd
    · refine getD_set_true ?_
      rcases Nat.lt_or_ge j listed.size with h' | h'
      · simp [h'] at hj ⊢; exact hj
      · exfalso
        obtain ⟨_, o, ho, hall⟩ := mem_ready.1 hr
        unfold dep1 at hd
        rw [ho] at hd
        obtain ⟨e, he, hb⟩ := Array.any_eq_true'.1 hd
        simp only [Bool.and_eq_true, beq_iff_eq] at hb
        have := hall e he hb.1
        rw [hb.2] at this
        simp [Array.getElem?_eq_none h'] at this
  · exact getD_set_true (hc k j h hd)
theorem closed_to {L : Array Bool} (hc : Closed ops L) : ∀ (n k i : Nat), L.getD k false = true → depN ops n k i = true → L.getD i false = true
  | 0, _, _, _, h => by cases h
  | n + 1, k, i, hk, h => by
    unfold depN at h
    split at h
    · rename_i o ho
      obtain ⟨e, he, hb⟩ := Array.any_eq_true'.1 h
      simp only [Bool.and_eq_true, Bool.or_eq_true] at hb
      have h1 : L.getD e.on false = true := hc k e.on hk (by
        unfold dep1
        rw [ho]
        exact Array.any_eq_true'.2 ⟨e, he, by simp only [Bool.and_eq_true]; exact ⟨hb.1, by simp⟩⟩)
      rcases hb.2 with h2 | h2
      · rw [beq_iff_eq] at h2; rw [← h2]; exact h1
      · exact closed_to hc n e.on i h1 h2
    · cases h
theorem closed_dep {listed : Array Bool} {i : Nat} (hc : Closed ops listed) (hi : listed.getD i true = false) (k : Nat) (hk : listed.getD k false = true) : dep ops k i = false := by
  rw [Bool.eq_false_iff]
  intro hd
  have := closed_to hc _ k i hk hd
  rcases Nat.lt_or_ge i listed.size with h' | h'
  · simp [h'] at hi this; rw [hi] at this; cases this
  · simp [Array.getElem?_eq_none h'] at this
theorem anyG_first {i : Nat} {oi : Oper} {v : Value} {S : World → Prop} (hi : ops[i]? = some oi) (hsel : ∀ (j : Nat) (o : Oper) cs b, ops[j]? = some o → o.op ≠ .select cs b)
    (hQ : ∀ c a w, Q (.panic c) (a.put oi.dst v) w → Q (.panic c) a w)
    (c1 : ∀ (L : Array Bool) (w : World), L.getD i true = false → G (L.setIfInBounds i true) w → G' L w) (c2 : ∀ (L : Array Bool) (w : World), G L w → G' L w)
    (c3 : ∀ (L : Array Bool) (w : World), (∀ k, L.getD k false = true → dep ops k i = false) → G (L.setIfInBounds i true) w → S w) :
    ∀ (fuel : Nat) (listed : Array Bool) (a : Act) (w : World),
      (∀ j oj, ops[j]? = some oj → j ≠ i → listed.getD j true = false → (∀ e ∈ oj.after, Region.binds .any e = true → e.on ≠ i) → oi.apart ops oj = true) →
      i ∈ Region.ready .any ops listed → Closed ops listed → YieldsIf P ops S oi v a → S w → G' (listed.setIfInBounds i true) w →
      wpAnyG P ops Q G fuel (listed.setIfInBounds i true) (a.put oi.dst v) w → wpAnyG P ops Q G' (fuel + 1) listed a w := by
  intro fuel
  induction fuel with
  | zero =>
    intro listed a w _ hr _ hy hS hG H
    refine ⟨fun h => (by rw [h] at hr; cases hr), fun j hj => ?_⟩
    by_cases hji : j = i
    · subst hji
      exact hy.wpOp hi hS ⟨hG, H⟩
    · have := ready_mono hj hji
      rw [H.1] at this
      cases this
  | succ fuel ih =>
    intro listed a w hfree hr hd hy hS hG H
    refine ⟨fun h => (by rw [h] at hr; cases hr), fun j hj => ?_⟩
    by_cases hji : j = i
    · subst hji
      exact hy.wpOp hi hS ⟨hG, anyG_mono (fun _ => True) (fun _ _ _ => trivial) (fun L w _ h => c2 L w h) _ _ _ _ trivial H⟩
    · have h1 := H.2 j (ready_mono hj hji)
      obtain ⟨hjun, oj, hoj, hall⟩ := mem_ready.1 hj
      have hiun : listed.getD i true = false := (mem_ready.1 hr).1
      have hnot : ∀ e ∈ oj.after, Region.binds .any e = true → e.on ≠ i := fun e he hb heq => by
        have h1 := hall e he hb
        rw [heq] at h1
        rcases Nat.lt_or_ge i listed.size with h' | h'
        · simp [h'] at hiun h1; rw [hiun] at h1; cases h1
        · simp [Array.getElem?_eq_none h'] at h1
      have h2 := wpOp_putIf hoj (hfree j oj hoj hji hjun hnot) (fun cs b => hsel i oi cs b hi) (fun cs b => hsel j oj cs b hoj) hQ hy h1
      have hfree' : ∀ k ok, ops[k]? = some ok → k ≠ i → (listed.setIfInBounds j true).getD k true = false → (∀ e ∈ ok.after, Region.binds .any e = true → e.on ≠ i) → oi.apart ops ok = true := fun k ok hk hki hun hno => by
        refine hfree k ok hk hki ?_ hno
        by_cases hjk : j = k
        · subst hjk; exact hjun
        · rw [getD_set_ne true hjk] at hun; exact hun
      have hiun' : (listed.setIfInBounds j true).getD i true = false := by rw [getD_set_ne true hji]; exact hiun
      have hc' := closed_set hd hj
      have hd' : ∀ k, (listed.setIfInBounds j true).getD k false = true → dep ops k i = false := closed_dep hc' hiun'
      have hcomm := Array.setIfInBounds_comm (xs := listed) true true (fun e => hji e.symm : i ≠ j)
      refine wpOp_mono (fun a' w' h3 => ?_) h2
      obtain ⟨hy', hg', H'⟩ := h3
      rw [hcomm] at hg' H'
      exact ⟨c1 _ _ hiun' hg', ih (listed.setIfInBounds j true) a' w' hfree' (ready_mono hr (Ne.symm hji)) hc' hy' (c3 _ _ hd' hg') (c2 _ _ hg') H'⟩
end

/-- What is read, and may still be to come, stays: of each such read the operation's number and the block's name. -/
def SPG (ops : Array Oper) (pr : List (Nat × Nat)) (tk : List Nat) (φ : Ren) (w : World) (L : Array Bool) (w2 : World) : Prop :=
  ∀ i n, (i, n) ∈ pr → (∀ k, L.getD k false = true → k ∉ tk → dep ops k i = false) → ∀ p, φ n = some p → w2.heap[p.g]? = w.heap[p.g]?


section
variable {P : Program} {B : Base} {Q : Post} {a : Act} {σ : AState} {ops : Array Oper}

def SAny (P : Program) (B : Base) (ops : Array Oper) (fuel : Nat) (listed : Array Bool) (pr : List (Nat × Nat)) (tk : List Nat) (Q : Post) (a : Act) (σ : AState) : Prop :=
  Closed ops listed → (∀ k, k ∈ tk → listed.getD k false = true) → ∀ φ w a', B.Go φ σ w → ARel φ a a' → wpAnyG P ops (SQ B Q) (SPG ops pr tk φ w) fuel listed a' w

theorem any_done {listed : Array Bool} {pr : List (Nat × Nat)} {tk : List Nat} (hr : Region.ready .any ops listed = []) (h : Q .normal a σ) (fuel : Nat) : SAny P B ops fuel listed pr tk Q a σ := by
  intro _ _ φ w a' hg ha
  cases fuel with
  | zero => exact ⟨hr, rfl, a, σ, φ, h, ha, hg⟩
  | succ n => exact ⟨fun _ => ⟨rfl, a, σ, φ, h, ha, hg⟩, by rw [hr]; simp⟩

theorem noPanic {c : List PanicEntry} {dst : Option Tmp} {v : Value} : ∀ a w, SQ B Q (.panic c) (a.put dst v) w → SQ B Q (.panic c) a w := fun a w h => by cases h.1

theorem set_self {listed : Array Bool} {i : Nat} (hi : listed.getD i true = false) : (listed.setIfInBounds i true).getD i false = true := by
  rcases Nat.lt_or_ge i listed.size with h' | h'
  · simp [h']
  · simp [Array.getElem?_eq_none h'] at hi

def entry (i : Nat) (rb : Option Nat) : List (Nat × Nat) :=
  match rb with
  | some n => [(i, n)]
  | none => []

theorem any_first {fuel : Nat} {listed : Array Bool} {pr : List (Nat × Nat)} {tk : List Nat} {i : Nat} {o : Oper} {v : Value} (rb : Option Nat) (hi : ops[i]? = some o) (hs : Region.noSelect ops = true) (hf : Region.free .any ops listed i = true) (hr : (Region.ready .any ops listed).contains i = true)
    (hy : ∀ φ w a', B.Go φ σ w → ARel φ a a' → ∃ u, VRel φ v u ∧ YieldsIf P ops (fun w2 => ∀ n, rb = some n → ∀ p, φ n = some p → w2.heap[p.g]? = w.heap[p.g]?) o u a')
    (h : SAny P B ops fuel (listed.setIfInBounds i true) (entry i rb ++ pr) (i :: tk) Q (a.put o.dst v) σ) : SAny P B ops (fuel + 1) listed pr tk Q a σ := by
  intro hc htk φ w a' hg ha
  have hr' : i ∈ Region.ready .any ops listed := by simpa using hr
  have hiun : listed.getD i true = false := (mem_ready.1 hr').1
  obtain ⟨u, hu, hyi⟩ := hy φ w a' hg ha
  refine anyG_first (G := SPG ops (entry i rb ++ pr) (i :: tk) φ w) (S := fun w2 => ∀ n, rb = some n → ∀ p, φ n = some p → w2.heap[p.g]? = w.heap[p.g]?) hi (Region.noSelect_spec hs) (fun c a w => noPanic a w) ?_ ?_ ?_ fuel listed a' w (Region.free_spec hi hf) hr' hc hyi (fun n _ p _ => rfl) (fun j n _ _ p _ => rfl) ?_
  · intro L w2 hL hG j n hjn hk p hp
    refine hG j n (List.mem_append.2 (.inr hjn)) (fun k hkL hkt => ?_) p hp
    rcases getD_false_set hkL with rfl | h
    · simp at hkt
    · exact hk k h (fun e => hkt (List.mem_cons_of_mem _ e))
  · intro L w2 hG j n hjn hk p hp
    exact hG j n (List.mem_append.2 (.inr hjn)) (fun k hkL hkt => hk k hkL (fun e => hkt (List.mem_cons_of_mem _ e))) p hp
  · intro L w2 hd hG n hn p hp
    refine hG i n (List.mem_append.2 (.inl (by rw [hn]; simp [entry]))) (fun k hkL hkt => ?_) p hp
    rcases getD_false_set hkL with rfl | h
    · simp at hkt
    · exact hd k h
  · refine h (closed_set hc hr') (fun k hk => ?_) φ w _ hg (ha.put _ hu)
    rcases List.mem_cons.1 hk with rfl | hk
    · exact set_self hiun
    · exact getD_set_true (htk k hk)

theorem any_take {fuel : Nat} {listed : Array Bool} {pr : List (Nat × Nat)} {tk : List Nat} {i : Nat} {o : Oper} {v : Value} {σ' : AState} {wn : Option Nat} (hi : ops[i]? = some o) (hs : Region.noSelect ops = true) (hf : Region.free .any ops listed i = true) (hr : (Region.ready .any ops listed).contains i = true)
    (hw : Region.wanted o (yielded ops a.tmps) = true) (ht : isTake P o = true) (ho : aop P o a σ = some (v, σ', wn)) (h : SAny P B ops fuel (listed.setIfInBounds i true) (entry i (rbName o a) ++ pr) (i :: tk) Q (a.put o.dst v) σ) : SAny P B ops (fuel + 1) listed pr tk Q a σ := by
  refine any_first (rbName o a) hi hs hf hr (fun φ w a' hg ha => ?_) h
  obtain ⟨_, hT⟩ := take_sound ht ho
  obtain ⟨u, hu, hrun⟩ := hT φ w a' hg.rel ha
  exact ⟨u, hu, .inl ⟨by rw [wanted_eq ha]; exact hw, fun w2 k => hrun w2 fun n p hn hp => k n hn p hp⟩⟩

theorem any_take_skip {fuel : Nat} {listed : Array Bool} {pr : List (Nat × Nat)} {tk : List Nat} {i : Nat} {o : Oper} (hi : ops[i]? = some o) (hs : Region.noSelect ops = true) (hf : Region.free .any ops listed i = true) (hr : (Region.ready .any ops listed).contains i = true)
    (hw : Region.wanted o (yielded ops a.tmps) = false) (h : SAny P B ops fuel (listed.setIfInBounds i true) pr (i :: tk) Q (a.put o.dst undef) σ) : SAny P B ops (fuel + 1) listed pr tk Q a σ :=
  any_first none hi hs hf hr (fun φ w a' hg ha => ⟨undef, VRel.undef φ, .inr ⟨by rw [wanted_eq ha]; exact hw, rfl⟩⟩) h

theorem kept_at {D : Nat → Prop} {φ φ' : Ren} {σ' : AState} {w w' : World} (hr : HRel φ σ w) (k : Goes D φ σ w φ' σ' w') {n : Nat} (hD : ¬ D n) (hl : ∃ b, σ.get n = some b) {p : Pl} (hp : φ n = some p) : w'.heap[p.g]? = w.heap[p.g]? := by
  refine k.kept p.g (hr.lt n p hp) fun m b q hb hro hq hg hm => ?_
  obtain ⟨bn, hbn⟩ := hl
  have := hr.inj m n b bn q p hb hbn hro hq hp hg
  subst this
  exact hD hm

/-- What is still to be kept behind operation j. -/
def rem (ops : Array Oper) (j : Nat) (pr : List (Nat × Nat)) : List (Nat × Nat) := pr.filter fun e => !dep ops j e.1

theorem any_step {D : Nat → Prop} {fuel : Nat} {listed : Array Bool} {pr : List (Nat × Nat)} {tk : List Nat} {j : Nat} {a1 : Act} {σ1 : AState} {φ φ1 : Ren} {w w1 : World} {a1' : Act} (hc : Closed ops listed) (htk : ∀ k, k ∈ tk → listed.getD k false = true)
    (hj : j ∈ Region.ready .any ops listed) (hg : B.Go φ σ w) (k : Goes D φ σ w φ1 σ1 w1) (hD : ∀ m, D m → B.D m) (hn : ∀ e, e ∈ rem ops j pr → ¬ D e.2) (hl : ∀ e, e ∈ rem ops j pr → ∃ b, σ.get e.2 = some b) (ha : ARel φ1 a1 a1')
    (h : SAny P B ops fuel (listed.setIfInBounds j true) (rem ops j pr) tk Q a1 σ1) :
    SPG ops pr tk φ w (listed.setIfInBounds j true) w1 ∧ wpAnyG P ops (SQ B Q) (SPG ops pr tk φ w) fuel (listed.setIfInBounds j true) a1' w1 := by
  have hjun : listed.getD j true = false := (mem_ready.1 hj).1
  have hjtk : j ∉ tk := fun h => by
    have := htk j h
    rcases Nat.lt_or_ge j listed.size with h' | h'
    · simp [h'] at hjun this; rw [hjun] at this; cases this
    · simp [Array.getElem?_eq_none h'] at this
  have inrem : ∀ (L : Array Bool), L.getD j false = true → ∀ i n, (i, n) ∈ pr → (∀ k, L.getD k false = true → k ∉ tk → dep ops k i = false) → (i, n) ∈ rem ops j pr := fun L hL i n hin hk => by
    unfold rem
    rw [List.mem_filter]
    exact ⟨hin, by simp [hk j hL hjtk]⟩
  have same : ∀ i n, (i, n) ∈ rem ops j pr → ∀ p, φ n = some p → w1.heap[p.g]? = w.heap[p.g]? := fun i n hin p hp => kept_at hg.rel k (hn _ hin) (hl _ hin) hp
  have hset := set_self hjun
  refine ⟨fun i n hin hk p hp => same i n (inrem _ hset i n hin hk) p hp, ?_⟩
  refine anyG_mono (G := SPG ops (rem ops j pr) tk φ1 w1) (fun L => L.getD j false = true) (fun L i h => getD_set_true h) (fun L w2 hL hG i n hin hk p hp => ?_) _ _ _ _ hset (h (closed_set hc hj) (fun k hk => getD_set_true (htk k hk)) φ1 w1 a1' (hg.step k hD) ha)
  have hin' := inrem L hL i n hin hk
  exact (hG i n hin' hk p (k.le n p hp)).trans (same i n hin' p hp)

theorem any_only {fuel : Nat} {listed : Array Bool} {pr : List (Nat × Nat)} {tk : List Nat} {i : Nat} {o : Oper} {v : Value} {σ' : AState} {wn : Option Nat} (hi : ops[i]? = some o) (hr : Region.ready .any ops listed = [i]) (hw : Region.wanted o (yielded ops a.tmps) = true)
    (ho : aop P o a σ = some (v, σ', wn)) (hD : ∀ n, wn = some n → B.D n) (hn : ∀ e, e ∈ rem ops i pr → ¬ wn = some e.2) (hl : ∀ e, e ∈ rem ops i pr → ∃ b, σ.get e.2 = some b) (h : SAny P B ops fuel (listed.setIfInBounds i true) (rem ops i pr) tk Q (a.put o.dst v) σ') : SAny P B ops (fuel + 1) listed pr tk Q a σ := by
  intro hc htk φ w a' hg ha
  refine ⟨(fun h => by rw [hr] at h; cases h), fun j hj => ?_⟩
  have hj' := hj
  rw [hr] at hj'
  obtain rfl : j = i := by simpa using hj'
  unfold wpOp
  simp only [hi]
  rw [wanted_eq ha, hw, if_pos rfl]
  obtain ⟨φ', u, w', h1, h2, h3⟩ := aop_sound ho φ w a' hg.rel ha
  refine .inl ?_
  have fin := fun u' (hu : VRel φ' v u') => any_step (P := P) (Q := Q) (fuel := fuel) hc htk hj hg h3 hD hn hl ((ha.mono h3.le).put o.dst hu) h
  unfold Oper.wp
  rcases h1 with h1 | ⟨h1, rfl⟩
  · rw [h1]; exact fin u h2
  · rw [h1]; exact fin undef h2

theorem any_only_skip {fuel : Nat} {listed : Array Bool} {pr : List (Nat × Nat)} {tk : List Nat} {i : Nat} {o : Oper} (hi : ops[i]? = some o) (hr : Region.ready .any ops listed = [i]) (hw : Region.wanted o (yielded ops a.tmps) = false) (hl : ∀ e, e ∈ rem ops i pr → ∃ b, σ.get e.2 = some b)
    (h : SAny P B ops fuel (listed.setIfInBounds i true) (rem ops i pr) tk Q (a.put o.dst undef) σ) : SAny P B ops (fuel + 1) listed pr tk Q a σ := by
  intro hc htk φ w a' hg ha
  refine ⟨(fun h => by rw [hr] at h; cases h), fun j hj => ?_⟩
  have hj' := hj
  rw [hr] at hj'
  obtain rfl : j = i := by simpa using hj'
  unfold wpOp
  simp only [hi]
  rw [wanted_eq ha, hw]
  exact any_step (D := fun _ => False) hc htk hj hg (Goes.refl hg.rel) (fun _ h => h.elim) (fun _ _ h => h) hl (ha.put _ (VRel.undef φ)) h

theorem any_call {fuel : Nat} {listed : Array Bool} {pr : List (Nat × Nat)} {tk : List Nat} {i : Nat} {o : Oper} {g : FuncId} {vs : List Value} {D : Nat → Prop} (hi : ops[i]? = some o) (hr : Region.ready .any ops listed = [i]) (hw : Region.wanted o (yielded ops a.tmps) = true)
    (ht : target P o a = some (g, vs)) (hD : ∀ n, D n → B.D n) (hn : ∀ e, e ∈ rem ops i pr → ¬ D e.2) (hl : ∀ e, e ∈ rem ops i pr → ∃ b, σ.get e.2 = some b)
    (h : SCall P D g vs σ fun v σ' => SAny P B ops fuel (listed.setIfInBounds i true) (rem ops i pr) tk Q (a.put o.dst v) σ') : SAny P B ops (fuel + 1) listed pr tk Q a σ := by
  intro hc htk φ w a' hg ha
  refine ⟨(fun h => by rw [hr] at h; cases h), fun j hj => ?_⟩
  have hj' := hj
  rw [hr] at hj'
  obtain rfl : j = i := by simpa using hj'
  unfold wpOp
  simp only [hi]
  rw [wanted_eq ha, hw, if_pos rfl]
  obtain ⟨us, h1, h2⟩ := target_sound ht ha w
  refine .inl ?_
  unfold Oper.wp
  rw [h2]
  refine Calls.mono (h φ w us hg.rel h1) ?_
  rintro e w' ⟨v, σ', φ', u, rfl, k1, k2, k3⟩
  exact any_step hc htk hj hg k3 hD hn hl ((ha.mono k3.le).put _ k2) k1

theorem s_region_draw {id : Nat} (hm : P.follows .mixedOrders = true) (h : SAny P B ops ops.size (Array.replicate ops.size false) [] [] Q a σ) : SCode P B (.region id ops true) Q a σ := by
  intro φ w a' hg ha
  refine wp_region_any hm (anyG_sound _ _ _ _ (h ?_ (fun k hk => by cases hk) φ _ a' (hg.drew (w.drawn + 1)) ha))
  intro k i hk
  rcases Nat.lt_or_ge k ops.size with h' | h'
  · simp [h'] at hk
  · simp [h'] at hk

end
end GAb

set_option linter.unusedVariables false
set_option linter.unusedSimpArgs false
namespace GAb
open Go

inductive Task where
  | code (c : Code) (a : Act)
  | ops (all : Array Oper) (rest : List Oper) (a : Act)
  | any (all : Array Oper) (fuel : Nat) (listed : Array Bool) (p : List (Nat × Nat)) (tk : List Nat) (a : Act)
  | call (f : FuncId) (args : List Value)

def freeOf (pr : List Nat) : Option Nat → Bool
  | none => true
  | some n => !pr.contains n

/-- Functions that are not run but taken by what is proved of them. -/
abbrev Known := FuncId → Option (List Value → AState → List Nat → Option (Value × AState))

def val1 (v : Value) : Act := { tmps := #[v], defers := [] }

def ev (P : Program) (kn : Known) : Nat → List Nat → Task → AState → Option (Exit × Act × AState)
  | 0, _, _, _ => none
  | n + 1, pr, .code c a, σ =>
    match c with
    | .skip => some (.normal, a, σ)
    | .ret => some (.ret, a, σ)
    | .exit id => some (.exit id, a, σ)
    | .seq x y => match ev P kn n pr (.code x a) σ with
      | some (.normal, a', σ') => ev P kn n pr (.code y a') σ'
      | r => r
    | .cond c x y => match aval a c with
      | some (.bool t) => ev P kn n pr (.code (if t then x else y) a) σ
      | _ => none
    | .block id b => match ev P kn n pr (.code b a) σ with
      | some (.exit id', a', σ') => if id' = id then some (.normal, a', σ') else some (.exit id', a', σ')
      | r => r
    | .loop b => match ev P kn n pr (.code b a) σ with
      | some (.normal, a', σ') => ev P kn n pr (.code (.loop b) a') σ'
      | r => r
    | .region _ all false => ev P kn n pr (.ops all all.toList a) σ
    | .region _ all true => if P.follows .mixedOrders && Region.noSelect all then ev P kn n pr (.any all all.size (Array.replicate all.size false) [] [] a) σ else none
    | _ => none
  | n + 1, pr, .ops all l a, σ =>
    match l with
    | [] => some (.normal, a, σ)
    | o :: rest =>
      if Region.wanted o (yielded all a.tmps) then
        match aop P o a σ with
        | some (v, σ', wn) => if freeOf pr wn then ev P kn n pr (.ops all rest (a.put o.dst v)) σ' else none
        | none => match target P o a with
          | some (g, vs) => match ev P kn n pr (.call g vs) σ with
            | some (_, b, σ') => ev P kn n pr (.ops all rest (a.put o.dst (b.tmps.getD 0 undef))) σ'
            | none => none
          | none => none
      else ev P kn n pr (.ops all rest (a.put o.dst undef)) σ
  | n + 1, pr, .any all fuel listed p tk a, σ =>
    match (Region.ready .any all listed).find? (fun i => match all[i]? with | some o => isTake P o && Region.free .any all listed i | none => false) with
    | some i => match fuel, all[i]? with
      | fuel + 1, some o =>
        if Region.wanted o (yielded all a.tmps) then
          match aop P o a σ with
          | some (v, _, _) => ev P kn n pr (.any all fuel (listed.setIfInBounds i true) (entry i (rbName o a) ++ p) (i :: tk) (a.put o.dst v)) σ
          | none => none
        else ev P kn n pr (.any all fuel (listed.setIfInBounds i true) p (i :: tk) (a.put o.dst undef)) σ
      | _, _ => none
    | none => match Region.ready .any all listed, fuel with
      | [], _ => some (.normal, a, σ)
      | [i], fuel + 1 => match all[i]? with
        | some o =>
          if (rem all i p).all (fun m => (σ.get m.2).isSome) then
            if Region.wanted o (yielded all a.tmps) then
              match aop P o a σ with
              | some (v, σ', wn) => if freeOf ((rem all i p).map (·.2) ++ pr) wn then ev P kn n pr (.any all fuel (listed.setIfInBounds i true) (rem all i p) tk (a.put o.dst v)) σ' else none
              | none => match target P o a with
                | some (g, vs) => match ev P kn n ((rem all i p).map (·.2) ++ pr) (.call g vs) σ with
                  | some (_, b, σ') => ev P kn n pr (.any all fuel (listed.setIfInBounds i true) (rem all i p) tk (a.put o.dst (b.tmps.getD 0 undef))) σ'
                  | none => none
                | none => none
            else ev P kn n pr (.any all fuel (listed.setIfInBounds i true) (rem all i p) tk (a.put o.dst undef)) σ
          else none
        | none => none
      | _, _ => none
  | n + 1, pr, .call f args, σ =>
    match kn f with
    | some k => match k args σ pr with
      | some (v, σ') => some (.normal, val1 v, σ')
      | none => none
    | none => match P.funcs[f]? with
      | some fn => match fn.body with
        | some c => match ev P kn n pr (.code c (enterAct fn args)) σ with
          | some (.normal, a, σ') => match aResults P fn a σ' with
            | some v => some (.normal, val1 v, σ')
            | none => none
          | some (.ret, a, σ') => match aResults P fn a σ' with
            | some v => some (.normal, val1 v, σ')
            | none => none
          | _ => none
        | none => none
      | none => none

def KnownOK (P : Program) (kn : Known) : Prop :=
  ∀ f k args σ pr v σ', kn f = some k → k args σ pr = some (v, σ') → SCall P (fun m => m ∉ pr) f args σ (fun v' s' => v' = v ∧ s' = σ')

def Good (P : Program) (pr : List Nat) (σ : AState) (r : Exit × Act × AState) : Task → Prop
  | .code c a => ∀ B : Base, (∀ m, m ∉ pr → B.D m) → SCode P B c (fun e a' σ' => (e, a', σ') = r) a σ
  | .ops all l a => ∀ B : Base, (∀ m, m ∉ pr → B.D m) → SOps P B all l (fun e a' σ' => (e, a', σ') = r) a σ
  | .any all fuel listed p tk a => Region.noSelect all = true → ∀ B : Base, (∀ m, m ∉ pr → B.D m) → SAny P B all fuel listed p tk (fun e a' σ' => (e, a', σ') = r) a σ
  | .call f args => SCall P (fun m => m ∉ pr) f args σ (fun v σ' => r = (.normal, val1 v, σ'))

theorem freeOf_spec {pr : List Nat} {wn : Option Nat} (h : freeOf pr wn = true) (n : Nat) (hn : wn = some n) : n ∉ pr := by
  subst hn
  simpa [freeOf] using h

theorem ev_sound {P : Program} {kn : Known} (hk : KnownOK P kn) : ∀ (n : Nat) (pr : List Nat) (t : Task) (σ : AState) (r : Exit × Act × AState), ev P kn n pr t σ = some r → Good P pr σ r t := by
  intro n
  induction n using Nat.strongRecOn with
  | _ n ih =>
  intro pr t σ r h
  cases n with
  | zero => simp [ev] at h
  | succ n =>
  have ihn := ih n (Nat.lt_succ_self n)
  cases t with
  | code c a =>
    intro B hB
    cases c with
    | skip => simp only [ev, Option.some.injEq] at h; exact s_skip h
    | ret => simp only [ev, Option.some.injEq] at h; exact s_ret h
    | exit id => simp only [ev, Option.some.injEq] at h; exact s_exit h
    | seq x y =>
      simp only [ev] at h
      split at h
      · rename_i a' σ' hx
        refine s_seq (SCode.mono (ihn _ _ _ _ hx B hB) ?_)
        intro e a2 σ2 he
        injection he with e1 e2
        injection e2 with e2 e3
        subst e1; subst e2; subst e3
        exact ihn _ _ _ _ h B hB
      · rename_i hne
        refine s_seq (SCode.mono (ihn _ _ _ _ h B hB) ?_)
        intro e a2 σ2 he
        subst he
        cases e with
        | normal => exact (hne _ _ h).elim
        | _ => rfl
    | cond c x y =>
      simp only [ev] at h
      split at h
      · rename_i t hc
        exact s_cond hc (ihn _ _ _ _ h B hB)
      · cases h
    | block id b =>
      simp only [ev] at h
      split at h
      · rename_i id' a' σ' hx
        refine s_block (SCode.mono (ihn _ _ _ _ hx B hB) ?_)
        intro e a2 σ2 he
        injection he with e1 e2
        injection e2 with e2 e3
        subst e1; subst e2; subst e3
        simp only [inBlockS]
        split at h
        · rename_i hid; rw [if_pos hid]; injection h
        · rename_i hid; rw [if_neg hid]; injection h
      · rename_i hne
        refine s_block (SCode.mono (ihn _ _ _ _ h B hB) ?_)
        intro e a2 σ2 he
        subst he
        cases e with
        | exit id' => exact (hne _ _ _ h).elim
        | _ => rfl
    | loop b =>
      refine s_loop (fun k a σ => k ≤ n + 1 ∧ ev P kn k pr (.code (.loop b) a) σ = some r) (n + 1) ⟨Nat.le_refl _, h⟩ ?_
      rintro k a σ ⟨hle, hk'⟩
      cases k with
      | zero => simp [ev] at hk'
      | succ k =>
        simp only [ev] at hk'
        split at hk'
        · rename_i a' σ' hx
          refine SCode.mono (ih k (by omega) _ _ _ _ hx B hB) ?_
          intro e a2 σ2 he
          injection he with e1 e2
          injection e2 with e2 e3
          subst e1; subst e2; subst e3
          exact ⟨k, Nat.lt_succ_self k, by omega, hk'⟩
        · rename_i hne
          refine SCode.mono (ih k (by omega) _ _ _ _ hk' B hB) ?_
          intro e a2 σ2 he
          subst he
          cases e with
          | normal => exact (hne _ _ hk').elim
          | _ => rfl
    | region id all d =>
      cases d with
      | false => simp only [ev] at h; exact s_region (ihn _ _ _ _ h B hB)
      | true =>
        simp only [ev] at h
        split at h
        · rename_i hm
          simp only [Bool.and_eq_true] at hm
          exact s_region_draw hm.1 (ihn _ _ _ _ h hm.2 B hB)
        · cases h
    | _ => simp only [ev] at h; cases h
  | ops all l a =>
    intro B hB
    cases l with
    | nil => simp only [ev, Option.some.injEq] at h; exact o_nil h
    | cons o rest =>
      simp only [ev] at h
      split at h
      · rename_i hw
        split at h
        · rename_i v σ' wn ho
          split at h
          · rename_i hf
            exact o_op hw ho (fun m hm => hB m (freeOf_spec hf m hm)) (ihn _ _ _ _ h B hB)
          · cases h
        · split at h
          · rename_i g vs ht
            split at h
            · rename_i e b σ' hc
              refine o_call hw ht (D := fun m => m ∉ pr) hB ((ihn _ _ _ _ hc).mono (fun _ _ hm => hm) ?_)
              intro v s' hv
              injection hv with e1 e2
              injection e2 with e2 e3
              subst e2; subst e3
              exact ihn _ _ _ _ h B hB
            · cases h
          · cases h
      · rename_i hw
        exact o_skip (by simpa using hw) (ihn _ _ _ _ h B hB)
  | any all fuel listed p tk a =>
    intro hs B hB
    simp only [ev] at h
    split at h
    · rename_i i hfind
      have h1 := List.find?_some hfind
      have h2 := List.mem_of_find?_eq_some hfind
      split at h
      · rename_i fuel o ho
        simp only [ho, Bool.and_eq_true] at h1
        have hr : (Region.ready .any all listed).contains i = true := by simpa using h2
        split at h
        · rename_i hw
          split at h
          · rename_i v _ _ hop
            exact any_take ho hs h1.2 hr hw h1.1 hop (ihn _ _ _ _ h hs B hB)
          · cases h
        · rename_i hw
          exact any_take_skip ho hs h1.2 hr (by simpa using hw) (ihn _ _ _ _ h hs B hB)
      · cases h
    · split at h
      · rename_i hr
        injection h with h
        exact any_done hr h _
      · rename_i i fuel hr
        split at h
        · rename_i o ho
          split at h
          · rename_i hall
            have hl : ∀ e, e ∈ rem all i p → ∃ b, σ.get e.2 = some b := fun m hm => Option.isSome_iff_exists.1 (List.all_eq_true.1 hall m hm)
            split at h
            · rename_i hw
              split at h
              · rename_i v σ' wn hop
                split at h
                · rename_i hf
                  exact any_only ho hr hw hop (fun m hm => hB m fun hin => freeOf_spec hf m hm (List.mem_append.2 (.inr hin))) (fun e he hwn => freeOf_spec hf e.2 hwn (List.mem_append.2 (.inl (List.mem_map.2 ⟨e, he, rfl⟩)))) hl (ihn _ _ _ _ h hs B hB)
                · cases h
              · split at h
                · rename_i g vs ht
                  split at h
                  · rename_i e b σ' hc
                    refine any_call ho hr hw ht (D := fun m => m ∉ (rem all i p).map (·.2) ++ pr) (fun m hm => hB m fun hin => hm (List.mem_append.2 (.inr hin))) (fun e he hm2 => hm2 (List.mem_append.2 (.inl (List.mem_map.2 ⟨e, he, rfl⟩)))) hl ((ihn _ _ _ _ hc).mono (fun _ _ hm => hm) ?_)
                    intro v s' hv
                    injection hv with e1 e2
                    injection e2 with e2 e3
                    subst e2; subst e3
                    exact ihn _ _ _ _ h hs B hB
                  · cases h
                · cases h
            · rename_i hw
              exact any_only_skip ho hr (by simpa using hw) hl (ihn _ _ _ _ h hs B hB)
          · cases h
        · cases h
      · cases h
  | call f args =>
    simp only [ev] at h
    split at h
    · rename_i k hkf
      split at h
      · rename_i v σ' hv
        injection h with h
        refine (hk f k args σ pr v σ' hkf hv).mono (fun _ _ hm => hm) ?_
        rintro v' s' ⟨rfl, rfl⟩
        exact h.symm
      · cases h
    · split at h
      · rename_i fn hf
        split at h
        · rename_i c hb
          split at h
          · rename_i a σ' hx
            split at h
            · rename_i v hv
              injection h with h
              refine s_fun hf hb fun B hBD => SCode.mono (ihn _ _ _ _ hx B (fun m hm => by rw [hBD]; exact hm)) ?_
              intro e a2 σ2 he
              injection he with e1 e2
              injection e2 with e2 e3
              subst e1; subst e2; subst e3
              exact ⟨.inl rfl, v, hv, h.symm⟩
            · cases h
          · rename_i a σ' hx
            split at h
            · rename_i v hv
              injection h with h
              refine s_fun hf hb fun B hBD => SCode.mono (ihn _ _ _ _ hx B (fun m hm => by rw [hBD]; exact hm)) ?_
              intro e a2 σ2 he
              injection he with e1 e2
              injection e2 with e2 e3
              subst e1; subst e2; subst e3
              exact ⟨.inr rfl, v, hv, h.symm⟩
            · cases h
          · cases h
        · cases h
      · cases h

/-! ### Runs that begin with an empty heap -/
def empty : AState := { heap := .leaf, next := 0 }
theorem get_empty (n : Nat) : empty.get n = none := rfl

/-- What is run with an empty heap and tells a value without places is told so beside whatever heap, which stays. -/
theorem frame_empty {P : Program} {D E : Nat → Prop} {f : FuncId} {args : List Value} {R : Value → Prop} (h : SCall P D f args empty (fun v _ => pf v = true ∧ R v)) (ha : args.all pf = true) (σ : AState) :
    SCall P E f args σ (fun v σ' => pf v = true ∧ R v ∧ σ' = σ) := by
  intro φ w args' hr har
  have hargs : args' = args := by
    have : ∀ {a b : List Value}, LRel φ a b → a.all pf = true → b = a := fun {a b} h => by
      induction h with
      | nil => intro _; rfl
      | cons h _ ih =>
        intro hf
        simp only [List.all_cons, Bool.and_eq_true] at hf
        rw [pf_eq hf.1 h, ih hf.2]
    exact this har ha
  subst hargs
  have hr0 : HRel (fun _ => none) empty w := ⟨fun _ _ => rfl, fun n _ => get_empty n, (fun n b h => by rw [get_empty] at h; cases h), (fun n m bn bm p q h => by rw [get_empty] at h; cases h), (fun n p h => by cases h)⟩
  have har0 : LRel (fun _ => none) args' args' := by
    clear h har
    induction args' with
    | nil => exact .nil
    | cons v vs ih =>
      simp only [List.all_cons, Bool.and_eq_true] at ha
      exact .cons (pf_rel ha.1) (ih ha.2)
  refine (h _ w args' hr0 har0).mono ?_
  rintro e w' ⟨v, σ', φ', u, rfl, ⟨hp, hR⟩, hv, hg⟩
  have hu := pf_eq hp hv
  subst hu
  have same : ∀ g, g < w.heap.size → w'.heap[g]? = w.heap[g]? := fun g hlt => hg.kept g hlt fun n b p h => by rw [get_empty] at h; cases h
  refine ⟨u, σ, φ, u, rfl, ⟨hp, hR, rfl⟩, pf_rel hp, ⟨.refl _, ⟨hr.fresh, hr.dead, fun n b hb => ?_, hr.inj, fun n p hn => Nat.lt_of_lt_of_le (hr.lt n p hn) hg.size⟩, hg.size, hg.tape, hg.os, hg.output, Nat.le_refl _, fun n b _ h => ⟨b, h, rfl⟩, fun g hlt _ => same g hlt, fun n p h1 h2 => by rw [h1] at h2; cases h2⟩⟩
  rcases hr.blk n b hb with ⟨q, c2, e2, f2, b1, b2, b3⟩ | hB
  · exact .inl ⟨q, c2, e2, f2, b1, by rw [same _ (hr.lt n q b1)]; exact b2, b3⟩
  · exact .inr (hB.mv (.refl _) fun q hq _ => same _ (hr.lt n q hq))

/-- A closed run. -/
theorem closed_run {P : Program} {f : FuncId} {args : List Value} {n : Nat} {v : Value} {σ' : AState} (h : ev P (fun _ => none) n [] (.call f args) empty = some (.normal, val1 v, σ')) (hp : pf v = true) (ha : args.all pf = true) (E : Nat → Prop) (σ : AState) :
    SCall P E f args σ (fun v' s' => v' = v ∧ s' = σ) := by
  have h1 := ev_sound (kn := fun _ => none) (fun f k _ _ _ _ _ h => by cases h) n [] (.call f args) empty _ h
  have h2 : SCall P (fun m => m ∉ []) f args empty (fun v' _ => pf v' = true ∧ v' = v) := h1.mono (fun _ _ h => h) fun v' s' e => by
    injection e with e1 e2
    injection e2 with e2 e3
    have : v' = v := by
      have := congrArg (fun a => a.tmps.getD 0 undef) e2
      simpa [val1] using this.symm
    subst this
    exact ⟨hp, rfl⟩
  exact (frame_empty (E := E) h2 ha σ).mono (fun _ _ h => h) fun v' s' ⟨_, h1, h2⟩ => ⟨h1, h2⟩

theorem ev_call {P : Program} {kn : Known} {n : Nat} {pr : List Nat} {f : FuncId} {args : List Value} {σ σ' : AState} {e : Exit} {a : Act} (h : ev P kn n pr (.call f args) σ = some (e, a, σ')) : ∃ v, e = .normal ∧ a = val1 v := by
  cases n with
  | zero => simp [ev] at h
  | succ n =>
    simp only [ev] at h
    split at h
    · split at h
      · injection h with h; injection h with h1 h2; injection h2 with h2 h3; exact ⟨_, h1.symm, h2.symm⟩
      · cases h
    · split at h
      · split at h
        · split at h
          · split at h
            · injection h with h; injection h with h1 h2; injection h2 with h2 h3; exact ⟨_, h1.symm, h2.symm⟩
            · cases h
          · split at h
            · injection h with h; injection h with h1 h2; injection h2 with h2 h3; exact ⟨_, h1.symm, h2.symm⟩
            · cases h
          · cases h
        · cases h
      · cases h

/-- What a run tells. -/
def told (r : Option (Exit × Act × AState)) : Option Value :=
  match r with
  | some (_, a, _) => some (a.tmps.getD 0 undef)
  | none => none

/-- A closed run, by what it tells. -/
theorem closed_told {P : Program} {f : FuncId} {args : List Value} {n : Nat} {v : Value} (h : told (ev P (fun _ => none) n [] (.call f args) empty) = some v) (hp : pf v = true) (ha : args.all pf = true) (E : Nat → Prop) (σ : AState) :
    SCall P E f args σ (fun v' s' => v' = v ∧ s' = σ) := by
  cases hr : ev P (fun _ => none) n [] (.call f args) empty with
  | none => rw [hr] at h; cases h
  | some r =>
    obtain ⟨e, a, σ'⟩ := r
    obtain ⟨u, rfl, rfl⟩ := ev_call hr
    rw [hr] at h
    have : u = v := by simpa [told, val1] using h
    subst this
    exact closed_run hr hp ha E σ

end GAb

set_option linter.unusedVariables false
set_option linter.unusedSimpArgs false
namespace GAb
open Go Go.RowKit

/-! ### Temporaries as a function -/
abbrev Env := Nat → Value
def upd (env : Env) (d : Option Nat) (v : Value) : Env :=
  match d with
  | some d => fun t => bif Nat.beq t d then v else env t
  | none => env
def actOf (n : Nat) (env : Env) : Act := { tmps := ((List.range n).map env).toArray, defers := [] }
theorem actOf_get (n : Nat) (env : Env) (t : Nat) : (actOf n env).tmps[t]? = if t < n then some (env t) else none := by
  simp only [actOf, List.getElem?_toArray, List.getElem?_map, List.getElem?_range]
  split
  · rename_i h; rw [List.getElem?_range h]; rfl
  · rename_i h; rw [List.getElem?_eq_none (by simp; omega)]; rfl
theorem actOf_put (n : Nat) (env : Env) (d : Option Nat) (v : Value) : (actOf n env).put d v = actOf n (upd env d v) := by
  cases d with
  | none => rfl
  | some d =>
    unfold Act.put actOf
    simp only
    congr 1
    apply Array.ext'
    apply List.ext_getElem?
    intro i
    simp only [List.setIfInBounds_toArray, List.getElem?_set, List.length_map, List.length_range, List.getElem?_map]
    by_cases hi : i < n
    · rw [List.getElem?_range hi]
      by_cases hd : d = i
      · subst hd; simp [hi, upd]
      · have : Nat.beq i d = false := by
          rw [Bool.eq_false_iff]; intro h; exact hd (Nat.eq_of_beq_eq_true h).symm
        simp [hd, upd, this]
    · have hr : (List.range n)[i]? = none := List.getElem?_eq_none (by simp; omega)
      rw [hr]
      by_cases hd : d = i
      · subst hd; simp [hi]
      · simp [hd]

def look (n : Nat) (env : Env) : Operand → Value
  | .tmp t => bif Nat.blt t n then env t else undef
  | .const v => v
  | .func f => .func (.func f) #[] #[]
  | .global g => .pointer (some ⟨g, 0, none⟩)
def okx : Operand → Bool
  | .tmp _ | .func _ => true
  | .const v => pf v
  | .global _ => false
theorem look_aval {n : Nat} {env : Env} {x : Operand} (h : okx x = true) : aval (actOf n env) x = some (look n env x) := by
  cases x with
  | tmp t =>
    simp only [aval, look]
    congr 1
    have := actOf_get n env t
    by_cases ht : t < n
    · have hb : Nat.blt t n = true := by rw [Nat.blt_eq]; exact ht
      rw [if_pos ht] at this
      rw [hb]
      simp only [cond_true]
      obtain ⟨hlt, he⟩ := Array.getElem?_eq_some_iff.1 this
      simp [Array.getD, hlt, he]
    · have hb : Nat.blt t n = false := by rw [Bool.eq_false_iff]; intro h; exact ht (by rwa [Nat.blt_eq] at h)
      rw [hb]
      simp only [cond_false]
      have : ¬ t < (actOf n env).tmps.size := by simp [actOf]; exact Nat.le_of_not_lt ht
      simp [Array.getD, this]
  | const v => simp only [okx] at h; simp [aval, look, h]
  | func f => rfl
  | global g => cases h

/-- A value whose head is written out. -/
def fv : Value → Option Value
  | .bool b => some (.bool b)
  | .int k n => some (.int k n)
  | .float k b => some (.float k b)
  | .complex k r i => some (.complex k r i)
  | .string s => some (.string s)
  | .pointer x => some (.pointer x)
  | .slice x n c => some (.slice x n c)
  | .map r => some (.map r)
  | .chan r => some (.chan r)
  | .func f a b => some (.func f a b)
  | .nilFunc => some .nilFunc
  | .iface t v => some (.iface t v)
  | .nilIface => some .nilIface
  | .agg cs => some (.agg cs)
  | .tuple vs => some (.tuple vs)
theorem fv_eq {v u : Value} (h : fv v = some u) : v = u := by
  unfold fv at h
  split at h <;> (injection h)

/-- Reckoning with whole numbers, bools and strings. -/
def bin (op : BinOp) (v u : Value) : Option Value :=
  match op, v, u with
  | .add, .int k p, .int k' q => if k = k' then some (.int k (k.wrap (p + q))) else none
  | .sub, .int k p, .int k' q => if k = k' then some (.int k (k.wrap (p - q))) else none
  | .mul, .int k p, .int k' q => if k = k' then some (.int k (k.wrap (p * q))) else none
  | .eql, .int k p, .int k' q => if k = k' then some (.bool (p == q)) else none
  | .neq, .int k p, .int k' q => if k = k' then some (.bool (p != q)) else none
  | .lss, .int k p, .int k' q => if k = k' then some (.bool (decide (p < q))) else none
  | .leq, .int k p, .int k' q => if k = k' then some (.bool (decide (p ≤ q))) else none
  | .gtr, .int k p, .int k' q => if k = k' then some (.bool (decide (p > q))) else none
  | .geq, .int k p, .int k' q => if k = k' then some (.bool (decide (p ≥ q))) else none
  | _, _, _ => none

def mm (lo : Bool) (v u : Value) : Option Value :=
  match v, u with
  | .int k p, .int k' q => if k = k' then some (.int k (bif lo then (if q < p then q else p) else (if p < q then q else p))) else none
  | _, _ => none

/-- One operation, over the values of its operands. -/
def bop (P : Program) (n : Nat) (o : Oper) (env : Env) (σ : AState) : AOut :=
  match o.op with
  | .move x | .assign x => match okx x, fv (look n env x) with
    | true, some v => some (v, σ, none)
    | _, _ => none
  | .pick c x y => match okx c, okx x, okx y, look n env c with
    | true, true, true, .bool true => (fv (look n env x)).map fun v => (v, σ, none)
    | true, true, true, .bool false => (fv (look n env y)).map fun v => (v, σ, none)
    | _, _, _, _ => none
  | .binOp op _ x y _ => match okx x, okx y, bin op (look n env x) (look n env y) with
    | true, true, some v => some (v, σ, none)
    | _, _, _ => aop P o (actOf n env) σ
  | .unOp .not _ x => match okx x, look n env x with
    | true, .bool b => some (.bool (!b), σ, none)
    | _, _ => none
  | .extract x i => match okx x, look n env x with
    | true, .tuple vs => match vs[i]? with
      | some v => (fv v).map fun v => (v, σ, none)
      | none => none
    | _, _ => none
  | .buildSlice _ _ _ => none
  | .call c => match c.callee, c.args.toList with
    | .builtin .min, [x, y] => match okx x, okx y, mm true (look n env x) (look n env y) with
      | true, true, some v => some (v, σ, none)
      | _, _, _ => none
    | .builtin .max, [x, y] => match okx x, okx y, mm false (look n env x) (look n env y) with
      | true, true, some v => some (v, σ, none)
      | _, _, _ => none
    | _, _ => aop P o (actOf n env) σ
  | _ => aop P o (actOf n env) σ

theorem pv_intBin {P : Program} {n : Nat} {o : Oper} {env : Env} {σ : AState} {op : BinOp} {t yt : TypeId} {x y : Operand} {v : Value} (ho : o.op = .binOp op t x y yt) (hx : okx x = true) (hy : okx y = true) (h : bin op (look n env x) (look n env y) = some v) :
    aop P o (actOf n env) σ = some (v, σ, none) := by
  have h1 := look_aval (n := n) (env := env) hx
  have h2 := look_aval (n := n) (env := env) hy
  generalize look n env x = p at h h1
  generalize look n env y = q at h h2
  have hex : ∀ w : Value, execOp (actOf n env).eval o = (do pure (.value (← (do eqGuard op t x y p q; binOp op t p q : Sem Value)))) := fun _ => by
    simp only [execOp, ho, aval_eval h1, aval_eval h2]
  have hops : o.op.operands.toList = [x, y] := by simp [ho, Op.operands]
  have key : pf p = true → pf q = true → pf v = true → pv P (do eqGuard op t x y p q; binOp op t p q : Sem Value) = some v → aop P o (actOf n env) σ = some (v, σ, none) := by
    intro a1 a2 a3 a4
    unfold aop
    simp only [ho, h1, h2, a1, a2, Bool.and_self, if_true]
    unfold gen
    have hall : (o.op.operands.toList.all (pfOperand (actOf n env)) && noSel o.op) = true := by
      rw [hops]
      simp [pfOperand, h1, h2, a1, a2, noSel, ho]
    rw [if_pos hall]
    have hpv : pv P (execOp (actOf n env).eval o) = some (.value v) := by
      rw [hex undef]
      generalize (do eqGuard op t x y p q; binOp op t p q : Sem Value) = s at a4 ⊢
      clear hex
      induction s with
      | pure b => simp only [pv, Option.some.injEq] at a4; subst a4; rfl
      | program k ih => simp only [pv] at a4; exact ih P a4
      | mark m k ih => simp only [pv] at a4; exact ih a4
      | _ => cases a4
    rw [hpv]
    simp [a3]
  unfold bin at h
  split at h <;> first
    | (split at h
       · rename_i hk
         subst hk
         injection h with h
         subst h
         refine key rfl rfl rfl ?_
         simp [pv, eqGuard, binOp, Op.intArith, Op.intCmp]
         rfl
       · cases h)
    | cases h

theorem pv_mm {P : Program} {n : Nat} {o : Oper} {env : Env} {σ : AState} {lo : Bool} {c : Call} {x y : Operand} {v : Value} (ho : o.op = .call c) (hc : c.callee = .builtin (if lo then .min else .max)) (ha : c.args.toList = [x, y]) (hx : okx x = true) (hy : okx y = true) (h : mm lo (look n env x) (look n env y) = some v) :
    aop P o (actOf n env) σ = some (v, σ, none) := by
  have h1 := look_aval (n := n) (env := env) hx
  have h2 := look_aval (n := n) (env := env) hy
  generalize look n env x = p at h h1
  generalize look n env y = q at h h2
  unfold mm at h
  split at h
  · rename_i k a k' b
    split at h
    · rename_i hk
      subst hk
      injection h with h
      have hm : c.args.map (actOf n env).eval = #[.int k a, .int k b] := by
        apply Array.ext'
        simp [ha, aval_eval h1, aval_eval h2]
      have hops : o.op.operands.toList = [x, y] := by cases lo <;> simp [ho, Op.operands, Call.operands, hc, ha]
      have hall : (o.op.operands.toList.all (pfOperand (actOf n env)) && noSel o.op) = true := by
        rw [hops]
        simp [pfOperand, h1, h2, noSel, ho, pf, flat]
      have hp : pv P (execOp (actOf n env).eval o) = some (.value v) := by
        cases lo with
        | true =>
          simp only [if_true] at hc
          simp only [execOp, ho, resolve, hc, pure_bind, invoke, builtin, hm]
          rw [← h]; rfl
        | false =>
          simp only [Bool.false_eq_true, if_false] at hc
          simp only [execOp, ho, resolve, hc, pure_bind, invoke, builtin, hm]
          rw [← h]; rfl
      have hb : aop P o (actOf n env) σ = gen P o (actOf n env) σ := by
        unfold aop
        simp only [ho]
        cases lo with
        | true => simp only [if_true] at hc; simp only [hc]; unfold aBuiltin; simp only [ha]
        | false => simp only [Bool.false_eq_true, if_false] at hc; simp only [hc]; unfold aBuiltin; simp only [ha]
      rw [hb]
      unfold gen
      rw [if_pos hall, hp]
      simp only
      rw [← h]; rfl
    · cases h
  · cases h

theorem bop_sound {P : Program} {n : Nat} {o : Oper} {env : Env} {σ σ' : AState} {v : Value} {wn : Option Nat} (h : bop P n o env σ = some (v, σ', wn)) : aop P o (actOf n env) σ = some (v, σ', wn) := by
  unfold bop at h
  split at h
  · rename_i x ho
    split at h
    · rename_i u hx hf
      unfold aop; simp only [ho, look_aval hx, fv_eq hf]; exact h
    · cases h
  · rename_i x ho
    split at h
    · rename_i u hx hf
      unfold aop; simp only [ho, look_aval hx, fv_eq hf]; exact h
    · cases h
  · rename_i c x y ho
    split at h
    · rename_i h1 h2 h3 h4
      cases hf : fv (look n env x) with
      | none => rw [hf] at h; cases h
      | some u =>
        rw [hf] at h
        unfold aop; simp only [ho, look_aval h1, look_aval h2, look_aval h3, h4, if_true, fv_eq hf]; exact h
    · rename_i h1 h2 h3 h4
      cases hf : fv (look n env y) with
      | none => rw [hf] at h; cases h
      | some u =>
        rw [hf] at h
        unfold aop; simp only [ho, look_aval h1, look_aval h2, look_aval h3, h4, Bool.false_eq_true, if_false, fv_eq hf]; exact h
    · cases h
  · rename_i op t x y yt ho
    split at h
    · rename_i u h1 h2 h3
      rw [← h]
      exact pv_intBin ho h1 h2 h3
    · exact h
  · rename_i t x ho
    split at h
    · rename_i b hx hl
      rw [← h]
      have h1 := look_aval (n := n) (env := env) hx
      rw [hl] at h1
      unfold aop
      simp only [ho]
      unfold gen
      have hops : o.op.operands.toList = [x] := by simp [ho, Op.operands]
      have hall : (o.op.operands.toList.all (pfOperand (actOf n env)) && noSel o.op) = true := by
        rw [hops]
        simp [pfOperand, h1, noSel, ho, pf, flat]
      rw [if_pos hall]
      have hpv : pv P (execOp (actOf n env).eval o) = some (.value (.bool (!b))) := by
        simp only [execOp, ho, aval_eval h1, Op.unary]
        rfl
      rw [hpv]
      rfl
    · cases h
  · rename_i x i ho
    split at h
    · rename_i vs hx hl
      split at h
      · rename_i u hu
        cases hf : fv u with
        | none => rw [hf] at h; cases h
        | some u' =>
          rw [hf] at h
          have h1 := look_aval (n := n) (env := env) hx
          rw [hl] at h1
          unfold aop; simp only [ho, h1, aExtract, hu, fv_eq hf]; exact h
      · cases h
    · cases h
  · cases h
  · rename_i c ho
    split at h
    · rename_i x y hc ha
      split at h
      · rename_i u h1 h2 h3
        rw [← h]
        exact pv_mm (lo := true) ho hc ha h1 h2 h3
      · cases h
    · rename_i x y hc ha
      split at h
      · rename_i u h1 h2 h3
        rw [← h]
        exact pv_mm (lo := false) ho hc ha h1 h2 h3
      · cases h
    · exact h
  · exact h

def wantedE (all : Array Oper) (n : Nat) (o : Oper) (env : Env) : Bool :=
  match o.guard with
  | none => true
  | some (j, want) => match (all[j]?).bind (·.dst) with
    | some t => match look n env (.tmp t) with
      | .bool b => b == want
      | _ => false
    | none => false
theorem wantedE_eq (all : Array Oper) (n : Nat) (o : Oper) (env : Env) : Region.wanted o (yielded all (actOf n env).tmps) = wantedE all n o env := by
  unfold Region.wanted wantedE
  cases hg : o.guard with
  | none => rfl
  | some gw =>
    obtain ⟨j, want⟩ := gw
    simp only
    unfold yielded
    cases hd : (all[j]?).bind (·.dst) with
    | none => cases want <;> rfl
    | some t =>
      simp only [Option.bind_some, actOf_get, look]
      by_cases ht : t < n
      · have hb : Nat.blt t n = true := by rw [Nat.blt_eq]; exact ht
        rw [if_pos ht, hb]
        simp only [cond_true]
        cases env t with
        | bool b => cases b <;> cases want <;> rfl
        | _ => cases want <;> rfl
      · have hb : Nat.blt t n = false := by rw [Bool.eq_false_iff]; intro h; exact ht (by rwa [Nat.blt_eq] at h)
        rw [if_neg ht, hb]
        cases want <;> rfl

def dsto (o : Oper) : Option (Option Nat) :=
  match o.dst with
  | none => some none
  | some d => some (some d)
theorem dsto_eq {o : Oper} {d : Option Nat} (h : dsto o = some d) : o.dst = d := by
  unfold dsto at h
  split at h
  · rename_i hd; injection h with h; rw [hd, h]
  · rename_i hd; injection h with h; rw [hd, h]

/-! ### The steps -/
section
variable {P : Program} {B : Base} {Q : Post} {σ : AState} {n : Nat} {env : Env}

def EOps (P : Program) (B : Base) (all : Array Oper) (rest : List Oper) (Q : Post) (n : Nat) (env : Env) (σ : AState) : Prop := SOps P B all rest Q (actOf n env) σ
def ECode (P : Program) (B : Base) (c : Code) (Q : Post) (n : Nat) (env : Env) (σ : AState) : Prop := SCode P B c Q (actOf n env) σ

theorem then_n {K : Act → AState → Prop} {a : Act} (h : K a σ) : thenS K Q .normal a σ := h
theorem then_ret {K : Act → AState → Prop} {a : Act} (h : Q .ret a σ) : thenS K Q .ret a σ := h
theorem then_exit {K : Act → AState → Prop} {a : Act} {id : Nat} (h : Q (.exit id) a σ) : thenS K Q (.exit id) a σ := h
theorem blk_n {id : Nat} {a : Act} (h : Q .normal a σ) : inBlockS id Q .normal a σ := h
theorem blk_ret {id : Nat} {a : Act} (h : Q .ret a σ) : inBlockS id Q .ret a σ := h
theorem blk_here {id : Nat} {a : Act} (h : Q .normal a σ) : inBlockS id Q (.exit id) a σ := by simpa [inBlockS] using h
theorem blk_there {id id' : Nat} {a : Act} (hne : Nat.beq id' id = false) (h : Q (.exit id') a σ) : inBlockS id Q (.exit id') a σ := by
  have : id' ≠ id := fun e => by subst e; simp at hne
  simpa [inBlockS, this] using h

theorem e_seq {x y : Code} (h : ECode P B x (thenS (fun a σ => SCode P B y Q a σ) Q) n env σ) : ECode P B (.seq x y) Q n env σ := s_seq h
theorem e_region {id : Nat} {ops : Array Oper} (h : EOps P B ops ops.toList Q n env σ) : ECode P B (.region id ops false) Q n env σ := s_region h
theorem e_block {id : Nat} {c : Code} (h : ECode P B c (inBlockS id Q) n env σ) : ECode P B (.block id c) Q n env σ := s_block h
theorem e_ret (h : Q .ret (actOf n env) σ) : ECode P B .ret Q n env σ := s_ret h
theorem e_skip (h : Q .normal (actOf n env) σ) : ECode P B .skip Q n env σ := s_skip h
theorem e_exit {id : Nat} (h : Q (.exit id) (actOf n env) σ) : ECode P B (.exit id) Q n env σ := s_exit h
theorem e_nil {ops : Array Oper} (h : Q .normal (actOf n env) σ) : EOps P B ops [] Q n env σ := o_nil h
theorem e_cond_t {c : Operand} {x y : Code} {t : Bool} (hx : okx c = true) (hc : look n env c = .bool t) (ht : t = true) (h : ECode P B x Q n env σ) : ECode P B (.cond c x y) Q n env σ :=
  s_cond (t := true) (by rw [look_aval hx, hc, ht]) h
theorem e_cond_f {c : Operand} {x y : Code} {t : Bool} (hx : okx c = true) (hc : look n env c = .bool t) (ht : t = false) (h : ECode P B y Q n env σ) : ECode P B (.cond c x y) Q n env σ :=
  s_cond (t := false) (by rw [look_aval hx, hc, ht]) h

theorem e_op {all : Array Oper} {o : Oper} {rest : List Oper} {v : Value} {σ' : AState} {d : Option Nat} (hw : wantedE all n o env = true) (ho : bop P n o env σ = some (v, σ', none)) (hd : dsto o = some d) (h : EOps P B all rest Q n (upd env d v) σ') : EOps P B all (o :: rest) Q n env σ := by
  refine o_op (by rw [wantedE_eq]; exact hw) (bop_sound ho) (fun _ h => by cases h) ?_
  rw [actOf_put, dsto_eq hd]; exact h
/-- .. whose value is put in another way. -/
theorem e_opv {all : Array Oper} {o : Oper} {rest : List Oper} {v : Value} (u : Value) {σ' : AState} {d : Option Nat} (hw : wantedE all n o env = true) (ho : bop P n o env σ = some (v, σ', none)) (hu : v = u) (hd : dsto o = some d) (h : EOps P B all rest Q n (upd env d u) σ') : EOps P B all (o :: rest) Q n env σ := by
  subst hu; exact e_op hw ho hd h
/-- .. a test whose answer is known. -/
theorem e_t {all : Array Oper} {o : Oper} {rest : List Oper} {c : Bool} {σ' : AState} {d : Option Nat} (hw : wantedE all n o env = true) (ho : bop P n o env σ = some (.bool c, σ', none)) (hu : c = true) (hd : dsto o = some d) (h : EOps P B all rest Q n (upd env d (.bool true)) σ') : EOps P B all (o :: rest) Q n env σ := by
  subst hu; exact e_op hw ho hd h
theorem e_f {all : Array Oper} {o : Oper} {rest : List Oper} {c : Bool} {σ' : AState} {d : Option Nat} (hw : wantedE all n o env = true) (ho : bop P n o env σ = some (.bool c, σ', none)) (hu : c = false) (hd : dsto o = some d) (h : EOps P B all rest Q n (upd env d (.bool false)) σ') : EOps P B all (o :: rest) Q n env σ := by
  subst hu; exact e_op hw ho hd h
/-- .. that writes. -/
theorem e_w {all : Array Oper} {o : Oper} {rest : List Oper} {v : Value} {σ' : AState} {m : Nat} {d : Option Nat} (hw : wantedE all n o env = true) (ho : bop P n o env σ = some (v, σ', some m)) (hD : B.D m) (hd : dsto o = some d) (h : EOps P B all rest Q n (upd env d v) σ') : EOps P B all (o :: rest) Q n env σ := by
  refine o_op (by rw [wantedE_eq]; exact hw) (bop_sound ho) (fun k h => by injection h with h; subst h; exact hD) ?_
  rw [actOf_put, dsto_eq hd]; exact h
/-- .. that is not wanted. -/
theorem e_s {all : Array Oper} {o : Oper} {rest : List Oper} {d : Option Nat} (hw : wantedE all n o env = false) (hd : dsto o = some d) (h : EOps P B all rest Q n (upd env d undef) σ) : EOps P B all (o :: rest) Q n env σ := by
  refine o_skip (by rw [wantedE_eq]; exact hw) ?_
  rw [actOf_put, dsto_eq hd]; exact h

def looks (n : Nat) (env : Env) : List Operand → List Value
  | [] => []
  | x :: xs => look n env x :: looks n env xs
def okxs : List Operand → Bool
  | [] => true
  | x :: xs => okx x && okxs xs
theorem looks_avals : ∀ {xs : List Operand}, okxs xs = true → avals (actOf n env) xs = some (looks n env xs)
  | [], _ => rfl
  | x :: xs, h => by
    simp only [okxs, Bool.and_eq_true] at h
    simp only [avals, look_aval h.1, looks_avals h.2, looks]
/-- A call by name. -/
def callE (P : Program) (n : Nat) (o : Oper) (env : Env) : Option (FuncId × List Value) :=
  match o.op with
  | .call c => match c.callee with
    | .value (.func g) => match okxs c.args.toList with
      | true => some (g, looks n env c.args.toList)
      | false => none
    | _ => none
  | _ => none
theorem callE_target {o : Oper} {g : FuncId} {vs : List Value} (h : callE P n o env = some (g, vs)) {fn : Func} (hf : P.funcs[g]? = some fn) (hb : (fn.body.isSome && fn.name != "runtime.NumGoroutine") = true) : target P o (actOf n env) = some (g, vs) := by
  unfold callE at h
  split at h
  · rename_i c ho
    split at h
    · rename_i g' hc
      split at h
      · rename_i hx
        injection h with h
        injection h with e1 e2
        subst e1; subst e2
        unfold target
        simp only [ho, hc, aval, looks_avals hx, hf, hb, if_true]
        simp
      · cases h
    · cases h
  · cases h
theorem e_call {all : Array Oper} {o : Oper} {rest : List Oper} {g : FuncId} {vs : List Value} {fn : Func} {D : Nat → Prop} {R : Value → AState → Prop} {d : Option Nat} (hd : dsto o = some d) (hw : wantedE all n o env = true) (ht : callE P n o env = some (g, vs)) (hf : P.funcs[g]? = some fn) (hb : (fn.body.isSome && fn.name != "runtime.NumGoroutine") = true)
    (hc : SCall P D g vs σ R) (hD : ∀ m, D m → B.D m) (h : ∀ v σ', R v σ' → EOps P B all rest Q n (upd env d v) σ') : EOps P B all (o :: rest) Q n env σ := by
  refine o_call (by rw [wantedE_eq]; exact hw) (callE_target ht hf hb) hD (hc.mono (fun _ _ h => h) fun v σ' hR => ?_)
  rw [actOf_put, dsto_eq hd]; exact h v σ' hR
/-- A call that leaves the heap as it is. -/
theorem e_c {all : Array Oper} {o : Oper} {rest : List Oper} {g : FuncId} {vs : List Value} {fn : Func} {v : Value} {d : Option Nat} (hd : dsto o = some d) (hw : wantedE all n o env = true) (ht : callE P n o env = some (g, vs)) (hf : P.funcs[g]? = some fn) (hb : (fn.body.isSome && fn.name != "runtime.NumGoroutine") = true)
    (hc : SCall P (fun _ => False) g vs σ fun u s => u = v ∧ s = σ) (h : EOps P B all rest Q n (upd env d v) σ) : EOps P B all (o :: rest) Q n env σ :=
  e_call hd hw ht hf hb hc (fun _ h => h.elim) fun u s ⟨h1, h2⟩ => by subst h1; subst h2; exact h

def argEnv (args : List Value) : Env := fun t => args.getD t undef
theorem e_fun {D : Nat → Prop} {f : FuncId} {fn : Func} {c : Code} {args : List Value} {R : Value → AState → Prop} {m : Nat} (hf : P.funcs[f]? = some fn) (hb : fn.body = some c) (hm : max fn.ntmps args.length = m)
    (h : ∀ B : Base, B.D = D → ECode P B c (fun e a σ' => (e = .normal ∨ e = .ret) ∧ ∃ v, aResults P fn a σ' = some v ∧ R v σ') m (argEnv args) σ) : SCall P D f args σ R := by
  refine s_fun hf hb fun B hB => ?_
  have : enterAct fn args = actOf m (argEnv args) := by
    unfold enterAct actOf
    congr 1
    apply Array.ext'
    apply List.ext_getElem?
    intro i
    simp only [Array.toList_append, List.toList_toArray, Array.toList_replicate, List.getElem?_append, List.getElem?_replicate, List.getElem?_map]
    by_cases hi : i < args.length
    · rw [if_pos hi, List.getElem?_range (by omega)]
      simp [argEnv, List.getD, hi]
    · rw [if_neg hi]
      by_cases hi2 : i < m
      · rw [if_pos (by omega), List.getElem?_range hi2]
        simp [argEnv, List.getD, List.getElem?_eq_none (show args.length ≤ i by omega)]
      · rw [if_neg (by omega), List.getElem?_eq_none (by simp; omega)]
        rfl
  rw [this]
  exact h B hB

/-- The results that lie in temporaries. -/
def resE (n : Nat) (env : Env) : List ResultVar → Option (List Value)
  | [] => some []
  | .tmp t :: rs => match fv (look n env (.tmp t)), resE n env rs with
    | some v, some vs => some (v :: vs)
    | _, _ => none
  | .cell .. :: _ => none
theorem resE_rsv : ∀ {rs : List ResultVar} {vs : List Value}, resE n env rs = some vs → rsv P (actOf n env) σ rs = some vs
  | [], vs, h => h
  | .tmp t :: rs, vs, h => by
    simp only [resE] at h
    split at h
    · rename_i v vs' h1 h2
      injection h with h
      subst h
      have := look_aval (n := n) (env := env) (x := .tmp t) rfl
      simp only [aval, Option.some.injEq] at this
      simp only [rsv, resE_rsv h2, this, fv_eq h1, Option.map_some]
    · cases h
  | .cell .. :: _, vs, h => by simp [resE] at h
theorem e_done {fn : Func} {R : Value → Prop} {e : Exit} {vs : List Value} {v : Value} (he : e = .normal ∨ e = .ret) (hr : resE n env fn.results.toList = some vs) (hv : one vs = v) (hR : R v) :
    (e = .normal ∨ e = .ret) ∧ ∃ v, aResults P fn (actOf n env) σ = some v ∧ R v := ⟨he, v, by unfold aResults; rw [resE_rsv hr, Option.map_some, hv], hR⟩
end

/-! ### From a law's call to its row -/
theorem below_of_ro {w w' : World} {D : Nat → Prop} {φ φ' : Ren} {σ σ' : AState} (hro : ∀ n b, σ.get n = some b → b.ro = true) (h : Goes D φ σ w φ' σ' w') : Below w.heap.size w w' :=
  ⟨h.os, h.tape, h.output, h.size, fun i hi => h.kept i hi fun n b p hb hf => by rw [hro n b hb] at hf; cases hf⟩

theorem hrel_empty (w : World) : HRel (fun _ => none) empty w :=
  ⟨fun _ _ => rfl, fun n _ => get_empty n, (fun n b h => by rw [get_empty] at h; cases h), (fun n m bn bm p q h => by rw [get_empty] at h; cases h), (fun n p h => by cases h)⟩

theorem lrel_pf {φ : Ren} {vs : List Value} (h : vs.all pf = true) : LRel φ vs vs := by
  induction vs with
  | nil => exact .nil
  | cons v vs ih => simp only [List.all_cons, Bool.and_eq_true] at h; exact .cons (pf_rel h.1) (ih h.2)

/-- A law over values without places. -/
theorem law_pf {P : Program} {D : Nat → Prop} {f : FuncId} {args : List Value} (ha : args.all pf = true) (h : SCall P D f args empty fun v _ => v = .bool true) (w : World) :
    Calls P f args.toArray w fun e w' => e = .returned (.bool true) ∧ Below w.heap.size w w' :=
  (h _ w args (hrel_empty w) (lrel_pf ha)).mono fun e w' ⟨v, σ', φ', u, he, hv, hu, hg⟩ => by
    subst hv
    have : u = .bool true := pf_eq rfl hu
    subst this
    exact ⟨he, below_of_ro (fun n b h => by rw [get_empty] at h; cases h) hg⟩

end GAb

set_option linter.unusedVariables false
set_option linter.unusedSimpArgs false
namespace GAb
open Go Go.RowKit

/-- All names below n0 are as they were. -/
structure Kp (n0 : Nat) (σ σ' : AState) : Prop where
  le : σ.next ≤ σ'.next
  eq : ∀ m, m < n0 → σ'.get m = σ.get m
theorem Kp.refl (n0 : Nat) (σ : AState) : Kp n0 σ σ := ⟨Nat.le_refl _, fun _ _ => rfl⟩
theorem Kp.trans {n0 : Nat} {σ σ1 σ2 : AState} (h : Kp n0 σ σ1) (k : Kp n0 σ1 σ2) : Kp n0 σ σ2 := ⟨Nat.le_trans h.le k.le, fun m hm => (k.eq m hm).trans (h.eq m hm)⟩
theorem Kp.weaken {n0 n1 : Nat} {σ σ' : AState} (h : Kp n1 σ σ') (hn : n0 ≤ n1) : Kp n0 σ σ' := ⟨h.le, fun m hm => h.eq m (Nat.lt_of_lt_of_le hm hn)⟩
theorem Kp.alloc {n0 : Nat} {σ : AState} (b : Blk) (h : n0 ≤ σ.next) : Kp n0 σ (σ.alloc b) := ⟨Nat.le_succ _, fun m hm => by rw [AState.get_alloc, if_neg (by omega)]⟩
theorem Kp.put {n0 n : Nat} {σ : AState} (b : Option Blk) (h : n0 ≤ n) : Kp n0 σ (σ.put n b) := ⟨Nat.le_refl _, fun m hm => by rw [AState.get_put, if_neg (by omega)]⟩

/-- A slice's row, with all the room that is known of. -/
def Row (σ : AState) (x : Option Addr) (len cap es : Nat) (zs : List Value) : Prop :=
  (x = none ∧ len = 0 ∧ cap = 0 ∧ zs = []) ∨
  ∃ n o e, x = some ⟨n, o, e⟩ ∧ ((len = 0 ∧ cap = 0 ∧ zs = [] ∧ e = some 0) ∨
    ((e = none ∨ e = some 0) ∧ n < σ.next ∧ len ≤ cap ∧ ∃ b, σ.get n = some b ∧ b.es = es ∧ o + cap * es ≤ b.cells.length ∧ (b.cells.drop o).take (cap * es) = zs))
/-- What a slice shows. -/
def Has (σ : AState) (x : Option Addr) (len cap es : Nat) (vs : List Value) : Prop := ∃ zs, Row σ x len cap es zs ∧ zs.take (len * es) = vs

theorem Row.size {σ : AState} {x : Option Addr} {len cap es : Nat} {zs : List Value} (h : Row σ x len cap es zs) : zs.length = cap * es ∧ len ≤ cap := by
  rcases h with ⟨_, rfl, rfl, rfl⟩ | ⟨n, o, e, _, ⟨rfl, rfl, rfl, _⟩ | ⟨_, _, hl, b, _, _, h1, h2⟩⟩
  · simp
  · simp
  · rw [← h2]; simp; omega
theorem Row.kp {n0 : Nat} {σ σ' : AState} {x : Option Addr} {len cap es : Nat} {zs : List Value} (h : Row σ x len cap es zs) (hn : σ.next ≤ n0) (k : Kp n0 σ σ') : Row σ' x len cap es zs := by
  rcases h with h | ⟨n, o, e, hx, h | ⟨h1, h2, h3, b, h4, h5⟩⟩
  · exact .inl h
  · exact .inr ⟨n, o, e, hx, .inl h⟩
  · exact .inr ⟨n, o, e, hx, .inr ⟨h1, Nat.lt_of_lt_of_le h2 k.le, h3, b, by rw [k.eq n (by omega)]; exact h4, h5⟩⟩
theorem Row.has {σ : AState} {x : Option Addr} {len cap es : Nat} {zs : List Value} (h : Row σ x len cap es zs) : Has σ x len cap es (zs.take (len * es)) := ⟨zs, h, rfl⟩
theorem Has.kp {n0 : Nat} {σ σ' : AState} {x : Option Addr} {len cap es : Nat} {vs : List Value} (h : Has σ x len cap es vs) (hn : σ.next ≤ n0) (k : Kp n0 σ σ') : Has σ' x len cap es vs := by
  obtain ⟨zs, h1, h2⟩ := h
  exact ⟨zs, h1.kp hn k, h2⟩
theorem Has.size {σ : AState} {x : Option Addr} {len cap es : Nat} {vs : List Value} (h : Has σ x len cap es vs) : vs.length = len * es := by
  obtain ⟨zs, h1, rfl⟩ := h
  obtain ⟨h2, h3⟩ := h1.size
  have := Nat.mul_le_mul_right es h3
  simp; omega

theorem rd_of {σ : AState} {n o k : Nat} {b : Blk} (h : σ.get n = some b) (hk : o + k ≤ b.cells.length) : rd σ n o k = some ((b.cells.drop o).take k) := by
  unfold rd; rw [h]; simp only; rw [if_pos hk]

/-- .. of which some cells are read. -/
theorem Has.rd {σ : AState} {x : Option Addr} {len cap es : Nat} {vs : List Value} (h : Has σ x len cap es vs) (hpos : 0 < len) :
    ∃ n o e, x = some ⟨n, o, e⟩ ∧ ∀ i k, i + k ≤ len * es → rd σ n (o + i) k = some ((vs.drop i).take k) := by
  obtain ⟨zs, h1, rfl⟩ := h
  rcases h1 with ⟨_, rfl, _⟩ | ⟨n, o, e, hx, ⟨rfl, _⟩ | ⟨_, _, hl, b, hb, _, h2, h3⟩⟩
  · omega
  · omega
  · refine ⟨n, o, e, hx, fun i k hk => ?_⟩
    have hle := Nat.mul_le_mul_right es hl
    rw [rd_of hb (by omega), ← h3]
    congr 1
    rw [List.take_take, Nat.min_eq_left hle, List.drop_take, List.take_take, Nat.min_eq_left (by omega), List.drop_drop]
theorem Has.cells {σ : AState} {x : Option Addr} {len cap es : Nat} {vs : List Value} (h : Has σ x len cap es vs) (n : Nat) (hn : n ≤ len) : aCells σ es n (.slice x len cap) = some (vs.take (n * es)) := by
  by_cases hl : len = 0
  · have hn0 : n = 0 := by omega
    subst hl; subst hn0
    obtain ⟨zs, h1, rfl⟩ := h
    rcases h1 with ⟨rfl, _, rfl, rfl⟩ | ⟨m, o, e, rfl, _⟩
    · simp [aCells]
    · simp [aCells]
  · obtain ⟨m, o, e, rfl, hr⟩ := h.rd (by omega)
    unfold aCells
    simp only [hn, if_true]
    have hle := Nat.mul_le_mul_right es hn
    by_cases hz : n * es = 0
    · rw [if_pos hz, hz]; simp
    · rw [if_neg hz]
      have := hr 0 (n * es) (by omega)
      simpa using this

/-- A row that this function has made, and alone knows. -/
def Own (n0 : Nat) (σ : AState) (x : Option Addr) (len cap es : Nat) (vs : List Value) : Prop :=
  n0 ≤ σ.next ∧ ((x = none ∧ len = 0 ∧ cap = 0 ∧ vs = []) ∨
  ∃ n e cs, x = some ⟨n, 0, e⟩ ∧ (e = none ∨ e = some 0) ∧ n0 ≤ n ∧ n < σ.next ∧ len ≤ cap ∧ σ.get n = some ⟨cs, es, false⟩ ∧ cs.length = cap * es ∧ cs.take (len * es) = vs)
theorem Own.nil {n0 es : Nat} {σ : AState} (h : n0 ≤ σ.next) : Own n0 σ none 0 0 es [] := ⟨h, .inl ⟨rfl, rfl, rfl, rfl⟩⟩
theorem Own.has {n0 : Nat} {σ : AState} {x : Option Addr} {len cap es : Nat} {vs : List Value} (h : Own n0 σ x len cap es vs) : Has σ x len cap es vs := by
  rcases h with ⟨_, ⟨rfl, rfl, rfl, rfl⟩ | ⟨n, e, cs, rfl, he, _, hn, hl, hg, hc, hv⟩⟩
  · exact ⟨[], .inl ⟨rfl, rfl, rfl, rfl⟩, by simp⟩
  · refine ⟨cs, .inr ⟨n, 0, e, rfl, .inr ⟨he, hn, hl, _, hg, rfl, by simp only; omega, ?_⟩⟩, hv⟩
    simp only [List.drop_zero]
    exact List.take_of_length_le (by omega)
theorem Own.weaken {n0 n1 : Nat} {σ : AState} {x : Option Addr} {len cap es : Nat} {vs : List Value} (h : Own n1 σ x len cap es vs) (hn : n0 ≤ n1) : Own n0 σ x len cap es vs := by
  rcases h with ⟨h0, h | ⟨n, e, cs, hx, he, h1, h2⟩⟩
  · exact ⟨by omega, .inl h⟩
  · exact ⟨by omega, .inr ⟨n, e, cs, hx, he, by omega, h2⟩⟩
theorem Own.le {n0 : Nat} {σ : AState} {x : Option Addr} {len cap es : Nat} {vs : List Value} (h : Own n0 σ x len cap es vs) : n0 ≤ σ.next := h.1
/-- .. through a call that leaves alone what there is. -/
theorem Own.kp {n0 n1 : Nat} {σ σ' : AState} {x : Option Addr} {len cap es : Nat} {vs : List Value} (h : Own n0 σ x len cap es vs) (hn : σ.next ≤ n1) (k : Kp n1 σ σ') : Own n0 σ' x len cap es vs := by
  rcases h with ⟨h0, h | ⟨n, e, cs, hx, he, h1, h2, h3, h4, h5⟩⟩
  · exact ⟨Nat.le_trans h0 k.le, .inl h⟩
  · exact ⟨Nat.le_trans h0 k.le, .inr ⟨n, e, cs, hx, he, h1, Nat.lt_of_lt_of_le h2 k.le, h3, by rw [k.eq n (by omega)]; exact h4, h5⟩⟩

theorem own_alloc {n0 es len cap : Nat} {σ : AState} {cs : List Value} (e : Option Nat) (he : e = none ∨ e = some 0) (h : n0 ≤ σ.next) (hc : cs.length = cap * es) (hl : len ≤ cap) : Own n0 (σ.alloc ⟨cs, es, false⟩) (some ⟨σ.next, 0, e⟩) len cap es (cs.take (len * es)) :=
  ⟨Nat.le_succ_of_le h, .inr ⟨σ.next, e, cs, rfl, he, h, Nat.lt_succ_self _, hl, by rw [AState.get_alloc, if_pos rfl], hc, rfl⟩⟩

theorem splice_at (cs ns : List Value) (o : Nat) (h : o + ns.length ≤ cs.length) : (splice cs o ns).take (o + ns.length) = cs.take o ++ ns := by
  unfold splice
  rw [← List.append_assoc]
  have : (cs.take o ++ ns).length = o + ns.length := by simp; omega
  rw [← this, List.take_left']
  rfl

/-- An append to a row of one's own. -/
theorem aTail_own {P : Program} {elem : TypeId} {n0 n len cap es by_ : Nat} {σ : AState} {x : Option Addr} {vs ns : List Value} {z : Value} (h : Own n0 σ x len cap es vs)
    (hz : tz P elem = some z) (hzs : z.cells.size = es) (hb : tby P elem = some by_) (hn : ns.length = n * es) (h1 : ns.all Value.oneCell' = true) (hbd : (len + n) * by_ ≤ 140737488355328 ∧ len + n ≤ 4611686018427387904) :
    ∃ x' cap' σ' wn, aTail P elem es n ns (.slice x len cap) σ = some (.slice x' (len + n) cap', σ', wn) ∧ (∀ m, wn = some m → n0 ≤ m) ∧ Own n0 σ' x' (len + n) cap' es (vs ++ ns) ∧ Kp n0 σ σ' := by
  have hvs := h.has.size
  rcases h with ⟨h0, ⟨rfl, rfl, rfl, rfl⟩ | ⟨m, e, cs, rfl, he, h2, h3, h4, h5, h6, h7⟩⟩
  · unfold aTail
    simp only [hz, hb, hzs, hn, h1, and_self, if_true]
    by_cases hn0 : n = 0
    · subst hn0
      have : ns = [] := List.eq_nil_of_length_eq_zero (by simpa using hn)
      subst this
      exact ⟨none, 0, σ, none, by simp, (fun _ h => by cases h), ⟨h0, .inl ⟨rfl, rfl, rfl, rfl⟩⟩, Kp.refl _ _⟩
    · rw [if_neg hn0, if_pos (by simpa using hbd)]
      refine ⟨_, _, _, _, by rw [Nat.zero_add], (fun _ h => by cases h), ?_, Kp.alloc _ h0⟩
      have := own_alloc (n0 := n0) (len := n) (cap := n) (σ := σ) none (.inl rfl) h0 hn (Nat.le_refl _)
      rw [List.take_of_length_le (by omega)] at this
      simpa using this
  · unfold aTail
    simp only [hz, hb, hzs, hn, h1, and_self, if_true]
    have hle := Nat.mul_le_mul_right es h4
    by_cases hfit : len + n ≤ cap
    · rw [if_pos hfit]
      have hf2 := Nat.mul_le_mul_right es hfit
      rw [Nat.add_mul] at hf2
      cases ns with
      | nil =>
        have hz0 : n * es = 0 := by simpa using hn.symm
        refine ⟨_, _, _, _, rfl, (fun _ h => by cases h), ⟨h0, .inr ⟨m, e, cs, rfl, he, h2, h3, hfit, h5, h6, ?_⟩⟩, Kp.refl _ _⟩
        rw [Nat.add_mul, hz0, Nat.add_zero, List.append_nil]; exact h7
      | cons y ys =>
        simp only [Nat.zero_add]
        unfold wr
        rw [h5]
        simp only
        rw [if_pos ⟨trivial, by rw [hn]; omega, h1⟩]
        refine ⟨_, _, _, _, rfl, (fun k h => by injection h with h; subst h; exact h2), ⟨h0, .inr ⟨m, e, _, rfl, he, h2, h3, hfit, by rw [AState.get_put, if_pos rfl], ?_, ?_⟩⟩, Kp.put _ h2⟩
        · rw [splice_length (by rw [hn]; omega)]; exact h6
        · rw [Nat.add_mul, ← hn, splice_at _ _ _ (by rw [hn]; omega), h7]
    · rw [if_neg hfit, if_pos hbd]
      rcases he with rfl | rfl
      · simp only [h5]
        rw [if_pos ⟨trivial, trivial, by omega⟩]
        refine ⟨_, _, _, _, rfl, (fun k h => by injection h with h; subst h; exact h2), ?_, (Kp.put _ h2).trans (Kp.alloc _ h0)⟩
        rw [List.drop_zero, h7]
        have := own_alloc (n0 := n0) (len := len + n) (cap := len + n) (σ := σ.put m none) (cs := vs ++ ns) (es := es) none (.inl rfl) h0 (by rw [List.length_append, hvs, hn, Nat.add_mul]) (Nat.le_refl _)
        rw [List.take_of_length_le (by rw [List.length_append, hvs, hn, Nat.add_mul]; omega)] at this
        exact this
      · have hown : Own n0 σ (some ⟨m, 0, some 0⟩) len cap es vs := ⟨h0, .inr ⟨m, some 0, cs, rfl, .inr rfl, h2, h3, h4, h5, h6, h7⟩⟩
        simp only [hown.has.cells len (Nat.le_refl _), Option.map_some]
        refine ⟨_, _, _, _, rfl, (fun k h => by cases h), ?_, Kp.alloc _ h0⟩
        rw [List.take_of_length_le (by omega)]
        have := own_alloc (n0 := n0) (len := len + n) (cap := len + n) (σ := σ) (cs := vs ++ ns) (es := es) none (.inl rfl) h0 (by rw [List.length_append, hvs, hn, Nat.add_mul]) (Nat.le_refl _)
        rw [List.take_of_length_le (by rw [List.length_append, hvs, hn, Nat.add_mul]; omega)] at this
        exact this

end GAb

set_option linter.unusedVariables false
set_option linter.unusedSimpArgs false
namespace GAb
open Go Go.RowKit

def fvs : List Value → Option (List Value)
  | [] => some []
  | v :: vs => match fv v, fvs vs with
    | some v, some vs => some (v :: vs)
    | _, _ => none
theorem fvs_eq : ∀ {vs us : List Value}, fvs vs = some us → vs = us
  | [], us, h => by simpa [fvs] using h
  | v :: vs, us, h => by
    simp only [fvs] at h
    split at h
    · rename_i v' vs' h1 h2
      injection h with h
      rw [← h, fv_eq h1, fvs_eq h2]
    · cases h

def looksP (n : Nat) (env : Env) : List (Nat × Operand) → List (Nat × Value)
  | [] => []
  | (i, x) :: xs => (i, look n env x) :: looksP n env xs
def okxP : List (Nat × Operand) → Bool
  | [] => true
  | (_, x) :: xs => okx x && okxP xs
theorem looksP_aparts {n : Nat} {env : Env} : ∀ {xs : List (Nat × Operand)}, okxP xs = true → aparts (actOf n env) xs = some (looksP n env xs)
  | [], _ => rfl
  | (i, x) :: xs, h => by
    simp only [okxP, Bool.and_eq_true] at h
    simp only [aparts, look_aval h.1, looksP_aparts h.2, looksP]

theorem foldl_set_size (off : Nat) : ∀ (l : List (Value × Nat)) (a : Array Value), (l.foldl (fun cs (x : Value × Nat) => cs.setIfInBounds (off + x.2) x.1) a).size = a.size
  | [], _ => rfl
  | x :: l, a => by rw [List.foldl_cons, foldl_set_size off l]; simp
theorem fill_size (place : Nat → Option (Nat × Nat)) : ∀ (ps : List (Nat × Value)) (a c : Array Value), Instr.fill place a ps = some c → c.size = a.size
  | [], a, c, h => by simp only [Instr.fill, Option.some.injEq] at h; rw [h]
  | (i, v) :: ps, a, c, h => by
    unfold Instr.fill at h
    split at h
    · cases h
    · split at h
      · cases h
      · rw [fill_size place ps _ _ h]
        rw [← Array.foldl_toList]
        exact foldl_set_size _ _ _

/-- A slice written out: its length, an element's cells, all cells. -/
def litE (P : Program) (n : Nat) (o : Oper) (env : Env) : Option (Nat × Nat × List Value) :=
  match o.op with
  | .buildSlice t len ps => match okxP ps.toList, P.underlying t with
    | true, some (.slice elem) => match tsz P elem, tz P elem with
      | some k, some z => match Nat.ble (len * k) 16777216, z.cells.toList.all flat, Nat.beq z.cells.size k with
        | true, true, true => match Instr.fill (fun i => some (i * k, k)) (zrow z.cells.toList len).toArray (looksP n env ps.toList) with
          | some c => match fvs c.toList with
            | some vs => some (len, k, vs)
            | none => none
          | none => none
        | _, _, _ => none
      | _, _ => none
    | _, _ => none
  | _ => none
theorem litE_sound {P : Program} {n : Nat} {o : Oper} {env : Env} {len k : Nat} {vs : List Value} (h : litE P n o env = some (len, k, vs)) (σ : AState) :
    aop P o (actOf n env) σ = some (.slice (some ⟨σ.next, 0, some 0⟩) len len, σ.alloc ⟨vs, k, false⟩, none) ∧ vs.length = len * k := by
  unfold litE at h
  split at h
  · rename_i t len' ps ho
    split at h
    · rename_i elem hx hu
      split at h
      · rename_i k' z hk hz
        split at h
        · rename_i h1 h2 h3
          split at h
          · rename_i c hc
            split at h
            · rename_i us hus
              injection h with h
              injection h with e1 e2
              injection e2 with e2 e3
              subst e1; subst e2; subst e3
              have h1' : len' * k' ≤ 2 ^ 24 := by have := Nat.le_of_ble_eq_true h1; omega
              have h3' : z.cells.size = k' := Nat.eq_of_beq_eq_true h3
              have hcs := fvs_eq hus
              refine ⟨?_, ?_⟩
              · unfold aop aBuildSlice
                simp only [ho, looksP_aparts hx, hu, hk, hz]
                rw [if_pos ⟨h1', h2, h3'⟩]
                simp only [hc, Option.map_some, hcs]
              · rw [← hcs, Array.length_toList, fill_size _ _ _ _ hc]
                simp [zrow_length, h3']
            · cases h
          · cases h
        · cases h
      · cases h
    · cases h
  · cases h

section
variable {P : Program} {B : Base} {Q : Post} {σ : AState} {n : Nat} {env : Env}

theorem e_aop {all : Array Oper} {o : Oper} {rest : List Oper} {v : Value} {σ' : AState} {wn : Option Nat} {d : Option Nat} (hw : wantedE all n o env = true) (ho : aop P o (actOf n env) σ = some (v, σ', wn)) (hD : ∀ m, wn = some m → B.D m) (hd : dsto o = some d) (h : EOps P B all rest Q n (upd env d v) σ') : EOps P B all (o :: rest) Q n env σ := by
  refine o_op (by rw [wantedE_eq]; exact hw) ho hD ?_
  rw [actOf_put, dsto_eq hd]; exact h

/-- A slice written out. -/
theorem e_lit {all : Array Oper} {o : Oper} {rest : List Oper} {len k n0 : Nat} {vs : List Value} {d : Option Nat} (hw : wantedE all n o env = true) (hl : litE P n o env = some (len, k, vs)) (hd : dsto o = some d) (hn : n0 ≤ σ.next)
    (h : ∀ q σ', Own n0 σ' (some q) len len k vs → Kp n0 σ σ' → EOps P B all rest Q n (upd env d (.slice (some q) len len)) σ') : EOps P B all (o :: rest) Q n env σ := by
  obtain ⟨h1, h2⟩ := litE_sound hl σ
  refine e_aop hw h1 (fun _ h => by cases h) hd (h _ _ ?_ (Kp.alloc _ hn))
  have := own_alloc (n0 := n0) (len := len) (cap := len) (σ := σ) (some 0) (.inr rfl) hn h2 (Nat.le_refl _)
  rwa [List.take_of_length_le (by omega)] at this

/-- An append: what is appended to, what is appended, an element's cells and bytes. -/
def appE (P : Program) (o : Oper) : Option (Operand × Operand × TypeId × Nat × Nat) :=
  match o.op with
  | .call c => match c.callee, c.args.toList, c.argTypes[0]?, c.argTypes[1]? with
    | .builtin .append, [x, y], some st, some xt => match okx x, okx y, P.underlying st, P.underlying xt with
      | true, true, some (.slice elem), some xd => match isInt (some xd), tsz P elem, tz P elem, tby P elem with
        | false, some k, some z, some b => match Nat.beq z.cells.size k with
          | true => some (x, y, elem, k, b)
          | false => none
        | _, _, _, _ => none
      | _, _, _, _ => none
    | _, _, _, _ => none
  | _ => none
theorem appE_sound {o : Oper} {x y : Operand} {elem : TypeId} {k b : Nat} (h : appE P o = some (x, y, elem, k, b)) {s v : Value} {m : Nat} {ns : List Value} (hx : look n env x = s) (hy : look n env y = v) (hl : aLen v = some m) (hc : aCells σ k m v = some ns) :
    aop P o (actOf n env) σ = aTail P elem k m ns s σ ∧ (∃ z, tz P elem = some z ∧ z.cells.size = k) ∧ tby P elem = some b := by
  unfold appE at h
  split at h
  · rename_i c ho
    split at h
    · rename_i x' y' st xt hc1 hc2 hc3 hc4
      split at h
      · rename_i elem' xd hx' hy' hu1 hu2
        split at h
        · rename_i k' z b' hi h1 h2 h3
          split at h
          · rename_i hz
            injection h with h
            injection h with e1 h
            injection h with e2 h
            injection h with e3 h
            injection h with e4 e5
            subst e1; subst e2; subst e3; subst e4; subst e5
            refine ⟨?_, ⟨z, h2, Nat.eq_of_beq_eq_true hz⟩, h3⟩
            unfold aop
            simp only [ho, hc1]
            unfold aBuiltin
            simp only [hc2, look_aval hx', look_aval hy', hx, hy]
            unfold aAppend
            simp only [hc3, hc4, hu1, hu2, h1, h2, h3, hi, Bool.false_eq_true, if_false, hl, hc]
          · cases h
        · cases h
      · cases h
    · cases h
  · cases h

theorem e_app {all : Array Oper} {o : Oper} {rest : List Oper} {x y : Operand} {elem : TypeId} {es by_ n0 len cap m : Nat} {a : Option Addr} {v : Value} {vs ns : List Value} {d : Option Nat} (hw : wantedE all n o env = true) (ha : appE P o = some (x, y, elem, es, by_)) (hd : dsto o = some d)
    (hx : look n env x = .slice a len cap) (hy : look n env y = v) (hO : Own n0 σ a len cap es vs) (hl : aLen v = some m) (hc : aCells σ es m v = some ns) (h1 : ns.all Value.oneCell' = true) (hbd : (len + m) * by_ ≤ 140737488355328 ∧ len + m ≤ 4611686018427387904) (hD : ∀ m, n0 ≤ m → B.D m)
    (h : ∀ a' cap' σ', Own n0 σ' a' (len + m) cap' es (vs ++ ns) → Kp n0 σ σ' → EOps P B all rest Q n (upd env d (.slice a' (len + m) cap')) σ') : EOps P B all (o :: rest) Q n env σ := by
  obtain ⟨k1, ⟨z, k2, k3⟩, k4⟩ := appE_sound ha hx hy hl hc
  have hlen : ns.length = m * es := aCells_length hc
  obtain ⟨x', cap', σ', wn, j1, j2, j3, j4⟩ := aTail_own hO k2 k3 k4 hlen h1 hbd
  exact e_aop hw (k1.trans j1) (fun m hm => hD m (j2 m hm)) hd (h _ _ _ j3 j4)
/-- .. of what a slice shows. -/
theorem e_apps {all : Array Oper} {o : Oper} {rest : List Oper} {x y : Operand} {elem : TypeId} {es by_ n0 len cap m c2 : Nat} {a a2 : Option Addr} {vs ns : List Value} {d : Option Nat} (hw : wantedE all n o env = true) (ha : appE P o = some (x, y, elem, es, by_)) (hd : dsto o = some d)
    (hx : look n env x = .slice a len cap) (hy : look n env y = .slice a2 m c2) (hO : Own n0 σ a len cap es vs) (hH : Has σ a2 m c2 es ns) (h1 : ns.all Value.oneCell' = true) (hbd : (len + m) * by_ ≤ 140737488355328 ∧ len + m ≤ 4611686018427387904) (hD : ∀ m, n0 ≤ m → B.D m)
    (h : ∀ a' cap' σ', Own n0 σ' a' (len + m) cap' es (vs ++ ns) → Kp n0 σ σ' → EOps P B all rest Q n (upd env d (.slice a' (len + m) cap')) σ') : EOps P B all (o :: rest) Q n env σ := by
  have hc := hH.cells m (Nat.le_refl _)
  rw [List.take_of_length_le (by rw [hH.size]; omega)] at hc
  exact e_app hw ha hd hx hy hO rfl hc h1 hbd hD h

/-- A place that shows some cells. -/
def At (σ : AState) (p : Option Addr) (vs : List Value) : Prop := ∃ m o, p = some ⟨m, o, none⟩ ∧ rd σ m o vs.length = some vs
/-- An element's place: of what, which. -/
def ixE (P : Program) (o : Oper) : Option (Operand × Operand × Nat) :=
  match o.op with
  | .indexAddr t x ix => match okx x, okx ix, P.underlying t with
    | true, true, some (.slice elem) => (tsz P elem).map fun k => (x, ix, k)
    | _, _, _ => none
  | _ => none
theorem ixE_sound {o : Oper} {x ix : Operand} {k m ofs len cap : Nat} {e : Option Nat} {ik : IntKind} {i : Int} (h : ixE P o = some (x, ix, k)) (hx : look n env x = .slice (some ⟨m, ofs, e⟩) len cap) (hi : look n env ix = .int ik i) (h0 : 0 ≤ i) (h1 : i < len) :
    aop P o (actOf n env) σ = some (.pointer (some ⟨m, ofs + i.toNat * k, none⟩), σ, none) := by
  unfold ixE at h
  split at h
  · rename_i t x' ix' ho
    split at h
    · rename_i elem k1 k2 hu
      cases hk : tsz P elem with
      | none => rw [hk] at h; cases h
      | some k' =>
        rw [hk] at h
        injection h with h
        injection h with e1 h
        injection h with e2 e3
        subst e1; subst e2; subst e3
        unfold aop aIndexAddr
        simp only [ho, look_aval k1, look_aval k2, hx, hi, hu, hk]
        rw [if_pos ⟨h0, h1⟩]
        rfl
    · cases h
  · cases h
theorem e_ix {all : Array Oper} {o : Oper} {rest : List Oper} {x ix : Operand} {es len cap : Nat} {a : Option Addr} {ik : IntKind} {i : Int} {vs : List Value} {d : Option Nat} (hw : wantedE all n o env = true) (hs : ixE P o = some (x, ix, es)) (hd : dsto o = some d)
    (hx : look n env x = .slice a len cap) (hi : look n env ix = .int ik i) (hH : Has σ a len cap es vs) (h0 : 0 ≤ i) (h1 : i < len)
    (h : ∀ p, At σ p ((vs.drop (i.toNat * es)).take es) → EOps P B all rest Q n (upd env d (.pointer p)) σ) : EOps P B all (o :: rest) Q n env σ := by
  obtain ⟨m, ofs, e, rfl, hr⟩ := hH.rd (by omega)
  refine e_aop hw (ixE_sound hs hx hi h0 h1) (fun _ h => by cases h) hd (h _ ⟨m, _, rfl, ?_⟩)
  have hb : i.toNat * es + es ≤ len * es := by
    have := Nat.mul_le_mul_right es (show i.toNat + 1 ≤ len by omega)
    rw [Nat.add_mul, Nat.one_mul] at this; exact this
  have hl := hH.size
  rw [show ((vs.drop (i.toNat * es)).take es).length = es by simp; omega]
  exact hr _ _ hb
/-- .. of a row of numbers. -/
theorem e_ixi {all : Array Oper} {o : Oper} {rest : List Oper} {x ix : Operand} {len cap : Nat} {a : Option Addr} {ik k : IntKind} {i : Int} {zs : List Int} {d : Option Nat} (hw : wantedE all n o env = true) (hs : ixE P o = some (x, ix, 1)) (hd : dsto o = some d)
    (hx : look n env x = .slice a len cap) (hi : look n env ix = .int ik i) (hH : Has σ a len cap 1 (zs.map (.int k))) (h0 : 0 ≤ i) (h1 : i < len)
    (h : ∀ p, At σ p [.int k (zs.getD i.toNat 0)] → EOps P B all rest Q n (upd env d (.pointer p)) σ) : EOps P B all (o :: rest) Q n env σ := by
  refine e_ix hw hs hd hx hi hH h0 h1 fun p hp => h p ?_
  have hl := hH.size
  rw [List.length_map, Nat.mul_one] at hl
  rw [Nat.mul_one] at hp
  have hlt : i.toNat < zs.length := by omega
  have : ((zs.map (Value.int k)).drop i.toNat).take 1 = [.int k (zs.getD i.toNat 0)] := by
    rw [List.drop_eq_getElem_cons (by simpa using hlt)]
    simp [List.getD, hlt]
  rwa [this] at hp

/-- A load of one cell. -/
def ldE (P : Program) (o : Oper) : Option (Operand × Option Nat) :=
  match o.op with
  | .load t x => match okx x, P.underlying t with
    | true, some d => match agg? d with
      | true => (tsz P t).map fun k => (x, some k)
      | false => some (x, none)
    | _, _ => none
  | _ => none
theorem e_ld {all : Array Oper} {o : Oper} {rest : List Oper} {x : Operand} {p : Option Addr} {v : Value} {d : Option Nat} (hw : wantedE all n o env = true) (hs : ldE P o = some (x, none)) (hd : dsto o = some d)
    (hx : look n env x = .pointer p) (hA : At σ p [v]) (h : EOps P B all rest Q n (upd env d v) σ) : EOps P B all (o :: rest) Q n env σ := by
  obtain ⟨m, ofs, rfl, hr⟩ := hA
  refine e_aop hw (v := v) (σ' := σ) (wn := none) ?_ (fun _ h => by cases h) hd h
  unfold ldE at hs
  split at hs
  · rename_i t x' ho
    split at hs
    · rename_i dd h1 hu
      split at hs
      · cases hk : tsz P t <;> rw [hk] at hs <;> simp at hs
      · rename_i ha
        injection hs with hs
        injection hs with e1 e2
        subst e1
        unfold aop aLoad
        simp only [ho, look_aval h1, hx, hu, ha, Bool.false_eq_true, if_false]
        have hr' : rd σ m ofs 1 = some [v] := hr
        simp only [hr']
    · cases hs
  · cases hs
theorem e_lda {all : Array Oper} {o : Oper} {rest : List Oper} {x : Operand} {p : Option Addr} {vs : List Value} {d : Option Nat} (hw : wantedE all n o env = true) (hs : ldE P o = some (x, some vs.length)) (hd : dsto o = some d)
    (hx : look n env x = .pointer p) (hA : At σ p vs) (h : EOps P B all rest Q n (upd env d (.agg vs.toArray)) σ) : EOps P B all (o :: rest) Q n env σ := by
  obtain ⟨m, ofs, rfl, hr⟩ := hA
  refine e_aop hw (v := .agg vs.toArray) (σ' := σ) (wn := none) ?_ (fun _ h => by cases h) hd h
  unfold ldE at hs
  split at hs
  · rename_i t x' ho
    split at hs
    · rename_i dd h1 hu
      split at hs
      · rename_i ha
        cases hk : tsz P t with
        | none => rw [hk] at hs; cases hs
        | some k =>
          rw [hk] at hs
          injection hs with hs
          injection hs with e1 e2
          injection e2 with e2
          subst e1; subst e2
          unfold aop aLoad
          simp only [ho, look_aval h1, hx, hu, ha, if_true, hk, hr, Option.map_some]
      · simp at hs
    · cases hs
  · cases hs

/-- Bytes as a string. -/
def strE (P : Program) (o : Oper) : Option Operand :=
  match o.op with
  | .convert src dst x => match okx x, P.underlying src, P.underlying dst with
    | true, some (.slice e), some .string => match P.underlying e with
      | some (.int .u8) => some x
      | _ => none
    | _, _, _ => none
  | _ => none
theorem u8s_map : ∀ zs : List Int, u8s (zs.map (.int .u8)) = some zs
  | [] => rfl
  | z :: zs => by simp [u8s, u8s_map zs]
theorem e_str {all : Array Oper} {o : Oper} {rest : List Oper} {x : Operand} {a : Option Addr} {len cap : Nat} {zs : List Int} {d : Option Nat} (hw : wantedE all n o env = true) (hs : strE P o = some x) (hd : dsto o = some d)
    (hx : look n env x = .slice a len cap) (hH : Has σ a len cap 1 (zs.map (.int .u8))) (h : EOps P B all rest Q n (upd env d (.string (strOfNums zs))) σ) : EOps P B all (o :: rest) Q n env σ := by
  refine e_aop hw (v := .string (strOfNums zs)) (σ' := σ) (wn := none) ?_ (fun _ h => by cases h) hd h
  have hl := hH.size
  rw [List.length_map, Nat.mul_one] at hl
  unfold strE at hs
  split at hs
  · rename_i src dst x' ho
    split at hs
    · rename_i e h1 h2 h3
      split at hs
      · rename_i h4
        injection hs with hs
        subst hs
        unfold aop
        simp only [ho, h2, h3, look_aval h1, hx]
        unfold aStr
        simp only [h2, h3, h4]
        by_cases h0 : len = 0
        · subst h0
          have : zs = [] := List.eq_nil_of_length_eq_zero hl
          subst this
          obtain ⟨ws, hR, _⟩ := hH
          rcases hR with ⟨rfl, _, rfl, _⟩ | ⟨m, ofs, e', rfl, _⟩
          · rfl
          · simp
        · obtain ⟨m, ofs, e', rfl, hr⟩ := hH.rd (by omega)
          have := hr 0 len (by omega)
          simp only [Nat.add_zero, List.drop_zero] at this
          rw [List.take_of_length_le (by rw [List.length_map, hl]; exact Nat.le_refl _)] at this
          simp only [h0, if_false, this, u8s_map, Option.map_some]
      · cases hs
    · cases hs
  · cases hs

/-! ### Loops -/
def upds (env : Env) : List (Nat × Value) → Env
  | [] => env
  | (t, v) :: l => upd (upds env l) (some t) v
def Sees (env : Env) : List (Nat × Value) → Prop
  | [] => True
  | (t, v) :: l => env t = v ∧ Sees env l
theorem upd_self {env : Env} {t : Nat} {v : Value} (h : env t = v) : upd env (some t) v = env := by
  funext k
  unfold upd
  simp only
  cases hk : Nat.beq k t with
  | true => have := Nat.eq_of_beq_eq_true hk; subst this; simp [h]
  | false => rfl
theorem upds_self {env : Env} : ∀ {l : List (Nat × Value)}, Sees env l → upds env l = env
  | [], _ => rfl
  | (t, v) :: l, h => by
    unfold upds
    rw [upds_self h.2]
    exact upd_self h.1

/-- A loop: what its rounds are told by (α), what the temporaries hold, a number that each round lowers. -/
theorem e_loop {α : Type} {c : Code} (I : α → AState → Prop) (live : α → List (Nat × Value)) (meas : α → Nat) (s0 : α) (h0 : I s0 σ) (hl : Sees env (live s0))
    (round : ∀ s env σ, I s σ → ECode P B c (thenS (fun a' σ' => ∃ s' env', a' = actOf n env' ∧ meas s' < meas s ∧ I s' σ' ∧ Sees env' (live s')) Q) n (upds env (live s)) σ) : ECode P B (.loop c) Q n env σ := by
  refine s_loop (fun k a σ => ∃ s env, a = actOf n env ∧ meas s = k ∧ I s σ ∧ Sees env (live s)) (meas s0) ⟨s0, env, rfl, rfl, h0, hl⟩ ?_
  rintro k a σ ⟨s, env, rfl, rfl, hI, hS⟩
  have := round s env σ hI
  rw [upds_self hS] at this
  refine SCode.mono this ?_
  intro e a' σ' h
  cases e with
  | normal => obtain ⟨s', env', h1, h2, h3, h4⟩ := h; exact ⟨meas s', h2, s', env', h1, rfl, h3, h4⟩
  | _ => exact h
theorem then_round {α : Type} {I : α → AState → Prop} {live : α → List (Nat × Value)} {meas : α → Nat} {s : α} (s' : α) (h2 : meas s' < meas s) (h3 : I s' σ) (h4 : Sees env (live s')) :
    thenS (fun a' σ' => ∃ s' env', a' = actOf n env' ∧ meas s' < meas s ∧ I s' σ' ∧ Sees env' (live s')) Q .normal (actOf n env) σ := ⟨s', env, rfl, h2, h3, h4⟩

/-- A function that may write what it makes. -/
theorem e_fun' {D : Nat → Prop} {f : FuncId} {fn : Func} {c : Code} {args : List Value} {R : Value → AState → Prop} {m : Nat} (hf : P.funcs[f]? = some fn) (hb : fn.body = some c) (hm : max fn.ntmps args.length = m)
    (h : ∀ B : Base, (∀ k, D k → B.D k) → (∀ k, σ.next ≤ k → B.D k) → ECode P B c (fun e a σ' => (e = .normal ∨ e = .ret) ∧ ∃ v, aResults P fn a σ' = some v ∧ R v σ') m (argEnv args) σ) : SCall P D f args σ R :=
  (e_fun (D := fun k => D k ∨ σ.next ≤ k) hf hb hm fun B hB => h B (fun k hk => by rw [hB]; exact .inl hk) (fun k hk => by rw [hB]; exact .inr hk)).mono (fun k hk hD => by
    rcases hD with h | h
    · exact h
    · omega) fun _ _ h => h
end

end GAb

set_option linter.unusedVariables false
set_option linter.unusedSimpArgs false
namespace GAb
open Go Go.RowKit

theorem wrapi {x : Int} (h0 : -9223372036854775808 ≤ x) (h1 : x ≤ 9223372036854775807) : IntKind.i64.wrap x = x := by
  simp only [IntKind.wrap, IntKind.bits, IntKind.signed]
  simp
  omega
theorem wrap8 {x : Int} (h0 : 0 ≤ x) (h1 : x ≤ 255) : IntKind.u8.wrap x = x := by
  simp only [IntKind.wrap, IntKind.bits, IntKind.signed]
  simp
  omega
theorem wrap32 {x : Int} (h0 : 0 ≤ x) (h1 : x ≤ 4294967295) : IntKind.u32.wrap x = x := by
  simp only [IntKind.wrap, IntKind.bits, IntKind.signed]
  simp
  omega

section
variable {P : Program} {B : Base} {Q : Post} {σ : AState} {n : Nat} {env : Env}

/-- A part of a slice: of what, from where, to where, an element's cells. -/
def slE (P : Program) (o : Oper) : Option (Operand × Option Operand × Option Operand × Nat) :=
  match o.op with
  | .slice t x lo hi none => match okx x, P.underlying t with
    | true, some (.slice elem) => (tsz P elem).map fun k => (x, lo, hi, k)
    | _, _ => none
  | _ => none
/-- A bound, if there is one, else d. -/
def Bnd (n : Nat) (env : Env) (x : Option Operand) (d r : Nat) : Prop :=
  match x with
  | none => r = d
  | some y => okx y = true ∧ ∃ k i, look n env y = .int k i ∧ 0 ≤ i ∧ i.toNat = r
theorem Bnd.opt {x : Option Operand} {d r : Nat} (h : Bnd n env x d r) : ∃ v, aopt (actOf n env) x = some v ∧ bnd v d = some r := by
  cases x with
  | none => exact ⟨none, rfl, by simpa [bnd, Bnd] using h.symm⟩
  | some y =>
    obtain ⟨h1, k, i, h2, h3, h4⟩ := h
    exact ⟨some (.int k i), by simp [aopt, look_aval h1, h2, pf, flat], by simp [bnd, h3, h4]⟩

theorem e_sl {all : Array Oper} {o : Oper} {rest : List Oper} {x : Operand} {lo hi : Option Operand} {es len cap l h : Nat} {a : Option Addr} {zs : List Value} {d : Option Nat} (hw : wantedE all n o env = true) (hs : slE P o = some (x, lo, hi, es)) (hd : dsto o = some d)
    (hx : look n env x = .slice a len cap) (hR : Row σ a len cap es zs) (hl : Bnd n env lo 0 l) (hh : Bnd n env hi len h) (h1 : l ≤ h) (h2 : h ≤ cap)
    (hk : ∀ a', Row σ a' (h - l) (cap - l) es (zs.drop (l * es)) → (∀ n0 vs, l = 0 → zs.take (h * es) = vs → Own n0 σ a len cap es (zs.take (len * es)) → Own n0 σ a' h cap es vs) → EOps P B all rest Q n (upd env d (.slice a' (h - l) (cap - l))) σ) : EOps P B all (o :: rest) Q n env σ := by
  unfold slE at hs
  split at hs
  · rename_i t x' lo' hi' ho
    split at hs
    · rename_i elem k1 hu
      cases hk' : tsz P elem with
      | none => rw [hk'] at hs; cases hs
      | some k' =>
        rw [hk'] at hs
        injection hs with hs
        injection hs with e1 hs
        injection hs with e2 hs
        injection hs with e3 e4
        subst e1; subst e2; subst e3; subst e4
        obtain ⟨vl, l1, l2⟩ := hl.opt
        obtain ⟨vh, l3, l4⟩ := hh.opt
        have l5 : aopt (actOf n env) none = some none := rfl
        rcases hR with ⟨rfl, rfl, rfl, rfl⟩ | ⟨m, ofs, e, rfl, hR⟩
        · have hh0 : h = 0 := by omega
          have hl0 : l = 0 := by omega
          subst hh0; subst hl0
          refine e_aop hw (v := .slice none 0 0) (σ' := σ) (wn := none) ?_ (fun _ h => by cases h) hd (hk none ?_ (fun n0 vs _ hv hO => by subst hv; simpa using hO))
          · have hb : bnd none 0 = some 0 := rfl
            unfold aop
            simp only [ho, look_aval k1, hx, l1, l3, l5]
            unfold aSlice
            simp only [hu, l2, l4, hk', hb]
            rfl
          · simp [Row]
        · have hb : bnd none cap = some cap := rfl
          rcases hR with ⟨rfl, rfl, rfl, rfl⟩ | ⟨he, r1, r2, b, r3, r4, r5, r6⟩
          · have hh0 : h = 0 := by omega
            have hl0 : l = 0 := by omega
            subst hh0; subst hl0
            refine e_aop hw (v := .slice (some ⟨m, ofs, some 0⟩) 0 0) (σ' := σ) (wn := none) ?_ (fun _ h => by cases h) hd (hk _ ?_ (fun n0 vs _ hv hO => by subst hv; simpa using hO))
            · unfold aop
              simp only [ho, look_aval k1, hx, l1, l3, l5]
              unfold aSlice
              simp only [hu, l2, l4, hk', hb]
              simp
            · exact .inr ⟨m, ofs, some 0, rfl, .inl ⟨rfl, rfl, by simp, rfl⟩⟩
          · have hsz : zs.length = cap * k' := by rw [← r6]; simp; omega
            have hlc := Nat.mul_le_mul_right k' (Nat.le_trans h1 h2)
            have hcl : l * k' + (cap - l) * k' = cap * k' := by rw [← Nat.add_mul]; congr 1; omega
            refine e_aop hw (v := .slice (some ⟨m, ofs + l * k', e⟩) (h - l) (cap - l)) (σ' := σ) (wn := none) ?_ (fun _ h => by cases h) hd (hk _ ?_ ?_)
            · unfold aop
              simp only [ho, look_aval k1, hx, l1, l3, l5]
              unfold aSlice
              simp only [hu, l2, l4, hk', hb]
              rw [if_pos ⟨h1, h2, Nat.le_refl _⟩]
              rcases he with rfl | rfl
              · simp only [r3, r4, if_true]
              · rfl
            · refine .inr ⟨m, _, e, rfl, .inr ⟨he, r1, by omega, b, r3, r4, by omega, ?_⟩⟩
              rw [← r6, ← List.drop_drop, List.drop_take]
              congr 1
              omega
            · intro n0 vs hl0 hv hO
              subst hl0
              rcases hO with ⟨o1, ⟨o2, _⟩ | ⟨m', e', cs, o2, o3, o4, o5, o6, o7, o8, o9⟩⟩
              · cases o2
              · injection o2 with o2
                injection o2 with o2 o10 o11
                subst o2; subst o10; subst o11
                rw [r3] at o7
                injection o7 with o7
                subst o7
                refine ⟨o1, .inr ⟨m, e, cs, by simp, he, o4, o5, h2, r3, o8, ?_⟩⟩
                rw [← hv, ← r6]
                simp only [List.drop_zero]
                rw [List.take_take, Nat.min_eq_left (Nat.mul_le_mul_right k' h2)]
    · cases hs
  · cases hs

/-- A row of numbers that this function has made: an append to it. -/
theorem e_appi {k : IntKind} {all : Array Oper} {o : Oper} {rest : List Oper} {x y : Operand} {elem : TypeId} {by_ n0 len cap m c2 : Nat} {a a2 : Option Addr} {xs ys : List Int} {d : Option Nat} (hw : wantedE all n o env = true) (ha : appE P o = some (x, y, elem, 1, by_)) (hd : dsto o = some d)
    (hx : look n env x = .slice a len cap) (hy : look n env y = .slice a2 m c2) (hO : Own n0 σ a len cap 1 (xs.map (.int k))) (hH : Has σ a2 m c2 1 (ys.map (.int k))) (hbd : (len + m) * by_ ≤ 140737488355328 ∧ len + m ≤ 4611686018427387904) (hD : ∀ m, n0 ≤ m → B.D m)
    (h : ∀ a' cap' σ', Own n0 σ' a' (len + m) cap' 1 ((xs ++ ys).map (.int k)) → Kp n0 σ σ' → EOps P B all rest Q n (upd env d (.slice a' (len + m) cap')) σ') : EOps P B all (o :: rest) Q n env σ :=
  e_apps hw ha hd hx hy hO hH (by
    rw [List.all_eq_true]
    intro x hx
    obtain ⟨z, _, rfl⟩ := List.mem_map.1 hx
    rfl) hbd hD fun a' c' s' h1 h2 => h a' c' s' (by rwa [List.map_append]) h2

/-- A number, put in another way. -/
theorem e_i {all : Array Oper} {o : Oper} {rest : List Oper} {k : IntKind} {z z' : Int} {σ' : AState} {d : Option Nat} (hw : wantedE all n o env = true) (ho : bop P n o env σ = some (.int k z, σ', none)) (hu : z = z') (hd : dsto o = some d) (h : EOps P B all rest Q n (upd env d (.int k z')) σ') : EOps P B all (o :: rest) Q n env σ := by
  subst hu; exact e_op hw ho hd h

def isMv (o : Oper) : Bool :=
  match o.op with
  | .move _ | .assign _ => true
  | _ => false
theorem e_mv {all : Array Oper} {o : Oper} {rest : List Oper} {v : Value} {σ' : AState} {d : Option Nat} (hm : isMv o = true) (hw : wantedE all n o env = true) (ho : bop P n o env σ = some (v, σ', none)) (hd : dsto o = some d) (h : EOps P B all rest Q n (upd env d v) σ') : EOps P B all (o :: rest) Q n env σ := e_op hw ho hd h

/-- A sequence, cut: what is known between both. -/
theorem e_cut {α : Type} {x y : Code} (I : α → AState → Prop) (live : α → List (Nat × Value)) (h1 : ECode P B x (thenS (fun a σ => ∃ s env, a = actOf n env ∧ I s σ ∧ Sees env (live s)) Q) n env σ)
    (h2 : ∀ s env σ, I s σ → ECode P B y Q n (upds env (live s)) σ) : ECode P B (.seq x y) Q n env σ := by
  refine s_seq (SCode.mono h1 ?_)
  intro e a' σ' h
  cases e with
  | normal =>
    obtain ⟨s, env, rfl, hI, hS⟩ := h
    have := h2 s env σ' hI
    rw [upds_self hS] at this
    exact this
  | _ => exact h

/-- An operation that is reckoned out. -/
def plainOp (o : Oper) : Bool :=
  match o.op with
  | .move _ | .assign _ | .pick .. | .binOp .. | .unOp .. | .extract .. | .convert .. | .field .. | .build .. | .nilCheck .. => true
  | .call c => match c.callee with
    | .builtin .len | .builtin .min | .builtin .max => true
    | _ => false
  | _ => false
theorem e_ops {all : Array Oper} {o : Oper} {rest : List Oper} {v u : Value} {σ' : AState} {d : Option Nat} (hp : plainOp o = true) (hw : wantedE all n o env = true) (ho : bop P n o env σ = some (v, σ', none)) (hu : v = u) (hd : dsto o = some d) (h : EOps P B all rest Q n (upd env d u) σ') : EOps P B all (o :: rest) Q n env σ := by
  subst hu; exact e_op hw ho hd h
end
end GAb

set_option linter.unusedVariables false
set_option linter.unusedSimpArgs false
namespace GAb
open Go Go.RowKit

/-- What is told of a slice of numbers that came in. -/
def IsRow (k : IntKind) (w : World) (a : Option Addr) (len cap : Nat) (zs : List Int) : Prop :=
  (a = none ∧ len = 0 ∧ cap = 0 ∧ zs = []) ∨
  ∃ x, a = some x ∧ len ≤ cap ∧ cap ≤ maxLen ∧ zs.length = cap ∧ (∀ i, i < zs.length → w.cell? (x.add i) = some (.int k (zs.getD i 0))) ∧ ∀ n ∈ zs, (Lit.int k n).wf = true

def Ro (σ : AState) : Prop := ∀ n b, σ.get n = some b → b.ro = true
theorem ro_empty : Ro empty := fun n b h => by rw [get_empty] at h; cases h

theorem hrel_cells {φ : Ren} {σ : AState} {w : World} (h : HRel φ σ w) (hro : Ro σ) {g o es : Nat} {cs : Array Value} {e : TypeId} {fz : Nat × Nat} (hg : w.heap[g]? = some (.cells cs e fz)) {vs : List Value} (hle : o + vs.length ≤ cs.size) (hv : LRel φ vs ((cs.toList.drop o).take vs.length)) :
    HRel (φ.up σ.next ⟨g, o, cs.size, es⟩) (σ.alloc ⟨vs, es, true⟩) w ∧ Ren.le φ (φ.up σ.next ⟨g, o, cs.size, es⟩) ∧ Ro (σ.alloc ⟨vs, es, true⟩) := by
  have hle1 : Ren.le φ (φ.up σ.next ⟨g, o, cs.size, es⟩) := Ren.le_up (h.fresh _ (Nat.le_refl _)) _
  have hget : ∀ n b, (σ.alloc ⟨vs, es, true⟩).get n = some b → (n = σ.next ∧ b = ⟨vs, es, true⟩) ∨ (n ≠ σ.next ∧ σ.get n = some b) := fun n b hb => by
    rw [AState.get_alloc] at hb
    split at hb
    · rename_i hn; injection hb with hb; exact .inl ⟨hn.symm, hb.symm⟩
    · rename_i hn; exact .inr ⟨fun e => hn e.symm, hb⟩
  refine ⟨⟨?_, ?_, ?_, ?_, ?_⟩, hle1, ?_⟩
  · intro n hn
    have : σ.next + 1 ≤ n := hn
    unfold Ren.up
    rw [if_neg (by omega)]
    exact h.fresh n (by omega)
  · intro n hn
    have : σ.next + 1 ≤ n := hn
    rw [AState.get_alloc, if_neg (by omega)]
    exact h.dead n (by omega)
  · intro n b hb
    rcases hget n b hb with ⟨rfl, rfl⟩ | ⟨hn, hb⟩
    · exact .inl ⟨_, cs, e, fz, by unfold Ren.up; rw [if_pos rfl], hg, rfl, rfl, hle, hv.mono hle1, fun h => by cases h⟩
    · rcases h.blk n b hb with ⟨p, cs', e', fz', h1, h2, h3, h4, h5, h6, h7⟩ | hB
      · exact .inl ⟨p, cs', e', fz', hle1 _ _ h1, h2, h3, h4, h5, h6.mono hle1, h7⟩
      · exact .inr (hB.mv hle1 fun _ _ _ => rfl)
  · intro n m bn bm p q hn hm hf _ _ _
    rcases hget n bn hn with ⟨rfl, rfl⟩ | ⟨_, hb⟩
    · cases hf
    · rw [hro n bn hb] at hf; cases hf
  · intro n p hp
    unfold Ren.up at hp
    split at hp
    · injection hp with hp
      subst hp
      exact (Array.getElem?_eq_some_iff.1 hg).1
    · exact h.lt n p hp
  · intro n b hb
    rcases hget n b hb with ⟨_, rfl⟩ | ⟨_, hb⟩
    · rfl
    · exact hro n b hb

theorem hrel_row {φ : Ren} {σ : AState} {w : World} (h : HRel φ σ w) (hro : Ro σ) {k : IntKind} {a : Option Addr} {len cap : Nat} {zs : List Int} (hw : IsRow k w a len cap zs) :
    ∃ φ' σ' x, HRel φ' σ' w ∧ Ro σ' ∧ Ren.le φ φ' ∧ Kp σ.next σ σ' ∧ VRel φ' (.slice x len cap) (.slice a len cap) ∧ Row σ' x len cap 1 (zs.map (.int k)) := by
  rcases hw with ⟨rfl, rfl, rfl, rfl⟩ | ⟨x, rfl, hl, hm, hz, hc, hwf⟩
  · exact ⟨φ, σ, none, h, hro, .refl _, Kp.refl _ _, .sliceNone, .inl ⟨rfl, rfl, rfl, rfl⟩⟩
  by_cases h0 : cap = 0
  · have hl0 : len = 0 := by omega
    subst h0; subst hl0
    have : zs = [] := List.eq_nil_of_length_eq_zero hz
    subst this
    exact ⟨φ, σ, some ⟨0, 0, some 0⟩, h, hro, .refl _, Kp.refl _ _, .sliceE _ _, .inr ⟨0, 0, some 0, rfl, .inl ⟨rfl, rfl, rfl, rfl⟩⟩⟩
  have hx0 := hc 0 (by omega)
  have hsp : x.spot = none := by
    have := World.cell?_spot hx0
    rw [show x.add 0 = x by unfold Addr.add; split <;> simp_all] at this
    exact this
  obtain ⟨g, o, sp⟩ := x
  simp only at hsp
  subst hsp
  have hcell : ∀ i, i < cap → ∃ cs e fz, w.heap[g]? = some (.cells cs e fz) ∧ cs[o + i]? = some (.int k (zs.getD i 0)) := fun i hi => by
    have := hc i (by omega)
    rw [add_plain] at this
    unfold World.cell? at this
    simp only at this
    split at this
    · rename_i cs e fz hg
      exact ⟨cs, e, fz, hg, this⟩
    · cases this
  obtain ⟨cs, e, fz, hg, _⟩ := hcell 0 (by omega)
  have hat : ∀ i, i < cap → cs[o + i]? = some (.int k (zs.getD i 0)) := fun i hi => by
    obtain ⟨cs', e', fz', h1, h2⟩ := hcell i hi
    rw [hg] at h1
    injection h1 with h1
    injection h1 with h1 _ _
    subst h1
    exact h2
  have hsz : o + cap ≤ cs.size := by
    have := hat (cap - 1) (by omega)
    obtain ⟨h1, _⟩ := Array.getElem?_eq_some_iff.1 this
    omega
  have hlen : (zs.map (Value.int k)).length = cap := by simpa using hz
  obtain ⟨r1, r2, r3⟩ := hrel_cells (o := o) (es := 1) (vs := zs.map (.int k)) h hro hg (by omega) (by
    refine LRel.of_get (by simp; omega) fun i v u h1 h2 => ?_
    rw [hlen, List.getElem?_take] at h2
    split at h2
    · rename_i hi
      rw [List.getElem?_drop] at h2
      have h3 := hat i hi
      rw [← Array.getElem?_toList, h2] at h3
      injection h3 with h3
      subst h3
      have hi' : i < zs.length := by omega
      simp [hi'] at h1
      subst h1
      simp only [List.getD, List.getElem?_eq_getElem hi', Option.getD_some]
      exact .int _ _
    · cases h2)
  refine ⟨_, _, some ⟨σ.next, 0, none⟩, r1, r3, r2, Kp.alloc _ (Nat.le_refl _), ?_, ?_⟩
  · have := VRel.slice (φ := φ.up σ.next ⟨g, o, cs.size, 1⟩) (n := σ.next) (o := 0) (len := len) (cap := cap) (cap' := cap) (Ren.up_self _ _ _) (Nat.le_refl _) (by simp only; omega)
    simpa using this
  · exact .inr ⟨σ.next, 0, none, rfl, .inr ⟨.inl rfl, Nat.lt_succ_self _, hl, _, by rw [AState.get_alloc, if_pos rfl], rfl, by simp only; omega, by simp only [List.drop_zero]; exact List.take_of_length_le (by omega)⟩⟩

theorem law_of {P : Program} {D : Nat → Prop} {f : FuncId} {args : List Value} {args' : List Value} {φ : Ren} {σ : AState} {w : World} (hr : HRel φ σ w) (hro : Ro σ) (ha : LRel φ args args') (h : SCall P D f args σ fun v _ => v = .bool true) :
    Calls P f args'.toArray w fun e w' => e = .returned (.bool true) ∧ Below w.heap.size w w' :=
  (h _ w args' hr ha).mono fun e w' ⟨v, σ', φ', u, he, hv, hu, hg⟩ => by
    subst hv
    have : u = .bool true := pf_eq rfl hu
    subst this
    exact ⟨he, below_of_ro hro hg⟩

end GAb
