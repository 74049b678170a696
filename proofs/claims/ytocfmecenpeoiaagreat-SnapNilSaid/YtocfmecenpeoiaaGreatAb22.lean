/- A walk whose goals stay small: what comes behind lies in the context. No statement of the seat is proved in this text. -/
import Derived.Test.YtocfmecenpeoiaaGreatAb21
set_option linter.unusedVariables false
set_option linter.unusedSimpArgs false
namespace GAb
open Go Go.RowKit
section
variable {P : Program} {B : Base} {Q : Post} {n : Nat} {env : Env} {σ : AState}

/-- Behind a row of operations. -/
structure WK (n : Nat) (Q : Post) (W : Pn → Env → AState → Prop) : Prop where
  nx : ∀ {pn env σ}, Q .normal (actOf n env) σ → W pn env σ
/-- Behind the first part of a sequence. -/
structure SeqK (P : Program) (B : Base) (y : Code) (Q : Post) (n : Nat) (Q' : Post) : Prop where
  nx : ∀ {env σ}, ECode P B y Q n env σ → Q' .normal (actOf n env) σ
  rt : ∀ {a σ}, Q .ret a σ → Q' .ret a σ
  et : ∀ {id a σ}, Q (.exit id) a σ → Q' (.exit id) a σ
/-- Behind a block. -/
structure BlkK (id : Nat) (Q : Post) (Q' : Post) : Prop where
  nx : ∀ {a σ}, Q .normal a σ → Q' .normal a σ
  rt : ∀ {a σ}, Q .ret a σ → Q' .ret a σ
  et : ∀ {a σ}, Q .normal a σ → Q' (.exit id) a σ
  ot : ∀ {id' a σ}, Nat.beq id' id = false → Q (.exit id') a σ → Q' (.exit id') a σ
/-- At a function's end. -/
structure FunK (P : Program) (fn : Func) (R : Value → AState → Prop) (n : Nat) (Q' : Post) : Prop where
  nx : ∀ {env σ} {vs : List Value}, resE n env fn.results.toList = some vs → R (one vs) σ → Q' .normal (actOf n env) σ
  rt : ∀ {env σ} {vs : List Value}, resE n env fn.results.toList = some vs → R (one vs) σ → Q' .ret (actOf n env) σ
  nxc : ∀ {env σ} {vs : List Value}, rsv P (actOf n env) σ fn.results.toList = some vs → R (one vs) σ → Q' .normal (actOf n env) σ
  rtc : ∀ {env σ} {vs : List Value}, rsv P (actOf n env) σ fn.results.toList = some vs → R (one vs) σ → Q' .ret (actOf n env) σ
/-- Is a type a struct of so many cells? -/
def celT (P : Program) (ty : TypeId) (k : Nat) : Bool := match P.underlying ty with
  | some d => agg? d && (match tsz P ty with | some j => Nat.beq j k | none => false)
  | none => false
theorem res_cell {O : Nat → Prop} {σ0 : AState} {L : List Fact} {t m : Nat} {ty : TypeId} {rs : List ResultVar} {vals vs : List Value} (F : Facts O σ0 σ L) (k : Nat) (hx : look n env (.tmp t) = .pointer (some ⟨m, 0, none⟩)) (hL : L[k]? = some (cel m vals)) (hT : celT P ty vals.length = true) (hr : rsv P (actOf n env) σ rs = some vs) :
    rsv P (actOf n env) σ (.cell t ty :: rs) = some (.agg vals.toArray :: vs) := by
  have hrd : rd σ m 0 vals.length = some vals := by
    have := cel_rd (F.ho _ (List.mem_of_getElem? hL)) (j := 0) (k := vals.length) (by omega)
    simpa using this
  have h1 := look_aval (n := n) (env := env) (x := .tmp t) rfl
  simp only [aval, Option.some.injEq, hx] at h1
  unfold celT at hT
  split at hT
  · rename_i d hu
    simp only [Bool.and_eq_true] at hT
    obtain ⟨ha, hs⟩ := hT
    split at hs
    · rename_i j hj
      obtain rfl := Nat.eq_of_beq_eq_true hs
      simp only [rsv, h1, aLoad, hu, ha, if_true, hj, hrd, hr, Option.map_some]
    · cases hs
  · cases hT
/-- At the end of a loop's round. -/
structure LoopK (α : Type) (I : α → AState → Prop) (live : α → List (Nat × Value)) (meas : α → Nat) (s : α) (Q : Post) (n : Nat) (Q' : Post) : Prop where
  nx : ∀ {env σ} (s' : α), Sees env (live s') → I s' σ → meas s' < meas s → Q' .normal (actOf n env) σ
  rt : ∀ {a σ}, Q .ret a σ → Q' .ret a σ
  et : ∀ {id a σ}, Q (.exit id) a σ → Q' (.exit id) a σ
/-- At a cut. -/
structure CutK (α : Type) (I : α → AState → Prop) (live : α → List (Nat × Value)) (Q : Post) (n : Nat) (Q' : Post) : Prop where
  nx : ∀ {env σ} (s' : α), Sees env (live s') → I s' σ → Q' .normal (actOf n env) σ
  rt : ∀ {a σ}, Q .ret a σ → Q' .ret a σ
  et : ∀ {id a σ}, Q (.exit id) a σ → Q' (.exit id) a σ

theorem k_lin {id : Nat} {ops : Array Oper} (h : ∀ W, WK n Q W → Lin P B ops W n none ops.toList env σ) : ECode P B (.region id ops false) Q n env σ := e_lin (h _ ⟨fun h => h⟩)
theorem k_linr {id : Nat} {ops : Array Oper} (hm : P.follows .mixedOrders = true) (hp : (Region.noSelect ops && planOK P ops (List.range ops.size) ops.size (Array.replicate ops.size false)) = true) (h : ∀ W, WK n Q W → Lin P B ops W n (some []) ops.toList env σ) : ECode P B (.region id ops true) Q n env σ := e_linr hm hp (h _ ⟨fun h => h⟩)
theorem k_linm (l : List Nat) {id : Nat} {ops : Array Oper} (hm : P.follows .mixedOrders = true) (hp : (Region.noSelect ops && planOK P ops l ops.size (Array.replicate ops.size false)) = true) (h : ∀ W, WK n Q W → Lin P B ops W n (some []) (l.filterMap (ops[·]?)) env σ) : ECode P B (.region id ops true) Q n env σ := e_linm l hm hp (h _ ⟨fun h => h⟩)
theorem k_seq {x y : Code} (h : ∀ Q', SeqK P B y Q n Q' → ECode P B x Q' n env σ) : ECode P B (.seq x y) Q n env σ := e_seq (h _ ⟨fun h => h, fun h => h, fun h => h⟩)
theorem k_block {id : Nat} {c : Code} (h : ∀ Q', BlkK id Q Q' → ECode P B c Q' n env σ) : ECode P B (.block id c) Q n env σ :=
  e_block (h _ ⟨fun h => blk_n h, fun h => blk_ret h, fun h => blk_here h, fun e h => blk_there e h⟩)
theorem k_fun {O : Nat → Prop} {f : FuncId} {fn : Func} {c : Code} {args : List Value} {R : Value → AState → Prop} {m : Nat} (hf : P.funcs[f]? = some fn) (hb : fn.body = some c) (hm : max fn.ntmps args.length = m)
    (h : ∀ B : Base, (∀ k, O k ∨ σ.next ≤ k → B.D k) → ∀ Q', FunK P fn R m Q' → ECode P B c Q' m (argEnv args) σ) : SCall P O f args σ R :=
  l_fun hf hb hm fun B hB => h B hB _ ⟨fun h1 h2 => e_done (.inl rfl) h1 rfl h2, fun h1 h2 => e_done (.inr rfl) h1 rfl h2,
    fun h1 h2 => ⟨.inl rfl, _, by unfold aResults; rw [h1, Option.map_some], h2⟩, fun h1 h2 => ⟨.inr rfl, _, by unfold aResults; rw [h1, Option.map_some], h2⟩⟩
theorem k_loop {α : Type} {c : Code} (I : α → AState → Prop) (live : α → List (Nat × Value)) (meas : α → Nat) (s0 : α) (h0 : I s0 σ) (hl : Sees env (live s0))
    (round : ∀ s env σ Q', LoopK α I live meas s Q n Q' → I s σ → ECode P B c Q' n (upds env (live s)) σ) : ECode P B (.loop c) Q n env σ :=
  l_loop I live meas s0 h0 hl fun s env σ hI => round s env σ _ ⟨fun s' h1 h2 h3 => ⟨s', _, rfl, h1, h2, h3⟩, fun h => h, fun h => h⟩ hI
theorem k_cut {α : Type} {x y : Code} (I : α → AState → Prop) (live : α → List (Nat × Value)) (h1 : ∀ Q', CutK α I live Q n Q' → ECode P B x Q' n env σ)
    (h2 : ∀ s env σ, I s σ → ECode P B y Q n (upds env (live s)) σ) : ECode P B (.seq x y) Q n env σ :=
  l_cut I live (h1 _ ⟨fun s' h1 h2 => ⟨s', _, rfl, h1, h2⟩, fun h => h, fun h => h⟩) h2
theorem k_ret (h : Q .ret (actOf n env) σ) : ECode P B .ret Q n env σ := e_ret h
theorem k_skip (h : Q .normal (actOf n env) σ) : ECode P B .skip Q n env σ := e_skip h
theorem k_exit {id : Nat} (h : Q (.exit id) (actOf n env) σ) : ECode P B (.exit id) Q n env σ := e_exit h
end
end GAb
