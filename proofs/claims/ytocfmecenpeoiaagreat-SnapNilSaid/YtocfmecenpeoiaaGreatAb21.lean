/- A walk by pieces: regions as rows of operations, the operations, calls, loops. No statement of the seat is proved in this text. -/
import Derived.Test.YtocfmecenpeoiaaGreatAb20
set_option linter.unusedVariables false
set_option linter.unusedSimpArgs false
namespace GAb
open Go Go.RowKit

/-- The names that were read in a region of mixed orders (none: the order is fixed). -/
abbrev Pn := Option (List Nat)
def pnl : Pn → List Nat
  | none => []
  | some l => l
def pnAdd : Pn → Option Nat → Pn
  | none, _ => none
  | some l, none => some l
  | some l, some m => some (m :: l)
theorem pnl_add {pn : Pn} {x : Option Nat} {m : Nat} (h : m ∈ pnl pn) : m ∈ pnl (pnAdd pn x) := by
  cases pn with
  | none => exact h
  | some l => cases x with
    | none => exact h
    | some k => exact List.mem_cons_of_mem _ h
theorem pnl_new {l : List Nat} {m : Nat} : m ∈ pnl (pnAdd (some l) (some m)) := List.mem_cons_self ..
/-- An operation that may leave one of several things. -/
def OpN (P : Program) (o : Oper) (a : Act) (σ : AState) (K : Value → AState → Option Nat → Prop) : Prop :=
  ∀ φ w a', HRel φ σ w → ARel φ a a' → ∃ v σ' wn φ' u w', K v σ' wn ∧ ((execOp a'.eval o).run P w = .ok (.value u) w' ∨ (execOp a'.eval o).run P w = .ok .skip w' ∧ u = undef) ∧ VRel φ' v u ∧ Goes (fun n => wn = some n) φ σ w φ' σ' w'
theorem o_opn {P : Program} {B : Base} {Q : Post} {a : Act} {σ : AState} {ops : Array Oper} {o : Oper} {rest : List Oper} {K : Value → AState → Option Nat → Prop} (hw : Region.wanted o (yielded ops a.tmps) = true) (ho : OpN P o a σ K) (hD : ∀ v σ' wn, K v σ' wn → ∀ n, wn = some n → B.D n)
    (h : ∀ v σ' wn, K v σ' wn → SOps P B ops rest Q (a.put o.dst v) σ') : SOps P B ops (o :: rest) Q a σ := by
  intro φ w a' hr ha
  unfold wpList
  rw [wanted_eq ha, hw, if_pos rfl]
  obtain ⟨v, σ', wn, φ', u, w', hK, h1, h2, h3⟩ := ho φ w a' hr.rel ha
  refine .inl ?_
  have hgo := hr.step h3 (hD v σ' wn hK)
  have hrest := fun u' (hu : VRel φ' v u') => h v σ' wn hK φ' w' (a'.put o.dst u') hgo ((ha.mono h3.le).put _ hu)
  unfold Oper.wp
  rcases h1 with h1 | ⟨h1, rfl⟩
  · rw [h1]; exact hrest u h2
  · rw [h1]; exact hrest undef h2
theorem any_only_nd {P : Program} {B : Base} {Q : Post} {a : Act} {σ : AState} {ops : Array Oper} {fuel : Nat} {listed : Array Bool} {pr : List (Nat × Nat)} {tk : List Nat} {i : Nat} {o : Oper} {K : Value → AState → Option Nat → Prop} (hi : ops[i]? = some o) (hr : Region.ready .any ops listed = [i]) (hw : Region.wanted o (yielded ops a.tmps) = true)
    (ho : OpN P o a σ K) (hD : ∀ v σ' wn, K v σ' wn → ∀ n, wn = some n → B.D n) (hn : ∀ v σ' wn, K v σ' wn → ∀ e, e ∈ rem ops i pr → ¬ wn = some e.2) (hl : ∀ e, e ∈ rem ops i pr → ∃ b, σ.get e.2 = some b) (h : ∀ v σ' wn, K v σ' wn → SAny P B ops fuel (listed.setIfInBounds i true) (rem ops i pr) tk Q (a.put o.dst v) σ') : SAny P B ops (fuel + 1) listed pr tk Q a σ := by
  intro hc htk φ w a' hg ha
  refine ⟨(fun h => by rw [hr] at h; cases h), fun j hj => ?_⟩
  have hj' := hj
  rw [hr] at hj'
  obtain rfl : j = i := by simpa using hj'
  unfold wpOp
  simp only [hi]
  rw [wanted_eq ha, hw, if_pos rfl]
  obtain ⟨v, σ', wn, φ', u, w', hK, h1, h2, h3⟩ := ho φ w a' hg.rel ha
  refine .inl ?_
  have fin := fun u' (hu : VRel φ' v u') => any_step (P := P) (Q := Q) (fuel := fuel) hc htk hj hg h3 (hD v σ' wn hK) (hn v σ' wn hK) hl ((ha.mono h3.le).put o.dst hu) (h v σ' wn hK)
  unfold Oper.wp
  rcases h1 with h1 | ⟨h1, rfl⟩
  · rw [h1]; exact fin u h2
  · rw [h1]; exact fin undef h2
/-- Does an operation come behind, or ahead of, all others of its region, so that what was read by then needs to be kept no more? -/
def nrd (o : Oper) : Bool := match o.op with
  | .load _ _ | .convert _ _ _ => false
  | _ => true
def nrb (ops : Array Oper) (j : Nat) : Bool := match ops[j]? with
  | some o => nrd o
  | none => true
theorem nrd_none {o : Oper} {a : Act} (h : nrd o = true) : rbName o a = none := by
  unfold nrd at h
  unfold rbName
  split <;> simp_all
theorem nrb_some {ops : Array Oper} {i : Nat} {o : Oper} {a : Act} {m : Nat} (hi : ops[i]? = some o) (h : rbName o a = some m) : nrb ops i = false := by
  unfold nrb
  rw [hi]
  simp only
  cases hn : nrd o
  · rfl
  · rw [nrd_none hn] at h; cases h
def rsOK (P : Program) (ops : Array Oper) (o : Oper) : Bool :=
  !isTake P o && (List.range ops.size).all fun i => (ops[i]?.map fun p => (p.dst, p.after.size)) != some (o.dst, o.after.size) || (List.range ops.size).all fun j => j == i || nrb ops j || dep ops i j || dep ops j i
theorem rsOK_dep {P : Program} {ops : Array Oper} {o : Oper} {i : Nat} (h : rsOK P ops o = true) (hi : ops[i]? = some o) : isTake P o = false ∧ ∀ j, j < ops.size → j ≠ i → nrb ops j = false → dep ops i j = true ∨ dep ops j i = true := by
  unfold rsOK at h
  simp only [Bool.and_eq_true, Bool.not_eq_true', List.all_eq_true, List.mem_range, Bool.or_eq_true, beq_iff_eq, bne_iff_ne] at h
  refine ⟨h.1, fun j hj hne hnr => ?_⟩
  have hlt : i < ops.size := by
    obtain ⟨h1, _⟩ := Array.getElem?_eq_some_iff.1 hi
    exact h1
  rcases h.2 i hlt with h2 | h2
  · exact absurd (by rw [hi]; rfl) h2
  · rcases h2 j hj with ((h3 | h3) | h3) | h3
    · exact absurd h3 hne
    · rw [hnr] at h3; cases h3
    · exact .inl h3
    · exact .inr h3
/-- A row of operations, one behind the other: what each leaves. -/
inductive Lin (P : Program) (B : Base) (all : Array Oper) (Q : Pn → Env → AState → Prop) (n : Nat) : Pn → List Oper → Env → AState → Prop
  | nil {pn : Pn} {env : Env} {σ : AState} : Q pn env σ → Lin P B all Q n pn [] env σ
  | skip {pn : Pn} {o : Oper} {rest : List Oper} {env : Env} {σ : AState} : wantedE all n o env = false → Lin P B all Q n pn rest (upd env o.dst undef) σ → Lin P B all Q n pn (o :: rest) env σ
  | rd {pn : Pn} {o : Oper} {rest : List Oper} {env : Env} {σ : AState} {v : Value} : wantedE all n o env = true → aop P o (actOf n env) σ = some (v, σ, none) → (∀ m, pn ≠ none → rbName o (actOf n env) = some m → ∃ b, σ.get m = some b) → Lin P B all Q n (pnAdd pn (rbName o (actOf n env))) rest (upd env o.dst v) σ → Lin P B all Q n pn (o :: rest) env σ
  | wr {pn : Pn} {o : Oper} {rest : List Oper} {env : Env} {σ σ' : AState} {v : Value} {wn : Option Nat} : wantedE all n o env = true → aop P o (actOf n env) σ = some (v, σ', wn) → rbName o (actOf n env) = none → (∀ m, wn = some m → B.D m) → (∀ m, m ∈ pnl pn → wn ≠ some m ∧ ∃ b, σ'.get m = some b) → Lin P B all Q n pn rest (upd env o.dst v) σ' → Lin P B all Q n pn (o :: rest) env σ
  | nd {pn : Pn} {o : Oper} {rest : List Oper} {env : Env} {σ : AState} {K : Value → AState → Option Nat → Prop} : wantedE all n o env = true → isTake P o = false → OpN P o (actOf n env) σ K → (∀ v σ' wn, K v σ' wn → ∀ m, wn = some m → B.D m) → (∀ v σ' wn, K v σ' wn → ∀ m, m ∈ pnl pn → wn ≠ some m ∧ ∃ b, σ'.get m = some b) → (∀ v σ' wn, K v σ' wn → Lin P B all Q n pn rest (upd env o.dst v) σ') → Lin P B all Q n pn (o :: rest) env σ
  | call {pn : Pn} {o : Oper} {rest : List Oper} {env : Env} {σ : AState} {g : FuncId} {vs : List Value} {D : Nat → Prop} {R : Value → AState → Prop} : wantedE all n o env = true → target P o (actOf n env) = some (g, vs) → (∀ m, D m → B.D m) → (∀ m, m ∈ pnl pn → ¬ D m) → SCall P D g vs σ R → (∀ v σ', R v σ' → ∀ m, m ∈ pnl pn → ∃ b, σ'.get m = some b) → (∀ v σ', R v σ' → Lin P B all Q n pn rest (upd env o.dst v) σ') → Lin P B all Q n pn (o :: rest) env σ
  | rs {ns : List Nat} {o : Oper} {rest : List Oper} {env : Env} {σ : AState} : rsOK P all o = true → Lin P B all Q n (some []) (o :: rest) env σ → Lin P B all Q n (some ns) (o :: rest) env σ

section
variable {P : Program} {B : Base} {Q : Post} {n : Nat}

theorem lin_fixed {all : Array Oper} {Q' : Pn → Env → AState → Prop} (hq : ∀ pn env σ, Q' pn env σ → Q .normal (actOf n env) σ) : ∀ {pn : Pn} {rest : List Oper} {env : Env} {σ : AState}, Lin P B all Q' n pn rest env σ → SOps P B all rest Q (actOf n env) σ := by
  intro pn rest env σ h
  induction h with
  | nil h => exact o_nil (hq _ _ _ h)
  | skip hw _ ih => exact o_skip (by rw [wantedE_eq]; exact hw) (by rw [actOf_put]; exact ih)
  | rd hw ho _ _ ih => exact o_op (by rw [wantedE_eq]; exact hw) ho (fun _ h => by cases h) (by rw [actOf_put]; exact ih)
  | wr hw ho _ hD _ _ ih => exact o_op (by rw [wantedE_eq]; exact hw) ho hD (by rw [actOf_put]; exact ih)
  | nd hw _ ho hD _ _ ih => exact o_opn (by rw [wantedE_eq]; exact hw) ho hD (fun v σ' wn hK => by rw [actOf_put]; exact ih v σ' wn hK)
  | call hw ht hD _ hc _ _ ih => exact o_call (by rw [wantedE_eq]; exact hw) ht hD (hc.mono (fun _ _ h => h) fun v σ' hR => by rw [actOf_put]; exact ih v σ' hR)
  | rs _ _ ih => exact ih

/-- An order in which a region of mixed orders may be gone through. -/
def planG (P : Program) (ops : Array Oper) (fin : Nat → Array Bool → Bool) : List Nat → Nat → Array Bool → Bool
  | [], fuel, listed => fin fuel listed
  | _ :: _, 0, _ => false
  | i :: l, fuel + 1, listed => match ops[i]? with
    | none => false
    | some o =>
      ((Region.ready .any ops listed).contains i && (isTake P o && Region.free .any ops listed i) || (Region.ready .any ops listed == [i])) && planG P ops fin l fuel (listed.setIfInBounds i true)
def planOK (P : Program) (ops : Array Oper) (l : List Nat) (fuel : Nat) (listed : Array Bool) : Bool := planG P ops (fun _ listed => (Region.ready .any ops listed).isEmpty) l fuel listed

theorem dsto_self (o : Oper) : dsto o = some o.dst := by
  unfold dsto
  split <;> rename_i h <;> rw [h]
theorem take_nocall {o : Oper} {a : Act} {g : FuncId} {vs : List Value} (h1 : isTake P o = true) (h2 : target P o a = some (g, vs)) : False := by
  unfold target at h2
  split at h2
  · rename_i c hc
    unfold isTake at h1
    simp only [hc] at h1
    split at h2
    · rename_i f hf
      simp only [hf] at h1
      cases h1
    · cases h2
  · cases h2

theorem listed_at {ops : Array Oper} {listed : Array Bool} {i k : Nat} (h : listed.getD k false = true) : (listed.setIfInBounds i true).getD k false = true := by
  simp only [Array.getD_eq_getD_getElem?, Array.getElem?_setIfInBounds] at h ⊢
  split
  · split
    · rfl
    · rename_i h1 h2
      subst h1
      rw [Array.getElem?_eq_none (by omega)] at h
      cases h
  · exact h
theorem listed_new {ops : Array Oper} {listed : Array Bool} {i : Nat} (hi : i < listed.size) : (listed.setIfInBounds i true).getD i false = true := by
  simp [Array.getD_eq_getD_getElem?, Array.getElem?_setIfInBounds, hi]
/-- One operation that is the only one that is ready. -/
theorem lin_only {ops : Array Oper} {Q' : Pn → Env → AState → Prop} {i : Nat} {o : Oper} {l : List Nat} {fuel : Nat} {listed : Array Bool} {pr : List (Nat × Nat)} {tk : List Nat} (ho : ops[i]? = some o) (hr : Region.ready .any ops listed = [i]) (hlt : ∀ e ∈ pr, e.1 < ops.size ∧ e.1 ≠ i ∧ listed.getD e.1 false = true ∧ nrb ops e.1 = false)
    (ih : ∀ (ns : List Nat) (env : Env) (σ : AState), (∀ e ∈ rem ops i pr, e.2 ∈ ns ∧ ∃ b, σ.get e.2 = some b) → Lin P B ops Q' n (some ns) (l.filterMap (ops[·]?)) env σ → SAny P B ops fuel (listed.setIfInBounds i true) (rem ops i pr) tk Q (actOf n env) σ) :
    ∀ {pn : Pn} {r : List Oper} {env : Env} {σ : AState}, Lin P B ops Q' n pn r env σ → ∀ ns, pn = some ns → r = o :: l.filterMap (ops[·]?) → (∀ e ∈ rem ops i pr, e.2 ∈ ns ∧ ∃ b, σ.get e.2 = some b) → SAny P B ops (fuel + 1) listed pr tk Q (actOf n env) σ := by
  intro pn r env σ h
  induction h with
  | nil _ => intro ns _ hx _; cases hx
  | skip hw h _ =>
    rintro ns rfl hx hpr
    injection hx with e1 e2
    subst e1; subst e2
    have hal0 : ∀ e, e ∈ rem ops i pr → ∃ b, _ := fun e he => (hpr e he).2
    refine any_only_skip ho hr (by rw [wantedE_eq]; exact hw) hal0 ?_
    rw [actOf_put]
    exact ih _ _ _ (fun e he => hpr e he) h
  | @rd pn o' rest env σ v hw hop hal h _ =>
    rintro ns rfl hx hpr
    injection hx with e1 e2
    subst e1; subst e2
    have hal0 : ∀ e, e ∈ rem ops i pr → ∃ b, _ := fun e he => (hpr e he).2
    refine any_only ho hr (by rw [wantedE_eq]; exact hw) hop (fun _ h => by cases h) (fun _ _ h => by cases h) hal0 ?_
    rw [actOf_put]
    refine ih (pnl (pnAdd (some ns) (rbName o' (actOf n env)))) _ _ (fun e he => ⟨pnl_add (hpr e he).1, (hpr e he).2⟩) ?_
    generalize rbName o' (actOf n env) = x at h ⊢
    cases x <;> exact h
  | wr hw hop hrb hD hal h _ =>
    rintro ns rfl hx hpr
    injection hx with e1 e2
    subst e1; subst e2
    have hal0 : ∀ e, e ∈ rem ops i pr → ∃ b, _ := fun e he => (hpr e he).2
    refine any_only ho hr (by rw [wantedE_eq]; exact hw) hop hD (fun e he => (hal e.2 (hpr e he).1).1) hal0 ?_
    rw [actOf_put]
    exact ih _ _ _ (fun e he => ⟨(hpr e he).1, (hal e.2 (hpr e he).1).2⟩) h
  | nd hw hnt hop hD hal h _ =>
    rintro ns rfl hx hpr
    injection hx with e1 e2
    subst e1; subst e2
    have hal0 : ∀ e, e ∈ rem ops i pr → ∃ b, _ := fun e he => (hpr e he).2
    refine any_only_nd ho hr (by rw [wantedE_eq]; exact hw) hop hD (fun v σ' wn hK e he => (hal v σ' wn hK e.2 (hpr e he).1).1) hal0 (fun v σ' wn hK => ?_)
    rw [actOf_put]
    exact ih _ _ _ (fun e he => ⟨(hpr e he).1, (hal v σ' wn hK e.2 (hpr e he).1).2⟩) (h v σ' wn hK)
  | call hw htg hD hn hc hal h _ =>
    rintro ns rfl hx hpr
    injection hx with e1 e2
    subst e1; subst e2
    have hal0 : ∀ e, e ∈ rem ops i pr → ∃ b, _ := fun e he => (hpr e he).2
    refine any_call ho hr (by rw [wantedE_eq]; exact hw) htg hD (fun e he => hn e.2 (hpr e he).1) hal0 (hc.mono (fun _ _ h => h) fun v σ' hR => ?_)
    rw [actOf_put]
    exact ih _ _ _ (fun e he => ⟨(hpr e he).1, hal v σ' hR e.2 (hpr e he).1⟩) (h v σ' hR)
  | rs hok _ ihr =>
    rintro ns _ hx hpr
    have hx' := hx
    injection hx' with e1 e2
    subst e1
    have hd := (rsOK_dep hok ho).2
    intro hc
    refine ihr [] rfl hx (fun e he => ?_) hc
    exfalso
    unfold rem at he
    obtain ⟨he1, he2⟩ := List.mem_filter.1 he
    obtain ⟨hl1, hl2, hl3, hl4⟩ := hlt e he1
    have hin : i ∈ Region.ready .any ops listed := by rw [hr]; simp
    rcases hd e.1 hl1 hl2 hl4 with h1 | h1
    · rw [h1] at he2
      cases he2
    · rw [closed_dep hc (mem_ready.1 hin).1 e.1 hl3] at h1
      cases h1
theorem ready_new {ops : Array Oper} {listed : Array Bool} {i : Nat} (h : i ∈ Region.ready .any ops listed) : listed.getD i true = false ∧ i < ops.size := by
  refine ⟨(mem_ready.1 h).1, ?_⟩
  unfold Region.ready at h
  exact List.mem_range.1 (List.mem_filter.1 h).1
theorem lin_mixedG {ops : Array Oper} {Q' : Pn → Env → AState → Prop} {fin : Nat → Array Bool → Bool} (hs : Region.noSelect ops = true)
    (base : ∀ (fuel : Nat) (listed : Array Bool) (pr : List (Nat × Nat)) (tk ns : List Nat) (env : Env) (σ : AState), fin fuel listed = true → (∀ e ∈ pr, listed.getD e.1 false = true ∧ e.1 < ops.size ∧ nrb ops e.1 = false) → (∀ e ∈ pr, e.2 ∈ ns ∧ ∃ b, σ.get e.2 = some b) → Q' (some ns) env σ → SAny P B ops fuel listed pr tk Q (actOf n env) σ) : ∀ (l : List Nat) (fuel : Nat) (listed : Array Bool) (pr : List (Nat × Nat)) (tk ns : List Nat) (env : Env) (σ : AState),
    planG P ops fin l fuel listed = true → (∀ e ∈ pr, listed.getD e.1 false = true ∧ e.1 < ops.size ∧ nrb ops e.1 = false) → (∀ e ∈ pr, e.2 ∈ ns ∧ ∃ b, σ.get e.2 = some b) → Lin P B ops Q' n (some ns) (l.filterMap (ops[·]?)) env σ → SAny P B ops fuel listed pr tk Q (actOf n env) σ := by
  intro l
  induction l with
  | nil =>
    intro fuel listed pr tk ns env σ hp hli hpr h
    cases h with
    | nil h => exact base fuel listed pr tk ns env σ (by simpa [planG] using hp) hli hpr h
  | cons i l ih =>
    intro fuel listed pr tk ns env σ hp hli hpr h
    cases fuel with
    | zero => simp [planG] at hp
    | succ fuel =>
    unfold planG at hp
    split at hp
    · cases hp
    rename_i o ho
    rw [List.filterMap_cons, ho] at h
    simp only [Bool.and_eq_true, Bool.or_eq_true, beq_iff_eq] at hp
    obtain ⟨hmode, hp⟩ := hp
    have hrem : ∀ e, e ∈ rem ops i pr → e ∈ pr := fun e he => (List.mem_filter.1 he).1
    have hli' : ∀ e ∈ pr, (listed.setIfInBounds i true).getD e.1 false = true ∧ e.1 < ops.size ∧ nrb ops e.1 = false := fun e he => ⟨listed_at (ops := ops) (hli e he).1, (hli e he).2⟩
    rcases hmode with ⟨hr, ht, hf⟩ | hr
    · have hin : i ∈ Region.ready .any ops listed := by simpa using hr
      obtain ⟨n1, n2⟩ := ready_new hin
      have hlz : i < listed.size := by
        by_cases hz : i < listed.size
        · exact hz
        · rw [Array.getD_eq_getD_getElem?, Array.getElem?_eq_none (by omega)] at n1
          cases n1
      cases h with
      | skip hw h => exact any_take_skip ho hs hf hr (by rw [wantedE_eq]; exact hw) (by rw [actOf_put]; exact ih _ _ _ _ _ _ _ hp hli' hpr h)
      | rd hw hop hal h =>
        refine any_take ho hs hf hr (by rw [wantedE_eq]; exact hw) ht hop ?_
        rw [actOf_put]
        generalize hx : rbName o (actOf n env) = x at h hal
        cases x with
        | none => exact ih _ _ _ _ ns _ _ hp (by simpa [entry] using hli') (by simpa [entry] using hpr) h
        | some m =>
          refine ih _ _ _ _ (m :: ns) _ _ hp (fun e he => ?_) (fun e he => ?_) h
          · rcases List.mem_append.1 he with he | he
            · simp [entry] at he
              subst he
              exact ⟨listed_new (ops := ops) hlz, n2, nrb_some ho hx⟩
            · exact hli' e he
          · rcases List.mem_append.1 he with he | he
            · simp [entry] at he
              subst he
              exact ⟨List.mem_cons_self .., hal m (fun h => by cases h) rfl⟩
            · exact ⟨List.mem_cons_of_mem _ (hpr e he).1, (hpr e he).2⟩
      | wr hw hop hrb hD hal h =>
        have := (take_sound ht hop).1
        subst this
        refine any_take ho hs hf hr (by rw [wantedE_eq]; exact hw) ht hop ?_
        rw [actOf_put, hrb]
        exact ih _ _ _ _ ns _ _ hp (by simpa [entry] using hli') (by simpa [entry] using hpr) h
      | nd _ hnt _ _ _ _ => rw [hnt] at ht; cases ht
      | call hw htg _ _ _ _ _ => exact (take_nocall ht htg).elim
      | rs hok _ => rw [(rsOK_dep hok ho).1] at ht; cases ht
    · have hin : i ∈ Region.ready .any ops listed := by rw [hr]; simp
      obtain ⟨n1, n2⟩ := ready_new hin
      refine lin_only ho hr (fun e he => ⟨(hli e he).2.1, fun hx => ?_, (hli e he).1, (hli e he).2.2⟩) (fun ns' env' σ' hpr' h' => ih _ _ _ _ ns' _ _ hp (fun e he => hli' e (hrem e he)) hpr' h') h ns rfl rfl (fun e he => hpr e (hrem e he))
      have := (hli e he).1
      rw [hx] at this
      rw [Array.getD_eq_getD_getElem?] at this n1
      cases hg : listed[i]? with
      | none => rw [hg] at this; cases this
      | some b => rw [hg] at this n1; simp at this n1; rw [this] at n1; cases n1
theorem lin_mixed {ops : Array Oper} {Q' : Pn → Env → AState → Prop} (hq : ∀ pn env σ, Q' pn env σ → Q .normal (actOf n env) σ) (hs : Region.noSelect ops = true) (l : List Nat) (fuel : Nat) (listed : Array Bool) (pr : List (Nat × Nat)) (tk ns : List Nat) (env : Env) (σ : AState)
    (hp : planOK P ops l fuel listed = true) (hli : ∀ e ∈ pr, listed.getD e.1 false = true ∧ e.1 < ops.size ∧ nrb ops e.1 = false) (hpr : ∀ e ∈ pr, e.2 ∈ ns ∧ ∃ b, σ.get e.2 = some b) (h : Lin P B ops Q' n (some ns) (l.filterMap (ops[·]?)) env σ) : SAny P B ops fuel listed pr tk Q (actOf n env) σ :=
  lin_mixedG (Q' := Q') hs (fun fuel listed pr tk ns env σ hp _ _ h => any_done (by simpa using hp) (hq _ _ _ h) fuel) l fuel listed pr tk ns env σ hp hli hpr h

variable {env : Env} {σ : AState}

theorem e_lin {id : Nat} {ops : Array Oper} (h : Lin P B ops (fun _ env σ => Q .normal (actOf n env) σ) n none ops.toList env σ) : ECode P B (.region id ops false) Q n env σ := s_region (lin_fixed (fun _ _ _ h => h) h)
theorem e_linm (l : List Nat) {id : Nat} {ops : Array Oper} (hm : P.follows .mixedOrders = true) (hp : (Region.noSelect ops && planOK P ops l ops.size (Array.replicate ops.size false)) = true) (h : Lin P B ops (fun _ env σ => Q .normal (actOf n env) σ) n (some []) (l.filterMap (ops[·]?)) env σ) : ECode P B (.region id ops true) Q n env σ := by
  rw [Bool.and_eq_true] at hp
  exact a_region hm fun pr hpr => lin_mixed (fun _ _ _ h => h) hp.1 l _ _ pr [] [] _ _ hp.2 (fun e he => by have := hpr e he; cases this) (fun e he => by have := hpr e he; cases this) h
theorem range_ops (ops : Array Oper) : (List.range ops.size).filterMap (ops[·]?) = ops.toList := by
  apply List.ext_getElem?
  intro i
  have : (List.range ops.size).filterMap (ops[·]?) = (List.range ops.size).map fun i => (ops[i]?).getD ⟨none, .move (.const undef), 0, "", #[], none⟩ := by
    have gen : ∀ l : List Nat, (∀ i ∈ l, i < ops.size) → l.filterMap (ops[·]?) = l.map fun i => (ops[i]?).getD ⟨none, .move (.const undef), 0, "", #[], none⟩ := fun l => by
      induction l with
      | nil => intro _; rfl
      | cons i l ih =>
        intro h
        have hi := h i (by simp)
        rw [List.filterMap_cons, List.map_cons, ih fun j hj => h j (by simp [hj])]
        simp [hi]
    exact gen _ fun i hi => List.mem_range.1 hi
  rw [this, List.getElem?_map]
  by_cases hi : i < ops.size
  · rw [List.getElem?_range hi]; simp [hi]
  · rw [List.getElem?_eq_none (by simp; omega)]; simp; omega
theorem e_linr {id : Nat} {ops : Array Oper} (hm : P.follows .mixedOrders = true) (hp : (Region.noSelect ops && planOK P ops (List.range ops.size) ops.size (Array.replicate ops.size false)) = true) (h : Lin P B ops (fun _ env σ => Q .normal (actOf n env) σ) n (some []) ops.toList env σ) : ECode P B (.region id ops true) Q n env σ :=
  e_linm (List.range ops.size) hm hp (by rw [range_ops]; exact h)

/-! ### Operations -/
variable {all : Array Oper} {W : Pn → Env → AState → Prop} {o : Oper} {rest : List Oper} {d : Option Nat} {pn : Pn}

theorem bd_mul {by_ k : Nat} (h : Nat.ble by_ 1024 = true) (hk : k ≤ 137438953472) : k * by_ ≤ 140737488355328 ∧ k ≤ 4611686018427387904 := by
  have h1 := Nat.le_of_ble_eq_true h
  have := Nat.mul_le_mul hk h1
  omega
/-- What kind of operation. -/
def opk (o : Oper) : Nat :=
  match o.op with
  | .move _ | .assign _ => 0
  | .binOp op _ _ _ _ => match op with
    | .add | .sub | .mul => 1
    | .quo | .rem => 3
    | .eql | .neq | .lss | .leq | .gtr | .geq => 17
    | _ => 2
  | .indexAddr .. => 4
  | .load .. => 5
  | .store .. => 6
  | .buildSlice .. => 7
  | .makeSlice .. => 8
  | .slice .. => 9
  | .alloc _ => 10
  | .box .. => 11
  | .call c => match c.callee with
    | .builtin .append => 12
    | .builtin .copy => 13
    | .builtin .clear => 14
    | .builtin _ => 2
    | _ => 15
  | .convert .. => 16
  | .build .. => 18
  | _ => 2

theorem nw {D : Nat → Prop} : ∀ m, (none : Option Nat) = some m → D m := fun _ h => by cases h
/-- What was read in a region of mixed orders needs to be kept no more: the next operation comes behind all others. -/
theorem l_rs {ns : List Nat} (hok : rsOK P all o = true) (h : Lin P B all W n (some []) (o :: rest) env σ) : Lin P B all W n (some ns) (o :: rest) env σ := .rs hok h
theorem l_nil (h : W pn env σ) : Lin P B all W n pn [] env σ := .nil h
/-- The block that is read. -/
def rbE (n : Nat) (o : Oper) (env : Env) : Option Nat :=
  match o.op with
  | .load _ x | .convert _ _ x => rdName (look n env x)
  | _ => none
theorem aval_or (x : Operand) : aval (actOf n env) x = some (look n env x) ∨ aval (actOf n env) x = none := by
  by_cases h : okx x = true
  · exact .inl (look_aval h)
  · refine .inr ?_
    cases x with
    | tmp t => exact (h rfl).elim
    | func f => exact (h rfl).elim
    | const v => simp only [okx] at h; simp [aval, h]
    | global g => rfl
theorem rb_none (h : rbE n o env = none) : rbName o (actOf n env) = none := by
  unfold rbE at h
  unfold rbName
  cases ho : o.op with
  | load t x => simp only [ho] at h ⊢; rcases aval_or (n := n) (env := env) x with e | e <;> rw [e]; exact h
  | convert t u x => simp only [ho] at h ⊢; rcases aval_or (n := n) (env := env) x with e | e <;> rw [e]; exact h
  | _ => rfl
/-- Names that were read stay out of what is written. -/
def PnA (pn : Pn) (E : Nat → Prop) (σ : AState) : Prop := ∀ m, m ∈ pnl pn → ¬ E m ∧ m < σ.next ∧ ∃ b, σ.get m = some b
theorem pna_none {E : Nat → Prop} {σ : AState} : PnA none E σ := fun m hm => by cases hm
theorem pna_nil {E : Nat → Prop} {σ : AState} : PnA (some []) E σ := fun m hm => by cases hm

/-- .. because they were there before and belong to others. -/
def Sf (O : Nat → Prop) (σ0 : AState) (m : Nat) : Prop := m < σ0.next ∧ ¬ O m ∧ ∃ b, σ0.get m = some b
def PnS (pn : Pn) (O : Nat → Prop) (σ0 : AState) : Prop := ∀ m, m ∈ pnl pn → Sf O σ0 m
theorem Facts.pns {O : Nat → Prop} {σ0 σ : AState} {L : List Fact} (F : Facts O σ0 σ L) : PnS (some []) O σ0 := fun m hm => by cases hm
theorem PnS.add {pn : Pn} {O : Nat → Prop} {σ0 : AState} {m : Nat} (h : PnS pn O σ0) (hm : Sf O σ0 m) : PnS (pnAdd pn (some m)) O σ0 := by
  cases pn with
  | none => exact fun k hk => by cases hk
  | some l =>
    intro k hk
    rcases List.mem_cons.1 hk with rfl | hk
    · exact hm
    · exact h k hk
theorem PnS.pna {pn : Pn} {O E : Nat → Prop} {σ0 σ : AState} {L : List Fact} (h : PnS pn O σ0) (F : Facts O σ0 σ L) (hE : ∀ m, E m → O m ∨ σ0.next ≤ m) : PnA pn E σ := fun m hm => by
  obtain ⟨h1, h2, h3⟩ := h m hm
  refine ⟨fun hEm => ?_, Nat.lt_of_lt_of_le h1 F.le, by rw [F.eq m h1 h2]; exact h3⟩
  rcases hE m hEm with h | h
  · exact h2 h
  · omega
theorem Old.sf {O : Nat → Prop} {σ : AState} {a : Option Addr} {l c es : Nat} {vs : List Value} (h : Old O σ a l c es vs) {m o : Nat} {e : Option Nat} (ha : a = some ⟨m, o, e⟩) (hl : 0 < l) : Sf O σ m := by
  have hc : l ≤ c := by obtain ⟨zs, hR, _⟩ := h.1; exact hR.size.2
  have hn : Nr a c m := ⟨o, e, ha, fun ⟨h0, _⟩ => by omega⟩
  refine ⟨h.1.nm_lt hn, h.2 m hn, ?_⟩
  obtain ⟨zs, hR, _⟩ := h.1
  rcases hR with ⟨h0, _⟩ | ⟨m', o', e', h0, ⟨h1, _⟩ | ⟨_, _, _, b, hb, _⟩⟩
  · rw [ha] at h0; cases h0
  · omega
  · rw [ha] at h0; injection h0 with h0; injection h0 with h0 _ _; subst h0; exact ⟨b, hb⟩
theorem l_p {v : Value} (hw : wantedE all n o env = true) (hd : dsto o = some d) (ho : aop P o (actOf n env) σ = some (v, σ, none)) (hrb : rbE n o env = none) (h : Lin P B all W n pn rest (upd env d v) σ) : Lin P B all W n pn (o :: rest) env σ := by
  have hr := rb_none hrb
  refine .rd hw ho (fun m _ h => by rw [hr] at h; cases h) ?_
  rw [dsto_eq hd, hr]
  cases pn <;> exact h
theorem l_r {v : Value} {m : Nat} (hw : wantedE all n o env = true) (hd : dsto o = some d) (ho : aop P o (actOf n env) σ = some (v, σ, none)) (hrb : rbName o (actOf n env) = some m) (hal : ∃ b, σ.get m = some b) (h : Lin P B all W n (pnAdd pn (some m)) rest (upd env d v) σ) : Lin P B all W n pn (o :: rest) env σ := by
  refine .rd hw ho (fun k _ h => by rw [hrb] at h; injection h with h; subst h; exact hal) ?_
  rw [dsto_eq hd, hrb]
  exact h
theorem l_w {v : Value} {σ' : AState} {wn : Option Nat} {E : Nat → Prop} {L2 : List Fact} (hw : wantedE all n o env = true) (hd : dsto o = some d) (ho : aop P o (actOf n env) σ = some (v, σ', wn)) (hrb : rbE n o env = none) (hE : ∀ m, wn = some m → E m) (hD : ∀ m, E m → B.D m) (G : Facts E σ σ' L2) (hp : PnA pn E σ) (h : Lin P B all W n pn rest (upd env d v) σ') : Lin P B all W n pn (o :: rest) env σ := by
  refine .wr hw ho (rb_none hrb) (fun m hm => hD m (hE m hm)) (fun m hm => ?_) (by rw [dsto_eq hd]; exact h)
  obtain ⟨h1, h2, h3⟩ := hp m hm
  exact ⟨fun e => h1 (hE m e), by rw [G.eq m h2 h1]; exact h3⟩
theorem l_op (k : Nat) {v u : Value} (hk : opk o = k) (hw : wantedE all n o env = true) (ho : bop P n o env σ = some (v, σ, none)) (hu : v = u) (hd : dsto o = some d) (h : Lin P B all W n pn rest (upd env d u) σ) (hrb : rbE n o env = none := by rfl) : Lin P B all W n pn (o :: rest) env σ :=
  l_p hw hd (bop_sound (by rw [ho, hu])) hrb h
theorem l_s (hw : wantedE all n o env = false) (hd : dsto o = some d) (h : Lin P B all W n pn rest (upd env d undef) σ) : Lin P B all W n pn (o :: rest) env σ := .skip hw (by rw [dsto_eq hd]; exact h)
/-- A test's answer, which is not looked into. -/
@[irreducible] def irr (b : Bool) : Bool := b
theorem irr_eq (b : Bool) : irr b = b := by unfold irr; rfl
theorem l_cmp {b : Bool} (hk : opk o = 17) (hw : wantedE all n o env = true) (ho : bop P n o env σ = some (.bool b, σ, none)) (hd : dsto o = some d) (h : Lin P B all W n pn rest (upd env d (.bool (irr b))) σ) (hrb : rbE n o env = none := by rfl) : Lin P B all W n pn (o :: rest) env σ :=
  l_op 17 hk hw ho (by rw [irr_eq]) hd h hrb
theorem wrapu64 {x : Int} (h0 : 0 ≤ x) (h1 : x ≤ 18446744073709551615) : IntKind.u64.wrap x = x := by
  simp only [IntKind.wrap, IntKind.bits, IntKind.signed]
  simp
  omega
theorem l_a64 {z : Int} (hk : opk o = 1) (hw : wantedE all n o env = true) (ho : bop P n o env σ = some (.int .i64 (IntKind.i64.wrap z), σ, none)) (hb : -9223372036854775808 ≤ z ∧ z ≤ 9223372036854775807) (hd : dsto o = some d) (h : Lin P B all W n pn rest (upd env d (.int .i64 z)) σ) (hrb : rbE n o env = none := by rfl) : Lin P B all W n pn (o :: rest) env σ :=
  l_op 1 hk hw ho (congrArg (Value.int .i64) (wrapi hb.1 hb.2)) hd h hrb
theorem l_a32 {z : Int} (hk : opk o = 1) (hw : wantedE all n o env = true) (ho : bop P n o env σ = some (.int .u32 (IntKind.u32.wrap z), σ, none)) (hb : 0 ≤ z ∧ z ≤ 4294967295) (hd : dsto o = some d) (h : Lin P B all W n pn rest (upd env d (.int .u32 z)) σ) (hrb : rbE n o env = none := by rfl) : Lin P B all W n pn (o :: rest) env σ :=
  l_op 1 hk hw ho (congrArg (Value.int .u32) (wrap32 hb.1 hb.2)) hd h hrb
theorem l_a8 {z : Int} (hk : opk o = 1) (hw : wantedE all n o env = true) (ho : bop P n o env σ = some (.int .u8 (IntKind.u8.wrap z), σ, none)) (hb : 0 ≤ z ∧ z ≤ 255) (hd : dsto o = some d) (h : Lin P B all W n pn rest (upd env d (.int .u8 z)) σ) (hrb : rbE n o env = none := by rfl) : Lin P B all W n pn (o :: rest) env σ :=
  l_op 1 hk hw ho (congrArg (Value.int .u8) (wrap8 hb.1 hb.2)) hd h hrb
theorem l_au64 {z : Int} (hk : opk o = 1) (hw : wantedE all n o env = true) (ho : bop P n o env σ = some (.int .u64 (IntKind.u64.wrap z), σ, none)) (hb : 0 ≤ z ∧ z ≤ 18446744073709551615) (hd : dsto o = some d) (h : Lin P B all W n pn rest (upd env d (.int .u64 z)) σ) (hrb : rbE n o env = none := by rfl) : Lin P B all W n pn (o :: rest) env σ :=
  l_op 1 hk hw ho (congrArg (Value.int .u64) (wrapu64 hb.1 hb.2)) hd h hrb
/-- A struct. -/
def bldE (P : Program) (n : Nat) (o : Oper) (env : Env) : Option (List Value) :=
  match o.op with
  | .build t ps => match okxP ps.toList with
    | true => match aBuild P t (looksP n env ps.toList) with
      | some (.agg cs) => fvs cs.toList
      | _ => none
    | false => none
  | _ => none
theorem l_bld {vs : List Value} (hk : opk o = 18) (hs : bldE P n o env = some vs) (hw : wantedE all n o env = true) (hd : dsto o = some d) (h : Lin P B all W n pn rest (upd env d (.agg vs.toArray)) σ) : Lin P B all W n pn (o :: rest) env σ := by
  refine l_p (v := .agg vs.toArray) hw hd ?_ (by unfold bldE at hs; unfold rbE; split at hs <;> first | (rename_i ho; rw [ho]) | cases hs) h
  unfold bldE at hs
  split at hs
  · rename_i t ps ho
    split at hs
    · rename_i hx
      split at hs
      · rename_i cs hb
        have := fvs_eq hs
        unfold aop
        simp only [ho, looksP_aparts hx, hb]
        rw [← this]
      · cases hs
    · cases hs
  · cases hs
/-- Numbers of another kind. -/
theorem l_c64 {z : Int} (hk : opk o = 16) (hw : wantedE all n o env = true) (ho : bop P n o env σ = some (.int .i64 (IntKind.i64.wrap z), σ, none)) (hb : -9223372036854775808 ≤ z ∧ z ≤ 9223372036854775807) (hd : dsto o = some d) (h : Lin P B all W n pn rest (upd env d (.int .i64 z)) σ) (hrb : rbE n o env = none := by rfl) : Lin P B all W n pn (o :: rest) env σ :=
  l_op 16 hk hw ho (congrArg (Value.int .i64) (wrapi hb.1 hb.2)) hd h hrb
theorem l_c32 {z : Int} (hk : opk o = 16) (hw : wantedE all n o env = true) (ho : bop P n o env σ = some (.int .u32 (IntKind.u32.wrap z), σ, none)) (hb : 0 ≤ z ∧ z ≤ 4294967295) (hd : dsto o = some d) (h : Lin P B all W n pn rest (upd env d (.int .u32 z)) σ) (hrb : rbE n o env = none := by rfl) : Lin P B all W n pn (o :: rest) env σ :=
  l_op 16 hk hw ho (congrArg (Value.int .u32) (wrap32 hb.1 hb.2)) hd h hrb
theorem l_c8 {z : Int} (hk : opk o = 16) (hw : wantedE all n o env = true) (ho : bop P n o env σ = some (.int .u8 (IntKind.u8.wrap z), σ, none)) (hb : 0 ≤ z ∧ z ≤ 255) (hd : dsto o = some d) (h : Lin P B all W n pn rest (upd env d (.int .u8 z)) σ) (hrb : rbE n o env = none := by rfl) : Lin P B all W n pn (o :: rest) env σ :=
  l_op 16 hk hw ho (congrArg (Value.int .u8) (wrap8 hb.1 hb.2)) hd h hrb
theorem l_cu64 {z : Int} (hk : opk o = 16) (hw : wantedE all n o env = true) (ho : bop P n o env σ = some (.int .u64 (IntKind.u64.wrap z), σ, none)) (hb : 0 ≤ z ∧ z ≤ 18446744073709551615) (hd : dsto o = some d) (h : Lin P B all W n pn rest (upd env d (.int .u64 z)) σ) (hrb : rbE n o env = none := by rfl) : Lin P B all W n pn (o :: rest) env σ :=
  l_op 16 hk hw ho (congrArg (Value.int .u64) (wrapu64 hb.1 hb.2)) hd h hrb
/-- A division, a rest. -/
theorem l_quo {x y : Operand} {k : IntKind} {p q : Int} (hk : opk o = 3) (hw : wantedE all n o env = true) (hs : dvE o = some (.quo, x, y)) (h1 : look n env x = .int k p) (h2 : look n env y = .int k q) (hq : q ≠ 0) (hd : dsto o = some d) (h : Lin P B all W n pn rest (upd env d (.int k (k.wrap (p.tdiv q)))) σ) : Lin P B all W n pn (o :: rest) env σ :=
  by
    unfold dvE at hs
    split at hs
    · rename_i op' t x' y' yt ho
      split at hs
      · rename_i k1 k2
        injection hs with hs
        injection hs with a1 hs
        injection hs with a2 a3
        subst a1; subst a2; subst a3
        exact l_p hw hd (dv_eq ho k1 k2 h1 h2 hq (.inl ⟨rfl, rfl⟩)) (by unfold rbE; rw [ho]) h
      · cases hs
    · cases hs
theorem l_rem {x y : Operand} {k : IntKind} {p q : Int} (hk : opk o = 3) (hw : wantedE all n o env = true) (hs : dvE o = some (.rem, x, y)) (h1 : look n env x = .int k p) (h2 : look n env y = .int k q) (hq : q ≠ 0) (hd : dsto o = some d) (h : Lin P B all W n pn rest (upd env d (.int k (p.tmod q))) σ) : Lin P B all W n pn (o :: rest) env σ :=
  by
    unfold dvE at hs
    split at hs
    · rename_i op' t x' y' yt ho
      split at hs
      · rename_i k1 k2
        injection hs with hs
        injection hs with a1 hs
        injection hs with a2 a3
        subst a1; subst a2; subst a3
        exact l_p hw hd (dv_eq ho k1 k2 h1 h2 hq (.inr ⟨rfl, rfl⟩)) (by unfold rbE; rw [ho]) h
      · cases hs
    · cases hs
theorem l_quon {x y : Operand} {p q : Int} (hk : opk o = 3) (hw : wantedE all n o env = true) (hs : dvE o = some (.quo, x, y)) (h1 : look n env x = .int .i64 p) (h2 : look n env y = .int .i64 q) (hb : 0 ≤ p ∧ p ≤ 9223372036854775807 ∧ 0 < q) (hd : dsto o = some d) (h : Lin P B all W n pn rest (upd env d (.int .i64 (p / q))) σ) : Lin P B all W n pn (o :: rest) env σ := by
  refine l_quo hk hw hs h1 h2 (by omega) hd ?_
  have e : IntKind.i64.wrap (p.tdiv q) = p / q := by
    rw [Int.tdiv_eq_ediv_of_nonneg hb.1]
    have h3 : 0 ≤ p / q := Int.ediv_nonneg hb.1 (by omega)
    have h4 : p / q ≤ p := Int.ediv_le_self _ hb.1
    exact wrapi (by omega) (by omega)
  rw [e]; exact h
theorem l_quou64 {x y : Operand} {p q : Int} (hk : opk o = 3) (hw : wantedE all n o env = true) (hs : dvE o = some (.quo, x, y)) (h1 : look n env x = .int .u64 p) (h2 : look n env y = .int .u64 q) (hb : 0 ≤ p ∧ p ≤ 18446744073709551615 ∧ 0 < q) (hd : dsto o = some d) (h : Lin P B all W n pn rest (upd env d (.int .u64 (p / q))) σ) : Lin P B all W n pn (o :: rest) env σ := by
  refine l_quo hk hw hs h1 h2 (by omega) hd ?_
  have e : IntKind.u64.wrap (p.tdiv q) = p / q := by
    rw [Int.tdiv_eq_ediv_of_nonneg hb.1]
    have h3 : 0 ≤ p / q := Int.ediv_nonneg hb.1 (by omega)
    have h4 : p / q ≤ p := Int.ediv_le_self _ hb.1
    exact wrapu64 (by omega) (by omega)
  rw [e]; exact h
theorem l_quou32 {x y : Operand} {p q : Int} (hk : opk o = 3) (hw : wantedE all n o env = true) (hs : dvE o = some (.quo, x, y)) (h1 : look n env x = .int .u32 p) (h2 : look n env y = .int .u32 q) (hb : 0 ≤ p ∧ p ≤ 4294967295 ∧ 0 < q) (hd : dsto o = some d) (h : Lin P B all W n pn rest (upd env d (.int .u32 (p / q))) σ) : Lin P B all W n pn (o :: rest) env σ := by
  refine l_quo hk hw hs h1 h2 (by omega) hd ?_
  have e : IntKind.u32.wrap (p.tdiv q) = p / q := by
    rw [Int.tdiv_eq_ediv_of_nonneg hb.1]
    have h3 : 0 ≤ p / q := Int.ediv_nonneg hb.1 (by omega)
    have h4 : p / q ≤ p := Int.ediv_le_self _ hb.1
    exact wrap32 (by omega) (by omega)
  rw [e]; exact h
theorem l_remn {x y : Operand} {k : IntKind} {p q : Int} (hk : opk o = 3) (hw : wantedE all n o env = true) (hs : dvE o = some (.rem, x, y)) (h1 : look n env x = .int k p) (h2 : look n env y = .int k q) (hb : 0 ≤ p ∧ 0 < q) (hd : dsto o = some d) (h : Lin P B all W n pn rest (upd env d (.int k (p % q))) σ) : Lin P B all W n pn (o :: rest) env σ :=
  l_rem hk hw hs h1 h2 (by omega) hd (by rw [Int.tmod_eq_emod_of_nonneg hb.1]; exact h)
/-- A test that a guard hangs on. -/
theorem l_guard {b want : Bool} {j t : Nat} (hg : o.guard = some (j, want)) (ht : (all[j]?).bind (·.dst) = some t) (hl : look n env (.tmp t) = .bool b)
    (h1 : b = true → Lin P B all W n pn (o :: rest) (upd env (some t) (.bool true)) σ) (h0 : b = false → Lin P B all W n pn (o :: rest) (upd env (some t) (.bool false)) σ) : Lin P B all W n pn (o :: rest) env σ := by
  have he : env t = .bool b := by
    have hl' : (bif Nat.blt t n then env t else undef) = .bool b := hl
    cases hb : Nat.blt t n with
    | true => rw [hb] at hl'; exact hl'
    | false => rw [hb] at hl'; cases hl'
  cases b with
  | true => have := h1 rfl; rwa [upd_self he] at this
  | false => have := h0 rfl; rwa [upd_self he] at this

/-- A place from which some cells are seen. -/
def AtR (σ : AState) (m b : Nat) (ws : List Value) : Prop := ∀ j k, j + k ≤ ws.length → rd σ m (b + j) k = some ((ws.drop j).take k)
theorem has_at {es len cap : Nat} {a : Option Addr} {i : Int} {vs : List Value} (hH : Has σ a len cap es vs) (h0 : 0 ≤ i) (h1 : i < len) : ∃ m ofs e, a = some ⟨m, ofs, e⟩ ∧ AtR σ m (ofs + i.toNat * es) ((vs.drop (i.toNat * es)).take es) := by
  obtain ⟨m, ofs, e, rfl, hr⟩ := hH.rd (by omega)
  refine ⟨m, ofs, e, rfl, fun j k hjk => ?_⟩
  have hb : i.toNat * es + es ≤ len * es := by
    have := Nat.mul_le_mul_right es (show i.toNat + 1 ≤ len by omega)
    rw [Nat.add_mul, Nat.one_mul] at this; exact this
  have hl := hH.size
  have hws : ((vs.drop (i.toNat * es)).take es).length = es := by simp; omega
  rw [hws] at hjk
  rw [show ofs + i.toNat * es + j = ofs + (i.toNat * es + j) by omega, hr _ _ (by omega)]
  rw [List.drop_take, List.take_take, List.drop_drop]
  congr 2; omega
theorem ix_rb {x ix : Operand} {es : Nat} (hs : ixE P o = some (x, ix, es)) : rbE n o env = none := by
  unfold ixE at hs
  unfold rbE
  split at hs <;> first | (rename_i ho; rw [ho]) | cases hs
theorem l_ix {x ix : Operand} {es len cap : Nat} {a : Option Addr} {ik : IntKind} {i : Int} {vs : List Value} (hk : opk o = 4) (hs : ixE P o = some (x, ix, es)) (hw : wantedE all n o env = true) (hd : dsto o = some d) (hx : look n env x = .slice a len cap) (hi : look n env ix = .int ik i) (hH : Has σ a len cap es vs) (hb : 0 ≤ i ∧ i < len)
    (h : ∀ m b, AtR σ m b ((vs.drop (i.toNat * es)).take es) → Lin P B all W n pn rest (upd env d (.pointer (some ⟨m, b, none⟩))) σ) : Lin P B all W n pn (o :: rest) env σ := by
  obtain ⟨m, ofs, e, rfl, hA⟩ := has_at hH hb.1 hb.2
  exact l_p hw hd (ixE_sound hs hx hi hb.1 hb.2) (ix_rb hs) (h m _ hA)
theorem int_at {k : IntKind} {zs : List Int} {i : Nat} (h : i < zs.length) : ((zs.map (Value.int k)).drop (i * 1)).take 1 = [.int k (zs.getD i 0)] := by
  rw [Nat.mul_one, List.drop_eq_getElem_cons (by simpa using h)]
  simp [List.getD, h]
theorem l_ixi {x ix : Operand} {len cap : Nat} {a : Option Addr} {ik k : IntKind} {i : Int} {zs : List Int} (hk : opk o = 4) (hs : ixE P o = some (x, ix, 1)) (hw : wantedE all n o env = true) (hd : dsto o = some d) (hx : look n env x = .slice a len cap) (hi : look n env ix = .int ik i) (hH : Has σ a len cap 1 (zs.map (.int k))) (hb : 0 ≤ i ∧ i < len)
    (h : ∀ m b, AtR σ m b [.int k (zs.getD i.toNat 0)] → Lin P B all W n pn rest (upd env d (.pointer (some ⟨m, b, none⟩))) σ) : Lin P B all W n pn (o :: rest) env σ :=
  l_ix hk hs hw hd hx hi hH hb fun m b hA => h m b (by
    have hl := hH.size
    rw [List.length_map, Nat.mul_one] at hl
    rwa [int_at (by omega)] at hA)
/-- Rows of things of a kind, each by its cells. -/
def rows {α : Type} (e : α → List Value) (xs : List α) : List Value := xs.flatMap e
theorem rows_length {α : Type} {e : α → List Value} {es : Nat} (he : ∀ x, (e x).length = es) : ∀ xs : List α, (rows e xs).length = xs.length * es
  | [] => by simp [rows]
  | x :: xs => by
    have := rows_length he xs
    unfold rows at *
    rw [List.flatMap_cons, List.length_append, he, this, List.length_cons, Nat.succ_mul]; omega
theorem rows_append {α : Type} (e : α → List Value) (xs ys : List α) : rows e (xs ++ ys) = rows e xs ++ rows e ys := by simp [rows]
theorem rows_drop {α : Type} {e : α → List Value} {es : Nat} (he : ∀ x, (e x).length = es) : ∀ (xs : List α) (i : Nat), (rows e xs).drop (i * es) = rows e (xs.drop i)
  | xs, 0 => by simp
  | [], i + 1 => by simp [rows]
  | x :: xs, i + 1 => by
    have := rows_drop he xs i
    unfold rows at *
    rw [List.flatMap_cons, List.drop_succ_cons, ← this, Nat.succ_mul, Nat.add_comm, ← List.drop_drop, List.drop_append_of_le_length (by rw [he]; exact Nat.le_refl _), List.drop_eq_nil_of_le (as := e x) (by rw [he]; exact Nat.le_refl _), List.nil_append]
theorem rows_take {α : Type} {e : α → List Value} {es : Nat} (he : ∀ x, (e x).length = es) : ∀ (xs : List α) (i : Nat), (rows e xs).take (i * es) = rows e (xs.take i)
  | xs, 0 => by simp [rows]
  | [], i + 1 => by simp [rows]
  | x :: xs, i + 1 => by
    have := rows_take he xs i
    unfold rows at *
    rw [List.flatMap_cons, List.take_succ_cons, List.flatMap_cons, ← this, Nat.succ_mul, Nat.add_comm, List.take_append, he, List.take_of_length_le (by rw [he]; omega), Nat.add_sub_cancel_left]
theorem rows_at {α : Type} [Inhabited α] {e : α → List Value} {es : Nat} (he : ∀ x, (e x).length = es) {xs : List α} {i : Nat} (h : i < xs.length) : ((rows e xs).drop (i * es)).take es = e (xs.getD i default) := by
  rw [rows_drop he, List.drop_eq_getElem_cons h]
  unfold rows
  rw [List.flatMap_cons, List.take_append_of_le_length (by rw [he]; exact Nat.le_refl _), List.take_of_length_le (by rw [he]; exact Nat.le_refl _)]
  simp [List.getD, h]
theorem Has.len {σ : AState} {a : Option Addr} {l c es : Nat} {α : Type} {e : α → List Value} {xs : List α} (h : Has σ a l c es (rows e xs)) (he : ∀ x, (e x).length = es) (hp : 0 < es) : xs.length = l := by
  have := h.size
  rw [rows_length he] at this
  exact Nat.eq_of_mul_eq_mul_right hp this
theorem l_ixr {α : Type} [Inhabited α] {e : α → List Value} {x ix : Operand} {es len cap : Nat} {a : Option Addr} {ik : IntKind} {i : Int} {xs : List α} (hk : opk o = 4) (hs : ixE P o = some (x, ix, es)) (hw : wantedE all n o env = true) (hd : dsto o = some d) (hx : look n env x = .slice a len cap) (hi : look n env ix = .int ik i) (hH : Has σ a len cap es (rows e xs)) (he : (∀ x, (e x).length = es) ∧ 0 < es) (hb : 0 ≤ i ∧ i < len)
    (h : ∀ m b, AtR σ m b (e (xs.getD i.toNat default)) → Lin P B all W n pn rest (upd env d (.pointer (some ⟨m, b, none⟩))) σ) : Lin P B all W n pn (o :: rest) env σ :=
  l_ix hk hs hw hd hx hi hH hb fun m b hA => h m b (by
    have := hH.len he.1 he.2
    rwa [rows_at he.1 (by omega)] at hA)

section facts
variable {O : Nat → Prop} {σ0 : AState} {L : List Fact}

/-- .. of a row of one's own. -/
theorem l_ixo {x ix : Operand} {es len cap : Nat} {a : Option Addr} {ik : IntKind} {i : Int} {vs : List Value} (F : Facts O σ0 σ L) (k : Nat) (hL : L[k]? = some (own a len cap es vs)) (hk : opk o = 4) (hs : ixE P o = some (x, ix, es)) (hw : wantedE all n o env = true) (hd : dsto o = some d) (hx : look n env x = .slice a len cap) (hi : look n env ix = .int ik i) (hb : 0 ≤ i ∧ i < len)
    (h : ∀ m e, a = some ⟨m, 0, e⟩ → AtR σ m (i.toNat * es) ((vs.drop (i.toNat * es)).take es) → Lin P B all W n pn rest (upd env d (.pointer (some ⟨m, i.toNat * es, none⟩))) σ) : Lin P B all W n pn (o :: rest) env σ := by
  have hO : Own 0 σ a len cap es vs := F.ho _ (List.mem_of_getElem? hL)
  obtain ⟨m, ofs, e, ha, hA⟩ := has_at hO.has hb.1 hb.2
  have hofs : ofs = 0 := by
    rcases hO with ⟨_, ⟨h, _⟩ | ⟨m', e', cs, h, _⟩⟩
    · rw [ha] at h; cases h
    · rw [ha] at h; injection h with h; injection h
  subst hofs
  rw [Nat.zero_add] at hA
  refine l_p hw hd (ixE_sound hs (hx.trans (by rw [ha])) hi hb.1 hb.2) (ix_rb hs) ?_
  rw [Nat.zero_add]
  exact h m e ha hA
theorem l_ixoi {x ix : Operand} {len cap : Nat} {a : Option Addr} {ik kk : IntKind} {i : Int} {zs : List Int} (F : Facts O σ0 σ L) (k : Nat) (hL : L[k]? = some (own a len cap 1 (zs.map (.int kk)))) (hk : opk o = 4) (hs : ixE P o = some (x, ix, 1)) (hw : wantedE all n o env = true) (hd : dsto o = some d) (hx : look n env x = .slice a len cap) (hi : look n env ix = .int ik i) (hb : 0 ≤ i ∧ i < len)
    (h : ∀ m e, a = some ⟨m, 0, e⟩ → AtR σ m i.toNat [.int kk (zs.getD i.toNat 0)] → Lin P B all W n pn rest (upd env d (.pointer (some ⟨m, i.toNat, none⟩))) σ) : Lin P B all W n pn (o :: rest) env σ :=
  l_ixo F k hL hk hs hw hd hx hi hb fun m e ha hA => by
    have hl := (F.has k hL).size
    rw [List.length_map, Nat.mul_one] at hl
    rw [int_at (by omega)] at hA
    simp only [Nat.mul_one] at hA ⊢
    exact h m e ha hA

/-- .. of a row that was there before: nothing that is written here touches it. -/
theorem l_ixs {x ix : Operand} {len cap : Nat} {a : Option Addr} {ik kk : IntKind} {i : Int} {zs : List Int} (F : Facts O σ0 σ L) (hO : Old O σ0 a len cap 1 (zs.map (.int kk))) (hk : opk o = 4) (hs : ixE P o = some (x, ix, 1)) (hw : wantedE all n o env = true) (hd : dsto o = some d) (hx : look n env x = .slice a len cap) (hi : look n env ix = .int ik i) (hb : 0 ≤ i ∧ i < len)
    (h : ∀ m b, AtR σ m b [.int kk (zs.getD i.toNat 0)] → Sf O σ0 m → Lin P B all W n pn rest (upd env d (.pointer (some ⟨m, b, none⟩))) σ) : Lin P B all W n pn (o :: rest) env σ := by
  obtain ⟨m, ofs, e, ha, hA⟩ := has_at (F.old hO) hb.1 hb.2
  have hS := hO.sf ha (by omega)
  have hl := (F.old hO).size
  rw [List.length_map, Nat.mul_one] at hl
  rw [int_at (by omega)] at hA
  refine l_p hw hd (ixE_sound hs (hx.trans (by rw [ha])) hi hb.1 hb.2) (ix_rb hs) (h m _ hA hS)
theorem l_ixrs {α : Type} [Inhabited α] {e : α → List Value} {x ix : Operand} {es len cap : Nat} {a : Option Addr} {ik : IntKind} {i : Int} {xs : List α} (F : Facts O σ0 σ L) (hO : Old O σ0 a len cap es (rows e xs)) (he : (∀ x, (e x).length = es) ∧ 0 < es) (hk : opk o = 4) (hs : ixE P o = some (x, ix, es)) (hw : wantedE all n o env = true) (hd : dsto o = some d) (hx : look n env x = .slice a len cap) (hi : look n env ix = .int ik i) (hb : 0 ≤ i ∧ i < len)
    (h : ∀ m b, AtR σ m b (e (xs.getD i.toNat default)) → Sf O σ0 m → Lin P B all W n pn rest (upd env d (.pointer (some ⟨m, b, none⟩))) σ) : Lin P B all W n pn (o :: rest) env σ := by
  obtain ⟨m, ofs, e', ha, hA⟩ := has_at (F.old hO) hb.1 hb.2
  have hS := hO.sf ha (by omega)
  have := (F.old hO).len he.1 he.2
  rw [rows_at he.1 (by omega)] at hA
  refine l_p hw hd (ixE_sound hs (hx.trans (by rw [ha])) hi hb.1 hb.2) (ix_rb hs) (h m _ hA hS)

/-! ### Loads -/
theorem ld1_eq {x : Operand} {m b : Nat} {v : Value} (hs : ldE P o = some (x, none)) (hx : look n env x = .pointer (some ⟨m, b, none⟩)) (hA : rd σ m b 1 = some [v]) : aop P o (actOf n env) σ = some (v, σ, none) :=
  ld_eq hs hx ⟨m, b, rfl, hA⟩
theorem ldk_eq {x : Operand} {m b k : Nat} {vs : List Value} (hs : ldE P o = some (x, some k)) (hx : look n env x = .pointer (some ⟨m, b, none⟩)) (hA : rd σ m b k = some vs) : aop P o (actOf n env) σ = some (.agg vs.toArray, σ, none) := by
  unfold ldE at hs
  split at hs
  · rename_i t x' ho
    split at hs
    · rename_i dd h1 hu
      split at hs
      · rename_i ha
        cases hk : tsz P t with
        | none => rw [hk] at hs; cases hs
        | some k' =>
          rw [hk] at hs
          injection hs with hs
          injection hs with e1 e2
          injection e2 with e2
          subst e1; subst e2
          unfold aop aLoad
          simp only [ho, look_aval h1, hx, hu, ha, if_true, hk, hA, Option.map_some]
      · simp at hs
    · cases hs
  · cases hs
theorem ld_rb {x : Operand} {m b : Nat} {k : Option Nat} (hs : ldE P o = some (x, k)) (hx : look n env x = .pointer (some ⟨m, b, none⟩)) : rbName o (actOf n env) = some m := by
  unfold ldE at hs
  split at hs
  · rename_i t x' ho
    split at hs
    · rename_i dd h1 hu
      have hxx : x' = x := by
        split at hs
        · cases hk : tsz P t <;> rw [hk] at hs <;> simp at hs; exact hs.1
        · injection hs with hs; injection hs
      subst hxx
      unfold rbName
      simp only [ho, look_aval h1, hx]
      rfl
    · cases hs
  · cases hs
theorem rd_alive {σ : AState} {m b k : Nat} {vs : List Value} (h : rd σ m b k = some vs) : ∃ c, σ.get m = some c := by
  unfold rd at h
  split at h
  · rename_i c hc; exact ⟨c, hc⟩
  · cases h
theorem l_ld1 {x : Operand} {m b : Nat} {v : Value} (hs : ldE P o = some (x, none)) (hw : wantedE all n o env = true) (hd : dsto o = some d) (hx : look n env x = .pointer (some ⟨m, b, none⟩)) (hA : rd σ m b 1 = some [v]) (h : Lin P B all W n (pnAdd pn (some m)) rest (upd env d v) σ) : Lin P B all W n pn (o :: rest) env σ :=
  l_r hw hd (ld1_eq hs hx hA) (ld_rb hs hx) (rd_alive hA) h
theorem l_ldk {x : Operand} {m b k : Nat} {vs : List Value} (hs : ldE P o = some (x, some k)) (hw : wantedE all n o env = true) (hd : dsto o = some d) (hx : look n env x = .pointer (some ⟨m, b, none⟩)) (hA : rd σ m b k = some vs) (h : Lin P B all W n (pnAdd pn (some m)) rest (upd env d (.agg vs.toArray)) σ) : Lin P B all W n pn (o :: rest) env σ :=
  l_r hw hd (ldk_eq hs hx hA) (ld_rb hs hx) (rd_alive hA) h
theorem l_ld0 {x : Operand} {m b : Nat} {v : Value} {ws : List Value} (hk : opk o = 5) (hs : ldE P o = some (x, none)) (hw : wantedE all n o env = true) (hd : dsto o = some d) (hx : look n env x = .pointer (some ⟨m, b, none⟩)) (hA : AtR σ m b (v :: ws)) (h : Lin P B all W n (pnAdd pn (some m)) rest (upd env d v) σ) : Lin P B all W n pn (o :: rest) env σ :=
  l_ld1 hs hw hd hx (by have := hA 0 1 (by simp); simpa using this) h
theorem l_ldj {x : Operand} {m b b' j : Nat} {v : Value} {ws : List Value} (hk : opk o = 5) (hs : ldE P o = some (x, none)) (hw : wantedE all n o env = true) (hd : dsto o = some d) (hx : look n env x = .pointer (some ⟨m, b', none⟩)) (hj : b' = b + j) (hA : AtR σ m b ws) (hv : ws[j]? = some v) (h : Lin P B all W n (pnAdd pn (some m)) rest (upd env d v) σ) : Lin P B all W n pn (o :: rest) env σ := by
  subst hj
  obtain ⟨hjl, hjv⟩ := List.getElem?_eq_some_iff.1 hv
  refine l_ld1 hs hw hd hx ?_ h
  rw [hA j 1 (by omega), List.drop_eq_getElem_cons hjl, hjv]
  rfl
theorem l_lda {x : Operand} {m b : Nat} {ws : List Value} (hk : opk o = 5) (hs : ldE P o = some (x, some ws.length)) (hw : wantedE all n o env = true) (hd : dsto o = some d) (hx : look n env x = .pointer (some ⟨m, b, none⟩)) (hA : AtR σ m b ws) (h : Lin P B all W n (pnAdd pn (some m)) rest (upd env d (.agg ws.toArray)) σ) : Lin P B all W n pn (o :: rest) env σ :=
  l_ldk hs hw hd hx (by have := hA 0 ws.length (by simp); simpa using this) h
theorem l_ldc {x : Operand} {m j : Nat} {v : Value} {vs : List Value} (F : Facts O σ0 σ L) (k : Nat) (hk : opk o = 5) (hs : ldE P o = some (x, none)) (hw : wantedE all n o env = true) (hd : dsto o = some d) (hx : look n env x = .pointer (some ⟨m, j, none⟩)) (hL : L[k]? = some (cel m vs)) (hv : vs[j]? = some v) (h : Lin P B all W n (pnAdd pn (some m)) rest (upd env d v) σ) : Lin P B all W n pn (o :: rest) env σ := by
  obtain ⟨hjl, hjv⟩ := List.getElem?_eq_some_iff.1 hv
  refine l_ld1 hs hw hd hx ?_ h
  rw [cel_rd (F.ho _ (List.mem_of_getElem? hL)) (by omega), List.drop_eq_getElem_cons hjl, hjv]
  rfl
theorem l_ldca {x : Operand} {m j sz : Nat} {vs : List Value} (F : Facts O σ0 σ L) (k : Nat) (hk : opk o = 5) (hs : ldE P o = some (x, some sz)) (hw : wantedE all n o env = true) (hd : dsto o = some d) (hx : look n env x = .pointer (some ⟨m, j, none⟩)) (hL : L[k]? = some (cel m vs)) (hv : Nat.ble (j + sz) vs.length = true) (h : Lin P B all W n (pnAdd pn (some m)) rest (upd env d (.agg ((vs.drop j).take sz).toArray)) σ) : Lin P B all W n pn (o :: rest) env σ :=
  l_ldk hs hw hd hx (cel_rd (F.ho _ (List.mem_of_getElem? hL)) (Nat.le_of_ble_eq_true hv)) h

/-! ### Stores -/
theorem st_eq {x y : Operand} {m j k : Nat} {v : Value} {σ' : AState} (hs : stE P o = some (x, y, k)) (hx : look n env x = .pointer (some ⟨m, j, none⟩)) (hy : look n env y = v) (hv : v.cells.size = k) (hwr : wr σ m j v.cells.toList = some σ') : aop P o (actOf n env) σ = some (undef, σ', some m) := by
  unfold stE at hs
  split at hs
  · rename_i t x' y' ho
    split at hs
    · rename_i k1 k2
      cases hk : tsz P t with
      | none => rw [hk] at hs; cases hs
      | some k' =>
        rw [hk] at hs
        injection hs with hs
        injection hs with e1 hs
        injection hs with e2 e3
        subst e1; subst e2; subst e3
        unfold aop aStore
        simp only [ho, look_aval k1, look_aval k2, hx, hy, hk, hv, if_true, hwr, Option.map_some]
    · cases hs
  · cases hs
theorem st_rb {x y : Operand} {k : Nat} (hs : stE P o = some (x, y, k)) : rbE n o env = none := by
  unfold stE at hs
  unfold rbE
  split at hs <;> first | (rename_i ho; rw [ho]) | cases hs
def onec (v : Value) : Bool :=
  match v with
  | .agg _ => false
  | _ => v.oneCell'
theorem onec_cells {v : Value} (h : onec v = true) : v.cells = #[v] ∧ v.oneCell' = true := by
  unfold onec at h
  split at h
  · cases h
  · rename_i hn
    refine ⟨?_, h⟩
    cases v <;> first | rfl | (exact (hn _ rfl).elim)
theorem splice1 {vs : List Value} {j : Nat} {v : Value} (h : j < vs.length) : splice vs j [v] = vs.set j v := by
  have := splice_cons vs j v [] (by simp; omega)
  rw [splice_nil] at this
  exact this.symm
/-- A row with one value, or some, put in: told as a row. -/
def setv : List Value → Nat → Value → Option (List Value)
  | [], _, _ => none
  | _ :: xs, 0, v => some (v :: xs)
  | x :: xs, j + 1, v => match setv xs j v with
    | some ys => some (x :: ys)
    | none => none
theorem setv_eq : ∀ {vs : List Value} {j : Nat} {v : Value} {us : List Value}, setv vs j v = some us → us = vs.set j v ∧ j < vs.length
  | [], _, _, _, h => by cases h
  | x :: xs, 0, v, us, h => by simp only [setv, Option.some.injEq] at h; subst h; simp
  | x :: xs, j + 1, v, us, h => by
    simp only [setv] at h
    split at h
    · rename_i ys hy
      injection h with h
      obtain ⟨h1, h2⟩ := setv_eq hy
      subst h; subst h1
      simp; exact h2
    · cases h
def splv : List Value → Nat → List Value → Option (List Value)
  | vs, _, [] => some vs
  | vs, j, w :: ws => match setv vs j w with
    | some us => splv us (j + 1) ws
    | none => none
theorem splv_eq : ∀ {ws : List Value} {vs : List Value} {j : Nat} {us : List Value}, splv vs j ws = some us → j + ws.length ≤ vs.length ∨ ws = [] → us = splice vs j ws
  | [], vs, j, us, h, _ => by simp only [splv, Option.some.injEq] at h; rw [splice_nil, h]
  | w :: ws, vs, j, us, h, hl => by
    simp only [splv] at h
    split at h
    · rename_i ys hy
      obtain ⟨h1, h2⟩ := setv_eq hy
      have hl' : j + (ws.length + 1) ≤ vs.length := by
        rcases hl with hl | hl
        · simpa using hl
        · cases hl
      rw [← splice_cons vs j w ws hl', ← h1]
      exact splv_eq h (.inl (by rw [h1, List.length_set]; omega))
    · cases h
theorem l_stc {x y : Operand} {m j : Nat} {v : Value} {vs us : List Value} (F : Facts O σ0 σ L) (k : Nat) (hk : opk o = 6) (hs : stE P o = some (x, y, 1)) (hw : wantedE all n o env = true) (hd : dsto o = some d) (hx : look n env x = .pointer (some ⟨m, j, none⟩)) (hy : fv (look n env y) = some v) (h1 : onec v = true) (hL : L[k]? = some (cel m vs)) (hj : setv vs j v = some us) (hD : ∀ k, O k ∨ σ0.next ≤ k → B.D k)
    (h : ∀ σ', Facts O σ0 σ' (L.set k (cel m us)) → Lin P B all W n pn rest (upd env d undef) σ') (hp : PnA pn ((cel m vs).fp) σ ∨ PnS pn O σ0 := by first | exact .inl pna_none | exact .inl pna_nil | exact .inr (by assumption) | exact .inl (by assumption)) : Lin P B all W n pn (o :: rest) env σ := by
  have hp := hp.elim id fun h => h.pna F (fun m hm => F.fo _ (List.mem_of_getElem? hL) m hm)
  obtain ⟨c1, c2⟩ := onec_cells h1
  have hm := List.mem_of_getElem? hL
  obtain ⟨rfl, hj'⟩ := setv_eq hj
  obtain ⟨σ', w1, w2⟩ := cel_wr (F.ho _ hm) (j := j) (ws := [v]) (by simp; omega) (by simp [c2])
  rw [splice1 hj'] at w2
  exact l_w hw hd (st_eq hs hx (fv_eq hy) (by rw [c1]; rfl) (by rw [c1]; exact w1)) (st_rb hs) (fun k hk => by injection hk with hk; exact hk.symm) (fun k hk => hD _ (F.fo _ hm _ hk)) w2 hp (h σ' (F.set hL w2))
theorem l_stca {x y : Operand} {m j sz : Nat} {cs : Array Value} {vs us : List Value} (F : Facts O σ0 σ L) (k : Nat) (hk : opk o = 6) (hs : stE P o = some (x, y, sz)) (hw : wantedE all n o env = true) (hd : dsto o = some d) (hx : look n env x = .pointer (some ⟨m, j, none⟩)) (hy : look n env y = .agg cs) (h1 : cs.toList.all Value.oneCell' = true) (hL : L[k]? = some (cel m vs)) (hsz : cs.size = sz) (hj : Nat.ble (j + sz) vs.length = true) (hD : ∀ k, O k ∨ σ0.next ≤ k → B.D k) (hu : splv vs j cs.toList = some us)
    (h : ∀ σ', Facts O σ0 σ' (L.set k (cel m us)) → Lin P B all W n pn rest (upd env d undef) σ') (hp : PnA pn ((cel m vs).fp) σ ∨ PnS pn O σ0 := by first | exact .inl pna_none | exact .inl pna_nil | exact .inr (by assumption) | exact .inl (by assumption)) : Lin P B all W n pn (o :: rest) env σ := by
  have hp := hp.elim id fun h => h.pna F (fun m hm => F.fo _ (List.mem_of_getElem? hL) m hm)
  have hm := List.mem_of_getElem? hL
  have hl : j + cs.toList.length ≤ vs.length := by rw [Array.length_toList, hsz]; exact Nat.le_of_ble_eq_true hj
  obtain rfl := splv_eq hu (.inl hl)
  obtain ⟨σ', w1, w2⟩ := cel_wr (F.ho _ hm) (j := j) (ws := cs.toList) hl h1
  exact l_w hw hd (st_eq hs hx hy hsz w1) (st_rb hs) (fun k hk => by injection hk with hk; exact hk.symm) (fun k hk => hD _ (F.fo _ hm _ hk)) w2 hp (h σ' (F.set hL w2))
theorem l_sto {x y : Operand} {m j len cap es : Nat} {e : Option Nat} {v : Value} {vs : List Value} (F : Facts O σ0 σ L) (k : Nat) (hk : opk o = 6) (hs : stE P o = some (x, y, 1)) (hw : wantedE all n o env = true) (hd : dsto o = some d) (hx : look n env x = .pointer (some ⟨m, j, none⟩)) (hy : look n env y = v) (h1 : onec v = true) (hL : L[k]? = some (own (some ⟨m, 0, e⟩) len cap es vs)) (hj : j < len * es) (hD : ∀ k, O k ∨ σ0.next ≤ k → B.D k)
    (h : ∀ σ', Facts O σ0 σ' (L.set k (own (some ⟨m, 0, e⟩) len cap es (vs.set j v))) → Lin P B all W n pn rest (upd env d undef) σ') (hp : PnA pn (Nm (some ⟨m, 0, e⟩)) σ ∨ PnS pn O σ0 := by first | exact .inl pna_none | exact .inl pna_nil | exact .inr (by assumption) | exact .inl (by assumption)) : Lin P B all W n pn (o :: rest) env σ := by
  have hp := hp.elim id fun h => h.pna F (fun m hm => F.fo _ (List.mem_of_getElem? hL) m hm)
  obtain ⟨c1, c2⟩ := onec_cells h1
  have hm := List.mem_of_getElem? hL
  have hO : Own 0 σ (some ⟨m, 0, e⟩) len cap es vs := F.ho _ hm
  obtain ⟨σ', w1, w2⟩ := own_wr_f hO rfl (j := j) (ws := [v]) (by simp; omega) (by simp [c2])
  rw [splice1 (by rw [hO.has.size]; exact hj)] at w2
  exact l_w hw hd (st_eq hs hx hy (by rw [c1]; rfl) (by rw [c1]; exact w1)) (st_rb hs) (fun k hk => by injection hk with hk; subst hk; exact ⟨_, _, rfl⟩) (fun k hk => hD _ (F.fo _ hm _ hk)) w2 hp (h σ' (F.set hL w2))
theorem l_stoi {x y : Operand} {m j len cap : Nat} {e : Option Nat} {kk : IntKind} {z : Int} {zs : List Int} (F : Facts O σ0 σ L) (k : Nat) (hk : opk o = 6) (hs : stE P o = some (x, y, 1)) (hw : wantedE all n o env = true) (hd : dsto o = some d) (hx : look n env x = .pointer (some ⟨m, j, none⟩)) (hy : look n env y = .int kk z) (hL : L[k]? = some (own (some ⟨m, 0, e⟩) len cap 1 (zs.map (.int kk)))) (hj : j < len) (hD : ∀ k, O k ∨ σ0.next ≤ k → B.D k)
    (h : ∀ σ', Facts O σ0 σ' (L.set k (own (some ⟨m, 0, e⟩) len cap 1 ((zs.set j z).map (.int kk)))) → Lin P B all W n pn rest (upd env d undef) σ') (hp : PnA pn (Nm (some ⟨m, 0, e⟩)) σ ∨ PnS pn O σ0 := by first | exact .inl pna_none | exact .inl pna_nil | exact .inr (by assumption) | exact .inl (by assumption)) : Lin P B all W n pn (o :: rest) env σ := by
  exact l_sto F k hk hs hw hd hx hy rfl hL (by omega) hD (fun σ' F' => h σ' (by rwa [List.map_set])) hp

/-! ### New things -/
def alE (P : Program) (o : Oper) : Option (List Value) :=
  match o.op with
  | .alloc t => match tz P t with
    | some z => match z.cells.toList.all flat, fvs z.cells.toList with
      | true, some zs => some zs
      | _, _ => none
    | none => none
  | _ => none
theorem l_al {zs : List Value} (F : Facts O σ0 σ L) (hk : opk o = 10) (hs : alE P o = some zs) (hw : wantedE all n o env = true) (hd : dsto o = some d)
    (h : ∀ m σ', Facts O σ0 σ' (L ++ [cel m zs]) → Lin P B all W n pn rest (upd env d (.pointer (some ⟨m, 0, none⟩))) σ') (hp : PnA pn (fpOf []) σ ∨ PnS pn O σ0 := by first | exact .inl pna_none | exact .inl pna_nil | exact .inr (by assumption) | exact .inl (by assumption)) : Lin P B all W n pn (o :: rest) env σ := by
  have hp := hp.elim id fun h => h.pna F (fun m ⟨f, hf, _⟩ => by cases hf)
  unfold alE at hs
  split at hs
  · rename_i t ho
    split at hs
    · rename_i z hz
      split at hs
      · rename_i zs' hf hv
        injection hs with hs
        subst hs
        have := fvs_eq hv
        refine l_w (wn := none) hw hd (v := .pointer (some ⟨σ.next, 0, none⟩)) (σ' := σ.alloc ⟨zs', 0, false⟩) ?_ (by unfold rbE; rw [ho]) nw (fun _ ⟨f, hf, _⟩ => by cases hf) cel_new hp (h _ _ (F.new cel_new))
        unfold aop aAlloc
        simp only [ho, hz, hf, if_true]
        rw [this]
      · cases hs
    · cases hs
  · cases hs
def bxE (o : Oper) : Option Operand :=
  match o.op with
  | .box _ x => match okx x with
    | true => some x
    | false => none
  | _ => none
theorem l_bx {x : Operand} {v : Value} (F : Facts O σ0 σ L) (hk : opk o = 11) (hs : bxE o = some x) (hw : wantedE all n o env = true) (hd : dsto o = some d) (hx : look n env x = v)
    (h : ∀ m σ', Facts O σ0 σ' (L ++ [cel m v.cells.toList]) → Lin P B all W n pn rest (upd env d (.pointer (some ⟨m, 0, none⟩))) σ') (hp : PnA pn (fpOf []) σ ∨ PnS pn O σ0 := by first | exact .inl pna_none | exact .inl pna_nil | exact .inr (by assumption) | exact .inl (by assumption)) : Lin P B all W n pn (o :: rest) env σ := by
  have hp := hp.elim id fun h => h.pna F (fun m ⟨f, hf, _⟩ => by cases hf)
  unfold bxE at hs
  split at hs
  · rename_i t x' ho
    split at hs
    · rename_i hx'
      injection hs with hs
      subst hs
      refine l_w (wn := none) hw hd (v := .pointer (some ⟨σ.next, 0, none⟩)) (σ' := σ.alloc ⟨v.cells.toList, 0, false⟩) ?_ (by unfold rbE; rw [ho]) nw (fun _ ⟨f, hf, _⟩ => by cases hf) cel_new hp (h _ _ (F.new cel_new))
      unfold aop
      simp only [ho, look_aval hx', hx, aBox]
    · cases hs
  · cases hs
theorem l_lit {len k : Nat} {vs : List Value} (F : Facts O σ0 σ L) (hk : opk o = 7) (hl : litE P n o env = some (len, k, vs)) (hw : wantedE all n o env = true) (hd : dsto o = some d)
    (h : ∀ m σ', Facts O σ0 σ' (L ++ [own (some ⟨m, 0, some 0⟩) len len k vs]) → Lin P B all W n pn rest (upd env d (.slice (some ⟨m, 0, some 0⟩) len len)) σ') (hp : PnA pn (fpOf []) σ ∨ PnS pn O σ0 := by first | exact .inl pna_none | exact .inl pna_nil | exact .inr (by assumption) | exact .inl (by assumption)) : Lin P B all W n pn (o :: rest) env σ := by
  have hp := hp.elim id fun h => h.pna F (fun m ⟨f, hf, _⟩ => by cases hf)
  obtain ⟨h1, h2⟩ := litE_sound hl σ
  have G := own_new (σ := σ) (E := fpOf []) (len := len) (cap := len) (some 0) (.inr rfl) h2 (Nat.le_refl _)
  rw [List.take_of_length_le (by omega)] at G
  refine l_w hw hd h1 ?_ nw (fun _ ⟨f, hf, _⟩ => by cases hf) G hp (h _ _ (F.new G))
  unfold litE at hl
  unfold rbE
  split at hl <;> first | (rename_i ho; rw [ho]) | cases hl
theorem zrow_take {zs : List Value} {k : Nat} (hz : zs.length = k) {a b : Nat} (h : a ≤ b) : (zrow zs b).take (a * k) = zrow zs a := by
  apply List.ext_getElem?
  intro i
  rw [List.getElem?_take]
  split
  · rename_i hi
    rw [zrow_get _ _ _ (by rw [hz]; have := Nat.mul_le_mul_right k h; omega), zrow_get _ _ _ (by rw [hz]; exact hi)]
  · rename_i hi
    rw [List.getElem?_eq_none]
    rw [zrow_length, hz]; omega
theorem l_mk {l c : Operand} {k b : Nat} {zs : List Value} {lk ck : IntKind} {ln cn : Int} (F : Facts O σ0 σ L) (hk : opk o = 8) (hs : mkE P o = some (l, c, k, b, zs)) (hw : wantedE all n o env = true) (hd : dsto o = some d) (hl : look n env l = .int lk ln) (hc : look n env c = .int ck cn) (hby : Nat.ble b 1024 = true) (hb : 0 ≤ ln ∧ ln ≤ cn ∧ cn ≤ 137438953472)
    (h : ∀ m σ', Facts O σ0 σ' (L ++ [own (some ⟨m, 0, some 0⟩) ln.toNat cn.toNat k (zrow zs ln.toNat)]) → Lin P B all W n pn rest (upd env d (.slice (some ⟨m, 0, some 0⟩) ln.toNat cn.toNat)) σ') (hp : PnA pn (fpOf []) σ ∨ PnS pn O σ0 := by first | exact .inl pna_none | exact .inl pna_nil | exact .inr (by assumption) | exact .inl (by assumption)) : Lin P B all W n pn (o :: rest) env σ := by
  have hp := hp.elim id fun h => h.pna F (fun m ⟨f, hf, _⟩ => by cases hf)
  obtain ⟨h0, h1, h2'⟩ := hb
  have h2 : cn ≤ 9223372036854775807 := by omega
  have h3 : (b : Int) * cn ≤ 281474976710656 := by
    have := (bd_mul hby (show cn.toNat ≤ 137438953472 by omega)).1
    have e : (b : Int) * cn = ((cn.toNat * b : Nat) : Int) := by rw [Int.natCast_mul, Int.toNat_of_nonneg (by omega), Int.mul_comm]
    omega
  unfold mkE at hs
  split at hs
  · rename_i t l' c' ho
    split at hs
    · rename_i elem k1 k2 hu
      split at hs
      · rename_i k' z b' t1 t2 t3
        split at hs
        · rename_i zs' z1 z2 z3
          injection hs with hs
          injection hs with e1 hs
          injection hs with e2 hs
          injection hs with e3 hs
          injection hs with e4 e5
          subst e1; subst e2; subst e3; subst e4; subst e5
          have hz := fvs_eq z3
          have hsz : z.cells.size = k' := Nat.eq_of_beq_eq_true z2
          have hzl : zs'.length = k' := by rw [← hz]; simpa using hsz
          have G := own_new (σ := σ) (E := fpOf []) (len := ln.toNat) (cap := cn.toNat) (cs := zrow zs' cn.toNat) (es := k') (some 0) (.inr rfl) (by rw [zrow_length, hzl]) (by omega)
          rw [zrow_take hzl (by omega)] at G
          refine l_w (wn := none) hw hd (v := .slice (some ⟨σ.next, 0, some 0⟩) ln.toNat cn.toNat) (σ' := σ.alloc ⟨zrow zs' cn.toNat, k', false⟩) ?_ (by unfold rbE; rw [ho]) nw (fun _ ⟨f, hf, _⟩ => by cases hf) G hp (h _ _ (F.new G))
          unfold aop aMake
          simp only [ho, look_aval k1, look_aval k2, hl, hc, hu, t1, t2, t3]
          simp only [pf, flat, Bool.and_self, if_true]
          rw [if_pos ⟨h0, h1, h2, by omega, z1, hsz⟩, hz]
        · cases hs
      · cases hs
    · cases hs
  · cases hs
/-- A row that is nil. -/
theorem Facts.nilrow (F : Facts O σ0 σ L) (es : Nat) : Facts O σ0 σ (L ++ [own none 0 0 es []]) :=
  F.new (facts1 (Nat.le_refl _) (fun _ _ _ => rfl) ⟨Nat.zero_le _, .inl ⟨rfl, rfl, rfl, rfl⟩⟩ fun m hm => (nm_none hm).elim)

/-! ### Appends, copies -/
theorem app_rb {x y : Operand} {elem : TypeId} {k b : Nat} (hs : appE P o = some (x, y, elem, k, b)) : rbE n o env = none := by
  unfold appE at hs
  unfold rbE
  split at hs <;> first | (rename_i ho; rw [ho]) | cases hs
theorem l_app {x y : Operand} {elem : TypeId} {es by_ len cap m c2 : Nat} {a a2 : Option Addr} {vs ns : List Value} (F : Facts O σ0 σ L) (k : Nat) (hk : opk o = 12) (ha : appE P o = some (x, y, elem, es, by_)) (hw : wantedE all n o env = true) (hd : dsto o = some d)
    (hx : look n env x = .slice a len cap) (hL : L[k]? = some (own a len cap es vs)) (hy : look n env y = .slice a2 m c2) (hH : Has σ a2 m c2 es ns) (h1 : ns.all Value.oneCell' = true) (hby : Nat.ble by_ 1024 = true) (hbd : len + m ≤ 137438953472) (hD : ∀ k, O k ∨ σ0.next ≤ k → B.D k)
    (h : ∀ a' cap' σ', Facts O σ0 σ' (L.set k (own a' (len + m) cap' es (vs ++ ns))) → Lin P B all W n pn rest (upd env d (.slice a' (len + m) cap')) σ') (hp : PnA pn (Nm a) σ ∨ PnS pn O σ0 := by first | exact .inl pna_none | exact .inl pna_nil | exact .inr (by assumption) | exact .inl (by assumption)) : Lin P B all W n pn (o :: rest) env σ := by
  have hp := hp.elim id fun h => h.pna F (fun m hm => F.fo _ (List.mem_of_getElem? hL) m hm)
  have hm := List.mem_of_getElem? hL
  have hc := hH.cells m (Nat.le_refl _)
  rw [List.take_of_length_le (by rw [hH.size]; omega)] at hc
  obtain ⟨k1, ⟨z, k2, k3⟩, k4⟩ := appE_sound ha hx hy rfl hc
  obtain ⟨x', cap', σ', wn, j1, j2, j3⟩ := aTail_f (F.ho _ hm) k2 k3 k4 (aCells_length hc) h1 (bd_mul hby hbd)
  exact l_w hw hd (k1.trans j1) (app_rb ha) j2 (fun k hk => hD _ (F.fo _ hm _ hk)) j3 hp (h _ _ _ (F.set hL j3))
theorem ints_one {kk : IntKind} (zs : List Int) : (zs.map (Value.int kk)).all Value.oneCell' = true := by
  rw [List.all_eq_true]
  intro x hx
  obtain ⟨z, _, rfl⟩ := List.mem_map.1 hx
  rfl
theorem l_appi {kk : IntKind} {x y : Operand} {elem : TypeId} {by_ len cap m c2 : Nat} {a a2 : Option Addr} {xs ys : List Int} (F : Facts O σ0 σ L) (k : Nat) (hk : opk o = 12) (ha : appE P o = some (x, y, elem, 1, by_)) (hw : wantedE all n o env = true) (hd : dsto o = some d)
    (hx : look n env x = .slice a len cap) (hL : L[k]? = some (own a len cap 1 (xs.map (.int kk)))) (hy : look n env y = .slice a2 m c2) (hH : Has σ a2 m c2 1 (ys.map (.int kk))) (hby : Nat.ble by_ 1024 = true) (hbd : len + m ≤ 137438953472) (hD : ∀ k, O k ∨ σ0.next ≤ k → B.D k)
    (h : ∀ a' cap' σ', Facts O σ0 σ' (L.set k (own a' (len + m) cap' 1 ((xs ++ ys).map (.int kk)))) → Lin P B all W n pn rest (upd env d (.slice a' (len + m) cap')) σ') (hp : PnA pn (Nm a) σ ∨ PnS pn O σ0 := by first | exact .inl pna_none | exact .inl pna_nil | exact .inr (by assumption) | exact .inl (by assumption)) : Lin P B all W n pn (o :: rest) env σ := by
  exact l_app F k hk ha hw hd hx hL hy hH (ints_one ys) hby hbd hD (fun a' c' s' F' => h a' c' s' (by rwa [List.map_append])) hp
/-- .. of a string's bytes. -/
theorem l_apps {x y : Operand} {elem : TypeId} {by_ len cap : Nat} {a : Option Addr} {s : ByteArray} {xs : List Int} (F : Facts O σ0 σ L) (k : Nat) (hk : opk o = 12) (ha : appE P o = some (x, y, elem, 1, by_)) (hw : wantedE all n o env = true) (hd : dsto o = some d)
    (hx : look n env x = .slice a len cap) (hL : L[k]? = some (own a len cap 1 (xs.map (.int .u8)))) (hy : look n env y = .string s) (hby : Nat.ble by_ 1024 = true) (hbd : len + s.size ≤ 137438953472) (hD : ∀ k, O k ∨ σ0.next ≤ k → B.D k)
    (h : ∀ a' cap' σ', Facts O σ0 σ' (L.set k (own a' (len + s.size) cap' 1 ((xs ++ s.data.toList.map fun b => (b.toNat : Int)).map (.int .u8)))) → Lin P B all W n pn rest (upd env d (.slice a' (len + s.size) cap')) σ') (hp : PnA pn (Nm a) σ ∨ PnS pn O σ0 := by first | exact .inl pna_none | exact .inl pna_nil | exact .inr (by assumption) | exact .inl (by assumption)) : Lin P B all W n pn (o :: rest) env σ := by
  have hp := hp.elim id fun h => h.pna F (fun m hm => F.fo _ (List.mem_of_getElem? hL) m hm)
  have hm := List.mem_of_getElem? hL
  have hc : aCells σ 1 s.size (.string s) = some ((s.data.toList.map fun b => (b.toNat : Int)).map (.int .u8)) := by
    unfold aCells
    simp only
    rw [if_pos (Nat.le_refl _), if_pos trivial, List.take_of_length_le (show s.data.toList.length ≤ s.size by rw [Array.length_toList]; exact Nat.le_refl _), List.map_map]
    rfl
  obtain ⟨k1, ⟨z, k2, k3⟩, k4⟩ := appE_sound ha hx hy rfl hc
  obtain ⟨x', cap', σ', wn, j1, j2, j3⟩ := aTail_f (F.ho _ hm) k2 k3 k4 (aCells_length hc) (ints_one _) (bd_mul hby hbd)
  exact l_w hw hd (k1.trans j1) (app_rb ha) j2 (fun k hk => hD _ (F.fo _ hm _ hk)) j3 hp (h _ _ _ (by rw [List.map_append]; exact F.set hL j3))

theorem l_cp {x y : Operand} {es len cap m c2 : Nat} {a b : Option Addr} {vs ns : List Value} (F : Facts O σ0 σ L) (k : Nat) (hk : opk o = 13) (hs : cpE P o = some (x, y, es)) (hw : wantedE all n o env = true) (hd : dsto o = some d) (hx : look n env x = .slice a len cap) (hL : L[k]? = some (own a len cap es vs)) (hy : look n env y = .slice b m c2) (hH : Has σ b m c2 es ns) (h1 : ns.all Value.oneCell' = true) (hD : ∀ k, O k ∨ σ0.next ≤ k → B.D k)
    (h : ∀ σ', Facts O σ0 σ' (L.set k (own a len cap es (splice vs 0 (ns.take (min m len * es))))) → Lin P B all W n pn rest (upd env d (.int .i64 (min m len : Nat))) σ') (hp : PnA pn (Nm a) σ ∨ PnS pn O σ0 := by first | exact .inl pna_none | exact .inl pna_nil | exact .inr (by assumption) | exact .inl (by assumption)) : Lin P B all W n pn (o :: rest) env σ := by
  have hp := hp.elim id fun h => h.pna F (fun m hm => F.fo _ (List.mem_of_getElem? hL) m hm)
  have hm := List.mem_of_getElem? hL
  have hO : Own 0 σ a len cap es vs := F.ho _ hm
  have hc := hH.cells (min m len) (Nat.min_le_left _ _)
  have hsz := hH.size
  unfold cpE at hs
  split at hs
  · rename_i c ho
    split at hs
    · rename_i x' y' t hc1 hc2 hc3
      split at hs
      · rename_i elem k1 k2 hu
        cases hk : tsz P elem with
        | none => rw [hk] at hs; cases hs
        | some k' =>
          rw [hk] at hs
          injection hs with hs
          injection hs with e1 hs
          injection hs with e2 e3
          subst e1; subst e2; subst e3
          have hop : aop P o (actOf n env) σ = aCopy P c.argTypes (.slice a len cap) (.slice b m c2) σ := by
            unfold aop
            simp only [ho, hc1]
            unfold aBuiltin
            simp only [hc2, look_aval k1, look_aval k2, hx, hy]
          have hall : (ns.take (min m len * k')).all Value.oneCell' = true := by
            rw [List.all_eq_true] at h1 ⊢
            exact fun v hv => h1 v (List.mem_of_mem_take hv)
          have hlen : (ns.take (min m len * k')).length ≤ len * k' := by
            have := Nat.mul_le_mul_right k' (Nat.min_le_right m len)
            simp; omega
          cases hns : ns.take (min m len * k') with
          | nil =>
            have G : Facts (Nm a) σ σ [own a len cap k' (splice vs 0 [])] := facts1 (Nat.le_refl _) (fun _ _ _ => rfl) (by rw [splice_nil]; exact hO) fun m hm => .inl hm
            refine l_w (wn := none) hw hd (v := .int .i64 (min m len : Nat)) (σ' := σ) ?_ (by unfold rbE; rw [ho]) nw (fun k hk => hD _ (F.fo _ hm _ hk)) G hp (h σ (by rw [hns]; exact F.set hL G))
            rw [hop]
            unfold aCopy
            simp only [hc3, hu, hk, aLen, hc, hns]
          | cons w ws =>
            have hpos : 0 < len := by
              rcases Nat.eq_zero_or_pos len with h | h
              · subst h; rw [hns] at hlen; simp at hlen
              · exact h
            obtain ⟨q, ofs, e, ha, _⟩ := hO.has.rd hpos
            have hofs : ofs = 0 := by
              rcases hO with ⟨_, ⟨h, _⟩ | ⟨m', e', cs, h, _⟩⟩
              · rw [ha] at h; cases h
              · rw [ha] at h; injection h with h; injection h
            subst hofs
            obtain ⟨σ', w1, w3⟩ := own_wr_f hO ha (j := 0) (by rw [Nat.zero_add]; exact hlen) hall
            refine l_w (wn := some q) hw hd (v := .int .i64 (min m len : Nat)) (σ' := σ') ?_ (by unfold rbE; rw [ho]) (fun k hk => by injection hk with hk; subst hk; exact ⟨_, _, ha⟩) (fun k hk => hD _ (F.fo _ hm _ hk)) w3 hp (h σ' (F.set hL w3))
            rw [hop, ha]
            unfold aCopy
            simp only [hc3, hu, hk, aLen, hc, hns]
            rw [hns] at w1
            simp only [w1, Option.map_some]
      · cases hs
    · cases hs
  · cases hs

/-! ### Parts of slices -/
theorem sl_rb {x : Operand} {lo hi : Option Operand} {es : Nat} (hs : slE P o = some (x, lo, hi, es)) : rbE n o env = none := by
  unfold slE at hs
  unfold rbE
  split at hs <;> first | (rename_i ho; rw [ho]) | cases hs
theorem l_sl {x : Operand} {lo : Operand} {hi : Option Operand} {es len cap l h : Nat} {a : Option Addr} {vs : List Value} {lk : IntKind} {li : Int} (hk : opk o = 9) (hs : slE P o = some (x, some lo, hi, es)) (hw : wantedE all n o env = true) (hd : dsto o = some d)
    (hx : look n env x = .slice a len cap) (hlo : okx lo = true) (hl : look n env lo = .int lk li) (hln : li.toNat = l) (hh : Bnd n env hi len h) {hl' : Nat} (hH : Has σ a hl' cap es vs) (hb : 0 ≤ li ∧ l ≤ h ∧ h ≤ hl' ∧ len ≤ hl')
    (hk : Lin P B all W n pn rest (upd env d (.slice (shift a (l * es)) (h - l) (cap - l))) σ) : Lin P B all W n pn (o :: rest) env σ := by
  obtain ⟨h0, h1, h2, h3⟩ := hb
  obtain ⟨zs, hR, hv⟩ := hH
  have hcap := hR.size.2
  have hl' : Bnd n env (some lo) 0 l := ⟨hlo, lk, li, hl, h0, hln⟩
  refine l_p hw hd (v := _) ?_ (sl_rb hs) hk
  unfold slE at hs
  split at hs
  · rename_i t x' lo' hi' ho
    split at hs
    · rename_i elem k1 hu
      cases hk' : tsz P elem with
      | none => rw [hk'] at hs; cases hs
      | some k' =>
        rw [hk'] at hs
        injection hs with hs
        injection hs with e1 hs
        injection hs with e2 hs
        injection hs with e3 e4
        subst e1; subst e2; subst e3; subst e4
        obtain ⟨vl, l1, l2⟩ := hl'.opt
        obtain ⟨vh, l3, l4⟩ := hh.opt
        have l5 : aopt (actOf n env) none = some none := rfl
        rcases hR with ⟨rfl, rfl, rfl, rfl⟩ | ⟨m, ofs, e, rfl, hR⟩
        · obtain rfl : len = 0 := by omega
          have hh0 : h = 0 := by omega
          have hl0 : l = 0 := by omega
          subst hh0; subst hl0
          have hb : bnd none 0 = some 0 := rfl
          unfold aop
          simp only [ho, look_aval k1, hx, l1, l3, l5]
          unfold aSlice
          simp only [hu, l2, l4, hk', hb]
          rfl
        · have hb : bnd none cap = some cap := rfl
          rcases hR with ⟨rfl, rfl, rfl, rfl⟩ | ⟨he, r1, r2, b, r3, r4, r5, r6⟩
          · obtain rfl : len = 0 := by omega
            have hh0 : h = 0 := by omega
            have hl0 : l = 0 := by omega
            subst hh0; subst hl0
            unfold aop
            simp only [ho, look_aval k1, hx, l1, l3, l5]
            unfold aSlice
            simp only [hu, l2, l4, hk', hb]
            simp [shift]
          · unfold aop
            simp only [ho, look_aval k1, hx, l1, l3, l5]
            unfold aSlice
            simp only [hu, l2, l4, hk', hb]
            rw [if_pos ⟨h1, by omega, Nat.le_refl _⟩]
            rcases he with rfl | rfl
            · simp only [r3, r4, if_true]; rfl
            · rfl
    · cases hs
  · cases hs
theorem l_slh {x : Operand} {hi : Option Operand} {es len cap h : Nat} {a : Option Addr} {vs : List Value} (hk : opk o = 9) (hs : slE P o = some (x, none, hi, es)) (hw : wantedE all n o env = true) (hd : dsto o = some d)
    (hx : look n env x = .slice a len cap) (hh : Bnd n env hi len h) {hl' : Nat} (hH : Has σ a hl' cap es vs) (hb : h ≤ hl' ∧ len ≤ hl')
    (hk : Lin P B all W n pn rest (upd env d (.slice a h cap)) σ) : Lin P B all W n pn (o :: rest) env σ := by
  obtain ⟨h3, h4⟩ := hb
  obtain ⟨zs, hR, hv⟩ := hH
  have hcap := hR.size.2
  have hl'' : Bnd n env none 0 0 := rfl
  refine l_p hw hd (v := _) ?_ (sl_rb hs) hk
  unfold slE at hs
  split at hs
  · rename_i t x' lo' hi' ho
    split at hs
    · rename_i elem k1 hu
      cases hk' : tsz P elem with
      | none => rw [hk'] at hs; cases hs
      | some k' =>
        rw [hk'] at hs
        injection hs with hs
        injection hs with e1 hs
        injection hs with e2 hs
        injection hs with e3 e4
        subst e1; subst e2; subst e3; subst e4
        obtain ⟨vh, l3, l4⟩ := hh.opt
        have l5 : aopt (actOf n env) none = some none := rfl
        have b0 : bnd none 0 = some 0 := rfl
        have hb : bnd none cap = some cap := rfl
        rcases hR with ⟨rfl, rfl, rfl, rfl⟩ | ⟨m, ofs, e, rfl, hR⟩
        · obtain rfl : len = 0 := by omega
          have hh0 : h = 0 := by omega
          subst hh0
          unfold aop
          simp only [ho, look_aval k1, hx, l3, l5]
          unfold aSlice
          simp only [hu, l4, hk', b0]
          rfl
        · rcases hR with ⟨rfl, rfl, rfl, rfl⟩ | ⟨he, r1, r2, b, r3, r4, r5, r6⟩
          · obtain rfl : len = 0 := by omega
            have hh0 : h = 0 := by omega
            subst hh0
            unfold aop
            simp only [ho, look_aval k1, hx, l3, l5]
            unfold aSlice
            simp only [hu, l4, hk', b0]
            simp
          · unfold aop
            simp only [ho, look_aval k1, hx, l3, l5]
            unfold aSlice
            simp only [hu, l4, hk', hb, b0]
            rw [if_pos ⟨Nat.zero_le _, by omega, Nat.le_refl _⟩]
            rcases he with rfl | rfl
            · simp only [r3, r4, if_true, Nat.zero_mul, Nat.add_zero, Nat.sub_zero]
            · simp
    · cases hs
  · cases hs
theorem Facts.upto {F : Facts O σ0 σ L} (k : Nat) {a : Option Addr} {l c es h : Nat} {vs : List Value} (hL : L[k]? = some (own a l c es vs)) (hh : h ≤ l) : Facts O σ0 σ (L.set k (own a h c es (vs.take (h * es)))) := by
  refine F.set hL (facts1 (Nat.le_refl _) (fun _ _ _ => rfl) ?_ fun m hm => .inl hm)
  have hO : Own 0 σ a l c es vs := F.ho _ (List.mem_of_getElem? hL)
  rcases hO with ⟨h0, ⟨rfl, rfl, rfl, rfl⟩ | ⟨m, e, cs, rfl, he, h2, h3, h4, h5, h6, h7⟩⟩
  · have : h = 0 := by omega
    subst this
    exact ⟨h0, .inl ⟨rfl, rfl, rfl, by simp⟩⟩
  · refine ⟨h0, .inr ⟨m, e, cs, rfl, he, h2, h3, by omega, h5, h6, ?_⟩⟩
    rw [← h7, List.take_take, Nat.min_eq_left (Nat.mul_le_mul_right es hh)]

/-! ### Strings of bytes -/
theorem l_str {x : Operand} {a : Option Addr} {len cap : Nat} {zs : List Int} (hk : opk o = 16) (hs : strE P o = some x) (hw : wantedE all n o env = true) (hd : dsto o = some d) (hx : look n env x = .slice a len cap) (hH : Has σ a len cap 1 (zs.map (.int .u8))) (h : Lin P B all W n none rest (upd env d (.string (strOfNums zs))) σ) : Lin P B all W n none (o :: rest) env σ := by
  refine Lin.rd (v := .string (strOfNums zs)) hw ?_ (fun _ h => (h rfl).elim) (by rw [dsto_eq hd]; exact h)
  have hl := hH.size
  rw [List.length_map, Nat.mul_one] at hl
  unfold strE at hs
  split at hs
  · rename_i src dst x' ho
    split at hs
    · rename_i e h1 h2 h3
      split at hs
      · rename_i h4
        injection hs with hs
        subst hs
        unfold aop
        simp only [ho, h2, h3, look_aval h1, hx]
        unfold aStr
        simp only [h2, h3, h4]
        by_cases h0 : len = 0
        · subst h0
          have : zs = [] := List.eq_nil_of_length_eq_zero hl
          subst this
          obtain ⟨ws, hR, _⟩ := hH
          rcases hR with ⟨rfl, _, rfl, _⟩ | ⟨m, ofs, e', rfl, _⟩
          · rfl
          · simp
        · obtain ⟨m, ofs, e', rfl, hr⟩ := hH.rd (by omega)
          have := hr 0 len (by omega)
          simp only [Nat.add_zero, List.drop_zero] at this
          rw [List.take_of_length_le (by rw [List.length_map, hl]; exact Nat.le_refl _)] at this
          simp only [h0, if_false, this, u8s_map, Option.map_some]
      · cases hs
    · cases hs
  · cases hs

/-! ### Calls -/
/-- What a function is called with, its value perhaps lying in a temporary. -/
def calE (P : Program) (n : Nat) (o : Oper) (env : Env) : Option (FuncId × List Value) :=
  match o.op with
  | .call c => match c.callee with
    | .value f => match okx f, okxs c.args.toList, look n env f with
      | true, true, .func (.func g) fs cs => some (g, fs.toList ++ looks n env c.args.toList ++ cs.toList)
      | _, _, _ => none
    | _ => none
  | _ => none
theorem calE_target {g : FuncId} {vs : List Value} (h : calE P n o env = some (g, vs)) {fn : Func} (hf : P.funcs[g]? = some fn) (hb : (fn.body.isSome && fn.name != "runtime.NumGoroutine") = true) : target P o (actOf n env) = some (g, vs) := by
  unfold calE at h
  split at h
  · rename_i c ho
    split at h
    · rename_i f hc
      split at h
      · rename_i g' fs cs hx hxs hl
        injection h with h
        injection h with e1 e2
        subst e1; subst e2
        unfold target
        simp only [ho, hc, look_aval hx, hl, looks_avals hxs, hf, hb, if_true]
      · cases h
    · cases h
  · cases h
def noG (P : Program) (g : FuncId) : Bool :=
  match P.funcs[g]? with
  | some fn => fn.body.isSome && fn.name != "runtime.NumGoroutine"
  | none => false

/-- What a call gives: a value, told by y; the pieces that go on or are new; what else is known of y. -/
def Ret {β : Type} (O : Nat → Prop) (σ : AState) (val : β → Value) (Lf : β → List Fact) (Ψ : β → Prop) : Value → AState → Prop := fun v σ' => ∃ y, v = val y ∧ Facts O σ σ' (Lf y) ∧ Ψ y

/-- A call that takes some pieces along. -/
theorem l_call {β : Type} {g : FuncId} {vs : List Value} {val : β → Value} {Lf : β → List Fact} {Ψ : β → Prop} (F : Facts O σ0 σ L) (is rs : List Nat) (hn : (is ++ rs).Nodup) (hk : opk o = 15) (ht : calE P n o env = some (g, vs)) (hg : noG P g = true) (hw : wantedE all n o env = true) (hd : dsto o = some d)
    (hc : SCall P (fpOf (pk L is)) g vs σ (Ret (fpOf (pk L is)) σ val Lf Ψ)) (hD : ∀ k, O k ∨ σ0.next ≤ k → B.D k) (h : ∀ y σ', Facts O σ0 σ' (pk L rs ++ Lf y) → Ψ y → Lin P B all W n pn rest (upd env d (val y)) σ') (hp : PnA pn (fpOf (pk L is)) σ ∨ PnS pn O σ0 := by first | exact .inl pna_none | exact .inl pna_nil | exact .inr (by assumption) | exact .inl (by assumption)) : Lin P B all W n pn (o :: rest) env σ := by
  have hp := hp.elim id fun h => h.pna F (fun m ⟨f, hf, hm⟩ => F.fo f (pk_mem hf) m hm)
  unfold noG at hg
  cases hf : P.funcs[g]? with
  | none => rw [hf] at hg; cases hg
  | some fn =>
    rw [hf] at hg
    refine .call hw (calE_target ht hf hg) (D := fpOf (pk L is)) (fun m ⟨f, hf, hm⟩ => hD m (F.fo f (pk_mem hf) m hm)) (fun m hm => (hp m hm).1) hc (fun v σ' ⟨y, _, G, _⟩ m hm => by rw [G.eq m (hp m hm).2.1 (hp m hm).1]; exact (hp m hm).2.2) ?_
    rintro v σ' ⟨y, rfl, G, hy⟩
    rw [dsto_eq hd]
    exact h y σ' (F.call is rs hn G) hy
/-- A call that takes none. -/
theorem l_callp {β : Type} {g : FuncId} {vs : List Value} {val : β → Value} {Lf : β → List Fact} {Ψ : β → Prop} (F : Facts O σ0 σ L) (hk : opk o = 15) (ht : calE P n o env = some (g, vs)) (hg : noG P g = true) (hw : wantedE all n o env = true) (hd : dsto o = some d)
    (hc : SCall P (fpOf []) g vs σ (Ret (fpOf []) σ val Lf Ψ)) (h : ∀ y σ', Facts O σ0 σ' (L ++ Lf y) → Ψ y → Lin P B all W n pn rest (upd env d (val y)) σ') (hp : PnA pn (fpOf []) σ ∨ PnS pn O σ0 := by first | exact .inl pna_none | exact .inl pna_nil | exact .inr (by assumption) | exact .inl (by assumption)) : Lin P B all W n pn (o :: rest) env σ := by
  have hp := hp.elim id fun h => h.pna F (fun m ⟨f, hf, _⟩ => by cases hf)
  unfold noG at hg
  cases hf : P.funcs[g]? with
  | none => rw [hf] at hg; cases hg
  | some fn =>
    rw [hf] at hg
    refine .call hw (calE_target ht hf hg) (D := fpOf []) (fun m ⟨f, hf, hm⟩ => by cases hf) (fun m hm => (hp m hm).1) hc (fun v σ' ⟨y, _, G, _⟩ m hm => by rw [G.eq m (hp m hm).2.1 (hp m hm).1]; exact (hp m hm).2.2) ?_
    rintro v σ' ⟨y, rfl, G, hy⟩
    rw [dsto_eq hd]
    exact h y σ' (F.new G) hy
/-- A call that leaves the heap alone and tells a value. -/
theorem l_callv {g : FuncId} {vs : List Value} {v : Value} (hk : opk o = 15) (ht : calE P n o env = some (g, vs)) (hg : noG P g = true) (hw : wantedE all n o env = true) (hd : dsto o = some d)
    (hc : SCall P (fun _ => False) g vs σ (fun u s => u = v ∧ s = σ)) (h : Lin P B all W n pn rest (upd env d v) σ) (hp : PnA pn (fun _ => False) σ := by first | exact pna_none | exact pna_nil | assumption) : Lin P B all W n pn (o :: rest) env σ := by
  unfold noG at hg
  cases hf : P.funcs[g]? with
  | none => rw [hf] at hg; cases hg
  | some fn =>
    rw [hf] at hg
    refine .call hw (calE_target ht hf hg) (D := fun _ => False) (fun m h => h.elim) (fun m hm => (hp m hm).1) hc (fun v σ' ⟨_, e⟩ m hm => by rw [e]; exact (hp m hm).2.2) ?_
    rintro u s ⟨rfl, rfl⟩
    rw [dsto_eq hd]
    exact h

/-! ### Code -/
theorem l_cond {c : Operand} {x y : Code} {b : Bool} (hx : okx c = true) (hc : look n env c = .bool b) (ht : b = true → ECode P B x Q n env σ) (hf : b = false → ECode P B y Q n env σ) : ECode P B (.cond c x y) Q n env σ := by
  cases b with
  | true => exact e_cond_t hx hc rfl (ht rfl)
  | false => exact e_cond_f hx hc rfl (hf rfl)
theorem l_fun {f : FuncId} {fn : Func} {c : Code} {args : List Value} {R : Value → AState → Prop} {m : Nat} (hf : P.funcs[f]? = some fn) (hb : fn.body = some c) (hm : max fn.ntmps args.length = m)
    (h : ∀ B : Base, (∀ k, O k ∨ σ.next ≤ k → B.D k) → ECode P B c (fun e a σ' => (e = .normal ∨ e = .ret) ∧ ∃ v, aResults P fn a σ' = some v ∧ R v σ') m (argEnv args) σ) : SCall P O f args σ R :=
  e_fun' hf hb hm fun B h1 h2 => h B fun k hk => hk.elim (h1 k) (h2 k)
/-- A loop: what its rounds are told by (α), the pieces, what the temporaries hold, a number that each round lowers. -/
theorem l_loop {α : Type} {c : Code} (I : α → AState → Prop) (live : α → List (Nat × Value)) (meas : α → Nat) (s0 : α) (h0 : I s0 σ) (hl : Sees env (live s0))
    (round : ∀ s env σ, I s σ → ECode P B c (thenS (fun a' σ' => ∃ s' env', a' = actOf n env' ∧ Sees env' (live s') ∧ I s' σ' ∧ meas s' < meas s) Q) n (upds env (live s)) σ) : ECode P B (.loop c) Q n env σ :=
  e_loop I live meas s0 h0 hl fun s env σ hI => SCode.mono (round s env σ hI) fun e a σ h => by
    cases e with
    | normal => obtain ⟨s', env', h1, h2, h3, h4⟩ := h; exact ⟨s', env', h1, h4, h3, h2⟩
    | _ => exact h
theorem l_cut {α : Type} {x y : Code} (I : α → AState → Prop) (live : α → List (Nat × Value)) (h1 : ECode P B x (thenS (fun a σ => ∃ s env, a = actOf n env ∧ Sees env (live s) ∧ I s σ) Q) n env σ)
    (h2 : ∀ s env σ, I s σ → ECode P B y Q n (upds env (live s)) σ) : ECode P B (.seq x y) Q n env σ :=
  e_cut I live (SCode.mono h1 fun e a σ h => by
    cases e with
    | normal => obtain ⟨s', env', h1, h2, h3⟩ := h; exact ⟨s', env', h1, h3, h2⟩
    | _ => exact h) h2
end facts
end
end GAb
