/- Regions where more than one operation that takes nothing may come next: each order by itself. No statement of the seat is proved in this text. -/
import Derived.Test.YtocfmecenpeoiaaGreatAb33
set_option linter.unusedVariables false
set_option linter.unusedSimpArgs false
namespace GAb
open Go
section
variable {P : Program} {B : Base} {Q : Post} {a : Act} {σ : AState} {ops : Array Oper}
/-- One operation is taken up next. -/
def SOne (P : Program) (B : Base) (ops : Array Oper) (fuel : Nat) (listed : Array Bool) (pr : List (Nat × Nat)) (tk : List Nat) (Q : Post) (a : Act) (σ : AState) (i : Nat) : Prop :=
  Closed ops listed → (∀ k, k ∈ tk → listed.getD k false = true) → ∀ φ w a', B.Go φ σ w → ARel φ a a' → wpOp P ops (SQ B Q) i (fun a1 w1 => SPG ops pr tk φ w (listed.setIfInBounds i true) w1 ∧ wpAnyG P ops (SQ B Q) (SPG ops pr tk φ w) fuel (listed.setIfInBounds i true) a1 w1) a' w
theorem any_pick {fuel : Nat} {listed : Array Bool} {pr : List (Nat × Nat)} {tk : List Nat} (hne : Region.ready .any ops listed ≠ []) (h : ∀ i ∈ Region.ready .any ops listed, SOne P B ops fuel listed pr tk Q a σ i) : SAny P B ops (fuel + 1) listed pr tk Q a σ :=
  fun hc htk φ w a' hg ha => ⟨fun e => (hne e).elim, fun i hi => h i hi hc htk φ w a' hg ha⟩
theorem one_op {fuel : Nat} {listed : Array Bool} {pr : List (Nat × Nat)} {tk : List Nat} {i : Nat} {o : Oper} {v : Value} {σ' : AState} {wn : Option Nat} (hi : ops[i]? = some o) (hin : i ∈ Region.ready .any ops listed) (hw : Region.wanted o (yielded ops a.tmps) = true)
    (ho : aop P o a σ = some (v, σ', wn)) (hD : ∀ n, wn = some n → B.D n) (hn : ∀ e, e ∈ rem ops i pr → ¬ wn = some e.2) (hl : ∀ e, e ∈ rem ops i pr → ∃ b, σ.get e.2 = some b) (h : SAny P B ops fuel (listed.setIfInBounds i true) (rem ops i pr) tk Q (a.put o.dst v) σ') : SOne P B ops fuel listed pr tk Q a σ i := by
  intro hc htk φ w a' hg ha
  unfold wpOp
  simp only [hi]
  rw [wanted_eq ha, hw, if_pos rfl]
  obtain ⟨φ', u, w', h1, h2, h3⟩ := aop_sound ho φ w a' hg.rel ha
  refine .inl ?_
  have fin := fun u' (hu : VRel φ' v u') => any_step (P := P) (Q := Q) (fuel := fuel) hc htk hin hg h3 hD hn hl ((ha.mono h3.le).put o.dst hu) h
  unfold Oper.wp
  rcases h1 with h1 | ⟨h1, rfl⟩
  · rw [h1]; exact fin u h2
  · rw [h1]; exact fin undef h2

theorem one_skip {fuel : Nat} {listed : Array Bool} {pr : List (Nat × Nat)} {tk : List Nat} {i : Nat} {o : Oper} (hi : ops[i]? = some o) (hin : i ∈ Region.ready .any ops listed) (hw : Region.wanted o (yielded ops a.tmps) = false) (hl : ∀ e, e ∈ rem ops i pr → ∃ b, σ.get e.2 = some b)
    (h : SAny P B ops fuel (listed.setIfInBounds i true) (rem ops i pr) tk Q (a.put o.dst undef) σ) : SOne P B ops fuel listed pr tk Q a σ i := by
  intro hc htk φ w a' hg ha
  unfold wpOp
  simp only [hi]
  rw [wanted_eq ha, hw]
  exact any_step (D := fun _ => False) hc htk hin hg (Goes.refl hg.rel) (fun _ h => h.elim) (fun _ _ h => h) hl (ha.put _ (VRel.undef φ)) h

theorem one_call {fuel : Nat} {listed : Array Bool} {pr : List (Nat × Nat)} {tk : List Nat} {i : Nat} {o : Oper} {g : FuncId} {vs : List Value} {D : Nat → Prop} (hi : ops[i]? = some o) (hin : i ∈ Region.ready .any ops listed) (hw : Region.wanted o (yielded ops a.tmps) = true)
    (ht : target P o a = some (g, vs)) (hD : ∀ n, D n → B.D n) (hn : ∀ e, e ∈ rem ops i pr → ¬ D e.2) (hl : ∀ e, e ∈ rem ops i pr → ∃ b, σ.get e.2 = some b)
    (h : SCall P D g vs σ fun v σ' => SAny P B ops fuel (listed.setIfInBounds i true) (rem ops i pr) tk Q (a.put o.dst v) σ') : SOne P B ops fuel listed pr tk Q a σ i := by
  intro hc htk φ w a' hg ha
  unfold wpOp
  simp only [hi]
  rw [wanted_eq ha, hw, if_pos rfl]
  obtain ⟨us, h1, h2⟩ := target_sound ht ha w
  refine .inl ?_
  unfold Oper.wp
  rw [h2]
  refine Calls.mono (h φ w us hg.rel h1) ?_
  rintro e w' ⟨v, σ', φ', u, rfl, k1, k2, k3⟩
  exact any_step hc htk hin hg k3 hD hn hl ((ha.mono k3.le).put _ k2) k1

theorem one_nd {P : Program} {B : Base} {Q : Post} {a : Act} {σ : AState} {ops : Array Oper} {fuel : Nat} {listed : Array Bool} {pr : List (Nat × Nat)} {tk : List Nat} {i : Nat} {o : Oper} {K : Value → AState → Option Nat → Prop} (hi : ops[i]? = some o) (hin : i ∈ Region.ready .any ops listed) (hw : Region.wanted o (yielded ops a.tmps) = true)
    (ho : OpN P o a σ K) (hD : ∀ v σ' wn, K v σ' wn → ∀ n, wn = some n → B.D n) (hn : ∀ v σ' wn, K v σ' wn → ∀ e, e ∈ rem ops i pr → ¬ wn = some e.2) (hl : ∀ e, e ∈ rem ops i pr → ∃ b, σ.get e.2 = some b) (h : ∀ v σ' wn, K v σ' wn → SAny P B ops fuel (listed.setIfInBounds i true) (rem ops i pr) tk Q (a.put o.dst v) σ') : SOne P B ops fuel listed pr tk Q a σ i := by
  intro hc htk φ w a' hg ha
  unfold wpOp
  simp only [hi]
  rw [wanted_eq ha, hw, if_pos rfl]
  obtain ⟨v, σ', wn, φ', u, w', hK, h1, h2, h3⟩ := ho φ w a' hg.rel ha
  refine .inl ?_
  have fin := fun u' (hu : VRel φ' v u') => any_step (P := P) (Q := Q) (fuel := fuel) hc htk hin hg h3 (hD v σ' wn hK) (hn v σ' wn hK) hl ((ha.mono h3.le).put o.dst hu) (h v σ' wn hK)
  unfold Oper.wp
  rcases h1 with h1 | ⟨h1, rfl⟩
  · rw [h1]; exact fin u h2
  · rw [h1]; exact fin undef h2

end
section
variable {P : Program} {B : Base} {Q : Post} {n : Nat}
/-- One operation of those that are ready. -/
theorem lin_one {ops : Array Oper} {Q' : Pn → Env → AState → Prop} {i : Nat} {o : Oper} {l : List Nat} {fuel : Nat} {listed : Array Bool} {pr : List (Nat × Nat)} {tk : List Nat} (ho : ops[i]? = some o) (hin : i ∈ Region.ready .any ops listed) (hlt : ∀ e ∈ pr, e.1 < ops.size ∧ e.1 ≠ i ∧ listed.getD e.1 false = true ∧ nrb ops e.1 = false)
    (ih : ∀ (ns : List Nat) (env : Env) (σ : AState), (∀ e ∈ rem ops i pr, e.2 ∈ ns ∧ ∃ b, σ.get e.2 = some b) → Lin P B ops Q' n (some ns) (l.filterMap (ops[·]?)) env σ → SAny P B ops fuel (listed.setIfInBounds i true) (rem ops i pr) tk Q (actOf n env) σ) :
    ∀ {pn : Pn} {r : List Oper} {env : Env} {σ : AState}, Lin P B ops Q' n pn r env σ → ∀ ns, pn = some ns → r = o :: l.filterMap (ops[·]?) → (∀ e ∈ rem ops i pr, e.2 ∈ ns ∧ ∃ b, σ.get e.2 = some b) → SOne P B ops fuel listed pr tk Q (actOf n env) σ i := by
  intro pn r env σ h
  induction h with
  | nil _ => intro ns _ hx _; cases hx
  | skip hw h _ =>
    rintro ns rfl hx hpr
    injection hx with e1 e2
    subst e1; subst e2
    have hal0 : ∀ e, e ∈ rem ops i pr → ∃ b, _ := fun e he => (hpr e he).2
    refine one_skip ho hin (by rw [wantedE_eq]; exact hw) hal0 ?_
    rw [actOf_put]
    exact ih _ _ _ (fun e he => hpr e he) h
  | @rd pn o' rest env σ v hw hop hal h _ =>
    rintro ns rfl hx hpr
    injection hx with e1 e2
    subst e1; subst e2
    have hal0 : ∀ e, e ∈ rem ops i pr → ∃ b, _ := fun e he => (hpr e he).2
    refine one_op ho hin (by rw [wantedE_eq]; exact hw) hop (fun _ h => by cases h) (fun _ _ h => by cases h) hal0 ?_
    rw [actOf_put]
    refine ih (pnl (pnAdd (some ns) (rbName o' (actOf n env)))) _ _ (fun e he => ⟨pnl_add (hpr e he).1, (hpr e he).2⟩) ?_
    generalize rbName o' (actOf n env) = x at h ⊢
    cases x <;> exact h
  | wr hw hop hrb hD hal h _ =>
    rintro ns rfl hx hpr
    injection hx with e1 e2
    subst e1; subst e2
    have hal0 : ∀ e, e ∈ rem ops i pr → ∃ b, _ := fun e he => (hpr e he).2
    refine one_op ho hin (by rw [wantedE_eq]; exact hw) hop hD (fun e he => (hal e.2 (hpr e he).1).1) hal0 ?_
    rw [actOf_put]
    exact ih _ _ _ (fun e he => ⟨(hpr e he).1, (hal e.2 (hpr e he).1).2⟩) h
  | nd hw hnt hop hD hal h _ =>
    rintro ns rfl hx hpr
    injection hx with e1 e2
    subst e1; subst e2
    have hal0 : ∀ e, e ∈ rem ops i pr → ∃ b, _ := fun e he => (hpr e he).2
    refine one_nd ho hin (by rw [wantedE_eq]; exact hw) hop hD (fun v σ' wn hK e he => (hal v σ' wn hK e.2 (hpr e he).1).1) hal0 (fun v σ' wn hK => ?_)
    rw [actOf_put]
    exact ih _ _ _ (fun e he => ⟨(hpr e he).1, (hal v σ' wn hK e.2 (hpr e he).1).2⟩) (h v σ' wn hK)
  | call hw htg hD hn hc hal h _ =>
    rintro ns rfl hx hpr
    injection hx with e1 e2
    subst e1; subst e2
    have hal0 : ∀ e, e ∈ rem ops i pr → ∃ b, _ := fun e he => (hpr e he).2
    refine one_call ho hin (by rw [wantedE_eq]; exact hw) htg hD (fun e he => hn e.2 (hpr e he).1) hal0 (hc.mono (fun _ _ h => h) fun v σ' hR => ?_)
    rw [actOf_put]
    exact ih _ _ _ (fun e he => ⟨(hpr e he).1, hal v σ' hR e.2 (hpr e he).1⟩) (h v σ' hR)
  | rs hok _ ihr =>
    rintro ns _ hx hpr
    have hx' := hx
    injection hx' with e1 e2
    subst e1
    have hd := (rsOK_dep hok ho).2
    intro hc
    refine ihr [] rfl hx (fun e he => ?_) hc
    exfalso
    unfold rem at he
    obtain ⟨he1, he2⟩ := List.mem_filter.1 he
    obtain ⟨hl1, hl2, hl3, hl4⟩ := hlt e he1
    rcases hd e.1 hl1 hl2 hl4 with h1 | h1
    · rw [h1] at he2
      cases he2
    · rw [closed_dep hc (mem_ready.1 hin).1 e.1 hl3] at h1
      cases h1

/-- The orders from here on: each operation that may come next, and what then follows. -/
def altOK (P : Program) (ops : Array Oper) (A : List (Nat × List Nat)) : Nat → Array Bool → Bool
  | 0, _ => false
  | fuel + 1, listed => (Region.ready .any ops listed == A.map (·.1)) && !A.isEmpty && A.all fun r => (ops[r.1]?).isSome && planOK P ops r.2 fuel (listed.setIfInBounds r.1 true)
theorem alt_base {ops : Array Oper} {Q' : Pn → Env → AState → Prop} (hq : ∀ pn env σ, Q' pn env σ → Q .normal (actOf n env) σ) (hs : Region.noSelect ops = true) {A : List (Nat × List Nat)} (fuel : Nat) (listed : Array Bool) (pr : List (Nat × Nat)) (tk ns : List Nat) (env : Env) (σ : AState) (hp : altOK P ops A fuel listed = true)
    (hli : ∀ e ∈ pr, listed.getD e.1 false = true ∧ e.1 < ops.size ∧ nrb ops e.1 = false) (hpr : ∀ e ∈ pr, e.2 ∈ ns ∧ ∃ b, σ.get e.2 = some b) (h : ∀ r ∈ A, Lin P B ops Q' n (some ns) ((r.1 :: r.2).filterMap (ops[·]?)) env σ) : SAny P B ops fuel listed pr tk Q (actOf n env) σ := by
  cases fuel with
  | zero => cases hp
  | succ fuel =>
    unfold altOK at hp
    simp only [Bool.and_eq_true, beq_iff_eq, Bool.not_eq_true', List.all_eq_true] at hp
    obtain ⟨⟨h1, h2⟩, h3⟩ := hp
    refine any_pick (fun e => ?_) fun i hi => ?_
    · rw [h1, List.map_eq_nil_iff] at e
      rw [e] at h2; cases h2
    · have hi' := hi
      rw [h1] at hi'
      obtain ⟨r, hr, rfl⟩ := List.mem_map.1 hi'
      obtain ⟨k1, k2⟩ := h3 r hr
      obtain ⟨o, ho⟩ := Option.isSome_iff_exists.1 k1
      obtain ⟨n1, n2⟩ := ready_new hi
      have hL := h r hr
      rw [List.filterMap_cons, ho] at hL
      have hrem : ∀ e, e ∈ rem ops r.1 pr → e ∈ pr := fun e he => (List.mem_filter.1 he).1
      refine lin_one ho hi (fun e he => ⟨(hli e he).2.1, fun hx => ?_, (hli e he).1, (hli e he).2.2⟩) (fun ns' env' σ' hpr' h' => lin_mixed hq hs r.2 _ _ _ _ ns' _ _ k2 (fun e he => ⟨listed_at (ops := ops) (hli e (hrem e he)).1, (hli e (hrem e he)).2⟩) hpr' h') hL ns rfl rfl (fun e he => hpr e (hrem e he))
      have := (hli e he).1
      rw [hx] at this
      rw [Array.getD_eq_getD_getElem?] at this n1
      cases hg : listed[r.1]? with
      | none => rw [hg] at this; cases this
      | some b => rw [hg] at this n1; simp at this n1; rw [this] at n1; cases n1
/-- A region with a beginning that all orders share, and the orders behind it. -/
theorem k_lalt {env : Env} {σ : AState} (l : List Nat) (A : List (Nat × List Nat)) {id : Nat} {ops : Array Oper} (hm : P.follows .mixedOrders = true) (hp : (Region.noSelect ops && planG P ops (altOK P ops A) l ops.size (Array.replicate ops.size false)) = true)
    (h : ∀ W, WK n Q W → Lin P B ops (fun pn env σ => ∀ r ∈ A, Lin P B ops W n pn ((r.1 :: r.2).filterMap (ops[·]?)) env σ) n (some []) (l.filterMap (ops[·]?)) env σ) : ECode P B (.region id ops true) Q n env σ := by
  rw [Bool.and_eq_true] at hp
  exact a_region hm fun pr hpr => lin_mixedG hp.1 (alt_base (Q' := fun _ env σ => Q .normal (actOf n env) σ) (fun _ _ _ h => h) hp.1) l _ _ pr [] [] _ _ hp.2 (fun e he => by have := hpr e he; cases this) (fun e he => by have := hpr e he; cases this) (h _ ⟨fun h => h⟩)
theorem alt_two {C : Nat × List Nat → Prop} {r s : Nat × List Nat} (h1 : C r) (h2 : C s) : ∀ x ∈ [r, s], C x := fun x hx => by
  rcases List.mem_cons.1 hx with rfl | hx
  · exact h1
  · rw [List.mem_singleton.1 hx]; exact h2
end
/-- What was read from a row of one's own, ahead of what writes another piece. -/
theorem PnA.ownE {pn : Pn} {O : Nat → Prop} {σ0 σ : AState} {L : List Fact} {g : Fact} (F : Facts O σ0 σ L) (k j : Nat) {m o l c es : Nat} {e : Option Nat} {vs : List Value} (hL : L[k]? = some (GAb.own (some ⟨m, o, e⟩) l c es vs)) (hj : L[j]? = some g) (hne : k ≠ j) (h : PnA pn g.fp σ) : PnA (pnAdd pn (some m)) g.fp σ := by
  have hc : Own 0 σ (some ⟨m, o, e⟩) l c es vs := F.ho _ (List.mem_of_getElem? hL)
  have hm : ¬ g.fp m ∧ m < σ.next ∧ ∃ b, σ.get m = some b := by
    refine ⟨pw_at F.di hne hL hj m ⟨_, _, rfl⟩, ?_⟩
    obtain ⟨_, ⟨h, _⟩ | ⟨n, e', cs, h, _, _, h1, _, h2, _⟩⟩ := hc
    · cases h
    · injection h with h
      injection h with h _ _
      subst h
      exact ⟨h1, _, h2⟩
  cases pn with
  | none => exact h
  | some l =>
    intro j hj
    have : j = m ∨ j ∈ l := by simpa [pnAdd, pnl] using hj
    rcases this with rfl | hj
    · exact hm
    · exact h j hj
/-! ### Bytes as bytes -/
def cvE (P : Program) (o : Oper) : Option (Operand × TypeId × TypeId) := match o.op with
  | .convert src dst x => match okx x, P.underlying src, P.underlying dst with
    | true, some (.slice _), some (.slice e) => match P.underlying e with
      | some (.int .u8) => if Nat.beq src dst then some (x, src, dst) else none
      | _ => none
    | _, _, _ => none
  | _ => none
theorem l_cvs {P : Program} {B : Base} {n : Nat} {all : Array Oper} {W : Pn → Env → AState → Prop} {pn : Pn} {env : Env} {σ σ0 : AState} {o : Oper} {rest : List Oper} {d : Option Nat} {O : Nat → Prop} {L : List Fact} {x : Operand} {src dst : TypeId} {m o' l c len cap : Nat} {e e' : Option Nat} {vs : List Value} (F : Facts O σ0 σ L) (k : Nat) (hs : cvE P o = some (x, src, dst)) (hw : wantedE all n o env = true) (hd : dsto o = some d) (hx : look n env x = .slice (some ⟨m, o', e'⟩) (l + 1) c) (hL : L[k]? = some (own (some ⟨m, 0, e⟩) len cap 1 vs)) (hD : ∀ k, O k ∨ σ0.next ≤ k → B.D k)
    (h : Lin P B all W n pn rest (upd env d (.slice (some ⟨m, o', e'⟩) (l + 1) c)) σ) (hp : PnA pn (Nm (some ⟨m, 0, e⟩)) σ ∨ PnS pn O σ0 := by first | exact .inl pna_none | exact .inl pna_nil | exact .inr (by assumption) | exact .inl (by assumption)) : Lin P B all W n pn (o :: rest) env σ := by
  have hm := List.mem_of_getElem? hL
  have hp := hp.elim id fun h => h.pna F (fun m hm' => F.fo _ hm m hm')
  have hO : Own 0 σ (some ⟨m, 0, e⟩) len cap 1 vs := F.ho _ hm
  obtain ⟨cs, hg⟩ : ∃ cs, σ.get m = some ⟨cs, 1, false⟩ := by
    obtain ⟨_, ⟨h, _⟩ | ⟨n', e2, cs, h, _, _, _, _, h2, _⟩⟩ := hO
    · cases h
    · injection h with h
      injection h with h _ _
      subst h
      exact ⟨_, h2⟩
  unfold cvE at hs
  split at hs
  · rename_i src' dst' x' ho
    split at hs
    · rename_i e1 e2 h1 h2 h3
      split at hs
      · rename_i h4
        split at hs
        · rename_i h5
          injection hs with hs
          injection hs with k1 hs
          injection hs with k2 k3
          subst k1; subst k2; subst k3
          obtain rfl := Nat.eq_of_beq_eq_true h5
          refine l_nd (E := Nm (some ⟨m, 0, e⟩)) (K := fun v σ' wn => v = .slice (some ⟨m, o', e'⟩) (l + 1) c ∧ σ' = σ ∧ wn = some m) hw hd (by unfold isTake; simp only [ho, h3]) ?_ (fun v σ' wn ⟨_, e2, e3⟩ => ?_) (fun k hk => hD _ (F.fo _ hm _ hk)) hp (fun v σ' wn ⟨e1, e2, e3⟩ => ?_)
          · intro φ w a' hr harel
            have vx := aval_sound harel (look_aval (n := n) (env := env) h1)
            rw [hx] at vx
            have hS : aSame P src' src' (.slice (some ⟨m, o', e'⟩) (l + 1) c) σ = some (.slice (some ⟨m, o', e'⟩) (l + 1) c, σ, some m) := by
              unfold aSame
              simp only [h3, h4, hg, and_self, if_true]
            obtain ⟨w', r1, r2, r3⟩ := aSame_sound hS hr vx
            refine ⟨_, _, _, φ, _, w', ⟨rfl, rfl, rfl⟩, .inl ?_, r2, r3⟩
            simp only [execOp, ho, Sem.run_bind, r1, Result.andThen_ok, Sem.run_pure]
          · subst e2; subst e3
            exact ⟨(fun k hk => by injection hk with hk; subst hk; exact ⟨_, _, rfl⟩), [], ⟨Nat.le_refl _, fun _ _ _ => rfl, by simp, by simp, .nil⟩⟩
          · subst e1; subst e2
            exact h
        · cases hs
      · cases hs
    · cases hs
  · cases hs
end GAb
