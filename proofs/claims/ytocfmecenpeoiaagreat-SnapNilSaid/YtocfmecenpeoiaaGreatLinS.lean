/- A region in which many operations are ready at once: from each set of those that are done. No statement of the seat is proved in this text. -/
import Derived.Test.YtocfmecenpeoiaaGreatAb34
set_option linter.unusedVariables false
set_option linter.unusedSimpArgs false
set_option maxRecDepth 100000
set_option maxHeartbeats 8000000
namespace GAb
open Go
section
variable {P : Program} {B : Base} {Q : Post} {n : Nat}

/-- From those that are done, whatever comes next. -/
def LinS (P : Program) (B : Base) (ops : Array Oper) (n : Nat) (W : Pn → Env → AState → Prop) : Nat → Array Bool → Pn → Env → AState → Prop
  | 0, listed, pn, env, σ => Region.ready .any ops listed = [] ∧ W pn env σ
  | fuel + 1, listed, pn, env, σ => (Region.ready .any ops listed = [] ∧ W pn env σ) ∨
      (Region.ready .any ops listed ≠ [] ∧ ∀ i ∈ Region.ready .any ops listed, ∃ o, ops[i]? = some o ∧ Lin P B ops (LinS P B ops n W fuel (listed.setIfInBounds i true)) n pn [o] env σ)
theorem lin_nil {ops : Array Oper} {W : Pn → Env → AState → Prop} {pn : Pn} {env : Env} {σ : AState} (h : Lin P B ops W n pn [] env σ) : W pn env σ := by
  cases h with
  | nil h => exact h
theorem linS_base {ops : Array Oper} {Q' : Pn → Env → AState → Prop} (hq : ∀ pn env σ, Q' pn env σ → Q .normal (actOf n env) σ) : ∀ (fuel : Nat) (listed : Array Bool) (pr : List (Nat × Nat)) (tk ns : List Nat) (env : Env) (σ : AState),
    (∀ e ∈ pr, listed.getD e.1 false = true ∧ e.1 < ops.size ∧ nrb ops e.1 = false) → (∀ e ∈ pr, e.2 ∈ ns ∧ ∃ b, σ.get e.2 = some b) → LinS P B ops n Q' fuel listed (some ns) env σ → SAny P B ops fuel listed pr tk Q (actOf n env) σ
  | 0, _, _, _, _, _, _, _, _, h => any_done h.1 (hq _ _ _ h.2) 0
  | fuel + 1, listed, pr, tk, ns, env, σ, hli, hpr, h => by
    rcases h with ⟨h1, h2⟩ | ⟨h1, h2⟩
    · exact any_done h1 (hq _ _ _ h2) (fuel + 1)
    · refine any_pick h1 fun i hi => ?_
      obtain ⟨o, ho, hL⟩ := h2 i hi
      obtain ⟨n1, n2⟩ := ready_new hi
      have hrem : ∀ e, e ∈ rem ops i pr → e ∈ pr := fun e he => (List.mem_filter.1 he).1
      refine lin_one (l := []) ho hi (fun e he => ⟨(hli e he).2.1, fun hx => ?_, (hli e he).1, (hli e he).2.2⟩) (fun ns' env' σ' hpr' h' => linS_base hq fuel _ _ _ ns' _ _ (fun e he => ⟨listed_at (ops := ops) (hli e (hrem e he)).1, (hli e (hrem e he)).2⟩) hpr' (lin_nil h')) hL ns rfl rfl (fun e he => hpr e (hrem e he))
      have := (hli e he).1
      rw [hx] at this
      rw [Array.getD_eq_getD_getElem?] at this n1
      cases hg : listed[i]? with
      | none => rw [hg] at this; cases this
      | some b => rw [hg] at this n1; simp at n1 this; rw [this] at n1; cases n1
/-- A region with a beginning that all orders share; then whatever comes next. -/
theorem k_lset {env : Env} {σ : AState} (l : List Nat) (f0 : Nat) (L0 : Array Bool) {id : Nat} {ops : Array Oper} (hm : P.follows .mixedOrders = true) (hp : (Region.noSelect ops && planG P ops (fun f s => Nat.beq f f0 && s == L0) l ops.size (Array.replicate ops.size false)) = true)
    (h : ∀ W, WK n Q W → Lin P B ops (LinS P B ops n W f0 L0) n (some []) (l.filterMap (ops[·]?)) env σ) : ECode P B (.region id ops true) Q n env σ := by
  rw [Bool.and_eq_true] at hp
  exact a_region hm fun pr hpr => lin_mixedG hp.1 (fun fuel listed pr tk ns env σ hq hli hpr h => by
    rw [Bool.and_eq_true] at hq
    obtain rfl := Nat.eq_of_beq_eq_true hq.1
    obtain rfl := eq_of_beq hq.2
    exact linS_base (Q' := fun _ env σ => Q .normal (actOf n env) σ) (fun _ _ _ h => h) _ _ _ _ _ _ _ hli hpr h) l _ _ pr [] [] _ _ hp.2 (fun e he => by have := hpr e he; cases this) (fun e he => by have := hpr e he; cases this) (h _ ⟨fun h => h⟩)
theorem lin_imp {all : Array Oper} {Q1 Q2 : Pn → Env → AState → Prop} (hq : ∀ pn env σ, Q1 pn env σ → Q2 pn env σ) {pn : Pn} {rest : List Oper} {env : Env} {σ : AState} (h : Lin P B all Q1 n pn rest env σ) : Lin P B all Q2 n pn rest env σ := by
  induction h with
  | nil h => exact .nil (hq _ _ _ h)
  | skip hw _ ih => exact .skip hw ih
  | rd hw ho h _ ih => exact .rd hw ho h ih
  | wr hw ho h1 h2 h3 _ ih => exact .wr hw ho h1 h2 h3 ih
  | nd hw h0 ho h1 h2 _ ih => exact .nd hw h0 ho h1 h2 ih
  | call hw ht h1 h2 h3 h4 _ ih => exact .call hw ht h1 h2 h3 h4 ih
  | rs hw _ ih => exact .rs hw ih
/-- What is ready in each of some states, and how many operations are left there. -/
def stOK {S : Type} [BEq S] (ops : Array Oper) (enc : S → Array Bool) (nxt : S → List (Nat × S)) (left : S → Nat) (all : List S) : Bool :=
  all.all fun s => (Region.ready .any ops (enc s) == (nxt s).map (·.1)) && ((nxt s).all fun p => (enc p.2 == (enc s).setIfInBounds p.1 true) && all.contains p.2 && Nat.beq (left s) (left p.2 + 1)) && ((nxt s).isEmpty || Nat.blt 0 (left s))
theorem linS_st {S : Type} [BEq S] [LawfulBEq S] {ops : Array Oper} {W : Pn → Env → AState → Prop} (enc : S → Array Bool) (nxt : S → List (Nat × S)) (left : S → Nat) (all : List S) (hok : stOK ops enc nxt left all = true) (I : S → Pn → Env → AState → Prop)
    (hend : ∀ s pn env σ, nxt s = [] → s ∈ all → I s pn env σ → W pn env σ)
    (hstep : ∀ s i s', (i, s') ∈ nxt s → ∀ pn env σ, I s pn env σ → ∃ o, ops[i]? = some o ∧ Lin P B ops (I s') n pn [o] env σ) :
    ∀ (k : Nat) (s : S) (pn : Pn) (env : Env) (σ : AState), left s = k → s ∈ all → I s pn env σ → LinS P B ops n W k (enc s) pn env σ
  | k, s, pn, env, σ, hk, hs, hI => by
    have h := List.all_eq_true.1 hok s hs
    rw [Bool.and_eq_true, Bool.and_eq_true] at h
    obtain ⟨⟨h1, h2⟩, h3⟩ := h
    have h1 := eq_of_beq h1
    cases k with
    | zero =>
      have hn : nxt s = [] := by
        rcases Bool.or_eq_true_iff.1 h3 with h3 | h3
        · exact List.isEmpty_iff.1 h3
        · rw [hk] at h3; cases h3
      exact ⟨by rw [h1, hn]; rfl, hend s pn env σ hn hs hI⟩
    | succ k =>
      cases hn : nxt s with
      | nil => exact .inl ⟨by rw [h1, hn]; rfl, hend s pn env σ hn hs hI⟩
      | cons p l =>
        refine .inr ⟨by rw [h1, hn]; exact (fun h => by cases h), fun i hi => ?_⟩
        rw [h1] at hi
        obtain ⟨⟨i', s'⟩, hp, rfl⟩ := List.mem_map.1 hi
        obtain ⟨o, ho, hL⟩ := hstep s i' s' hp pn env σ hI
        refine ⟨o, ho, ?_⟩
        have h4 := List.all_eq_true.1 h2 _ hp
        rw [Bool.and_eq_true, Bool.and_eq_true] at h4
        obtain ⟨⟨h5, h6⟩, h7⟩ := h4
        have h5 := eq_of_beq h5
        have h7 := Nat.eq_of_beq_eq_true h7
        dsimp only at h5 h7
        rw [← h5]
        exact lin_imp (fun pn env σ h => linS_st enc nxt left all hok I hend hstep k s' pn env σ (by omega) (List.contains_iff_mem.1 h6) h) hL
end
end GAb
