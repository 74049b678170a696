/- A run of the program over the abstract heap, by a number of steps, and that the machine does the same. No statement of the seat is proved in this text. -/
import Derived.Test.YtpocmkgfmmhhgaaAb11
set_option linter.unusedVariables false
set_option linter.unusedSimpArgs false
namespace GAb
open Go

inductive Task where
  | code (c : Code) (a : Act)
  | ops (all : Array Oper) (rest : List Oper) (a : Act)
  | any (all : Array Oper) (fuel : Nat) (listed : Array Bool) (p : List (Nat × Nat)) (tk : List Nat) (a : Act)
  | call (f : FuncId) (args : List Value)

def freeOf (pr : List Nat) : Option Nat → Bool
  | none => true
  | some n => !pr.contains n

/-- Functions that are not run but taken by what is proved of them. -/
abbrev Known := FuncId → Option (List Value → AState → List Nat → Option (Value × AState))

def val1 (v : Value) : Act := { tmps := #[v], defers := [] }

def ev (P : Program) (kn : Known) : Nat → List Nat → Task → AState → Option (Exit × Act × AState)
  | 0, _, _, _ => none
  | n + 1, pr, .code c a, σ =>
    match c with
    | .skip => some (.normal, a, σ)
    | .ret => some (.ret, a, σ)
    | .exit id => some (.exit id, a, σ)
    | .seq x y => match ev P kn n pr (.code x a) σ with
      | some (.normal, a', σ') => ev P kn n pr (.code y a') σ'
      | r => r
    | .cond c x y => match aval a c with
      | some (.bool t) => ev P kn n pr (.code (if t then x else y) a) σ
      | _ => none
    | .block id b => match ev P kn n pr (.code b a) σ with
      | some (.exit id', a', σ') => if id' = id then some (.normal, a', σ') else some (.exit id', a', σ')
      | r => r
    | .loop b => match ev P kn n pr (.code b a) σ with
      | some (.normal, a', σ') => ev P kn n pr (.code (.loop b) a') σ'
      | r => r
    | .region _ all false => ev P kn n pr (.ops all all.toList a) σ
    | .region _ all true => if P.follows .mixedOrders && Region.noSelect all then ev P kn n pr (.any all all.size (Array.replicate all.size false) [] [] a) σ else none
    | _ => none
  | n + 1, pr, .ops all l a, σ =>
    match l with
    | [] => some (.normal, a, σ)
    | o :: rest =>
      if Region.wanted o (yielded all a.tmps) then
        match aop P o a σ with
        | some (v, σ', wn) => if freeOf pr wn then ev P kn n pr (.ops all rest (a.put o.dst v)) σ' else none
        | none => match target P o a with
          | some (g, vs) => match ev P kn n pr (.call g vs) σ with
            | some (_, b, σ') => ev P kn n pr (.ops all rest (a.put o.dst (b.tmps.getD 0 undef))) σ'
            | none => none
          | none => none
      else ev P kn n pr (.ops all rest (a.put o.dst undef)) σ
  | n + 1, pr, .any all fuel listed p tk a, σ =>
    match (Region.ready .any all listed).find? (fun i => match all[i]? with | some o => isTake P o && Region.free .any all listed i | none => false) with
    | some i => match fuel, all[i]? with
      | fuel + 1, some o =>
        if Region.wanted o (yielded all a.tmps) then
          match aop P o a σ with
          | some (v, _, _) => ev P kn n pr (.any all fuel (listed.setIfInBounds i true) (entry i (rbName o a) ++ p) (i :: tk) (a.put o.dst v)) σ
          | none => none
        else ev P kn n pr (.any all fuel (listed.setIfInBounds i true) p (i :: tk) (a.put o.dst undef)) σ
      | _, _ => none
    | none => match Region.ready .any all listed, fuel with
      | [], _ => some (.normal, a, σ)
      | [i], fuel + 1 => match all[i]? with
        | some o =>
          if (rem all i p).all (fun m => (σ.get m.2).isSome) then
            if Region.wanted o (yielded all a.tmps) then
              match aop P o a σ with
              | some (v, σ', wn) => if freeOf ((rem all i p).map (·.2) ++ pr) wn then ev P kn n pr (.any all fuel (listed.setIfInBounds i true) (rem all i p) tk (a.put o.dst v)) σ' else none
              | none => match target P o a with
                | some (g, vs) => match ev P kn n ((rem all i p).map (·.2) ++ pr) (.call g vs) σ with
                  | some (_, b, σ') => ev P kn n pr (.any all fuel (listed.setIfInBounds i true) (rem all i p) tk (a.put o.dst (b.tmps.getD 0 undef))) σ'
                  | none => none
                | none => none
            else ev P kn n pr (.any all fuel (listed.setIfInBounds i true) (rem all i p) tk (a.put o.dst undef)) σ
          else none
        | none => none
      | _, _ => none
  | n + 1, pr, .call f args, σ =>
    match kn f with
    | some k => match k args σ pr with
      | some (v, σ') => some (.normal, val1 v, σ')
      | none => none
    | none => match P.funcs[f]? with
      | some fn => match fn.body with
        | some c => match ev P kn n pr (.code c (enterAct fn args)) σ with
          | some (.normal, a, σ') => match aResults P fn a σ' with
            | some v => some (.normal, val1 v, σ')
            | none => none
          | some (.ret, a, σ') => match aResults P fn a σ' with
            | some v => some (.normal, val1 v, σ')
            | none => none
          | _ => none
        | none => none
      | none => none

def KnownOK (P : Program) (kn : Known) : Prop :=
  ∀ f k args σ pr v σ', kn f = some k → k args σ pr = some (v, σ') → SCall P (fun m => m ∉ pr) f args σ (fun v' s' => v' = v ∧ s' = σ')

def Good (P : Program) (pr : List Nat) (σ : AState) (r : Exit × Act × AState) : Task → Prop
  | .code c a => ∀ B : Base, (∀ m, m ∉ pr → B.D m) → SCode P B c (fun e a' σ' => (e, a', σ') = r) a σ
  | .ops all l a => ∀ B : Base, (∀ m, m ∉ pr → B.D m) → SOps P B all l (fun e a' σ' => (e, a', σ') = r) a σ
  | .any all fuel listed p tk a => Region.noSelect all = true → ∀ B : Base, (∀ m, m ∉ pr → B.D m) → SAny P B all fuel listed p tk (fun e a' σ' => (e, a', σ') = r) a σ
  | .call f args => SCall P (fun m => m ∉ pr) f args σ (fun v σ' => r = (.normal, val1 v, σ'))

theorem freeOf_spec {pr : List Nat} {wn : Option Nat} (h : freeOf pr wn = true) (n : Nat) (hn : wn = some n) : n ∉ pr := by
  subst hn
  simpa [freeOf] using h

theorem ev_sound {P : Program} {kn : Known} (hk : KnownOK P kn) : ∀ (n : Nat) (pr : List Nat) (t : Task) (σ : AState) (r : Exit × Act × AState), ev P kn n pr t σ = some r → Good P pr σ r t := by
  intro n
  induction n using Nat.strongRecOn with
  | _ n ih =>
  intro pr t σ r h
  cases n with
  | zero => simp [ev] at h
  | succ n =>
  have ihn := ih n (Nat.lt_succ_self n)
  cases t with
  | code c a =>
    intro B hB
    cases c with
    | skip => simp only [ev, Option.some.injEq] at h; exact s_skip h
    | ret => simp only [ev, Option.some.injEq] at h; exact s_ret h
    | exit id => simp only [ev, Option.some.injEq] at h; exact s_exit h
    | seq x y =>
      simp only [ev] at h
      split at h
      · rename_i a' σ' hx
        refine s_seq (SCode.mono (ihn _ _ _ _ hx B hB) ?_)
        intro e a2 σ2 he
        injection he with e1 e2
        injection e2 with e2 e3
        subst e1; subst e2; subst e3
        exact ihn _ _ _ _ h B hB
      · rename_i hne
        refine s_seq (SCode.mono (ihn _ _ _ _ h B hB) ?_)
        intro e a2 σ2 he
        subst he
        cases e with
        | normal => exact (hne _ _ h).elim
        | _ => rfl
    | cond c x y =>
      simp only [ev] at h
      split at h
      · rename_i t hc
        exact s_cond hc (ihn _ _ _ _ h B hB)
      · cases h
    | block id b =>
      simp only [ev] at h
      split at h
      · rename_i id' a' σ' hx
        refine s_block (SCode.mono (ihn _ _ _ _ hx B hB) ?_)
        intro e a2 σ2 he
        injection he with e1 e2
        injection e2 with e2 e3
        subst e1; subst e2; subst e3
        simp only [inBlockS]
        split at h
        · rename_i hid; rw [if_pos hid]; injection h
        · rename_i hid; rw [if_neg hid]; injection h
      · rename_i hne
        refine s_block (SCode.mono (ihn _ _ _ _ h B hB) ?_)
        intro e a2 σ2 he
        subst he
        cases e with
        | exit id' => exact (hne _ _ _ h).elim
        | _ => rfl
    | loop b =>
      refine s_loop (fun k a σ => k ≤ n + 1 ∧ ev P kn k pr (.code (.loop b) a) σ = some r) (n + 1) ⟨Nat.le_refl _, h⟩ ?_
      rintro k a σ ⟨hle, hk'⟩
      cases k with
      | zero => simp [ev] at hk'
      | succ k =>
        simp only [ev] at hk'
        split at hk'
        · rename_i a' σ' hx
          refine SCode.mono (ih k (by omega) _ _ _ _ hx B hB) ?_
          intro e a2 σ2 he
          injection he with e1 e2
          injection e2 with e2 e3
          subst e1; subst e2; subst e3
          exact ⟨k, Nat.lt_succ_self k, by omega, hk'⟩
        · rename_i hne
          refine SCode.mono (ih k (by omega) _ _ _ _ hk' B hB) ?_
          intro e a2 σ2 he
          subst he
          cases e with
          | normal => exact (hne _ _ hk').elim
          | _ => rfl
    | region id all d =>
      cases d with
      | false => simp only [ev] at h; exact s_region (ihn _ _ _ _ h B hB)
      | true =>
        simp only [ev] at h
        split at h
        · rename_i hm
          simp only [Bool.and_eq_true] at hm
          exact s_region_draw hm.1 (ihn _ _ _ _ h hm.2 B hB)
        · cases h
    | _ => simp only [ev] at h; cases h
  | ops all l a =>
    intro B hB
    cases l with
    | nil => simp only [ev, Option.some.injEq] at h; exact o_nil h
    | cons o rest =>
      simp only [ev] at h
      split at h
      · rename_i hw
        split at h
        · rename_i v σ' wn ho
          split at h
          · rename_i hf
            exact o_op hw ho (fun m hm => hB m (freeOf_spec hf m hm)) (ihn _ _ _ _ h B hB)
          · cases h
        · split at h
          · rename_i g vs ht
            split at h
            · rename_i e b σ' hc
              refine o_call hw ht (D := fun m => m ∉ pr) hB ((ihn _ _ _ _ hc).mono (fun _ _ hm => hm) ?_)
              intro v s' hv
              injection hv with e1 e2
              injection e2 with e2 e3
              subst e2; subst e3
              exact ihn _ _ _ _ h B hB
            · cases h
          · cases h
      · rename_i hw
        exact o_skip (by simpa using hw) (ihn _ _ _ _ h B hB)
  | any all fuel listed p tk a =>
    intro hs B hB
    simp only [ev] at h
    split at h
    · rename_i i hfind
      have h1 := List.find?_some hfind
      have h2 := List.mem_of_find?_eq_some hfind
      split at h
      · rename_i fuel o ho
        simp only [ho, Bool.and_eq_true] at h1
        have hr : (Region.ready .any all listed).contains i = true := by simpa using h2
        split at h
        · rename_i hw
          split at h
          · rename_i v _ _ hop
            exact any_take ho hs h1.2 hr hw h1.1 hop (ihn _ _ _ _ h hs B hB)
          · cases h
        · rename_i hw
          exact any_take_skip ho hs h1.2 hr (by simpa using hw) (ihn _ _ _ _ h hs B hB)
      · cases h
    · split at h
      · rename_i hr
        injection h with h
        exact any_done hr h _
      · rename_i i fuel hr
        split at h
        · rename_i o ho
          split at h
          · rename_i hall
            have hl : ∀ e, e ∈ rem all i p → ∃ b, σ.get e.2 = some b := fun m hm => Option.isSome_iff_exists.1 (List.all_eq_true.1 hall m hm)
            split at h
            · rename_i hw
              split at h
              · rename_i v σ' wn hop
                split at h
                · rename_i hf
                  exact any_only ho hr hw hop (fun m hm => hB m fun hin => freeOf_spec hf m hm (List.mem_append.2 (.inr hin))) (fun e he hwn => freeOf_spec hf e.2 hwn (List.mem_append.2 (.inl (List.mem_map.2 ⟨e, he, rfl⟩)))) hl (ihn _ _ _ _ h hs B hB)
                · cases h
              · split at h
                · rename_i g vs ht
                  split at h
                  · rename_i e b σ' hc
                    refine any_call ho hr hw ht (D := fun m => m ∉ (rem all i p).map (·.2) ++ pr) (fun m hm => hB m fun hin => hm (List.mem_append.2 (.inr hin))) (fun e he hm2 => hm2 (List.mem_append.2 (.inl (List.mem_map.2 ⟨e, he, rfl⟩)))) hl ((ihn _ _ _ _ hc).mono (fun _ _ hm => hm) ?_)
                    intro v s' hv
                    injection hv with e1 e2
                    injection e2 with e2 e3
                    subst e2; subst e3
                    exact ihn _ _ _ _ h hs B hB
                  · cases h
                · cases h
            · rename_i hw
              exact any_only_skip ho hr (by simpa using hw) hl (ihn _ _ _ _ h hs B hB)
          · cases h
        · cases h
      · cases h
  | call f args =>
    simp only [ev] at h
    split at h
    · rename_i k hkf
      split at h
      · rename_i v σ' hv
        injection h with h
        refine (hk f k args σ pr v σ' hkf hv).mono (fun _ _ hm => hm) ?_
        rintro v' s' ⟨rfl, rfl⟩
        exact h.symm
      · cases h
    · split at h
      · rename_i fn hf
        split at h
        · rename_i c hb
          split at h
          · rename_i a σ' hx
            split at h
            · rename_i v hv
              injection h with h
              refine s_fun hf hb fun B hBD => SCode.mono (ihn _ _ _ _ hx B (fun m hm => by rw [hBD]; exact hm)) ?_
              intro e a2 σ2 he
              injection he with e1 e2
              injection e2 with e2 e3
              subst e1; subst e2; subst e3
              exact ⟨.inl rfl, v, hv, h.symm⟩
            · cases h
          · rename_i a σ' hx
            split at h
            · rename_i v hv
              injection h with h
              refine s_fun hf hb fun B hBD => SCode.mono (ihn _ _ _ _ hx B (fun m hm => by rw [hBD]; exact hm)) ?_
              intro e a2 σ2 he
              injection he with e1 e2
              injection e2 with e2 e3
              subst e1; subst e2; subst e3
              exact ⟨.inr rfl, v, hv, h.symm⟩
            · cases h
          · cases h
        · cases h
      · cases h

/-! ### Runs that begin with an empty heap -/
def empty : AState := { heap := .leaf, next := 0 }
theorem get_empty (n : Nat) : empty.get n = none := rfl

/-- What is run with an empty heap and tells a value without places is told so beside whatever heap, which stays. -/
theorem frame_empty {P : Program} {D E : Nat → Prop} {f : FuncId} {args : List Value} {R : Value → Prop} (h : SCall P D f args empty (fun v _ => pf v = true ∧ R v)) (ha : args.all pf = true) (σ : AState) :
    SCall P E f args σ (fun v σ' => pf v = true ∧ R v ∧ σ' = σ) := by
  intro φ w args' hr har
  have hargs : args' = args := by
    have : ∀ {a b : List Value}, LRel φ a b → a.all pf = true → b = a := fun {a b} h => by
      induction h with
      | nil => intro _; rfl
      | cons h _ ih =>
        intro hf
        simp only [List.all_cons, Bool.and_eq_true] at hf
        rw [pf_eq hf.1 h, ih hf.2]
    exact this har ha
  subst hargs
  have hr0 : HRel (fun _ => none) empty w := ⟨fun _ _ => rfl, fun n _ => get_empty n, (fun n b h => by rw [get_empty] at h; cases h), (fun n m bn bm p q h => by rw [get_empty] at h; cases h), (fun n p h => by cases h)⟩
  have har0 : LRel (fun _ => none) args' args' := by
    clear h har
    induction args' with
    | nil => exact .nil
    | cons v vs ih =>
      simp only [List.all_cons, Bool.and_eq_true] at ha
      exact .cons (pf_rel ha.1) (ih ha.2)
  refine (h _ w args' hr0 har0).mono ?_
  rintro e w' ⟨v, σ', φ', u, rfl, ⟨hp, hR⟩, hv, hg⟩
  have hu := pf_eq hp hv
  subst hu
  have same : ∀ g, g < w.heap.size → w'.heap[g]? = w.heap[g]? := fun g hlt => hg.kept g hlt fun n b p h => by rw [get_empty] at h; cases h
  refine ⟨u, σ, φ, u, rfl, ⟨hp, hR, rfl⟩, pf_rel hp, ⟨.refl _, ⟨hr.fresh, hr.dead, fun n b hb => ?_, hr.inj, fun n p hn => Nat.lt_of_lt_of_le (hr.lt n p hn) hg.size⟩, hg.size, hg.tape, hg.os, hg.output, Nat.le_refl _, fun n b _ h => ⟨b, h, rfl⟩, fun g hlt _ => same g hlt, fun n p h1 h2 => by rw [h1] at h2; cases h2⟩⟩
  rcases hr.blk n b hb with ⟨q, c2, e2, f2, b1, b2, b3⟩ | hB
  · exact .inl ⟨q, c2, e2, f2, b1, by rw [same _ (hr.lt n q b1)]; exact b2, b3⟩
  · exact .inr (hB.mv (.refl _) fun q hq _ => same _ (hr.lt n q hq))

/-- A closed run. -/
theorem closed_run {P : Program} {f : FuncId} {args : List Value} {n : Nat} {v : Value} {σ' : AState} (h : ev P (fun _ => none) n [] (.call f args) empty = some (.normal, val1 v, σ')) (hp : pf v = true) (ha : args.all pf = true) (E : Nat → Prop) (σ : AState) :
    SCall P E f args σ (fun v' s' => v' = v ∧ s' = σ) := by
  have h1 := ev_sound (kn := fun _ => none) (fun f k _ _ _ _ _ h => by cases h) n [] (.call f args) empty _ h
  have h2 : SCall P (fun m => m ∉ []) f args empty (fun v' _ => pf v' = true ∧ v' = v) := h1.mono (fun _ _ h => h) fun v' s' e => by
    injection e with e1 e2
    injection e2 with e2 e3
    have : v' = v := by
      have := congrArg (fun a => a.tmps.getD 0 undef) e2
      simpa [val1] using this.symm
    subst this
    exact ⟨hp, rfl⟩
  exact (frame_empty (E := E) h2 ha σ).mono (fun _ _ h => h) fun v' s' ⟨_, h1, h2⟩ => ⟨h1, h2⟩

theorem ev_call {P : Program} {kn : Known} {n : Nat} {pr : List Nat} {f : FuncId} {args : List Value} {σ σ' : AState} {e : Exit} {a : Act} (h : ev P kn n pr (.call f args) σ = some (e, a, σ')) : ∃ v, e = .normal ∧ a = val1 v := by
  cases n with
  | zero => simp [ev] at h
  | succ n =>
    simp only [ev] at h
    split at h
    · split at h
      · injection h with h; injection h with h1 h2; injection h2 with h2 h3; exact ⟨_, h1.symm, h2.symm⟩
      · cases h
    · split at h
      · split at h
        · split at h
          · split at h
            · injection h with h; injection h with h1 h2; injection h2 with h2 h3; exact ⟨_, h1.symm, h2.symm⟩
            · cases h
          · split at h
            · injection h with h; injection h with h1 h2; injection h2 with h2 h3; exact ⟨_, h1.symm, h2.symm⟩
            · cases h
          · cases h
        · cases h
      · cases h

/-- What a run tells. -/
def told (r : Option (Exit × Act × AState)) : Option Value :=
  match r with
  | some (_, a, _) => some (a.tmps.getD 0 undef)
  | none => none

/-- A closed run, by what it tells. -/
theorem closed_told {P : Program} {f : FuncId} {args : List Value} {n : Nat} {v : Value} (h : told (ev P (fun _ => none) n [] (.call f args) empty) = some v) (hp : pf v = true) (ha : args.all pf = true) (E : Nat → Prop) (σ : AState) :
    SCall P E f args σ (fun v' s' => v' = v ∧ s' = σ) := by
  cases hr : ev P (fun _ => none) n [] (.call f args) empty with
  | none => rw [hr] at h; cases h
  | some r =>
    obtain ⟨e, a, σ'⟩ := r
    obtain ⟨u, rfl, rfl⟩ := ev_call hr
    rw [hr] at h
    have : u = v := by simpa [told, val1] using h
    subst this
    exact closed_run hr hp ha E σ

end GAb
