/- One operation: what it does in the abstract heap, and that the machine does the same. No statement of the seat is proved in this text. -/
import Derived.Test.YtpocmkgfmmhhgaaAb7
set_option linter.unusedVariables false
set_option linter.unusedSimpArgs false
namespace GAb
open Go

/-! ### Is it nil? -/
def aNil (P : Program) (t : TypeId) (v u : Value) : Option Bool :=
  match P.underlying t, v, u with
  | some (.pointer _), .pointer (some _), .pointer none => some false
  | some (.pointer _), .pointer none, .pointer (some _) => some false
  | some (.slice _), .slice (some _) _ _, .slice none _ _ => some false
  | some (.slice _), .slice none _ _, .slice (some _) _ _ => some false
  | _, _, _ => none
def aEq (P : Program) (op : BinOp) (t : TypeId) (v u : Value) : Option Value :=
  match op with
  | .eql => (aNil P t v u).map .bool
  | .neq => (aNil P t v u).map fun b => .bool !b
  | _ => none

theorem nilPtr1 {P : Program} {w : World} {t e : TypeId} (hd : P.underlying t = some (.pointer e)) (a : Addr) (d : Nat) : (Op.equalIn (d + 1) t (.pointer (some a)) (.pointer none)).run P w = .ok false w := by
  simp only [Op.equalIn, Sem.run_bind, run_und hd, Result.andThen_ok, Sem.run_pure]
theorem nilPtr2 {P : Program} {w : World} {t e : TypeId} (hd : P.underlying t = some (.pointer e)) (a : Addr) (d : Nat) : (Op.equalIn (d + 1) t (.pointer none) (.pointer (some a))).run P w = .ok false w := by
  simp only [Op.equalIn, Sem.run_bind, run_und hd, Result.andThen_ok, Sem.run_pure]
  rfl
theorem nilSl1 {P : Program} {w : World} {t e : TypeId} (hd : P.underlying t = some (.slice e)) (a : Addr) (l c l' c' d : Nat) : (Op.equalIn (d + 1) t (.slice (some a) l c) (.slice none l' c')).run P w = .ok false w := by
  simp only [Op.equalIn, Sem.run_bind, run_und hd, Result.andThen_ok, Sem.run_pure]
theorem nilSl2 {P : Program} {w : World} {t e : TypeId} (hd : P.underlying t = some (.slice e)) (a : Addr) (l c l' c' d : Nat) : (Op.equalIn (d + 1) t (.slice none l' c') (.slice (some a) l c)).run P w = .ok false w := by
  simp only [Op.equalIn, Sem.run_bind, run_und hd, Result.andThen_ok, Sem.run_pure]
  rfl

theorem aNil_sound {P : Program} {t : TypeId} {v u : Value} {b : Bool} (h : aNil P t v u = some b) {φ : Ren} {v' u' : Value} (hv : VRel φ v v') (hu : VRel φ u u') (x y : Operand) :
    (∀ w : World, (Op.equal t v' u').run P w = .ok b w) ∧ (∀ op (w : World), (eqGuard op t x y v' u').run P w = .ok () w) ∧ binOp .eql t v' u' = (do pure (.bool (← Op.equal t v' u'))) ∧ binOp .neq t v' u' = (do pure (.bool (!(← Op.equal t v' u')))) := by
  unfold aNil at h
  split at h
  · rename_i e a hd
    injection h with h; subst h
    cases hv with
    | ptr o hp =>
    cases hu
    exact ⟨fun w => nilPtr1 hd _ 9999, fun op w => by cases op <;> rfl, rfl, rfl⟩
  · rename_i e a hd
    injection h with h; subst h
    cases hu with
    | ptr o hp =>
    cases hv
    exact ⟨fun w => nilPtr2 hd _ 9999, fun op w => by cases op <;> rfl, rfl, rfl⟩
  · rename_i e a _ _ _ _ hd
    injection h with h; subst h
    have h1 : ∃ a' l c, v' = .slice (some a') l c := by cases hv <;> exact ⟨_, _, _, rfl⟩
    have h2 : ∃ l c, u' = .slice none l c := by cases hu; exact ⟨_, _, rfl⟩
    obtain ⟨a', l, c, rfl⟩ := h1
    obtain ⟨l', c', rfl⟩ := h2
    exact ⟨fun w => nilSl1 hd _ _ _ _ _ 9999, fun op w => by cases op <;> rfl, rfl, rfl⟩
  · rename_i e _ _ a _ _ hd
    injection h with h; subst h
    have h1 : ∃ a' l c, u' = .slice (some a') l c := by cases hu <;> exact ⟨_, _, _, rfl⟩
    have h2 : ∃ l c, v' = .slice none l c := by cases hv; exact ⟨_, _, rfl⟩
    obtain ⟨a', l, c, rfl⟩ := h1
    obtain ⟨l', c', rfl⟩ := h2
    exact ⟨fun w => nilSl2 hd _ _ _ _ _ 9999, fun op w => by cases op <;> rfl, rfl, rfl⟩
  · cases h

theorem aEq_sound {P : Program} {op : BinOp} {t : TypeId} {v u r : Value} (h : aEq P op t v u = some r) {φ : Ren} {v' u' : Value} (hv : VRel φ v v') (hu : VRel φ u u') (x y : Operand) :
    (∀ w : World, (do eqGuard op t x y v' u'; binOp op t v' u' : Sem Value).run P w = .ok r w) ∧ VRel φ r r := by
  unfold aEq at h
  split at h
  · cases hn : aNil P t v u with
    | none => rw [hn] at h; cases h
    | some b =>
      rw [hn] at h
      injection h with h
      subst h
      obtain ⟨h1, h2, h3, _⟩ := aNil_sound hn hv hu x y
      refine ⟨fun w => ?_, .bool _⟩
      simp only [Sem.run_bind, h2, Result.andThen_ok, h3, h1, Sem.run_pure]
  · cases hn : aNil P t v u with
    | none => rw [hn] at h; cases h
    | some b =>
      rw [hn] at h
      injection h with h
      subst h
      obtain ⟨h1, h2, _, h3⟩ := aNil_sound hn hv hu x y
      refine ⟨fun w => ?_, .bool _⟩
      simp only [Sem.run_bind, h2, Result.andThen_ok, h3, h1, Sem.run_pure]
  · cases h

/-! ### The operation -/
abbrev AOut := Option (Value × AState × Option Nat)

def aparts (a : Act) : List (Nat × Operand) → Option (List (Nat × Value))
  | [] => some []
  | (i, x) :: ps => match aval a x, aparts a ps with
    | some v, some vs => some ((i, v) :: vs)
    | _, _ => none
theorem aparts_sound {φ : Ren} {a a' : Act} (h : ARel φ a a') : ∀ {xs : List (Nat × Operand)} {vs : List (Nat × Value)}, aparts a xs = some vs → PRel φ vs (xs.map fun p => (p.1, a'.eval p.2))
  | [], vs, hx => by simp only [aparts, Option.some.injEq] at hx; subst hx; exact .nil
  | (i, x) :: xs, vs, hx => by
    simp only [aparts] at hx
    split at hx
    · rename_i v vs' h1 h2
      injection hx with hx
      subst hx
      exact .cons (aval_sound h h1) (aparts_sound h h2)
    · cases hx

def aopt (a : Act) : Option Operand → Option (Option Value)
  | none => some none
  | some x => match aval a x with
    | some v => if pf v then some (some v) else none
    | none => none
theorem aopt_sound {φ : Ren} {a a' : Act} (h : ARel φ a a') {x : Option Operand} {v : Option Value} (hx : aopt a x = some v) : x.map a'.eval = v := by
  cases x with
  | none => simp only [aopt, Option.some.injEq] at hx; subst hx; rfl
  | some x =>
    simp only [aopt] at hx
    split at hx
    · rename_i u hu
      split at hx
      · rename_i hp
        injection hx with hx
        subst hx
        simp [pf_eq hp (aval_sound h hu)]
      · cases hx
    · cases hx

def aBuiltin (P : Program) (b : Builtin) (c : Call) (o : Oper) (a : Act) (σ : AState) : AOut :=
  match b, c.args.toList with
  | .append, [x, y] => match aval a x, aval a y with
    | some v, some u => aAppend P c.argTypes v u σ
    | _, _ => none
  | .copy, [x, y] => match aval a x, aval a y with
    | some v, some u => aCopy P c.argTypes v u σ
    | _, _ => none
  | .clear, [x] => match aval a x with
    | some v => aClear P c.argTypes v σ
    | none => none
  | .len, [x] => match c.argTypes[0]?, aval a x with
    | some t, some (.slice q n cap) => match P.underlying t with
      | some (.slice _) => some (.int .i64 n, σ, none)
      | _ => none
    | _, _ => gen P o a σ
  | .cap, [x] => match c.argTypes[0]?, aval a x with
    | some t, some (.slice (some ⟨_, _, some 0⟩) n cap) => match P.underlying t with
      | some (.slice _) => some (.int .i64 cap, σ, none)
      | _ => none
    | _, _ => gen P o a σ
  | _, _ => gen P o a σ

def aop (P : Program) (o : Oper) (a : Act) (σ : AState) : AOut :=
  match o.op with
  | .move x | .assign x => match aval a x with
    | some v => some (v, σ, none)
    | none => none
  | .pick c x y => match aval a c, aval a x, aval a y with
    | some (.bool t), some v, some u => some (if t then v else u, σ, none)
    | _, _, _ => none
  | .alloc e => match aAlloc P e σ with
    | some (v, s) => some (v, s, none)
    | none => none
  | .box _ x => match aval a x with
    | some v => some ((aBox v σ).1, (aBox v σ).2, none)
    | none => none
  | .build t ps => match aparts a ps.toList with
    | some qs => match aBuild P t qs with
      | some v => some (v, σ, none)
      | none => none
    | none => none
  | .buildSlice t len ps => match aparts a ps.toList with
    | some qs => match aBuildSlice P t len qs σ with
      | some (v, s) => some (v, s, none)
      | none => none
    | none => none
  | .load t x => match aval a x with
    | some v => match aLoad P t v σ with
      | some r => some (r, σ, none)
      | none => none
    | none => none
  | .store t x y => match aval a x, aval a y with
    | some v, some u => match aStore P t v u σ with
      | some (s, n) => some (undef, s, some n)
      | none => none
    | _, _ => none
  | .nilCheck x => match aval a x with
    | some (.pointer (some q)) => some (.pointer (some q), σ, none)
    | _ => none
  | .binOp op t x y _ => match aval a x, aval a y with
    | some v, some u => if pf v && pf u then gen P o a σ else
      match aEq P op t v u with
      | some r => some (r, σ, none)
      | none => none
    | _, _ => none
  | .convert src dst x => match P.underlying src, P.underlying dst, aval a x with
    | some (.slice _), some .string, some v => match aStr P src dst v σ with
      | some r => some (r, σ, none)
      | none => none
    | some .string, some (.slice _), some v => match aBytes P src dst v σ with
      | some (r, s) => some (r, s, none)
      | none => none
    | some (.slice _), some (.slice _), some v => aSame P src dst v σ
    | _, _, _ => gen P o a σ
  | .makeFunc fn fs cs => match avals a fs.toList, avals a cs.toList with
    | some vs, some us => some (.func fn vs.toArray us.toArray, σ, none)
    | _, _ => none
  | .makeSlice t l c => match aval a l, aval a c with
    | some v, some u => if pf v && pf u then
        match aMake P t v u σ with
        | some (r, s) => some (r, s, none)
        | none => none
      else none
    | _, _ => none
  | .slice t x lo hi mx => match aval a x with
    | some (.slice q l c) => match aopt a lo, aopt a hi, aopt a mx with
      | some vl, some vh, some vm => match aSlice P t (.slice q l c) vl vh vm σ with
        | some r => some (r, σ, none)
        | none => none
      | _, _, _ => none
    | _ => gen P o a σ
  | .fieldAddr s x f => match aval a x with
    | some v => match aFieldAddr P s v f with
      | some r => some (r, σ, none)
      | none => none
    | none => none
  | .field t x f => match aval a x with
    | some v => match aField P t v f with
      | some r => some (r, σ, none)
      | none => none
    | none => none
  | .indexAddr t x ix => match aval a x, aval a ix with
    | some v, some u => match aIndexAddr P t v u with
      | some r => some (r, σ, none)
      | none => none
    | _, _ => none
  | .extract x i => match aval a x with
    | some v => match aExtract v i with
      | some r => some (r, σ, none)
      | none => none
    | none => none
  | .call c => match c.callee with
    | .builtin b => aBuiltin P b c o a σ
    | _ => none
  | _ => gen P o a σ

theorem aBuiltin_sound {P : Program} {b : Builtin} {c : Call} {o : Oper} {a : Act} {σ σ' : AState} {v : Value} {wn : Option Nat} (ho : o.op = .call c) (hc : c.callee = .builtin b) (h : aBuiltin P b c o a σ = some (v, σ', wn)) : OpOK P o a σ v σ' wn := by
  have hex : ∀ a' : Act, execOp a'.eval o = (do pure (.value (← (match b with
      | .append => Builtin.append_ c.argTypes o.type (c.args.map a'.eval)
      | .copy => Builtin.copy_ c.argTypes o.type (c.args.map a'.eval)
      | .clear => Builtin.clear_ c.argTypes o.type (c.args.map a'.eval)
      | .len => Builtin.len_ c.argTypes o.type (c.args.map a'.eval)
      | .cap => Builtin.cap_ c.argTypes o.type (c.args.map a'.eval)
      | _ => stuck "")))) ∨ ¬ (b = .append ∨ b = .copy ∨ b = .clear ∨ b = .len ∨ b = .cap) := fun a' => by
    cases b <;> first
      | (refine .inl ?_; simp only [execOp, ho, resolve, hc, pure_bind, invoke, builtin]; done)
      | (refine .inr ?_; simp)
  unfold aBuiltin at h
  split at h
  · rename_i x y hargs
    split at h
    · rename_i v1 v2 h1 h2
      intro φ w a' hr ha
      obtain ⟨φ', u, w', g1, g2, g3⟩ := aAppend_sound (ty := o.type) h hr (aval_sound ha h1) (aval_sound ha h2)
      have hm : c.args.map a'.eval = #[a'.eval x, a'.eval y] := by apply Array.ext'; simp [hargs]
      rcases hex a' with he | he
      · exact ⟨φ', u, w', .inl (by rw [he]; simp [hm, g1]), g2, g3⟩
      · simp at he
    · cases h
  · rename_i x y hargs
    split at h
    · rename_i v1 v2 h1 h2
      intro φ w a' hr ha
      obtain ⟨u, w', g1, g2, g3⟩ := aCopy_sound (ty := o.type) h hr (aval_sound ha h1) (aval_sound ha h2)
      have hm : c.args.map a'.eval = #[a'.eval x, a'.eval y] := by apply Array.ext'; simp [hargs]
      rcases hex a' with he | he
      · exact ⟨φ, u, w', .inl (by rw [he]; simp [hm, g1]), g2, g3⟩
      · simp at he
    · cases h
  · rename_i x hargs
    split at h
    · rename_i v1 h1
      intro φ w a' hr ha
      obtain ⟨u, w', g1, g2, g3⟩ := aClear_sound (ty := o.type) h hr (aval_sound ha h1)
      have hm : c.args.map a'.eval = #[a'.eval x] := by apply Array.ext'; simp [hargs]
      rcases hex a' with he | he
      · exact ⟨φ, u, w', .inl (by rw [he]; simp [hm, g1]), g2, g3⟩
      · simp at he
    · cases h
  · rename_i x hargs
    split at h
    · rename_i t q n cap ht hx
      split at h
      · rename_i e hu
        injection h with h
        injection h with e1 e2
        injection e2 with e2 e3
        subst e1; subst e2; subst e3
        intro φ w a' hr ha
        have hv := aval_sound ha hx
        have hm : c.args.map a'.eval = #[a'.eval x] := by apply Array.ext'; simp [hargs]
        rcases hex a' with he | he
        · refine ⟨φ, .int .i64 n, w, .inl ?_, .int _ _, Goes.refl hr⟩
          rw [he]
          generalize a'.eval x = y at hv hm
          have : ∃ q' c', y = .slice q' n c' := by cases hv <;> exact ⟨_, _, rfl⟩
          obtain ⟨q', c', rfl⟩ := this
          simp [hm, Builtin.len_, ht, run_und hu, goInt]
        · simp at he
      · cases h
    · exact gen_sound h
  · rename_i x hargs
    split at h
    · rename_i t _ _ n cap ht hx
      split at h
      · rename_i e hu
        injection h with h
        injection h with e1 e2
        injection e2 with e2 e3
        subst e1; subst e2; subst e3
        intro φ w a' hr ha
        have hv := aval_sound ha hx
        have hm : c.args.map a'.eval = #[a'.eval x] := by apply Array.ext'; simp [hargs]
        rcases hex a' with he | he
        · refine ⟨φ, .int .i64 cap, w, .inl ?_, .int _ _, Goes.refl hr⟩
          rw [he]
          generalize a'.eval x = y at hv hm
          have : ∃ q', y = .slice q' n cap := by cases hv <;> exact ⟨_, rfl⟩
          obtain ⟨q', rfl⟩ := this
          simp [hm, Builtin.cap_, ht, run_und hu, goInt]
        · simp at he
      · cases h
    · exact gen_sound h
  · exact gen_sound h

end GAb
