/- Regions whose order is drawn, over the abstract heap. No statement of the seat is proved in this text. -/
import Derived.Test.YtpocmkgfmmhhgaaAb10
set_option linter.unusedVariables false
set_option linter.unusedSimpArgs false
namespace GAb
open Go

/-- An operation that writes nothing and lays nothing. -/
def isTake (P : Program) (o : Oper) : Bool :=
  match o.op with
  | .move _ | .assign _ | .pick .. | .build .. | .nilCheck _ | .binOp .. | .unOp .. | .makeFunc .. | .slice .. | .fieldAddr .. | .field .. | .indexAddr .. | .index .. | .extract .. | .load .. => true
  | .convert _ dst _ => match P.underlying dst with
    | some (.slice _) => false
    | _ => true
  | .call c => match c.callee with
    | .builtin .len | .builtin .cap | .builtin .min | .builtin .max => true
    | _ => false
  | _ => false

/-- The block that it reads. -/
def rbName (o : Oper) (a : Act) : Option Nat :=
  match o.op with
  | .load _ x | .convert _ _ x => match aval a x with
    | some v => rdName v
    | none => none
  | _ => none

def TakeOK (P : Program) (o : Oper) (a : Act) (σ : AState) (v : Value) : Prop :=
  ∀ φ w a', HRel φ σ w → ARel φ a a' → ∃ u, VRel φ v u ∧ ∀ w2 : World, (∀ n p, rbName o a = some n → φ n = some p → w2.heap[p.g]? = w.heap[p.g]?) → (execOp a'.eval o).run P w2 = .ok (.value u) w2

theorem gen_take {P : Program} {o : Oper} {a : Act} {σ σ' : AState} {v : Value} {wn : Option Nat} (h : gen P o a σ = some (v, σ', wn)) : σ' = σ ∧ TakeOK P o a σ v := by
  unfold gen at h
  split at h
  · rename_i hc
    simp only [Bool.and_eq_true, List.all_eq_true] at hc
    obtain ⟨hall, hns⟩ := hc
    split at h
    · rename_i v' hpv
      split at h
      · rename_i hp
        injection h with h
        injection h with e1 e2
        injection e2 with e2 e3
        subst e1; subst e2; subst e3
        refine ⟨rfl, fun φ w a' hr ha => ?_⟩
        have he : execOp a'.eval o = execOp a.eval o := execOp_congr o (fun cs b e => by rw [e] at hns; cases hns) fun x hx => by
          have hpx := hall x (by simpa using hx)
          unfold pfOperand at hpx
          split at hpx
          · rename_i u hu
            rw [aval_eval hu]
            exact pf_eq hpx (aval_sound ha hu)
          · cases hpx
        exact ⟨_, pf_rel hp, fun w2 _ => by rw [he]; exact pv_run hpv w2⟩
      · cases h
    · cases h
  · cases h

theorem take_sound {P : Program} {o : Oper} {a : Act} {σ σ' : AState} {v : Value} {wn : Option Nat} (ht : isTake P o = true) (h : aop P o a σ = some (v, σ', wn)) : σ' = σ ∧ TakeOK P o a σ v := by
  unfold aop at h
  split at h
  · -- move
    rename_i x ho
    split at h
    · rename_i u hx
      injection h with h; injection h with e1 e2; injection e2 with e2 e3; subst e1; subst e2; subst e3
      exact ⟨rfl, fun φ w a' hr ha => ⟨a'.eval x, aval_sound ha hx, fun w2 _ => by simp [execOp, ho]⟩⟩
    · cases h
  · -- assign
    rename_i x ho
    split at h
    · rename_i u hx
      injection h with h; injection h with e1 e2; injection e2 with e2 e3; subst e1; subst e2; subst e3
      exact ⟨rfl, fun φ w a' hr ha => ⟨a'.eval x, aval_sound ha hx, fun w2 _ => by simp [execOp, ho]⟩⟩
    · cases h
  · -- pick
    rename_i c x y ho
    split at h
    · rename_i t v1 v2 hc hx hy
      injection h with h; injection h with e1 e2; injection e2 with e2 e3; subst e1; subst e2; subst e3
      refine ⟨rfl, fun φ w a' hr ha => ?_⟩
      have h1 := aval_sound ha hc
      have h2 := aval_sound ha hx
      have h3 := aval_sound ha hy
      have he : a'.eval c = .bool t := flat_eq rfl h1
      refine ⟨if t then a'.eval x else a'.eval y, ?_, fun w2 _ => by simp [execOp, ho, he, asBool]⟩
      cases t <;> assumption
    · cases h
  · -- alloc
    rename_i e ho
    simp [isTake, ho] at ht
  · rename_i e x ho
    simp [isTake, ho] at ht
  · -- build
    rename_i t ps ho
    split at h
    · rename_i qs hq
      split at h
      · rename_i v1 hb
        injection h with h; injection h with e1 e2; injection e2 with e2 e3; subst e1; subst e2; subst e3
        refine ⟨rfl, fun φ w a' hr ha => ?_⟩
        obtain ⟨u, g1, g2⟩ := aBuild_sound (φ := φ) hb (aparts_sound ha hq)
        refine ⟨u, g2, fun w2 _ => ?_⟩
        have : (ps.map fun x => (x.1, a'.eval x.2)) = (ps.toList.map fun p => (p.1, a'.eval p.2)).toArray := by apply Array.ext'; simp
        simp only [execOp, ho, this, Sem.run_bind, g1, Result.andThen_ok, Sem.run_pure]
      · cases h
    · cases h
  · rename_i t len ps ho
    simp [isTake, ho] at ht
  · -- load
    rename_i t x ho
    split at h
    · rename_i v0 hx
      split at h
      · rename_i r hl
        injection h with h; injection h with e1 e2; injection e2 with e2 e3; subst e1; subst e2; subst e3
        refine ⟨rfl, fun φ w a' hr ha => ?_⟩
        obtain ⟨u, g1, g2⟩ := aLoad_sound hl hr (aval_sound ha hx)
        refine ⟨u, g2, fun w2 hw2 => ?_⟩
        have := g1 w2 fun n p hn hp => hw2 n p (by simp [rbName, ho, hx, hn]) hp
        simp only [execOp, ho, Sem.run_bind, this, Result.andThen_ok, Sem.run_pure]
      · cases h
    · cases h
  · rename_i t x y ho
    simp [isTake, ho] at ht
  · -- nilCheck
    rename_i x ho
    split at h
    · rename_i q hx
      injection h with h; injection h with e1 e2; injection e2 with e2 e3; subst e1; subst e2; subst e3
      refine ⟨rfl, fun φ w a' hr ha => ?_⟩
      have hv := aval_sound ha hx
      refine ⟨a'.eval x, hv, fun w2 _ => ?_⟩
      generalize he : a'.eval x = y at hv
      have : ∃ q', y = .pointer (some q') := by cases hv; exact ⟨_, rfl⟩
      obtain ⟨q', rfl⟩ := this
      simp only [execOp, ho, he]
      rfl
    · cases h
  · -- binOp
    rename_i op t x y yt ho
    split at h
    · rename_i v0 u0 hx hy
      split at h
      · exact gen_take h
      · split at h
        · rename_i r hq
          injection h with h; injection h with e1 e2; injection e2 with e2 e3; subst e1; subst e2; subst e3
          refine ⟨rfl, fun φ w a' hr ha => ?_⟩
          obtain ⟨g1, g2⟩ := aEq_sound (P := P) hq (aval_sound ha hx) (aval_sound ha hy) x y
          refine ⟨r, g2, fun w2 _ => ?_⟩
          simp only [execOp, ho]
          have g1' := g1 w2
          simp only [Sem.run_bind] at g1' ⊢
          rw [g1']
          rfl
        · cases h
    · cases h
  · -- convert
    rename_i src dst x ho
    split at h
    · rename_i e v0 hs hd hx
      split at h
      · rename_i r hq
        injection h with h; injection h with e1 e2; injection e2 with e2 e3; subst e1; subst e2; subst e3
        refine ⟨rfl, fun φ w a' hr ha => ?_⟩
        obtain ⟨g1, g2⟩ := aStr_sound hq hr (aval_sound ha hx)
        refine ⟨r, g2, fun w2 hw2 => ?_⟩
        have := g1 w2 fun n p hn hp => hw2 n p (by simp [rbName, ho, hx, hn]) hp
        simp only [execOp, ho, Sem.run_bind, this, Result.andThen_ok, Sem.run_pure]
      · cases h
    · rename_i e v0 hs hd hx
      simp [isTake, ho, hd] at ht
    · rename_i e e' v0 hs hd hx
      simp [isTake, ho, hd] at ht
    · exact gen_take h
  · -- makeFunc
    rename_i fn fs cs ho
    split at h
    · rename_i vs us hf hc
      injection h with h; injection h with e1 e2; injection e2 with e2 e3; subst e1; subst e2; subst e3
      refine ⟨rfl, fun φ w a' hr ha => ?_⟩
      refine ⟨.func fn (fs.map a'.eval) (cs.map a'.eval), ?_, fun w2 _ => by simp [execOp, ho, Instr.makeFunc]⟩
      refine .func' fn ?_ ?_
      · have := avals_sound ha hf
        simpa [RRel] using this
      · have := avals_sound ha hc
        simpa [RRel] using this
    · cases h
  · rename_i t l c ho
    simp [isTake, ho] at ht
  · -- slice
    rename_i t x lo hi mx ho
    split at h
    · rename_i q l c hx
      split at h
      · rename_i vl vh vm h1 h2 h3
        split at h
        · rename_i r hq
          injection h with h; injection h with e1 e2; injection e2 with e2 e3; subst e1; subst e2; subst e3
          refine ⟨rfl, fun φ w a' hr ha => ?_⟩
          obtain ⟨u, g1, g2⟩ := aSlice_sound hq hr (aval_sound ha hx)
          exact ⟨u, g2, fun w2 _ => by simp only [execOp, ho, Sem.run_bind, aopt_sound ha h1, aopt_sound ha h2, aopt_sound ha h3, g1, Result.andThen_ok, Sem.run_pure]⟩
        · cases h
      · cases h
    · exact gen_take h
  · -- fieldAddr
    rename_i s x f ho
    split at h
    · rename_i v0 hx
      split at h
      · rename_i r hq
        injection h with h; injection h with e1 e2; injection e2 with e2 e3; subst e1; subst e2; subst e3
        refine ⟨rfl, fun φ w a' hr ha => ?_⟩
        obtain ⟨u, g1, g2⟩ := aFieldAddr_sound hq (aval_sound ha hx)
        exact ⟨u, g2, fun w2 _ => by simp only [execOp, ho, Sem.run_bind, g1, Result.andThen_ok, Sem.run_pure]⟩
      · cases h
    · cases h
  · -- field
    rename_i t x f ho
    split at h
    · rename_i v0 hx
      split at h
      · rename_i r hq
        injection h with h; injection h with e1 e2; injection e2 with e2 e3; subst e1; subst e2; subst e3
        refine ⟨rfl, fun φ w a' hr ha => ?_⟩
        obtain ⟨u, g1, g2⟩ := aField_sound hq (aval_sound ha hx)
        exact ⟨u, g2, fun w2 _ => by simp only [execOp, ho, Sem.run_bind, g1, Result.andThen_ok, Sem.run_pure]⟩
      · cases h
    · cases h
  · -- indexAddr
    rename_i t x ix ho
    split at h
    · rename_i v0 u0 hx hi
      split at h
      · rename_i r hq
        injection h with h; injection h with e1 e2; injection e2 with e2 e3; subst e1; subst e2; subst e3
        refine ⟨rfl, fun φ w a' hr ha => ?_⟩
        obtain ⟨u, g1, g2⟩ := aIndexAddr_sound hq (aval_sound ha hx) (aval_sound ha hi)
        exact ⟨u, g2, fun w2 _ => by simp only [execOp, ho, Sem.run_bind, g1, Result.andThen_ok, Sem.run_pure]⟩
      · cases h
    · cases h
  · -- extract
    rename_i x i ho
    split at h
    · rename_i v0 hx
      split at h
      · rename_i r hq
        injection h with h; injection h with e1 e2; injection e2 with e2 e3; subst e1; subst e2; subst e3
        refine ⟨rfl, fun φ w a' hr ha => ?_⟩
        obtain ⟨u, g1, g2⟩ := aExtract_sound (P := P) hq (aval_sound ha hx)
        exact ⟨u, g2, fun w2 _ => by simp only [execOp, ho, Sem.run_bind, g1, Result.andThen_ok, Sem.run_pure]⟩
      · cases h
    · cases h
  · -- call
    rename_i c ho
    split at h
    · rename_i b hc
      have hb : b = .len ∨ b = .cap ∨ b = .min ∨ b = .max := by
        simp only [isTake, ho, hc] at ht
        cases b <;> simp at ht ⊢
      unfold aBuiltin at h
      have hex : ∀ (a' : Act), (b = .len → execOp a'.eval o = (do pure (.value (← Builtin.len_ c.argTypes o.type (c.args.map a'.eval))))) ∧ (b = .cap → execOp a'.eval o = (do pure (.value (← Builtin.cap_ c.argTypes o.type (c.args.map a'.eval))))) := fun a' =>
        ⟨fun e => by subst e; simp only [execOp, ho, resolve, hc, pure_bind, invoke, builtin], fun e => by subst e; simp only [execOp, ho, resolve, hc, pure_bind, invoke, builtin]⟩
      split at h
      · simp at hb
      · simp at hb
      · simp at hb
      · rename_i x hargs
        split at h
        · rename_i t q n cap ht hx
          split at h
          · rename_i e hu
            injection h with h; injection h with e1 e2; injection e2 with e2 e3; subst e1; subst e2; subst e3
            refine ⟨rfl, fun φ w a' hr ha => ?_⟩
            have hv := aval_sound ha hx
            have hm : c.args.map a'.eval = #[a'.eval x] := by apply Array.ext'; simp [hargs]
            refine ⟨.int .i64 n, .int _ _, fun w2 _ => ?_⟩
            rw [(hex a').1 rfl]
            generalize a'.eval x = y at hv hm
            have : ∃ q' c', y = .slice q' n c' := by cases hv <;> exact ⟨_, _, rfl⟩
            obtain ⟨q', c', rfl⟩ := this
            simp [hm, Builtin.len_, ht, run_und hu, goInt]
          · cases h
        · exact gen_take h
      · rename_i x hargs
        split at h
        · rename_i t _ _ n cap ht hx
          split at h
          · rename_i e hu
            injection h with h; injection h with e1 e2; injection e2 with e2 e3; subst e1; subst e2; subst e3
            refine ⟨rfl, fun φ w a' hr ha => ?_⟩
            have hv := aval_sound ha hx
            have hm : c.args.map a'.eval = #[a'.eval x] := by apply Array.ext'; simp [hargs]
            refine ⟨.int .i64 cap, .int _ _, fun w2 _ => ?_⟩
            rw [(hex a').2 rfl]
            generalize a'.eval x = y at hv hm
            have : ∃ q', y = .slice q' n cap := by cases hv <;> exact ⟨_, rfl⟩
            obtain ⟨q', rfl⟩ := this
            simp [hm, Builtin.cap_, ht, run_und hu, goInt]
          · cases h
        · exact gen_take h
      · exact gen_take h
    · cases h
  · exact gen_take h

/-! ### Any order -/
def dep1 (ops : Array Oper) (k i : Nat) : Bool :=
  match ops[k]? with
  | some o => o.after.any fun e => Region.binds .any e && e.on == i
  | none => false
/-- Does k come behind i, at once or by some between? -/
def depN (ops : Array Oper) : Nat → Nat → Nat → Bool
  | 0, _, _ => false
  | n + 1, k, i => match ops[k]? with
    | some o => o.after.any fun e => Region.binds .any e && (e.on == i || depN ops n e.on i)
    | none => false
def dep (ops : Array Oper) (k i : Nat) : Bool := depN ops 4 k i
theorem dep_at {ops : Array Oper} {k i : Nat} (h : dep1 ops k i = true) : dep ops k i = true := by
  unfold dep1 at h
  unfold dep depN
  split at h
  · obtain ⟨e, he, hb⟩ := Array.any_eq_true'.1 h
    refine Array.any_eq_true'.2 ⟨e, he, ?_⟩
    simp only [Bool.and_eq_true, Bool.or_eq_true] at *
    exact ⟨hb.1, .inl hb.2⟩
  · cases h

/-- Any order; behind each operation G holds of those that have come up and the world. -/
def wpAnyG (P : Program) (ops : Array Oper) (Q : Exit → Act → World → Prop) (G : Array Bool → World → Prop) : Nat → Array Bool → Act → World → Prop
  | 0, listed, a, w => Region.ready .any ops listed = [] ∧ Q .normal a w
  | fuel + 1, listed, a, w => (Region.ready .any ops listed = [] → Q .normal a w) ∧
    ∀ i ∈ Region.ready .any ops listed, wpOp P ops Q i (fun a' w' => G (listed.setIfInBounds i true) w' ∧ wpAnyG P ops Q G fuel (listed.setIfInBounds i true) a' w') a w

section
variable {P : Program} {ops : Array Oper} {Q : Exit → Act → World → Prop} {G G' : Array Bool → World → Prop}

theorem anyG_sound : ∀ (fuel : Nat) (listed : Array Bool) (a : Act) (w : World), wpAnyG P ops Q G fuel listed a w → wpAny P .any ops Q fuel listed a w
  | 0, _, _, _, h => h
  | fuel + 1, _, _, _, h => ⟨h.1, fun i hi => wpOp_mono (fun a' w' h' => anyG_sound fuel _ a' w' h'.2) (h.2 i hi)⟩

theorem anyG_mono (I : Array Bool → Prop) (hI : ∀ L i, I L → I (L.setIfInBounds i true)) (h : ∀ L w, I L → G L w → G' L w) : ∀ (fuel : Nat) (listed : Array Bool) (a : Act) (w : World), I listed → wpAnyG P ops Q G fuel listed a w → wpAnyG P ops Q G' fuel listed a w
  | 0, _, _, _, _, k => k
  | fuel + 1, _, _, _, hl, k => ⟨k.1, fun i hi => wpOp_mono (fun a' w' k' => ⟨h _ _ (hI _ i hl) k'.1, anyG_mono I hI h fuel _ a' w' (hI _ i hl) k'.2⟩) (k.2 i hi)⟩

theorem dep_ready {listed : Array Bool} {j i : Nat} (hj : j ∈ Region.ready .any ops listed) (hi : listed.getD i true = false) : dep1 ops j i = false := by
  obtain ⟨_, o, ho, hall⟩ := mem_ready.1 hj
  unfold dep1
  rw [ho]
  simp only
  rw [Bool.eq_false_iff]
  intro hc
  obtain ⟨e, he, hb⟩ := Array.any_eq_true'.1 hc
  simp only [Bool.and_eq_true, beq_iff_eq] at hb
  have h1 := hall e he hb.1
  rw [hb.2] at h1
  rcases Nat.lt_or_ge i listed.size with h' | h'
  · simp [h'] at hi h1; rw [hi] at h1; cases h1
  · simp [Array.getElem?_eq_none h'] at h1

theorem getD_false_set {listed : Array Bool} {i k : Nat} (h : (listed.setIfInBounds i true).getD k false = true) : k = i ∨ listed.getD k false = true := by
  by_cases hik : i = k
  · exact .inl hik.symm
  · rw [getD_set_ne false hik] at h; exact .inr h

def Closed (ops : Array Oper) (L : Array Bool) : Prop := ∀ k i, L.getD k false = true → dep1 ops k i = true → L.getD i false = true
theorem closed_set {listed : Array Bool} {i : Nat} (hc : Closed ops listed) (hr : i ∈ Region.ready .any ops listed) : Closed ops (listed.setIfInBounds i true) := by
  intro k j hk hd
  rcases getD_false_set hk with rfl | h
  · by_cases hj : listed.getD j true = false
    · rw [dep_ready hr hj] at hd; cases hd
    · refine getD_set_true ?_
      rcases Nat.lt_or_ge j listed.size with h' | h'
      · simp [h'] at hj ⊢; exact hj
      · exfalso
        obtain ⟨_, o, ho, hall⟩ := mem_ready.1 hr
        unfold dep1 at hd
        rw [ho] at hd
        obtain ⟨e, he, hb⟩ := Array.any_eq_true'.1 hd
        simp only [Bool.and_eq_true, beq_iff_eq] at hb
        have := hall e he hb.1
        rw [hb.2] at this
        simp [Array.getElem?_eq_none h'] at this
  · exact getD_set_true (hc k j h hd)
theorem closed_to {L : Array Bool} (hc : Closed ops L) : ∀ (n k i : Nat), L.getD k false = true → depN ops n k i = true → L.getD i false = true
  | 0, _, _, _, h => by cases h
  | n + 1, k, i, hk, h => by
    unfold depN at h
    split at h
    · rename_i o ho
      obtain ⟨e, he, hb⟩ := Array.any_eq_true'.1 h
      simp only [Bool.and_eq_true, Bool.or_eq_true] at hb
      have h1 : L.getD e.on false = true := hc k e.on hk (by
        unfold dep1
        rw [ho]
        exact Array.any_eq_true'.2 ⟨e, he, by simp only [Bool.and_eq_true]; exact ⟨hb.1, by simp⟩⟩)
      rcases hb.2 with h2 | h2
      · rw [beq_iff_eq] at h2; rw [← h2]; exact h1
      · exact closed_to hc n e.on i h1 h2
    · cases h
theorem closed_dep {listed : Array Bool} {i : Nat} (hc : Closed ops listed) (hi : listed.getD i true = false) (k : Nat) (hk : listed.getD k false = true) : dep ops k i = false := by
  rw [Bool.eq_false_iff]
  intro hd
  have := closed_to hc _ k i hk hd
  rcases Nat.lt_or_ge i listed.size with h' | h'
  · simp [h'] at hi this; rw [hi] at this; cases this
  · simp [Array.getElem?_eq_none h'] at this
theorem anyG_first {i : Nat} {oi : Oper} {v : Value} {S : World → Prop} (hi : ops[i]? = some oi) (hsel : ∀ (j : Nat) (o : Oper) cs b, ops[j]? = some o → o.op ≠ .select cs b)
    (hQ : ∀ c a w, Q (.panic c) (a.put oi.dst v) w → Q (.panic c) a w)
    (c1 : ∀ (L : Array Bool) (w : World), L.getD i true = false → G (L.setIfInBounds i true) w → G' L w) (c2 : ∀ (L : Array Bool) (w : World), G L w → G' L w)
    (c3 : ∀ (L : Array Bool) (w : World), (∀ k, L.getD k false = true → dep ops k i = false) → G (L.setIfInBounds i true) w → S w) :
    ∀ (fuel : Nat) (listed : Array Bool) (a : Act) (w : World),
      (∀ j oj, ops[j]? = some oj → j ≠ i → listed.getD j true = false → (∀ e ∈ oj.after, Region.binds .any e = true → e.on ≠ i) → oi.apart ops oj = true) →
      i ∈ Region.ready .any ops listed → Closed ops listed → YieldsIf P ops S oi v a → S w → G' (listed.setIfInBounds i true) w →
      wpAnyG P ops Q G fuel (listed.setIfInBounds i true) (a.put oi.dst v) w → wpAnyG P ops Q G' (fuel + 1) listed a w := by
  intro fuel
  induction fuel with
  | zero =>
    intro listed a w _ hr _ hy hS hG H
    refine ⟨fun h => (by rw [h] at hr; cases hr), fun j hj => ?_⟩
    by_cases hji : j = i
    · subst hji
      exact hy.wpOp hi hS ⟨hG, H⟩
    · have := ready_mono hj hji
      rw [H.1] at this
      cases this
  | succ fuel ih =>
    intro listed a w hfree hr hd hy hS hG H
    refine ⟨fun h => (by rw [h] at hr; cases hr), fun j hj => ?_⟩
    by_cases hji : j = i
    · subst hji
      exact hy.wpOp hi hS ⟨hG, anyG_mono (fun _ => True) (fun _ _ _ => trivial) (fun L w _ h => c2 L w h) _ _ _ _ trivial H⟩
    · have h1 := H.2 j (ready_mono hj hji)
      obtain ⟨hjun, oj, hoj, hall⟩ := mem_ready.1 hj
      have hiun : listed.getD i true = false := (mem_ready.1 hr).1
      have hnot : ∀ e ∈ oj.after, Region.binds .any e = true → e.on ≠ i := fun e he hb heq => by
        have h1 := hall e he hb
        rw [heq] at h1
        rcases Nat.lt_or_ge i listed.size with h' | h'
        · simp [h'] at hiun h1; rw [hiun] at h1; cases h1
        · simp [Array.getElem?_eq_none h'] at h1
      have h2 := wpOp_putIf hoj (hfree j oj hoj hji hjun hnot) (fun cs b => hsel i oi cs b hi) (fun cs b => hsel j oj cs b hoj) hQ hy h1
      have hfree' : ∀ k ok, ops[k]? = some ok → k ≠ i → (listed.setIfInBounds j true).getD k true = false → (∀ e ∈ ok.after, Region.binds .any e = true → e.on ≠ i) → oi.apart ops ok = true := fun k ok hk hki hun hno => by
        refine hfree k ok hk hki ?_ hno
        by_cases hjk : j = k
        · subst hjk; exact hjun
        · rw [getD_set_ne true hjk] at hun; exact hun
      have hiun' : (listed.setIfInBounds j true).getD i true = false := by rw [getD_set_ne true hji]; exact hiun
      have hc' := closed_set hd hj
      have hd' : ∀ k, (listed.setIfInBounds j true).getD k false = true → dep ops k i = false := closed_dep hc' hiun'
      have hcomm := Array.setIfInBounds_comm (xs := listed) true true (fun e => hji e.symm : i ≠ j)
      refine wpOp_mono (fun a' w' h3 => ?_) h2
      obtain ⟨hy', hg', H'⟩ := h3
      rw [hcomm] at hg' H'
      exact ⟨c1 _ _ hiun' hg', ih (listed.setIfInBounds j true) a' w' hfree' (ready_mono hr (Ne.symm hji)) hc' hy' (c3 _ _ hd' hg') (c2 _ _ hg') H'⟩
end

/-- What is read, and may still be to come, stays: of each such read the operation's number and the block's name. -/
def SPG (ops : Array Oper) (pr : List (Nat × Nat)) (tk : List Nat) (φ : Ren) (w : World) (L : Array Bool) (w2 : World) : Prop :=
  ∀ i n, (i, n) ∈ pr → (∀ k, L.getD k false = true → k ∉ tk → dep ops k i = false) → ∀ p, φ n = some p → w2.heap[p.g]? = w.heap[p.g]?


section
variable {P : Program} {B : Base} {Q : Post} {a : Act} {σ : AState} {ops : Array Oper}

def SAny (P : Program) (B : Base) (ops : Array Oper) (fuel : Nat) (listed : Array Bool) (pr : List (Nat × Nat)) (tk : List Nat) (Q : Post) (a : Act) (σ : AState) : Prop :=
  Closed ops listed → (∀ k, k ∈ tk → listed.getD k false = true) → ∀ φ w a', B.Go φ σ w → ARel φ a a' → wpAnyG P ops (SQ B Q) (SPG ops pr tk φ w) fuel listed a' w

theorem any_done {listed : Array Bool} {pr : List (Nat × Nat)} {tk : List Nat} (hr : Region.ready .any ops listed = []) (h : Q .normal a σ) (fuel : Nat) : SAny P B ops fuel listed pr tk Q a σ := by
  intro _ _ φ w a' hg ha
  cases fuel with
  | zero => exact ⟨hr, rfl, a, σ, φ, h, ha, hg⟩
  | succ n => exact ⟨fun _ => ⟨rfl, a, σ, φ, h, ha, hg⟩, by rw [hr]; simp⟩

theorem noPanic {c : List PanicEntry} {dst : Option Tmp} {v : Value} : ∀ a w, SQ B Q (.panic c) (a.put dst v) w → SQ B Q (.panic c) a w := fun a w h => by cases h.1

theorem set_self {listed : Array Bool} {i : Nat} (hi : listed.getD i true = false) : (listed.setIfInBounds i true).getD i false = true := by
  rcases Nat.lt_or_ge i listed.size with h' | h'
  · simp [h']
  · simp [Array.getElem?_eq_none h'] at hi

def entry (i : Nat) (rb : Option Nat) : List (Nat × Nat) :=
  match rb with
  | some n => [(i, n)]
  | none => []

theorem any_first {fuel : Nat} {listed : Array Bool} {pr : List (Nat × Nat)} {tk : List Nat} {i : Nat} {o : Oper} {v : Value} (rb : Option Nat) (hi : ops[i]? = some o) (hs : Region.noSelect ops = true) (hf : Region.free .any ops listed i = true) (hr : (Region.ready .any ops listed).contains i = true)
    (hy : ∀ φ w a', B.Go φ σ w → ARel φ a a' → ∃ u, VRel φ v u ∧ YieldsIf P ops (fun w2 => ∀ n, rb = some n → ∀ p, φ n = some p → w2.heap[p.g]? = w.heap[p.g]?) o u a')
    (h : SAny P B ops fuel (listed.setIfInBounds i true) (entry i rb ++ pr) (i :: tk) Q (a.put o.dst v) σ) : SAny P B ops (fuel + 1) listed pr tk Q a σ := by
  intro hc htk φ w a' hg ha
  have hr' : i ∈ Region.ready .any ops listed := by simpa using hr
  have hiun : listed.getD i true = false := (mem_ready.1 hr').1
  obtain ⟨u, hu, hyi⟩ := hy φ w a' hg ha
  refine anyG_first (G := SPG ops (entry i rb ++ pr) (i :: tk) φ w) (S := fun w2 => ∀ n, rb = some n → ∀ p, φ n = some p → w2.heap[p.g]? = w.heap[p.g]?) hi (Region.noSelect_spec hs) (fun c a w => noPanic a w) ?_ ?_ ?_ fuel listed a' w (Region.free_spec hi hf) hr' hc hyi (fun n _ p _ => rfl) (fun j n _ _ p _ => rfl) ?_
  · intro L w2 hL hG j n hjn hk p hp
    refine hG j n (List.mem_append.2 (.inr hjn)) (fun k hkL hkt => ?_) p hp
    rcases getD_false_set hkL with rfl | h
    · simp at hkt
    · exact hk k h (fun e => hkt (List.mem_cons_of_mem _ e))
  · intro L w2 hG j n hjn hk p hp
    exact hG j n (List.mem_append.2 (.inr hjn)) (fun k hkL hkt => hk k hkL (fun e => hkt (List.mem_cons_of_mem _ e))) p hp
  · intro L w2 hd hG n hn p hp
    refine hG i n (List.mem_append.2 (.inl (by rw [hn]; simp [entry]))) (fun k hkL hkt => ?_) p hp
    rcases getD_false_set hkL with rfl | h
    · simp at hkt
    · exact hd k h
  · refine h (closed_set hc hr') (fun k hk => ?_) φ w _ hg (ha.put _ hu)
    rcases List.mem_cons.1 hk with rfl | hk
    · exact set_self hiun
    · exact getD_set_true (htk k hk)

theorem any_take {fuel : Nat} {listed : Array Bool} {pr : List (Nat × Nat)} {tk : List Nat} {i : Nat} {o : Oper} {v : Value} {σ' : AState} {wn : Option Nat} (hi : ops[i]? = some o) (hs : Region.noSelect ops = true) (hf : Region.free .any ops listed i = true) (hr : (Region.ready .any ops listed).contains i = true)
    (hw : Region.wanted o (yielded ops a.tmps) = true) (ht : isTake P o = true) (ho : aop P o a σ = some (v, σ', wn)) (h : SAny P B ops fuel (listed.setIfInBounds i true) (entry i (rbName o a) ++ pr) (i :: tk) Q (a.put o.dst v) σ) : SAny P B ops (fuel + 1) listed pr tk Q a σ := by
  refine any_first (rbName o a) hi hs hf hr (fun φ w a' hg ha => ?_) h
  obtain ⟨_, hT⟩ := take_sound ht ho
  obtain ⟨u, hu, hrun⟩ := hT φ w a' hg.rel ha
  exact ⟨u, hu, .inl ⟨by rw [wanted_eq ha]; exact hw, fun w2 k => hrun w2 fun n p hn hp => k n hn p hp⟩⟩

theorem any_take_skip {fuel : Nat} {listed : Array Bool} {pr : List (Nat × Nat)} {tk : List Nat} {i : Nat} {o : Oper} (hi : ops[i]? = some o) (hs : Region.noSelect ops = true) (hf : Region.free .any ops listed i = true) (hr : (Region.ready .any ops listed).contains i = true)
    (hw : Region.wanted o (yielded ops a.tmps) = false) (h : SAny P B ops fuel (listed.setIfInBounds i true) pr (i :: tk) Q (a.put o.dst undef) σ) : SAny P B ops (fuel + 1) listed pr tk Q a σ :=
  any_first none hi hs hf hr (fun φ w a' hg ha => ⟨undef, VRel.undef φ, .inr ⟨by rw [wanted_eq ha]; exact hw, rfl⟩⟩) h

theorem kept_at {D : Nat → Prop} {φ φ' : Ren} {σ' : AState} {w w' : World} (hr : HRel φ σ w) (k : Goes D φ σ w φ' σ' w') {n : Nat} (hD : ¬ D n) (hl : ∃ b, σ.get n = some b) {p : Pl} (hp : φ n = some p) : w'.heap[p.g]? = w.heap[p.g]? := by
  refine k.kept p.g (hr.lt n p hp) fun m b q hb hro hq hg hm => ?_
  obtain ⟨bn, hbn⟩ := hl
  have := hr.inj m n b bn q p hb hbn hro hq hp hg
  subst this
  exact hD hm

/-- What is still to be kept behind operation j. -/
def rem (ops : Array Oper) (j : Nat) (pr : List (Nat × Nat)) : List (Nat × Nat) := pr.filter fun e => !dep ops j e.1

theorem any_step {D : Nat → Prop} {fuel : Nat} {listed : Array Bool} {pr : List (Nat × Nat)} {tk : List Nat} {j : Nat} {a1 : Act} {σ1 : AState} {φ φ1 : Ren} {w w1 : World} {a1' : Act} (hc : Closed ops listed) (htk : ∀ k, k ∈ tk → listed.getD k false = true)
    (hj : j ∈ Region.ready .any ops listed) (hg : B.Go φ σ w) (k : Goes D φ σ w φ1 σ1 w1) (hD : ∀ m, D m → B.D m) (hn : ∀ e, e ∈ rem ops j pr → ¬ D e.2) (hl : ∀ e, e ∈ rem ops j pr → ∃ b, σ.get e.2 = some b) (ha : ARel φ1 a1 a1')
    (h : SAny P B ops fuel (listed.setIfInBounds j true) (rem ops j pr) tk Q a1 σ1) :
    SPG ops pr tk φ w (listed.setIfInBounds j true) w1 ∧ wpAnyG P ops (SQ B Q) (SPG ops pr tk φ w) fuel (listed.setIfInBounds j true) a1' w1 := by
  have hjun : listed.getD j true = false := (mem_ready.1 hj).1
  have hjtk : j ∉ tk := fun h => by
    have := htk j h
    rcases Nat.lt_or_ge j listed.size with h' | h'
    · simp [h'] at hjun this; rw [hjun] at this; cases this
    · simp [Array.getElem?_eq_none h'] at this
  have inrem : ∀ (L : Array Bool), L.getD j false = true → ∀ i n, (i, n) ∈ pr → (∀ k, L.getD k false = true → k ∉ tk → dep ops k i = false) → (i, n) ∈ rem ops j pr := fun L hL i n hin hk => by
    unfold rem
    rw [List.mem_filter]
    exact ⟨hin, by simp [hk j hL hjtk]⟩
  have same : ∀ i n, (i, n) ∈ rem ops j pr → ∀ p, φ n = some p → w1.heap[p.g]? = w.heap[p.g]? := fun i n hin p hp => kept_at hg.rel k (hn _ hin) (hl _ hin) hp
  have hset := set_self hjun
  refine ⟨fun i n hin hk p hp => same i n (inrem _ hset i n hin hk) p hp, ?_⟩
  refine anyG_mono (G := SPG ops (rem ops j pr) tk φ1 w1) (fun L => L.getD j false = true) (fun L i h => getD_set_true h) (fun L w2 hL hG i n hin hk p hp => ?_) _ _ _ _ hset (h (closed_set hc hj) (fun k hk => getD_set_true (htk k hk)) φ1 w1 a1' (hg.step k hD) ha)
  have hin' := inrem L hL i n hin hk
  exact (hG i n hin' hk p (k.le n p hp)).trans (same i n hin' p hp)

theorem any_only {fuel : Nat} {listed : Array Bool} {pr : List (Nat × Nat)} {tk : List Nat} {i : Nat} {o : Oper} {v : Value} {σ' : AState} {wn : Option Nat} (hi : ops[i]? = some o) (hr : Region.ready .any ops listed = [i]) (hw : Region.wanted o (yielded ops a.tmps) = true)
    (ho : aop P o a σ = some (v, σ', wn)) (hD : ∀ n, wn = some n → B.D n) (hn : ∀ e, e ∈ rem ops i pr → ¬ wn = some e.2) (hl : ∀ e, e ∈ rem ops i pr → ∃ b, σ.get e.2 = some b) (h : SAny P B ops fuel (listed.setIfInBounds i true) (rem ops i pr) tk Q (a.put o.dst v) σ') : SAny P B ops (fuel + 1) listed pr tk Q a σ := by
  intro hc htk φ w a' hg ha
  refine ⟨(fun h => by rw [hr] at h; cases h), fun j hj => ?_⟩
  have hj' := hj
  rw [hr] at hj'
  obtain rfl : j = i := by simpa using hj'
  unfold wpOp
  simp only [hi]
  rw [wanted_eq ha, hw, if_pos rfl]
  obtain ⟨φ', u, w', h1, h2, h3⟩ := aop_sound ho φ w a' hg.rel ha
  refine .inl ?_
  have fin := fun u' (hu : VRel φ' v u') => any_step (P := P) (Q := Q) (fuel := fuel) hc htk hj hg h3 hD hn hl ((ha.mono h3.le).put o.dst hu) h
  unfold Oper.wp
  rcases h1 with h1 | ⟨h1, rfl⟩
  · rw [h1]; exact fin u h2
  · rw [h1]; exact fin undef h2

theorem any_only_skip {fuel : Nat} {listed : Array Bool} {pr : List (Nat × Nat)} {tk : List Nat} {i : Nat} {o : Oper} (hi : ops[i]? = some o) (hr : Region.ready .any ops listed = [i]) (hw : Region.wanted o (yielded ops a.tmps) = false) (hl : ∀ e, e ∈ rem ops i pr → ∃ b, σ.get e.2 = some b)
    (h : SAny P B ops fuel (listed.setIfInBounds i true) (rem ops i pr) tk Q (a.put o.dst undef) σ) : SAny P B ops (fuel + 1) listed pr tk Q a σ := by
  intro hc htk φ w a' hg ha
  refine ⟨(fun h => by rw [hr] at h; cases h), fun j hj => ?_⟩
  have hj' := hj
  rw [hr] at hj'
  obtain rfl : j = i := by simpa using hj'
  unfold wpOp
  simp only [hi]
  rw [wanted_eq ha, hw]
  exact any_step (D := fun _ => False) hc htk hj hg (Goes.refl hg.rel) (fun _ h => h.elim) (fun _ _ h => h) hl (ha.put _ (VRel.undef φ)) h

theorem any_call {fuel : Nat} {listed : Array Bool} {pr : List (Nat × Nat)} {tk : List Nat} {i : Nat} {o : Oper} {g : FuncId} {vs : List Value} {D : Nat → Prop} (hi : ops[i]? = some o) (hr : Region.ready .any ops listed = [i]) (hw : Region.wanted o (yielded ops a.tmps) = true)
    (ht : target P o a = some (g, vs)) (hD : ∀ n, D n → B.D n) (hn : ∀ e, e ∈ rem ops i pr → ¬ D e.2) (hl : ∀ e, e ∈ rem ops i pr → ∃ b, σ.get e.2 = some b)
    (h : SCall P D g vs σ fun v σ' => SAny P B ops fuel (listed.setIfInBounds i true) (rem ops i pr) tk Q (a.put o.dst v) σ') : SAny P B ops (fuel + 1) listed pr tk Q a σ := by
  intro hc htk φ w a' hg ha
  refine ⟨(fun h => by rw [hr] at h; cases h), fun j hj => ?_⟩
  have hj' := hj
  rw [hr] at hj'
  obtain rfl : j = i := by simpa using hj'
  unfold wpOp
  simp only [hi]
  rw [wanted_eq ha, hw, if_pos rfl]
  obtain ⟨us, h1, h2⟩ := target_sound ht ha w
  refine .inl ?_
  unfold Oper.wp
  rw [h2]
  refine Calls.mono (h φ w us hg.rel h1) ?_
  rintro e w' ⟨v, σ', φ', u, rfl, k1, k2, k3⟩
  exact any_step hc htk hj hg k3 hD hn hl ((ha.mono k3.le).put _ k2) k1

theorem s_region_draw {id : Nat} (hm : P.follows .mixedOrders = true) (h : SAny P B ops ops.size (Array.replicate ops.size false) [] [] Q a σ) : SCode P B (.region id ops true) Q a σ := by
  intro φ w a' hg ha
  refine wp_region_any hm (anyG_sound _ _ _ _ (h ?_ (fun k hk => by cases hk) φ _ a' (hg.drew (w.drawn + 1)) ha))
  intro k i hk
  rcases Nat.lt_or_ge k ops.size with h' | h'
  · simp [h'] at hk
  · simp [h'] at hk

end
end GAb
