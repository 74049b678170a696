/- One operation of any kind: the machine does as the abstract heap. No statement of the seat is proved in this text. -/
import Derived.Test.YtpocmkgfmmhhgaaAb8
set_option linter.unusedVariables false
set_option linter.unusedSimpArgs false
namespace GAb
open Go

theorem aop_sound {P : Program} {o : Oper} {a : Act} {σ σ' : AState} {v : Value} {wn : Option Nat} (h : aop P o a σ = some (v, σ', wn)) : OpOK P o a σ v σ' wn := by
  unfold aop at h
  split at h
  · -- move
    rename_i x ho
    split at h
    · rename_i u hx
      injection h with h; injection h with e1 e2; injection e2 with e2 e3; subst e1; subst e2; subst e3
      intro φ w a' hr ha
      exact ⟨φ, a'.eval x, w, .inl (by simp [execOp, ho]), aval_sound ha hx, Goes.refl hr⟩
    · cases h
  · -- assign
    rename_i x ho
    split at h
    · rename_i u hx
      injection h with h; injection h with e1 e2; injection e2 with e2 e3; subst e1; subst e2; subst e3
      intro φ w a' hr ha
      exact ⟨φ, a'.eval x, w, .inl (by simp [execOp, ho]), aval_sound ha hx, Goes.refl hr⟩
    · cases h
  · -- pick
    rename_i c x y ho
    split at h
    · rename_i t v1 v2 hc hx hy
      injection h with h; injection h with e1 e2; injection e2 with e2 e3; subst e1; subst e2; subst e3
      intro φ w a' hr ha
      have h1 := aval_sound ha hc
      have h2 := aval_sound ha hx
      have h3 := aval_sound ha hy
      have he : a'.eval c = .bool t := flat_eq rfl h1
      refine ⟨φ, if t then a'.eval x else a'.eval y, w, .inl (by simp [execOp, ho, he, asBool]), ?_, Goes.refl hr⟩
      cases t <;> assumption
    · cases h
  · -- alloc
    rename_i e ho
    split at h
    · rename_i v1 s hx
      injection h with h; injection h with e1 e2; injection e2 with e2 e3; subst e1; subst e2; subst e3
      intro φ w a' hr ha
      obtain ⟨φ', u, w', g1, g2, g3⟩ := aAlloc_sound (P := P) hx hr (fun n => (none : Option Nat) = some n)
      exact ⟨φ', u, w', .inl (by simp [execOp, ho, g1]), g2, g3⟩
    · cases h
  · -- box
    rename_i e x ho
    split at h
    · rename_i v1 hx
      injection h with h; injection h with e1 e2; injection e2 with e2 e3; subst e1; subst e2; subst e3
      intro φ w a' hr ha
      obtain ⟨φ', u, w', g1, g2, g3⟩ := aBox_sound (P := P) (t := e) hr (aval_sound ha hx) (fun n => (none : Option Nat) = some n)
      exact ⟨φ', u, w', .inl (by simp [execOp, ho, g1]), g2, g3⟩
    · cases h
  · -- build
    rename_i t ps ho
    split at h
    · rename_i qs hq
      split at h
      · rename_i v1 hb
        injection h with h; injection h with e1 e2; injection e2 with e2 e3; subst e1; subst e2; subst e3
        intro φ w a' hr ha
        obtain ⟨u, g1, g2⟩ := aBuild_sound (φ := φ) hb (aparts_sound ha hq)
        refine ⟨φ, u, w, .inl ?_, g2, Goes.refl hr⟩
        have : (ps.map fun x => (x.1, a'.eval x.2)) = (ps.toList.map fun p => (p.1, a'.eval p.2)).toArray := by apply Array.ext'; simp
        simp only [execOp, ho, this, Sem.run_bind, g1, Result.andThen_ok, Sem.run_pure]
      · cases h
    · cases h
  · -- buildSlice
    rename_i t len ps ho
    split at h
    · rename_i qs hq
      split at h
      · rename_i v1 s hb
        injection h with h; injection h with e1 e2; injection e2 with e2 e3; subst e1; subst e2; subst e3
        intro φ w a' hr ha
        obtain ⟨φ', u, w', g1, g2, g3⟩ := aBuildSlice_sound (P := P) hb hr (aparts_sound ha hq) (fun n => (none : Option Nat) = some n)
        refine ⟨φ', u, w', .inl ?_, g2, g3⟩
        have : (ps.map fun x => (x.1, a'.eval x.2)) = (ps.toList.map fun p => (p.1, a'.eval p.2)).toArray := by apply Array.ext'; simp
        simp only [execOp, ho, this, Sem.run_bind, g1, Result.andThen_ok, Sem.run_pure]
      · cases h
    · cases h
  · -- load
    rename_i t x ho
    split at h
    · rename_i v0 hx
      split at h
      · rename_i r hl
        injection h with h; injection h with e1 e2; injection e2 with e2 e3; subst e1; subst e2; subst e3
        intro φ w a' hr ha
        obtain ⟨u, g1', g2⟩ := aLoad_sound hl hr (aval_sound ha hx)
        have g1 := g1' w fun _ _ _ _ => rfl
        exact ⟨φ, u, w, .inl (by simp only [execOp, ho, Sem.run_bind, g1, Result.andThen_ok, Sem.run_pure]), g2, Goes.refl hr⟩
      · cases h
    · cases h
  · -- store
    rename_i t x y ho
    split at h
    · rename_i v0 u0 hx hy
      split at h
      · rename_i s n hs
        injection h with h; injection h with e1 e2; injection e2 with e2 e3; subst e1; subst e2; subst e3
        intro φ w a' hr ha
        obtain ⟨w', g1, g2⟩ := aStore_sound hs hr (aval_sound ha hx) (aval_sound ha hy)
        exact ⟨φ, undef, w', .inr ⟨by simp only [execOp, ho, Sem.run_bind, g1, Result.andThen_ok, Sem.run_pure], rfl⟩, VRel.undef _, g2.weaken hr fun q _ hq => by rw [hq]⟩
      · cases h
    · cases h
  · -- nilCheck
    rename_i x ho
    split at h
    · rename_i q hx
      injection h with h; injection h with e1 e2; injection e2 with e2 e3; subst e1; subst e2; subst e3
      intro φ w a' hr ha
      have hv := aval_sound ha hx
      refine ⟨φ, a'.eval x, w, .inl ?_, hv, Goes.refl hr⟩
      generalize he : a'.eval x = y at hv
      have : ∃ q', y = .pointer (some q') := by cases hv; exact ⟨_, rfl⟩
      obtain ⟨q', rfl⟩ := this
      simp only [execOp, ho, he]
      rfl
    · cases h
  · -- binOp
    rename_i op t x y yt ho
    split at h
    · rename_i v0 u0 hx hy
      split at h
      · exact gen_sound h
      · split at h
        · rename_i r hq
          injection h with h; injection h with e1 e2; injection e2 with e2 e3; subst e1; subst e2; subst e3
          intro φ w a' hr ha
          obtain ⟨g1, g2⟩ := aEq_sound (P := P) hq (aval_sound ha hx) (aval_sound ha hy) x y
          refine ⟨φ, r, w, .inl ?_, g2, Goes.refl hr⟩
          simp only [execOp, ho]
          have g1' := g1 w
          simp only [Sem.run_bind] at g1' ⊢
          rw [g1']
          rfl
        · cases h
    · cases h
  · -- convert
    rename_i src dst x ho
    split at h
    · rename_i e v0 hs hd hx
      split at h
      · rename_i r hq
        injection h with h; injection h with e1 e2; injection e2 with e2 e3; subst e1; subst e2; subst e3
        intro φ w a' hr ha
        have g1 := (aStr_sound hq hr (aval_sound ha hx)).1 w fun _ _ _ _ => rfl
        have g2 : VRel φ r r := (aStr_sound hq hr (aval_sound ha hx)).2
        exact ⟨φ, r, w, .inl (by simp only [execOp, ho, Sem.run_bind, g1, Result.andThen_ok, Sem.run_pure]), g2, Goes.refl hr⟩
      · cases h
    · rename_i e v0 hs hd hx
      split at h
      · rename_i r s hq
        injection h with h; injection h with e1 e2; injection e2 with e2 e3; subst e1; subst e2; subst e3
        intro φ w a' hr ha
        obtain ⟨φ', u, w', g1, g2, g3⟩ := aBytes_sound hq hr (aval_sound ha hx) (fun n => (none : Option Nat) = some n)
        exact ⟨φ', u, w', .inl (by simp only [execOp, ho, Sem.run_bind, g1, Result.andThen_ok, Sem.run_pure]), g2, g3⟩
      · cases h
    · rename_i e e' v0 hs hd hx
      intro φ w a' hr ha
      obtain ⟨w', g1, g2, g3⟩ := aSame_sound h hr (aval_sound ha hx)
      exact ⟨φ, _, w', .inl (by simp only [execOp, ho, Sem.run_bind, g1, Result.andThen_ok, Sem.run_pure]), g2, g3⟩
    · exact gen_sound h
  · -- makeFunc
    rename_i fn fs cs ho
    split at h
    · rename_i vs us hf hc
      injection h with h; injection h with e1 e2; injection e2 with e2 e3; subst e1; subst e2; subst e3
      intro φ w a' hr ha
      refine ⟨φ, .func fn (fs.map a'.eval) (cs.map a'.eval), w, .inl (by simp [execOp, ho, Instr.makeFunc]), ?_, Goes.refl hr⟩
      refine .func' fn ?_ ?_
      · have := avals_sound ha hf
        simpa [RRel] using this
      · have := avals_sound ha hc
        simpa [RRel] using this
    · cases h
  · -- makeSlice
    rename_i t l c ho
    split at h
    · rename_i v0 u0 hl hc
      split at h
      · rename_i hp
        simp only [Bool.and_eq_true] at hp
        split at h
        · rename_i r s hq
          injection h with h; injection h with e1 e2; injection e2 with e2 e3; subst e1; subst e2; subst e3
          intro φ w a' hr ha
          obtain ⟨φ', u, w', g1, g2, g3⟩ := aMake_sound (P := P) hq hr (fun n => (none : Option Nat) = some n)
          have e1 := pf_eq hp.1 (aval_sound ha hl)
          have e2 := pf_eq hp.2 (aval_sound ha hc)
          exact ⟨φ', u, w', .inl (by simp only [execOp, ho, Sem.run_bind, e1, e2, g1, Result.andThen_ok, Sem.run_pure]), g2, g3⟩
        · cases h
      · cases h
    · cases h
  · -- slice
    rename_i t x lo hi mx ho
    split at h
    · rename_i q l c hx
      split at h
      · rename_i vl vh vm h1 h2 h3
        split at h
        · rename_i r hq
          injection h with h; injection h with e1 e2; injection e2 with e2 e3; subst e1; subst e2; subst e3
          intro φ w a' hr ha
          obtain ⟨u, g1, g2⟩ := aSlice_sound hq hr (aval_sound ha hx)
          exact ⟨φ, u, w, .inl (by simp only [execOp, ho, Sem.run_bind, aopt_sound ha h1, aopt_sound ha h2, aopt_sound ha h3, g1, Result.andThen_ok, Sem.run_pure]), g2, Goes.refl hr⟩
        · cases h
      · cases h
    · exact gen_sound h
  · -- fieldAddr
    rename_i s x f ho
    split at h
    · rename_i v0 hx
      split at h
      · rename_i r hq
        injection h with h; injection h with e1 e2; injection e2 with e2 e3; subst e1; subst e2; subst e3
        intro φ w a' hr ha
        obtain ⟨u, g1, g2⟩ := aFieldAddr_sound hq (aval_sound ha hx)
        exact ⟨φ, u, w, .inl (by simp only [execOp, ho, Sem.run_bind, g1, Result.andThen_ok, Sem.run_pure]), g2, Goes.refl hr⟩
      · cases h
    · cases h
  · -- field
    rename_i t x f ho
    split at h
    · rename_i v0 hx
      split at h
      · rename_i r hq
        injection h with h; injection h with e1 e2; injection e2 with e2 e3; subst e1; subst e2; subst e3
        intro φ w a' hr ha
        obtain ⟨u, g1, g2⟩ := aField_sound hq (aval_sound ha hx)
        exact ⟨φ, u, w, .inl (by simp only [execOp, ho, Sem.run_bind, g1, Result.andThen_ok, Sem.run_pure]), g2, Goes.refl hr⟩
      · cases h
    · cases h
  · -- indexAddr
    rename_i t x ix ho
    split at h
    · rename_i v0 u0 hx hi
      split at h
      · rename_i r hq
        injection h with h; injection h with e1 e2; injection e2 with e2 e3; subst e1; subst e2; subst e3
        intro φ w a' hr ha
        obtain ⟨u, g1, g2⟩ := aIndexAddr_sound hq (aval_sound ha hx) (aval_sound ha hi)
        exact ⟨φ, u, w, .inl (by simp only [execOp, ho, Sem.run_bind, g1, Result.andThen_ok, Sem.run_pure]), g2, Goes.refl hr⟩
      · cases h
    · cases h
  · -- extract
    rename_i x i ho
    split at h
    · rename_i v0 hx
      split at h
      · rename_i r hq
        injection h with h; injection h with e1 e2; injection e2 with e2 e3; subst e1; subst e2; subst e3
        intro φ w a' hr ha
        obtain ⟨u, g1, g2⟩ := aExtract_sound (P := P) hq (aval_sound ha hx)
        exact ⟨φ, u, w, .inl (by simp only [execOp, ho, Sem.run_bind, g1, Result.andThen_ok, Sem.run_pure]), g2, Goes.refl hr⟩
      · cases h
    · cases h
  · -- call
    rename_i c ho
    split at h
    · rename_i b hc
      exact aBuiltin_sound ho hc h
    · cases h
  · exact gen_sound h

end GAb
