/- Bytes as a string in a region of mixed orders. No statement of the seat is proved in this text. -/
import Derived.Test.YtddenboepgfbgaaAb31
set_option linter.unusedVariables false
set_option linter.unusedSimpArgs false
namespace GAb
open Go
variable {P : Program} {B : Base} {n : Nat} {all : Array Oper} {W : Env → AState → Prop} {pn : Pn} {env : Env} {σ σ0 : AState} {o : Oper} {rest : List Oper} {d : Option Nat} {O : Nat → Prop} {L : List Fact}
theorem str_aop {x : Operand} {a : Option Addr} {len cap : Nat} {zs : List Int} (hs : strE P o = some x) (hx : look n env x = .slice a len cap) (hH : Has σ a len cap 1 (zs.map (.int .u8))) : aop P o (actOf n env) σ = some (.string (strOfNums zs), σ, none) ∧ rbName o (actOf n env) = rdName (.slice a len cap) := by
  have hl := hH.size
  rw [List.length_map, Nat.mul_one] at hl
  unfold strE at hs
  split at hs
  · rename_i src dst x' ho
    split at hs
    · rename_i e h1 h2 h3
      split at hs
      · rename_i h4
        injection hs with hs
        subst hs
        refine ⟨?_, by unfold rbName; simp only [ho, look_aval h1, hx]⟩
        unfold aop
        simp only [ho, h2, h3, look_aval h1, hx]
        unfold aStr
        simp only [h2, h3, h4]
        by_cases h0 : len = 0
        · subst h0
          have : zs = [] := List.eq_nil_of_length_eq_zero hl
          subst this
          obtain ⟨ws, hR, _⟩ := hH
          rcases hR with ⟨rfl, _, rfl, _⟩ | ⟨m, ofs, e', rfl, _⟩
          · rfl
          · simp
        · obtain ⟨m, ofs, e', rfl, hr⟩ := hH.rd (by omega)
          have := hr 0 len (by omega)
          simp only [Nat.add_zero, List.drop_zero] at this
          rw [List.take_of_length_le (by rw [List.length_map, hl]; exact Nat.le_refl _)] at this
          simp only [h0, if_false, this, u8s_map, Option.map_some]
      · cases hs
    · cases hs
  · cases hs
theorem Old.sfc {O : Nat → Prop} {σ : AState} {a : Option Addr} {l c es : Nat} {vs : List Value} (h : Old O σ a l c es vs) {m o : Nat} {e : Option Nat} (ha : a = some ⟨m, o, e⟩) (hl : 0 < c) : Sf O σ m := by
  have hn : Nr a c m := ⟨o, e, ha, fun ⟨h0, _⟩ => by omega⟩
  refine ⟨h.1.nm_lt hn, h.2 m hn, ?_⟩
  obtain ⟨zs, hR, _⟩ := h.1
  rcases hR with ⟨h0, _⟩ | ⟨m', o', e', h0, ⟨h1, _⟩ | ⟨_, _, _, b, hb, _⟩⟩
  · rw [ha] at h0; cases h0
  · omega
  · rw [ha] at h0; injection h0 with h0; injection h0 with h0 _ _; subst h0; exact ⟨b, hb⟩
theorem l_strm {x : Operand} {a : Option Addr} {len cap : Nat} {zs : List Int} (F : Facts O σ0 σ L) (hO : Old O σ0 a len cap 1 (zs.map (.int .u8))) (hc : a = none ∨ 0 < cap) (hk : opk o = 16) (hs : strE P o = some x) (hw : wantedE all n o env = true) (hd : dsto o = some d) (hx : look n env x = .slice a len cap)
    (h : ∀ pn', (PnS pn O σ0 → PnS pn' O σ0) → Lin P B all W n pn' rest (upd env d (.string (strOfNums zs))) σ) : Lin P B all W n pn (o :: rest) env σ := by
  obtain ⟨h1, h2⟩ := str_aop hs hx (F.old hO)
  cases a with
  | none =>
    refine Lin.rd hw h1 (fun m _ h => by rw [h2] at h; cases h) ?_
    rw [dsto_eq hd, h2]
    exact h _ (fun hp => by cases pn <;> exact hp)
  | some p =>
    obtain ⟨m, ofs, e⟩ := p
    have hS : Sf O σ0 m := hO.sfc rfl (by rcases hc with hc | hc; · cases hc
                                          · exact hc)
    refine l_r hw hd h1 h2 ?_ (h _ (fun hp => hp.add hS))
    rw [F.eq m hS.1 hS.2.1]; exact hS.2.2
end GAb
