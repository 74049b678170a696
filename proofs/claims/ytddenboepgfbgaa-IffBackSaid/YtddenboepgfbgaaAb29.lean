/- A struct stored into a row of one's own; what is read ahead of a call that takes pieces. No statement of the seat is proved in this text. -/
import Derived.Test.YtddenboepgfbgaaAb28
set_option linter.unusedVariables false
set_option linter.unusedSimpArgs false
namespace GAb
open Go
section
variable {P : Program} {O : Nat → Prop} {B : Base} {all : Array Oper} {W : Env → AState → Prop} {n : Nat} {env : Env} {σ0 σ : AState} {o : Oper} {rest : List Oper} {d : Option Nat} {pn : Pn} {L : List Fact}
theorem l_stoa {x y : Operand} {m j sz len cap es : Nat} {e : Option Nat} {cs : Array Value} {vs : List Value} (F : Facts O σ0 σ L) (k : Nat) (hk : opk o = 6) (hs : stE P o = some (x, y, sz)) (hw : wantedE all n o env = true) (hd : dsto o = some d) (hx : look n env x = .pointer (some ⟨m, j, none⟩)) (hy : look n env y = .agg cs) (h1 : cs.toList.all Value.oneCell' = true) (hL : L[k]? = some (own (some ⟨m, 0, e⟩) len cap es vs)) (hsz : cs.size = sz) (hj : j + sz ≤ len * es) (hD : ∀ k, O k ∨ σ0.next ≤ k → B.D k)
    (h : ∀ σ', Facts O σ0 σ' (L.set k (own (some ⟨m, 0, e⟩) len cap es (splice vs j cs.toList))) → Lin P B all W n pn rest (upd env d undef) σ') (hp : PnA pn (Nm (some ⟨m, 0, e⟩)) σ ∨ PnS pn O σ0 := by first | exact .inl pna_none | exact .inl pna_nil | exact .inr (by assumption) | exact .inl (by assumption)) : Lin P B all W n pn (o :: rest) env σ := by
  have hp := hp.elim id fun h => h.pna F (fun m hm => F.fo _ (List.mem_of_getElem? hL) m hm)
  have hm := List.mem_of_getElem? hL
  have hO : Own 0 σ (some ⟨m, 0, e⟩) len cap es vs := F.ho _ hm
  obtain ⟨σ', w1, w2⟩ := own_wr_f hO rfl (j := j) (ws := cs.toList) (by rw [Array.length_toList, hsz]; exact hj) h1
  exact l_w hw hd (st_eq hs hx hy hsz w1) (st_rb hs) (fun k hk => by injection hk with hk; subst hk; exact ⟨_, _, rfl⟩) (fun k hk => hD _ (F.fo _ hm _ hk)) w2 hp (h σ' (F.set hL w2))
theorem PnA.celP (F : Facts O σ0 σ L) (k : Nat) {m : Nat} {vs : List Value} (hL : L[k]? = some (GAb.cel m vs)) (is : List Nat) (hn : k ∉ is) (h : PnA pn (fpOf (pk L is)) σ) : PnA (pnAdd pn (some m)) (fpOf (pk L is)) σ := by
  have hc := F.oldCK is k hL hn
  have hm : ¬ fpOf (pk L is) m ∧ m < σ.next ∧ ∃ b, σ.get m = some b := ⟨hc.2, hc.1.1, _, hc.1.2⟩
  cases pn with
  | none => exact h
  | some l =>
    intro j hj
    have : j = m ∨ j ∈ l := by simpa [pnAdd, pnl] using hj
    rcases this with rfl | hj
    · exact hm
    · exact h j hj
end
end GAb
