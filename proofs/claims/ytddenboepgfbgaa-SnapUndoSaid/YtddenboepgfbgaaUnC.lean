/- An append to the last part of a row of one's own. No statement of the seat is proved in this text. -/
import Derived.Test.YtddenboepgfbgaaUnB
set_option linter.unusedVariables false
set_option linter.unusedSimpArgs false
set_option maxRecDepth 100000
set_option maxHeartbeats 4000000
namespace GAb
open Go

theorem shift_zero (a : Option Addr) (k : Nat) : shift a (0 * k) = a := by
  rw [Nat.zero_mul]; cases a <;> rfl
theorem aTail_t {P : Program} {elem : TypeId} {n len cap es by_ j : Nat} {σ : AState} {x : Option Addr} {vs ns : List Value} {z : Value} (h : Own 0 σ x (j + len) cap es vs)
    (hz : tz P elem = some z) (hzs : z.cells.size = es) (hb : tby P elem = some by_) (hn : ns.length = n * es) (h1 : ns.all Value.oneCell' = true) (hbd : (len + n) * by_ ≤ 140737488355328 ∧ len + n ≤ 4611686018427387904) :
    ∃ x' j' cap' vs' σ' wn, aTail P elem es n ns (.slice (shift x (j * es)) len (cap - j)) σ = some (.slice (shift x' (j' * es)) (len + n) (cap' - j'), σ', wn) ∧ (∀ m, wn = some m → Nm x m) ∧ Facts (Nm x) σ σ' [own x' (j' + (len + n)) cap' es vs'] ∧ ((j' = j ∧ vs' = vs ++ ns) ∨ (j' = 0 ∧ vs' = vs.drop (j * es) ++ ns)) := by
  have hvs := h.has.size
  rcases h with ⟨h0, ⟨rfl, hjl, rfl, rfl⟩ | ⟨m, e, cs, rfl, he, h2, h3, h4, h5, h6, h7⟩⟩
  · obtain rfl : j = 0 := by omega
    obtain rfl : len = 0 := by omega
    obtain ⟨x', cap', σ', wn, q1, q2, q3⟩ := aTail_f (P := P) (elem := elem) (n := n) (len := 0) (cap := 0) (es := es) (by_ := by_) (σ := σ) (x := none) (vs := []) (ns := ns) (z := z) ⟨h0, .inl ⟨rfl, rfl, rfl, rfl⟩⟩ hz hzs hb hn h1 hbd
    refine ⟨x', 0, cap', ns, σ', wn, ?_, q2, ?_, .inl ⟨rfl, rfl⟩⟩
    · rw [shift_zero, shift_zero]; exact q1
    · rw [Nat.zero_add]; exact q3
  · have hle := Nat.mul_le_mul_right es h4
    rw [Nat.add_mul] at hle hvs h7
    show ∃ x' j' cap' vs' σ' wn, aTail P elem es n ns (.slice (some ⟨m, 0 + j * es, e⟩) len (cap - j)) σ = _ ∧ _ ∧ _ ∧ _
    unfold aTail
    simp only [hz, hb, hzs, hn, h1, and_self, if_true]
    by_cases hfit : len + n ≤ cap - j
    · rw [if_pos hfit]
      have hf2 := Nat.mul_le_mul_right es (show j + (len + n) ≤ cap by omega)
      rw [Nat.add_mul, Nat.add_mul] at hf2
      cases ns with
      | nil =>
        have hz0 : n * es = 0 := by simpa using hn.symm
        refine ⟨some ⟨m, 0, e⟩, j, cap, vs, σ, none, rfl, (fun _ h => by cases h), facts1 (Nat.le_refl _) (fun _ _ _ => rfl) ⟨h0, .inr ⟨m, e, cs, rfl, he, h2, h3, by omega, h5, h6, ?_⟩⟩ (fun k hk => .inl hk), .inl ⟨rfl, by rw [List.append_nil]⟩⟩
        rw [Nat.add_mul, Nat.add_mul, hz0, Nat.add_zero]; exact h7
      | cons y ys =>
        unfold wr
        rw [h5]
        simp only
        rw [if_pos ⟨trivial, by rw [hn]; omega, h1⟩]
        refine ⟨some ⟨m, 0, e⟩, j, cap, vs ++ (y :: ys), _, some m, rfl, (fun k h => by injection h with h; subst h; exact ⟨_, _, rfl⟩), facts1 (Nat.le_refl _) (fun k _ hk => by rw [AState.get_put, if_neg (fun hm => hk ⟨0, e, by rw [hm]⟩)]) ⟨h0, .inr ⟨m, e, _, rfl, he, h2, h3, by omega, by rw [AState.get_put, if_pos rfl], ?_, ?_⟩⟩ (fun k hk => .inl hk), .inl ⟨rfl, rfl⟩⟩
        · rw [splice_length (by rw [hn]; omega)]; exact h6
        · rw [← Nat.add_assoc, Nat.add_mul, ← hn, show 0 + j * es + len * es = (j + len) * es by rw [Nat.add_mul]; omega, splice_at _ _ _ (by rw [hn, Nat.add_mul]; omega), Nat.add_mul, h7]
    · rw [if_neg hfit, if_pos hbd]
      rcases he with rfl | rfl
      · simp only [h5]
        rw [if_pos ⟨trivial, trivial, by omega⟩]
        have hcs : (cs.drop (0 + j * es)).take (len * es) = vs.drop (j * es) := by
          rw [← h7, Nat.zero_add, List.drop_take, show j * es + len * es - j * es = len * es by omega]
        have hvl : (vs.drop (j * es)).length = len * es := by rw [List.length_drop]; omega
        refine ⟨some ⟨_, 0, none⟩, 0, len + n, vs.drop (j * es) ++ ns, _, some m, by rw [shift_zero, Nat.sub_zero], (fun k h => by injection h with h; subst h; exact ⟨_, _, rfl⟩), ?_, .inr ⟨rfl, rfl⟩⟩
        rw [hcs, Nat.zero_add]
        refine facts1 (Nat.le_succ _) (fun k hk hn => by rw [AState.get_alloc, AState.next_put, if_neg (by omega), AState.get_put, if_neg (fun hm => hn ⟨0, none, by rw [hm]⟩)]) ?_ fun k hk => .inr (by rw [nm_some hk]; exact Nat.le_refl _)
        have := own_alloc (n0 := 0) (len := len + n) (cap := len + n) (σ := σ.put m none) (cs := vs.drop (j * es) ++ ns) (es := es) none (.inl rfl) h0 (by rw [List.length_append, hvl, hn, Nat.add_mul]) (Nat.le_refl _)
        rw [List.take_of_length_le (by rw [List.length_append, hvl, hn, Nat.add_mul]; omega)] at this
        exact this
      · have hown : Own 0 σ (some ⟨m, 0, some 0⟩) (j + len) cap es vs := ⟨h0, .inr ⟨m, some 0, cs, rfl, .inr rfl, h2, h3, h4, h5, h6, by rw [Nat.add_mul]; exact h7⟩⟩
        have hpart := hown.has.part (lo := j) (hi := j + len) (by omega) (Nat.le_refl _)
        rw [show j + len - j = len by omega] at hpart
        have hcells := hpart.cells len (Nat.le_refl _)
        have hvl : (vs.drop (j * es)).length = len * es := by rw [List.length_drop]; omega
        rw [List.take_take, Nat.min_self, List.take_of_length_le (by omega)] at hcells
        have hcells' : aCells σ es len (.slice (some ⟨m, 0 + j * es, some 0⟩) len (cap - j)) = some (vs.drop (j * es)) := hcells
        simp only [hcells', Option.map_some]
        refine ⟨some ⟨_, 0, none⟩, 0, len + n, vs.drop (j * es) ++ ns, _, none, by rw [shift_zero, Nat.sub_zero], (fun k h => by cases h), ?_, .inr ⟨rfl, rfl⟩⟩
        rw [Nat.zero_add]
        have := own_new (σ := σ) (E := Nm (some ⟨m, 0, some 0⟩)) (len := len + n) (cap := len + n) (cs := vs.drop (j * es) ++ ns) (es := es) none (.inl rfl) (by rw [List.length_append, hvl, hn, Nat.add_mul]) (Nat.le_refl _)
        rw [List.take_of_length_le (by rw [List.length_append, hvl, hn, Nat.add_mul]; omega)] at this
        exact this

theorem l_apt {P : Program} {B : Base} {n : Nat} {all : Array Oper} {W : Pn → Env → AState → Prop} {pn : Pn} {env : Env} {σ σ0 : AState} {o : Oper} {rest : List Oper} {d : Option Nat} {O : Nat → Prop} {L : List Fact} {x y : Operand} {elem : TypeId} {es by_ len cap m c2 j : Nat} {a a2 : Option Addr} {vs ns : List Value} (F : Facts O σ0 σ L) (k : Nat) (hk : opk o = 12) (ha : appE P o = some (x, y, elem, es, by_)) (hw : wantedE all n o env = true) (hd : dsto o = some d)
    (hx : look n env x = .slice (shift a (j * es)) len (cap - j)) (hL : L[k]? = some (own a (j + len) cap es vs)) (hy : look n env y = .slice a2 m c2) (hH : Has σ a2 m c2 es ns) (h1 : ns.all Value.oneCell' = true) (hby : Nat.ble by_ 1024 = true) (hbd : len + m ≤ 137438953472) (hD : ∀ k, O k ∨ σ0.next ≤ k → B.D k)
    (h : ∀ a' j' cap' vs' σ', ((j' = j ∧ vs' = vs ++ ns) ∨ (j' = 0 ∧ vs' = vs.drop (j * es) ++ ns)) → Facts O σ0 σ' (L.set k (own a' (j' + (len + m)) cap' es vs')) → Lin P B all W n pn rest (upd env d (.slice (shift a' (j' * es)) (len + m) (cap' - j'))) σ') (hp : PnA pn (Nm a) σ ∨ PnS pn O σ0 := by first | exact .inl pna_none | exact .inl pna_nil | exact .inr (by assumption) | exact .inl (by assumption)) : Lin P B all W n pn (o :: rest) env σ := by
  have hp := hp.elim id fun h => h.pna F (fun m hm => F.fo _ (List.mem_of_getElem? hL) m hm)
  have hm := List.mem_of_getElem? hL
  have hc := hH.cells m (Nat.le_refl _)
  rw [List.take_of_length_le (by rw [hH.size]; omega)] at hc
  obtain ⟨k1, ⟨z, k2, k3⟩, k4⟩ := appE_sound ha hx hy rfl hc
  obtain ⟨x', j', cap', vs', σ', wn, j1, j2, j3, j4⟩ := aTail_t (j := j) (F.ho _ hm) k2 k3 k4 (aCells_length hc) h1 (bd_mul hby hbd)
  exact l_w hw hd (k1.trans j1) (app_rb ha) j2 (fun k hk => hD _ (F.fo _ hm _ hk)) j3 hp (h _ _ _ _ _ j4 (F.set hL j3))

end GAb
