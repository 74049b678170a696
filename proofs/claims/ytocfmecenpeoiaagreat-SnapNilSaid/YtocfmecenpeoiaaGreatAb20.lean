/- What is known of the heap in a walk, piece by piece. No statement of the seat is proved in this text. -/
import Derived.Test.YtocfmecenpeoiaaGreatAb19
set_option linter.unusedVariables false
set_option linter.unusedSimpArgs false
namespace GAb
open Go Go.RowKit

/-- One piece: what it says, which names it speaks of. -/
structure Fact where
  P : AState → Prop
  fp : Nat → Prop
  lt : ∀ σ, P σ → ∀ m, fp m → m < σ.next
  st : ∀ σ σ', P σ → σ.next ≤ σ'.next → (∀ m, fp m → σ'.get m = σ.get m) → P σ'

def Nm (a : Option Addr) (m : Nat) : Prop := ∃ o e, a = some ⟨m, o, e⟩
theorem nm_some {m k o : Nat} {e : Option Nat} (h : Nm (some ⟨m, o, e⟩) k) : k = m := by
  obtain ⟨o', e', h⟩ := h
  injection h with h; injection h with h; exact h.symm
theorem nm_none {k : Nat} (h : Nm none k) : False := by
  obtain ⟨o', e', h⟩ := h
  cases h

/-- A row that only this function, or who hands it over, knows. -/
def own (a : Option Addr) (l c es : Nat) (vs : List Value) : Fact where
  P σ := Own 0 σ a l c es vs
  fp m := Nm a m
  lt := by
    rintro σ ⟨_, ⟨rfl, _⟩ | ⟨n, e, cs, rfl, _, _, h, _⟩⟩ m hm
    · exact (nm_none hm).elim
    · rw [nm_some hm]; exact h
  st := by
    rintro σ σ' ⟨_, h | ⟨n, e, cs, rfl, he, h1, h2, h3, h4, h5⟩⟩ hle hk
    · exact ⟨Nat.zero_le _, .inl h⟩
    · exact ⟨Nat.zero_le _, .inr ⟨n, e, cs, rfl, he, h1, Nat.lt_of_lt_of_le h2 hle, h3, by rw [hk n ⟨_, _, rfl⟩]; exact h4, h5⟩⟩
/-- A variable, a struct: its cells. -/
def cel (m : Nat) (vs : List Value) : Fact where
  P σ := m < σ.next ∧ σ.get m = some ⟨vs, 0, false⟩
  fp k := k = m
  lt := by rintro σ ⟨h, _⟩ m rfl; exact h
  st := by rintro σ σ' ⟨h, k⟩ hle hk; exact ⟨Nat.lt_of_lt_of_le h hle, by rw [hk m rfl]; exact k⟩

def fpOf (L : List Fact) (m : Nat) : Prop := ∃ f ∈ L, f.fp m
def Apart (f g : Fact) : Prop := ∀ m, f.fp m → ¬ g.fp m
theorem Apart.symm {f g : Fact} (h : Apart f g) : Apart g f := fun m h1 h2 => h m h2 h1

/-- What is known: all names that were there at σ0 are as they were, but those in O; and the pieces. -/
structure Facts (O : Nat → Prop) (σ0 σ : AState) (L : List Fact) : Prop where
  le : σ0.next ≤ σ.next
  eq : ∀ m, m < σ0.next → ¬ O m → σ.get m = σ0.get m
  ho : ∀ f ∈ L, f.P σ
  fo : ∀ f ∈ L, ∀ m, f.fp m → O m ∨ σ0.next ≤ m
  di : L.Pairwise Apart

theorem Facts.nil (O : Nat → Prop) (σ : AState) : Facts O σ σ [] := ⟨Nat.le_refl _, fun _ _ _ => rfl, by simp, by simp, .nil⟩
theorem Facts.lt {O : Nat → Prop} {σ0 σ : AState} {L : List Fact} (F : Facts O σ0 σ L) {f : Fact} (hf : f ∈ L) {m : Nat} (hm : f.fp m) : m < σ.next := f.lt σ (F.ho f hf) m hm

/-- Some pieces, by their numbers. -/
def pk (L : List Fact) : List Nat → List Fact
  | [] => []
  | i :: is => match L[i]? with
    | some f => f :: pk L is
    | none => pk L is
theorem pk_eq (L : List Fact) : ∀ is : List Nat, pk L is = is.filterMap (L[·]?)
  | [] => rfl
  | i :: is => by
    unfold pk
    rw [List.filterMap_cons, pk_eq L is]
    cases L[i]? <;> rfl
theorem pk_mem {L : List Fact} {is : List Nat} {f : Fact} (h : f ∈ pk L is) : f ∈ L := by
  rw [pk_eq, List.mem_filterMap] at h
  obtain ⟨i, _, h⟩ := h
  exact List.mem_of_getElem? h
theorem pw_at {L : List Fact} (h : L.Pairwise Apart) {i j : Nat} {f g : Fact} (hij : i ≠ j) (hi : L[i]? = some f) (hj : L[j]? = some g) : Apart f g := by
  rw [List.pairwise_iff_getElem] at h
  obtain ⟨h1, e1⟩ := List.getElem?_eq_some_iff.1 hi
  obtain ⟨h2, e2⟩ := List.getElem?_eq_some_iff.1 hj
  rcases Nat.lt_or_gt_of_ne hij with hlt | hlt
  · have := h i j h1 h2 hlt; rw [e1, e2] at this; exact this
  · have := h j i h2 h1 hlt; rw [e1, e2] at this; exact this.symm
theorem Facts.pick {O : Nat → Prop} {σ0 σ : AState} {L : List Fact} (F : Facts O σ0 σ L) (is : List Nat) (hn : is.Nodup) : Facts O σ0 σ (pk L is) := by
  refine ⟨F.le, F.eq, fun f hf => F.ho f (pk_mem hf), fun f hf => F.fo f (pk_mem hf), ?_⟩
  rw [pk_eq, List.pairwise_filterMap]
  exact hn.imp fun hij f hf g hg => pw_at F.di hij hf hg
theorem pk_append (L : List Fact) (is js : List Nat) : pk L (is ++ js) = pk L is ++ pk L js := by
  simp [pk_eq]

/-- Some pieces by themselves. -/
theorem Facts.sub {O : Nat → Prop} {σ0 σ : AState} {L : List Fact} (F : Facts O σ0 σ L) (is : List Nat) (hn : is.Nodup) : Facts (fpOf (pk L is)) σ σ (pk L is) :=
  ⟨Nat.le_refl _, fun _ _ _ => rfl, (F.pick is hn).ho, fun f hf m hm => .inl ⟨f, hf, hm⟩, (F.pick is hn).di⟩
/-- A part of the pieces goes on. -/
theorem Facts.step {O : Nat → Prop} {σ0 σ σ' : AState} {L1 L2 Lr : List Fact} (F : Facts O σ0 σ (L1 ++ Lr)) (G : Facts (fpOf L1) σ σ' L2) : Facts O σ0 σ' (Lr ++ L2) := by
  have hd := List.pairwise_append.1 F.di
  have hr : ∀ g ∈ Lr, ∀ m, g.fp m → m < σ.next ∧ ¬ fpOf L1 m := fun g hg m hm =>
    ⟨F.lt (List.mem_append_right _ hg) hm, fun ⟨f, hf, hfm⟩ => hd.2.2 f hf g hg m hfm hm⟩
  refine ⟨Nat.le_trans F.le G.le, fun m hm hO => ?_, fun f hf => ?_, fun f hf m hm => ?_, ?_⟩
  · have : ¬ fpOf L1 m := fun ⟨f, hf, hfm⟩ => by
      rcases F.fo f (List.mem_append_left _ hf) m hfm with h | h
      · exact hO h
      · omega
    rw [G.eq m (Nat.lt_of_lt_of_le hm F.le) this]
    exact F.eq m hm hO
  · rcases List.mem_append.1 hf with hf | hf
    · refine f.st σ σ' (F.ho f (List.mem_append_right _ hf)) G.le fun m hm => ?_
      obtain ⟨h1, h2⟩ := hr f hf m hm
      exact G.eq m h1 h2
    · exact G.ho f hf
  · rcases List.mem_append.1 hf with hf | hf
    · exact F.fo f (List.mem_append_right _ hf) m hm
    · rcases G.fo f hf m hm with ⟨g, hg, hgm⟩ | h
      · exact F.fo g (List.mem_append_left _ hg) m hgm
      · exact .inr (Nat.le_trans F.le h)
  · refine List.pairwise_append.2 ⟨hd.2.1, G.di, fun f hf g hg m h1 h2 => ?_⟩
    obtain ⟨k1, k2⟩ := hr f hf m h1
    rcases G.fo g hg m h2 with h | h
    · exact k2 h
    · omega
/-- .. told by numbers. -/
theorem Facts.call {O : Nat → Prop} {σ0 σ σ' : AState} {L L2 : List Fact} (F : Facts O σ0 σ L) (is rs : List Nat) (hn : (is ++ rs).Nodup) (G : Facts (fpOf (pk L is)) σ σ' L2) : Facts O σ0 σ' (pk L rs ++ L2) := by
  have := F.pick (is ++ rs) hn
  rw [pk_append] at this
  exact this.step G
/-- .. where only something new comes. -/
theorem Facts.new {O : Nat → Prop} {σ0 σ σ' : AState} {L L2 : List Fact} (F : Facts O σ0 σ L) (G : Facts (fpOf []) σ σ' L2) : Facts O σ0 σ' (L ++ L2) := Facts.step (L1 := []) F G
/-- One piece goes on, in its place. -/
theorem Facts.set {O : Nat → Prop} {σ0 σ σ' : AState} {L : List Fact} (F : Facts O σ0 σ L) {k : Nat} {f g : Fact} (hk : L[k]? = some f) (G : Facts f.fp σ σ' [g]) : Facts O σ0 σ' (L.set k g) := by
  obtain ⟨hkl, hke⟩ := List.getElem?_eq_some_iff.1 hk
  have hf : f ∈ L := List.mem_of_getElem? hk
  have other : ∀ j h, j ≠ k → L[j]? = some h → ∀ m, h.fp m → m < σ.next ∧ ¬ f.fp m := fun j h hj hh m hm =>
    ⟨F.lt (List.mem_of_getElem? hh) hm, fun hfm => pw_at F.di hj hh hk m hm hfm⟩
  have mem : ∀ h ∈ L.set k g, h = g ∨ ∃ j, j ≠ k ∧ L[j]? = some h := fun h hh => by
    obtain ⟨j, hj⟩ := List.getElem?_of_mem hh
    rw [List.getElem?_set] at hj
    split at hj
    · first
        | (injection hj with hj; exact .inl hj.symm)
        | (split at hj
           · injection hj with hj; exact .inl hj.symm
           · cases hj)
    · rename_i hne; exact .inr ⟨j, fun e => hne e.symm, hj⟩
  have stays : ∀ h : Fact, (∀ m, h.fp m → m < σ.next ∧ ¬ f.fp m) → h.P σ → h.P σ' := fun h hh hp => h.st σ σ' hp G.le fun m hm => G.eq m (hh m hm).1 (hh m hm).2
  have gfo := G.fo g (by simp)
  refine ⟨Nat.le_trans F.le G.le, fun m hm hO => ?_, fun h hh => ?_, fun h hh m hm => ?_, ?_⟩
  · rw [G.eq m (Nat.lt_of_lt_of_le hm F.le) fun hfm => ?_]
    · exact F.eq m hm hO
    · rcases F.fo f hf m hfm with h | h
      · exact hO h
      · omega
  · rcases mem h hh with rfl | ⟨j, hj, hjh⟩
    · exact G.ho h (by simp)
    · exact stays h (other j h hj hjh) (F.ho h (List.mem_of_getElem? hjh))
  · rcases mem h hh with rfl | ⟨j, hj, hjh⟩
    · rcases gfo m hm with h1 | h1
      · exact F.fo f hf m h1
      · exact .inr (Nat.le_trans F.le h1)
    · exact F.fo h (List.mem_of_getElem? hjh) m hm
  · have gap : ∀ j h, j ≠ k → L[j]? = some h → Apart g h := fun j h hj hh m h1 h2 => by
      obtain ⟨k1, k2⟩ := other j h hj hh m h2
      rcases gfo m h1 with h3 | h3
      · exact k2 h3
      · omega
    rw [List.pairwise_iff_getElem]
    intro i j hi hj hij
    rw [List.length_set] at hi hj
    rw [List.getElem_set, List.getElem_set]
    split
    · rename_i hki
      rw [if_neg (by omega)]
      exact gap j _ (by omega) (List.getElem?_eq_getElem hj)
    · split
      · rename_i hki hkj
        exact (gap i _ (by omega) (List.getElem?_eq_getElem hi)).symm
      · exact pw_at F.di (by omega) (List.getElem?_eq_getElem hi) (List.getElem?_eq_getElem hj)

/-! ### What is only read -/
/-- The names that are truly looked at. -/
def Nr (a : Option Addr) (c m : Nat) : Prop := ∃ o e, a = some ⟨m, o, e⟩ ∧ ¬ (c = 0 ∧ e = some 0)
def Old (O : Nat → Prop) (σ : AState) (a : Option Addr) (l c es : Nat) (vs : List Value) : Prop := Has σ a l c es vs ∧ ∀ m, Nr a c m → ¬ O m

theorem Has.mv {σ σ' : AState} {a : Option Addr} {l c es : Nat} {vs : List Value} (h : Has σ a l c es vs) (hle : σ.next ≤ σ'.next) (hk : ∀ m, m < σ.next → Nr a c m → σ'.get m = σ.get m) : Has σ' a l c es vs := by
  obtain ⟨zs, h1, h2⟩ := h
  refine ⟨zs, ?_, h2⟩
  rcases h1 with h | ⟨n, o, e, rfl, h | ⟨h1, h2, h3, b, h4, h5⟩⟩
  · exact .inl h
  · exact .inr ⟨n, o, e, rfl, .inl h⟩
  · by_cases hd : c = 0 ∧ e = some 0
    · obtain ⟨rfl, rfl⟩ := hd
      have hz : zs = [] := by
        have := h5.2.2
        rw [Nat.zero_mul, List.take_zero] at this
        exact this.symm
      exact .inr ⟨n, o, some 0, rfl, .inl ⟨by omega, rfl, hz, rfl⟩⟩
    · exact .inr ⟨n, o, e, rfl, .inr ⟨h1, Nat.lt_of_lt_of_le h2 hle, h3, b, by rw [hk n h2 ⟨o, e, rfl, hd⟩]; exact h4, h5⟩⟩
theorem Has.nm_lt {σ : AState} {a : Option Addr} {l c es : Nat} {vs : List Value} (h : Has σ a l c es vs) {m : Nat} (hm : Nr a c m) : m < σ.next := by
  obtain ⟨o', e', rfl, hd⟩ := hm
  obtain ⟨zs, h1, h2⟩ := h
  rcases h1 with ⟨h, _⟩ | ⟨n, o, e, he, h | ⟨h1, h2, _⟩⟩
  · cases h
  · injection he with he; injection he with e1 e2 e3
    exact (hd ⟨h.2.1, e3.trans h.2.2.2⟩).elim
  · injection he with he; injection he with e1 e2 e3
    subst e1; exact h2
theorem Facts.old {O : Nat → Prop} {σ0 σ : AState} {L : List Fact} (F : Facts O σ0 σ L) {a : Option Addr} {l c es : Nat} {vs : List Value} (h : Old O σ0 a l c es vs) : Has σ a l c es vs :=
  h.1.mv F.le fun m hm hr => F.eq m hm (h.2 m hr)
theorem Facts.has {O : Nat → Prop} {σ0 σ : AState} {L : List Fact} (F : Facts O σ0 σ L) (k : Nat) {a : Option Addr} {l c es : Nat} {vs : List Value} (hk : L[k]? = some (own a l c es vs)) : Has σ a l c es vs :=
  Own.has (F.ho _ (List.mem_of_getElem? hk))
theorem Old.pure {σ : AState} {a : Option Addr} {l c es : Nat} {vs : List Value} (h : Has σ a l c es vs) : Old (fpOf []) σ a l c es vs := ⟨h, fun m _ ⟨f, hf, _⟩ => by cases hf⟩
theorem Old.none {O : Nat → Prop} {σ : AState} {es : Nat} : Old O σ none 0 0 es [] := ⟨⟨[], .inl ⟨rfl, rfl, rfl, rfl⟩, by simp⟩, fun m ⟨o, e, h, _⟩ => by cases h⟩
theorem Facts.oldC {O : Nat → Prop} {σ0 σ : AState} {L : List Fact} (F : Facts O σ0 σ L) (is : List Nat) {a : Option Addr} {l c es : Nat} {vs : List Value} (h : Old O σ0 a l c es vs) : Old (fpOf (pk L is)) σ a l c es vs :=
  ⟨F.old h, fun m hm ⟨f, hf, hfm⟩ => by
    rcases F.fo f (pk_mem hf) m hfm with h1 | h1
    · exact h.2 m hm h1
    · have := h.1.nm_lt hm
      omega⟩
theorem Facts.ownC {O : Nat → Prop} {σ0 σ : AState} {L : List Fact} (F : Facts O σ0 σ L) (is : List Nat) (k : Nat) {a : Option Addr} {l c es : Nat} {vs : List Value} (hk : L[k]? = some (own a l c es vs)) (hn : k ∉ is) : Old (fpOf (pk L is)) σ a l c es vs :=
  ⟨F.has k hk, fun m ⟨o, e, ha, _⟩ ⟨f, hf, hfm⟩ => by
    rw [pk_eq, List.mem_filterMap] at hf
    obtain ⟨i, hi, hf⟩ := hf
    exact pw_at F.di (fun e => hn (by rw [← e]; exact hi)) hf hk m hfm ⟨o, e, ha⟩⟩

/-- A part of a slice. -/
def shift (a : Option Addr) (k : Nat) : Option Addr := a.map fun x => ⟨x.block, x.off + k, x.spot⟩
theorem Has.part {σ : AState} {a : Option Addr} {l c es : Nat} {vs : List Value} (h : Has σ a l c es vs) {lo hi : Nat} (h1 : lo ≤ hi) (h2 : hi ≤ l) : Has σ (shift a (lo * es)) (hi - lo) (c - lo) es ((vs.drop (lo * es)).take ((hi - lo) * es)) := by
  obtain ⟨zs, hR, rfl⟩ := h
  have hs := hR.size
  have e1 : lo * es + (hi - lo) * es = hi * es := by rw [← Nat.add_mul]; congr 1; omega
  have e2 := Nat.mul_le_mul_right es h2
  have e3 : lo * es + (c - lo) * es = c * es := by rw [← Nat.add_mul]; congr 1; omega
  refine ⟨zs.drop (lo * es), ?_, ?_⟩
  · rcases hR with ⟨rfl, rfl, rfl, rfl⟩ | ⟨n, o, e, rfl, ⟨rfl, rfl, rfl, he⟩ | ⟨r1, r2, r3, b, r4, r5, r6, r7⟩⟩
    · exact .inl ⟨rfl, by omega, by omega, by simp⟩
    · exact .inr ⟨n, o + lo * es, e, rfl, .inl ⟨by omega, by omega, by simp, he⟩⟩
    · refine .inr ⟨n, o + lo * es, e, rfl, .inr ⟨r1, r2, by omega, b, r4, r5, by omega, ?_⟩⟩
      rw [← r7, ← List.drop_drop, List.drop_take]
      congr 1; omega
  · rw [List.drop_take, List.take_take]
    congr 1; omega
theorem Old.part {O : Nat → Prop} {σ : AState} {a : Option Addr} {l c es : Nat} {vs : List Value} (h : Old O σ a l c es vs) {lo hi : Nat} (h1 : lo ≤ hi) (h2 : hi ≤ l) : Old O σ (shift a (lo * es)) (hi - lo) (c - lo) es ((vs.drop (lo * es)).take ((hi - lo) * es)) :=
  ⟨h.1.part h1 h2, fun m ⟨o, e, ha, hd⟩ => by
    cases a with
    | none => cases ha
    | some x =>
      obtain ⟨n, o', e'⟩ := x
      simp only [shift, Option.map_some, Option.some.injEq, Addr.mk.injEq] at ha
      obtain ⟨rfl, rfl, rfl⟩ := ha
      exact h.2 _ ⟨o', e', rfl, fun ⟨k1, k2⟩ => hd ⟨by omega, k2⟩⟩⟩
theorem Has.upto {σ : AState} {a : Option Addr} {l c es : Nat} {vs : List Value} (h : Has σ a l c es vs) {hi : Nat} (h2 : hi ≤ l) : Has σ a hi c es (vs.take (hi * es)) := by
  have := h.part (lo := 0) (Nat.zero_le hi) h2
  have e : shift a (0 * es) = a := by
    rw [Nat.zero_mul]
    cases a <;> rfl
  rw [e] at this
  simpa using this
theorem Old.upto {O : Nat → Prop} {σ : AState} {a : Option Addr} {l c es : Nat} {vs : List Value} (h : Old O σ a l c es vs) {hi : Nat} (h2 : hi ≤ l) : Old O σ a hi c es (vs.take (hi * es)) := ⟨h.1.upto h2, h.2⟩

/-! ### What single changes leave -/
theorem facts1 {E : Nat → Prop} {σ σ' : AState} {g : Fact} (hle : σ.next ≤ σ'.next) (he : ∀ m, m < σ.next → ¬ E m → σ'.get m = σ.get m) (hg : g.P σ') (hf : ∀ m, g.fp m → E m ∨ σ.next ≤ m) : Facts E σ σ' [g] :=
  ⟨hle, he, fun f h => by rw [List.mem_singleton.1 h]; exact hg, fun f h => by rw [List.mem_singleton.1 h]; exact hf, List.pairwise_singleton _ _⟩
theorem facts_alloc {σ : AState} {E : Nat → Prop} {cs : List Value} {es : Nat} {g : Fact} (hg : g.P (σ.alloc ⟨cs, es, false⟩)) (hf : ∀ m, g.fp m → m = σ.next) : Facts E σ (σ.alloc ⟨cs, es, false⟩) [g] :=
  facts1 (Nat.le_succ _) (fun m hm _ => by rw [AState.get_alloc, if_neg (by omega)]) hg fun m hm => .inr (by rw [hf m hm]; exact Nat.le_refl _)
theorem own_new {σ : AState} {E : Nat → Prop} {cs : List Value} {es len cap : Nat} (e : Option Nat) (he : e = none ∨ e = some 0) (hc : cs.length = cap * es) (hl : len ≤ cap) : Facts E σ (σ.alloc ⟨cs, es, false⟩) [own (some ⟨σ.next, 0, e⟩) len cap es (cs.take (len * es))] :=
  facts_alloc (own_alloc e he (Nat.zero_le _) hc hl) fun m hm => nm_some hm

theorem aTail_f {P : Program} {elem : TypeId} {n len cap es by_ : Nat} {σ : AState} {x : Option Addr} {vs ns : List Value} {z : Value} (h : Own 0 σ x len cap es vs)
    (hz : tz P elem = some z) (hzs : z.cells.size = es) (hb : tby P elem = some by_) (hn : ns.length = n * es) (h1 : ns.all Value.oneCell' = true) (hbd : (len + n) * by_ ≤ 140737488355328 ∧ len + n ≤ 4611686018427387904) :
    ∃ x' cap' σ' wn, aTail P elem es n ns (.slice x len cap) σ = some (.slice x' (len + n) cap', σ', wn) ∧ (∀ m, wn = some m → Nm x m) ∧ Facts (Nm x) σ σ' [own x' (len + n) cap' es (vs ++ ns)] := by
  have hvs := h.has.size
  rcases h with ⟨h0, ⟨rfl, rfl, rfl, rfl⟩ | ⟨m, e, cs, rfl, he, h2, h3, h4, h5, h6, h7⟩⟩
  · unfold aTail
    simp only [hz, hb, hzs, hn, h1, and_self, if_true]
    by_cases hn0 : n = 0
    · subst hn0
      have : ns = [] := List.eq_nil_of_length_eq_zero (by simpa using hn)
      subst this
      exact ⟨none, 0, σ, none, by simp, (fun _ h => by cases h), facts1 (Nat.le_refl _) (fun _ _ _ => rfl) ⟨h0, .inl ⟨rfl, rfl, rfl, rfl⟩⟩ fun m hm => (nm_none hm).elim⟩
    · rw [if_neg hn0, if_pos (by simpa using hbd)]
      refine ⟨_, _, _, _, by rw [Nat.zero_add], (fun _ h => by cases h), ?_⟩
      have := own_new (σ := σ) (E := Nm none) (len := n) (cap := n) none (.inl rfl) hn (Nat.le_refl _)
      rw [List.take_of_length_le (by omega)] at this
      simpa using this
  · unfold aTail
    simp only [hz, hb, hzs, hn, h1, and_self, if_true]
    have hle := Nat.mul_le_mul_right es h4
    by_cases hfit : len + n ≤ cap
    · rw [if_pos hfit]
      have hf2 := Nat.mul_le_mul_right es hfit
      rw [Nat.add_mul] at hf2
      cases ns with
      | nil =>
        have hz0 : n * es = 0 := by simpa using hn.symm
        refine ⟨_, _, _, _, rfl, (fun _ h => by cases h), facts1 (Nat.le_refl _) (fun _ _ _ => rfl) ⟨h0, .inr ⟨m, e, cs, rfl, he, h2, h3, hfit, h5, h6, ?_⟩⟩ fun k hk => .inl hk⟩
        rw [Nat.add_mul, hz0, Nat.add_zero, List.append_nil]; exact h7
      | cons y ys =>
        simp only [Nat.zero_add]
        unfold wr
        rw [h5]
        simp only
        rw [if_pos ⟨trivial, by rw [hn]; omega, h1⟩]
        refine ⟨_, _, _, _, rfl, (fun k h => by injection h with h; subst h; exact ⟨_, _, rfl⟩), facts1 (Nat.le_refl _) (fun k _ hk => by rw [AState.get_put, if_neg (fun hm => hk ⟨0, e, by rw [hm]⟩)]) ⟨h0, .inr ⟨m, e, _, rfl, he, h2, h3, hfit, by rw [AState.get_put, if_pos rfl], ?_, ?_⟩⟩ fun k hk => .inl hk⟩
        · rw [splice_length (by rw [hn]; omega)]; exact h6
        · rw [Nat.add_mul, ← hn, splice_at _ _ _ (by rw [hn]; omega), h7]
    · rw [if_neg hfit, if_pos hbd]
      rcases he with rfl | rfl
      · simp only [h5]
        rw [if_pos ⟨trivial, trivial, by omega⟩]
        refine ⟨_, _, _, _, rfl, (fun k h => by injection h with h; subst h; exact ⟨_, _, rfl⟩), ?_⟩
        rw [List.drop_zero, h7]
        refine facts1 (Nat.le_succ _) (fun k hk hn => by rw [AState.get_alloc, AState.next_put, if_neg (by omega), AState.get_put, if_neg (fun hm => hn ⟨0, none, by rw [hm]⟩)]) ?_ fun k hk => .inr (by rw [nm_some hk]; exact Nat.le_refl _)
        have := own_alloc (n0 := 0) (len := len + n) (cap := len + n) (σ := σ.put m none) (cs := vs ++ ns) (es := es) none (.inl rfl) h0 (by rw [List.length_append, hvs, hn, Nat.add_mul]) (Nat.le_refl _)
        rw [List.take_of_length_le (by rw [List.length_append, hvs, hn, Nat.add_mul]; omega)] at this
        exact this
      · have hown : Own 0 σ (some ⟨m, 0, some 0⟩) len cap es vs := ⟨h0, .inr ⟨m, some 0, cs, rfl, .inr rfl, h2, h3, h4, h5, h6, h7⟩⟩
        simp only [hown.has.cells len (Nat.le_refl _), Option.map_some]
        refine ⟨_, _, _, _, rfl, (fun k h => by cases h), ?_⟩
        rw [List.take_of_length_le (by omega)]
        have := own_new (σ := σ) (E := Nm (some ⟨m, 0, some 0⟩)) (len := len + n) (cap := len + n) (cs := vs ++ ns) (es := es) none (.inl rfl) (by rw [List.length_append, hvs, hn, Nat.add_mul]) (Nat.le_refl _)
        rw [List.take_of_length_le (by rw [List.length_append, hvs, hn, Nat.add_mul]; omega)] at this
        exact this

theorem own_wr_f {len cap es : Nat} {a : Option Addr} {vs ws : List Value} {m : Nat} {e : Option Nat} {σ : AState} (hO : Own 0 σ a len cap es vs) (ha : a = some ⟨m, 0, e⟩) {j : Nat} (hj : j + ws.length ≤ len * es) (h1 : ws.all Value.oneCell' = true) :
    ∃ σ', wr σ m j ws = some σ' ∧ Facts (Nm a) σ σ' [own a len cap es (splice vs j ws)] := by
  rcases hO with ⟨h0, ⟨h, _⟩ | ⟨m', e', cs, h, he, h2, h3, h4, h5, h6, h7⟩⟩
  · rw [ha] at h; cases h
  · rw [ha] at h
    injection h with h
    injection h with e1 e2 e3
    subst e1; subst e3
    have hle := Nat.mul_le_mul_right es h4
    refine ⟨σ.put m (some ⟨splice cs j ws, es, false⟩), ?_, facts1 (Nat.le_refl _) (fun k _ hk => by rw [AState.get_put, if_neg (fun hm => hk ⟨0, e, by rw [← hm]; exact ha⟩)]) ⟨h0, .inr ⟨m, e, _, ha, he, h2, h3, h4, by rw [AState.get_put, if_pos rfl], ?_, ?_⟩⟩ fun k hk => .inl hk⟩
    · unfold wr; rw [h5]; simp only; rw [if_pos ⟨trivial, by omega, h1⟩]
    · rw [splice_length (by omega)]; exact h6
    · rw [← h7]
      unfold splice
      rw [List.take_append, List.take_append, List.take_take, List.length_take, List.drop_take, List.take_take]
      have e1 : min (len * es) j = j := by omega
      have e2 : min j cs.length = j := by omega
      have e3 : min j (len * es) = j := by omega
      rw [e1, e2, e3, List.take_of_length_le (by omega : ws.length ≤ len * es - j), Nat.sub_sub]

theorem cel_wr {σ : AState} {m j : Nat} {vs ws : List Value} (h : (cel m vs).P σ) (hj : j + ws.length ≤ vs.length) (h1 : ws.all Value.oneCell' = true) : ∃ σ', wr σ m j ws = some σ' ∧ Facts (cel m vs).fp σ σ' [cel m (splice vs j ws)] := by
  obtain ⟨h2, h3⟩ := h
  refine ⟨σ.put m (some ⟨splice vs j ws, 0, false⟩), ?_, facts1 (Nat.le_refl _) (fun k _ hk => by rw [AState.get_put, if_neg (fun hm => hk hm.symm)]) ⟨h2, by rw [AState.get_put, if_pos rfl]⟩ fun k hk => .inl hk⟩
  unfold wr; rw [h3]; simp only; rw [if_pos ⟨trivial, hj, h1⟩]
theorem cel_rd {σ : AState} {m j k : Nat} {vs : List Value} (h : (cel m vs).P σ) (hj : j + k ≤ vs.length) : rd σ m j k = some ((vs.drop j).take k) := rd_of h.2 hj
theorem cel_new {σ : AState} {E : Nat → Prop} {cs : List Value} : Facts E σ (σ.alloc ⟨cs, 0, false⟩) [cel σ.next cs] :=
  facts_alloc ⟨Nat.lt_succ_self _, by rw [AState.get_alloc, if_pos rfl]⟩ fun m hm => hm

end GAb
