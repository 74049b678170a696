/- Maps: laid, looked up, written. No statement of the seat is proved in this text. -/
import Derived.Test.YtocfmecenpeoiaaGreatAb32
import Derived.Laws.StructEq
import Derived.MapKept
set_option linter.unusedVariables false
set_option linter.unusedSimpArgs false
namespace GAb
open Go

def MK.kd : MK → Bool
  | .num _ => false
  | .nam .. => true
def AllK (b : Bool) (kvs : List (MK × Int)) : Prop := ∀ e ∈ kvs, e.1.kd = b
def findM (k : MK) : List (MK × Int) → Nat → Option (Nat × Value)
  | [], _ => none
  | e :: l, i => if k = e.1 then some (i, .int .i64 e.2) else findM k l (i + 1)
/-- What a key's entry says; 0 if there is none. -/
def mlook : List (MK × Int) → MK → Int
  | [], _ => 0
  | e :: l, k => if k = e.1 then e.2 else mlook l k
theorem findM_look {k : MK} : ∀ {kvs : List (MK × Int)} {i : Nat}, (findM k kvs i = none ∧ mlook kvs k = 0 ∧ ∀ e ∈ kvs, e.1 ≠ k) ∨ ∃ j, findM k kvs i = some (j, .int .i64 (mlook kvs k))
  | [], i => .inl ⟨rfl, rfl, fun e h => by cases h⟩
  | e :: l, i => by
    unfold findM mlook
    by_cases h : k = e.1
    · rw [if_pos h, if_pos h]; exact .inr ⟨i, rfl⟩
    · rw [if_neg h, if_neg h]
      rcases findM_look (k := k) (kvs := l) (i := i + 1) with ⟨h1, h2, h3⟩ | h1
      · exact .inl ⟨h1, h2, fun e' he => by
          rcases List.mem_cons.1 he with rfl | he
          · exact fun q => h q.symm
          · exact h3 e' he⟩
      · exact .inr h1
theorem findM_new {k : MK} {kvs : List (MK × Int)} (h : ∀ e ∈ kvs, e.1 ≠ k) (i : Nat) : findM k kvs i = none := by
  induction kvs generalizing i with
  | nil => rfl
  | cons e l ih =>
    unfold findM
    rw [if_neg (fun q => h e (List.mem_cons_self ..) q.symm)]
    exact ih (fun e' he => h e' (List.mem_cons_of_mem _ he)) _
structure KeyOK (P : Program) (kt : TypeId) (b : Bool) : Prop where
  chk : ∀ (w : World) (e : Bool) (k : MK), k.kd = b → (Instr.checkKey e 10000 kt k.val).run P w = .ok () w
  find : ∀ (w : World) (k : MK) (kvs : List (MK × Int)), k.kd = b → AllK b kvs → (Instr.findKey kt k.val (entsOf kvs 0)).run P w = .ok (findM k kvs 0) w

theorem keyOK_num {P : Program} {kt : TypeId} (hk : P.underlying kt = some (.int .u32)) : KeyOK P kt false := by
  refine ⟨fun w e k hkd => ?_, fun w k kvs hkd ha => ?_⟩
  · cases k with
    | nam => cases hkd
    | num k =>
      unfold Instr.checkKey
      simp [MK.val, run_und hk]
  · cases k with
    | nam => cases hkd
    | num k =>
      have gen : ∀ (kvs : List (MK × Int)) (i : Nat), AllK false kvs → Instr.findNow (.int .u32) (MK.num k).val (entsOf kvs i) i = some (findM (.num k) kvs i) := by
        intro kvs
        induction kvs with
        | nil => intro i _; rfl
        | cons e l ih =>
          intro i ha
          obtain ⟨ek, ev⟩ := e
          cases ek with
          | nam => exact absurd (ha _ (List.mem_cons_self ..)) (fun q => by cases q)
          | num k' =>
            simp only [entsOf, Instr.findNow, Instr.sameNow, MK.val, if_true, findM, MK.num.injEq]
            by_cases h : k = k'
            · subst h; simp
            · rw [if_neg h, beq_eq_false_iff_ne.2 h]
              exact ih (i + 1) (fun e' he => ha e' (List.mem_cons_of_mem _ he))
      exact MapKept.run_findKey hk (gen kvs 0 ha)

theorem run_part1 {P : Program} {w : World} {t : TypeId} {cs : Array Value} {off : Nat} {d : TypeDesc} {v : Value} (hd : P.underlying t = some d) (hg : agg? d = false) (hv : cs[off]? = some v) : (part t cs off).run P w = .ok v w := by
  have h1 : (isAgg t).run P w = .ok false w := by rw [run_isAgg hd, hg]
  simp only [part, Sem.run_bind, h1, Result.andThen_ok, Bool.false_eq_true, if_false, hv]
  rfl
theorem keyOK_nam {P : Program} {kt : TypeId} {f g : Field} (hk : P.underlying kt = some (.struct (P.fieldsOf kt))) (hfs : (P.fieldsOf kt).toList = [f, g]) (hn : f.name ≠ "_" ∧ g.name ≠ "_" ∧ f.offset = 0 ∧ g.offset = 1) (h1 : P.underlying f.type = some .string) (h2 : P.underlying g.type = some (.int .u32)) (hp : P.stoodInHeld kt = false) : KeyOK P kt true := by
  obtain ⟨n1, n2, o1, o2⟩ := hn
  have eqr : ∀ (w : World) (s s' : ByteArray) (x x' : Int), (Op.equal kt (MK.nam s x).val (MK.nam s' x').val).run P w = .ok (decide (MK.nam s x = MK.nam s' x')) w := by
    intro w s s' x x'
    have p1 : ∀ (s : ByteArray) (x : Int) (w : World), (part f.type #[.string s, .int .u32 x] f.offset).run P w = .ok (.string s) w := fun s x w => run_part1 h1 rfl (by rw [o1]; rfl)
    have p2 : ∀ (s : ByteArray) (x : Int) (w : World), (part g.type #[.string s, .int .u32 x] g.offset).run P w = .ok (.int .u32 x) w := fun s x w => run_part1 h2 rfl (by rw [o2]; rfl)
    show (Op.equalIn (9999 + 1) kt (.agg _) (.agg _)).run P w = _
    rw [run_equalIn_agg w 9999 kt _ _ hk hp, hfs]
    have e1 : (s.toList == s'.toList) = decide (s = s') := by
      rw [← beq_toListBytes]
      by_cases h : s = s'
      · rw [decide_eq_true h]; exact (MapKept.bytes_beq s s').2 h
      · rw [decide_eq_false h, ← Bool.not_eq_true]
        exact fun q => h ((MapKept.bytes_beq s s').1 q)
    simp only [Op.eqFields, Sem.run_bind, Sem.run_ite, if_pos n1, if_pos n2, p1, p2, Result.andThen_ok, run_equalIn_string w 9998 f.type _ _ h1, run_equalIn_int w 9998 g.type .u32 .u32 _ _ h2, e1, MK.nam.injEq]
    by_cases h : s = s'
    · by_cases h' : x = x' <;> simp [h, h']
    · simp [h]
  refine ⟨fun w e k hkd => ?_, fun w k kvs hkd ha => ?_⟩
  · cases k with
    | num => cases hkd
    | nam s x =>
      have c1 : (Instr.checkKey e 9999 f.type (.string s)).run P w = .ok () w := by unfold Instr.checkKey; simp [run_und h1]
      have c2 : (Instr.checkKey e 9999 g.type (.int .u32 x)).run P w = .ok () w := by unfold Instr.checkKey; simp [run_und h2]
      have p1 : (part f.type #[.string s, .int .u32 x] f.offset).run P w = .ok (.string s) w := run_part1 h1 rfl (by rw [o1]; rfl)
      have p2 : (part g.type #[.string s, .int .u32 x] g.offset).run P w = .ok (.int .u32 x) w := run_part1 h2 rfl (by rw [o2]; rfl)
      unfold Instr.checkKey
      simp only [MK.val, Sem.run_bind, run_und hk, Result.andThen_ok]
      rw [← Array.forIn_toList, hfs]
      simp [n1, n2, p1, p2, c1, c2]
  · cases k with
    | num => cases hkd
    | nam s x =>
      have gen : ∀ (kvs : List (MK × Int)) (i : Nat), AllK true kvs → (Instr.findAsking kt (MK.nam s x).val (entsOf kvs i) i).run P w = .ok (findM (.nam s x) kvs i) w := by
        intro kvs
        induction kvs with
        | nil => intro i _; rfl
        | cons e l ih =>
          intro i ha
          obtain ⟨ek, ev⟩ := e
          cases ek with
          | num => exact absurd (ha _ (List.mem_cons_self ..)) (fun q => by cases q)
          | nam s' x' =>
            simp only [entsOf, Instr.findAsking, Sem.run_bind, eqr, Result.andThen_ok, findM]
            by_cases h : MK.nam s x = MK.nam s' x'
            · rw [decide_eq_true h, if_pos h]; rfl
            · rw [decide_eq_false h, if_neg h]
              exact ih (i + 1) (fun e' he => ha e' (List.mem_cons_of_mem _ he))
      cases kvs with
      | nil =>
        simp only [Instr.findKey, Sem.run_bind, run_und hk, Result.andThen_ok]
        rfl
      | cons e l =>
        have hno : Instr.findNow (.struct (P.fieldsOf kt)) (MK.nam s x).val (entsOf (e :: l) 0) 0 = none := by
          obtain ⟨ek, ev⟩ := e
          cases ek with
          | num => exact absurd (ha _ (List.mem_cons_self ..)) (fun q => by cases q)
          | nam s' x' => rfl
        simp only [Instr.findKey, Sem.run_bind, run_und hk, Result.andThen_ok, hno]
        exact gen _ 0 ha

/-! ### The machine's map -/
theorem allocM_sound {φ : Ren} {σ : AState} {w : World} (hr : HRel φ σ w) {D : Nat → Prop} : Goes D φ σ w (φ.up σ.next ⟨w.heap.size, 1, 0, 0⟩) (σ.alloc ⟨[], mcode [], false⟩) (w.alloc (.map #[] 0)) := by
  have hfr := hr.fresh σ.next (Nat.le_refl _)
  have hle' := Ren.le_up hfr ⟨w.heap.size, 1, 0, 0⟩
  have hheap : (w.alloc (.map #[] 0)).heap = w.heap.push (.map #[] 0) := rfl
  have hpush : ∀ g, g < w.heap.size → (w.alloc (.map #[] 0)).heap[g]? = w.heap[g]? := fun g hg => by
    rw [hheap, Array.getElem?_push, if_neg (by omega)]
  refine ⟨hle', ⟨fun m hm => ?_, fun m hm => ?_, fun m bm hm => ?_, ?_, fun m q hq => ?_⟩, by rw [hheap]; simp, rfl, rfl, rfl, by simp, fun m bm hm h => ⟨bm, by rw [AState.get_alloc, if_neg (by omega)] at h; exact h, rfl⟩, fun g hg _ => hpush g hg, fun m q h1 h2 => ?_⟩
  · simp only [AState.next_alloc] at hm
    simp only [Ren.up]
    rw [if_neg (by omega)]
    exact hr.fresh m (by omega)
  · simp only [AState.next_alloc] at hm
    rw [AState.get_alloc, if_neg (by omega)]
    exact hr.dead m (by omega)
  · rw [AState.get_alloc] at hm
    split at hm
    · rename_i hnm
      subst hnm
      injection hm with hm
      subst hm
      exact .inr ⟨⟨w.heap.size, 1, 0, 0⟩, [], #[], 0, by simp [Ren.up], by rw [hheap]; simp, Nat.zero_lt_one, rfl, rfl, rfl, rfl, rfl⟩
    · rcases hr.blk m bm hm with ⟨q, c2, e2, f2, b1, b2, b3, b4, b5, b6, b7⟩ | hB2
      · exact .inl ⟨q, c2, e2, f2, hle' _ _ b1, by rw [hpush _ (hr.lt m q b1)]; exact b2, b3, b4, b5, b6.mono hle', b7⟩
      · exact .inr (hB2.mv hle' fun q hq _ => hpush _ (hr.lt m q hq))
  · intro m1 m2 b1 b2 q1 q2 h1 h2 h3 h4 h5 h6
    rw [AState.get_alloc] at h1 h2
    simp only [Ren.up] at h4 h5
    split at h1
    · rename_i e1
      subst e1
      rw [if_pos rfl] at h4
      injection h4 with h4
      subst h4
      split at h2
      · assumption
      · rename_i e2
        rw [if_neg (fun e => e2 e.symm)] at h5
        have := hr.lt m2 q2 h5
        simp at h6
        omega
    · rename_i e1
      rw [if_neg (fun e => e1 e.symm)] at h4
      split at h2
      · rename_i e2
        subst e2
        rw [if_pos rfl] at h5
        injection h5 with h5
        subst h5
        have := hr.lt m1 q1 h4
        simp at h6
        omega
      · rename_i e2
        rw [if_neg (fun e => e2 e.symm)] at h5
        exact hr.inj m1 m2 b1 b2 q1 q2 h1 h2 h3 h4 h5 h6
  · simp only [Ren.up] at hq
    split at hq
    · injection hq with hq; subst hq; rw [hheap]; simp
    · have := hr.lt m q hq
      rw [hheap]; simp; omega
  · simp only [Ren.up] at h2
    split at h2
    · injection h2 with h2; subst h2; exact .inl (Nat.le_refl _)
    · rw [h1] at h2; cases h2

/-- A map's block, as the machine has it. -/
theorem map_at {φ : Ren} {σ : AState} {w : World} (hr : HRel φ σ w) {m : Nat} {kvs : List (MK × Int)} (hm : σ.get m = some ⟨[], mcode kvs, false⟩) {u : Value} (hv : VRel φ (.map (some m)) u) :
    ∃ p es, u = .map (some p.g) ∧ φ m = some p ∧ w.heap[p.g]? = some (.map es kvs.length) ∧ es.toList = entsOf kvs 0 ∧ p.sz < p.o := by
  cases hv with
  | @map _ p hp hlt =>
    rcases hr.blk m _ hm with ⟨q, c2, e2, f2, b1, b2, b3, b4, b5, _⟩ | ⟨q, kvs2, es, clk, h1, h2, h3, h4, h5, h6, h7, h8⟩
    · rw [hp] at b1; injection b1 with b1; subst b1; omega
    · rw [hp] at h1; injection h1 with h1; subst h1
      have := mcode_inj h6
      subst this
      exact ⟨p, es, rfl, hp, by rw [h2, h8], h7, hlt⟩
theorem setM_sound {φ : Ren} {σ : AState} {w : World} (hr : HRel φ σ w) {m : Nat} {kvs kvs' : List (MK × Int)} (hm : σ.get m = some ⟨[], mcode kvs, false⟩) {p : Pl} (hp : φ m = some p) {es es' : Array MapEntry} {c : Nat} (hg : w.heap[p.g]? = some (.map es c)) (hlt : p.sz < p.o) (he : es'.toList = entsOf kvs' 0) :
    Goes (· = m) φ σ w φ (σ.put m (some ⟨[], mcode kvs', false⟩)) { w with heap := w.heap.setIfInBounds p.g (.map es' kvs'.length) } := by
  obtain ⟨a1, a3⟩ := MapKept.heap_set (o' := .map es' kvs'.length) hg
  have a4 : (w.heap.setIfInBounds p.g (.map es' kvs'.length)).size = w.heap.size := by simp
  have other : ∀ k bk q, k ≠ m → σ.get k = some bk → φ k = some q → q.g ≠ p.g := fun k bk q hkm hk hq e => hkm (hr.inj m k _ bk p q hm hk rfl hp hq e.symm).symm
  refine ⟨.refl _, ⟨hr.fresh, fun k hk => ?_, fun k bk hk => ?_, ?_, fun k q hq => by rw [a4]; exact hr.lt k q hq⟩, by rw [a4]; exact Nat.le_refl _, rfl, rfl, rfl, Nat.le_refl _, fun k bk _ hk => ?_, fun g _ hn => a3 g fun e => hn m _ p hm rfl hp e.symm rfl, fun k q h1 h2 => by rw [h1] at h2; cases h2⟩
  · rw [AState.get_put]
    have := hr.dead k hk
    split
    · rename_i e; subst e; rw [hm] at this; cases this
    · exact this
  · rw [AState.get_put] at hk
    split at hk
    · rename_i e
      subst e
      injection hk with hk
      subst hk
      exact .inr ⟨p, kvs', es', kvs'.length, hp, a1, hlt, rfl, rfl, rfl, he, rfl⟩
    · rename_i e
      rcases hr.blk k bk hk with ⟨q, c2, e2, f2, b1, b2, b3⟩ | hB2
      · exact .inl ⟨q, c2, e2, f2, b1, by rw [a3 _ (other k bk q (fun x => e x.symm) hk b1)]; exact b2, b3⟩
      · exact .inr (hB2.mv (.refl _) fun q hq _ => a3 _ (other k bk q (fun x => e x.symm) hk hq))
  · intro m1 m2 b1 b2 q1 q2 h1 h2 h3 h4 h5 h6
    rw [AState.get_put] at h1 h2
    have k1 : ∃ b1', σ.get m1 = some b1' ∧ b1'.ro = false := by
      split at h1
      · rename_i e; subst e; exact ⟨_, hm, rfl⟩
      · exact ⟨b1, h1, h3⟩
    have k2 : ∃ b2', σ.get m2 = some b2' := by
      split at h2
      · rename_i e; subst e; exact ⟨_, hm⟩
      · exact ⟨b2, h2⟩
    obtain ⟨b1', g1, g2⟩ := k1
    obtain ⟨b2', g3⟩ := k2
    exact hr.inj m1 m2 b1' b2' q1 q2 g1 g3 g2 h4 h5 h6
  · rw [AState.get_put] at hk
    split at hk
    · rename_i e; subst e; injection hk with hk; subst hk; exact ⟨_, hm, rfl⟩
    · exact ⟨bk, hk, rfl⟩

theorem ents_append (kvs : List (MK × Int)) (e : MK × Int) : ∀ i, entsOf (kvs ++ [e]) i = entsOf kvs i ++ [⟨e.1.val, .int .i64 e.2, i + kvs.length⟩] := by
  induction kvs with
  | nil => intro i; rfl
  | cons x l ih =>
    intro i
    rw [List.cons_append, entsOf, entsOf, ih (i + 1), List.cons_append, List.length_cons]
    rw [show i + 1 + l.length = i + (l.length + 1) by omega]
theorem ents_length (kvs : List (MK × Int)) : ∀ i, (entsOf kvs i).length = kvs.length := by
  induction kvs with
  | nil => intro i; rfl
  | cons x l ih => intro i; rw [entsOf, List.length_cons, ih, List.length_cons]
theorem mk_pf (k : MK) : pf k.val = true := by cases k <;> rfl

/-! ### A map of one's own -/
def mpf (m : Nat) (kvs : List (MK × Int)) : Fact where
  P σ := m < σ.next ∧ σ.get m = some ⟨[], mcode kvs, false⟩
  fp k := k = m
  lt := by rintro σ ⟨h, _⟩ m rfl; exact h
  st := by rintro σ σ' ⟨h, k⟩ hle hk; exact ⟨Nat.lt_of_lt_of_le h hle, by rw [hk m rfl]; exact k⟩
variable {P : Program} {B : Base} {n : Nat} {all : Array Oper} {W : Pn → Env → AState → Prop} {pn : Pn} {env : Env} {σ σ0 : AState} {o : Oper} {rest : List Oper} {d : Option Nat} {O : Nat → Prop} {L : List Fact}

def mmE (o : Oper) : Bool := match o.op with
  | .makeMap _ none => true
  | _ => false
theorem l_mm (F : Facts O σ0 σ L) (hs : mmE o = true) (hw : wantedE all n o env = true) (hd : dsto o = some d)
    (h : ∀ m σ', Facts O σ0 σ' (L ++ [mpf m []]) → Lin P B all W n pn rest (upd env d (.map (some m))) σ') (hp : PnA pn (fpOf []) σ ∨ PnS pn O σ0 := by first | exact .inl pna_none | exact .inl pna_nil | exact .inr (by assumption) | exact .inl (by assumption)) : Lin P B all W n pn (o :: rest) env σ := by
  have hp := hp.elim id fun h => h.pna F (fun m ⟨f, hf, _⟩ => by cases hf)
  unfold mmE at hs
  split at hs
  · rename_i t ho
    have hG : Facts (fpOf []) σ (σ.alloc ⟨[], mcode [], false⟩) [mpf σ.next []] := facts_alloc (g := mpf σ.next []) ⟨Nat.lt_succ_self _, by rw [AState.get_alloc, if_pos rfl]⟩ fun m hm => hm
    refine l_nd (E := fpOf []) (K := fun v σ' wn => v = .map (some σ.next) ∧ σ' = σ.alloc ⟨[], mcode [], false⟩ ∧ wn = none) hw hd (by unfold isTake; rw [ho]) ?_ (fun v σ' wn ⟨_, e2, e3⟩ => ?_) (fun k ⟨f, hf, _⟩ => by cases hf) hp (fun v σ' wn ⟨e1, e2, e3⟩ => ?_)
    · intro φ w a' hr ha
      refine ⟨_, _, none, _, .map (some w.heap.size), _, ⟨rfl, rfl, rfl⟩, .inl ?_, ?_, allocM_sound hr⟩
      · simp only [execOp, ho, Option.map_none, Instr.makeMap]
        rfl
      · exact .map (p := ⟨w.heap.size, 1, 0, 0⟩) (by simp [Ren.up]) Nat.zero_lt_one
    · subst e2; subst e3
      exact ⟨(fun m hm => by cases hm), _, hG⟩
    · subst e1; subst e2
      exact h _ _ (F.new hG)
  · cases hs

/-- A look-up: the map, the key, the key's type. -/
def lkE (P : Program) (o : Oper) : Option (Operand × Operand × TypeId) := match o.op with
  | .lookup t x ix false => match okx x, okx ix, P.underlying t with
    | true, true, some (.map kt et) => match tz P et with
      | some (.int .i64 0) => some (x, ix, kt)
      | _ => none
    | _, _, _ => none
  | _ => none
theorem l_lk {x ix : Operand} {kt : TypeId} {b : Bool} {m : Nat} {k : MK} {kvs : List (MK × Int)} (F : Facts O σ0 σ L) (i : Nat) (hK : KeyOK P kt b) (hs : lkE P o = some (x, ix, kt)) (hw : wantedE all n o env = true) (hd : dsto o = some d) (hx : look n env x = .map (some m)) (hi : look n env ix = k.val) (hL : L[i]? = some (mpf m kvs)) (hkd : k.kd = b) (ha : AllK b kvs)
    (h : Lin P B all W n pn rest (upd env d (.int .i64 (mlook kvs k))) σ) (hp : PnA pn (fpOf []) σ ∨ PnS pn O σ0 := by first | exact .inl pna_none | exact .inl pna_nil | exact .inr (by assumption) | exact .inl (by assumption)) : Lin P B all W n pn (o :: rest) env σ := by
  have hp := hp.elim id fun h => h.pna F (fun m ⟨f, hf, _⟩ => by cases hf)
  have hm := (F.ho _ (List.mem_of_getElem? hL)).2
  unfold lkE at hs
  split at hs
  · rename_i t x' ix' ho
    split at hs
    · rename_i kt' et h1 h2 h3
      split at hs
      · rename_i hz
        injection hs with hs
        injection hs with e1 hs
        injection hs with e2 e3
        subst e1; subst e2; subst e3
        refine l_nd (E := fpOf []) (K := fun v σ' wn => v = .int .i64 (mlook kvs k) ∧ σ' = σ ∧ wn = none) hw hd (by unfold isTake; rw [ho]) ?_ (fun v σ' wn ⟨_, e2, e3⟩ => ?_) (fun k ⟨f, hf, _⟩ => by cases hf) hp (fun v σ' wn ⟨e1, e2, e3⟩ => ?_)
        · intro φ w a' hr harel
          have vx := aval_sound harel (look_aval (n := n) (env := env) h1)
          have vi := aval_sound harel (look_aval (n := n) (env := env) h2)
          rw [hx] at vx
          rw [hi] at vi
          have vi' := pf_eq (mk_pf k) vi
          obtain ⟨p, es, hu, hp', hg, hes, _⟩ := map_at hr hm vx
          refine ⟨_, _, none, φ, .int .i64 (mlook kvs k), w, ⟨rfl, rfl, rfl⟩, .inl ?_, .int _ _, Goes.refl hr⟩
          simp only [execOp, ho, hu, vi', Instr.lookup, Sem.run_bind, run_und h3, Result.andThen_ok, MapKept.run_getObj_map hg, Sem.run_pure, hK.chk _ _ _ hkd, hes, hK.find w k kvs hkd ha]
          rcases findM_look (k := k) (kvs := kvs) (i := 0) with ⟨q1, q2, _⟩ | ⟨j, q1⟩
          · rw [q1, q2]
            simp [run_zero hz]
          · rw [q1]
            simp
        · subst e2; subst e3
          exact ⟨(fun m hm => by cases hm), [], Facts.nil _ _⟩
        · subst e1; subst e2
          exact h
      · cases hs
    · cases hs
  · cases hs

/-- A new entry: the map, the key, the value, the key's type. -/
def muE (P : Program) (o : Oper) : Option (Operand × Operand × Operand × TypeId) := match o.op with
  | .mapUpdate t x ix y => match okx x, okx ix, okx y, P.underlying t with
    | true, true, true, some (.map kt et) => some (x, ix, y, kt)
    | _, _, _, _ => none
  | _ => none
theorem mput_facts (F : Facts O σ0 σ L) {i m : Nat} {kvs kvs' : List (MK × Int)} (hL : L[i]? = some (mpf m kvs)) : Facts (mpf m kvs).fp σ (σ.put m (some ⟨[], mcode kvs', false⟩)) [mpf m kvs'] :=
  facts1 (Nat.le_refl _) (fun k _ hk => by rw [AState.get_put, if_neg (fun hm => hk hm.symm)]) ⟨(F.ho _ (List.mem_of_getElem? hL)).1, by rw [AState.get_put, if_pos rfl]⟩ fun k hk => .inl hk
theorem l_mu {x ix y : Operand} {kt : TypeId} {b : Bool} {m : Nat} {k : MK} {v : Int} {kvs : List (MK × Int)} (F : Facts O σ0 σ L) (i : Nat) (hK : KeyOK P kt b) (hs : muE P o = some (x, ix, y, kt)) (hw : wantedE all n o env = true) (hd : dsto o = some d) (hx : look n env x = .map (some m)) (hi : look n env ix = k.val) (hy : look n env y = .int .i64 v) (hL : L[i]? = some (mpf m kvs)) (hkd : k.kd = b) (ha : AllK b kvs) (hnew : ∀ e ∈ kvs, e.1 ≠ k) (hD : ∀ k, O k ∨ σ0.next ≤ k → B.D k)
    (h : ∀ σ', Facts O σ0 σ' (L.set i (mpf m (kvs ++ [(k, v)]))) → Lin P B all W n pn rest (upd env d undef) σ') (hp : PnA pn (mpf m kvs).fp σ ∨ PnS pn O σ0 := by first | exact .inl pna_none | exact .inl pna_nil | exact .inr (by assumption) | exact .inl (by assumption)) : Lin P B all W n pn (o :: rest) env σ := by
  have hmem := List.mem_of_getElem? hL
  have hp := hp.elim id fun h => h.pna F (fun k hk => F.fo _ hmem k hk)
  have hm := (F.ho _ hmem).2
  unfold muE at hs
  split at hs
  · rename_i t x' ix' y' ho
    split at hs
    · rename_i kt' et h1 h2 h2' h3
      injection hs with hs
      injection hs with e1 hs
      injection hs with e2 hs
      injection hs with e3 e4
      subst e1; subst e2; subst e3; subst e4
      refine l_nd (E := (mpf m kvs).fp) (K := fun u σ' wn => u = undef ∧ σ' = σ.put m (some ⟨[], mcode (kvs ++ [(k, v)]), false⟩) ∧ wn = some m) hw hd (by unfold isTake; rw [ho]) ?_ (fun u σ' wn ⟨_, e2, e3⟩ => ?_) (fun k hk => hD _ (F.fo _ hmem _ hk)) hp (fun u σ' wn ⟨e1, e2, e3⟩ => ?_)
      · intro φ w a' hr harel
        have vx := aval_sound harel (look_aval (n := n) (env := env) h1)
        have vi := aval_sound harel (look_aval (n := n) (env := env) h2)
        have vy := aval_sound harel (look_aval (n := n) (env := env) h2')
        rw [hx] at vx
        rw [hi] at vi
        rw [hy] at vy
        have vi' := pf_eq (mk_pf k) vi
        have vy' := pf_eq (v := .int .i64 v) rfl vy
        obtain ⟨p, es, hu, hp', hg, hes, hlt⟩ := map_at hr hm vx
        have hgo := setM_sound (kvs' := kvs ++ [(k, v)]) (es' := es.push ⟨k.val, .int .i64 v, kvs.length⟩) hr hm hp' hg hlt (by rw [Array.toList_push, hes, ents_append, Nat.zero_add])
        refine ⟨_, _, some m, φ, undef, _, ⟨rfl, rfl, rfl⟩, .inr ⟨?_, rfl⟩, VRel.undef φ, hgo.weaken hr fun k _ hk => by rw [hk]⟩
        simp only [execOp, ho, hu, vi', vy', Instr.mapUpdate, Sem.run_bind, run_und h3, Result.andThen_ok, MapKept.run_getObj_map hg, hK.chk _ _ _ hkd, hes, hK.find w k kvs hkd ha, findM_new hnew, MapKept.run_setObj_map _ hg]
        simp
      · subst e2; subst e3
        exact ⟨fun k hk => by injection hk with hk; exact hk.symm, _, mput_facts F hL⟩
      · subst e1; subst e2
        exact h _ (F.set hL (mput_facts F hL))
    · cases hs
  · cases hs

/-- The place of a new entry: the map, the key, the key's type. -/
def meE (P : Program) (o : Oper) : Option (Operand × Operand × TypeId) := match o.op with
  | .mapEntry t x ix => match okx x, okx ix, P.underlying t with
    | true, true, some (.map kt et) => match tz P et with
      | some (.int .i64 0) => some (x, ix, kt)
      | _ => none
    | _, _, _ => none
  | _ => none
theorem l_me {x ix : Operand} {kt : TypeId} {b : Bool} {m : Nat} {k : MK} {kvs : List (MK × Int)} (F : Facts O σ0 σ L) (i : Nat) (hK : KeyOK P kt b) (hs : meE P o = some (x, ix, kt)) (hw : wantedE all n o env = true) (hd : dsto o = some d) (hx : look n env x = .map (some m)) (hi : look n env ix = k.val) (hL : L[i]? = some (mpf m kvs)) (hkd : k.kd = b) (ha : AllK b kvs) (hnew : ∀ e ∈ kvs, e.1 ≠ k) (hD : ∀ k, O k ∨ σ0.next ≤ k → B.D k)
    (h : ∀ σ', Facts O σ0 σ' (L.set i (mpf m (kvs ++ [(k, 0)]))) → Lin P B all W n pn rest (upd env d (.tuple #[.int .i64 0, .int .i64 kvs.length])) σ') (hp : PnA pn (mpf m kvs).fp σ ∨ PnS pn O σ0 := by first | exact .inl pna_none | exact .inl pna_nil | exact .inr (by assumption) | exact .inl (by assumption)) : Lin P B all W n pn (o :: rest) env σ := by
  have hmem := List.mem_of_getElem? hL
  have hp := hp.elim id fun h => h.pna F (fun k hk => F.fo _ hmem k hk)
  have hm := (F.ho _ hmem).2
  unfold meE at hs
  split at hs
  · rename_i t x' ix' ho
    split at hs
    · rename_i kt' et h1 h2 h3
      split at hs
      · rename_i hz
        injection hs with hs
        injection hs with e1 hs
        injection hs with e2 e3
        subst e1; subst e2; subst e3
        refine l_nd (E := (mpf m kvs).fp) (K := fun u σ' wn => u = .tuple #[.int .i64 0, .int .i64 kvs.length] ∧ σ' = σ.put m (some ⟨[], mcode (kvs ++ [(k, 0)]), false⟩) ∧ wn = some m) hw hd (by unfold isTake; rw [ho]) ?_ (fun u σ' wn ⟨_, e2, e3⟩ => ?_) (fun k hk => hD _ (F.fo _ hmem _ hk)) hp (fun u σ' wn ⟨e1, e2, e3⟩ => ?_)
        · intro φ w a' hr harel
          have vx := aval_sound harel (look_aval (n := n) (env := env) h1)
          have vi := aval_sound harel (look_aval (n := n) (env := env) h2)
          rw [hx] at vx
          rw [hi] at vi
          have vi' := pf_eq (mk_pf k) vi
          obtain ⟨p, es, hu, hp', hg, hes, hlt⟩ := map_at hr hm vx
          have hgo := setM_sound (kvs' := kvs ++ [(k, 0)]) (es' := es.push ⟨k.val, .int .i64 0, kvs.length⟩) hr hm hp' hg hlt (by rw [Array.toList_push, hes, ents_append, Nat.zero_add])
          refine ⟨_, _, some m, φ, .tuple #[.int .i64 0, .int .i64 kvs.length], _, ⟨rfl, rfl, rfl⟩, .inl ?_, pf_rel rfl, hgo.weaken hr fun k _ hk => by rw [hk]⟩
          simp only [execOp, ho, hu, vi', Instr.mapEntry, Sem.run_bind, run_und h3, Result.andThen_ok, MapKept.run_getObj_map hg, hK.chk _ _ _ hkd, hes, hK.find w k kvs hkd ha, findM_new hnew, run_zero hz, MapKept.run_setObj_map _ hg]
          simp [goInt]
        · subst e2; subst e3
          exact ⟨fun k hk => by injection hk with hk; exact hk.symm, _, mput_facts F hL⟩
        · subst e1; subst e2
          exact h _ (F.set hL (mput_facts F hL))
      · cases hs
    · cases hs
  · cases hs

/-- What is written to the last entry: the map, the stamp, the value. -/
def esE (o : Oper) : Option (Operand × Operand × Operand) := match o.op with
  | .entryStore t x ix y => match okx x, okx ix, okx y with
    | true, true, true => some (x, ix, y)
    | _, _, _ => none
  | _ => none
theorem modify_last {α : Type} (l : List α) (a : α) (f : α → α) : (l ++ [a]).modify l.length f = l ++ [f a] := by
  induction l with
  | nil => rfl
  | cons x l ih => rw [List.cons_append, List.length_cons, List.modify_succ_cons, ih, List.cons_append]
theorem born_last {kvs : List (MK × Int)} {e : MK × Int} : ∀ i : Nat, (entsOf (kvs ++ [e]) i).findIdx? (fun x => (x.born : Int) == ((i + kvs.length : Nat) : Int)) = some kvs.length := by
  induction kvs with
  | nil => intro i; simp [entsOf]
  | cons x l ih =>
    intro i
    rw [List.cons_append, entsOf, List.findIdx?_cons]
    have : (((⟨x.1.val, .int .i64 x.2, i⟩ : MapEntry).born : Int) == ((i + (x :: l).length : Nat) : Int)) = false := by
      simp; omega
    rw [this]
    have := ih (i + 1)
    rw [show i + 1 + l.length = i + (x :: l).length by simp; omega] at this
    simp only [this]
    simp
theorem l_es {x ix y : Operand} {m : Nat} {k : MK} {v v0 : Int} {kvs : List (MK × Int)} (F : Facts O σ0 σ L) (i : Nat) (hs : esE o = some (x, ix, y)) (hw : wantedE all n o env = true) (hd : dsto o = some d) (hx : look n env x = .map (some m)) (hi : look n env ix = .int .i64 kvs.length) (hy : look n env y = .int .i64 v) (hL : L[i]? = some (mpf m (kvs ++ [(k, v0)]))) (hD : ∀ k, O k ∨ σ0.next ≤ k → B.D k)
    (h : ∀ σ', Facts O σ0 σ' (L.set i (mpf m (kvs ++ [(k, v)]))) → Lin P B all W n pn rest (upd env d undef) σ') (hp : PnA pn (mpf m (kvs ++ [(k, v0)])).fp σ ∨ PnS pn O σ0 := by first | exact .inl pna_none | exact .inl pna_nil | exact .inr (by assumption) | exact .inl (by assumption)) : Lin P B all W n pn (o :: rest) env σ := by
  have hmem := List.mem_of_getElem? hL
  have hp := hp.elim id fun h => h.pna F (fun k hk => F.fo _ hmem k hk)
  have hm := (F.ho _ hmem).2
  unfold esE at hs
  split at hs
  · rename_i t x' ix' y' ho
    split at hs
    · rename_i h1 h2 h2'
      injection hs with hs
      injection hs with e1 hs
      injection hs with e2 e3
      subst e1; subst e2; subst e3
      refine l_nd (E := (mpf m (kvs ++ [(k, v0)])).fp) (K := fun u σ' wn => u = undef ∧ σ' = σ.put m (some ⟨[], mcode (kvs ++ [(k, v)]), false⟩) ∧ wn = some m) hw hd (by unfold isTake; rw [ho]) ?_ (fun u σ' wn ⟨_, e2, e3⟩ => ?_) (fun k hk => hD _ (F.fo _ hmem _ hk)) hp (fun u σ' wn ⟨e1, e2, e3⟩ => ?_)
      · intro φ w a' hr harel
        have vx := aval_sound harel (look_aval (n := n) (env := env) h1)
        have vi := aval_sound harel (look_aval (n := n) (env := env) h2)
        have vy := aval_sound harel (look_aval (n := n) (env := env) h2')
        rw [hx] at vx
        rw [hi] at vi
        rw [hy] at vy
        have vi' := pf_eq (v := .int .i64 kvs.length) rfl vi
        have vy' := pf_eq (v := .int .i64 v) rfl vy
        obtain ⟨p, es, hu, hp', hg, hes, hlt⟩ := map_at hr hm vx
        have hai : (asInt (.int .i64 kvs.length)).run P w = .ok (kvs.length : Int) w := by first | rfl | simp [asInt, asIntOf]
        have hfi : es.findIdx? (fun e => (e.born : Int) == (kvs.length : Int)) = some kvs.length := by
          have := born_last (kvs := kvs) (e := (k, v0)) 0
          rw [← hes, Nat.zero_add] at this
          obtain ⟨l⟩ := es
          rw [List.findIdx?_toArray]
          exact this
        have hmod : (es.modify kvs.length fun e => { e with val := .int .i64 v }).toList = entsOf (kvs ++ [(k, v)]) 0 := by
          rw [Array.toList_modify, hes, ents_append, ents_append]
          have := modify_last (entsOf kvs 0) (⟨k.val, .int .i64 v0, 0 + kvs.length⟩ : MapEntry) (fun e => { e with val := .int .i64 v })
          rw [ents_length] at this
          exact this
        have hgo := setM_sound (kvs' := kvs ++ [(k, v)]) hr hm hp' hg hlt hmod
        refine ⟨_, _, some m, φ, undef, _, ⟨rfl, rfl, rfl⟩, .inr ⟨?_, rfl⟩, VRel.undef φ, hgo.weaken hr fun k _ hk => by rw [hk]⟩
        simp only [execOp, ho, hu, vi', vy', Instr.entryStore, Sem.run_bind, Result.andThen_ok, MapKept.run_getObj_map hg, hai, Sem.run_pure, hfi, MapKept.run_setObj_map _ hg, List.length_append, List.length_cons, List.length_nil]
      · subst e2; subst e3
        exact ⟨fun k hk => by injection hk with hk; exact hk.symm, _, mput_facts F hL⟩
      · subst e1; subst e2
        exact h _ (F.set hL (mput_facts F hL))
    · cases hs
  · cases hs

/-- An element of a row of structs of one's own, and the row's name. -/
theorem l_ixor {α : Type} [Inhabited α] {e : α → List Value} {x ix : Operand} {es len cap : Nat} {a : Option Addr} {ik : IntKind} {i : Int} {xs : List α} (F : Facts O σ0 σ L) (k : Nat) (hL : L[k]? = some (own a len cap es (rows e xs))) (he : (∀ x, (e x).length = es) ∧ 0 < es) (hk : opk o = 4) (hs : ixE P o = some (x, ix, es)) (hw : wantedE all n o env = true) (hd : dsto o = some d) (hx : look n env x = .slice a len cap) (hi : look n env ix = .int ik i) (hb : 0 ≤ i ∧ i < len)
    (h : ∀ m e', a = some ⟨m, 0, e'⟩ → AtR σ m (i.toNat * es) (e (xs.getD i.toNat default)) → Lin P B all W n pn rest (upd env d (.pointer (some ⟨m, i.toNat * es, none⟩))) σ) : Lin P B all W n pn (o :: rest) env σ :=
  l_ixo F k hL hk hs hw hd hx hi hb fun m e' ha hA => h m e' ha (by
    have := (F.has k hL).len he.1 he.2
    rwa [rows_at he.1 (by omega)] at hA)
end GAb
