/- Appends whose room is told, parts of a row written into, rows made shorter. No statement of the seat is proved in this text. -/
import Derived.Test.YtocfmecenpeoiaaGreatAb22
import Derived.Lib.Overlaps
set_option linter.unusedVariables false
set_option linter.unusedSimpArgs false
namespace GAb
open Go Go.RowKit

/-- A row whose room is known to the cell. -/
def Ex (a : Option Addr) : Prop := a = none ∨ ∃ m, a = some ⟨m, 0, some 0⟩

/-- The machine's new block behind an append that finds no room: all of it is told. -/
theorem grow_exact {P : Program} {elem : TypeId} {k n len cap' by_ : Nat} {zeros : Bool} {z : Value} {base : Option Addr} {s x : Value} {appended : Sem (Array Value)} {φ : Ren} {σ : AState} {w : World} {old ns os us : List Value}
    (hr : HRel φ σ w) (hz : tz P elem = some z) (hzf : z.cells.toList.all flat = true) (hb : tby P elem = some by_) (hzk : z.cells.size = k) (hn : ns.length = n * k) (ho : old.length = len * k) (hcap : cap' < len + n) (hlim : (len + n) * by_ ≤ 140737488355328) (hlim2 : len + n ≤ 4611686018427387904)
    (hos : LRel φ old os) (hus : LRel φ ns us) (hold : ∀ d, (Builtin.firstCells k len s).run P { w with drawn := d } = .ok os.toArray { w with drawn := d }) (happ : ∀ d, appended.run P { w with drawn := d } = .ok us.toArray { w with drawn := d }) (D : Nat → Prop) :
    ∃ c φ' u w', (appTail elem k len cap' n zeros base s x appended).run P w = .ok u w' ∧ VRel φ' (.slice (some ⟨σ.next, 0, some 0⟩) (len + n) (len + n + c)) u ∧ Goes D φ σ w φ' (σ.alloc ⟨old ++ ns ++ zrow z.cells.toList c, k, false⟩) w' := by
  obtain ⟨i, hi, hib⟩ := run_bytes (w := w) hb
  have hi' : ∀ w, (typeInfo elem).run P w = .ok i w := fun w => by
    obtain ⟨j, hj, _⟩ := run_bytes (P := P) (w := w) hb
    have : i = j := by
      unfold typeInfo at hi hj
      simp only [Sem.run_bind, run_program, Result.andThen_ok] at hi hj
      cases hp : P.info? elem with
      | none => simp [hp] at hi
      | some q => simp [hp] at hi hj; exact hi.symm.trans hj
    rw [this]; exact hj
  have hfit := growslice_fits (need := len + n) (old := cap') (bytes := by_) hcap hlim
  have hq : ∀ t, ∃ c, (Question.appendCap (len + n) cap' elem).cut t = len + n + c := fun t => ⟨_, rfl⟩
  obtain ⟨c, hc⟩ := hq (w.tape w.drawn (.appendCap (len + n) cap' elem))
  have hol := LRel.length hos
  have hul := LRel.length hus
  let cells : Array Value := os.toArray ++ us.toArray ++ (zrow z.cells.toList c).toArray
  have hsize : cells.size = (len + n + c) * k := by
    simp only [cells, Array.size_append, List.size_toArray, zrow_length, Array.length_toList, hzk]
    rw [← hol, ← hul, ho, hn, Nat.add_mul, Nat.add_mul]
  have hlen : (old ++ ns ++ zrow z.cells.toList c).length = (len + n + c) * k := by
    simp only [List.length_append, zrow_length, Array.length_toList, hzk, ho, hn, Nat.add_mul]
  have hal := alloc_sound (hr.drew (w.drawn + 1)) (D := D) (vs := old ++ ns ++ zrow z.cells.toList c) (us := cells) k elem
    (by rw [hsize, hlen]; exact Nat.le_refl _)
    (by
      have e : cells.toList.take (old ++ ns ++ zrow z.cells.toList c).length = os ++ us ++ zrow z.cells.toList c := by
        rw [List.take_of_length_le (by rw [hlen, Array.length_toList, hsize]; exact Nat.le_refl _)]
        simp only [cells, Array.toList_append, List.toList_toArray]
      rw [e]; exact (hos.append hus).append (flat_cells (zrow_flat hzf _)))
  refine ⟨c, _, .slice (some ⟨w.heap.size, 0, none⟩) (len + n) (len + n + c), _, ?_, ?_, (Goes.drew hr _).trans hal (fun _ _ h => h) hr⟩
  · have hzero : ∀ w, (zeroValue elem).run P w = .ok z w := fun w => run_zero hz
    unfold appTail
    simp only [Sem.run_ite]
    rw [if_neg (by omega)]
    simp only [Sem.run_bind, hi', Result.andThen_ok]
    rw [if_neg (by
      intro h
      have h1 := h.1
      simp [IntKind.max, IntKind.bits, IntKind.signed] at h1
      omega)]
    simp only [Sem.run_bind, Sem.run_pure, hi', Result.andThen_ok]
    rw [if_neg (by rw [hib]; omega)]
    simp only [Sem.run_bind, Sem.run_pure, hi', Result.andThen_ok, run_choose, Question.forced, Bool.false_eq_true, if_false, run_askRoom, hold, happ, hzero, hc]
    rw [show len + n + c - (len + n) = c by omega, zeroCells_eq]
    simp [newRow, cells]
  · have := VRel.sliceX (φ := Ren.up φ σ.next ⟨w.heap.size, 0, cells.size, k⟩) (n := σ.next) (o := 0) (len := len + n) (cap := len + n + c) (p := ⟨w.heap.size, 0, cells.size, k⟩) (by simp [Ren.up])
    simpa using this

section
variable {P : Program} {B : Base} {n : Nat} {env : Env} {σ : AState} {all : Array Oper} {W : Pn → Env → AState → Prop} {o : Oper} {rest : List Oper} {d : Option Nat} {pn : Pn} {O : Nat → Prop} {σ0 : AState} {L : List Fact}

theorem l_nd {E : Nat → Prop} {K : Value → AState → Option Nat → Prop} (hw : wantedE all n o env = true) (hd : dsto o = some d) (hnt : isTake P o = false) (ho : OpN P o (actOf n env) σ K) (hE : ∀ v σ' wn, K v σ' wn → (∀ m, wn = some m → E m) ∧ ∃ L2, Facts E σ σ' L2) (hD : ∀ m, E m → B.D m) (hp : PnA pn E σ)
    (h : ∀ v σ' wn, K v σ' wn → Lin P B all W n pn rest (upd env d v) σ') : Lin P B all W n pn (o :: rest) env σ := by
  refine .nd hw hnt ho (fun v σ' wn hK m hm => hD m ((hE v σ' wn hK).1 m hm)) (fun v σ' wn hK m hm => ?_) (fun v σ' wn hK => by rw [dsto_eq hd]; exact h v σ' wn hK)
  obtain ⟨h1, h2, h3⟩ := hp m hm
  obtain ⟨g1, L2, G⟩ := hE v σ' wn hK
  exact ⟨fun e => h1 (g1 m e), by rw [G.eq m h2 h1]; exact h3⟩

def zflat (P : Program) (t : TypeId) : Bool :=
  match tz P t with
  | some z => z.cells.toList.all flat
  | none => false

theorem appx_opn {x y : Operand} {elem : TypeId} {k by_ len cap m : Nat} {a : Option Addr} {v : Value} {vs ns : List Value} (ha : appE P o = some (x, y, elem, k, by_)) (hzf : zflat P elem = true) (hx : look n env x = .slice a len cap) (hEx : Ex a) (hO : Has σ a len cap k vs) (hy : look n env y = v) (hl : aLen v = some m) (hc : aCells σ k m v = some ns) (hgrow : cap < len + m) (hbd : (len + m) * by_ ≤ 140737488355328 ∧ len + m ≤ 4611686018427387904) :
    ∃ zs : List Value, zs.length = k ∧ OpN P o (actOf n env) σ (fun u σ' wn => ∃ c, u = .slice (some ⟨σ.next, 0, some 0⟩) (len + m) (len + m + c) ∧ σ' = σ.alloc ⟨vs ++ ns ++ zrow zs c, k, false⟩ ∧ wn = none) := by
  unfold appE at ha
  split at ha
  · rename_i c ho
    split at ha
    · rename_i x' y' st xt hc1 hc2 hc3 hc4
      split at ha
      · rename_i elem' xd hx' hy' hu1 hu2
        split at ha
        · rename_i k' z b' hi h1 h2 h3
          split at ha
          · rename_i hz
            injection ha with ha
            injection ha with e1 ha
            injection ha with e2 ha
            injection ha with e3 ha
            injection ha with e4 e5
            subst e1; subst e2; subst e3; subst e4; subst e5
            have hzk : z.cells.size = k' := Nat.eq_of_beq_eq_true hz
            unfold zflat at hzf
            rw [h2] at hzf
            refine ⟨z.cells.toList, by simpa using hzk, fun φ w a' hr harel => ?_⟩
            have vx := aval_sound harel (look_aval (n := n) (env := env) hx')
            have vy := aval_sound harel (look_aval (n := n) (env := env) hy')
            rw [hx] at vx
            rw [hy] at vy
            have hex : execOp a'.eval o = (do pure (.value (← Builtin.append_ c.argTypes o.type (c.args.map a'.eval)))) := by
              simp only [execOp, ho, resolve, hc1, pure_bind, invoke, builtin]
            have hm : c.args.map a'.eval = #[a'.eval x', a'.eval y'] := by apply Array.ext'; simp [hc2]
            have hcs := hO.cells len (Nat.le_refl _)
            rw [List.take_of_length_le (by rw [hO.size]; exact Nat.le_refl _)] at hcs
            obtain ⟨os, k1, k2⟩ := aCells_sound hcs hr vx
            obtain ⟨us, k3, k4⟩ := aCells_sound hc hr vy
            have hsl : ∃ base, a'.eval x' = .slice base len cap := by
              generalize a'.eval x' = xv at vx
              rcases hEx with rfl | ⟨q, rfl⟩
              · cases vx; exact ⟨_, rfl⟩
              · cases vx <;> exact ⟨_, rfl⟩
            obtain ⟨base, hb⟩ := hsl
            have hint : ¬ isInt (some xd) = true := by rw [hi]; decide
            obtain ⟨cc, φ', u, w', g1, g2, g3⟩ := grow_exact (zeros := false) (base := base) (s := a'.eval x') (x := a'.eval y') (appended := Builtin.firstCells k' m (a'.eval y')) hr h2 hzf h3 hzk (aCells_length hc) (by rw [hO.size]) hgrow hbd.1 hbd.2 k1 k3 (fun d => k2 P d) (fun d => k4 P d) (fun n => (none : Option Nat) = some n)
            refine ⟨_, _, none, φ', u, w', ⟨cc, rfl, rfl, rfl⟩, .inl ?_, g2, g3⟩
            rw [hex, hm, hb]
            have := append_eq c.argTypes o.type #[.slice base len cap, a'.eval y'] P w (x := a'.eval y') (base := base) (sLen := len) (sCap := cap) hc3 hc4 rfl rfl hu1 hu2 h1
            simp only [Sem.run_bind]
            rw [this, if_neg hint]
            simp only [Sem.run_bind, aLen_sound hl vy, Result.andThen_ok]
            rw [hb] at g1
            rw [g1]
            rfl
          · cases ha
        · cases ha
      · cases ha
    · cases ha
  · cases ha

theorem aTail_fit {elem : TypeId} {k m len cap : Nat} {a : Option Addr} {ns : List Value} {x' : Option Addr} {l' c' : Nat} {σ' : AState} {wn : Option Nat} (h : aTail P elem k m ns (.slice a len cap) σ = some (.slice x' l' c', σ', wn)) (hfit : len + m ≤ cap) : x' = a ∧ c' = cap := by
  unfold aTail at h
  split at h
  · split at h
    · split at h
      · rename_i heq
        injection heq with e1 e2 e3
        subst e1; subst e2; subst e3
        have : m = 0 := by omega
        subst this
        simp at h
        exact ⟨h.1.1.symm, h.1.2.2.symm⟩
      · rename_i heq
        injection heq with e1 e2 e3
        subst e1; subst e2; subst e3
        rw [if_pos hfit] at h
        split at h
        · simp at h; exact ⟨h.1.1.symm, h.1.2.2.symm⟩
        · simp only [Option.map_eq_some_iff] at h
          obtain ⟨s, _, h⟩ := h
          injection h with h
          injection h with h1 h2 h3
          exact ⟨h1.symm, h3.symm⟩
      · cases h
    · cases h
  · cases h

/-- An append to a row whose room is known: so is the room of what comes of it. -/
theorem l_appx {x y : Operand} {elem : TypeId} {es by_ len cap m c2 : Nat} {a a2 : Option Addr} {vs ns : List Value} (F : Facts O σ0 σ L) (k : Nat) (hk : opk o = 12) (ha : appE P o = some (x, y, elem, es, by_)) (hzf : zflat P elem = true) (hnt : isTake P o = false) (hw : wantedE all n o env = true) (hd : dsto o = some d)
    (hx : look n env x = .slice a len cap) (hEx : Ex a) (hL : L[k]? = some (own a len cap es vs)) (hy : look n env y = .slice a2 m c2) (hH : Has σ a2 m c2 es ns) (h1 : ns.all Value.oneCell' = true) (hby : Nat.ble by_ 1024 = true) (hbd : len + m ≤ 137438953472) (hD : ∀ k, O k ∨ σ0.next ≤ k → B.D k)
    (h : ∀ a' cap' σ', Ex a' → Facts O σ0 σ' (L.set k (own a' (len + m) cap' es (vs ++ ns))) → Lin P B all W n pn rest (upd env d (.slice a' (len + m) cap')) σ') (hp : PnA pn (Nm a) σ ∨ PnS pn O σ0 := by first | exact .inl pna_none | exact .inl pna_nil | exact .inr (by assumption) | exact .inl (by assumption)) : Lin P B all W n pn (o :: rest) env σ := by
  have hp := hp.elim id fun h => h.pna F (fun m hm => F.fo _ (List.mem_of_getElem? hL) m hm)
  have hm := List.mem_of_getElem? hL
  have hc := hH.cells m (Nat.le_refl _)
  rw [List.take_of_length_le (by rw [hH.size]; omega)] at hc
  have hO : Own 0 σ a len cap es vs := F.ho _ hm
  by_cases hfit : len + m ≤ cap
  · obtain ⟨k1, ⟨z, k2, k3⟩, k4⟩ := appE_sound ha hx hy rfl hc
    obtain ⟨x', cap', σ', wn, j1, j2, j3⟩ := aTail_f hO k2 k3 k4 (aCells_length hc) h1 (bd_mul hby hbd)
    obtain ⟨rfl, rfl⟩ := aTail_fit j1 hfit
    exact l_w hw hd (k1.trans j1) (app_rb ha) j2 (fun k hk => hD _ (F.fo _ hm _ hk)) j3 hp (h _ _ _ hEx (F.set hL j3))
  · obtain ⟨zs, hzl, hop⟩ := appx_opn ha hzf hx hEx hO.has hy rfl hc (by omega) (bd_mul hby hbd)
    have hvs := hO.has.size
    have hns := aCells_length hc
    have G : ∀ c, Facts (Nm a) σ (σ.alloc ⟨vs ++ ns ++ zrow zs c, es, false⟩) [own (some ⟨σ.next, 0, some 0⟩) (len + m) (len + m + c) es (vs ++ ns)] := fun c => by
      have := own_new (σ := σ) (E := Nm a) (cs := vs ++ ns ++ zrow zs c) (es := es) (len := len + m) (cap := len + m + c) (some 0) (.inr rfl) (by simp only [List.length_append, zrow_length, hzl, hvs, hns, Nat.add_mul]) (by omega)
      rw [List.take_append_of_le_length (by simp only [List.length_append, hvs, hns, Nat.add_mul]; exact Nat.le_refl _), List.take_of_length_le (by simp only [List.length_append, hvs, hns, Nat.add_mul]; exact Nat.le_refl _)] at this
      exact this
    refine l_nd (E := Nm a) hw hd hnt hop (fun v σ' wn ⟨c, e1, e2, e3⟩ => ?_) (fun k hk => hD _ (F.fo _ hm _ hk)) hp (fun v σ' wn ⟨c, e1, e2, e3⟩ => ?_)
    · subst e1; subst e2; subst e3
      exact ⟨(fun _ h => by cases h), _, G c⟩
    · subst e1; subst e2; subst e3
      exact h _ _ _ (.inr ⟨_, rfl⟩) (F.set hL (G c))

/-! ### Do two rows share memory? -/
theorem blk_of {φ : Ren} {σ : AState} {w : World} (hr : HRel φ σ w) {m : Nat} {cs : List Value} {es : Nat} (hg : σ.get m = some ⟨cs, es, false⟩) (hes : es ≠ 1 ∧ es < 1000) : ∃ p us te fz, φ m = some p ∧ w.heap[p.g]? = some (.cells us te fz) ∧ p.o + cs.length ≤ us.size ∧ fz.1 = fz.2 := by
  obtain ⟨p, us, te, fz, h1, h2, h3, h4, h5, h6, h7⟩ := hr.cel1 hg hes.2
  refine ⟨p, us, te, fz, h1, h2, h5, ?_⟩
  rcases h7 rfl with h | ⟨_, h⟩
  · exact h
  · exact (hes.1 h).elim
def ovE (P : Program) (n : Nat) (o : Oper) (env : Env) : Option (FuncId × List Value) :=
  match o.op with
  | .call c => match c.callee with
    | .value (.func g) => match okxs c.args.toList with
      | true => some (g, looks n env c.args.toList)
      | false => none
    | _ => none
  | _ => none
theorem l_ovl {g : FuncId} {fn : Func} {tS tR te : TypeId} {sz m1 m2 o1 o2 l1 c1 l2 c2 k1 k2 : Nat} {e1 e2 s1 s2 : Option Nat} {len1 cap1 len2 cap2 es1 es2 : Nat} {v1 v2 : List Value} (F : Facts O σ0 σ L) (hk : opk o = 15) (ht : ovE P n o env = some (g, [.slice (some ⟨m1, o1, s1⟩) l1 c1, .slice (some ⟨m2, o2, s2⟩) l2 c2]))
    (hf : P.funcs[g]? = some fn) (hq : ((fn.name == "runtime.NumGoroutine") = false ∧ fn.body.isNone = true) ∧ Extern.findNext fn = none) (hfind : Extern.find fn = some (Extern.SlicesOverlaps.overlaps #[tS, tS] #[tR])) (hu : P.underlying tS = some (.slice te)) (hsz : tsz P te = some sz)
    (hw : wantedE all n o env = true) (hd : dsto o = some d) (h1 : L[k1]? = some (own (some ⟨m1, 0, e1⟩) len1 cap1 es1 v1)) (h2 : L[k2]? = some (own (some ⟨m2, 0, e2⟩) len2 cap2 es2 v2)) (hne : k1 ≠ k2) (hes : es1 ≠ 1 ∧ es2 ≠ 1 ∧ 0 < es2 ∧ es1 < 1000 ∧ es2 < 1000) (hb : 0 < c1 ∧ 0 < c2 ∧ 0 < cap2)
    (h : Lin P B all W n pn rest (upd env d (.bool false)) σ) (hp : PnA pn (fpOf []) σ ∨ PnS pn O σ0 := by first | exact .inl pna_none | exact .inl pna_nil | exact .inr (by assumption) | exact .inl (by assumption)) : Lin P B all W n pn (o :: rest) env σ := by
  have hp := hp.elim id fun h => h.pna F (fun m ⟨f, hf, _⟩ => by cases hf)
  unfold ovE at ht
  split at ht
  · rename_i c ho
    split at ht
    · rename_i g' hc
      split at ht
      · rename_i hx
        injection ht with ht
        injection ht with t1 t2
        subst t1
        have hnt : isTake P o = false := by unfold isTake; simp only [ho, hc]
        have hop : OpN P o (actOf n env) σ (fun v σ' wn => v = .bool false ∧ σ' = σ ∧ wn = none) := by
          intro φ w a' hr ha
          have hv := avals_sound ha (looks_avals hx)
          rw [t2] at hv
          have ho1 : Own 0 σ (some ⟨m1, 0, e1⟩) len1 cap1 es1 v1 := F.ho _ (List.mem_of_getElem? h1)
          have ho2 : Own 0 σ (some ⟨m2, 0, e2⟩) len2 cap2 es2 v2 := F.ho _ (List.mem_of_getElem? h2)
          have hmm : m1 ≠ m2 := fun e => pw_at F.di hne h1 h2 m1 ⟨0, e1, rfl⟩ ⟨0, e2, by rw [e]⟩
          rcases ho1 with ⟨_, ⟨h, _⟩ | ⟨q1, _, cs1, hq1, _, _, _, _, g1, g2, _⟩⟩
          · cases h
          rcases ho2 with ⟨_, ⟨h, _⟩ | ⟨q2, _, cs2, hq2, _, _, _, _, g3, g4, _⟩⟩
          · cases h
          injection hq1 with hq1; injection hq1 with hq1 _ _; subst hq1
          injection hq2 with hq2; injection hq2 with hq2 _ _; subst hq2
          obtain ⟨p1, us1, t1, fz1, a1, a2, a3, a4⟩ := blk_of hr g1 ⟨hes.1, hes.2.2.2.1⟩
          obtain ⟨p2, us2, t2', fz2, b1, b2, b3, b4⟩ := blk_of hr g3 ⟨hes.2.1, hes.2.2.2.2⟩
          have hgg : p1.g ≠ p2.g := fun e => hmm (hr.inj m1 m2 _ _ p1 p2 g1 g3 rfl a1 b1 e)
          have hpos : us2.size ≠ 0 := by
            have : 0 < cap2 * es2 := Nat.mul_pos hb.2.2 hes.2.2.1
            omega
          have sl : ∀ (m o' l c : Nat) (s : Option Nat) (p : Pl) (u : Value), φ m = some p → 0 < c → VRel φ (.slice (some ⟨m, o', s⟩) l c) u → ∃ o'' c'', u = .slice (some ⟨p.g, o'', none⟩) l c'' := by
            intro m o' l c s p u hpm hc hvr
            cases hvr with
            | slice hp' _ _ => rw [hpm] at hp'; injection hp' with hp'; subst hp'; exact ⟨_, _, rfl⟩
            | sliceX hp' => rw [hpm] at hp'; injection hp' with hp'; subst hp'; exact ⟨_, _, rfl⟩
            | sliceE _ _ => omega
          have hmap : ∃ u1 u2, c.args.map a'.eval = #[u1, u2] ∧ VRel φ (.slice (some ⟨m1, o1, s1⟩) l1 c1) u1 ∧ VRel φ (.slice (some ⟨m2, o2, s2⟩) l2 c2) u2 := by
            generalize hargs : c.args.toList.map a'.eval = us at hv
            cases hv with
            | cons hv1 hv => cases hv with
              | cons hv2 hv => cases hv; exact ⟨_, _, by apply Array.ext'; simpa using hargs, hv1, hv2⟩
          obtain ⟨u1, u2, hm, hv1, hv2⟩ := hmap
          obtain ⟨oa, ca, rfl⟩ := sl _ _ _ _ _ _ _ a1 hb.1 hv1
          obtain ⟨ob, cb, rfl⟩ := sl _ _ _ _ _ _ _ b1 hb.2.1 hv2
          refine ⟨.bool false, σ, none, φ, .bool false, w, ⟨rfl, rfl, rfl⟩, .inl ?_, .bool _, Goes.refl hr⟩
          have hof : ∀ w, (Go.sizeOf te).run P w = .ok sz w := fun w => run_size hsz
          have hcall : (callFunc g' #[.slice (some ⟨p1.g, oa, none⟩) l1 ca, .slice (some ⟨p2.g, ob, none⟩) l2 cb]).run P w = .ok (.value (.bool false)) w := by
            rw [run_callFunc_extern hf hq.1.1 hq.1.2 hq.2 hfind,
              Lib.run_overlaps_apart w tS tR te hu sz hof ⟨p1.g, oa, none⟩ ⟨p2.g, ob, none⟩ l1 ca l2 cb hgg t1 t2' us1.size us2.size (by simp [World.shape?, a2]) (by simp [World.shape?, b2]) hpos
                (by rw [frozen_of a2]; simp; omega) (by rw [frozen_of a2]; simp; omega)]
            rfl
          simp only [execOp, ho, resolve, hc, Act.eval, Deferred.ofValue, Sem.run_bind, Sem.run_pure, Result.andThen_ok, invoke]
          rw [hm]
          simpa using hcall
        refine l_nd (E := fpOf []) hw hd hnt hop (fun v σ' wn ⟨_, e2, e3⟩ => ?_) (fun k ⟨f, hf, _⟩ => by cases hf) hp (fun v σ' wn ⟨e1, e2, e3⟩ => ?_)
        · subst e2; subst e3
          exact ⟨(fun _ h => by cases h), [], Facts.nil _ _⟩
        · subst e1; subst e2; subst e3
          exact h
      · cases ht
    · cases ht
  · cases ht

/-! ### Parts of a row of one's own -/
/-- A row, seen up to where it has room. -/
theorem Facts.more (F : Facts O σ0 σ L) (k : Nat) {a : Option Addr} {l c es h : Nat} {vs : List Value} (hL : L[k]? = some (own a l c es vs)) (h1 : l ≤ h) (h2 : h ≤ c) : ∃ ws : List Value, ws.length = (h - l) * es ∧ Facts O σ0 σ (L.set k (own a h c es (vs ++ ws))) := by
  have hO : Own 0 σ a l c es vs := F.ho _ (List.mem_of_getElem? hL)
  rcases hO with ⟨h0, ⟨rfl, rfl, rfl, rfl⟩ | ⟨m, e, cs, rfl, he, g2, g3, g4, g5, g6, g7⟩⟩
  · have : h = 0 := by omega
    subst this
    exact ⟨[], by simp, F.set hL (facts1 (Nat.le_refl _) (fun _ _ _ => rfl) ⟨h0, .inl ⟨rfl, rfl, rfl, by simp⟩⟩ fun m hm => .inl hm)⟩
  · have e1 := Nat.mul_le_mul_right es h1
    have e2 := Nat.mul_le_mul_right es h2
    have e3 : l * es + (h - l) * es = h * es := by rw [← Nat.add_mul]; congr 1; omega
    refine ⟨(cs.drop (l * es)).take ((h - l) * es), by simp; omega, F.set hL (facts1 (Nat.le_refl _) (fun _ _ _ => rfl) ⟨h0, .inr ⟨m, e, cs, rfl, he, g2, g3, h2, g5, g6, ?_⟩⟩ fun m hm => .inl hm)⟩
    rw [← g7, ← e3, List.take_add]

/-- A copy to a place within a row of one's own. -/
theorem l_cpo {x y : Operand} {es len cap l2 d2 m j m2 c3 : Nat} {b : Option Addr} {e : Option Nat} {vs ns : List Value} (F : Facts O σ0 σ L) (k : Nat) (hk : opk o = 13) (hs : cpE P o = some (x, y, es)) (hw : wantedE all n o env = true) (hd : dsto o = some d) (hx : look n env x = .slice (some ⟨m, j, e⟩) l2 d2) (hL : L[k]? = some (own (some ⟨m, 0, e⟩) len cap es vs)) (hy : look n env y = .slice b m2 c3) (hH : Has σ b m2 c3 es ns) (h1 : (ns.take (min m2 l2 * es)).all Value.oneCell' = true) (hj : j + min m2 l2 * es ≤ len * es) (hD : ∀ k, O k ∨ σ0.next ≤ k → B.D k)
    (h : ∀ σ', Facts O σ0 σ' (L.set k (own (some ⟨m, 0, e⟩) len cap es (splice vs j (ns.take (min m2 l2 * es))))) → Lin P B all W n pn rest (upd env d (.int .i64 (min m2 l2 : Nat))) σ') (hp : PnA pn (Nm (some ⟨m, 0, e⟩)) σ ∨ PnS pn O σ0 := by first | exact .inl pna_none | exact .inl pna_nil | exact .inr (by assumption) | exact .inl (by assumption)) : Lin P B all W n pn (o :: rest) env σ := by
  have hp := hp.elim id fun h => h.pna F (fun m hm => F.fo _ (List.mem_of_getElem? hL) m hm)
  have hm := List.mem_of_getElem? hL
  have hO : Own 0 σ (some ⟨m, 0, e⟩) len cap es vs := F.ho _ hm
  have hc := hH.cells (min m2 l2) (Nat.min_le_left _ _)
  have hsz := hH.size
  unfold cpE at hs
  split at hs
  · rename_i c ho
    split at hs
    · rename_i x' y' t hc1 hc2 hc3
      split at hs
      · rename_i elem k1 k2 hu
        cases hk : tsz P elem with
        | none => rw [hk] at hs; cases hs
        | some k' =>
          rw [hk] at hs
          injection hs with hs
          injection hs with e1 hs
          injection hs with e2 e3
          subst e1; subst e2; subst e3
          have hop : aop P o (actOf n env) σ = aCopy P c.argTypes (.slice (some ⟨m, j, e⟩) l2 d2) (.slice b m2 c3) σ := by
            unfold aop
            simp only [ho, hc1]
            unfold aBuiltin
            simp only [hc2, look_aval k1, look_aval k2, hx, hy]
          have hlen : (ns.take (min m2 l2 * k')).length = min m2 l2 * k' := by
            have := Nat.mul_le_mul_right k' (Nat.min_le_left m2 l2)
            rw [List.length_take, hsz]; omega
          cases hns : ns.take (min m2 l2 * k') with
          | nil =>
            have G : Facts (Nm (some ⟨m, 0, e⟩)) σ σ [own (some ⟨m, 0, e⟩) len cap k' (splice vs j [])] := facts1 (Nat.le_refl _) (fun _ _ _ => rfl) (by rw [splice_nil]; exact hO) fun m hm => .inl hm
            refine l_w (wn := none) hw hd (v := .int .i64 (min m2 l2 : Nat)) (σ' := σ) ?_ (by unfold rbE; rw [ho]) nw (fun k hk => hD _ (F.fo _ hm _ hk)) G hp (h σ (by rw [hns]; exact F.set hL G))
            rw [hop]
            unfold aCopy
            simp only [hc3, hu, hk, aLen, hc, hns]
          | cons w ws =>
            obtain ⟨σ', w1, w3⟩ := own_wr_f hO rfl (j := j) (ws := ns.take (min m2 l2 * k')) (by rw [hlen]; exact hj) h1
            refine l_w (wn := some m) hw hd (v := .int .i64 (min m2 l2 : Nat)) (σ' := σ') ?_ (by unfold rbE; rw [ho]) (fun k hk => by injection hk with hk; subst hk; exact ⟨_, _, rfl⟩) (fun k hk => hD _ (F.fo _ hm _ hk)) w3 hp (h σ' (F.set hL w3))
            rw [hop]
            unfold aCopy
            simp only [hc3, hu, hk, aLen, hc, hns]
            rw [hns] at w1
            simp only [w1, Option.map_some]
      · cases hs
    · cases hs
  · cases hs

/-- An append to the first part of a row of one's own, which has room for it. -/
theorem l_appo {x y : Operand} {elem : TypeId} {es by_ i len cap m m2 c2 : Nat} {e : Option Nat} {a2 : Option Addr} {vs ns : List Value} (F : Facts O σ0 σ L) (k : Nat) (hk : opk o = 12) (ha : appE P o = some (x, y, elem, es, by_)) (hw : wantedE all n o env = true) (hd : dsto o = some d)
    (hx : look n env x = .slice (some ⟨m, 0, e⟩) i cap) (hL : L[k]? = some (own (some ⟨m, 0, e⟩) len cap es vs)) (hy : look n env y = .slice a2 m2 c2) (hH : Has σ a2 m2 c2 es ns) (h1 : ns.all Value.oneCell' = true) (hfit : i + m2 ≤ len) (hD : ∀ k, O k ∨ σ0.next ≤ k → B.D k)
    (h : ∀ σ', Facts O σ0 σ' (L.set k (own (some ⟨m, 0, e⟩) len cap es (splice vs (i * es) ns))) → Lin P B all W n pn rest (upd env d (.slice (some ⟨m, 0, e⟩) (i + m2) cap)) σ') (hp : PnA pn (Nm (some ⟨m, 0, e⟩)) σ ∨ PnS pn O σ0 := by first | exact .inl pna_none | exact .inl pna_nil | exact .inr (by assumption) | exact .inl (by assumption)) : Lin P B all W n pn (o :: rest) env σ := by
  have hp := hp.elim id fun h => h.pna F (fun m hm => F.fo _ (List.mem_of_getElem? hL) m hm)
  have hm := List.mem_of_getElem? hL
  have hO : Own 0 σ (some ⟨m, 0, e⟩) len cap es vs := F.ho _ hm
  have hcl : len ≤ cap := by rcases hO with ⟨_, ⟨h, _⟩ | ⟨_, _, _, _, _, _, _, h, _⟩⟩; cases h; exact h
  have hc := hH.cells m2 (Nat.le_refl _)
  rw [List.take_of_length_le (by rw [hH.size]; omega)] at hc
  obtain ⟨k1, ⟨z, k2, k3⟩, k4⟩ := appE_sound ha hx hy rfl hc
  have hnl := aCells_length hc
  have e1 := Nat.mul_le_mul_right es hfit
  rw [Nat.add_mul] at e1
  cases hns : ns with
  | nil =>
    have G : Facts (Nm (some ⟨m, 0, e⟩)) σ σ [own (some ⟨m, 0, e⟩) len cap es (splice vs (i * es) [])] := facts1 (Nat.le_refl _) (fun _ _ _ => rfl) (by rw [splice_nil]; exact hO) fun m hm => .inl hm
    refine l_w (wn := none) hw hd (v := .slice (some ⟨m, 0, e⟩) (i + m2) cap) (σ' := σ) ?_ (app_rb ha) nw (fun k hk => hD _ (F.fo _ hm _ hk)) G hp (h σ (by rw [hns]; exact F.set hL G))
    rw [k1]
    unfold aTail
    simp only [k2, k4, k3, hnl, h1, and_self, if_true]
    rw [if_pos (by omega)]
    simp only [hns]
  | cons w ws =>
    obtain ⟨σ', w1, w3⟩ := own_wr_f hO rfl (j := i * es) (ws := ns) (by rw [hnl]; omega) h1
    refine l_w (wn := some m) hw hd (v := .slice (some ⟨m, 0, e⟩) (i + m2) cap) (σ' := σ') ?_ (app_rb ha) (fun k hk => by injection hk with hk; subst hk; exact ⟨_, _, rfl⟩) (fun k hk => hD _ (F.fo _ hm _ hk)) w3 hp (h σ' (F.set hL w3))
    rw [k1]
    unfold aTail
    simp only [k2, k4, k3, hnl, h1, and_self, if_true]
    rw [if_pos (by omega)]
    rw [hns] at w1 ⊢
    simp only [Nat.zero_add, w1, Option.map_some]

def clE (P : Program) (o : Oper) : Option (Operand × Nat × List Value) :=
  match o.op with
  | .call c => match c.callee, c.args.toList, c.argTypes[0]? with
    | .builtin .clear, [x], some t => match okx x, P.underlying t with
      | true, some (.slice elem) => match tz P elem with
        | some z => match z.cells.toList.all flat, fvs z.cells.toList with
          | true, some zs => some (x, z.cells.size, zs)
          | _, _ => none
        | none => none
      | _, _ => none
    | _, _, _ => none
  | _ => none
/-- A part of a row of one's own is cleared. -/
theorem l_clr {x : Operand} {es len cap l2 d2 m j : Nat} {e : Option Nat} {vs zs : List Value} (F : Facts O σ0 σ L) (k : Nat) (hk : opk o = 14) (hs : clE P o = some (x, es, zs)) (hw : wantedE all n o env = true) (hd : dsto o = some d) (hx : look n env x = .slice (some ⟨m, j, e⟩) l2 d2) (hL : L[k]? = some (own (some ⟨m, 0, e⟩) len cap es vs)) (hj : j + l2 * es ≤ len * es) (hD : ∀ k, O k ∨ σ0.next ≤ k → B.D k)
    (h : ∀ σ', Facts O σ0 σ' (L.set k (own (some ⟨m, 0, e⟩) len cap es (splice vs j (zrow zs l2)))) → Lin P B all W n pn rest (upd env d undef) σ') (hp : PnA pn (Nm (some ⟨m, 0, e⟩)) σ ∨ PnS pn O σ0 := by first | exact .inl pna_none | exact .inl pna_nil | exact .inr (by assumption) | exact .inl (by assumption)) : Lin P B all W n pn (o :: rest) env σ := by
  have hp := hp.elim id fun h => h.pna F (fun m hm => F.fo _ (List.mem_of_getElem? hL) m hm)
  have hm := List.mem_of_getElem? hL
  have hO : Own 0 σ (some ⟨m, 0, e⟩) len cap es vs := F.ho _ hm
  unfold clE at hs
  split at hs
  · rename_i c ho
    split at hs
    · rename_i x' t hc1 hc2 hc3
      split at hs
      · rename_i elem k1 hu
        split at hs
        · rename_i z hz
          split at hs
          · rename_i zs' hfl hv
            injection hs with hs
            injection hs with e1 hs
            injection hs with e2 e3
            subst e1; subst e3
            have hzz := fvs_eq hv
            have hzl : zs'.length = es := by rw [← hzz, ← e2]; simp
            have hop : aop P o (actOf n env) σ = aClear P c.argTypes (.slice (some ⟨m, j, e⟩) l2 d2) σ := by
              unfold aop
              simp only [ho, hc1]
              unfold aBuiltin
              simp only [hc2, look_aval k1, hx]
            cases l2 with
            | zero =>
              have G : Facts (Nm (some ⟨m, 0, e⟩)) σ σ [own (some ⟨m, 0, e⟩) len cap es (splice vs j (zrow zs' 0))] := facts1 (Nat.le_refl _) (fun _ _ _ => rfl) (by rw [zrow, splice_nil]; exact hO) fun m hm => .inl hm
              refine l_w (wn := none) hw hd (v := undef) (σ' := σ) ?_ (by unfold rbE; rw [ho]) nw (fun k hk => hD _ (F.fo _ hm _ hk)) G hp (h σ (F.set hL G))
              rw [hop]
              unfold aClear
              simp only [hc3, hu]
            | succ l2 =>
              obtain ⟨σ', w1, w3⟩ := own_wr_f hO rfl (j := j) (ws := zrow zs' (l2 + 1)) (by rw [zrow_length, hzl]; exact hj) (by
                rw [← hzz]
                rw [List.all_eq_true]
                exact fun v hv => flat_one (List.all_eq_true.1 (zrow_flat hfl _) v hv))
              refine l_w (wn := some m) hw hd (v := undef) (σ' := σ') ?_ (by unfold rbE; rw [ho]) (fun k hk => by injection hk with hk; subst hk; exact ⟨_, _, rfl⟩) (fun k hk => hD _ (F.fo _ hm _ hk)) w3 hp (h σ' (F.set hL w3))
              rw [hop]
              unfold aClear
              simp only [hc3, hu, hz]
              rw [if_pos hfl, hzz, w1]
              rfl
          · cases hs
        · cases hs
      · cases hs
    · cases hs
  · cases hs

/-- An append of so many zeros, for which there is no room. -/
theorem l_appz {x y : Operand} {elem : TypeId} {es by_ len cap : Nat} {a : Option Addr} {vs zs : List Value} {ik : IntKind} {l : Int} (F : Facts O σ0 σ L) (hk : opk o = 12) (hs : azE P o = some (x, y, elem, es, by_, zs)) (hnt : isTake P o = false) (hw : wantedE all n o env = true) (hd : dsto o = some d)
    (hx : look n env x = .slice a len cap) (hEx : Ex a) (hH : Has σ a len cap es vs) (hy : look n env y = .int ik l) (h0 : 0 ≤ l) (hgrow : cap < len + l.toNat) (hby : Nat.ble by_ 1024 = true) (hbd : len + l.toNat ≤ 137438953472)
    (h : ∀ m cap' σ', Facts O σ0 σ' (L ++ [own (some ⟨m, 0, some 0⟩) (len + l.toNat) cap' es (vs ++ zrow zs l.toNat)]) → Lin P B all W n pn rest (upd env d (.slice (some ⟨m, 0, some 0⟩) (len + l.toNat) cap')) σ') (hp : PnA pn (fpOf []) σ ∨ PnS pn O σ0 := by first | exact .inl pna_none | exact .inl pna_nil | exact .inr (by assumption) | exact .inl (by assumption)) : Lin P B all W n pn (o :: rest) env σ := by
  have hp := hp.elim id fun h => h.pna F (fun m ⟨f, hf, _⟩ => by cases hf)
  unfold azE at hs
  split at hs
  · rename_i c ho
    split at hs
    · rename_i x' y' st xt hc1 hc2 hc3 hc4
      split at hs
      · rename_i elem' ik' k1 k2 hu1 hu2
        split at hs
        · rename_i k' z b' t1 t2 t3
          split at hs
          · rename_i zs' z1 z2 z3
            injection hs with hs
            injection hs with e1 hs
            injection hs with e2 hs
            injection hs with e3 hs
            injection hs with e4 hs
            injection hs with e5 e6
            subst e1; subst e2; subst e3; subst e4; subst e5; subst e6
            have hz := fvs_eq z3
            have hzk : z.cells.size = k' := Nat.eq_of_beq_eq_true z2
            have hzl : zs'.length = k' := by rw [← hz]; simpa using hzk
            have hbm := bd_mul hby hbd
            have hlb : l * (b' : Int) ≤ 281474976710656 := by
              have : l * (b' : Int) = ((l.toNat * b' : Nat) : Int) := by rw [Int.natCast_mul, Int.toNat_of_nonneg h0]
              have h3 := Nat.mul_le_mul_right b' (Nat.le_add_left l.toNat len)
              omega
            have hop : OpN P o (actOf n env) σ (fun u σ' wn => ∃ c, u = .slice (some ⟨σ.next, 0, some 0⟩) (len + l.toNat) (len + l.toNat + c) ∧ σ' = σ.alloc ⟨vs ++ zrow zs' l.toNat ++ zrow zs' c, k', false⟩ ∧ wn = none) := by
              intro φ w a' hr harel
              have vx := aval_sound harel (look_aval (n := n) (env := env) k1)
              have vy := aval_sound harel (look_aval (n := n) (env := env) k2)
              rw [hx] at vx
              rw [hy] at vy
              have hex : execOp a'.eval o = (do pure (.value (← Builtin.append_ c.argTypes o.type (c.args.map a'.eval)))) := by
                simp only [execOp, ho, resolve, hc1, pure_bind, invoke, builtin]
              have hm : c.args.map a'.eval = #[a'.eval x', a'.eval y'] := by apply Array.ext'; simp [hc2]
              have hcs := hH.cells len (Nat.le_refl _)
              rw [List.take_of_length_le (by rw [hH.size]; exact Nat.le_refl _)] at hcs
              obtain ⟨os, g1, g2⟩ := aCells_sound hcs hr vx
              have hsl : ∃ base, a'.eval x' = .slice base len cap := by
                generalize a'.eval x' = xv at vx
                rcases hEx with rfl | ⟨q, rfl⟩
                · cases vx; exact ⟨_, rfl⟩
                · cases vx <;> exact ⟨_, rfl⟩
              obtain ⟨base, hb⟩ := hsl
              have hyv : a'.eval y' = .int ik l := by
                generalize a'.eval y' = yv at vy
                cases vy; rfl
              obtain ⟨i, hi, hib⟩ := run_bytes (w := w) t3
              have happ : ∀ d, (if l.toNat * k' = 0 then (pure #[] : Sem (Array Value)) else do pure (Builtin.zeroCells (← zeroValue elem').cells l.toNat)).run P { w with drawn := d } = .ok (zrow z.cells.toList l.toNat).toArray { w with drawn := d } := fun d => by
                split
                · rename_i h0
                  have : zrow z.cells.toList l.toNat = [] := List.eq_nil_of_length_eq_zero (by rw [zrow_length]; simp [hzk, h0])
                  rw [this]; rfl
                · simp [run_zero t2, zeroCells_eq]
              obtain ⟨cc, φ', u, w', r1, r2, r3⟩ := grow_exact (zeros := true) (base := base) (s := a'.eval x') (x := a'.eval y') hr t2 z1 t3 hzk (ns := zrow z.cells.toList l.toNat) (by rw [zrow_length, Array.length_toList, hzk]) (by rw [hH.size]) hgrow hbm.1 hbm.2 g1 (flat_cells (zrow_flat z1 _)) (fun d => g2 P d) happ (fun n => (none : Option Nat) = some n)
              refine ⟨_, _, none, φ', u, w', ⟨cc, rfl, by rw [hz], rfl⟩, .inl ?_, r2, r3⟩
              rw [hex, hm, hb, hyv]
              have := append_eq c.argTypes o.type #[.slice base len cap, .int ik l] P w (x := .int ik l) (base := base) (sLen := len) (sCap := cap) hc3 hc4 rfl rfl hu1 hu2 t1
              simp only [Sem.run_bind]
              rw [this, if_pos (show isInt (some (TypeDesc.int ik')) = true from rfl)]
              simp only [asInt, asIntOf, Sem.run_bind, Sem.run_pure, Result.andThen_ok, wrap_i64 h0 (show l ≤ 9223372036854775807 by omega)]
              rw [if_neg (by omega)]
              simp only [Sem.run_bind, Sem.run_pure, Result.andThen_ok, hi]
              rw [if_neg (by rw [hib]; omega)]
              simp only [Sem.run_bind, Sem.run_pure, Result.andThen_ok]
              rw [hb, hyv] at r1
              rw [r1]
              rfl
            have hvs := hH.size
            have G : ∀ c, Facts (fpOf []) σ (σ.alloc ⟨vs ++ zrow zs' l.toNat ++ zrow zs' c, k', false⟩) [own (some ⟨σ.next, 0, some 0⟩) (len + l.toNat) (len + l.toNat + c) k' (vs ++ zrow zs' l.toNat)] := fun c => by
              have := own_new (σ := σ) (E := fpOf []) (cs := vs ++ zrow zs' l.toNat ++ zrow zs' c) (es := k') (len := len + l.toNat) (cap := len + l.toNat + c) (some 0) (.inr rfl) (by simp only [List.length_append, zrow_length, hzl, hvs, Nat.add_mul]) (by omega)
              rw [List.take_append_of_le_length (by simp only [List.length_append, zrow_length, hzl, hvs, Nat.add_mul]; exact Nat.le_refl _), List.take_of_length_le (by simp only [List.length_append, zrow_length, hzl, hvs, Nat.add_mul]; exact Nat.le_refl _)] at this
              exact this
            refine l_nd (E := fpOf []) hw hd hnt hop (fun v σ' wn ⟨c, e1, e2, e3⟩ => ?_) (fun k ⟨f, hf, _⟩ => by cases hf) hp (fun v σ' wn ⟨c, e1, e2, e3⟩ => ?_)
            · subst e1; subst e2; subst e3
              exact ⟨(fun _ h => by cases h), _, G c⟩
            · subst e1; subst e2; subst e3
              exact h _ _ _ (F.new (G c))
          · cases hs
        · cases hs
      · cases hs
    · cases hs
  · cases hs

/-! ### Structs that are only read -/
def OldC (O : Nat → Prop) (σ : AState) (m : Nat) (vs : List Value) : Prop := (cel m vs).P σ ∧ ¬ O m
theorem Facts.oldc (F : Facts O σ0 σ L) {m : Nat} {vs : List Value} (h : OldC O σ0 m vs) : (cel m vs).P σ :=
  ⟨Nat.lt_of_lt_of_le h.1.1 F.le, by rw [F.eq m h.1.1 h.2]; exact h.1.2⟩
theorem OldC.sf {m : Nat} {vs : List Value} (h : OldC O σ0 m vs) : Sf O σ0 m := ⟨h.1.1, h.2, _, h.1.2⟩
theorem OldC.pure {m : Nat} {vs : List Value} (h : (cel m vs).P σ) : OldC (fpOf []) σ m vs := ⟨h, fun ⟨f, hf, _⟩ => by cases hf⟩
theorem Facts.cel0 (F : Facts O σ0 σ L) (k : Nat) {m : Nat} {vs : List Value} (hk : L[k]? = some (cel m vs)) : OldC (fpOf []) σ m vs := OldC.pure (F.ho _ (List.mem_of_getElem? hk))
theorem Facts.oldc0 (F : Facts O σ0 σ L) {m : Nat} {vs : List Value} (h : OldC O σ0 m vs) : OldC (fpOf []) σ m vs := OldC.pure (F.oldc h)
theorem l_ldo {x : Operand} {m j : Nat} {v : Value} {vs : List Value} (F : Facts O σ0 σ L) (hc : OldC O σ0 m vs) (hk : opk o = 5) (hs : ldE P o = some (x, none)) (hw : wantedE all n o env = true) (hd : dsto o = some d) (hx : look n env x = .pointer (some ⟨m, j, none⟩)) (hv : vs[j]? = some v) (h : Lin P B all W n (pnAdd pn (some m)) rest (upd env d v) σ) : Lin P B all W n pn (o :: rest) env σ := by
  obtain ⟨hjl, hjv⟩ := List.getElem?_eq_some_iff.1 hv
  refine l_ld1 hs hw hd hx ?_ h
  rw [cel_rd (F.oldc hc) (by omega), List.drop_eq_getElem_cons hjl, hjv]
  rfl
theorem l_ldoa {x : Operand} {m j sz : Nat} {vs : List Value} (F : Facts O σ0 σ L) (hc : OldC O σ0 m vs) (hk : opk o = 5) (hs : ldE P o = some (x, some sz)) (hw : wantedE all n o env = true) (hd : dsto o = some d) (hx : look n env x = .pointer (some ⟨m, j, none⟩)) (hv : Nat.ble (j + sz) vs.length = true) (h : Lin P B all W n (pnAdd pn (some m)) rest (upd env d (.agg ((vs.drop j).take sz).toArray)) σ) : Lin P B all W n pn (o :: rest) env σ :=
  l_ldk hs hw hd hx (cel_rd (F.oldc hc) (Nat.le_of_ble_eq_true hv)) h
end
end GAb
