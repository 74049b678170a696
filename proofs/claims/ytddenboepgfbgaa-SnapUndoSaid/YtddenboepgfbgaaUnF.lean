/- The law of states that are told in turn . No statement of the seat is proved in this text. -/
import Derived.Test.YtddenboepgfbgaaUnD
import Derived.Test.YtddenboepgfbgaaUnE
set_option linter.unusedVariables false
set_option linter.unusedSimpArgs false
set_option maxRecDepth 100000
set_option maxHeartbeats 8000000
namespace Go.Proofs.Ytddenboepgfbgaa
open GAb Go

theorem has_row {O : Nat → Prop} {σ0 σ : AState} {L : List Fact} (F : Facts O σ0 σ L) (k : Nat) {a : Option Addr} {j c : Nat} {P R : List SS} (hk : L[k]? = some (own a (j + R.length) c 4 (rows eS (P ++ R)))) (hP : P.length = j) : Has σ (shift a (j * 4)) R.length (c - j) 4 (rows eS R) := by
  have h := (F.has k hk).part (lo := j) (hi := j + R.length) (by omega) (Nat.le_refl _)
  rw [show j + R.length - j = R.length by omega, rows_drop eS_len, ← hP, List.drop_left, List.take_of_length_le (by rw [rows_length eS_len]; omega), hP] at h
  exact h
theorem oldS_in {O : Nat → Prop} {σ0 σ : AState} {L : List Fact} (F : Facts O σ0 σ L) (k : Nat) {D : List Fact} {T : List SS} {t : SS} (hk : L[k]? = some (many D)) (hI : InS T D) (ht : t ∈ T) (hb : BdS t) : OldS E0 σ t :=
  ⟨Old.pure (F.hasM k hk (hI t ht _ (by simp [dS]))), Old.pure (F.hasM k hk (hI t ht _ (by simp [dS]))), Old.pure (F.hasM k hk (hI t ht _ (by simp [dS]))), hb.1⟩
theorem oldS_z {σ : AState} : OldS E0 σ zS := by
  have F1 := (Facts.nil E0 σ).nilrow 1
  have F2 := (Facts.nil E0 σ).nilrow 2
  exact ⟨Old.pure (F1.has 0 rfl), Old.pure (F2.has 0 rfl), Old.pure (F1.has 0 rfl), ⟨Nat.zero_le _, Nat.zero_le _, Nat.zero_le _⟩⟩
theorem byS_z : Bytes zS.m ∧ Bytes zS.s := ⟨(fun i hi => by cases hi), fun i hi => by cases hi⟩
theorem shift_shift (a : Option Addr) (j : Nat) : shift (shift a (j * 4)) (1 * 4) = shift a ((j + 1) * 4) := by
  cases a with
  | none => rfl
  | some x => exact congrArg (fun k => some (⟨x.block, k, x.spot⟩ : Addr)) (by omega : x.off + j * 4 + 1 * 4 = x.off + (j + 1) * 4)
theorem pushR_gt {most : Int} {L : List SS} {t : SS} (h : (L.length : Int) + 1 > most) : pushR most L t = (L ++ [t]).tail := by
  unfold pushR; rw [if_pos h]; exact List.eraseIdx_zero
theorem pushR_le {most : Int} {L : List SS} {t : SS} (h : ¬(L.length : Int) + 1 > most) : pushR most L t = L ++ [t] := by
  unfold pushR; rw [if_neg h]
theorem pushR_len1 {most : Int} {L : List SS} {t : SS} (h : (L.length : Int) + 1 > most) : (pushR most L t).length = L.length := by
  rw [pushR_gt h]; simp
theorem pushR_len2 {most : Int} {L : List SS} {t : SS} (h : ¬(L.length : Int) + 1 > most) : (pushR most L t).length = L.length + 1 := by
  rw [pushR_le h]; simp
theorem pushR_mem {most : Int} {L : List SS} {t x : SS} (h : x ∈ pushR most L t) : x ∈ L ∨ x = t := by
  have h2 : x ∈ L ++ [t] := by
    by_cases hg : (L.length : Int) + 1 > most
    · rw [pushR_gt hg] at h; exact List.mem_of_mem_tail h
    · rw [pushR_le hg] at h; exact h
  simpa using h2
theorem bdS_pl {y x : SS} (h : BdS x) (hp : plS y = plS x) (h1 : y.ml = x.ml) (h2 : y.bl = x.bl) (h3 : y.sl = x.sl) : BdS y := by
  obtain ⟨h4, h5, h6⟩ := h
  have e1 : y.m = x.m := congrArg (·.1) hp
  have e2 : y.s = x.s := congrArg (·.2.2.2) hp
  exact ⟨by rw [h1, h2, h3]; exact h4, by rw [e1]; exact h5, by rw [e2]; exact h6⟩
theorem inS_push {most : Int} {L : List SS} {D : List Fact} {t : SS} (h : InS L D) : InS (pushR most L t) (D ++ dS t) := fun x hx f hf => by
  rcases pushR_mem hx with h1 | rfl
  · exact List.mem_append_left _ (h x h1 f hf)
  · exact List.mem_append_right _ hf
theorem UOK.push1 {ps : List ST} {most : Int} {g : UG} (o : UOK ps most g) {x y : SS} (hx : ∃ p ∈ ps, p.2 = x) (hy : BdS y) (hp : plS y = plS x) {ya ra : Option Addr} {yc j rc : Nat} {P : List SS} (hE : Ex ya) (hP : P.length = j) (hg : (g.L.length : Int) + 1 > most) :
    UOK ps most ⟨ya, yc, pushR most g.L y, g.D ++ dS y, ra, j + 1, rc, P ++ (g.R ++ [x]).take 1, (g.R ++ [x]).tail⟩ := by
  have hl := o.len
  refine ⟨hE, inS_push o.inD, ?_, fun t ht => ?_, fun r hr => ?_, ?_, ?_⟩
  · show (pushR most g.L y).map plS = (g.R ++ [x]).tail.map plS
    rw [pushR_gt hg, List.map_tail, List.map_tail, List.map_append, List.map_append, o.same]
    show (g.R.map plS ++ [plS y]).tail = (g.R.map plS ++ [plS x]).tail
    rw [hp]
  · rcases pushR_mem ht with h1 | rfl
    · exact o.bd _ h1
    · exact hy
  · rcases List.mem_append.1 (List.mem_of_mem_tail hr) with h1 | h1
    · exact o.from_ _ h1
    · obtain rfl : r = x := by simpa using h1
      exact hx
  · show (P ++ (g.R ++ [x]).take 1).length = j + 1
    simp only [List.length_append, List.length_take, List.length_cons, List.length_nil]; omega
  · have := o.few
    show (((g.R ++ [x]).tail.length : Nat) : Int) ≤ most
    simpa using this
theorem UOK.push2 {ps : List ST} {most : Int} {g : UG} (o : UOK ps most g) {x y : SS} (hx : ∃ p ∈ ps, p.2 = x) (hy : BdS y) (hp : plS y = plS x) {ya ra : Option Addr} {yc j rc : Nat} {P : List SS} (hE : Ex ya) (hP : P.length = j) (hg : ¬(g.L.length : Int) + 1 > most) :
    UOK ps most ⟨ya, yc, pushR most g.L y, g.D ++ dS y, ra, j, rc, P, g.R ++ [x]⟩ := by
  have hl := o.len
  refine ⟨hE, inS_push o.inD, ?_, fun t ht => ?_, fun r hr => ?_, hP, ?_⟩
  · show (pushR most g.L y).map plS = (g.R ++ [x]).map plS
    rw [pushR_le hg, List.map_append, List.map_append, o.same]
    show g.R.map plS ++ [plS y] = g.R.map plS ++ [plS x]
    rw [hp]
  · rcases pushR_mem ht with h1 | rfl
    · exact o.bd _ h1
    · exact hy
  · rcases List.mem_append.1 hr with h1 | h1
    · exact o.from_ _ h1
    · obtain rfl : r = x := by simpa using h1
      exact hx
  · show (((g.R ++ [x]).length : Nat) : Int) ≤ most
    simp only [List.length_append, List.length_cons, List.length_nil]; omega
theorem UOK.pop {ps : List ST} {most : Int} {g : UG} (o : UOK ps most g) : UOK ps most ⟨g.a, g.c, g.L.dropLast, g.D, g.ra, g.j, g.rc, g.P, g.R.dropLast⟩ := by
  refine ⟨o.ex, fun t ht => o.inD t (List.dropLast_subset _ ht), ?_, fun t ht => o.bd t (List.dropLast_subset _ ht), fun r hr => o.from_ r (List.dropLast_subset _ hr), o.pl, ?_⟩
  · show g.L.dropLast.map plS = g.R.dropLast.map plS
    rw [List.map_dropLast, List.map_dropLast, o.same]
  · have := o.few
    show ((g.R.dropLast.length : Nat) : Int) ≤ most
    rw [List.length_dropLast]; omega
/-! ### Region 19: a copy of a state; its operations in any order. -/
abbrev S19 := (Bool × Bool × Bool × Bool) × Nat
def nxt19 (st : S19) : List (Nat × S19) :=
  (bif !st.1.1 && Nat.beq st.2 0 then [(0, ((true, st.1.2), st.2))] else []) ++
  (bif st.1.1 && Nat.beq st.2 0 then [(3, (st.1, 1))] else []) ++
  (bif !st.1.2.1 && Nat.ble st.2 1 then [(6, ((st.1.1, true, st.1.2.2), st.2))] else []) ++
  (bif st.1.2.1 && Nat.beq st.2 1 then [(9, (st.1, 2))] else []) ++
  (bif !st.1.2.2.1 && Nat.ble st.2 2 then [(10, ((st.1.1, st.1.2.1, true, st.1.2.2.2), st.2))] else []) ++
  (bif st.1.2.2.1 && Nat.beq st.2 2 then [(13, (st.1, 3))] else []) ++
  (bif Nat.beq st.2 3 then [(14, (st.1, 4))] else []) ++
  (bif !st.1.2.2.2 && Nat.ble st.2 4 then [(15, ((st.1.1, st.1.2.1, st.1.2.2.1, true), st.2))] else []) ++
  (bif st.1.2.2.2 && Nat.beq st.2 4 then [(16, (st.1, 5))] else [])
def enc19 (st : S19) : Array Bool := #[st.1.1, true, true, Nat.ble 1 st.2, true, true, st.1.2.1, true, true, Nat.ble 2 st.2, st.1.2.2.1, true, true, Nat.ble 3 st.2, Nat.ble 4 st.2, st.1.2.2.2, Nat.ble 5 st.2]
def left19 (st : S19) : Nat := (bif st.1.1 then 0 else 1) + (bif st.1.2.1 then 0 else 1) + (bif st.1.2.2.1 then 0 else 1) + (bif st.1.2.2.2 then 0 else 1) + (5 - st.2)
def all19 : List S19 :=
  [0, 1, 2, 3, 4, 5].flatMap fun k => [true, false].flatMap fun a => [true, false].flatMap fun b => [true, false].flatMap fun c => [true, false].flatMap fun d =>
    bif (Nat.ble k 0 || a) && (Nat.ble k 1 || b) && (Nat.ble k 2 || c) && (Nat.ble k 4 || d) then [((a, b, c, d), k)] else []
theorem nxt19_mem {st : S19} {p : Nat × S19} (h : p ∈ nxt19 st) :
    (st.1.1 = false ∧ st.2 = 0 ∧ p = (0, ((true, st.1.2), st.2))) ∨ (st.1.1 = true ∧ st.2 = 0 ∧ p = (3, (st.1, 1))) ∨ (st.1.2.1 = false ∧ st.2 ≤ 1 ∧ p = (6, ((st.1.1, true, st.1.2.2), st.2))) ∨ (st.1.2.1 = true ∧ st.2 = 1 ∧ p = (9, (st.1, 2))) ∨
    (st.1.2.2.1 = false ∧ st.2 ≤ 2 ∧ p = (10, ((st.1.1, st.1.2.1, true, st.1.2.2.2), st.2))) ∨ (st.1.2.2.1 = true ∧ st.2 = 2 ∧ p = (13, (st.1, 3))) ∨ (st.2 = 3 ∧ p = (14, (st.1, 4))) ∨ (st.1.2.2.2 = false ∧ st.2 ≤ 4 ∧ p = (15, ((st.1.1, st.1.2.1, st.1.2.2.1, true), st.2))) ∨ (st.1.2.2.2 = true ∧ st.2 = 4 ∧ p = (16, (st.1, 5))) := by
  have key : ∀ {b : Bool} {q : Nat × S19}, p ∈ (bif b then [q] else []) → b = true ∧ p = q := by
    intro b q hb
    cases b with
    | true => exact ⟨rfl, by simpa using hb⟩
    | false => cases hb
  unfold nxt19 at h
  simp only [List.mem_append] at h
  rcases h with (((((((h | h) | h) | h) | h) | h) | h) | h) | h <;> obtain ⟨h1, h2⟩ := key h <;> simp only [Bool.and_eq_true, Bool.not_eq_true', Nat.beq_eq, Nat.ble_eq] at h1
  · exact .inl ⟨h1.1, h1.2, h2⟩
  · exact .inr (.inl ⟨h1.1, h1.2, h2⟩)
  · exact .inr (.inr (.inl ⟨h1.1, h1.2, h2⟩))
  · exact .inr (.inr (.inr (.inl ⟨h1.1, h1.2, h2⟩)))
  · exact .inr (.inr (.inr (.inr (.inl ⟨h1.1, h1.2, h2⟩))))
  · exact .inr (.inr (.inr (.inr (.inr (.inl ⟨h1.1, h1.2, h2⟩)))))
  · exact .inr (.inr (.inr (.inr (.inr (.inr (.inl ⟨h1, h2⟩))))))
  · exact .inr (.inr (.inr (.inr (.inr (.inr (.inr (.inl ⟨h1.1, h1.2, h2⟩)))))))
  · exact .inr (.inr (.inr (.inr (.inr (.inr (.inr (.inr ⟨h1.1, h1.2, h2⟩)))))))
theorem no_ge {j k : Nat} {p : Prop} (hk : Nat.ble j k = false) : j ≤ k → p := fun h => absurd h (by rw [← Nat.ble_eq, hk]; decide)
theorem no_le {j k : Nat} {p : Prop} (hk : k < j) : j ≤ k → p := fun h => absurd h (by omega)
theorem all19_end {st : S19} (hn : nxt19 st = []) (hs : st ∈ all19) : st.2 = 5 ∧ st.1.2.2.2 = true := by
  have h : all19.all (fun st => bif (nxt19 st).isEmpty then Nat.beq st.2 5 && st.1.2.2.2 else true) = true := by kernel_rfl
  have h := List.all_eq_true.1 h st hs
  rw [hn] at h
  have h : (Nat.beq st.2 5 && st.1.2.2.2) = true := h
  rw [Bool.and_eq_true, Nat.beq_eq] at h
  exact h
structure Z19 where
  x0 : Option Addr
  c0 : Nat
  x6 : Option Addr
  c6 : Nat
  x10 : Option Addr
  c10 : Nat
  q2 : Nat
abbrev w19 (t : SS) (z : Z19) : SS := ⟨z.x0, t.ml, z.c0, t.m, t.rt, z.x6, t.bl, z.c6, t.b, z.x10, t.sl, z.c10, t.s⟩
abbrev L19 (u : Nat) (most : Int) (g : UG) (q : Nat) (t : SS) (z : Z19) (l0 : Nat) (v0 : List Value) (l6 : Nat) (v6 : List Value) (l10 : Nat) (v10 : List Value) (X : Fact) : List Fact :=
  [cel u [.slice g.a g.L.length g.c, .int .i64 most], own g.a g.L.length g.c 4 (rows eS g.L), many g.D, own g.ra (g.j + g.R.length) g.rc 4 (rows eS (g.P ++ g.R)), cel q (eS t), own z.x0 l0 z.c0 1 v0, own z.x6 l6 z.c6 2 v6, own z.x10 l10 z.c10 1 v10, X]
abbrev pn19 (q : Nat) : Pn := pnAdd (pnAdd (pnAdd (pnAdd (some []) (some q)) (some q)) (some q)) (some q)
abbrev zeroV : List Value := [.slice none 0 0, .int .u32 0, .slice none 0 0, .slice none 0 0]
def ifk {α : Type} (j k : Nat) (x y : α) : α := bif Nat.ble j k then x else y
theorem ifk_lt {α : Type} {j k : Nat} {x y : α} (h : k < j) : ifk j k x y = y := by
  unfold ifk; rw [show Nat.ble j k = false by rw [← Bool.not_eq_true, Nat.ble_eq]; omega]; rfl
structure I19 (σ : AState) (u : Nat) (most : Int) (g : UG) (q : Nat) (t : SS) (base : List (Nat × Value)) (z : Z19) (st : S19) (pn : Pn) (env : Env) (s : AState) : Prop where
  F : Facts E0 σ s (L19 u most g q t z (ifk 1 st.2 t.ml 0) (ifk 1 st.2 (u8l t.m) []) (ifk 2 st.2 t.bl 0) (ifk 2 st.2 (rows eB t.b) []) (ifk 3 st.2 t.sl 0) (ifk 3 st.2 (u8l t.s) []) (bif st.1.2.2.2 then cel z.q2 (ifk 5 st.2 (eS (w19 t z)) zeroV) else own none 0 0 1 []))
  pn : pn = pn19 q
  sees : Sees env base
  e105 : env 105 = .slice t.mx t.ml t.mc
  e108 : env 108 = .int .u32 t.rt
  e111 : env 111 = .slice t.bx t.bl t.bc
  e115 : env 115 = .slice t.sx t.sl t.sc
  e103 : st.1.1 = true → st.2 = 0 → env 103 = .slice z.x0 0 z.c0
  e109 : st.1.2.1 = true → st.2 ≤ 1 → env 109 = .slice z.x6 0 z.c6
  e113 : st.1.2.2.1 = true → st.2 ≤ 2 → env 113 = .slice z.x10 0 z.c10
  e106 : 1 ≤ st.2 → env 106 = .slice z.x0 t.ml z.c0
  e112 : 2 ≤ st.2 → env 112 = .slice z.x6 t.bl z.c6
  e116 : 3 ≤ st.2 → env 116 = .slice z.x10 t.sl z.c10
  e117 : 4 ≤ st.2 → env 117 = .agg (eS (w19 t z)).toArray
  e12 : st.1.2.2.2 = true → env 12 = .pointer (some ⟨z.q2, 0, none⟩)
theorem undo_law {σ : AState} {a : Option Addr} {l c : Nat} {ps : List ST} {most : Int} (hgd : 0 ≤ most ∧ most ≤ 64) (h : OldL E0 σ a l c ps) :
    SCall Try.prog E0 6 [.int .i64 most, .slice a l c] σ (fun v _ => v = .bool true) := by
  have ho := h.old
  have hpl : ps.length = l := ho.1.len eP_len (by decide)
  refine k_fun Try.func6 rfl (m := 178) rfl fun B hD Q K => ?_
  have F := Facts.nil E0 σ
  refine k_seq (fun Q K => ?_)
  refine k_lin (fun W K => ?_)
  refine l_op 0 rfl rfl rfl rfl rfl ?_
  refine l_nil (WK.nx (by assumption) ?_)
  refine SeqK.nx (by assumption) ?_
  refine k_seq (fun Q K => ?_)
  refine k_lin (fun W K => ?_)
  refine l_op 0 rfl rfl rfl rfl rfl ?_
  refine l_nil (WK.nx (by assumption) ?_)
  refine SeqK.nx (by assumption) ?_
  refine k_cut (α := Int) (fun n s => Facts E0 σ s [] ∧ ((l : Int) ≤ 200 → n = sumS ps)) (fun n => [(0, .int .i64 most), (1, .slice a l c), (5, .int .i64 n)]) (fun Q KC => ?_) ?_
  · refine k_seq (fun Q K => ?_)
    refine k_lin (fun W K => ?_)
    refine l_op 0 rfl rfl rfl rfl rfl ?_
    refine l_nil (WK.nx (by assumption) ?_)
    refine SeqK.nx (by assumption) ?_
    refine k_block (fun Q K => ?_)
    refine k_loop (α := Int × Int) (fun ⟨i, n⟩ s => Facts E0 σ s [] ∧ 0 ≤ i ∧ i ≤ l ∧ i ≤ 300 ∧ n = sumS (ps.take i.toNat) ∧ n ≤ 500000000000000 * i) (fun ⟨i, n⟩ => [(0, .int .i64 most), (1, .slice a l c), (5, .int .i64 n), (6, .int .i64 i)]) (fun ⟨i, _⟩ => (l - i).toNat) (0, 0) ⟨F, by omega, by omega, by omega, rfl, by omega⟩ (by repeat (first | exact trivial | refine And.intro rfl ?_)) ?_
    clear F
    rintro ⟨i, n⟩ env s Q K0 ⟨F, i0, i1, i3, hn, hn2⟩
    have hnn := sumS_nn (ps.take i.toNat)
    refine k_seq (fun Q K => ?_)
    refine k_seq (fun Q K => ?_)
    refine k_lin (fun W K => ?_)
    refine l_op 0 rfl rfl rfl rfl rfl ?_
    refine l_op 0 rfl rfl rfl rfl rfl ?_
    first | refine l_op 2 rfl rfl rfl rfl rfl ?_ | refine l_ln rfl rfl rfl rfl ?_
    refine l_cmp rfl rfl rfl rfl ?_
    refine l_op 0 rfl rfl rfl rfl rfl ?_
    refine l_guard rfl rfl rfl (fun hc1 => ?_) (fun hc1 => ?_)
    · replace hc1 := of_decide_eq_true ((irr_eq _).symm.trans hc1)
      refine l_op 0 rfl rfl rfl rfl rfl ?_
      refine l_cmp rfl rfl rfl rfl ?_
      refine l_op 2 rfl rfl rfl rfl rfl ?_
      refine l_nil (WK.nx (by assumption) ?_)
      refine SeqK.nx (by assumption) ?_
      refine l_cond rfl rfl (fun hc2 => ?_) (fun hc2 => ?_)
      · replace hc2 := of_decide_eq_true ((irr_eq _).symm.trans hc2)
        have hst := sumS_take (ps := ps) (i := i.toNat) (by omega)
        have e1 : (i + 1).toNat = i.toNat + 1 := by omega
        obtain ⟨hb1, hb2, hb3⟩ := h.bd _ (memP (i := i.toNat) (by omega))
        refine k_skip ?_
        refine SeqK.nx (by assumption) ?_
        refine k_seq (fun Q K => ?_)
        refine k_block (fun Q K => ?_)
        refine k_linm [0, 1, 2, 3, 4, 5, 9, 10, 11, 12, 13, 17, 18, 19, 20, 21, 6, 7, 8, 14, 15, 16, 22, 23, 24, 25] mixed (by kernel_rfl) (fun W K => ?_)
        try have hpS := F.pns
        refine l_op 0 rfl rfl rfl rfl rfl ?_
        refine l_op 0 rfl rfl rfl rfl rfl ?_
        refine l_op 0 rfl rfl rfl rfl rfl ?_
        first | refine l_ixrs (e := eP) F ho ⟨eP_len, by decide⟩ rfl rfl rfl rfl rfl rfl (by omega) (fun m28 b28 hA28 hS28 => ?_) | refine l_ixr (e := eP) rfl rfl rfl rfl rfl rfl (F.old ho) ⟨eP_len, by decide⟩ (by omega) (fun m28 b28 hA28 => ?_)
        refine l_op 2 rfl rfl rfl rfl rfl ?_
        refine l_op 2 rfl rfl rfl rfl rfl ?_
        refine l_op 0 rfl rfl rfl rfl rfl ?_
        refine l_op 0 rfl rfl rfl rfl rfl ?_
        first | refine l_ixrs (e := eP) F ho ⟨eP_len, by decide⟩ rfl rfl rfl rfl rfl rfl (by omega) (fun m36 b36 hA36 hS36 => ?_) | refine l_ixr (e := eP) rfl rfl rfl rfl rfl rfl (F.old ho) ⟨eP_len, by decide⟩ (by omega) (fun m36 b36 hA36 => ?_)
        refine l_op 2 rfl rfl rfl rfl rfl ?_
        refine l_op 2 rfl rfl rfl rfl rfl ?_
        refine l_op 0 rfl rfl rfl rfl rfl ?_
        refine l_op 0 rfl rfl rfl rfl rfl ?_
        first | refine l_ixrs (e := eP) F ho ⟨eP_len, by decide⟩ rfl rfl rfl rfl rfl rfl (by omega) (fun m44 b44 hA44 hS44 => ?_) | refine l_ixr (e := eP) rfl rfl rfl rfl rfl rfl (F.old ho) ⟨eP_len, by decide⟩ (by omega) (fun m44 b44 hA44 => ?_)
        refine l_op 2 rfl rfl rfl rfl rfl ?_
        refine l_op 2 rfl rfl rfl rfl rfl ?_
        refine l_ldj (j := 1) rfl rfl rfl rfl rfl rfl hA28 rfl ?_
        first | refine l_op 2 rfl rfl rfl rfl rfl ?_ | refine l_ln rfl rfl rfl rfl ?_
        (first | refine l_a64 rfl rfl rfl (by omega) rfl ?_ | refine l_a32 rfl rfl rfl (by omega) rfl ?_ | refine l_a8 rfl rfl rfl (by omega) rfl ?_ | refine l_au64 rfl rfl rfl (by omega) rfl ?_ | refine l_op 1 rfl rfl rfl rfl rfl ?_)
        refine l_ldj (j := 4) rfl rfl rfl rfl rfl rfl hA36 rfl ?_
        first | refine l_op 2 rfl rfl rfl rfl rfl ?_ | refine l_ln rfl rfl rfl rfl ?_
        (first | refine l_a64 rfl rfl rfl (by omega) rfl ?_ | refine l_a32 rfl rfl rfl (by omega) rfl ?_ | refine l_a8 rfl rfl rfl (by omega) rfl ?_ | refine l_au64 rfl rfl rfl (by omega) rfl ?_ | refine l_op 1 rfl rfl rfl rfl rfl ?_)
        refine l_ldj (j := 3) rfl rfl rfl rfl rfl rfl hA44 rfl ?_
        first | refine l_op 2 rfl rfl rfl rfl rfl ?_ | refine l_ln rfl rfl rfl rfl ?_
        (first | refine l_a64 rfl rfl rfl (by omega) rfl ?_ | refine l_a32 rfl rfl rfl (by omega) rfl ?_ | refine l_a8 rfl rfl rfl (by omega) rfl ?_ | refine l_au64 rfl rfl rfl (by omega) rfl ?_ | refine l_op 1 rfl rfl rfl rfl rfl ?_)
        refine l_op 0 rfl rfl rfl rfl rfl ?_
        refine l_nil (WK.nx (by assumption) ?_)
        refine BlkK.nx (by assumption) ?_
        refine SeqK.nx (by assumption) ?_
        refine k_lin (fun W K => ?_)
        refine l_op 0 rfl rfl rfl rfl rfl ?_
        (first | refine l_a64 rfl rfl rfl (by omega) rfl ?_ | refine l_a32 rfl rfl rfl (by omega) rfl ?_ | refine l_a8 rfl rfl rfl (by omega) rfl ?_ | refine l_au64 rfl rfl rfl (by omega) rfl ?_ | refine l_op 1 rfl rfl rfl rfl rfl ?_)
        refine l_op 0 rfl rfl rfl rfl rfl ?_
        refine l_nil (WK.nx (by assumption) ?_)
        exact K0.nx (i + 1, _) (by repeat (first | exact trivial | refine And.intro rfl ?_)) ⟨F, by omega, by omega, by omega, by rw [e1, hst, ← hn], by omega⟩ (by first | omega | (simp only; omega))
      replace hc2 := of_decide_eq_false ((irr_eq _).symm.trans hc2)
      refine k_exit ?_
      refine SeqK.et (by assumption) ?_
      refine LoopK.et (by assumption) ?_
      refine BlkK.et (by assumption) ?_
      refine KC.nx n (by repeat (first | exact trivial | refine And.intro rfl ?_)) ⟨F, fun hl => ?_⟩
      rw [hn, List.take_of_length_le (by omega)]
    replace hc1 := of_decide_eq_false ((irr_eq _).symm.trans hc1)
    refine l_s rfl rfl ?_
    refine l_s rfl rfl ?_
    refine l_op 2 rfl rfl rfl rfl rfl ?_
    refine l_nil (WK.nx (by assumption) ?_)
    refine SeqK.nx (by assumption) ?_
    first | refine e_cond_f rfl rfl rfl ?_ | refine e_cond_f rfl rfl (by rw [irr_eq]; first | exact beq_eq_false_iff_ne.2 (by assumption) | exact decide_eq_false (by assumption) | exact bne_eq_false_iff_eq.2 (by assumption)) ?_
    refine k_exit ?_
    refine SeqK.et (by assumption) ?_
    refine LoopK.et (by assumption) ?_
    refine BlkK.et (by assumption) ?_
    refine KC.nx n (by repeat (first | exact trivial | refine And.intro rfl ?_)) ⟨F, fun hl => ?_⟩
    rw [hn, List.take_of_length_le (by omega)]
  · clear F
    rintro n env s ⟨F, hn⟩
    refine k_seq (fun Q K => ?_)
    refine k_seq (fun Q K => ?_)
    refine k_lin (fun W K => ?_)
    refine l_op 0 rfl rfl rfl rfl rfl ?_
    first | refine l_op 2 rfl rfl rfl rfl rfl ?_ | refine l_ln rfl rfl rfl rfl ?_
    refine l_cmp rfl rfl rfl rfl ?_
    refine l_op 0 rfl rfl rfl rfl rfl ?_
    refine l_guard rfl rfl rfl (fun hc3 => ?_) (fun hc3 => ?_)
    · replace hc3 := of_decide_eq_true ((irr_eq _).symm.trans hc3)
      refine l_s rfl rfl ?_
      refine l_s rfl rfl ?_
      refine l_op 2 rfl rfl rfl rfl rfl ?_
      refine l_nil (WK.nx (by assumption) ?_)
      refine SeqK.nx (by assumption) ?_
      first | refine e_cond_t rfl rfl rfl ?_ | refine e_cond_t rfl rfl (by rw [irr_eq]; first | exact beq_iff_eq.2 (by assumption) | exact decide_eq_true (by assumption) | exact bne_iff_ne.2 (by assumption)) ?_
      refine k_seq (fun Q K => ?_)
      refine k_lin (fun W K => ?_)
      refine l_callv rfl rfl (by kernel_rfl) rfl rfl (live17_call _ _) ?_
      (try dsimp only [n_1, n_2, n_3, n_4, List.append_nil, pk, n_5, n_6] at F)
      refine l_op 0 rfl rfl rfl rfl rfl ?_
      refine l_nil (WK.nx (by assumption) ?_)
      refine SeqK.nx (by assumption) ?_
      refine k_ret ?_
      refine SeqK.rt (by assumption) ?_
      refine FunK.rt (by assumption) rfl ?_
      -- leaf 1
      first
      | rfl
      | (exfalso; omega)
      | (exfalso; have e := pushR_len1 (most := most) (L := g.L) (t := yt) (by omega); omega)
      | (exfalso; have e := pushR_len2 (most := most) (L := g.L) (t := yt) (by omega); omega)
      | (exfalso; have e : g.L.dropLast.length = g.L.length - 1 := List.length_dropLast ..; omega)
      | (exact absurd (congrArg irr (decide_eq_decide.2 (by omega))) hc16)
      | (exfalso; simp_all; done)
    replace hc3 := of_decide_eq_false ((irr_eq _).symm.trans hc3)
    refine l_op 0 rfl rfl rfl rfl rfl ?_
    refine l_cmp rfl rfl rfl rfl ?_
    refine l_op 2 rfl rfl rfl rfl rfl ?_
    refine l_nil (WK.nx (by assumption) ?_)
    refine SeqK.nx (by assumption) ?_
    refine l_cond rfl rfl (fun hc4 => ?_) (fun hc4 => ?_)
    · replace hc4 := of_decide_eq_true ((irr_eq _).symm.trans hc4)
      refine k_seq (fun Q K => ?_)
      refine k_lin (fun W K => ?_)
      refine l_callv rfl rfl (by kernel_rfl) rfl rfl (live17_call _ _) ?_
      (try dsimp only [n_1, n_2, n_3, n_4, List.append_nil, pk, n_5, n_6] at F)
      refine l_op 0 rfl rfl rfl rfl rfl ?_
      refine l_nil (WK.nx (by assumption) ?_)
      refine SeqK.nx (by assumption) ?_
      refine k_ret ?_
      refine SeqK.rt (by assumption) ?_
      refine FunK.rt (by assumption) rfl ?_
      -- leaf 2
      first
      | rfl
      | (exfalso; omega)
      | (exfalso; have e := pushR_len1 (most := most) (L := g.L) (t := yt) (by omega); omega)
      | (exfalso; have e := pushR_len2 (most := most) (L := g.L) (t := yt) (by omega); omega)
      | (exfalso; have e : g.L.dropLast.length = g.L.length - 1 := List.length_dropLast ..; omega)
      | (exact absurd (congrArg irr (decide_eq_decide.2 (by omega))) hc16)
      | (exfalso; simp_all; done)
    replace hc4 := of_decide_eq_false ((irr_eq _).symm.trans hc4)
    replace hn := hn (by omega)
    have hbd : ∀ p ∈ ps, BdS p.2 := fun p hp => by
      have := sumS_mem hp
      exact ⟨⟨by omega, by omega, by omega⟩, h.byt p hp⟩
    refine k_skip ?_
    refine SeqK.nx (by assumption) ?_
    refine k_seq (fun Q K => ?_)
    refine k_lin (fun W K => ?_)
    refine l_op 0 rfl rfl rfl rfl rfl ?_
    refine l_callp F rfl rfl (by kernel_rfl) rfl rfl (unew_call hgd) (fun u s F _ => ?_)
    (try dsimp only [n_1, n_2, n_3, n_4, List.append_nil, pk, n_5, n_6] at F)
    refine l_op 0 rfl rfl rfl rfl rfl ?_
    refine l_op 2 rfl rfl rfl rfl rfl ?_
    refine l_op 2 rfl rfl rfl rfl rfl ?_
    refine l_op 0 rfl rfl rfl rfl rfl ?_
    refine l_op 0 rfl rfl rfl rfl rfl ?_
    refine l_nil (WK.nx (by assumption) ?_)
    refine SeqK.nx (by assumption) ?_
    refine k_seq (fun Q K => ?_)
    refine k_seq (fun Q K => ?_)
    refine k_lin (fun W K => ?_)
    refine l_op 0 rfl rfl rfl rfl rfl ?_
    refine l_cmp rfl rfl rfl rfl ?_
    refine l_op 0 rfl rfl rfl rfl rfl ?_
    refine l_guard rfl rfl rfl (fun hc5 => ?_) (fun hc5 => ?_)
    · replace hc5 := of_decide_eq_true ((irr_eq _).symm.trans hc5)
      refine l_s rfl rfl ?_
      refine l_s rfl rfl ?_
      refine l_op 2 rfl rfl rfl rfl rfl ?_
      refine l_nil (WK.nx (by assumption) ?_)
      refine SeqK.nx (by assumption) ?_
      first | refine e_cond_t rfl rfl rfl ?_ | refine e_cond_t rfl rfl (by rw [irr_eq]; first | exact beq_iff_eq.2 (by assumption) | exact decide_eq_true (by assumption) | exact bne_iff_ne.2 (by assumption)) ?_
      refine k_seq (fun Q K => ?_)
      refine k_lin (fun W K => ?_)
      refine l_op 0 rfl rfl rfl rfl rfl ?_
      refine l_cmp rfl rfl rfl rfl ?_
      refine l_op 0 rfl rfl rfl rfl rfl ?_
      refine l_guard rfl rfl rfl (fun hc6 => ?_) (fun hc6 => ?_)
      · first | replace hc6 := eq_of_beq ((irr_eq _).symm.trans hc6) | simp only [irr_eq, beq_iff_eq, beq_eq_false_iff_ne, ne_eq, decide_eq_true_eq, decide_eq_false_iff_not] at hc6
        refine l_op 0 rfl rfl rfl rfl rfl ?_
        refine l_callv rfl rfl (by kernel_rfl) rfl rfl num17_call ?_
        (try dsimp only [n_1, n_2, n_3, n_4, List.append_nil, pk, n_5, n_6] at F)
        refine l_cmp rfl rfl rfl rfl ?_
        refine l_op 2 rfl rfl rfl rfl rfl ?_
        refine l_op 0 rfl rfl rfl rfl rfl ?_
        refine l_guard rfl rfl rfl (fun hc7 => ?_) (fun hc7 => ?_)
        · first | replace hc7 := eq_of_beq ((irr_eq _).symm.trans hc7) | simp only [irr_eq, beq_iff_eq, beq_eq_false_iff_ne, ne_eq, decide_eq_true_eq, decide_eq_false_iff_not] at hc7
          refine l_callv rfl rfl (by kernel_rfl) rfl rfl (live17_call _ _) ?_
          (try dsimp only [n_1, n_2, n_3, n_4, List.append_nil, pk, n_5, n_6] at F)
          refine l_op 2 rfl rfl rfl rfl rfl ?_
          refine l_op 0 rfl rfl rfl rfl rfl ?_
          refine l_nil (WK.nx (by assumption) ?_)
          refine SeqK.nx (by assumption) ?_
          refine k_ret ?_
          refine SeqK.rt (by assumption) ?_
          refine FunK.rt (by assumption) rfl ?_
          -- leaf 3
          first
          | rfl
          | (exfalso; omega)
          | (exfalso; have e := pushR_len1 (most := most) (L := g.L) (t := yt) (by omega); omega)
          | (exfalso; have e := pushR_len2 (most := most) (L := g.L) (t := yt) (by omega); omega)
          | (exfalso; have e : g.L.dropLast.length = g.L.length - 1 := List.length_dropLast ..; omega)
          | (exact absurd (congrArg irr (decide_eq_decide.2 (by omega))) hc16)
          | (exfalso; simp_all; done)
        first | replace hc7 := ne_of_beq_false ((irr_eq _).symm.trans hc7) | simp only [irr_eq, beq_iff_eq, beq_eq_false_iff_ne, ne_eq, decide_eq_true_eq, decide_eq_false_iff_not] at hc7
        refine l_s rfl rfl ?_
        refine l_op 2 rfl rfl rfl rfl rfl ?_
        refine l_op 0 rfl rfl rfl rfl rfl ?_
        refine l_nil (WK.nx (by assumption) ?_)
        refine SeqK.nx (by assumption) ?_
        refine k_ret ?_
        refine SeqK.rt (by assumption) ?_
        refine FunK.rt (by assumption) rfl ?_
        -- leaf 4
        first
        | rfl
        | (exfalso; omega)
        | (exfalso; have e := pushR_len1 (most := most) (L := g.L) (t := yt) (by omega); omega)
        | (exfalso; have e := pushR_len2 (most := most) (L := g.L) (t := yt) (by omega); omega)
        | (exfalso; have e : g.L.dropLast.length = g.L.length - 1 := List.length_dropLast ..; omega)
        | (exact absurd (congrArg irr (decide_eq_decide.2 (by omega))) hc16)
        | (exfalso; simp_all; done)
      first | replace hc6 := ne_of_beq_false ((irr_eq _).symm.trans hc6) | simp only [irr_eq, beq_iff_eq, beq_eq_false_iff_ne, ne_eq, decide_eq_true_eq, decide_eq_false_iff_not] at hc6
      refine l_s rfl rfl ?_
      refine l_s rfl rfl ?_
      refine l_s rfl rfl ?_
      refine l_op 2 rfl rfl rfl rfl rfl ?_
      refine l_op 0 rfl rfl rfl rfl rfl ?_
      refine l_s rfl rfl ?_
      refine l_op 2 rfl rfl rfl rfl rfl ?_
      refine l_op 0 rfl rfl rfl rfl rfl ?_
      refine l_nil (WK.nx (by assumption) ?_)
      refine SeqK.nx (by assumption) ?_
      refine k_ret ?_
      refine SeqK.rt (by assumption) ?_
      refine FunK.rt (by assumption) rfl ?_
      -- leaf 5
      first
      | rfl
      | (exfalso; omega)
      | (exfalso; have e := pushR_len1 (most := most) (L := g.L) (t := yt) (by omega); omega)
      | (exfalso; have e := pushR_len2 (most := most) (L := g.L) (t := yt) (by omega); omega)
      | (exfalso; have e : g.L.dropLast.length = g.L.length - 1 := List.length_dropLast ..; omega)
      | (exact absurd (congrArg irr (decide_eq_decide.2 (by omega))) hc16)
      | (exfalso; simp_all; done)
    replace hc5 := of_decide_eq_false ((irr_eq _).symm.trans hc5)
    refine l_op 0 rfl rfl rfl rfl rfl ?_
    refine l_cmp rfl rfl rfl rfl ?_
    refine l_op 2 rfl rfl rfl rfl rfl ?_
    refine l_nil (WK.nx (by assumption) ?_)
    refine SeqK.nx (by assumption) ?_
    refine l_cond rfl rfl (fun hc8 => ?_) (fun hc8 => ?_)
    · replace hc8 := of_decide_eq_true ((irr_eq _).symm.trans hc8)
      exfalso; omega
    replace hc8 := of_decide_eq_false ((irr_eq _).symm.trans hc8)
    refine k_skip ?_
    refine SeqK.nx (by assumption) ?_
    refine k_seq (fun Q K => ?_)
    refine k_seq (fun Q K => ?_)
    refine k_lin (fun W K => ?_)
    refine l_op 0 rfl rfl rfl rfl rfl ?_
    refine l_callv rfl rfl (by kernel_rfl) rfl rfl num17_call ?_
    (try dsimp only [n_1, n_2, n_3, n_4, List.append_nil, pk, n_5, n_6] at F)
    refine l_cmp rfl rfl rfl rfl ?_
    refine l_op 0 rfl rfl rfl rfl rfl ?_
    refine l_guard rfl rfl rfl (fun hc9 => ?_) (fun hc9 => ?_)
    · first | replace hc9 := bne_iff_ne.1 ((irr_eq _).symm.trans hc9) | simp only [irr_eq, bne_iff_ne, bne_eq_false_iff_eq, ne_eq, decide_eq_true_eq, decide_eq_false_iff_not, Bool.not_eq_true', Bool.not_eq_false'] at hc9
      refine l_s rfl rfl ?_
      refine l_s rfl rfl ?_
      refine l_op 2 rfl rfl rfl rfl rfl ?_
      refine l_nil (WK.nx (by assumption) ?_)
      refine SeqK.nx (by assumption) ?_
      first | refine e_cond_t rfl rfl rfl ?_ | refine e_cond_t rfl rfl (by rw [irr_eq]; first | exact beq_iff_eq.2 (by assumption) | exact decide_eq_true (by assumption) | exact bne_iff_ne.2 (by assumption)) ?_
      refine k_seq (fun Q K => ?_)
      refine k_lin (fun W K => ?_)
      refine l_op 0 rfl rfl rfl rfl rfl ?_
      refine l_nil (WK.nx (by assumption) ?_)
      refine SeqK.nx (by assumption) ?_
      refine k_ret ?_
      refine SeqK.rt (by assumption) ?_
      refine FunK.rt (by assumption) rfl ?_
      -- leaf 6
      first
      | rfl
      | (exfalso; omega)
      | (exfalso; have e := pushR_len1 (most := most) (L := g.L) (t := yt) (by omega); omega)
      | (exfalso; have e := pushR_len2 (most := most) (L := g.L) (t := yt) (by omega); omega)
      | (exfalso; have e : g.L.dropLast.length = g.L.length - 1 := List.length_dropLast ..; omega)
      | (exact absurd (congrArg irr (decide_eq_decide.2 (by omega))) hc16)
      | (exfalso; simp_all; done)
    first | replace hc9 := bne_eq_false_iff_eq.1 ((irr_eq _).symm.trans hc9) | simp only [irr_eq, bne_iff_ne, bne_eq_false_iff_eq, ne_eq, decide_eq_true_eq, decide_eq_false_iff_not, Bool.not_eq_true', Bool.not_eq_false'] at hc9
    refine l_op 0 rfl rfl rfl rfl rfl ?_
    refine l_cmp rfl rfl rfl rfl ?_
    refine l_op 2 rfl rfl rfl rfl rfl ?_
    refine l_nil (WK.nx (by assumption) ?_)
    refine SeqK.nx (by assumption) ?_
    refine l_cond rfl rfl (fun hc10 => ?_) (fun hc10 => ?_)
    · first | replace hc10 := eq_of_beq ((irr_eq _).symm.trans hc10) | simp only [irr_eq, beq_iff_eq, beq_eq_false_iff_ne, ne_eq, decide_eq_true_eq, decide_eq_false_iff_not] at hc10
      refine k_seq (fun Q K => ?_)
      refine k_lin (fun W K => ?_)
      refine l_op 0 rfl rfl rfl rfl rfl ?_
      refine l_nil (WK.nx (by assumption) ?_)
      refine SeqK.nx (by assumption) ?_
      refine k_ret ?_
      refine SeqK.rt (by assumption) ?_
      refine FunK.rt (by assumption) rfl ?_
      -- leaf 7
      first
      | rfl
      | (exfalso; omega)
      | (exfalso; have e := pushR_len1 (most := most) (L := g.L) (t := yt) (by omega); omega)
      | (exfalso; have e := pushR_len2 (most := most) (L := g.L) (t := yt) (by omega); omega)
      | (exfalso; have e : g.L.dropLast.length = g.L.length - 1 := List.length_dropLast ..; omega)
      | (exact absurd (congrArg irr (decide_eq_decide.2 (by omega))) hc16)
      | (exfalso; simp_all; done)
    first | replace hc10 := ne_of_beq_false ((irr_eq _).symm.trans hc10) | simp only [irr_eq, beq_iff_eq, beq_eq_false_iff_ne, ne_eq, decide_eq_true_eq, decide_eq_false_iff_not] at hc10
    refine k_skip ?_
    refine SeqK.nx (by assumption) ?_
    refine k_seq (fun Q K => ?_)
    refine k_lin (fun W K => ?_)
    refine l_op 0 rfl rfl rfl rfl rfl ?_
    refine l_nil (WK.nx (by assumption) ?_)
    refine SeqK.nx (by assumption) ?_
    refine k_seq (fun Q K => ?_)
    refine k_seq (fun Q K => ?_)
    refine k_lin (fun W K => ?_)
    refine l_op 0 rfl rfl rfl rfl rfl ?_
    refine l_nil (WK.nx (by assumption) ?_)
    refine SeqK.nx (by assumption) ?_
    refine k_block (fun Q K => ?_)
    have F0 : Facts E0 σ s (ugF u most ⟨none, 0, [], [], none, 0, 0, [], []⟩) := (F.nomany.nilrow 4).pick [1, 2, 0, 3] (by decide)
    refine k_loop (α := Int × UG) (fun ⟨i, g⟩ s => Facts E0 σ s (ugF u most g) ∧ 0 ≤ i ∧ i ≤ l ∧ UOK ps most g) (fun ⟨i, g⟩ => [(0, .int .i64 most), (1, .slice a l c), (7, .pointer (some ⟨u, 0, none⟩)), (9, .slice (shift g.ra (g.j * 4)) g.R.length (g.rc - g.j)), (10, .int .i64 i)]) (fun ⟨i, _⟩ => (l - i).toNat) (0, ⟨none, 0, [], [], none, 0, 0, [], []⟩) ⟨F0, by omega, by omega, ⟨.inl rfl, (fun t ht => by cases ht), rfl, (fun t ht => by cases ht), (fun t ht => by cases ht), rfl, hgd.1⟩⟩ (by repeat (first | exact trivial | refine And.intro rfl ?_)) ?_
    clear F F0
    rintro ⟨i, g⟩ env s Q K0 ⟨F, i0, i1, hok⟩
    have hgl := hok.len
    refine k_seq (fun Q K => ?_)
    refine k_seq (fun Q K => ?_)
    refine k_lin (fun W K => ?_)
    refine l_op 0 rfl rfl rfl rfl rfl ?_
    refine l_op 0 rfl rfl rfl rfl rfl ?_
    first | refine l_op 2 rfl rfl rfl rfl rfl ?_ | refine l_ln rfl rfl rfl rfl ?_
    refine l_cmp rfl rfl rfl rfl ?_
    refine l_nil (WK.nx (by assumption) ?_)
    refine SeqK.nx (by assumption) ?_
    refine l_cond rfl rfl (fun hc11 => ?_) (fun hc11 => ?_)
    · replace hc11 := of_decide_eq_true ((irr_eq _).symm.trans hc11)
      have hmem := memP (ps := ps) (i := i.toNat) (by omega)
      obtain ⟨⟨hs1, hs2, hs3⟩, hby1, hby2⟩ := hbd _ hmem
      have hfew := hok.few
      refine k_skip ?_
      refine SeqK.nx (by assumption) ?_
      refine k_seq (fun Q K => ?_)
      refine k_block (fun Q K => ?_)
      refine k_seq (fun Q K => ?_)
      refine k_seq (fun Q K => ?_)
      refine k_lin (fun W K => ?_)
      refine l_op 0 rfl rfl rfl rfl rfl ?_
      refine l_op 0 rfl rfl rfl rfl rfl ?_
      first | refine l_ixrs (e := eP) F ho ⟨eP_len, by decide⟩ rfl rfl rfl rfl rfl rfl (by omega) (fun m94 b94 hA94 hS94 => ?_) | refine l_ixr (e := eP) rfl rfl rfl rfl rfl rfl (F.old ho) ⟨eP_len, by decide⟩ (by omega) (fun m94 b94 hA94 => ?_)
      refine l_op 2 rfl rfl rfl rfl rfl ?_
      (first | refine l_ld0 rfl rfl rfl rfl rfl (by assumption) ?_ | refine l_ldj rfl rfl rfl rfl rfl rfl (by assumption) rfl ?_ | refine l_ldc F 0 rfl rfl rfl rfl rfl rfl rfl ?_ | refine l_ldc F 1 rfl rfl rfl rfl rfl rfl rfl ?_ | refine l_ldc F 2 rfl rfl rfl rfl rfl rfl rfl ?_ | refine l_ldc F 3 rfl rfl rfl rfl rfl rfl rfl ?_ | refine l_ldc F 4 rfl rfl rfl rfl rfl rfl rfl ?_ | refine l_ldc F 5 rfl rfl rfl rfl rfl rfl rfl ?_ | refine l_ldc F 6 rfl rfl rfl rfl rfl rfl rfl ?_ | refine l_ldc F 7 rfl rfl rfl rfl rfl rfl rfl ?_ | refine l_ldc F 8 rfl rfl rfl rfl rfl rfl rfl ?_ | refine l_ldc F 9 rfl rfl rfl rfl rfl rfl rfl ?_ | refine l_lda rfl rfl rfl rfl rfl (by assumption) ?_ | refine l_ldca F 0 rfl rfl rfl rfl rfl rfl rfl ?_ | refine l_ldca F 1 rfl rfl rfl rfl rfl rfl rfl ?_ | refine l_ldca F 2 rfl rfl rfl rfl rfl rfl rfl ?_ | refine l_ldca F 3 rfl rfl rfl rfl rfl rfl rfl ?_ | refine l_ldca F 4 rfl rfl rfl rfl rfl rfl rfl ?_ | refine l_ldca F 5 rfl rfl rfl rfl rfl rfl rfl ?_ | refine l_ldca F 6 rfl rfl rfl rfl rfl rfl rfl ?_ | refine l_ldca F 7 rfl rfl rfl rfl rfl rfl rfl ?_ | refine l_ldca F 8 rfl rfl rfl rfl rfl rfl rfl ?_ | refine l_ldca F 9 rfl rfl rfl rfl rfl rfl rfl ?_ | refine l_ldo F (by assumption) rfl rfl rfl rfl rfl rfl ?_ | refine l_ldoa F (by assumption) rfl rfl rfl rfl rfl rfl ?_)
      refine l_op 2 rfl rfl rfl rfl rfl ?_
      refine l_nil (WK.nx (by assumption) ?_)
      refine SeqK.nx (by assumption) ?_
      refine l_cond rfl rfl (fun hc12 => ?_) (fun hc12 => ?_)
      · try simp only [irr_eq, beq_iff_eq, bne_iff_ne, beq_eq_false_iff_ne, bne_eq_false_iff_eq, ne_eq, decide_eq_true_eq, decide_eq_false_iff_not, Bool.not_eq_true', Bool.not_eq_false'] at hc12
        refine k_seq (fun Q K => ?_)
        refine k_lin (fun W K => ?_)
        refine l_op 0 rfl rfl rfl rfl rfl ?_
        refine l_op 0 rfl rfl rfl rfl rfl ?_
        first | refine l_ixrs (e := eP) F ho ⟨eP_len, by decide⟩ rfl rfl rfl rfl rfl rfl (by omega) (fun m100 b100 hA100 hS100 => ?_) | refine l_ixr (e := eP) rfl rfl rfl rfl rfl rfl (F.old ho) ⟨eP_len, by decide⟩ (by omega) (fun m100 b100 hA100 => ?_)
        refine l_op 2 rfl rfl rfl rfl rfl ?_
        refine l_lda (ws := eS (ps.getD i.toNat default).2) rfl rfl rfl rfl rfl (AtR.tail hA100) ?_
        refine l_al F rfl rfl rfl rfl (fun q11 s F => ?_)
        (try dsimp only [n_1, n_2, n_3, n_4, List.append_nil, pk, n_5, n_6] at F)
        (first | refine l_stc F 0 rfl rfl rfl rfl rfl rfl rfl rfl rfl hD (fun s F => ?_) | refine l_stc F 1 rfl rfl rfl rfl rfl rfl rfl rfl rfl hD (fun s F => ?_) | refine l_stc F 2 rfl rfl rfl rfl rfl rfl rfl rfl rfl hD (fun s F => ?_) | refine l_stc F 3 rfl rfl rfl rfl rfl rfl rfl rfl rfl hD (fun s F => ?_) | refine l_stc F 4 rfl rfl rfl rfl rfl rfl rfl rfl rfl hD (fun s F => ?_) | refine l_stc F 5 rfl rfl rfl rfl rfl rfl rfl rfl rfl hD (fun s F => ?_) | refine l_stc F 6 rfl rfl rfl rfl rfl rfl rfl rfl rfl hD (fun s F => ?_) | refine l_stc F 7 rfl rfl rfl rfl rfl rfl rfl rfl rfl hD (fun s F => ?_) | refine l_stc F 8 rfl rfl rfl rfl rfl rfl rfl rfl rfl hD (fun s F => ?_) | refine l_stc F 9 rfl rfl rfl rfl rfl rfl rfl rfl rfl hD (fun s F => ?_) | refine l_stca F 0 rfl rfl rfl rfl rfl rfl rfl rfl rfl rfl hD rfl (fun s F => ?_) | refine l_stca F 1 rfl rfl rfl rfl rfl rfl rfl rfl rfl rfl hD rfl (fun s F => ?_) | refine l_stca F 2 rfl rfl rfl rfl rfl rfl rfl rfl rfl rfl hD rfl (fun s F => ?_) | refine l_stca F 3 rfl rfl rfl rfl rfl rfl rfl rfl rfl rfl hD rfl (fun s F => ?_) | refine l_stca F 4 rfl rfl rfl rfl rfl rfl rfl rfl rfl rfl hD rfl (fun s F => ?_) | refine l_stca F 5 rfl rfl rfl rfl rfl rfl rfl rfl rfl rfl hD rfl (fun s F => ?_) | refine l_stca F 6 rfl rfl rfl rfl rfl rfl rfl rfl rfl rfl hD rfl (fun s F => ?_) | refine l_stca F 7 rfl rfl rfl rfl rfl rfl rfl rfl rfl rfl hD rfl (fun s F => ?_) | refine l_stca F 8 rfl rfl rfl rfl rfl rfl rfl rfl rfl rfl hD rfl (fun s F => ?_) | refine l_stca F 9 rfl rfl rfl rfl rfl rfl rfl rfl rfl rfl hD rfl (fun s F => ?_) | refine l_stoi F 0 rfl rfl rfl rfl rfl rfl rfl (by omega) hD (fun s F => ?_) | refine l_stoi F 1 rfl rfl rfl rfl rfl rfl rfl (by omega) hD (fun s F => ?_) | refine l_stoi F 2 rfl rfl rfl rfl rfl rfl rfl (by omega) hD (fun s F => ?_) | refine l_stoi F 3 rfl rfl rfl rfl rfl rfl rfl (by omega) hD (fun s F => ?_) | refine l_stoi F 4 rfl rfl rfl rfl rfl rfl rfl (by omega) hD (fun s F => ?_) | refine l_stoi F 5 rfl rfl rfl rfl rfl rfl rfl (by omega) hD (fun s F => ?_) | refine l_stoi F 6 rfl rfl rfl rfl rfl rfl rfl (by omega) hD (fun s F => ?_) | refine l_stoi F 7 rfl rfl rfl rfl rfl rfl rfl (by omega) hD (fun s F => ?_) | refine l_stoi F 8 rfl rfl rfl rfl rfl rfl rfl (by omega) hD (fun s F => ?_) | refine l_stoi F 9 rfl rfl rfl rfl rfl rfl rfl (by omega) hD (fun s F => ?_))
        (try dsimp only [n_1, n_2, n_3, n_4, List.append_nil, pk, n_5, n_6] at F)
        refine l_nil (WK.nx (by assumption) ?_)
        refine SeqK.nx (by assumption) ?_
        refine k_cut (α := Nat × SS) (fun ⟨q, w⟩ s => Facts E0 σ s (ugF u most g ++ [cel q11 (eS (ps.getD i.toNat default).2), own w.mx w.ml w.mc 1 (u8l w.m), own w.bx w.bl w.bc 2 (rows eB w.b), own w.sx w.sl w.sc 1 (u8l w.s), cel q (eS w)]) ∧ plS w = plS (ps.getD i.toNat default).2 ∧ w.ml = (ps.getD i.toNat default).2.ml ∧ w.bl = (ps.getD i.toNat default).2.bl ∧ w.sl = (ps.getD i.toNat default).2.sl) (fun ⟨q, w⟩ => [(0, .int .i64 most), (1, .slice a l c), (7, .pointer (some ⟨u, 0, none⟩)), (9, .slice (shift g.ra (g.j * 4)) g.R.length (g.rc - g.j)), (10, .int .i64 i), (11, .pointer (some ⟨q11, 0, none⟩)), (12, .pointer (some ⟨q, 0, none⟩))]) (fun Q KC => ?_) ?_
        · have h0 := h
          refine k_lset [1, 2, 4, 5, 7, 8, 11, 12] 9 (enc19 ((false, false, false, false), 0)) rfl (by kernel_rfl) fun W KW => ?_
          refine l_op 2 rfl rfl rfl rfl rfl ?_
          refine l_ldc F 4 rfl rfl rfl rfl rfl rfl rfl ?_
          refine l_op 2 rfl rfl rfl rfl rfl ?_
          refine l_ldc F 4 rfl rfl rfl rfl rfl rfl rfl ?_
          refine l_op 2 rfl rfl rfl rfl rfl ?_
          refine l_ldc F 4 rfl rfl rfl rfl rfl rfl rfl ?_
          refine l_op 2 rfl rfl rfl rfl rfl ?_
          refine l_ldc F 4 rfl rfl rfl rfl rfl rfl rfl ?_
          refine l_nil ?_
          have hI0 : ∀ env : Env, Sees env [(0, .int .i64 most), (1, .slice a l c), (7, .pointer (some ⟨u, 0, none⟩)), (9, .slice (shift g.ra (g.j * 4)) g.R.length (g.rc - g.j)), (10, .int .i64 i), (11, .pointer (some ⟨q11, 0, none⟩))] → env 105 = .slice (ps.getD i.toNat default).2.mx (ps.getD i.toNat default).2.ml (ps.getD i.toNat default).2.mc → env 108 = .int .u32 (ps.getD i.toNat default).2.rt → env 111 = .slice (ps.getD i.toNat default).2.bx (ps.getD i.toNat default).2.bl (ps.getD i.toNat default).2.bc → env 115 = .slice (ps.getD i.toNat default).2.sx (ps.getD i.toNat default).2.sl (ps.getD i.toNat default).2.sc → ∃ z, I19 σ u most g q11 (ps.getD i.toNat default).2 [(0, .int .i64 most), (1, .slice a l c), (7, .pointer (some ⟨u, 0, none⟩)), (9, .slice (shift g.ra (g.j * 4)) g.R.length (g.rc - g.j)), (10, .int .i64 i), (11, .pointer (some ⟨q11, 0, none⟩))] z ((false, false, false, false), 0) (pn19 q11) env s := by
            intro env h1 h2 h3 h4 h5
            refine ⟨⟨none, 0, none, 0, none, 0, 0⟩, ⟨?_, rfl, h1, h2, h3, h4, h5, (fun h => by cases h), (fun h => by cases h), (fun h => by cases h), (fun h => by cases h), (fun h => by cases h), (fun h => by cases h), (fun h => by cases h), (fun h => by cases h)⟩⟩
            exact (((F.nilrow 1).nilrow 2).nilrow 1).nilrow 1
          refine linS_st enc19 nxt19 left19 all19 (by kernel_rfl) (fun st pn env s => ∃ z, I19 σ u most g q11 (ps.getD i.toNat default).2 [(0, .int .i64 most), (1, .slice a l c), (7, .pointer (some ⟨u, 0, none⟩)), (9, .slice (shift g.ra (g.j * 4)) g.R.length (g.rc - g.j)), (10, .int .i64 i), (11, .pointer (some ⟨q11, 0, none⟩))] z st pn env s) ?_ ?_ 9 _ _ _ _ rfl (List.contains_iff_mem.1 (by kernel_rfl)) (hI0 _ (by repeat (first | exact trivial | refine And.intro rfl ?_)) rfl rfl rfl rfl)
          · intro st pn env s' hn hs ⟨z, hI⟩
            have hk : st.2 = 5 ∧ st.1.2.2.2 = true := all19_end hn hs
            obtain ⟨⟨sa, sb, sc, sd⟩, sk⟩ := st
            obtain ⟨rfl, rfl⟩ := hk
            obtain ⟨F, rfl, hsee, e105, e108, e111, e115, e103, e109, e113, e106, e112, e116, e117, e12⟩ := hI
            exact KW.nx (KC.nx (z.q2, w19 (ps.getD i.toNat default).2 z) ⟨hsee.1, hsee.2.1, hsee.2.2.1, hsee.2.2.2.1, hsee.2.2.2.2.1, hsee.2.2.2.2.2.1, e12 rfl, trivial⟩ ⟨F.pick [0, 1, 2, 3, 4, 5, 6, 7, 8] (by decide), rfl, rfl, rfl, rfl⟩)
          · intro st i' st' hmm pn env s' ⟨z, hI⟩
            obtain ⟨⟨sa, sb, sc, sd⟩, sk⟩ := st
            obtain ⟨F, rfl, hsee, e105, e108, e111, e115, e103, e109, e113, e106, e112, e116, e117, e12⟩ := hI
            dsimp only at F e103 e109 e113 e106 e112 e116 e117 e12
            rcases nxt19_mem hmm with h | h | h | h | h | h | h | h | h
            · obtain ⟨rfl, rfl, h3⟩ := h
              obtain ⟨rfl, rfl⟩ := Prod.mk.inj h3
              refine ⟨_, rfl, ?_⟩
              refine l_lit F rfl rfl rfl rfl (fun m s' F => ?_) (.inl (PnA.cel F 4 rfl (PnA.cel F 4 rfl (PnA.cel F 4 rfl (PnA.cel F 4 rfl (pna_nil))))))
              exact l_nil ⟨⟨some ⟨m, 0, some 0⟩, 0, z.x6, z.c6, z.x10, z.c10, z.q2⟩, F.pick [0, 1, 2, 3, 4, 9, 6, 7, 8] (by decide), rfl, hsee, e105, e108, e111, e115, fun _ _ => rfl, e109, e113, no_le (k := 0) (by omega), no_le (k := 0) (by omega), no_le (k := 0) (by omega), no_le (k := 0) (by omega), e12⟩
            · obtain ⟨rfl, rfl, h3⟩ := h
              obtain ⟨rfl, rfl⟩ := Prod.mk.inj h3
              refine ⟨_, rfl, ?_⟩
              refine l_app (es := 1) (len := 0) (vs := []) F 5 rfl rfl rfl rfl (e103 rfl rfl) rfl e105 (F.old (h0.m _ hmem)) (ints_one _) rfl (by omega) hD (fun x2 c2 s' F => ?_) (.inl (PnA.celE F 4 5 rfl rfl (by decide) (PnA.celE F 4 5 rfl rfl (by decide) (PnA.celE F 4 5 rfl rfl (by decide) (PnA.celE F 4 5 rfl rfl (by decide) (pna_nil))))))
              rw [Nat.zero_add] at F
              exact l_nil ⟨⟨x2, c2, z.x6, z.c6, z.x10, z.c10, z.q2⟩, F.pick [0, 1, 2, 3, 4, 5, 6, 7, 8] (by decide), rfl, hsee, e105, e108, e111, e115, (fun _ h => by cases h), (fun a _ => e109 a (by decide)), (fun a _ => e113 a (by decide)), (fun _ => congrArg (fun k => Value.slice x2 k c2) (Nat.zero_add _)), no_le (k := 1) (by omega), no_le (k := 1) (by omega), no_le (k := 1) (by omega), e12⟩
            · obtain ⟨rfl, hk, h3⟩ := h
              obtain ⟨rfl, rfl⟩ := Prod.mk.inj h3
              refine ⟨_, rfl, ?_⟩
              dsimp only at hk
              refine l_lit F rfl rfl rfl rfl (fun m s' F => ?_) (.inl (PnA.cel F 4 rfl (PnA.cel F 4 rfl (PnA.cel F 4 rfl (PnA.cel F 4 rfl (pna_nil))))))
              have e1 : ifk 2 sk (ps.getD i.toNat default).2.bl 0 = 0 := ifk_lt (by omega)
              have e2 : ifk 2 sk (rows eB (ps.getD i.toNat default).2.b) [] = [] := ifk_lt (by omega)
              refine l_nil ⟨⟨z.x0, z.c0, some ⟨m, 0, some 0⟩, 0, z.x10, z.c10, z.q2⟩, ?_, rfl, hsee, e105, e108, e111, e115, e103, fun _ _ => rfl, e113, e106, no_le (k := sk) (by omega), no_le (k := sk) (by omega), no_le (k := sk) (by omega), e12⟩
              dsimp only
              rw [e1, e2, ifk_lt (show sk < 5 by omega)]
              rw [ifk_lt (show sk < 5 by omega)] at F
              exact F.pick [0, 1, 2, 3, 4, 5, 9, 7, 8] (by decide)
            · obtain ⟨rfl, rfl, h3⟩ := h
              obtain ⟨rfl, rfl⟩ := Prod.mk.inj h3
              refine ⟨_, rfl, ?_⟩
              refine l_app (es := 2) (len := 0) (vs := []) F 6 rfl rfl rfl rfl (e109 rfl (by decide)) rfl e111 (F.old (h0.b _ hmem)) (eB_one _) rfl (by omega) hD (fun x2 c2 s' F => ?_) (.inl (PnA.celE F 4 6 rfl rfl (by decide) (PnA.celE F 4 6 rfl rfl (by decide) (PnA.celE F 4 6 rfl rfl (by decide) (PnA.celE F 4 6 rfl rfl (by decide) (pna_nil))))))
              rw [Nat.zero_add] at F
              exact l_nil ⟨⟨z.x0, z.c0, x2, c2, z.x10, z.c10, z.q2⟩, F.pick [0, 1, 2, 3, 4, 5, 6, 7, 8] (by decide), rfl, hsee, e105, e108, e111, e115, (fun _ h => by cases h), (fun _ h => no_ge rfl h), (fun a _ => e113 a (by decide)), (fun _ => e106 (by decide)), (fun _ => congrArg (fun k => Value.slice x2 k c2) (Nat.zero_add _)), no_le (k := 2) (by omega), no_le (k := 2) (by omega), e12⟩
            · obtain ⟨rfl, hk, h3⟩ := h
              obtain ⟨rfl, rfl⟩ := Prod.mk.inj h3
              refine ⟨_, rfl, ?_⟩
              dsimp only at hk
              refine l_lit F rfl rfl rfl rfl (fun m s' F => ?_) (.inl (PnA.cel F 4 rfl (PnA.cel F 4 rfl (PnA.cel F 4 rfl (PnA.cel F 4 rfl (pna_nil))))))
              have e1 : ifk 3 sk (ps.getD i.toNat default).2.sl 0 = 0 := ifk_lt (by omega)
              have e2 : ifk 3 sk (u8l (ps.getD i.toNat default).2.s) [] = [] := ifk_lt (by omega)
              refine l_nil ⟨⟨z.x0, z.c0, z.x6, z.c6, some ⟨m, 0, some 0⟩, 0, z.q2⟩, ?_, rfl, hsee, e105, e108, e111, e115, e103, e109, fun _ _ => rfl, e106, e112, no_le (k := sk) (by omega), no_le (k := sk) (by omega), e12⟩
              dsimp only
              rw [e1, e2, ifk_lt (show sk < 5 by omega)]
              rw [ifk_lt (show sk < 5 by omega)] at F
              exact F.pick [0, 1, 2, 3, 4, 5, 6, 9, 8] (by decide)
            · obtain ⟨rfl, rfl, h3⟩ := h
              obtain ⟨rfl, rfl⟩ := Prod.mk.inj h3
              refine ⟨_, rfl, ?_⟩
              refine l_app (es := 1) (len := 0) (vs := []) F 7 rfl rfl rfl rfl (e113 rfl (by decide)) rfl e115 (F.old (h0.s _ hmem)) (ints_one _) rfl (by omega) hD (fun x2 c2 s' F => ?_) (.inl (PnA.celE F 4 7 rfl rfl (by decide) (PnA.celE F 4 7 rfl rfl (by decide) (PnA.celE F 4 7 rfl rfl (by decide) (PnA.celE F 4 7 rfl rfl (by decide) (pna_nil))))))
              rw [Nat.zero_add] at F
              exact l_nil ⟨⟨z.x0, z.c0, z.x6, z.c6, x2, c2, z.q2⟩, F.pick [0, 1, 2, 3, 4, 5, 6, 7, 8] (by decide), rfl, hsee, e105, e108, e111, e115, (fun _ h => by cases h), (fun _ h => no_ge rfl h), (fun _ h => no_ge rfl h), (fun _ => e106 (by decide)), (fun _ => e112 (by decide)), (fun _ => congrArg (fun k => Value.slice x2 k c2) (Nat.zero_add _)), no_le (k := 3) (by omega), e12⟩
            · obtain ⟨rfl, h3⟩ := h
              obtain ⟨rfl, rfl⟩ := Prod.mk.inj h3
              refine ⟨_, rfl, ?_⟩
              refine l_bld (vs := eS (w19 (ps.getD i.toNat default).2 z)) rfl ?_ rfl rfl ?_
              · show (match aBuild Try.prog 38 [(0, env 106), (1, env 108), (2, env 112), (3, env 116)] with | some (.agg cs) => fvs cs.toList | _ => none) = _
                rw [e106 (by decide), e108, e112 (by decide), e116 (by decide)]
                rfl
              exact l_nil ⟨z, F, rfl, hsee, e105, e108, e111, e115, (fun _ h => by cases h), (fun _ h => no_ge rfl h), (fun _ h => no_ge rfl h), (fun _ => e106 (by decide)), (fun _ => e112 (by decide)), (fun _ => e116 (by decide)), (fun _ => rfl), e12⟩
            · obtain ⟨rfl, hk, h3⟩ := h
              obtain ⟨rfl, rfl⟩ := Prod.mk.inj h3
              refine ⟨_, rfl, ?_⟩
              dsimp only at hk
              refine l_al F rfl rfl rfl rfl (fun m s' F => ?_) (.inl (PnA.cel F 4 rfl (PnA.cel F 4 rfl (PnA.cel F 4 rfl (PnA.cel F 4 rfl (pna_nil))))))
              refine l_nil ⟨⟨z.x0, z.c0, z.x6, z.c6, z.x10, z.c10, m⟩, ?_, rfl, hsee, e105, e108, e111, e115, e103, e109, e113, e106, e112, e116, e117, fun _ => rfl⟩
              dsimp only
              rw [ifk_lt (show sk < 5 by omega)]
              exact F.pick [0, 1, 2, 3, 4, 5, 6, 7, 9] (by decide)
            · obtain ⟨rfl, rfl, h3⟩ := h
              obtain ⟨rfl, rfl⟩ := Prod.mk.inj h3
              refine ⟨_, rfl, ?_⟩
              refine l_stca (vs := zeroV) F 8 rfl rfl rfl rfl (e12 rfl) (e117 (by decide)) rfl rfl rfl rfl hD rfl (fun s' F => ?_) (.inl (PnA.celE F 4 8 rfl rfl (by decide) (PnA.celE F 4 8 rfl rfl (by decide) (PnA.celE F 4 8 rfl rfl (by decide) (PnA.celE F 4 8 rfl rfl (by decide) (pna_nil))))))
              exact l_nil ⟨z, F.pick [0, 1, 2, 3, 4, 5, 6, 7, 8] (by decide), rfl, hsee, e105, e108, e111, e115, (fun _ h => by cases h), (fun _ h => no_ge rfl h), (fun _ h => no_ge rfl h), (fun _ => e106 (by decide)), (fun _ => e112 (by decide)), (fun _ => e116 (by decide)), (fun _ => e117 (by decide)), e12⟩
        · clear F
          rintro ⟨q12, w⟩ env s ⟨F, hw, hw1, hw2, hw3⟩
          replace F : Facts E0 σ s [cel u [.slice g.a g.L.length g.c, .int .i64 most], own g.a g.L.length g.c 4 (rows eS g.L), many g.D, own g.ra (g.j + g.R.length) g.rc 4 (rows eS (g.P ++ g.R)), cel q11 (eS (ps.getD i.toNat default).2), own w.mx w.ml w.mc 1 (u8l w.m), own w.bx w.bl w.bc 2 (rows eB w.b), own w.sx w.sl w.sc 1 (u8l w.s), cel q12 (eS w)] := F
          refine k_seq (fun Q K => ?_)
          refine k_lin (fun W K => ?_)
          refine l_op 0 rfl rfl rfl rfl rfl ?_
          (first | refine l_ld0 rfl rfl rfl rfl rfl (by assumption) ?_ | refine l_ldj rfl rfl rfl rfl rfl rfl (by assumption) rfl ?_ | refine l_ldc F 0 rfl rfl rfl rfl rfl rfl rfl ?_ | refine l_ldc F 1 rfl rfl rfl rfl rfl rfl rfl ?_ | refine l_ldc F 2 rfl rfl rfl rfl rfl rfl rfl ?_ | refine l_ldc F 3 rfl rfl rfl rfl rfl rfl rfl ?_ | refine l_ldc F 4 rfl rfl rfl rfl rfl rfl rfl ?_ | refine l_ldc F 5 rfl rfl rfl rfl rfl rfl rfl ?_ | refine l_ldc F 6 rfl rfl rfl rfl rfl rfl rfl ?_ | refine l_ldc F 7 rfl rfl rfl rfl rfl rfl rfl ?_ | refine l_ldc F 8 rfl rfl rfl rfl rfl rfl rfl ?_ | refine l_ldc F 9 rfl rfl rfl rfl rfl rfl rfl ?_ | refine l_lda rfl rfl rfl rfl rfl (by assumption) ?_ | refine l_ldca F 0 rfl rfl rfl rfl rfl rfl rfl ?_ | refine l_ldca F 1 rfl rfl rfl rfl rfl rfl rfl ?_ | refine l_ldca F 2 rfl rfl rfl rfl rfl rfl rfl ?_ | refine l_ldca F 3 rfl rfl rfl rfl rfl rfl rfl ?_ | refine l_ldca F 4 rfl rfl rfl rfl rfl rfl rfl ?_ | refine l_ldca F 5 rfl rfl rfl rfl rfl rfl rfl ?_ | refine l_ldca F 6 rfl rfl rfl rfl rfl rfl rfl ?_ | refine l_ldca F 7 rfl rfl rfl rfl rfl rfl rfl ?_ | refine l_ldca F 8 rfl rfl rfl rfl rfl rfl rfl ?_ | refine l_ldca F 9 rfl rfl rfl rfl rfl rfl rfl ?_ | refine l_ldo F (by assumption) rfl rfl rfl rfl rfl rfl ?_ | refine l_ldoa F (by assumption) rfl rfl rfl rfl rfl rfl ?_)
          refine l_call F [0, 1, 2] [3, 4, 5, 6, 7, 8] (by decide) rfl rfl (by kernel_rfl) rfl rfl (upush_call (F.sub [0, 1, 2] (by decide)) hok.ex (by omega) ⟨F.oldK [0, 1, 2] 5 rfl (by decide), F.oldK [0, 1, 2] 6 rfl (by decide), F.oldK [0, 1, 2] 7 rfl (by decide), ⟨by omega, by omega, by omega⟩⟩) hD (fun y s F hy => ?_)
          (try dsimp only [n_1, n_2, n_3, n_4, List.append_nil, pk, n_5, n_6] at F)
          obtain ⟨ya, yc, yt⟩ := y
          obtain ⟨hy1, hy2, hy3, hy4, hy5⟩ := hy
          dsimp only at F hy1 hy2 hy3 hy4 hy5 ⊢
          refine l_nil (WK.nx (by assumption) ?_)
          refine SeqK.nx (by assumption) ?_
          refine k_seq (fun Q K => ?_)
          refine k_lin (fun W K => ?_)
          refine l_op 2 rfl rfl rfl rfl rfl ?_
          (first | refine l_ld0 rfl rfl rfl rfl rfl (by assumption) ?_ | refine l_ldj rfl rfl rfl rfl rfl rfl (by assumption) rfl ?_ | refine l_ldc F 0 rfl rfl rfl rfl rfl rfl rfl ?_ | refine l_ldc F 1 rfl rfl rfl rfl rfl rfl rfl ?_ | refine l_ldc F 2 rfl rfl rfl rfl rfl rfl rfl ?_ | refine l_ldc F 3 rfl rfl rfl rfl rfl rfl rfl ?_ | refine l_ldc F 4 rfl rfl rfl rfl rfl rfl rfl ?_ | refine l_ldc F 5 rfl rfl rfl rfl rfl rfl rfl ?_ | refine l_ldc F 6 rfl rfl rfl rfl rfl rfl rfl ?_ | refine l_ldc F 7 rfl rfl rfl rfl rfl rfl rfl ?_ | refine l_ldc F 8 rfl rfl rfl rfl rfl rfl rfl ?_ | refine l_ldc F 9 rfl rfl rfl rfl rfl rfl rfl ?_ | refine l_lda rfl rfl rfl rfl rfl (by assumption) ?_ | refine l_ldca F 0 rfl rfl rfl rfl rfl rfl rfl ?_ | refine l_ldca F 1 rfl rfl rfl rfl rfl rfl rfl ?_ | refine l_ldca F 2 rfl rfl rfl rfl rfl rfl rfl ?_ | refine l_ldca F 3 rfl rfl rfl rfl rfl rfl rfl ?_ | refine l_ldca F 4 rfl rfl rfl rfl rfl rfl rfl ?_ | refine l_ldca F 5 rfl rfl rfl rfl rfl rfl rfl ?_ | refine l_ldca F 6 rfl rfl rfl rfl rfl rfl rfl ?_ | refine l_ldca F 7 rfl rfl rfl rfl rfl rfl rfl ?_ | refine l_ldca F 8 rfl rfl rfl rfl rfl rfl rfl ?_ | refine l_ldca F 9 rfl rfl rfl rfl rfl rfl rfl ?_ | refine l_ldo F (by assumption) rfl rfl rfl rfl rfl rfl ?_ | refine l_ldoa F (by assumption) rfl rfl rfl rfl rfl rfl ?_)
          refine l_call F [2] [0, 1, 3, 4, 5, 6, 7, 8] (by decide) rfl rfl (by kernel_rfl) rfl rfl (spoil_call (F.sub [2] (by decide)) (by omega)) hD (fun z1 s F _ => ?_)
          (try dsimp only [n_1, n_2, n_3, n_4, List.append_nil, pk, n_5, n_6] at F)
          refine l_nil (WK.nx (by assumption) ?_)
          refine SeqK.nx (by assumption) ?_
          refine k_seq (fun Q K => ?_)
          refine k_lin (fun W K => ?_)
          refine l_op 2 rfl rfl rfl rfl rfl ?_
          (first | refine l_ld0 rfl rfl rfl rfl rfl (by assumption) ?_ | refine l_ldj rfl rfl rfl rfl rfl rfl (by assumption) rfl ?_ | refine l_ldc F 0 rfl rfl rfl rfl rfl rfl rfl ?_ | refine l_ldc F 1 rfl rfl rfl rfl rfl rfl rfl ?_ | refine l_ldc F 2 rfl rfl rfl rfl rfl rfl rfl ?_ | refine l_ldc F 3 rfl rfl rfl rfl rfl rfl rfl ?_ | refine l_ldc F 4 rfl rfl rfl rfl rfl rfl rfl ?_ | refine l_ldc F 5 rfl rfl rfl rfl rfl rfl rfl ?_ | refine l_ldc F 6 rfl rfl rfl rfl rfl rfl rfl ?_ | refine l_ldc F 7 rfl rfl rfl rfl rfl rfl rfl ?_ | refine l_ldc F 8 rfl rfl rfl rfl rfl rfl rfl ?_ | refine l_ldc F 9 rfl rfl rfl rfl rfl rfl rfl ?_ | refine l_lda rfl rfl rfl rfl rfl (by assumption) ?_ | refine l_ldca F 0 rfl rfl rfl rfl rfl rfl rfl ?_ | refine l_ldca F 1 rfl rfl rfl rfl rfl rfl rfl ?_ | refine l_ldca F 2 rfl rfl rfl rfl rfl rfl rfl ?_ | refine l_ldca F 3 rfl rfl rfl rfl rfl rfl rfl ?_ | refine l_ldca F 4 rfl rfl rfl rfl rfl rfl rfl ?_ | refine l_ldca F 5 rfl rfl rfl rfl rfl rfl rfl ?_ | refine l_ldca F 6 rfl rfl rfl rfl rfl rfl rfl ?_ | refine l_ldca F 7 rfl rfl rfl rfl rfl rfl rfl ?_ | refine l_ldca F 8 rfl rfl rfl rfl rfl rfl rfl ?_ | refine l_ldca F 9 rfl rfl rfl rfl rfl rfl rfl ?_ | refine l_ldo F (by assumption) rfl rfl rfl rfl rfl rfl ?_ | refine l_ldoa F (by assumption) rfl rfl rfl rfl rfl rfl ?_)
          refine l_call F [3] [0, 1, 2, 4, 5, 6, 7, 8] (by decide) rfl rfl (by kernel_rfl) rfl rfl (spoil_call (F.sub [3] (by decide)) (by omega)) hD (fun z2 s F _ => ?_)
          (try dsimp only [n_1, n_2, n_3, n_4, List.append_nil, pk, n_5, n_6] at F)
          refine l_nil (WK.nx (by assumption) ?_)
          refine SeqK.nx (by assumption) ?_
          refine k_seq (fun Q K => ?_)
          refine k_lin (fun W K => ?_)
          refine l_op 0 rfl rfl rfl rfl rfl ?_
          (first | refine l_ld0 rfl rfl rfl rfl rfl (by assumption) ?_ | refine l_ldj rfl rfl rfl rfl rfl rfl (by assumption) rfl ?_ | refine l_ldc F 0 rfl rfl rfl rfl rfl rfl rfl ?_ | refine l_ldc F 1 rfl rfl rfl rfl rfl rfl rfl ?_ | refine l_ldc F 2 rfl rfl rfl rfl rfl rfl rfl ?_ | refine l_ldc F 3 rfl rfl rfl rfl rfl rfl rfl ?_ | refine l_ldc F 4 rfl rfl rfl rfl rfl rfl rfl ?_ | refine l_ldc F 5 rfl rfl rfl rfl rfl rfl rfl ?_ | refine l_ldc F 6 rfl rfl rfl rfl rfl rfl rfl ?_ | refine l_ldc F 7 rfl rfl rfl rfl rfl rfl rfl ?_ | refine l_ldc F 8 rfl rfl rfl rfl rfl rfl rfl ?_ | refine l_ldc F 9 rfl rfl rfl rfl rfl rfl rfl ?_ | refine l_lda rfl rfl rfl rfl rfl (by assumption) ?_ | refine l_ldca F 0 rfl rfl rfl rfl rfl rfl rfl ?_ | refine l_ldca F 1 rfl rfl rfl rfl rfl rfl rfl ?_ | refine l_ldca F 2 rfl rfl rfl rfl rfl rfl rfl ?_ | refine l_ldca F 3 rfl rfl rfl rfl rfl rfl rfl ?_ | refine l_ldca F 4 rfl rfl rfl rfl rfl rfl rfl ?_ | refine l_ldca F 5 rfl rfl rfl rfl rfl rfl rfl ?_ | refine l_ldca F 6 rfl rfl rfl rfl rfl rfl rfl ?_ | refine l_ldca F 7 rfl rfl rfl rfl rfl rfl rfl ?_ | refine l_ldca F 8 rfl rfl rfl rfl rfl rfl rfl ?_ | refine l_ldca F 9 rfl rfl rfl rfl rfl rfl rfl ?_ | refine l_ldo F (by assumption) rfl rfl rfl rfl rfl rfl ?_ | refine l_ldoa F (by assumption) rfl rfl rfl rfl rfl rfl ?_)
          refine l_lit F rfl rfl rfl rfl (fun q129 s F => ?_)
          (try dsimp only [n_1, n_2, n_3, n_4, List.append_nil, pk, n_5, n_6] at F)
          refine l_apt (es := 4) (j := g.j) F 0 rfl rfl rfl rfl rfl rfl rfl (F.has 9 rfl) rfl rfl (by omega) hD (fun ra' j' rc' vs' s hvs F => ?_)
          (try dsimp only [n_1, n_2, n_3, n_4, List.append_nil, pk, n_5, n_6] at F)
          obtain ⟨P', hP, hv⟩ : ∃ P' : List SS, P'.length = j' ∧ vs' = rows eS (P' ++ (g.R ++ [(ps.getD i.toNat default).2])) := by
            have e1 : eS (ps.getD i.toNat default).2 = rows eS [(ps.getD i.toNat default).2] := by simp [rows]
            rcases hvs with ⟨h1, h2⟩ | ⟨h1, h2⟩
            · refine ⟨g.P, by rw [h1]; exact hok.pl, ?_⟩
              rw [h2, ← List.append_assoc, rows_append eS (g.P ++ g.R)]
              exact congrArg _ e1
            · refine ⟨[], by rw [h1]; rfl, ?_⟩
              rw [h2, List.nil_append, rows_append eS g.R, rows_drop eS_len, ← hok.pl, List.drop_left]
              exact congrArg _ e1
          rw [hv] at F
          clear hvs hv
          refine l_op 0 rfl rfl rfl rfl rfl ?_
          refine l_nil (WK.nx (by assumption) ?_)
          refine SeqK.nx (by assumption) ?_
          refine k_seq (fun Q K => ?_)
          refine k_lin (fun W K => ?_)
          refine l_op 0 rfl rfl rfl rfl rfl ?_
          first | refine l_op 2 rfl rfl rfl rfl rfl ?_ | refine l_ln rfl rfl rfl rfl ?_
          refine l_op 0 rfl rfl rfl rfl rfl ?_
          refine l_cmp rfl rfl rfl rfl ?_
          refine l_nil (WK.nx (by assumption) ?_)
          refine SeqK.nx (by assumption) ?_
          refine l_cond rfl rfl (fun hc13 => ?_) (fun hc13 => ?_)
          · replace hc13 := of_decide_eq_true ((irr_eq _).symm.trans hc13)
            refine k_lin (fun W K => ?_)
            refine l_op 0 rfl rfl rfl rfl rfl ?_
            refine l_sl (es := 4) (l := 1) (h := g.R.length + 1) rfl rfl rfl rfl rfl rfl rfl rfl rfl ((F.has 0 rfl).part (lo := j') (hi := j' + (g.R.length + 1)) (by omega) (Nat.le_refl _)) (by omega) ?_
            refine l_op 0 rfl rfl rfl rfl rfl ?_
            refine l_nil (WK.nx (by assumption) ?_)
            refine SeqK.nx (by assumption) ?_
            refine k_seq (fun Q K => ?_)
            refine k_lin (fun W K => ?_)
            refine l_op 0 rfl rfl rfl rfl rfl ?_
            refine l_callp F rfl rfl (by kernel_rfl) rfl rfl (ulen_call (by first | exact OldC.pure (F.cel0 2 rfl) | exact F.cel0 2 rfl | exact F.cel0 4 rfl | exact F.cel0 5 rfl | exact F.cel0 6 rfl)) (fun _ s F _ => ?_)
            (try dsimp only [n_1, n_2, n_3, n_4, List.append_nil, pk, n_5, n_6] at F)
            refine l_op 0 rfl rfl rfl rfl rfl ?_
            first | refine l_op 2 rfl rfl rfl rfl rfl ?_ | refine l_ln rfl rfl rfl rfl ?_
            refine l_cmp rfl rfl rfl rfl ?_
            refine l_nil (WK.nx (by assumption) ?_)
            refine SeqK.nx (by assumption) ?_
            refine l_cond rfl rfl (fun hc14 => ?_) (fun hc14 => ?_)
            · first | replace hc14 := bne_iff_ne.1 ((irr_eq _).symm.trans hc14) | simp only [irr_eq, bne_iff_ne, bne_eq_false_iff_eq, ne_eq, decide_eq_true_eq, decide_eq_false_iff_not, Bool.not_eq_true', Bool.not_eq_false'] at hc14
              refine k_seq (fun Q K => ?_)
              refine k_lin (fun W K => ?_)
              refine l_op 0 rfl rfl rfl rfl rfl ?_
              refine l_nil (WK.nx (by assumption) ?_)
              refine SeqK.nx (by assumption) ?_
              refine k_ret ?_
              refine BlkK.rt (by assumption) ?_
              refine SeqK.rt (by assumption) ?_
              refine LoopK.rt (by assumption) ?_
              refine BlkK.rt (by assumption) ?_
              refine SeqK.rt (by assumption) ?_
              refine FunK.rt (by assumption) rfl ?_
              -- leaf 8
              first
              | rfl
              | (exfalso; omega)
              | (exfalso; have e := pushR_len1 (most := most) (L := g.L) (t := yt) (by omega); omega)
              | (exfalso; have e := pushR_len2 (most := most) (L := g.L) (t := yt) (by omega); omega)
              | (exfalso; have e : g.L.dropLast.length = g.L.length - 1 := List.length_dropLast ..; omega)
              | (exact absurd (congrArg irr (decide_eq_decide.2 (by omega))) hc16)
              | (exfalso; simp_all; done)
            first | replace hc14 := bne_eq_false_iff_eq.1 ((irr_eq _).symm.trans hc14) | simp only [irr_eq, bne_iff_ne, bne_eq_false_iff_eq, ne_eq, decide_eq_true_eq, decide_eq_false_iff_not, Bool.not_eq_true', Bool.not_eq_false'] at hc14
            refine k_skip ?_
            refine BlkK.nx (by assumption) ?_
            refine SeqK.nx (by assumption) ?_
            refine k_lin (fun W K => ?_)
            refine l_op 0 rfl rfl rfl rfl rfl ?_
            (first | refine l_a64 rfl rfl rfl (by omega) rfl ?_ | refine l_a32 rfl rfl rfl (by omega) rfl ?_ | refine l_a8 rfl rfl rfl (by omega) rfl ?_ | refine l_au64 rfl rfl rfl (by omega) rfl ?_ | refine l_op 1 rfl rfl rfl rfl rfl ?_)
            refine l_op 0 rfl rfl rfl rfl rfl ?_
            refine l_nil (WK.nx (by assumption) ?_)
            first
            | (exfalso; omega)
            | (have hg : (g.L.length : Int) + 1 > most := by omega
               have hex : ∃ p ∈ ps, p.2 = (ps.getD i.toNat default).2 := ⟨_, hmem, rfl⟩
               have ho2 := UOK.push1 (x := (ps.getD i.toNat default).2) (y := yt) hok hex (bdS_pl (bdS_pl ⟨⟨hs1, hs2, hs3⟩, hby1, hby2⟩ hw hw1 hw2 hw3) hy2 hy3 hy4 hy5) (hy2.trans hw) (yc := yc) (ra := ra') (rc := rc') hy1 hP hg
               have e1 : g.R.length + 1 - 1 = (g.R ++ [(ps.getD i.toNat default).2]).tail.length := by simp
               have e2 : P' ++ (g.R ++ [(ps.getD i.toNat default).2]) = (P' ++ (g.R ++ [(ps.getD i.toNat default).2]).take 1) ++ (g.R ++ [(ps.getD i.toNat default).2]).tail := by
                 rw [List.append_assoc, ← List.drop_one, List.take_append_drop]
               have e3 : j' + (g.R.length + 1) = (j' + 1) + (g.R ++ [(ps.getD i.toNat default).2]).tail.length := by rw [← e1]; omega
               rw [e2, e3] at F
               rw [shift_shift, e1, show rc' - j' - 1 = rc' - (j' + 1) by omega]
               exact K0.nx (i + 1, (⟨ya, yc, pushR most g.L yt, g.D ++ dS yt, ra', j' + 1, rc', P' ++ (g.R ++ [(ps.getD i.toNat default).2]).take 1, (g.R ++ [(ps.getD i.toNat default).2]).tail⟩ : UG)) (by repeat (first | exact trivial | refine And.intro rfl ?_)) ⟨F.pick [4, 5, 6, 0] (by decide), by omega, by omega, ho2⟩ (by first | omega | (simp only; omega)))
            | (have hg : ¬(g.L.length : Int) + 1 > most := by omega
               have hex : ∃ p ∈ ps, p.2 = (ps.getD i.toNat default).2 := ⟨_, hmem, rfl⟩
               have ho2 := UOK.push2 (x := (ps.getD i.toNat default).2) (y := yt) hok hex (bdS_pl (bdS_pl ⟨⟨hs1, hs2, hs3⟩, hby1, hby2⟩ hw hw1 hw2 hw3) hy2 hy3 hy4 hy5) (hy2.trans hw) (yc := yc) (ra := ra') (rc := rc') hy1 hP hg
               have e1 : g.R.length + 1 = (g.R ++ [(ps.getD i.toNat default).2]).length := by simp
               rw [e1] at F
               rw [e1]
               exact K0.nx (i + 1, (⟨ya, yc, pushR most g.L yt, g.D ++ dS yt, ra', j', rc', P', g.R ++ [(ps.getD i.toNat default).2]⟩ : UG)) (by repeat (first | exact trivial | refine And.intro rfl ?_)) ⟨F.pick [4, 5, 6, 0] (by decide), by omega, by omega, ho2⟩ (by first | omega | (simp only; omega)))
            | (have hg : g.L.length = 0 := by omega
               have e1 : g.L.dropLast = g.L := by rw [List.eq_nil_of_length_eq_zero hg]; rfl
               rw [e1] at F
               exact K0.nx (i + 1, g) (by repeat (first | exact trivial | refine And.intro rfl ?_)) ⟨F.pick [2, 3, 0, 1] (by decide), by omega, by omega, hok⟩ (by first | omega | (simp only; omega)))
            | (have hg : g.L.length ≠ 0 := by omega
               have ho2 := UOK.pop hok
               have e1 : ((g.R.length : Int) - 1).toNat = g.R.dropLast.length := by rw [List.length_dropLast]; omega
               have F2 := F.upto 1 rfl (h := g.j + g.R.dropLast.length) (by rw [List.length_dropLast]; omega)
               have e2 : (rows eS (g.P ++ g.R)).take ((g.j + g.R.dropLast.length) * 4) = rows eS (g.P ++ g.R.dropLast) := by
                 rw [rows_take eS_len, ← hok.pl, List.take_length_add_append, List.length_dropLast, ← List.dropLast_eq_take]
               rw [e2] at F2
               rw [e1]
               exact K0.nx (i + 1, (⟨g.a, g.c, g.L.dropLast, g.D, g.ra, g.j, g.rc, g.P, g.R.dropLast⟩ : UG)) (by repeat (first | exact trivial | refine And.intro rfl ?_)) ⟨F2.pick [2, 3, 0, 1] (by decide), by omega, by omega, ho2⟩ (by first | omega | (simp only; omega)))
          replace hc13 := of_decide_eq_false ((irr_eq _).symm.trans hc13)
          refine k_skip ?_
          refine SeqK.nx (by assumption) ?_
          refine k_seq (fun Q K => ?_)
          refine k_lin (fun W K => ?_)
          refine l_op 0 rfl rfl rfl rfl rfl ?_
          refine l_callp F rfl rfl (by kernel_rfl) rfl rfl (ulen_call (by first | exact OldC.pure (F.cel0 2 rfl) | exact F.cel0 2 rfl | exact F.cel0 4 rfl | exact F.cel0 5 rfl | exact F.cel0 6 rfl)) (fun _ s F _ => ?_)
          (try dsimp only [n_1, n_2, n_3, n_4, List.append_nil, pk, n_5, n_6] at F)
          refine l_op 0 rfl rfl rfl rfl rfl ?_
          first | refine l_op 2 rfl rfl rfl rfl rfl ?_ | refine l_ln rfl rfl rfl rfl ?_
          refine l_cmp rfl rfl rfl rfl ?_
          refine l_nil (WK.nx (by assumption) ?_)
          refine SeqK.nx (by assumption) ?_
          refine l_cond rfl rfl (fun hc15 => ?_) (fun hc15 => ?_)
          · first | replace hc15 := bne_iff_ne.1 ((irr_eq _).symm.trans hc15) | simp only [irr_eq, bne_iff_ne, bne_eq_false_iff_eq, ne_eq, decide_eq_true_eq, decide_eq_false_iff_not, Bool.not_eq_true', Bool.not_eq_false'] at hc15
            refine k_seq (fun Q K => ?_)
            refine k_lin (fun W K => ?_)
            refine l_op 0 rfl rfl rfl rfl rfl ?_
            refine l_nil (WK.nx (by assumption) ?_)
            refine SeqK.nx (by assumption) ?_
            refine k_ret ?_
            refine BlkK.rt (by assumption) ?_
            refine SeqK.rt (by assumption) ?_
            refine LoopK.rt (by assumption) ?_
            refine BlkK.rt (by assumption) ?_
            refine SeqK.rt (by assumption) ?_
            refine FunK.rt (by assumption) rfl ?_
            -- leaf 9
            first
            | rfl
            | (exfalso; omega)
            | (exfalso; have e := pushR_len1 (most := most) (L := g.L) (t := yt) (by omega); omega)
            | (exfalso; have e := pushR_len2 (most := most) (L := g.L) (t := yt) (by omega); omega)
            | (exfalso; have e : g.L.dropLast.length = g.L.length - 1 := List.length_dropLast ..; omega)
            | (exact absurd (congrArg irr (decide_eq_decide.2 (by omega))) hc16)
            | (exfalso; simp_all; done)
          first | replace hc15 := bne_eq_false_iff_eq.1 ((irr_eq _).symm.trans hc15) | simp only [irr_eq, bne_iff_ne, bne_eq_false_iff_eq, ne_eq, decide_eq_true_eq, decide_eq_false_iff_not, Bool.not_eq_true', Bool.not_eq_false'] at hc15
          refine k_skip ?_
          refine BlkK.nx (by assumption) ?_
          refine SeqK.nx (by assumption) ?_
          refine k_lin (fun W K => ?_)
          refine l_op 0 rfl rfl rfl rfl rfl ?_
          (first | refine l_a64 rfl rfl rfl (by omega) rfl ?_ | refine l_a32 rfl rfl rfl (by omega) rfl ?_ | refine l_a8 rfl rfl rfl (by omega) rfl ?_ | refine l_au64 rfl rfl rfl (by omega) rfl ?_ | refine l_op 1 rfl rfl rfl rfl rfl ?_)
          refine l_op 0 rfl rfl rfl rfl rfl ?_
          refine l_nil (WK.nx (by assumption) ?_)
          first
          | (exfalso; omega)
          | (have hg : (g.L.length : Int) + 1 > most := by omega
             have hex : ∃ p ∈ ps, p.2 = (ps.getD i.toNat default).2 := ⟨_, hmem, rfl⟩
             have ho2 := UOK.push1 (x := (ps.getD i.toNat default).2) (y := yt) hok hex (bdS_pl (bdS_pl ⟨⟨hs1, hs2, hs3⟩, hby1, hby2⟩ hw hw1 hw2 hw3) hy2 hy3 hy4 hy5) (hy2.trans hw) (yc := yc) (ra := ra') (rc := rc') hy1 hP hg
             have e1 : g.R.length + 1 - 1 = (g.R ++ [(ps.getD i.toNat default).2]).tail.length := by simp
             have e2 : P' ++ (g.R ++ [(ps.getD i.toNat default).2]) = (P' ++ (g.R ++ [(ps.getD i.toNat default).2]).take 1) ++ (g.R ++ [(ps.getD i.toNat default).2]).tail := by
               rw [List.append_assoc, ← List.drop_one, List.take_append_drop]
             have e3 : j' + (g.R.length + 1) = (j' + 1) + (g.R ++ [(ps.getD i.toNat default).2]).tail.length := by rw [← e1]; omega
             rw [e2, e3] at F
             rw [shift_shift, e1, show rc' - j' - 1 = rc' - (j' + 1) by omega]
             exact K0.nx (i + 1, (⟨ya, yc, pushR most g.L yt, g.D ++ dS yt, ra', j' + 1, rc', P' ++ (g.R ++ [(ps.getD i.toNat default).2]).take 1, (g.R ++ [(ps.getD i.toNat default).2]).tail⟩ : UG)) (by repeat (first | exact trivial | refine And.intro rfl ?_)) ⟨F.pick [4, 5, 6, 0] (by decide), by omega, by omega, ho2⟩ (by first | omega | (simp only; omega)))
          | (have hg : ¬(g.L.length : Int) + 1 > most := by omega
             have hex : ∃ p ∈ ps, p.2 = (ps.getD i.toNat default).2 := ⟨_, hmem, rfl⟩
             have ho2 := UOK.push2 (x := (ps.getD i.toNat default).2) (y := yt) hok hex (bdS_pl (bdS_pl ⟨⟨hs1, hs2, hs3⟩, hby1, hby2⟩ hw hw1 hw2 hw3) hy2 hy3 hy4 hy5) (hy2.trans hw) (yc := yc) (ra := ra') (rc := rc') hy1 hP hg
             have e1 : g.R.length + 1 = (g.R ++ [(ps.getD i.toNat default).2]).length := by simp
             rw [e1] at F
             rw [e1]
             exact K0.nx (i + 1, (⟨ya, yc, pushR most g.L yt, g.D ++ dS yt, ra', j', rc', P', g.R ++ [(ps.getD i.toNat default).2]⟩ : UG)) (by repeat (first | exact trivial | refine And.intro rfl ?_)) ⟨F.pick [4, 5, 6, 0] (by decide), by omega, by omega, ho2⟩ (by first | omega | (simp only; omega)))
          | (have hg : g.L.length = 0 := by omega
             have e1 : g.L.dropLast = g.L := by rw [List.eq_nil_of_length_eq_zero hg]; rfl
             rw [e1] at F
             exact K0.nx (i + 1, g) (by repeat (first | exact trivial | refine And.intro rfl ?_)) ⟨F.pick [2, 3, 0, 1] (by decide), by omega, by omega, hok⟩ (by first | omega | (simp only; omega)))
          | (have hg : g.L.length ≠ 0 := by omega
             have ho2 := UOK.pop hok
             have e1 : ((g.R.length : Int) - 1).toNat = g.R.dropLast.length := by rw [List.length_dropLast]; omega
             have F2 := F.upto 1 rfl (h := g.j + g.R.dropLast.length) (by rw [List.length_dropLast]; omega)
             have e2 : (rows eS (g.P ++ g.R)).take ((g.j + g.R.dropLast.length) * 4) = rows eS (g.P ++ g.R.dropLast) := by
               rw [rows_take eS_len, ← hok.pl, List.take_length_add_append, List.length_dropLast, ← List.dropLast_eq_take]
             rw [e2] at F2
             rw [e1]
             exact K0.nx (i + 1, (⟨g.a, g.c, g.L.dropLast, g.D, g.ra, g.j, g.rc, g.P, g.R.dropLast⟩ : UG)) (by repeat (first | exact trivial | refine And.intro rfl ?_)) ⟨F2.pick [2, 3, 0, 1] (by decide), by omega, by omega, ho2⟩ (by first | omega | (simp only; omega)))
      try simp only [irr_eq, beq_iff_eq, bne_iff_ne, beq_eq_false_iff_ne, bne_eq_false_iff_eq, ne_eq, decide_eq_true_eq, decide_eq_false_iff_not, Bool.not_eq_true', Bool.not_eq_false'] at hc12
      refine k_seq (fun Q K => ?_)
      refine k_lin (fun W K => ?_)
      refine l_op 0 rfl rfl rfl rfl rfl ?_
      refine l_call F [0, 1] [2, 3] (by decide) rfl rfl (by kernel_rfl) rfl rfl (upop_call (F.sub [0, 1] (by decide)) (by omega)) hD (fun _ s F _ => ?_)
      (try dsimp only [n_1, n_2, n_3, n_4, List.append_nil, pk, n_5, n_6] at F)
      refine l_op 0 rfl rfl rfl rfl rfl ?_
      refine l_op 2 rfl rfl rfl rfl rfl ?_
      refine l_op 2 rfl rfl rfl rfl rfl ?_
      refine l_al F rfl rfl rfl rfl (fun q13 s F => ?_)
      (try dsimp only [n_1, n_2, n_3, n_4, List.append_nil, pk, n_5, n_6] at F)
      (first | refine l_stc F 0 rfl rfl rfl rfl rfl rfl rfl rfl rfl hD (fun s F => ?_) | refine l_stc F 1 rfl rfl rfl rfl rfl rfl rfl rfl rfl hD (fun s F => ?_) | refine l_stc F 2 rfl rfl rfl rfl rfl rfl rfl rfl rfl hD (fun s F => ?_) | refine l_stc F 3 rfl rfl rfl rfl rfl rfl rfl rfl rfl hD (fun s F => ?_) | refine l_stc F 4 rfl rfl rfl rfl rfl rfl rfl rfl rfl hD (fun s F => ?_) | refine l_stc F 5 rfl rfl rfl rfl rfl rfl rfl rfl rfl hD (fun s F => ?_) | refine l_stc F 6 rfl rfl rfl rfl rfl rfl rfl rfl rfl hD (fun s F => ?_) | refine l_stc F 7 rfl rfl rfl rfl rfl rfl rfl rfl rfl hD (fun s F => ?_) | refine l_stc F 8 rfl rfl rfl rfl rfl rfl rfl rfl rfl hD (fun s F => ?_) | refine l_stc F 9 rfl rfl rfl rfl rfl rfl rfl rfl rfl hD (fun s F => ?_) | refine l_stca F 0 rfl rfl rfl rfl rfl rfl rfl rfl rfl rfl hD rfl (fun s F => ?_) | refine l_stca F 1 rfl rfl rfl rfl rfl rfl rfl rfl rfl rfl hD rfl (fun s F => ?_) | refine l_stca F 2 rfl rfl rfl rfl rfl rfl rfl rfl rfl rfl hD rfl (fun s F => ?_) | refine l_stca F 3 rfl rfl rfl rfl rfl rfl rfl rfl rfl rfl hD rfl (fun s F => ?_) | refine l_stca F 4 rfl rfl rfl rfl rfl rfl rfl rfl rfl rfl hD rfl (fun s F => ?_) | refine l_stca F 5 rfl rfl rfl rfl rfl rfl rfl rfl rfl rfl hD rfl (fun s F => ?_) | refine l_stca F 6 rfl rfl rfl rfl rfl rfl rfl rfl rfl rfl hD rfl (fun s F => ?_) | refine l_stca F 7 rfl rfl rfl rfl rfl rfl rfl rfl rfl rfl hD rfl (fun s F => ?_) | refine l_stca F 8 rfl rfl rfl rfl rfl rfl rfl rfl rfl rfl hD rfl (fun s F => ?_) | refine l_stca F 9 rfl rfl rfl rfl rfl rfl rfl rfl rfl rfl hD rfl (fun s F => ?_) | refine l_stoi F 0 rfl rfl rfl rfl rfl rfl rfl (by omega) hD (fun s F => ?_) | refine l_stoi F 1 rfl rfl rfl rfl rfl rfl rfl (by omega) hD (fun s F => ?_) | refine l_stoi F 2 rfl rfl rfl rfl rfl rfl rfl (by omega) hD (fun s F => ?_) | refine l_stoi F 3 rfl rfl rfl rfl rfl rfl rfl (by omega) hD (fun s F => ?_) | refine l_stoi F 4 rfl rfl rfl rfl rfl rfl rfl (by omega) hD (fun s F => ?_) | refine l_stoi F 5 rfl rfl rfl rfl rfl rfl rfl (by omega) hD (fun s F => ?_) | refine l_stoi F 6 rfl rfl rfl rfl rfl rfl rfl (by omega) hD (fun s F => ?_) | refine l_stoi F 7 rfl rfl rfl rfl rfl rfl rfl (by omega) hD (fun s F => ?_) | refine l_stoi F 8 rfl rfl rfl rfl rfl rfl rfl (by omega) hD (fun s F => ?_) | refine l_stoi F 9 rfl rfl rfl rfl rfl rfl rfl (by omega) hD (fun s F => ?_))
      (try dsimp only [n_1, n_2, n_3, n_4, List.append_nil, pk, n_5, n_6] at F)
      refine l_op 0 rfl rfl rfl rfl rfl ?_
      refine l_nil (WK.nx (by assumption) ?_)
      refine SeqK.nx (by assumption) ?_
      refine k_seq (fun Q K => ?_)
      refine k_seq (fun Q K => ?_)
      refine k_lin (fun W K => ?_)
      refine l_op 0 rfl rfl rfl rfl rfl ?_
      refine l_op 0 rfl rfl rfl rfl rfl ?_
      first | refine l_op 2 rfl rfl rfl rfl rfl ?_ | refine l_ln rfl rfl rfl rfl ?_
      refine l_cmp rfl rfl rfl rfl ?_
      refine l_cmp rfl rfl rfl rfl ?_
      refine l_op 0 rfl rfl rfl rfl rfl ?_
      refine l_guard rfl rfl rfl (fun hc16 => ?_) (fun hc16 => ?_)
      · first | replace hc16 := bne_iff_ne.1 ((irr_eq _).symm.trans hc16) | simp only [irr_eq, bne_iff_ne, bne_eq_false_iff_eq, ne_eq, decide_eq_true_eq, decide_eq_false_iff_not, Bool.not_eq_true', Bool.not_eq_false'] at hc16
        refine l_s rfl rfl ?_
        refine l_s rfl rfl ?_
        refine l_s rfl rfl ?_
        refine l_s rfl rfl ?_
        refine l_s rfl rfl ?_
        refine l_s rfl rfl ?_
        refine l_s rfl rfl ?_
        refine l_s rfl rfl ?_
        refine l_op 2 rfl rfl rfl rfl rfl ?_
        refine l_nil (WK.nx (by assumption) ?_)
        refine SeqK.nx (by assumption) ?_
        first | refine e_cond_t rfl rfl rfl ?_ | refine e_cond_t rfl rfl (by rw [irr_eq]; first | exact beq_iff_eq.2 (by assumption) | exact decide_eq_true (by assumption) | exact bne_iff_ne.2 (by assumption)) ?_
        refine k_seq (fun Q K => ?_)
        refine k_lin (fun W K => ?_)
        refine l_op 0 rfl rfl rfl rfl rfl ?_
        refine l_nil (WK.nx (by assumption) ?_)
        refine SeqK.nx (by assumption) ?_
        refine k_ret ?_
        refine SeqK.rt (by assumption) ?_
        refine SeqK.rt (by assumption) ?_
        refine BlkK.rt (by assumption) ?_
        refine SeqK.rt (by assumption) ?_
        refine LoopK.rt (by assumption) ?_
        refine BlkK.rt (by assumption) ?_
        refine SeqK.rt (by assumption) ?_
        refine FunK.rt (by assumption) rfl ?_
        -- leaf 10
        first
        | rfl
        | (exfalso; omega)
        | (exfalso; have e := pushR_len1 (most := most) (L := g.L) (t := yt) (by omega); omega)
        | (exfalso; have e := pushR_len2 (most := most) (L := g.L) (t := yt) (by omega); omega)
        | (exfalso; have e : g.L.dropLast.length = g.L.length - 1 := List.length_dropLast ..; omega)
        | (exact absurd (congrArg irr (decide_eq_decide.2 (by omega))) hc16)
        | (exfalso; simp_all; done)
      first | replace hc16 := bne_eq_false_iff_eq.1 ((irr_eq _).symm.trans hc16) | simp only [irr_eq, bne_iff_ne, bne_eq_false_iff_eq, ne_eq, decide_eq_true_eq, decide_eq_false_iff_not, Bool.not_eq_true', Bool.not_eq_false'] at hc16
      refine l_op 0 rfl rfl rfl rfl rfl ?_
      refine l_op 2 rfl rfl rfl rfl rfl ?_
      refine l_op 0 rfl rfl rfl rfl rfl ?_
      refine l_guard rfl rfl rfl (fun hc17 => ?_) (fun hc17 => ?_)
      · try simp only [irr_eq, beq_iff_eq, bne_iff_ne, beq_eq_false_iff_ne, bne_eq_false_iff_eq, ne_eq, decide_eq_true_eq, decide_eq_false_iff_not, Bool.not_eq_true', Bool.not_eq_false'] at hc17
        (first | refine l_ld0 rfl rfl rfl rfl rfl (by assumption) ?_ | refine l_ldj rfl rfl rfl rfl rfl rfl (by assumption) rfl ?_ | refine l_ldc F 0 rfl rfl rfl rfl rfl rfl rfl ?_ | refine l_ldc F 1 rfl rfl rfl rfl rfl rfl rfl ?_ | refine l_ldc F 2 rfl rfl rfl rfl rfl rfl rfl ?_ | refine l_ldc F 3 rfl rfl rfl rfl rfl rfl rfl ?_ | refine l_ldc F 4 rfl rfl rfl rfl rfl rfl rfl ?_ | refine l_ldc F 5 rfl rfl rfl rfl rfl rfl rfl ?_ | refine l_ldc F 6 rfl rfl rfl rfl rfl rfl rfl ?_ | refine l_ldc F 7 rfl rfl rfl rfl rfl rfl rfl ?_ | refine l_ldc F 8 rfl rfl rfl rfl rfl rfl rfl ?_ | refine l_ldc F 9 rfl rfl rfl rfl rfl rfl rfl ?_ | refine l_lda rfl rfl rfl rfl rfl (by assumption) ?_ | refine l_ldca F 0 rfl rfl rfl rfl rfl rfl rfl ?_ | refine l_ldca F 1 rfl rfl rfl rfl rfl rfl rfl ?_ | refine l_ldca F 2 rfl rfl rfl rfl rfl rfl rfl ?_ | refine l_ldca F 3 rfl rfl rfl rfl rfl rfl rfl ?_ | refine l_ldca F 4 rfl rfl rfl rfl rfl rfl rfl ?_ | refine l_ldca F 5 rfl rfl rfl rfl rfl rfl rfl ?_ | refine l_ldca F 6 rfl rfl rfl rfl rfl rfl rfl ?_ | refine l_ldca F 7 rfl rfl rfl rfl rfl rfl rfl ?_ | refine l_ldca F 8 rfl rfl rfl rfl rfl rfl rfl ?_ | refine l_ldca F 9 rfl rfl rfl rfl rfl rfl rfl ?_ | refine l_ldo F (by assumption) rfl rfl rfl rfl rfl rfl ?_ | refine l_ldoa F (by assumption) rfl rfl rfl rfl rfl rfl ?_)
        refine l_bld rfl rfl rfl rfl ?_
        have hz : popT g.L = zS := by
          unfold popT
          rw [if_pos (by omega)]
        rw [hz]
        refine l_callp F rfl rfl (by kernel_rfl) rfl rfl (same17_call (t := zS) (u := zS) oldS_z oldS_z byS_z byS_z) (fun z s F hz2 => ?_)
        obtain rfl : z = true := hz2.2 rfl
        refine l_op 2 rfl rfl rfl rfl rfl ?_
        refine l_op 2 rfl rfl rfl rfl rfl ?_
        refine l_op 2 rfl rfl rfl rfl rfl ?_
        refine l_nil (WK.nx (by assumption) ?_)
        refine SeqK.nx (by assumption) ?_
        refine l_cond rfl rfl (fun hc18 => ?_) (fun hc18 => ?_)
        · try simp only [irr_eq, beq_iff_eq, bne_iff_ne, beq_eq_false_iff_ne, bne_eq_false_iff_eq, ne_eq, decide_eq_true_eq, decide_eq_false_iff_not, Bool.not_eq_true', Bool.not_eq_false'] at hc18
          refine k_seq (fun Q K => ?_)
          refine k_lin (fun W K => ?_)
          refine l_op 0 rfl rfl rfl rfl rfl ?_
          refine l_nil (WK.nx (by assumption) ?_)
          refine SeqK.nx (by assumption) ?_
          refine k_ret ?_
          refine SeqK.rt (by assumption) ?_
          refine SeqK.rt (by assumption) ?_
          refine BlkK.rt (by assumption) ?_
          refine SeqK.rt (by assumption) ?_
          refine LoopK.rt (by assumption) ?_
          refine BlkK.rt (by assumption) ?_
          refine SeqK.rt (by assumption) ?_
          refine FunK.rt (by assumption) rfl ?_
          -- leaf 11
          first
          | rfl
          | (exfalso; omega)
          | (exfalso; have e := pushR_len1 (most := most) (L := g.L) (t := yt) (by omega); omega)
          | (exfalso; have e := pushR_len2 (most := most) (L := g.L) (t := yt) (by omega); omega)
          | (exfalso; have e : g.L.dropLast.length = g.L.length - 1 := List.length_dropLast ..; omega)
          | (exact absurd (congrArg irr (decide_eq_decide.2 (by omega))) hc16)
          | (exfalso; simp_all; done)
        try simp only [irr_eq, beq_iff_eq, bne_iff_ne, beq_eq_false_iff_ne, bne_eq_false_iff_eq, ne_eq, decide_eq_true_eq, decide_eq_false_iff_not, Bool.not_eq_true', Bool.not_eq_false'] at hc18
        refine k_skip ?_
        refine SeqK.nx (by assumption) ?_
        refine k_seq (fun Q K => ?_)
        refine k_lin (fun W K => ?_)
        refine l_op 0 rfl rfl rfl rfl rfl ?_
        refine l_nil (WK.nx (by assumption) ?_)
        refine SeqK.nx (by assumption) ?_
        refine l_cond rfl rfl (fun hc19 => ?_) (fun hc19 => ?_)
        · try simp only [irr_eq, beq_iff_eq, bne_iff_ne, beq_eq_false_iff_ne, bne_eq_false_iff_eq, ne_eq, decide_eq_true_eq, decide_eq_false_iff_not, Bool.not_eq_true', Bool.not_eq_false'] at hc19
          refine k_seq (fun Q K => ?_)
          refine k_seq (fun Q K => ?_)
          refine k_linm [1, 2, 3, 4, 5, 0, 6, 7, 8] mixed (by kernel_rfl) (fun W K => ?_)
          try have hpS := F.pns
          refine l_op 0 rfl rfl rfl rfl rfl ?_
          refine l_op 0 rfl rfl rfl rfl rfl ?_
          first | refine l_op 2 rfl rfl rfl rfl rfl ?_ | refine l_ln rfl rfl rfl rfl ?_
          (first | refine l_a64 rfl rfl rfl (by omega) rfl ?_ | refine l_a32 rfl rfl rfl (by omega) rfl ?_ | refine l_a8 rfl rfl rfl (by omega) rfl ?_ | refine l_au64 rfl rfl rfl (by omega) rfl ?_ | refine l_op 1 rfl rfl rfl rfl rfl ?_)
          refine l_ixr (e := eS) rfl rfl rfl rfl rfl rfl (has_row F 1 rfl hok.pl) ⟨eS_len, by decide⟩ (by omega) (fun m163 b163 hA163 => ?_)
          (first | refine l_ld0 rfl rfl rfl rfl rfl (by assumption) ?_ | refine l_ldj rfl rfl rfl rfl rfl rfl (by assumption) rfl ?_ | refine l_ldc F 0 rfl rfl rfl rfl rfl rfl rfl ?_ | refine l_ldc F 1 rfl rfl rfl rfl rfl rfl rfl ?_ | refine l_ldc F 2 rfl rfl rfl rfl rfl rfl rfl ?_ | refine l_ldc F 3 rfl rfl rfl rfl rfl rfl rfl ?_ | refine l_ldc F 4 rfl rfl rfl rfl rfl rfl rfl ?_ | refine l_ldc F 5 rfl rfl rfl rfl rfl rfl rfl ?_ | refine l_ldc F 6 rfl rfl rfl rfl rfl rfl rfl ?_ | refine l_ldc F 7 rfl rfl rfl rfl rfl rfl rfl ?_ | refine l_ldc F 8 rfl rfl rfl rfl rfl rfl rfl ?_ | refine l_ldc F 9 rfl rfl rfl rfl rfl rfl rfl ?_ | refine l_lda rfl rfl rfl rfl rfl (by assumption) ?_ | refine l_ldca F 0 rfl rfl rfl rfl rfl rfl rfl ?_ | refine l_ldca F 1 rfl rfl rfl rfl rfl rfl rfl ?_ | refine l_ldca F 2 rfl rfl rfl rfl rfl rfl rfl ?_ | refine l_ldca F 3 rfl rfl rfl rfl rfl rfl rfl ?_ | refine l_ldca F 4 rfl rfl rfl rfl rfl rfl rfl ?_ | refine l_ldca F 5 rfl rfl rfl rfl rfl rfl rfl ?_ | refine l_ldca F 6 rfl rfl rfl rfl rfl rfl rfl ?_ | refine l_ldca F 7 rfl rfl rfl rfl rfl rfl rfl ?_ | refine l_ldca F 8 rfl rfl rfl rfl rfl rfl rfl ?_ | refine l_ldca F 9 rfl rfl rfl rfl rfl rfl rfl ?_ | refine l_ldo F (by assumption) rfl rfl rfl rfl rfl rfl ?_ | refine l_ldoa F (by assumption) rfl rfl rfl rfl rfl rfl ?_)
          first | have hpS := PnS.add hpS hS13 | have hpS := PnS.add hpS (OldC.sf (by assumption)) | skip
          (first | refine l_ld0 rfl rfl rfl rfl rfl (by assumption) ?_ | refine l_ldj rfl rfl rfl rfl rfl rfl (by assumption) rfl ?_ | refine l_ldc F 0 rfl rfl rfl rfl rfl rfl rfl ?_ | refine l_ldc F 1 rfl rfl rfl rfl rfl rfl rfl ?_ | refine l_ldc F 2 rfl rfl rfl rfl rfl rfl rfl ?_ | refine l_ldc F 3 rfl rfl rfl rfl rfl rfl rfl ?_ | refine l_ldc F 4 rfl rfl rfl rfl rfl rfl rfl ?_ | refine l_ldc F 5 rfl rfl rfl rfl rfl rfl rfl ?_ | refine l_ldc F 6 rfl rfl rfl rfl rfl rfl rfl ?_ | refine l_ldc F 7 rfl rfl rfl rfl rfl rfl rfl ?_ | refine l_ldc F 8 rfl rfl rfl rfl rfl rfl rfl ?_ | refine l_ldc F 9 rfl rfl rfl rfl rfl rfl rfl ?_ | refine l_lda rfl rfl rfl rfl rfl (by assumption) ?_ | refine l_ldca F 0 rfl rfl rfl rfl rfl rfl rfl ?_ | refine l_ldca F 1 rfl rfl rfl rfl rfl rfl rfl ?_ | refine l_ldca F 2 rfl rfl rfl rfl rfl rfl rfl ?_ | refine l_ldca F 3 rfl rfl rfl rfl rfl rfl rfl ?_ | refine l_ldca F 4 rfl rfl rfl rfl rfl rfl rfl ?_ | refine l_ldca F 5 rfl rfl rfl rfl rfl rfl rfl ?_ | refine l_ldca F 6 rfl rfl rfl rfl rfl rfl rfl ?_ | refine l_ldca F 7 rfl rfl rfl rfl rfl rfl rfl ?_ | refine l_ldca F 8 rfl rfl rfl rfl rfl rfl rfl ?_ | refine l_ldca F 9 rfl rfl rfl rfl rfl rfl rfl ?_ | refine l_ldo F (by assumption) rfl rfl rfl rfl rfl rfl ?_ | refine l_ldoa F (by assumption) rfl rfl rfl rfl rfl rfl ?_)
          first | have hpS := PnS.add hpS hS163 | have hpS := PnS.add hpS (OldC.sf (by assumption)) | skip
          have hz : popT g.L = g.L.getD (g.L.length - 1) default := by
            unfold popT
            rw [if_neg (by omega)]
          have hmL : g.L.getD (g.L.length - 1) default ∈ g.L := by
            simp only [List.getD, List.getElem?_eq_getElem (show g.L.length - 1 < g.L.length by omega), Option.getD_some]; exact List.getElem_mem _
          have hmR : g.R.getD ((g.R.length : Int) - 1).toNat default ∈ g.R := by
            simp only [List.getD, List.getElem?_eq_getElem (show ((g.R.length : Int) - 1).toNat < g.R.length by omega), Option.getD_some]; exact List.getElem_mem _
          obtain ⟨p, hp, hpe⟩ := hok.from_ _ hmR
          have hpl2 : plS (g.L.getD (g.L.length - 1) default) = plS (g.R.getD ((g.R.length : Int) - 1).toNat default) := by
            have e := congrArg (fun z => z[g.L.length - 1]?) hok.same
            simp only [List.getElem?_map, List.getElem?_eq_getElem (show g.L.length - 1 < g.L.length by omega), List.getElem?_eq_getElem (show g.L.length - 1 < g.R.length by omega), Option.map_some] at e
            have e2 : ((g.R.length : Int) - 1).toNat = g.L.length - 1 := by omega
            rw [e2]
            simp only [List.getD, List.getElem?_eq_getElem (show g.L.length - 1 < g.L.length by omega), List.getElem?_eq_getElem (show g.L.length - 1 < g.R.length by omega), Option.getD_some]
            exact Option.some.inj e
          rw [hz]
          refine l_rs (by kernel_rfl) ?_
          refine l_callp F rfl rfl (by kernel_rfl) rfl rfl (same17_call (t := g.L.getD (g.L.length - 1) default) (u := g.R.getD ((g.R.length : Int) - 1).toNat default) (oldS_in F 0 rfl hok.inD hmL (hok.bd _ hmL)) (by rw [← hpe]; exact ⟨Old.pure (F.old (h.m p hp)), Old.pure (F.old (h.b p hp)), Old.pure (F.old (h.s p hp)), (hbd p hp).1⟩) (hok.bd _ hmL).2 (by rw [← hpe]; exact (hbd p hp).2)) (fun z s F hz2 => ?_)
          obtain rfl : z = true := hz2.2 hpl2
          refine l_op 2 rfl rfl rfl rfl rfl ?_
          refine l_nil (WK.nx (by assumption) ?_)
          refine SeqK.nx (by assumption) ?_
          refine l_cond rfl rfl (fun hc20 => ?_) (fun hc20 => ?_)
          · try simp only [irr_eq, beq_iff_eq, bne_iff_ne, beq_eq_false_iff_ne, bne_eq_false_iff_eq, ne_eq, decide_eq_true_eq, decide_eq_false_iff_not, Bool.not_eq_true', Bool.not_eq_false'] at hc20
            refine k_seq (fun Q K => ?_)
            refine k_lin (fun W K => ?_)
            refine l_op 0 rfl rfl rfl rfl rfl ?_
            refine l_nil (WK.nx (by assumption) ?_)
            refine SeqK.nx (by assumption) ?_
            refine k_ret ?_
            refine SeqK.rt (by assumption) ?_
            refine SeqK.rt (by assumption) ?_
            refine BlkK.rt (by assumption) ?_
            refine SeqK.rt (by assumption) ?_
            refine LoopK.rt (by assumption) ?_
            refine BlkK.rt (by assumption) ?_
            refine SeqK.rt (by assumption) ?_
            refine FunK.rt (by assumption) rfl ?_
            -- leaf 12
            first
            | rfl
            | (exfalso; omega)
            | (exfalso; have e := pushR_len1 (most := most) (L := g.L) (t := yt) (by omega); omega)
            | (exfalso; have e := pushR_len2 (most := most) (L := g.L) (t := yt) (by omega); omega)
            | (exfalso; have e : g.L.dropLast.length = g.L.length - 1 := List.length_dropLast ..; omega)
            | (exact absurd (congrArg irr (decide_eq_decide.2 (by omega))) hc16)
            | (exfalso; simp_all; done)
          try simp only [irr_eq, beq_iff_eq, bne_iff_ne, beq_eq_false_iff_ne, bne_eq_false_iff_eq, ne_eq, decide_eq_true_eq, decide_eq_false_iff_not, Bool.not_eq_true', Bool.not_eq_false'] at hc20
          refine k_skip ?_
          refine SeqK.nx (by assumption) ?_
          refine k_lin (fun W K => ?_)
          refine l_op 0 rfl rfl rfl rfl rfl ?_
          refine l_op 0 rfl rfl rfl rfl rfl ?_
          first | refine l_op 2 rfl rfl rfl rfl rfl ?_ | refine l_ln rfl rfl rfl rfl ?_
          (first | refine l_a64 rfl rfl rfl (by omega) rfl ?_ | refine l_a32 rfl rfl rfl (by omega) rfl ?_ | refine l_a8 rfl rfl rfl (by omega) rfl ?_ | refine l_au64 rfl rfl rfl (by omega) rfl ?_ | refine l_op 1 rfl rfl rfl rfl rfl ?_)
          refine l_slh rfl rfl rfl rfl rfl ⟨rfl, _, _, rfl, by omega, rfl⟩ (has_row F 1 rfl hok.pl) (by omega) ?_
          refine l_op 0 rfl rfl rfl rfl rfl ?_
          refine l_nil (WK.nx (by assumption) ?_)
          refine SeqK.nx (by assumption) ?_
          refine k_seq (fun Q K => ?_)
          refine k_lin (fun W K => ?_)
          refine l_op 0 rfl rfl rfl rfl rfl ?_
          refine l_callp F rfl rfl (by kernel_rfl) rfl rfl (ulen_call (by first | exact OldC.pure (F.cel0 2 rfl) | exact F.cel0 2 rfl | exact F.cel0 4 rfl | exact F.cel0 5 rfl | exact F.cel0 6 rfl)) (fun _ s F _ => ?_)
          (try dsimp only [n_1, n_2, n_3, n_4, List.append_nil, pk, n_5, n_6] at F)
          refine l_op 0 rfl rfl rfl rfl rfl ?_
          first | refine l_op 2 rfl rfl rfl rfl rfl ?_ | refine l_ln rfl rfl rfl rfl ?_
          refine l_cmp rfl rfl rfl rfl ?_
          refine l_nil (WK.nx (by assumption) ?_)
          refine SeqK.nx (by assumption) ?_
          refine l_cond rfl rfl (fun hc21 => ?_) (fun hc21 => ?_)
          · first | replace hc21 := bne_iff_ne.1 ((irr_eq _).symm.trans hc21) | simp only [irr_eq, bne_iff_ne, bne_eq_false_iff_eq, ne_eq, decide_eq_true_eq, decide_eq_false_iff_not, Bool.not_eq_true', Bool.not_eq_false'] at hc21
            refine k_seq (fun Q K => ?_)
            refine k_lin (fun W K => ?_)
            refine l_op 0 rfl rfl rfl rfl rfl ?_
            refine l_nil (WK.nx (by assumption) ?_)
            refine SeqK.nx (by assumption) ?_
            refine k_ret ?_
            refine BlkK.rt (by assumption) ?_
            refine SeqK.rt (by assumption) ?_
            refine LoopK.rt (by assumption) ?_
            refine BlkK.rt (by assumption) ?_
            refine SeqK.rt (by assumption) ?_
            refine FunK.rt (by assumption) rfl ?_
            -- leaf 13
            first
            | rfl
            | (exfalso; omega)
            | (exfalso; have e := pushR_len1 (most := most) (L := g.L) (t := yt) (by omega); omega)
            | (exfalso; have e := pushR_len2 (most := most) (L := g.L) (t := yt) (by omega); omega)
            | (exfalso; have e : g.L.dropLast.length = g.L.length - 1 := List.length_dropLast ..; omega)
            | (exact absurd (congrArg irr (decide_eq_decide.2 (by omega))) hc16)
            | (exfalso; simp_all; done)
          first | replace hc21 := bne_eq_false_iff_eq.1 ((irr_eq _).symm.trans hc21) | simp only [irr_eq, bne_iff_ne, bne_eq_false_iff_eq, ne_eq, decide_eq_true_eq, decide_eq_false_iff_not, Bool.not_eq_true', Bool.not_eq_false'] at hc21
          refine k_skip ?_
          refine BlkK.nx (by assumption) ?_
          refine SeqK.nx (by assumption) ?_
          refine k_lin (fun W K => ?_)
          refine l_op 0 rfl rfl rfl rfl rfl ?_
          (first | refine l_a64 rfl rfl rfl (by omega) rfl ?_ | refine l_a32 rfl rfl rfl (by omega) rfl ?_ | refine l_a8 rfl rfl rfl (by omega) rfl ?_ | refine l_au64 rfl rfl rfl (by omega) rfl ?_ | refine l_op 1 rfl rfl rfl rfl rfl ?_)
          refine l_op 0 rfl rfl rfl rfl rfl ?_
          refine l_nil (WK.nx (by assumption) ?_)
          first
          | (exfalso; omega)
          | (have hg : (g.L.length : Int) + 1 > most := by omega
             have hex : ∃ p ∈ ps, p.2 = (ps.getD i.toNat default).2 := ⟨_, hmem, rfl⟩
             have ho2 := UOK.push1 (x := (ps.getD i.toNat default).2) (y := yt) hok hex (bdS_pl (bdS_pl ⟨⟨hs1, hs2, hs3⟩, hby1, hby2⟩ hw hw1 hw2 hw3) hy2 hy3 hy4 hy5) (hy2.trans hw) (yc := yc) (ra := ra') (rc := rc') hy1 hP hg
             have e1 : g.R.length + 1 - 1 = (g.R ++ [(ps.getD i.toNat default).2]).tail.length := by simp
             have e2 : P' ++ (g.R ++ [(ps.getD i.toNat default).2]) = (P' ++ (g.R ++ [(ps.getD i.toNat default).2]).take 1) ++ (g.R ++ [(ps.getD i.toNat default).2]).tail := by
               rw [List.append_assoc, ← List.drop_one, List.take_append_drop]
             have e3 : j' + (g.R.length + 1) = (j' + 1) + (g.R ++ [(ps.getD i.toNat default).2]).tail.length := by rw [← e1]; omega
             rw [e2, e3] at F
             rw [shift_shift, e1, show rc' - j' - 1 = rc' - (j' + 1) by omega]
             exact K0.nx (i + 1, (⟨ya, yc, pushR most g.L yt, g.D ++ dS yt, ra', j' + 1, rc', P' ++ (g.R ++ [(ps.getD i.toNat default).2]).take 1, (g.R ++ [(ps.getD i.toNat default).2]).tail⟩ : UG)) (by repeat (first | exact trivial | refine And.intro rfl ?_)) ⟨F.pick [4, 5, 6, 0] (by decide), by omega, by omega, ho2⟩ (by first | omega | (simp only; omega)))
          | (have hg : ¬(g.L.length : Int) + 1 > most := by omega
             have hex : ∃ p ∈ ps, p.2 = (ps.getD i.toNat default).2 := ⟨_, hmem, rfl⟩
             have ho2 := UOK.push2 (x := (ps.getD i.toNat default).2) (y := yt) hok hex (bdS_pl (bdS_pl ⟨⟨hs1, hs2, hs3⟩, hby1, hby2⟩ hw hw1 hw2 hw3) hy2 hy3 hy4 hy5) (hy2.trans hw) (yc := yc) (ra := ra') (rc := rc') hy1 hP hg
             have e1 : g.R.length + 1 = (g.R ++ [(ps.getD i.toNat default).2]).length := by simp
             rw [e1] at F
             rw [e1]
             exact K0.nx (i + 1, (⟨ya, yc, pushR most g.L yt, g.D ++ dS yt, ra', j', rc', P', g.R ++ [(ps.getD i.toNat default).2]⟩ : UG)) (by repeat (first | exact trivial | refine And.intro rfl ?_)) ⟨F.pick [4, 5, 6, 0] (by decide), by omega, by omega, ho2⟩ (by first | omega | (simp only; omega)))
          | (have hg : g.L.length = 0 := by omega
             have e1 : g.L.dropLast = g.L := by rw [List.eq_nil_of_length_eq_zero hg]; rfl
             rw [e1] at F
             exact K0.nx (i + 1, g) (by repeat (first | exact trivial | refine And.intro rfl ?_)) ⟨F.pick [2, 3, 0, 1] (by decide), by omega, by omega, hok⟩ (by first | omega | (simp only; omega)))
          | (have hg : g.L.length ≠ 0 := by omega
             have ho2 := UOK.pop hok
             have e1 : ((g.R.length : Int) - 1).toNat = g.R.dropLast.length := by rw [List.length_dropLast]; omega
             have F2 := F.upto 1 rfl (h := g.j + g.R.dropLast.length) (by rw [List.length_dropLast]; omega)
             have e2 : (rows eS (g.P ++ g.R)).take ((g.j + g.R.dropLast.length) * 4) = rows eS (g.P ++ g.R.dropLast) := by
               rw [rows_take eS_len, ← hok.pl, List.take_length_add_append, List.length_dropLast, ← List.dropLast_eq_take]
             rw [e2] at F2
             rw [e1]
             exact K0.nx (i + 1, (⟨g.a, g.c, g.L.dropLast, g.D, g.ra, g.j, g.rc, g.P, g.R.dropLast⟩ : UG)) (by repeat (first | exact trivial | refine And.intro rfl ?_)) ⟨F2.pick [2, 3, 0, 1] (by decide), by omega, by omega, ho2⟩ (by first | omega | (simp only; omega)))
        try simp only [irr_eq, beq_iff_eq, bne_iff_ne, beq_eq_false_iff_ne, bne_eq_false_iff_eq, ne_eq, decide_eq_true_eq, decide_eq_false_iff_not, Bool.not_eq_true', Bool.not_eq_false'] at hc19
        refine k_skip ?_
        refine SeqK.nx (by assumption) ?_
        refine k_seq (fun Q K => ?_)
        refine k_lin (fun W K => ?_)
        refine l_op 0 rfl rfl rfl rfl rfl ?_
        refine l_callp F rfl rfl (by kernel_rfl) rfl rfl (ulen_call (by first | exact OldC.pure (F.cel0 2 rfl) | exact F.cel0 2 rfl | exact F.cel0 4 rfl | exact F.cel0 5 rfl | exact F.cel0 6 rfl)) (fun _ s F _ => ?_)
        (try dsimp only [n_1, n_2, n_3, n_4, List.append_nil, pk, n_5, n_6] at F)
        refine l_op 0 rfl rfl rfl rfl rfl ?_
        first | refine l_op 2 rfl rfl rfl rfl rfl ?_ | refine l_ln rfl rfl rfl rfl ?_
        refine l_cmp rfl rfl rfl rfl ?_
        refine l_nil (WK.nx (by assumption) ?_)
        refine SeqK.nx (by assumption) ?_
        refine l_cond rfl rfl (fun hc22 => ?_) (fun hc22 => ?_)
        · first | replace hc22 := bne_iff_ne.1 ((irr_eq _).symm.trans hc22) | simp only [irr_eq, bne_iff_ne, bne_eq_false_iff_eq, ne_eq, decide_eq_true_eq, decide_eq_false_iff_not, Bool.not_eq_true', Bool.not_eq_false'] at hc22
          refine k_seq (fun Q K => ?_)
          refine k_lin (fun W K => ?_)
          refine l_op 0 rfl rfl rfl rfl rfl ?_
          refine l_nil (WK.nx (by assumption) ?_)
          refine SeqK.nx (by assumption) ?_
          refine k_ret ?_
          refine BlkK.rt (by assumption) ?_
          refine SeqK.rt (by assumption) ?_
          refine LoopK.rt (by assumption) ?_
          refine BlkK.rt (by assumption) ?_
          refine SeqK.rt (by assumption) ?_
          refine FunK.rt (by assumption) rfl ?_
          -- leaf 14
          first
          | rfl
          | (exfalso; omega)
          | (exfalso; have e := pushR_len1 (most := most) (L := g.L) (t := yt) (by omega); omega)
          | (exfalso; have e := pushR_len2 (most := most) (L := g.L) (t := yt) (by omega); omega)
          | (exfalso; have e : g.L.dropLast.length = g.L.length - 1 := List.length_dropLast ..; omega)
          | (exact absurd (congrArg irr (decide_eq_decide.2 (by omega))) hc16)
          | (exfalso; simp_all; done)
        first | replace hc22 := bne_eq_false_iff_eq.1 ((irr_eq _).symm.trans hc22) | simp only [irr_eq, bne_iff_ne, bne_eq_false_iff_eq, ne_eq, decide_eq_true_eq, decide_eq_false_iff_not, Bool.not_eq_true', Bool.not_eq_false'] at hc22
        refine k_skip ?_
        refine BlkK.nx (by assumption) ?_
        refine SeqK.nx (by assumption) ?_
        refine k_lin (fun W K => ?_)
        refine l_op 0 rfl rfl rfl rfl rfl ?_
        (first | refine l_a64 rfl rfl rfl (by omega) rfl ?_ | refine l_a32 rfl rfl rfl (by omega) rfl ?_ | refine l_a8 rfl rfl rfl (by omega) rfl ?_ | refine l_au64 rfl rfl rfl (by omega) rfl ?_ | refine l_op 1 rfl rfl rfl rfl rfl ?_)
        refine l_op 0 rfl rfl rfl rfl rfl ?_
        refine l_nil (WK.nx (by assumption) ?_)
        first
        | (exfalso; omega)
        | (have hg : (g.L.length : Int) + 1 > most := by omega
           have hex : ∃ p ∈ ps, p.2 = (ps.getD i.toNat default).2 := ⟨_, hmem, rfl⟩
           have ho2 := UOK.push1 (x := (ps.getD i.toNat default).2) (y := yt) hok hex (bdS_pl (bdS_pl ⟨⟨hs1, hs2, hs3⟩, hby1, hby2⟩ hw hw1 hw2 hw3) hy2 hy3 hy4 hy5) (hy2.trans hw) (yc := yc) (ra := ra') (rc := rc') hy1 hP hg
           have e1 : g.R.length + 1 - 1 = (g.R ++ [(ps.getD i.toNat default).2]).tail.length := by simp
           have e2 : P' ++ (g.R ++ [(ps.getD i.toNat default).2]) = (P' ++ (g.R ++ [(ps.getD i.toNat default).2]).take 1) ++ (g.R ++ [(ps.getD i.toNat default).2]).tail := by
             rw [List.append_assoc, ← List.drop_one, List.take_append_drop]
           have e3 : j' + (g.R.length + 1) = (j' + 1) + (g.R ++ [(ps.getD i.toNat default).2]).tail.length := by rw [← e1]; omega
           rw [e2, e3] at F
           rw [shift_shift, e1, show rc' - j' - 1 = rc' - (j' + 1) by omega]
           exact K0.nx (i + 1, (⟨ya, yc, pushR most g.L yt, g.D ++ dS yt, ra', j' + 1, rc', P' ++ (g.R ++ [(ps.getD i.toNat default).2]).take 1, (g.R ++ [(ps.getD i.toNat default).2]).tail⟩ : UG)) (by repeat (first | exact trivial | refine And.intro rfl ?_)) ⟨F.pick [4, 5, 6, 0] (by decide), by omega, by omega, ho2⟩ (by first | omega | (simp only; omega)))
        | (have hg : ¬(g.L.length : Int) + 1 > most := by omega
           have hex : ∃ p ∈ ps, p.2 = (ps.getD i.toNat default).2 := ⟨_, hmem, rfl⟩
           have ho2 := UOK.push2 (x := (ps.getD i.toNat default).2) (y := yt) hok hex (bdS_pl (bdS_pl ⟨⟨hs1, hs2, hs3⟩, hby1, hby2⟩ hw hw1 hw2 hw3) hy2 hy3 hy4 hy5) (hy2.trans hw) (yc := yc) (ra := ra') (rc := rc') hy1 hP hg
           have e1 : g.R.length + 1 = (g.R ++ [(ps.getD i.toNat default).2]).length := by simp
           rw [e1] at F
           rw [e1]
           exact K0.nx (i + 1, (⟨ya, yc, pushR most g.L yt, g.D ++ dS yt, ra', j', rc', P', g.R ++ [(ps.getD i.toNat default).2]⟩ : UG)) (by repeat (first | exact trivial | refine And.intro rfl ?_)) ⟨F.pick [4, 5, 6, 0] (by decide), by omega, by omega, ho2⟩ (by first | omega | (simp only; omega)))
        | (have hg : g.L.length = 0 := by omega
           have e1 : g.L.dropLast = g.L := by rw [List.eq_nil_of_length_eq_zero hg]; rfl
           rw [e1] at F
           exact K0.nx (i + 1, g) (by repeat (first | exact trivial | refine And.intro rfl ?_)) ⟨F.pick [2, 3, 0, 1] (by decide), by omega, by omega, hok⟩ (by first | omega | (simp only; omega)))
        | (have hg : g.L.length ≠ 0 := by omega
           have ho2 := UOK.pop hok
           have e1 : ((g.R.length : Int) - 1).toNat = g.R.dropLast.length := by rw [List.length_dropLast]; omega
           have F2 := F.upto 1 rfl (h := g.j + g.R.dropLast.length) (by rw [List.length_dropLast]; omega)
           have e2 : (rows eS (g.P ++ g.R)).take ((g.j + g.R.dropLast.length) * 4) = rows eS (g.P ++ g.R.dropLast) := by
             rw [rows_take eS_len, ← hok.pl, List.take_length_add_append, List.length_dropLast, ← List.dropLast_eq_take]
           rw [e2] at F2
           rw [e1]
           exact K0.nx (i + 1, (⟨g.a, g.c, g.L.dropLast, g.D, g.ra, g.j, g.rc, g.P, g.R.dropLast⟩ : UG)) (by repeat (first | exact trivial | refine And.intro rfl ?_)) ⟨F2.pick [2, 3, 0, 1] (by decide), by omega, by omega, ho2⟩ (by first | omega | (simp only; omega)))
      try simp only [irr_eq, beq_iff_eq, bne_iff_ne, beq_eq_false_iff_ne, bne_eq_false_iff_eq, ne_eq, decide_eq_true_eq, decide_eq_false_iff_not, Bool.not_eq_true', Bool.not_eq_false'] at hc17
      refine l_s rfl rfl ?_
      refine l_s rfl rfl ?_
      refine l_s rfl rfl ?_
      refine l_s rfl rfl ?_
      refine l_op 2 rfl rfl rfl rfl rfl ?_
      refine l_op 2 rfl rfl rfl rfl rfl ?_
      refine l_nil (WK.nx (by assumption) ?_)
      refine SeqK.nx (by assumption) ?_
      first | refine e_cond_f rfl rfl rfl ?_ | refine e_cond_f rfl rfl (by rw [irr_eq]; first | exact beq_eq_false_iff_ne.2 (by assumption) | exact decide_eq_false (by assumption) | exact bne_eq_false_iff_eq.2 (by assumption)) ?_
      refine k_skip ?_
      refine SeqK.nx (by assumption) ?_
      refine k_seq (fun Q K => ?_)
      refine k_lin (fun W K => ?_)
      refine l_op 0 rfl rfl rfl rfl rfl ?_
      refine l_nil (WK.nx (by assumption) ?_)
      refine SeqK.nx (by assumption) ?_
      refine l_cond rfl rfl (fun hc23 => ?_) (fun hc23 => ?_)
      · try simp only [irr_eq, beq_iff_eq, bne_iff_ne, beq_eq_false_iff_ne, bne_eq_false_iff_eq, ne_eq, decide_eq_true_eq, decide_eq_false_iff_not, Bool.not_eq_true', Bool.not_eq_false'] at hc23
        refine k_seq (fun Q K => ?_)
        refine k_seq (fun Q K => ?_)
        refine k_linm [1, 2, 3, 4, 5, 0, 6, 7, 8] mixed (by kernel_rfl) (fun W K => ?_)
        try have hpS := F.pns
        refine l_op 0 rfl rfl rfl rfl rfl ?_
        refine l_op 0 rfl rfl rfl rfl rfl ?_
        first | refine l_op 2 rfl rfl rfl rfl rfl ?_ | refine l_ln rfl rfl rfl rfl ?_
        (first | refine l_a64 rfl rfl rfl (by omega) rfl ?_ | refine l_a32 rfl rfl rfl (by omega) rfl ?_ | refine l_a8 rfl rfl rfl (by omega) rfl ?_ | refine l_au64 rfl rfl rfl (by omega) rfl ?_ | refine l_op 1 rfl rfl rfl rfl rfl ?_)
        refine l_ixr (e := eS) rfl rfl rfl rfl rfl rfl (has_row F 1 rfl hok.pl) ⟨eS_len, by decide⟩ (by omega) (fun m163 b163 hA163 => ?_)
        (first | refine l_ld0 rfl rfl rfl rfl rfl (by assumption) ?_ | refine l_ldj rfl rfl rfl rfl rfl rfl (by assumption) rfl ?_ | refine l_ldc F 0 rfl rfl rfl rfl rfl rfl rfl ?_ | refine l_ldc F 1 rfl rfl rfl rfl rfl rfl rfl ?_ | refine l_ldc F 2 rfl rfl rfl rfl rfl rfl rfl ?_ | refine l_ldc F 3 rfl rfl rfl rfl rfl rfl rfl ?_ | refine l_ldc F 4 rfl rfl rfl rfl rfl rfl rfl ?_ | refine l_ldc F 5 rfl rfl rfl rfl rfl rfl rfl ?_ | refine l_ldc F 6 rfl rfl rfl rfl rfl rfl rfl ?_ | refine l_ldc F 7 rfl rfl rfl rfl rfl rfl rfl ?_ | refine l_ldc F 8 rfl rfl rfl rfl rfl rfl rfl ?_ | refine l_ldc F 9 rfl rfl rfl rfl rfl rfl rfl ?_ | refine l_lda rfl rfl rfl rfl rfl (by assumption) ?_ | refine l_ldca F 0 rfl rfl rfl rfl rfl rfl rfl ?_ | refine l_ldca F 1 rfl rfl rfl rfl rfl rfl rfl ?_ | refine l_ldca F 2 rfl rfl rfl rfl rfl rfl rfl ?_ | refine l_ldca F 3 rfl rfl rfl rfl rfl rfl rfl ?_ | refine l_ldca F 4 rfl rfl rfl rfl rfl rfl rfl ?_ | refine l_ldca F 5 rfl rfl rfl rfl rfl rfl rfl ?_ | refine l_ldca F 6 rfl rfl rfl rfl rfl rfl rfl ?_ | refine l_ldca F 7 rfl rfl rfl rfl rfl rfl rfl ?_ | refine l_ldca F 8 rfl rfl rfl rfl rfl rfl rfl ?_ | refine l_ldca F 9 rfl rfl rfl rfl rfl rfl rfl ?_ | refine l_ldo F (by assumption) rfl rfl rfl rfl rfl rfl ?_ | refine l_ldoa F (by assumption) rfl rfl rfl rfl rfl rfl ?_)
        first | have hpS := PnS.add hpS hS13 | have hpS := PnS.add hpS (OldC.sf (by assumption)) | skip
        (first | refine l_ld0 rfl rfl rfl rfl rfl (by assumption) ?_ | refine l_ldj rfl rfl rfl rfl rfl rfl (by assumption) rfl ?_ | refine l_ldc F 0 rfl rfl rfl rfl rfl rfl rfl ?_ | refine l_ldc F 1 rfl rfl rfl rfl rfl rfl rfl ?_ | refine l_ldc F 2 rfl rfl rfl rfl rfl rfl rfl ?_ | refine l_ldc F 3 rfl rfl rfl rfl rfl rfl rfl ?_ | refine l_ldc F 4 rfl rfl rfl rfl rfl rfl rfl ?_ | refine l_ldc F 5 rfl rfl rfl rfl rfl rfl rfl ?_ | refine l_ldc F 6 rfl rfl rfl rfl rfl rfl rfl ?_ | refine l_ldc F 7 rfl rfl rfl rfl rfl rfl rfl ?_ | refine l_ldc F 8 rfl rfl rfl rfl rfl rfl rfl ?_ | refine l_ldc F 9 rfl rfl rfl rfl rfl rfl rfl ?_ | refine l_lda rfl rfl rfl rfl rfl (by assumption) ?_ | refine l_ldca F 0 rfl rfl rfl rfl rfl rfl rfl ?_ | refine l_ldca F 1 rfl rfl rfl rfl rfl rfl rfl ?_ | refine l_ldca F 2 rfl rfl rfl rfl rfl rfl rfl ?_ | refine l_ldca F 3 rfl rfl rfl rfl rfl rfl rfl ?_ | refine l_ldca F 4 rfl rfl rfl rfl rfl rfl rfl ?_ | refine l_ldca F 5 rfl rfl rfl rfl rfl rfl rfl ?_ | refine l_ldca F 6 rfl rfl rfl rfl rfl rfl rfl ?_ | refine l_ldca F 7 rfl rfl rfl rfl rfl rfl rfl ?_ | refine l_ldca F 8 rfl rfl rfl rfl rfl rfl rfl ?_ | refine l_ldca F 9 rfl rfl rfl rfl rfl rfl rfl ?_ | refine l_ldo F (by assumption) rfl rfl rfl rfl rfl rfl ?_ | refine l_ldoa F (by assumption) rfl rfl rfl rfl rfl rfl ?_)
        first | have hpS := PnS.add hpS hS163 | have hpS := PnS.add hpS (OldC.sf (by assumption)) | skip
        have hz : popT g.L = g.L.getD (g.L.length - 1) default := by
          unfold popT
          rw [if_neg (by omega)]
        have hmL : g.L.getD (g.L.length - 1) default ∈ g.L := by
          simp only [List.getD, List.getElem?_eq_getElem (show g.L.length - 1 < g.L.length by omega), Option.getD_some]; exact List.getElem_mem _
        have hmR : g.R.getD ((g.R.length : Int) - 1).toNat default ∈ g.R := by
          simp only [List.getD, List.getElem?_eq_getElem (show ((g.R.length : Int) - 1).toNat < g.R.length by omega), Option.getD_some]; exact List.getElem_mem _
        obtain ⟨p, hp, hpe⟩ := hok.from_ _ hmR
        have hpl2 : plS (g.L.getD (g.L.length - 1) default) = plS (g.R.getD ((g.R.length : Int) - 1).toNat default) := by
          have e := congrArg (fun z => z[g.L.length - 1]?) hok.same
          simp only [List.getElem?_map, List.getElem?_eq_getElem (show g.L.length - 1 < g.L.length by omega), List.getElem?_eq_getElem (show g.L.length - 1 < g.R.length by omega), Option.map_some] at e
          have e2 : ((g.R.length : Int) - 1).toNat = g.L.length - 1 := by omega
          rw [e2]
          simp only [List.getD, List.getElem?_eq_getElem (show g.L.length - 1 < g.L.length by omega), List.getElem?_eq_getElem (show g.L.length - 1 < g.R.length by omega), Option.getD_some]
          exact Option.some.inj e
        rw [hz]
        refine l_rs (by kernel_rfl) ?_
        refine l_callp F rfl rfl (by kernel_rfl) rfl rfl (same17_call (t := g.L.getD (g.L.length - 1) default) (u := g.R.getD ((g.R.length : Int) - 1).toNat default) (oldS_in F 0 rfl hok.inD hmL (hok.bd _ hmL)) (by rw [← hpe]; exact ⟨Old.pure (F.old (h.m p hp)), Old.pure (F.old (h.b p hp)), Old.pure (F.old (h.s p hp)), (hbd p hp).1⟩) (hok.bd _ hmL).2 (by rw [← hpe]; exact (hbd p hp).2)) (fun z s F hz2 => ?_)
        obtain rfl : z = true := hz2.2 hpl2
        refine l_op 2 rfl rfl rfl rfl rfl ?_
        refine l_nil (WK.nx (by assumption) ?_)
        refine SeqK.nx (by assumption) ?_
        refine l_cond rfl rfl (fun hc24 => ?_) (fun hc24 => ?_)
        · try simp only [irr_eq, beq_iff_eq, bne_iff_ne, beq_eq_false_iff_ne, bne_eq_false_iff_eq, ne_eq, decide_eq_true_eq, decide_eq_false_iff_not, Bool.not_eq_true', Bool.not_eq_false'] at hc24
          refine k_seq (fun Q K => ?_)
          refine k_lin (fun W K => ?_)
          refine l_op 0 rfl rfl rfl rfl rfl ?_
          refine l_nil (WK.nx (by assumption) ?_)
          refine SeqK.nx (by assumption) ?_
          refine k_ret ?_
          refine SeqK.rt (by assumption) ?_
          refine SeqK.rt (by assumption) ?_
          refine BlkK.rt (by assumption) ?_
          refine SeqK.rt (by assumption) ?_
          refine LoopK.rt (by assumption) ?_
          refine BlkK.rt (by assumption) ?_
          refine SeqK.rt (by assumption) ?_
          refine FunK.rt (by assumption) rfl ?_
          -- leaf 15
          first
          | rfl
          | (exfalso; omega)
          | (exfalso; have e := pushR_len1 (most := most) (L := g.L) (t := yt) (by omega); omega)
          | (exfalso; have e := pushR_len2 (most := most) (L := g.L) (t := yt) (by omega); omega)
          | (exfalso; have e : g.L.dropLast.length = g.L.length - 1 := List.length_dropLast ..; omega)
          | (exact absurd (congrArg irr (decide_eq_decide.2 (by omega))) hc16)
          | (exfalso; simp_all; done)
        try simp only [irr_eq, beq_iff_eq, bne_iff_ne, beq_eq_false_iff_ne, bne_eq_false_iff_eq, ne_eq, decide_eq_true_eq, decide_eq_false_iff_not, Bool.not_eq_true', Bool.not_eq_false'] at hc24
        refine k_skip ?_
        refine SeqK.nx (by assumption) ?_
        refine k_lin (fun W K => ?_)
        refine l_op 0 rfl rfl rfl rfl rfl ?_
        refine l_op 0 rfl rfl rfl rfl rfl ?_
        first | refine l_op 2 rfl rfl rfl rfl rfl ?_ | refine l_ln rfl rfl rfl rfl ?_
        (first | refine l_a64 rfl rfl rfl (by omega) rfl ?_ | refine l_a32 rfl rfl rfl (by omega) rfl ?_ | refine l_a8 rfl rfl rfl (by omega) rfl ?_ | refine l_au64 rfl rfl rfl (by omega) rfl ?_ | refine l_op 1 rfl rfl rfl rfl rfl ?_)
        refine l_slh rfl rfl rfl rfl rfl ⟨rfl, _, _, rfl, by omega, rfl⟩ (has_row F 1 rfl hok.pl) (by omega) ?_
        refine l_op 0 rfl rfl rfl rfl rfl ?_
        refine l_nil (WK.nx (by assumption) ?_)
        refine SeqK.nx (by assumption) ?_
        refine k_seq (fun Q K => ?_)
        refine k_lin (fun W K => ?_)
        refine l_op 0 rfl rfl rfl rfl rfl ?_
        refine l_callp F rfl rfl (by kernel_rfl) rfl rfl (ulen_call (by first | exact OldC.pure (F.cel0 2 rfl) | exact F.cel0 2 rfl | exact F.cel0 4 rfl | exact F.cel0 5 rfl | exact F.cel0 6 rfl)) (fun _ s F _ => ?_)
        (try dsimp only [n_1, n_2, n_3, n_4, List.append_nil, pk, n_5, n_6] at F)
        refine l_op 0 rfl rfl rfl rfl rfl ?_
        first | refine l_op 2 rfl rfl rfl rfl rfl ?_ | refine l_ln rfl rfl rfl rfl ?_
        refine l_cmp rfl rfl rfl rfl ?_
        refine l_nil (WK.nx (by assumption) ?_)
        refine SeqK.nx (by assumption) ?_
        refine l_cond rfl rfl (fun hc25 => ?_) (fun hc25 => ?_)
        · first | replace hc25 := bne_iff_ne.1 ((irr_eq _).symm.trans hc25) | simp only [irr_eq, bne_iff_ne, bne_eq_false_iff_eq, ne_eq, decide_eq_true_eq, decide_eq_false_iff_not, Bool.not_eq_true', Bool.not_eq_false'] at hc25
          refine k_seq (fun Q K => ?_)
          refine k_lin (fun W K => ?_)
          refine l_op 0 rfl rfl rfl rfl rfl ?_
          refine l_nil (WK.nx (by assumption) ?_)
          refine SeqK.nx (by assumption) ?_
          refine k_ret ?_
          refine BlkK.rt (by assumption) ?_
          refine SeqK.rt (by assumption) ?_
          refine LoopK.rt (by assumption) ?_
          refine BlkK.rt (by assumption) ?_
          refine SeqK.rt (by assumption) ?_
          refine FunK.rt (by assumption) rfl ?_
          -- leaf 16
          first
          | rfl
          | (exfalso; omega)
          | (exfalso; have e := pushR_len1 (most := most) (L := g.L) (t := yt) (by omega); omega)
          | (exfalso; have e := pushR_len2 (most := most) (L := g.L) (t := yt) (by omega); omega)
          | (exfalso; have e : g.L.dropLast.length = g.L.length - 1 := List.length_dropLast ..; omega)
          | (exact absurd (congrArg irr (decide_eq_decide.2 (by omega))) hc16)
          | (exfalso; simp_all; done)
        first | replace hc25 := bne_eq_false_iff_eq.1 ((irr_eq _).symm.trans hc25) | simp only [irr_eq, bne_iff_ne, bne_eq_false_iff_eq, ne_eq, decide_eq_true_eq, decide_eq_false_iff_not, Bool.not_eq_true', Bool.not_eq_false'] at hc25
        refine k_skip ?_
        refine BlkK.nx (by assumption) ?_
        refine SeqK.nx (by assumption) ?_
        refine k_lin (fun W K => ?_)
        refine l_op 0 rfl rfl rfl rfl rfl ?_
        (first | refine l_a64 rfl rfl rfl (by omega) rfl ?_ | refine l_a32 rfl rfl rfl (by omega) rfl ?_ | refine l_a8 rfl rfl rfl (by omega) rfl ?_ | refine l_au64 rfl rfl rfl (by omega) rfl ?_ | refine l_op 1 rfl rfl rfl rfl rfl ?_)
        refine l_op 0 rfl rfl rfl rfl rfl ?_
        refine l_nil (WK.nx (by assumption) ?_)
        first
        | (exfalso; omega)
        | (have hg : (g.L.length : Int) + 1 > most := by omega
           have hex : ∃ p ∈ ps, p.2 = (ps.getD i.toNat default).2 := ⟨_, hmem, rfl⟩
           have ho2 := UOK.push1 (x := (ps.getD i.toNat default).2) (y := yt) hok hex (bdS_pl (bdS_pl ⟨⟨hs1, hs2, hs3⟩, hby1, hby2⟩ hw hw1 hw2 hw3) hy2 hy3 hy4 hy5) (hy2.trans hw) (yc := yc) (ra := ra') (rc := rc') hy1 hP hg
           have e1 : g.R.length + 1 - 1 = (g.R ++ [(ps.getD i.toNat default).2]).tail.length := by simp
           have e2 : P' ++ (g.R ++ [(ps.getD i.toNat default).2]) = (P' ++ (g.R ++ [(ps.getD i.toNat default).2]).take 1) ++ (g.R ++ [(ps.getD i.toNat default).2]).tail := by
             rw [List.append_assoc, ← List.drop_one, List.take_append_drop]
           have e3 : j' + (g.R.length + 1) = (j' + 1) + (g.R ++ [(ps.getD i.toNat default).2]).tail.length := by rw [← e1]; omega
           rw [e2, e3] at F
           rw [shift_shift, e1, show rc' - j' - 1 = rc' - (j' + 1) by omega]
           exact K0.nx (i + 1, (⟨ya, yc, pushR most g.L yt, g.D ++ dS yt, ra', j' + 1, rc', P' ++ (g.R ++ [(ps.getD i.toNat default).2]).take 1, (g.R ++ [(ps.getD i.toNat default).2]).tail⟩ : UG)) (by repeat (first | exact trivial | refine And.intro rfl ?_)) ⟨F.pick [4, 5, 6, 0] (by decide), by omega, by omega, ho2⟩ (by first | omega | (simp only; omega)))
        | (have hg : ¬(g.L.length : Int) + 1 > most := by omega
           have hex : ∃ p ∈ ps, p.2 = (ps.getD i.toNat default).2 := ⟨_, hmem, rfl⟩
           have ho2 := UOK.push2 (x := (ps.getD i.toNat default).2) (y := yt) hok hex (bdS_pl (bdS_pl ⟨⟨hs1, hs2, hs3⟩, hby1, hby2⟩ hw hw1 hw2 hw3) hy2 hy3 hy4 hy5) (hy2.trans hw) (yc := yc) (ra := ra') (rc := rc') hy1 hP hg
           have e1 : g.R.length + 1 = (g.R ++ [(ps.getD i.toNat default).2]).length := by simp
           rw [e1] at F
           rw [e1]
           exact K0.nx (i + 1, (⟨ya, yc, pushR most g.L yt, g.D ++ dS yt, ra', j', rc', P', g.R ++ [(ps.getD i.toNat default).2]⟩ : UG)) (by repeat (first | exact trivial | refine And.intro rfl ?_)) ⟨F.pick [4, 5, 6, 0] (by decide), by omega, by omega, ho2⟩ (by first | omega | (simp only; omega)))
        | (have hg : g.L.length = 0 := by omega
           have e1 : g.L.dropLast = g.L := by rw [List.eq_nil_of_length_eq_zero hg]; rfl
           rw [e1] at F
           exact K0.nx (i + 1, g) (by repeat (first | exact trivial | refine And.intro rfl ?_)) ⟨F.pick [2, 3, 0, 1] (by decide), by omega, by omega, hok⟩ (by first | omega | (simp only; omega)))
        | (have hg : g.L.length ≠ 0 := by omega
           have ho2 := UOK.pop hok
           have e1 : ((g.R.length : Int) - 1).toNat = g.R.dropLast.length := by rw [List.length_dropLast]; omega
           have F2 := F.upto 1 rfl (h := g.j + g.R.dropLast.length) (by rw [List.length_dropLast]; omega)
           have e2 : (rows eS (g.P ++ g.R)).take ((g.j + g.R.dropLast.length) * 4) = rows eS (g.P ++ g.R.dropLast) := by
             rw [rows_take eS_len, ← hok.pl, List.take_length_add_append, List.length_dropLast, ← List.dropLast_eq_take]
           rw [e2] at F2
           rw [e1]
           exact K0.nx (i + 1, (⟨g.a, g.c, g.L.dropLast, g.D, g.ra, g.j, g.rc, g.P, g.R.dropLast⟩ : UG)) (by repeat (first | exact trivial | refine And.intro rfl ?_)) ⟨F2.pick [2, 3, 0, 1] (by decide), by omega, by omega, ho2⟩ (by first | omega | (simp only; omega)))
      try simp only [irr_eq, beq_iff_eq, bne_iff_ne, beq_eq_false_iff_ne, bne_eq_false_iff_eq, ne_eq, decide_eq_true_eq, decide_eq_false_iff_not, Bool.not_eq_true', Bool.not_eq_false'] at hc23
      refine k_skip ?_
      refine SeqK.nx (by assumption) ?_
      refine k_seq (fun Q K => ?_)
      refine k_lin (fun W K => ?_)
      refine l_op 0 rfl rfl rfl rfl rfl ?_
      refine l_callp F rfl rfl (by kernel_rfl) rfl rfl (ulen_call (by first | exact OldC.pure (F.cel0 2 rfl) | exact F.cel0 2 rfl | exact F.cel0 4 rfl | exact F.cel0 5 rfl | exact F.cel0 6 rfl)) (fun _ s F _ => ?_)
      (try dsimp only [n_1, n_2, n_3, n_4, List.append_nil, pk, n_5, n_6] at F)
      refine l_op 0 rfl rfl rfl rfl rfl ?_
      first | refine l_op 2 rfl rfl rfl rfl rfl ?_ | refine l_ln rfl rfl rfl rfl ?_
      refine l_cmp rfl rfl rfl rfl ?_
      refine l_nil (WK.nx (by assumption) ?_)
      refine SeqK.nx (by assumption) ?_
      refine l_cond rfl rfl (fun hc26 => ?_) (fun hc26 => ?_)
      · first | replace hc26 := bne_iff_ne.1 ((irr_eq _).symm.trans hc26) | simp only [irr_eq, bne_iff_ne, bne_eq_false_iff_eq, ne_eq, decide_eq_true_eq, decide_eq_false_iff_not, Bool.not_eq_true', Bool.not_eq_false'] at hc26
        refine k_seq (fun Q K => ?_)
        refine k_lin (fun W K => ?_)
        refine l_op 0 rfl rfl rfl rfl rfl ?_
        refine l_nil (WK.nx (by assumption) ?_)
        refine SeqK.nx (by assumption) ?_
        refine k_ret ?_
        refine BlkK.rt (by assumption) ?_
        refine SeqK.rt (by assumption) ?_
        refine LoopK.rt (by assumption) ?_
        refine BlkK.rt (by assumption) ?_
        refine SeqK.rt (by assumption) ?_
        refine FunK.rt (by assumption) rfl ?_
        -- leaf 17
        first
        | rfl
        | (exfalso; omega)
        | (exfalso; have e := pushR_len1 (most := most) (L := g.L) (t := yt) (by omega); omega)
        | (exfalso; have e := pushR_len2 (most := most) (L := g.L) (t := yt) (by omega); omega)
        | (exfalso; have e : g.L.dropLast.length = g.L.length - 1 := List.length_dropLast ..; omega)
        | (exact absurd (congrArg irr (decide_eq_decide.2 (by omega))) hc16)
        | (exfalso; simp_all; done)
      first | replace hc26 := bne_eq_false_iff_eq.1 ((irr_eq _).symm.trans hc26) | simp only [irr_eq, bne_iff_ne, bne_eq_false_iff_eq, ne_eq, decide_eq_true_eq, decide_eq_false_iff_not, Bool.not_eq_true', Bool.not_eq_false'] at hc26
      refine k_skip ?_
      refine BlkK.nx (by assumption) ?_
      refine SeqK.nx (by assumption) ?_
      refine k_lin (fun W K => ?_)
      refine l_op 0 rfl rfl rfl rfl rfl ?_
      (first | refine l_a64 rfl rfl rfl (by omega) rfl ?_ | refine l_a32 rfl rfl rfl (by omega) rfl ?_ | refine l_a8 rfl rfl rfl (by omega) rfl ?_ | refine l_au64 rfl rfl rfl (by omega) rfl ?_ | refine l_op 1 rfl rfl rfl rfl rfl ?_)
      refine l_op 0 rfl rfl rfl rfl rfl ?_
      refine l_nil (WK.nx (by assumption) ?_)
      first
      | (exfalso; omega)
      | (have hg : (g.L.length : Int) + 1 > most := by omega
         have hex : ∃ p ∈ ps, p.2 = (ps.getD i.toNat default).2 := ⟨_, hmem, rfl⟩
         have ho2 := UOK.push1 (x := (ps.getD i.toNat default).2) (y := yt) hok hex (bdS_pl (bdS_pl ⟨⟨hs1, hs2, hs3⟩, hby1, hby2⟩ hw hw1 hw2 hw3) hy2 hy3 hy4 hy5) (hy2.trans hw) (yc := yc) (ra := ra') (rc := rc') hy1 hP hg
         have e1 : g.R.length + 1 - 1 = (g.R ++ [(ps.getD i.toNat default).2]).tail.length := by simp
         have e2 : P' ++ (g.R ++ [(ps.getD i.toNat default).2]) = (P' ++ (g.R ++ [(ps.getD i.toNat default).2]).take 1) ++ (g.R ++ [(ps.getD i.toNat default).2]).tail := by
           rw [List.append_assoc, ← List.drop_one, List.take_append_drop]
         have e3 : j' + (g.R.length + 1) = (j' + 1) + (g.R ++ [(ps.getD i.toNat default).2]).tail.length := by rw [← e1]; omega
         rw [e2, e3] at F
         rw [shift_shift, e1, show rc' - j' - 1 = rc' - (j' + 1) by omega]
         exact K0.nx (i + 1, (⟨ya, yc, pushR most g.L yt, g.D ++ dS yt, ra', j' + 1, rc', P' ++ (g.R ++ [(ps.getD i.toNat default).2]).take 1, (g.R ++ [(ps.getD i.toNat default).2]).tail⟩ : UG)) (by repeat (first | exact trivial | refine And.intro rfl ?_)) ⟨F.pick [4, 5, 6, 0] (by decide), by omega, by omega, ho2⟩ (by first | omega | (simp only; omega)))
      | (have hg : ¬(g.L.length : Int) + 1 > most := by omega
         have hex : ∃ p ∈ ps, p.2 = (ps.getD i.toNat default).2 := ⟨_, hmem, rfl⟩
         have ho2 := UOK.push2 (x := (ps.getD i.toNat default).2) (y := yt) hok hex (bdS_pl (bdS_pl ⟨⟨hs1, hs2, hs3⟩, hby1, hby2⟩ hw hw1 hw2 hw3) hy2 hy3 hy4 hy5) (hy2.trans hw) (yc := yc) (ra := ra') (rc := rc') hy1 hP hg
         have e1 : g.R.length + 1 = (g.R ++ [(ps.getD i.toNat default).2]).length := by simp
         rw [e1] at F
         rw [e1]
         exact K0.nx (i + 1, (⟨ya, yc, pushR most g.L yt, g.D ++ dS yt, ra', j', rc', P', g.R ++ [(ps.getD i.toNat default).2]⟩ : UG)) (by repeat (first | exact trivial | refine And.intro rfl ?_)) ⟨F.pick [4, 5, 6, 0] (by decide), by omega, by omega, ho2⟩ (by first | omega | (simp only; omega)))
      | (have hg : g.L.length = 0 := by omega
         have e1 : g.L.dropLast = g.L := by rw [List.eq_nil_of_length_eq_zero hg]; rfl
         rw [e1] at F
         exact K0.nx (i + 1, g) (by repeat (first | exact trivial | refine And.intro rfl ?_)) ⟨F.pick [2, 3, 0, 1] (by decide), by omega, by omega, hok⟩ (by first | omega | (simp only; omega)))
      | (have hg : g.L.length ≠ 0 := by omega
         have ho2 := UOK.pop hok
         have e1 : ((g.R.length : Int) - 1).toNat = g.R.dropLast.length := by rw [List.length_dropLast]; omega
         have F2 := F.upto 1 rfl (h := g.j + g.R.dropLast.length) (by rw [List.length_dropLast]; omega)
         have e2 : (rows eS (g.P ++ g.R)).take ((g.j + g.R.dropLast.length) * 4) = rows eS (g.P ++ g.R.dropLast) := by
           rw [rows_take eS_len, ← hok.pl, List.take_length_add_append, List.length_dropLast, ← List.dropLast_eq_take]
         rw [e2] at F2
         rw [e1]
         exact K0.nx (i + 1, (⟨g.a, g.c, g.L.dropLast, g.D, g.ra, g.j, g.rc, g.P, g.R.dropLast⟩ : UG)) (by repeat (first | exact trivial | refine And.intro rfl ?_)) ⟨F2.pick [2, 3, 0, 1] (by decide), by omega, by omega, ho2⟩ (by first | omega | (simp only; omega)))
    replace hc11 := of_decide_eq_false ((irr_eq _).symm.trans hc11)
    refine k_exit ?_
    refine SeqK.et (by assumption) ?_
    refine LoopK.et (by assumption) ?_
    refine BlkK.et (by assumption) ?_
    refine SeqK.nx (by assumption) ?_
    refine k_seq (fun Q K => ?_)
    refine k_lin (fun W K => ?_)
    refine l_callv rfl rfl (by kernel_rfl) rfl rfl (live17_call _ _) ?_
    (try dsimp only [n_1, n_2, n_3, n_4, List.append_nil, pk, n_5, n_6] at F)
    refine l_op 0 rfl rfl rfl rfl rfl ?_
    refine l_nil (WK.nx (by assumption) ?_)
    refine SeqK.nx (by assumption) ?_
    refine k_ret ?_
    refine FunK.rt (by assumption) rfl ?_
    -- leaf 18
    first
    | rfl
    | (exfalso; omega)
    | (exfalso; have e := pushR_len1 (most := most) (L := g.L) (t := yt) (by omega); omega)
    | (exfalso; have e := pushR_len2 (most := most) (L := g.L) (t := yt) (by omega); omega)
    | (exfalso; have e : g.L.dropLast.length = g.L.length - 1 := List.length_dropLast ..; omega)
    | (exact absurd (congrArg irr (decide_eq_decide.2 (by omega))) hc16)
    | (exfalso; simp_all; done)

theorem undo17_law {σ : AState} {a : Option Addr} {l c : Nat} {ps : List ST} {most : Int} (hw : -9223372036854775808 ≤ most ∧ most ≤ 9223372036854775807) (h : OldL E0 σ a l c ps) :
    SCall Try.prog E0 6 [.int .i64 most, .slice a l c] σ (fun v _ => v = .bool true) := by
  by_cases hb : most < 0 ∨ most > 64
  · exact undo_bad hb hw h
  · exact undo_law (by omega) h

end Go.Proofs.Ytddenboepgfbgaa
