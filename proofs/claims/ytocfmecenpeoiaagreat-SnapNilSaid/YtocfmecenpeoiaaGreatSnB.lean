/- The document's memory of the small game. No statement of the seat is proved in this text. -/
import Derived.Test.YtocfmecenpeoiaaGreatSnA
import Derived.Test.YtocfmecenpeoiaaGreatStQ
import Derived.Test.YtocfmecenpeoiaaGreatLinS
import Derived.Test.YtocfmecenpeoiaaGreatMemG
set_option linter.unusedVariables false
set_option linter.unusedSimpArgs false
set_option maxRecDepth 100000
set_option maxHeartbeats 8000000
namespace GAb
open Go
theorem l_asE {P : Program} {B : Base} {n : Nat} {all : Array Oper} {W : Pn → Env → AState → Prop} {pn : Pn} {env : Env} {σ : AState} {o : Oper} {rest : List Oper} {d : Option Nat} {x : Operand} {v : Value} (ho : o.op = .assign x ∨ o.op = .move x) (hk : okx x = true) (hw : wantedE all n o env = true) (hd : dsto o = some d) (hx : look n env x = v)
    (hl : Lin P B all W n pn rest (upd env d v) σ) : Lin P B all W n pn (o :: rest) env σ := by
  refine l_p hw hd (v := v) ?_ (by unfold rbE; rcases ho with ho | ho <;> rw [ho]) hl
  unfold aop
  rcases ho with ho | ho <;> simp only [ho, look_aval hk, hx] <;> rfl
end GAb
namespace Go.Proofs.YtocfmecenpeoiaaGreat
open GAb Go

theorem fresh_call {σ : AState} {a : Option Addr} {c : Nat} (h : Old E0 σ a 512 c 1 (u8l smallB)) :
    SCall Tryz.prog E0 107 [.slice a 512 c, .int .i64 768] σ (Ret E0 σ (fun (y : Option Addr × Nat) => .slice y.1 768 y.2) (fun y => [own y.1 768 y.2 1 (u8l firstB)]) fun _ => True) := by
  refine k_fun Tryz.func107 rfl (m := 15) rfl fun B hD Q K => ?_
  have F := Facts.nil E0 σ
  refine k_seq fun Q K => k_lin fun W K => ?_
  refine l_op 0 rfl rfl rfl rfl rfl ?_
  refine l_nil (WK.nx ‹_› (SeqK.nx ‹_› ?_))
  refine k_seq fun Q K => k_lin fun W K => ?_
  refine l_lit F rfl rfl rfl rfl (fun q6 s F => ?_)
  (try dsimp only [n_1, n_2, n_3, n_4, List.append_nil, pk, n_5, n_6] at F)
  refine l_op 0 rfl rfl rfl rfl rfl ?_
  refine l_app (es := 1) (len := 0) (vs := []) F 0 rfl rfl rfl rfl rfl rfl rfl (F.old h) (ints_one _) rfl (by omega) hD (fun x1 c1 s F => ?_)
  (try dsimp only [n_1, n_2, n_3, n_4, List.append_nil, pk, n_5, n_6] at F)
  rw [show 0 + 512 = 512 from rfl] at F ⊢
  refine l_op 0 rfl rfl rfl rfl rfl ?_
  refine l_nil (WK.nx ‹_› (SeqK.nx ‹_› ?_))
  refine k_seq fun Q K => k_lin fun W K => ?_
  iterate 3 refine l_op 0 rfl rfl rfl rfl rfl ?_
  refine l_op 2 rfl rfl rfl rfl rfl ?_
  refine l_a64 rfl rfl rfl (by omega) rfl ?_
  refine l_azo (es := 1) F 0 rfl rfl rfl rfl rfl rfl rfl (by decide) rfl (by omega) hD (fun x3 c3 s F => ?_)
  (try dsimp only [n_1, n_2, n_3, n_4, List.append_nil, pk, n_5, n_6] at F)
  have e3 : u8l smallB ++ zrow [Value.int IntKind.u8 0] (Int.toNat (768 - ((512 : Nat) : Int))) = u8l firstB := by
    rw [zrow_one]
    show _ = List.map _ (smallB ++ List.replicate 256 0)
    rw [List.map_append, List.map_replicate]
    rfl
  rw [e3] at F
  refine l_op 0 rfl rfl rfl rfl rfl ?_
  refine l_nil (WK.nx ‹_› (SeqK.nx ‹_› (k_ret ?_)))
  refine FunK.rt (by assumption) rfl ?_
  -- leaf 1
  exact ⟨(x3, c3), rfl, F, trivial⟩

/-! ### The region of New: its operations in any order. -/
abbrev SN := (Bool × Bool × Bool × Bool) × Nat
def nxtN (st : SN) : List (Nat × SN) :=
  (bif !st.1.1 then [(4, ((true, st.1.2), st.2))] else []) ++
  (bif !st.1.2.1 then [(5, ((st.1.1, true, st.1.2.2), st.2))] else []) ++
  (bif st.1.1 && st.1.2.1 && !st.1.2.2.2 then [(7, ((st.1.1, st.1.2.1, st.1.2.2.1, true), st.2))] else []) ++
  (bif !st.1.2.2.1 then [(10, ((st.1.1, st.1.2.1, true, st.1.2.2.2), st.2))] else []) ++
  (bif st.1.2.2.1 && st.1.2.2.2 && Nat.beq st.2 0 then [(11, (st.1, 1))] else []) ++
  (bif Nat.beq st.2 1 then [(12, (st.1, 2))] else []) ++
  (bif Nat.beq st.2 2 then [(14, (st.1, 3))] else []) ++
  (bif Nat.beq st.2 3 then [(15, (st.1, 4))] else []) ++
  (bif Nat.beq st.2 4 then [(16, (st.1, 5))] else [])
def encN (st : SN) : Array Bool := #[true, true, true, true, st.1.1, st.1.2.1, true, st.1.2.2.2, true, true, st.1.2.2.1, Nat.ble 1 st.2, Nat.ble 2 st.2, true, Nat.ble 3 st.2, Nat.ble 4 st.2, Nat.ble 5 st.2]
def leftN (st : SN) : Nat := (bif st.1.1 then 0 else 1) + (bif st.1.2.1 then 0 else 1) + (bif st.1.2.2.1 then 0 else 1) + (bif st.1.2.2.2 then 0 else 1) + (5 - st.2)
def allN : List SN :=
  [0, 1, 2, 3, 4, 5].flatMap fun k => [true, false].flatMap fun a => [true, false].flatMap fun b => [true, false].flatMap fun c => [true, false].flatMap fun d =>
    bif (!d || (a && b)) && (Nat.ble k 0 || (a && b && c && d)) then [((a, b, c, d), k)] else []
theorem nxtN_mem {st : SN} {p : Nat × SN} (h : p ∈ nxtN st) :
    (st.1.1 = false ∧ p = (4, ((true, st.1.2), st.2))) ∨ (st.1.2.1 = false ∧ p = (5, ((st.1.1, true, st.1.2.2), st.2))) ∨ ((st.1.1 = true ∧ st.1.2.1 = true ∧ st.1.2.2.2 = false) ∧ p = (7, ((st.1.1, st.1.2.1, st.1.2.2.1, true), st.2))) ∨ (st.1.2.2.1 = false ∧ p = (10, ((st.1.1, st.1.2.1, true, st.1.2.2.2), st.2))) ∨
    ((st.1.2.2.1 = true ∧ st.1.2.2.2 = true ∧ st.2 = 0) ∧ p = (11, (st.1, 1))) ∨ (st.2 = 1 ∧ p = (12, (st.1, 2))) ∨ (st.2 = 2 ∧ p = (14, (st.1, 3))) ∨ (st.2 = 3 ∧ p = (15, (st.1, 4))) ∨ (st.2 = 4 ∧ p = (16, (st.1, 5))) := by
  have key : ∀ {b : Bool} {q : Nat × SN}, p ∈ (bif b then [q] else []) → b = true ∧ p = q := by
    intro b q hb
    cases b with
    | true => exact ⟨rfl, by simpa using hb⟩
    | false => cases hb
  unfold nxtN at h
  simp only [List.mem_append] at h
  rcases h with (((((((h | h) | h) | h) | h) | h) | h) | h) | h <;> obtain ⟨h1, h2⟩ := key h <;> simp only [Bool.and_eq_true, Bool.not_eq_true', Nat.beq_eq, Nat.ble_eq] at h1
  · exact .inl ⟨h1, h2⟩
  · exact .inr (.inl ⟨h1, h2⟩)
  · exact .inr (.inr (.inl ⟨⟨h1.1.1, h1.1.2, h1.2⟩, h2⟩))
  · exact .inr (.inr (.inr (.inl ⟨h1, h2⟩)))
  · exact .inr (.inr (.inr (.inr (.inl ⟨⟨h1.1.1, h1.1.2, h1.2⟩, h2⟩))))
  · exact .inr (.inr (.inr (.inr (.inr (.inl ⟨h1, h2⟩)))))
  · exact .inr (.inr (.inr (.inr (.inr (.inr (.inl ⟨h1, h2⟩))))))
  · exact .inr (.inr (.inr (.inr (.inr (.inr (.inr (.inl ⟨h1, h2⟩)))))))
  · exact .inr (.inr (.inr (.inr (.inr (.inr (.inr (.inr ⟨h1, h2⟩)))))))
theorem allN_end {st : SN} (hn : nxtN st = []) (hs : st ∈ allN) : st.2 = 5 ∧ st.1 = (true, true, true, true) := by
  have h : allN.all (fun st => bif (nxtN st).isEmpty then Nat.beq st.2 5 && (st.1 == (true, true, true, true)) else true) = true := by kernel_rfl
  have h := List.all_eq_true.1 h st hs
  rw [hn] at h
  have h : (Nat.beq st.2 5 && (st.1 == (true, true, true, true))) = true := h
  rw [Bool.and_eq_true, Nat.beq_eq, beq_iff_eq] at h
  exact h
theorem allN_in {st : SN} (hs : st ∈ allN) : (1 ≤ st.2 → st.1 = (true, true, true, true)) ∧ (st.1.2.2.2 = true → st.1.1 = true ∧ st.1.2.1 = true) := by
  have h : allN.all (fun st => (Nat.ble st.2 0 || (st.1 == (true, true, true, true))) && (!st.1.2.2.2 || (st.1.1 && st.1.2.1))) = true := by kernel_rfl
  have h := List.all_eq_true.1 h st hs
  rw [Bool.and_eq_true, Bool.or_eq_true, Bool.or_eq_true, Nat.ble_eq, beq_iff_eq, Bool.not_eq_true', Bool.and_eq_true] at h
  refine ⟨fun hk => ?_, fun hd => ?_⟩
  · rcases h.1 with h1 | h1
    · omega
    · exact h1
  · rcases h.2 with h1 | h1
    · rw [h1] at hd; cases hd
    · exact h1
theorem nxtN_in {st : SN} {p : Nat × SN} (hs : st ∈ allN) (hp : p ∈ nxtN st) : p.2 ∈ allN := by
  have h : allN.all (fun st => (nxtN st).all fun p => allN.contains p.2) = true := by kernel_rfl
  exact List.contains_iff_mem.1 (List.all_eq_true.1 (List.all_eq_true.1 h st hs) p hp)
abbrev hd9 : List Value := [.int .u32 196867, .int .u32 256, .int .u32 512, .int .u32 768, .int .u32 256, .int .u32 36, .int .u32 0, .int .u32 1198488979]
structure ZN where
  x4 : Option Addr
  c4 : Nat
  x5 : Option Addr
  c5 : Nat
  h : Nat
  m : Nat
/-- The cells of the document's memory. -/
abbrev rmC (ba : Option Addr) (n c : Nat) (ga : Option Addr) (gc h : Nat) (f t : Int) : List Value := [.slice ba n c, .slice ga 512 gc] ++ hd9 ++ [.pointer (some ⟨h, 0, none⟩), .int .i64 f, .int .i64 t]
/-- The cells of the document's heap. -/
abbrev rhC (st en : Int) (a : Option Addr) (n c : Nat) : List Value := [.int .i64 1048576, .int .i64 st, .int .i64 en, .slice a n c]
abbrev nilP : Fact := own none 0 0 1 []
def ifb {α : Type} (b : Bool) (x y : α) : α := bif b then x else y
abbrev LN (q : Nat) (z : ZN) (n4 : Nat) (v4 : List Value) (n5 : Nat) (v5 : List Value) (X Y : Fact) : List Fact := [cel q hd9, own z.x4 n4 z.c4 1 v4, own z.x5 n5 z.c5 1 v5, X, Y]
structure IN (σ : AState) (q : Nat) (a : Option Addr) (c : Nat) (z : ZN) (st : SN) (pn : Pn) (env : Env) (s : AState) : Prop where
  F : Facts E0 σ s (LN q z (ifb st.1.1 768 0) (ifb st.1.1 (u8l firstB) []) (ifb st.1.2.2.2 512 0) (ifb st.1.2.2.2 (u8l smallB) []) (ifb st.1.2.2.1 (cel z.h (rhC 0 0 none 0 0)) nilP) (ifb (Nat.ble 2 st.2) (cel z.m (rmC z.x4 768 z.c4 z.x5 z.c5 z.h 0 0)) nilP))
  pn : pn = pnAdd (pnAdd (some []) (some q)) (some q)
  e18 : env 18 = .slice a 512 c
  e21 : env 21 = .int .i64 768
  e24 : env 24 = .slice a 512 c
  e26 : env 26 = .agg hd9.toArray
  e27 : env 27 = .agg (rhC 0 0 none 0 0).toArray
  e31 : env 31 = .int .i64 36
  e22 : st.1.1 = true → env 22 = .slice z.x4 768 z.c4
  e23 : st.1.2.1 = true → st.1.2.2.2 = false → env 23 = .slice z.x5 0 z.c5
  e25 : st.1.2.2.2 = true → env 25 = .slice z.x5 512 z.c5
  e28 : st.1.2.2.1 = true → env 28 = .pointer (some ⟨z.h, 0, none⟩)
  e29 : 1 ≤ st.2 → env 29 = .agg (rmC z.x4 768 z.c4 z.x5 z.c5 z.h 0 0).toArray
  e30 : 2 ≤ st.2 → env 30 = .pointer (some ⟨z.m, 0, none⟩)
  e2 : 3 ≤ st.2 → env 2 = .pointer (some ⟨z.m, 0, none⟩)
  e3 : 4 ≤ st.2 → env 3 = .int .i64 0
  e4 : 5 ≤ st.2 → env 4 = .int .i64 36
theorem no_leN {j k : Nat} {p : Prop} (hk : k < j) : j ≤ k → p := fun h => absurd h (by omega)
theorem rmnew_call {σ : AState} {a : Option Addr} {c : Nat} (h : Old E0 σ a 512 c 1 (u8l smallB)) :
    SCall Tryz.prog E0 47 [.slice a 512 c] σ (Ret E0 σ (fun (z : ZN) => .tuple #[.pointer (some ⟨z.m, 0, none⟩), .int .i64 0, .int .i64 36]) (fun z => [cel z.m (rmC z.x4 768 z.c4 z.x5 z.c5 z.h 0 0), own z.x4 768 z.c4 1 (u8l firstB), own z.x5 512 z.c5 1 (u8l smallB), cel z.h (rhC 0 0 none 0 0), own none 0 0 2 (rows eB [])]) fun _ => True) := by
  refine k_fun Tryz.func47 rfl (m := 32) rfl fun B hD Q K => ?_
  have F := Facts.nil E0 σ
  refine k_seq fun Q K => k_lin fun W K => ?_
  iterate 3 refine l_op 0 rfl rfl rfl rfl rfl ?_
  refine l_nil (WK.nx ‹_› (SeqK.nx ‹_› ?_))
  refine k_seq fun Q K => k_lin fun W K => ?_
  refine l_op 0 rfl rfl rfl rfl rfl ?_
  refine l_callp F rfl rfl (by kernel_rfl) rfl rfl (rparse_call (Old.pure (F.old h))) (fun v s F hv => ?_)
  (try dsimp only [n_1, n_2, n_3, n_4, List.append_nil, pk, n_5, n_6] at F)
  subst hv
  (try dsimp only [n_1, n_2, n_3, n_4, List.append_nil, pk, n_5, n_6] at F)
  refine l_op 0 rfl rfl rfl rfl rfl ?_
  iterate 3 refine l_op 2 rfl rfl rfl rfl rfl ?_
  refine l_al F rfl rfl rfl rfl (fun q5 s F => ?_)
  (try dsimp only [n_1, n_2, n_3, n_4, List.append_nil, pk, n_5, n_6] at F)
  refine l_stca F 0 rfl rfl rfl rfl rfl rfl rfl rfl rfl rfl hD rfl (fun s F => ?_)
  (try dsimp only [n_1, n_2, n_3, n_4, List.append_nil, pk, n_5, n_6] at F)
  iterate 2 refine l_op 0 rfl rfl rfl rfl rfl ?_
  refine l_nil (WK.nx ‹_› (SeqK.nx ‹_› ?_))
  refine k_seq fun Q K => k_seq fun Q K => k_lin fun W K => ?_
  refine l_op 0 rfl rfl rfl rfl rfl ?_
  refine l_cmp rfl rfl rfl rfl ?_
  refine l_nil (WK.nx ‹_› (SeqK.nx ‹_› ?_))
  refine l_cond rfl rfl (fun hc1 => ?_) (fun hc1 => ?_)
  · replace hc1 := bne_iff_ne.1 ((irr_eq _).symm.trans hc1)
    exact absurd rfl hc1
  replace hc1 := bne_eq_false_iff_eq.1 ((irr_eq _).symm.trans hc1)
  refine k_skip (SeqK.nx ‹_› ?_)
  refine k_cut (α := ZN) (fun z s => Facts E0 σ s [cel q5 hd9, own z.x4 768 z.c4 1 (u8l firstB), own z.x5 512 z.c5 1 (u8l smallB), cel z.h (rhC 0 0 none 0 0), cel z.m (rmC z.x4 768 z.c4 z.x5 z.c5 z.h 0 0)]) (fun z => [(2, .pointer (some ⟨z.m, 0, none⟩)), (3, .int .i64 0), (4, .int .i64 36)]) (fun Q KC => ?_) ?_
  · have h0 := h
    refine k_lset [0, 1, 2, 3, 6, 8, 9, 13] 9 (encN ((false, false, false, false), 0)) rfl (by kernel_rfl) fun W KW => ?_
    refine l_op 0 rfl rfl rfl rfl rfl ?_
    refine l_op 2 rfl rfl rfl rfl rfl ?_
    refine l_ldc F 0 rfl rfl rfl rfl rfl rfl rfl ?_
    refine l_c64 rfl rfl rfl (by omega) rfl ?_
    refine l_op 0 rfl rfl rfl rfl rfl ?_
    refine l_ldca F 0 rfl rfl rfl rfl rfl rfl rfl ?_
    refine l_bld (vs := rhC 0 0 none 0 0) rfl (by kernel_rfl) rfl rfl ?_
    refine l_op 0 rfl rfl rfl rfl rfl ?_
    refine l_nil ?_
    have hI0 : ∀ env : Env, env 18 = .slice a 512 c → env 21 = .int .i64 768 → env 24 = .slice a 512 c → env 26 = .agg hd9.toArray → env 27 = .agg (rhC 0 0 none 0 0).toArray → env 31 = .int .i64 36 → ∃ z, IN σ q5 a c z ((false, false, false, false), 0) (pnAdd (pnAdd (some []) (some q5)) (some q5)) env s := by
      intro env h1 h2 h3 h4 h5 h6
      refine ⟨⟨none, 0, none, 0, 0, 0⟩, ⟨?_, rfl, h1, h2, h3, h4, h5, h6, (fun h => by cases h), (fun h => by cases h), (fun h => by cases h), (fun h => by cases h), no_leN (k := 0) (by omega), no_leN (k := 0) (by omega), no_leN (k := 0) (by omega), no_leN (k := 0) (by omega), no_leN (k := 0) (by omega)⟩⟩
      exact (((F.nilrow 1).nilrow 1).nilrow 1).nilrow 1
    refine linS_st encN nxtN leftN allN (by kernel_rfl) (fun st pn env s => st ∈ allN ∧ ∃ z, IN σ q5 a c z st pn env s) ?_ ?_ 9 _ _ _ _ rfl (List.contains_iff_mem.1 (by kernel_rfl)) ⟨List.contains_iff_mem.1 (by kernel_rfl), hI0 _ rfl rfl rfl rfl rfl rfl⟩
    · intro st pn env s' hn hs ⟨_, z, hI⟩
      obtain ⟨hk, hk2⟩ := allN_end hn hs
      obtain ⟨sb, sk⟩ := st
      dsimp only at hk hk2
      subst hk; subst hk2
      obtain ⟨F, rfl, e18, e21, e24, e26, e27, e31, e22, e23, e25, e28, e29, e30, e2, e3, e4⟩ := hI
      exact KW.nx (KC.nx z ⟨e2 (by decide), e3 (by decide), e4 (by decide), trivial⟩ F)
    · intro st i' st' hmm pn env s' ⟨hin, z, hI⟩
      have hin2 := nxtN_in hin hmm
      obtain ⟨hin3, hin4⟩ := allN_in hin
      obtain ⟨⟨sa, sb, sc, sd⟩, sk⟩ := st
      obtain ⟨F, rfl, e18, e21, e24, e26, e27, e31, e22, e23, e25, e28, e29, e30, e2, e3, e4⟩ := hI
      dsimp only at F e22 e23 e25 e28 e29 e30 e2 e3 e4 hin3 hin4
      rcases nxtN_mem hmm with h | h | h | h | h | h | h | h | h
      · obtain ⟨ha, h3⟩ := h
        obtain ⟨rfl, rfl⟩ := Prod.mk.inj h3
        dsimp only at ha
        subst ha
        have hk0 : sk = 0 := by
          by_cases hk : sk = 0
          · exact hk
          · exact absurd (congrArg Prod.fst (hin3 (by omega))) (fun h => Bool.noConfusion (show false = true from h))
        subst hk0
        have hd0 : sd = false := by
          cases sd with
          | false => rfl
          | true => exact absurd (hin4 rfl).1 (fun h => Bool.noConfusion (show false = true from h))
        subst hd0
        refine ⟨_, rfl, ?_⟩
        refine l_callp F rfl (by show some (107, [env 18, env 21]) = _; rw [e18, e21]) (by kernel_rfl) rfl rfl (fresh_call (Old.pure (F.old h0))) (fun y s' F _ => ?_) (.inl (PnA.cel F 0 rfl (PnA.cel F 0 rfl pna_nil)))
        exact l_nil ⟨hin2, ⟨y.1, y.2, z.x5, z.c5, z.h, z.m⟩, F.pick [0, 5, 2, 3, 4] (by decide), rfl, e18, e21, e24, e26, e27, e31, fun _ => rfl, e23, (fun h => by cases h), e28, no_leN (k := 0) (by omega), no_leN (k := 0) (by omega), no_leN (k := 0) (by omega), no_leN (k := 0) (by omega), no_leN (k := 0) (by omega)⟩
      · obtain ⟨hb, h3⟩ := h
        obtain ⟨rfl, rfl⟩ := Prod.mk.inj h3
        dsimp only at hb
        subst hb
        have hk0 : sk = 0 := by
          by_cases hk : sk = 0
          · exact hk
          · exact absurd (congrArg (fun x => x.2.1) (hin3 (by omega))) (fun h => Bool.noConfusion (show false = true from h))
        subst hk0
        have hd0 : sd = false := by
          cases sd with
          | false => rfl
          | true => exact absurd (hin4 rfl).2 (fun h => Bool.noConfusion (show false = true from h))
        subst hd0
        refine ⟨_, rfl, ?_⟩
        refine l_lit F rfl rfl rfl rfl (fun m s' F => ?_) (.inl (PnA.cel F 0 rfl (PnA.cel F 0 rfl pna_nil)))
        exact l_nil ⟨hin2, ⟨z.x4, z.c4, some ⟨m, 0, some 0⟩, 0, z.h, z.m⟩, F.pick [0, 1, 5, 3, 4] (by decide), rfl, e18, e21, e24, e26, e27, e31, e22, (fun _ _ => rfl), (fun h => by cases h), e28, no_leN (k := 0) (by omega), no_leN (k := 0) (by omega), no_leN (k := 0) (by omega), no_leN (k := 0) (by omega), no_leN (k := 0) (by omega)⟩
      · obtain ⟨⟨ha, hb, hd⟩, h3⟩ := h
        obtain ⟨rfl, rfl⟩ := Prod.mk.inj h3
        dsimp only at ha hb hd
        subst ha; subst hb; subst hd
        have hk0 : sk = 0 := by
          by_cases hk : sk = 0
          · exact hk
          · exact absurd (congrArg (fun x => x.2.2.2) (hin3 (by omega))) (fun h => Bool.noConfusion (show false = true from h))
        subst hk0
        refine ⟨_, rfl, ?_⟩
        refine l_app (es := 1) (len := 0) (vs := []) F 2 rfl rfl rfl rfl (e23 rfl rfl) rfl e24 (F.old h0) (ints_one _) rfl (by omega) hD (fun x2 c2 s' F => ?_) (.inl (PnA.celE F 0 2 rfl rfl (by decide) (PnA.celE F 0 2 rfl rfl (by decide) pna_nil)))
        exact l_nil ⟨hin2, ⟨z.x4, z.c4, x2, c2, z.h, z.m⟩, F.pick [0, 1, 2, 3, 4] (by decide), rfl, e18, e21, e24, e26, e27, e31, e22, (fun _ h => by cases h), (fun _ => rfl), e28, no_leN (k := 0) (by omega), no_leN (k := 0) (by omega), no_leN (k := 0) (by omega), no_leN (k := 0) (by omega), no_leN (k := 0) (by omega)⟩
      · obtain ⟨hc, h3⟩ := h
        obtain ⟨rfl, rfl⟩ := Prod.mk.inj h3
        dsimp only at hc
        subst hc
        have hk0 : sk = 0 := by
          by_cases hk : sk = 0
          · exact hk
          · exact absurd (congrArg (fun x => x.2.2.1) (hin3 (by omega))) (fun h => Bool.noConfusion (show false = true from h))
        subst hk0
        refine ⟨_, rfl, ?_⟩
        refine l_bx F rfl rfl rfl rfl e27 (fun m s' F => ?_) (.inl (PnA.cel F 0 rfl (PnA.cel F 0 rfl pna_nil)))
        exact l_nil ⟨hin2, ⟨z.x4, z.c4, z.x5, z.c5, m, z.m⟩, F.pick [0, 1, 2, 5, 4] (by decide), rfl, e18, e21, e24, e26, e27, e31, e22, e23, e25, (fun _ => rfl), no_leN (k := 0) (by omega), no_leN (k := 0) (by omega), no_leN (k := 0) (by omega), no_leN (k := 0) (by omega), no_leN (k := 0) (by omega)⟩
      · obtain ⟨⟨hc, hd, hk⟩, h3⟩ := h
        obtain ⟨rfl, rfl⟩ := Prod.mk.inj h3
        dsimp only at hc hd hk
        subst hc; subst hd; subst hk
        obtain ⟨ha, hb⟩ := hin4 rfl
        subst ha; subst hb
        refine ⟨_, rfl, ?_⟩
        refine l_bld (vs := rmC z.x4 768 z.c4 z.x5 z.c5 z.h 0 0) rfl ?_ rfl rfl ?_
        · show (match aBuild Tryz.prog 105 [(0, env 22), (1, env 25), (2, env 26), (3, env 28)] with | some (.agg cs) => fvs cs.toList | _ => none) = _
          rw [e22 rfl, e25 rfl, e26, e28 rfl]
          kernel_rfl
        exact l_nil ⟨hin2, z, F, rfl, e18, e21, e24, e26, e27, e31, e22, e23, e25, e28, (fun _ => rfl), no_leN (k := 1) (by omega), no_leN (k := 1) (by omega), no_leN (k := 1) (by omega), no_leN (k := 1) (by omega)⟩
      · obtain ⟨hk, h3⟩ := h
        obtain ⟨rfl, rfl⟩ := Prod.mk.inj h3
        dsimp only at hk
        subst hk
        refine ⟨_, rfl, ?_⟩
        refine l_bx F rfl rfl rfl rfl (e29 (by decide)) (fun m s' F => ?_) (.inl (PnA.cel F 0 rfl (PnA.cel F 0 rfl pna_nil)))
        exact l_nil ⟨hin2, ⟨z.x4, z.c4, z.x5, z.c5, z.h, m⟩, F.pick [0, 1, 2, 3, 5] (by decide), rfl, e18, e21, e24, e26, e27, e31, e22, e23, e25, e28, (fun _ => e29 (by decide)), (fun _ => rfl), no_leN (k := 2) (by omega), no_leN (k := 2) (by omega), no_leN (k := 2) (by omega)⟩
      · obtain ⟨hk, h3⟩ := h
        obtain ⟨rfl, rfl⟩ := Prod.mk.inj h3
        dsimp only at hk
        subst hk
        refine ⟨_, rfl, ?_⟩
        refine l_asE (x := .tmp 30) (.inl rfl) rfl rfl rfl (e30 (by decide)) ?_
        exact l_nil ⟨hin2, z, F, rfl, e18, e21, e24, e26, e27, e31, e22, e23, e25, e28, (fun _ => e29 (by decide)), (fun _ => e30 (by decide)), (fun _ => rfl), no_leN (k := 3) (by omega), no_leN (k := 3) (by omega)⟩
      · obtain ⟨hk, h3⟩ := h
        obtain ⟨rfl, rfl⟩ := Prod.mk.inj h3
        dsimp only at hk
        subst hk
        refine ⟨_, rfl, ?_⟩
        refine l_op 0 rfl rfl rfl rfl rfl ?_
        exact l_nil ⟨hin2, z, F, rfl, e18, e21, e24, e26, e27, e31, e22, e23, e25, e28, (fun _ => e29 (by decide)), (fun _ => e30 (by decide)), (fun _ => e2 (by decide)), (fun _ => rfl), no_leN (k := 4) (by omega)⟩
      · obtain ⟨hk, h3⟩ := h
        obtain ⟨rfl, rfl⟩ := Prod.mk.inj h3
        dsimp only at hk
        subst hk
        refine ⟨_, rfl, ?_⟩
        refine l_asE (x := .tmp 31) (.inl rfl) rfl rfl rfl e31 ?_
        exact l_nil ⟨hin2, z, F, rfl, e18, e21, e24, e26, e27, e31, e22, e23, e25, e28, (fun _ => e29 (by decide)), (fun _ => e30 (by decide)), (fun _ => e2 (by decide)), (fun _ => e3 (by decide)), (fun _ => rfl)⟩
  · clear F
    rintro z env s F
    refine k_ret ?_
    refine FunK.rt (by assumption) rfl ?_
    -- leaf 1
    first
    | exact ⟨z, rfl, (F.nilrow 2).pick [4, 1, 2, 3, 5] (by decide), trivial⟩

end Go.Proofs.YtocfmecenpeoiaaGreat
