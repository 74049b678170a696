/- The law of states that are told in turn. No statement of the seat is proved in this text. -/
import Derived.Test.YtddenboepgfbgaaUnC
import Derived.Test.YtddenboepgfbgaaLive17
set_option linter.unusedVariables false
set_option linter.unusedSimpArgs false
set_option maxRecDepth 100000
set_option maxHeartbeats 8000000
namespace Go.Proofs.Ytddenboepgfbgaa
open GAb Go

/-- A step: is it a pop, and the state that is pushed. -/
abbrev ST := Bool × SS
abbrev eP (p : ST) : List Value := .bool (irr p.1) :: eS p.2
theorem eP_len (p : ST) : (eP p).length = 5 := rfl
def BdS (t : SS) : Prop := (t.ml ≤ 1000000 ∧ t.bl ≤ 1000000 ∧ t.sl ≤ 1000000) ∧ Bytes t.m ∧ Bytes t.s
structure OldL (O : Nat → Prop) (σ : AState) (a : Option Addr) (l c : Nat) (ps : List ST) : Prop where
  old : Old O σ a l c 5 (rows eP ps)
  m : ∀ p ∈ ps, Old O σ p.2.mx p.2.ml p.2.mc 1 (u8l p.2.m)
  b : ∀ p ∈ ps, Old O σ p.2.bx p.2.bl p.2.bc 2 (rows eB p.2.b)
  s : ∀ p ∈ ps, Old O σ p.2.sx p.2.sl p.2.sc 1 (u8l p.2.s)
  byt : ∀ p ∈ ps, Bytes p.2.m ∧ Bytes p.2.s
  bd : ∀ p ∈ ps, (p.2.ml : Int) ≤ 140737488355328 ∧ (p.2.bl : Int) ≤ 140737488355328 ∧ (p.2.sl : Int) ≤ 140737488355328
def sumS : List ST → Int
  | [] => 0
  | p :: ps => p.2.ml + p.2.sl + p.2.bl + sumS ps
theorem sumS_nn : ∀ ps : List ST, 0 ≤ sumS ps
  | [] => by simp [sumS]
  | p :: ps => by have := sumS_nn ps; simp only [sumS]; omega
theorem sumS_take {ps : List ST} {i : Nat} (h : i < ps.length) : sumS (ps.take (i + 1)) = sumS (ps.take i) + (ps.getD i default).2.ml + (ps.getD i default).2.sl + (ps.getD i default).2.bl := by
  induction ps generalizing i with
  | nil => cases h
  | cons p ps ih =>
    cases i with
    | zero => simp [sumS]
    | succ i =>
      simp only [List.take_succ_cons, sumS, List.getD_cons_succ]
      rw [ih (by simp at h; omega)]
      omega
theorem sumS_mem : ∀ {ps : List ST} {p : ST}, p ∈ ps → (p.2.ml : Int) + p.2.sl + p.2.bl ≤ sumS ps
  | q :: ps, p, h => by
    have := sumS_nn ps
    simp only [sumS]
    rcases List.mem_cons.1 h with rfl | h
    · omega
    · have := sumS_mem h; omega
theorem memP {ps : List ST} {i : Nat} (hi : i < ps.length) : ps.getD i default ∈ ps := by
  simp only [List.getD, List.getElem?_eq_getElem hi, Option.getD_some]; exact List.getElem_mem hi
theorem num17_call {σ : AState} {x : Int} : SCall Try.prog (fun _ => False) 16 [.int .i64 x] σ (fun v s => v = .int .i64 x ∧ s = σ) := by
  refine k_fun Try.func16 rfl (m := 4) rfl fun B hD Q K => ?_
  refine k_seq (fun Q K => ?_)
  refine k_lin (fun W K => ?_)
  refine l_op 0 rfl rfl rfl rfl rfl ?_
  refine l_nil (WK.nx (by assumption) ?_)
  refine SeqK.nx (by assumption) ?_
  refine k_seq (fun Q K => ?_)
  refine k_lin (fun W K => ?_)
  refine l_op 0 rfl rfl rfl rfl rfl ?_
  refine l_op 0 rfl rfl rfl rfl rfl ?_
  refine l_nil (WK.nx (by assumption) ?_)
  refine SeqK.nx (by assumption) ?_
  refine k_ret ?_
  refine FunK.rt (by assumption) rfl ?_
  -- leaf 1
  exact ⟨rfl, rfl⟩
theorem AtR.tail {σ : AState} {m b : Nat} {v : Value} {ws : List Value} (h : AtR σ m b (v :: ws)) : AtR σ m (b + 1) ws := fun j k hjk => by
  have := h (1 + j) k (by simp only [List.length_cons]; omega)
  rw [show b + 1 + j = b + (1 + j) by omega, this, show 1 + j = j + 1 by omega]
  rfl
structure UG where
  a : Option Addr
  c : Nat
  L : List SS
  D : List Fact
  ra : Option Addr
  j : Nat
  rc : Nat
  P : List SS
  R : List SS
structure UOK (ps : List ST) (most : Int) (g : UG) : Prop where
  ex : Ex g.a
  inD : InS g.L g.D
  same : g.L.map plS = g.R.map plS
  bd : ∀ t ∈ g.L, BdS t
  from_ : ∀ r ∈ g.R, ∃ p ∈ ps, p.2 = r
  pl : g.P.length = g.j
  few : (g.R.length : Int) ≤ most
abbrev ugF (u : Nat) (most : Int) (g : UG) : List Fact := [cel u [.slice g.a g.L.length g.c, .int .i64 most], own g.a g.L.length g.c 4 (rows eS g.L), many g.D, own g.ra (g.j + g.R.length) g.rc 4 (rows eS (g.P ++ g.R))]
theorem UOK.len {ps : List ST} {most : Int} {g : UG} (o : UOK ps most g) : g.L.length = g.R.length := by
  have := congrArg List.length o.same
  simpa using this
theorem undo_bad {σ : AState} {a : Option Addr} {l c : Nat} {ps : List ST} {most : Int} (hgd : most < 0 ∨ most > 64) (hw : -9223372036854775808 ≤ most ∧ most ≤ 9223372036854775807) (h : OldL E0 σ a l c ps) :
    SCall Try.prog E0 6 [.int .i64 most, .slice a l c] σ (fun v _ => v = .bool true) := by
  have ho := h.old
  have hpl : ps.length = l := ho.1.len eP_len (by decide)
  refine k_fun Try.func6 rfl (m := 178) rfl fun B hD Q K => ?_
  have F := Facts.nil E0 σ
  refine k_seq (fun Q K => ?_)
  refine k_lin (fun W K => ?_)
  refine l_op 0 rfl rfl rfl rfl rfl ?_
  refine l_nil (WK.nx (by assumption) ?_)
  refine SeqK.nx (by assumption) ?_
  refine k_seq (fun Q K => ?_)
  refine k_lin (fun W K => ?_)
  refine l_op 0 rfl rfl rfl rfl rfl ?_
  refine l_nil (WK.nx (by assumption) ?_)
  refine SeqK.nx (by assumption) ?_
  refine k_cut (α := Int) (fun n s => Facts E0 σ s [] ∧ ((l : Int) ≤ 200 → n = sumS ps)) (fun n => [(0, .int .i64 most), (1, .slice a l c), (5, .int .i64 n)]) (fun Q KC => ?_) ?_
  · refine k_seq (fun Q K => ?_)
    refine k_lin (fun W K => ?_)
    refine l_op 0 rfl rfl rfl rfl rfl ?_
    refine l_nil (WK.nx (by assumption) ?_)
    refine SeqK.nx (by assumption) ?_
    refine k_block (fun Q K => ?_)
    refine k_loop (α := Int × Int) (fun ⟨i, n⟩ s => Facts E0 σ s [] ∧ 0 ≤ i ∧ i ≤ l ∧ i ≤ 300 ∧ n = sumS (ps.take i.toNat) ∧ n ≤ 500000000000000 * i) (fun ⟨i, n⟩ => [(0, .int .i64 most), (1, .slice a l c), (5, .int .i64 n), (6, .int .i64 i)]) (fun ⟨i, _⟩ => (l - i).toNat) (0, 0) ⟨F, by omega, by omega, by omega, rfl, by omega⟩ (by repeat (first | exact trivial | refine And.intro rfl ?_)) ?_
    clear F
    rintro ⟨i, n⟩ env s Q K0 ⟨F, i0, i1, i3, hn, hn2⟩
    have hnn := sumS_nn (ps.take i.toNat)
    refine k_seq (fun Q K => ?_)
    refine k_seq (fun Q K => ?_)
    refine k_lin (fun W K => ?_)
    refine l_op 0 rfl rfl rfl rfl rfl ?_
    refine l_op 0 rfl rfl rfl rfl rfl ?_
    first | refine l_op 2 rfl rfl rfl rfl rfl ?_ | refine l_ln rfl rfl rfl rfl ?_
    refine l_cmp rfl rfl rfl rfl ?_
    refine l_op 0 rfl rfl rfl rfl rfl ?_
    refine l_guard rfl rfl rfl (fun hc1 => ?_) (fun hc1 => ?_)
    · replace hc1 := of_decide_eq_true ((irr_eq _).symm.trans hc1)
      refine l_op 0 rfl rfl rfl rfl rfl ?_
      refine l_cmp rfl rfl rfl rfl ?_
      refine l_op 2 rfl rfl rfl rfl rfl ?_
      refine l_nil (WK.nx (by assumption) ?_)
      refine SeqK.nx (by assumption) ?_
      refine l_cond rfl rfl (fun hc2 => ?_) (fun hc2 => ?_)
      · replace hc2 := of_decide_eq_true ((irr_eq _).symm.trans hc2)
        have hst := sumS_take (ps := ps) (i := i.toNat) (by omega)
        have e1 : (i + 1).toNat = i.toNat + 1 := by omega
        obtain ⟨hb1, hb2, hb3⟩ := h.bd _ (memP (i := i.toNat) (by omega))
        refine k_skip ?_
        refine SeqK.nx (by assumption) ?_
        refine k_seq (fun Q K => ?_)
        refine k_block (fun Q K => ?_)
        refine k_linm [0, 1, 2, 3, 4, 5, 9, 10, 11, 12, 13, 17, 18, 19, 20, 21, 6, 7, 8, 14, 15, 16, 22, 23, 24, 25] mixed (by kernel_rfl) (fun W K => ?_)
        try have hpS := F.pns
        refine l_op 0 rfl rfl rfl rfl rfl ?_
        refine l_op 0 rfl rfl rfl rfl rfl ?_
        refine l_op 0 rfl rfl rfl rfl rfl ?_
        first | refine l_ixrs (e := eP) F ho ⟨eP_len, by decide⟩ rfl rfl rfl rfl rfl rfl (by omega) (fun m28 b28 hA28 hS28 => ?_) | refine l_ixr (e := eP) rfl rfl rfl rfl rfl rfl (F.old ho) ⟨eP_len, by decide⟩ (by omega) (fun m28 b28 hA28 => ?_)
        refine l_op 2 rfl rfl rfl rfl rfl ?_
        refine l_op 2 rfl rfl rfl rfl rfl ?_
        refine l_op 0 rfl rfl rfl rfl rfl ?_
        refine l_op 0 rfl rfl rfl rfl rfl ?_
        first | refine l_ixrs (e := eP) F ho ⟨eP_len, by decide⟩ rfl rfl rfl rfl rfl rfl (by omega) (fun m36 b36 hA36 hS36 => ?_) | refine l_ixr (e := eP) rfl rfl rfl rfl rfl rfl (F.old ho) ⟨eP_len, by decide⟩ (by omega) (fun m36 b36 hA36 => ?_)
        refine l_op 2 rfl rfl rfl rfl rfl ?_
        refine l_op 2 rfl rfl rfl rfl rfl ?_
        refine l_op 0 rfl rfl rfl rfl rfl ?_
        refine l_op 0 rfl rfl rfl rfl rfl ?_
        first | refine l_ixrs (e := eP) F ho ⟨eP_len, by decide⟩ rfl rfl rfl rfl rfl rfl (by omega) (fun m44 b44 hA44 hS44 => ?_) | refine l_ixr (e := eP) rfl rfl rfl rfl rfl rfl (F.old ho) ⟨eP_len, by decide⟩ (by omega) (fun m44 b44 hA44 => ?_)
        refine l_op 2 rfl rfl rfl rfl rfl ?_
        refine l_op 2 rfl rfl rfl rfl rfl ?_
        refine l_ldj (j := 1) rfl rfl rfl rfl rfl rfl hA28 rfl ?_
        first | refine l_op 2 rfl rfl rfl rfl rfl ?_ | refine l_ln rfl rfl rfl rfl ?_
        (first | refine l_a64 rfl rfl rfl (by omega) rfl ?_ | refine l_a32 rfl rfl rfl (by omega) rfl ?_ | refine l_a8 rfl rfl rfl (by omega) rfl ?_ | refine l_au64 rfl rfl rfl (by omega) rfl ?_ | refine l_op 1 rfl rfl rfl rfl rfl ?_)
        refine l_ldj (j := 4) rfl rfl rfl rfl rfl rfl hA36 rfl ?_
        first | refine l_op 2 rfl rfl rfl rfl rfl ?_ | refine l_ln rfl rfl rfl rfl ?_
        (first | refine l_a64 rfl rfl rfl (by omega) rfl ?_ | refine l_a32 rfl rfl rfl (by omega) rfl ?_ | refine l_a8 rfl rfl rfl (by omega) rfl ?_ | refine l_au64 rfl rfl rfl (by omega) rfl ?_ | refine l_op 1 rfl rfl rfl rfl rfl ?_)
        refine l_ldj (j := 3) rfl rfl rfl rfl rfl rfl hA44 rfl ?_
        first | refine l_op 2 rfl rfl rfl rfl rfl ?_ | refine l_ln rfl rfl rfl rfl ?_
        (first | refine l_a64 rfl rfl rfl (by omega) rfl ?_ | refine l_a32 rfl rfl rfl (by omega) rfl ?_ | refine l_a8 rfl rfl rfl (by omega) rfl ?_ | refine l_au64 rfl rfl rfl (by omega) rfl ?_ | refine l_op 1 rfl rfl rfl rfl rfl ?_)
        refine l_op 0 rfl rfl rfl rfl rfl ?_
        refine l_nil (WK.nx (by assumption) ?_)
        refine BlkK.nx (by assumption) ?_
        refine SeqK.nx (by assumption) ?_
        refine k_lin (fun W K => ?_)
        refine l_op 0 rfl rfl rfl rfl rfl ?_
        (first | refine l_a64 rfl rfl rfl (by omega) rfl ?_ | refine l_a32 rfl rfl rfl (by omega) rfl ?_ | refine l_a8 rfl rfl rfl (by omega) rfl ?_ | refine l_au64 rfl rfl rfl (by omega) rfl ?_ | refine l_op 1 rfl rfl rfl rfl rfl ?_)
        refine l_op 0 rfl rfl rfl rfl rfl ?_
        refine l_nil (WK.nx (by assumption) ?_)
        exact K0.nx (i + 1, _) (by repeat (first | exact trivial | refine And.intro rfl ?_)) ⟨F, by omega, by omega, by omega, by rw [e1, hst, ← hn], by omega⟩ (by first | omega | (simp only; omega))
      replace hc2 := of_decide_eq_false ((irr_eq _).symm.trans hc2)
      refine k_exit ?_
      refine SeqK.et (by assumption) ?_
      refine LoopK.et (by assumption) ?_
      refine BlkK.et (by assumption) ?_
      refine KC.nx n (by repeat (first | exact trivial | refine And.intro rfl ?_)) ⟨F, fun hl => ?_⟩
      rw [hn, List.take_of_length_le (by omega)]
    replace hc1 := of_decide_eq_false ((irr_eq _).symm.trans hc1)
    refine l_s rfl rfl ?_
    refine l_s rfl rfl ?_
    refine l_op 2 rfl rfl rfl rfl rfl ?_
    refine l_nil (WK.nx (by assumption) ?_)
    refine SeqK.nx (by assumption) ?_
    first | refine e_cond_f rfl rfl rfl ?_ | refine e_cond_f rfl rfl (by rw [irr_eq]; first | exact beq_eq_false_iff_ne.2 (by assumption) | exact decide_eq_false (by assumption) | exact bne_eq_false_iff_eq.2 (by assumption)) ?_
    refine k_exit ?_
    refine SeqK.et (by assumption) ?_
    refine LoopK.et (by assumption) ?_
    refine BlkK.et (by assumption) ?_
    refine KC.nx n (by repeat (first | exact trivial | refine And.intro rfl ?_)) ⟨F, fun hl => ?_⟩
    rw [hn, List.take_of_length_le (by omega)]
  · clear F
    rintro n env s ⟨F, hn⟩
    refine k_seq (fun Q K => ?_)
    refine k_seq (fun Q K => ?_)
    refine k_lin (fun W K => ?_)
    refine l_op 0 rfl rfl rfl rfl rfl ?_
    first | refine l_op 2 rfl rfl rfl rfl rfl ?_ | refine l_ln rfl rfl rfl rfl ?_
    refine l_cmp rfl rfl rfl rfl ?_
    refine l_op 0 rfl rfl rfl rfl rfl ?_
    refine l_guard rfl rfl rfl (fun hc3 => ?_) (fun hc3 => ?_)
    · replace hc3 := of_decide_eq_true ((irr_eq _).symm.trans hc3)
      refine l_s rfl rfl ?_
      refine l_s rfl rfl ?_
      refine l_op 2 rfl rfl rfl rfl rfl ?_
      refine l_nil (WK.nx (by assumption) ?_)
      refine SeqK.nx (by assumption) ?_
      first | refine e_cond_t rfl rfl rfl ?_ | refine e_cond_t rfl rfl (by rw [irr_eq]; first | exact beq_iff_eq.2 (by assumption) | exact decide_eq_true (by assumption) | exact bne_iff_ne.2 (by assumption)) ?_
      refine k_seq (fun Q K => ?_)
      refine k_lin (fun W K => ?_)
      refine l_callv rfl rfl (by kernel_rfl) rfl rfl (live17_call _ _) ?_
      (try dsimp only [n_1, n_2, n_3, n_4, List.append_nil, pk, n_5, n_6] at F)
      refine l_op 0 rfl rfl rfl rfl rfl ?_
      refine l_nil (WK.nx (by assumption) ?_)
      refine SeqK.nx (by assumption) ?_
      refine k_ret ?_
      refine SeqK.rt (by assumption) ?_
      refine FunK.rt (by assumption) rfl ?_
      -- leaf 1
      first
      | rfl
      | (exfalso; omega)
      | (simp_all; done)
    replace hc3 := of_decide_eq_false ((irr_eq _).symm.trans hc3)
    refine l_op 0 rfl rfl rfl rfl rfl ?_
    refine l_cmp rfl rfl rfl rfl ?_
    refine l_op 2 rfl rfl rfl rfl rfl ?_
    refine l_nil (WK.nx (by assumption) ?_)
    refine SeqK.nx (by assumption) ?_
    refine l_cond rfl rfl (fun hc4 => ?_) (fun hc4 => ?_)
    · replace hc4 := of_decide_eq_true ((irr_eq _).symm.trans hc4)
      refine k_seq (fun Q K => ?_)
      refine k_lin (fun W K => ?_)
      refine l_callv rfl rfl (by kernel_rfl) rfl rfl (live17_call _ _) ?_
      (try dsimp only [n_1, n_2, n_3, n_4, List.append_nil, pk, n_5, n_6] at F)
      refine l_op 0 rfl rfl rfl rfl rfl ?_
      refine l_nil (WK.nx (by assumption) ?_)
      refine SeqK.nx (by assumption) ?_
      refine k_ret ?_
      refine SeqK.rt (by assumption) ?_
      refine FunK.rt (by assumption) rfl ?_
      -- leaf 2
      first
      | rfl
      | (exfalso; omega)
      | (simp_all; done)
    replace hc4 := of_decide_eq_false ((irr_eq _).symm.trans hc4)
    refine k_skip ?_
    refine SeqK.nx (by assumption) ?_
    refine k_seq (fun Q K => ?_)
    refine k_lin (fun W K => ?_)
    refine l_op 0 rfl rfl rfl rfl rfl ?_
    refine l_callp F rfl rfl (by kernel_rfl) rfl rfl (unewbad_call hgd hw) (fun _ s F _ => ?_)
    (try dsimp only [n_1, n_2, n_3, n_4, List.append_nil, pk, n_5, n_6] at F)
    refine l_op 0 rfl rfl rfl rfl rfl ?_
    refine l_op 2 rfl rfl rfl rfl rfl ?_
    refine l_op 2 rfl rfl rfl rfl rfl ?_
    refine l_op 0 rfl rfl rfl rfl rfl ?_
    refine l_op 0 rfl rfl rfl rfl rfl ?_
    refine l_nil (WK.nx (by assumption) ?_)
    refine SeqK.nx (by assumption) ?_
    refine k_seq (fun Q K => ?_)
    refine k_seq (fun Q K => ?_)
    refine k_lin (fun W K => ?_)
    refine l_op 0 rfl rfl rfl rfl rfl ?_
    refine l_cmp rfl rfl rfl rfl ?_
    refine l_op 0 rfl rfl rfl rfl rfl ?_
    refine l_guard rfl rfl rfl (fun hc5 => ?_) (fun hc5 => ?_)
    · replace hc5 := of_decide_eq_true ((irr_eq _).symm.trans hc5)
      refine l_s rfl rfl ?_
      refine l_s rfl rfl ?_
      refine l_op 2 rfl rfl rfl rfl rfl ?_
      refine l_nil (WK.nx (by assumption) ?_)
      refine SeqK.nx (by assumption) ?_
      first | refine e_cond_t rfl rfl rfl ?_ | refine e_cond_t rfl rfl (by rw [irr_eq]; first | exact beq_iff_eq.2 (by assumption) | exact decide_eq_true (by assumption) | exact bne_iff_ne.2 (by assumption)) ?_
      refine k_seq (fun Q K => ?_)
      refine k_lin (fun W K => ?_)
      refine l_op 0 rfl rfl rfl rfl rfl ?_
      refine l_cmp rfl rfl rfl rfl ?_
      refine l_op 0 rfl rfl rfl rfl rfl ?_
      refine l_guard rfl rfl rfl (fun hc6 => ?_) (fun hc6 => ?_)
      · first | replace hc6 := eq_of_beq ((irr_eq _).symm.trans hc6) | simp only [irr_eq, beq_iff_eq, beq_eq_false_iff_ne, ne_eq, decide_eq_true_eq, decide_eq_false_iff_not] at hc6
        refine l_op 0 rfl rfl rfl rfl rfl ?_
        refine l_callv rfl rfl (by kernel_rfl) rfl rfl num17_call ?_
        (try dsimp only [n_1, n_2, n_3, n_4, List.append_nil, pk, n_5, n_6] at F)
        refine l_cmp rfl rfl rfl rfl ?_
        refine l_op 2 rfl rfl rfl rfl rfl ?_
        refine l_op 0 rfl rfl rfl rfl rfl ?_
        refine l_guard rfl rfl rfl (fun hc7 => ?_) (fun hc7 => ?_)
        · first | replace hc7 := eq_of_beq ((irr_eq _).symm.trans hc7) | simp only [irr_eq, beq_iff_eq, beq_eq_false_iff_ne, ne_eq, decide_eq_true_eq, decide_eq_false_iff_not] at hc7
          refine l_callv rfl rfl (by kernel_rfl) rfl rfl (live17_call _ _) ?_
          (try dsimp only [n_1, n_2, n_3, n_4, List.append_nil, pk, n_5, n_6] at F)
          refine l_op 2 rfl rfl rfl rfl rfl ?_
          refine l_op 0 rfl rfl rfl rfl rfl ?_
          refine l_nil (WK.nx (by assumption) ?_)
          refine SeqK.nx (by assumption) ?_
          refine k_ret ?_
          refine SeqK.rt (by assumption) ?_
          refine FunK.rt (by assumption) rfl ?_
          -- leaf 3
          first
          | rfl
          | (exfalso; omega)
          | (simp_all; done)
        first | replace hc7 := ne_of_beq_false ((irr_eq _).symm.trans hc7) | simp only [irr_eq, beq_iff_eq, beq_eq_false_iff_ne, ne_eq, decide_eq_true_eq, decide_eq_false_iff_not] at hc7
        refine l_s rfl rfl ?_
        refine l_op 2 rfl rfl rfl rfl rfl ?_
        refine l_op 0 rfl rfl rfl rfl rfl ?_
        refine l_nil (WK.nx (by assumption) ?_)
        refine SeqK.nx (by assumption) ?_
        refine k_ret ?_
        refine SeqK.rt (by assumption) ?_
        refine FunK.rt (by assumption) rfl ?_
        -- leaf 4
        first
        | rfl
        | (exfalso; omega)
        | (simp_all; done)
      first | replace hc6 := ne_of_beq_false ((irr_eq _).symm.trans hc6) | simp only [irr_eq, beq_iff_eq, beq_eq_false_iff_ne, ne_eq, decide_eq_true_eq, decide_eq_false_iff_not] at hc6
      refine l_s rfl rfl ?_
      refine l_s rfl rfl ?_
      refine l_s rfl rfl ?_
      refine l_op 2 rfl rfl rfl rfl rfl ?_
      refine l_op 0 rfl rfl rfl rfl rfl ?_
      refine l_s rfl rfl ?_
      refine l_op 2 rfl rfl rfl rfl rfl ?_
      refine l_op 0 rfl rfl rfl rfl rfl ?_
      refine l_nil (WK.nx (by assumption) ?_)
      refine SeqK.nx (by assumption) ?_
      refine k_ret ?_
      refine SeqK.rt (by assumption) ?_
      refine FunK.rt (by assumption) rfl ?_
      -- leaf 5
      first
      | rfl
      | (exfalso; omega)
      | (simp_all; done)
    replace hc5 := of_decide_eq_false ((irr_eq _).symm.trans hc5)
    refine l_op 0 rfl rfl rfl rfl rfl ?_
    refine l_cmp rfl rfl rfl rfl ?_
    refine l_op 2 rfl rfl rfl rfl rfl ?_
    refine l_nil (WK.nx (by assumption) ?_)
    refine SeqK.nx (by assumption) ?_
    refine l_cond rfl rfl (fun hc8 => ?_) (fun hc8 => ?_)
    · replace hc8 := of_decide_eq_true ((irr_eq _).symm.trans hc8)
      refine k_seq (fun Q K => ?_)
      refine k_lin (fun W K => ?_)
      refine l_op 0 rfl rfl rfl rfl rfl ?_
      refine l_cmp rfl rfl rfl rfl ?_
      refine l_op 0 rfl rfl rfl rfl rfl ?_
      refine l_guard rfl rfl rfl (fun hc9 => ?_) (fun hc9 => ?_)
      · first | replace hc9 := eq_of_beq ((irr_eq _).symm.trans hc9) | simp only [irr_eq, beq_iff_eq, beq_eq_false_iff_ne, ne_eq, decide_eq_true_eq, decide_eq_false_iff_not] at hc9
        refine l_op 0 rfl rfl rfl rfl rfl ?_
        refine l_callv rfl rfl (by kernel_rfl) rfl rfl num17_call ?_
        (try dsimp only [n_1, n_2, n_3, n_4, List.append_nil, pk, n_5, n_6] at F)
        refine l_cmp rfl rfl rfl rfl ?_
        refine l_op 2 rfl rfl rfl rfl rfl ?_
        refine l_op 0 rfl rfl rfl rfl rfl ?_
        refine l_guard rfl rfl rfl (fun hc10 => ?_) (fun hc10 => ?_)
        · first | replace hc10 := eq_of_beq ((irr_eq _).symm.trans hc10) | simp only [irr_eq, beq_iff_eq, beq_eq_false_iff_ne, ne_eq, decide_eq_true_eq, decide_eq_false_iff_not] at hc10
          refine l_callv rfl rfl (by kernel_rfl) rfl rfl (live17_call _ _) ?_
          (try dsimp only [n_1, n_2, n_3, n_4, List.append_nil, pk, n_5, n_6] at F)
          refine l_op 2 rfl rfl rfl rfl rfl ?_
          refine l_op 0 rfl rfl rfl rfl rfl ?_
          refine l_nil (WK.nx (by assumption) ?_)
          refine SeqK.nx (by assumption) ?_
          refine k_ret ?_
          refine SeqK.rt (by assumption) ?_
          refine FunK.rt (by assumption) rfl ?_
          -- leaf 6
          first
          | rfl
          | (exfalso; omega)
          | (simp_all; done)
        first | replace hc10 := ne_of_beq_false ((irr_eq _).symm.trans hc10) | simp only [irr_eq, beq_iff_eq, beq_eq_false_iff_ne, ne_eq, decide_eq_true_eq, decide_eq_false_iff_not] at hc10
        refine l_s rfl rfl ?_
        refine l_op 2 rfl rfl rfl rfl rfl ?_
        refine l_op 0 rfl rfl rfl rfl rfl ?_
        refine l_nil (WK.nx (by assumption) ?_)
        refine SeqK.nx (by assumption) ?_
        refine k_ret ?_
        refine SeqK.rt (by assumption) ?_
        refine FunK.rt (by assumption) rfl ?_
        -- leaf 7
        first
        | rfl
        | (exfalso; omega)
        | (simp_all; done)
      first | replace hc9 := ne_of_beq_false ((irr_eq _).symm.trans hc9) | simp only [irr_eq, beq_iff_eq, beq_eq_false_iff_ne, ne_eq, decide_eq_true_eq, decide_eq_false_iff_not] at hc9
      refine l_s rfl rfl ?_
      refine l_s rfl rfl ?_
      refine l_s rfl rfl ?_
      refine l_op 2 rfl rfl rfl rfl rfl ?_
      refine l_op 0 rfl rfl rfl rfl rfl ?_
      refine l_s rfl rfl ?_
      refine l_op 2 rfl rfl rfl rfl rfl ?_
      refine l_op 0 rfl rfl rfl rfl rfl ?_
      refine l_nil (WK.nx (by assumption) ?_)
      refine SeqK.nx (by assumption) ?_
      refine k_ret ?_
      refine SeqK.rt (by assumption) ?_
      refine FunK.rt (by assumption) rfl ?_
      -- leaf 8
      first
      | rfl
      | (exfalso; omega)
      | (simp_all; done)
    replace hc8 := of_decide_eq_false ((irr_eq _).symm.trans hc8)
    exfalso; omega

end Go.Proofs.Ytddenboepgfbgaa
