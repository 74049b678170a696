/- Acts as they come in; are there too many, are blocks the same. No statement of the seat is proved in this text. -/
import Derived.Test.YtkealnppdblgiaaHNil
import Derived.Test.YtkealnppdblgiaaHeap4
set_option linter.unusedVariables false
set_option linter.unusedSimpArgs false
set_option maxRecDepth 100000
set_option maxHeartbeats 4000000
namespace Go.Proofs.Ytkealnppdblgiaa
open GAb Go

structure Act where
  k : Int
  n : Int
  a : Int
  e : Int
  x : Option Addr
  l : Nat
  c : Nat
  zs : List (Int × Int)
  deriving Inhabited
abbrev eA (t : Act) : List Value := [.int .i64 t.k, .int .u32 t.n, .int .u32 t.a, .int .u32 t.e, .slice t.x t.l t.c]
theorem eA_len (t : Act) : (eA t).length = 5 := rfl
def ActOK (σ : AState) (t : Act) : Prop := U32 t.n ∧ U32 t.a ∧ U32 t.e ∧ Row σ t.x t.l t.c 2 (rows eB t.zs) ∧ BlkOK t.zs ∧ t.c ≤ 17592186044416
theorem opn_act : Opn Try.prog 30 fun σ vs => ∃ t : Act, vs = eA t ∧ ActOK σ t :=
  opn_mono (opn_struct Try.underlying30 (by kernel_rfl) (.cons (opn_int Try.underlying3) (.cons (opn_int Try.underlying22) (.cons (opn_int Try.underlying22) (.cons (opn_int Try.underlying22) (.cons opn_blocks .nil)))))) (fun σ vs h => by
    obtain ⟨u0, w0, rfl, ⟨n0, rfl, h0⟩, u1, w1, rfl, ⟨n1, rfl, h1⟩, u2, w2, rfl, ⟨n2, rfl, h2⟩, u3, w3, rfl, ⟨n3, rfl, h3⟩, u4, w4, rfl, ⟨x, l, c, zs, rfl, h4, h5, _, h6⟩, rfl⟩ := h
    exact ⟨⟨n0, n1, n2, n3, x, l, c, zs⟩, rfl, bounds_u32 h1, bounds_u32 h2, bounds_u32 h3, h4, h5, h6⟩) (fun σ σ' vs ⟨t, h1, h2, h3, h4, h5, h6⟩ k => ⟨t, h1, h2, h3, h4, h5.kp (Nat.le_refl _) k, h6⟩)
theorem opn_acts : Opn Try.prog 23 fun σ vs => ∃ x len cap zs, vs = [.slice x len cap] ∧ Row σ x len cap 5 (rows eA zs) ∧ ∀ t ∈ zs, ActOK σ t :=
  opn_mono (opn_slice (es := 5) Try.underlying23 (by kernel_rfl) (by decide) opn_act) (fun σ vs h => by
    obtain ⟨x, len, cap, zs, rfl, hR, hE, hM⟩ := h
    obtain ⟨xs, rfl, h1, h2⟩ := els_rows (Q := fun t => ActOK σ t) (e := eA) (es := 5) (σ := σ) hE
    exact ⟨x, len, cap, xs, rfl, hR, fun y hy => h2 y hy⟩) (fun σ σ' vs ⟨x, len, cap, zs, h1, h2, h3⟩ k => ⟨x, len, cap, zs, h1, h2.kp (Nat.le_refl _) k, fun t ht => by
      obtain ⟨g1, g2, g3, g4, g5⟩ := h3 t ht
      exact ⟨g1, g2, g3, g4.kp (Nat.le_refl _) k, g5⟩⟩)

/-- Acts that are only read. -/
structure OldA (σ : AState) (a : Option Addr) (l c : Nat) (ts : List Act) : Prop where
  old : Old E0 σ a l c 5 (rows eA ts)
  ok : ∀ t ∈ ts, U32 t.n ∧ U32 t.a ∧ U32 t.e ∧ Old E0 σ t.x t.l t.c 2 (rows eB (t.zs.take t.l)) ∧ BlkOK (t.zs.take t.l) ∧ (t.zs.take t.l).length = t.l
  cap : ∀ t ∈ ts, t.l ≤ 17592186044416
theorem OldA.len {σ : AState} {a : Option Addr} {l c : Nat} {ts : List Act} (h : OldA σ a l c ts) : ts.length = l := h.old.1.len eA_len (by decide)
theorem oldA_row {σ : AState} {a : Option Addr} {l c : Nat} {zs : List Act} (h : Row σ a l c 5 (rows eA zs) ∧ ∀ t ∈ zs, ActOK σ t) : OldA σ a l c (zs.take l) := by
  refine ⟨Old.pure ⟨_, h.1, by rw [rows_take eA_len]⟩, fun t ht => ?_, fun t ht => by
    obtain ⟨h1, h2, h3, h4, h5, h6⟩ := h.2 t (List.mem_of_mem_take ht)
    exact Nat.le_trans h4.size.2 h6⟩
  obtain ⟨h1, h2, h3, h4, h5, _⟩ := h.2 t (List.mem_of_mem_take ht)
  have h6 : Old E0 σ t.x t.l t.c 2 (rows eB (t.zs.take t.l)) := Old.pure ⟨_, h4, by rw [rows_take eB_len]⟩
  exact ⟨h1, h2, h3, h6, fun x hx => h5 x (List.mem_of_mem_take hx), h6.1.len eB_len (by decide)⟩
theorem OldA.at {σ : AState} {a : Option Addr} {l c : Nat} {ts : List Act} (h : OldA σ a l c ts) {i : Nat} (hi : i < ts.length) : U32 (ts.getD i default).n ∧ U32 (ts.getD i default).a ∧ U32 (ts.getD i default).e := by
  have := h.ok _ (List.getElem_mem hi)
  simp only [List.getD, List.getElem?_eq_getElem hi, Option.getD_some]
  exact ⟨this.1, this.2.1, this.2.2.1⟩

theorem OldA.to {σ s : AState} {L : List Fact} {a : Option Addr} {l c : Nat} {ts : List Act} (h : OldA σ a l c ts) (F : Facts E0 σ s L) : OldA s a l c ts :=
  ⟨Old.pure (F.old h.old), fun t ht => by
    obtain ⟨h1, h2, h3, h4, h5⟩ := h.ok t ht
    exact ⟨h1, h2, h3, Old.pure (F.old h4), h5⟩, h.cap⟩
theorem huge_call {σ : AState} {a : Option Addr} {l c : Nat} {ts : List Act} (h : OldA σ a l c ts) :
    SCall Try.prog E0 10 [.slice a l c] σ (Ret E0 σ (fun (b : Bool) => .bool b) (fun _ => []) fun b => b = false → ts.length ≤ 200) := by
  obtain rfl := h.len
  have ho := h.old
  refine k_fun Try.func10 rfl (m := 30) rfl fun B hD Q K => ?_
  have F := Facts.nil E0 σ
  refine k_seq (fun Q K => ?_)
  refine k_lin (fun W K => ?_)
  refine l_op 0 rfl rfl rfl rfl rfl ?_
  refine l_nil (WK.nx (by assumption) ?_)
  refine SeqK.nx (by assumption) ?_
  refine k_seq (fun Q K => ?_)
  refine k_lin (fun W K => ?_)
  refine l_op 0 rfl rfl rfl rfl rfl ?_
  refine l_nil (WK.nx (by assumption) ?_)
  refine SeqK.nx (by assumption) ?_
  refine k_seq (fun Q K => ?_)
  refine k_seq (fun Q K => ?_)
  refine k_lin (fun W K => ?_)
  refine l_op 0 rfl rfl rfl rfl rfl ?_
  refine l_nil (WK.nx (by assumption) ?_)
  refine SeqK.nx (by assumption) ?_
  refine k_block (fun Q K => ?_)
  refine k_loop (α := Int × Int) (fun ⟨i, n⟩ s => Facts E0 σ s [] ∧ 0 ≤ i ∧ i ≤ ts.length ∧ i ≤ 201) (fun ⟨i, n⟩ => [(0, .slice a ts.length c), (3, .int .i64 n), (4, .int .i64 i)]) (fun ⟨i, _⟩ => (ts.length - i).toNat) (0, 0) ⟨F, by omega, by omega, by omega⟩ (by repeat (first | exact trivial | refine And.intro rfl ?_)) ?_
  clear F
  rintro ⟨i, n⟩ env s Q K0 ⟨F, i0, i1, i2⟩
  refine k_seq (fun Q K => ?_)
  refine k_seq (fun Q K => ?_)
  refine k_lin (fun W K => ?_)
  refine l_op 0 rfl rfl rfl rfl rfl ?_
  refine l_op 0 rfl rfl rfl rfl rfl ?_
  first | refine l_op 2 rfl rfl rfl rfl rfl ?_ | refine l_ln rfl rfl rfl rfl ?_
  refine l_cmp rfl rfl rfl rfl ?_
  refine l_op 0 rfl rfl rfl rfl rfl ?_
  refine l_guard rfl rfl rfl (fun hc1 => ?_) (fun hc1 => ?_)
  · replace hc1 := of_decide_eq_true ((irr_eq _).symm.trans hc1)
    refine l_op 0 rfl rfl rfl rfl rfl ?_
    refine l_cmp rfl rfl rfl rfl ?_
    refine l_op 2 rfl rfl rfl rfl rfl ?_
    refine l_nil (WK.nx (by assumption) ?_)
    refine SeqK.nx (by assumption) ?_
    refine l_cond rfl rfl (fun hc2 => ?_) (fun hc2 => ?_)
    · replace hc2 := of_decide_eq_true ((irr_eq _).symm.trans hc2)
      refine k_skip ?_
      refine SeqK.nx (by assumption) ?_
      refine k_seq (fun Q K => ?_)
      refine k_block (fun Q K => ?_)
      refine k_lin (fun W K => ?_)
      refine l_op 0 rfl rfl rfl rfl rfl ?_
      refine l_op 0 rfl rfl rfl rfl rfl ?_
      refine l_op 0 rfl rfl rfl rfl rfl ?_
      refine l_ixr (e := eA) rfl rfl rfl rfl rfl rfl (F.old ho) ⟨eA_len, by decide⟩ (by omega) (fun m18 b18 hA18 => ?_)
      refine l_op 2 rfl rfl rfl rfl rfl ?_
      refine l_ldj rfl rfl rfl rfl rfl rfl (by assumption) rfl ?_
      first | refine l_op 2 rfl rfl rfl rfl rfl ?_ | refine l_ln rfl rfl rfl rfl ?_
      refine l_op 1 rfl rfl rfl rfl rfl ?_
      refine l_op 0 rfl rfl rfl rfl rfl ?_
      refine l_nil (WK.nx (by assumption) ?_)
      refine BlkK.nx (by assumption) ?_
      refine SeqK.nx (by assumption) ?_
      refine k_lin (fun W K => ?_)
      refine l_op 0 rfl rfl rfl rfl rfl ?_
      refine l_a64 rfl rfl rfl (by omega) rfl ?_
      refine l_op 0 rfl rfl rfl rfl rfl ?_
      refine l_nil (WK.nx (by assumption) ?_)
      have F' := F.pick [] (by decide)
      exact K0.nx (i + 1, _) (by repeat (first | exact trivial | refine And.intro rfl ?_)) ⟨F', by omega, by omega, by omega⟩ (by first | omega | (simp only; omega))
    replace hc2 := of_decide_eq_false ((irr_eq _).symm.trans hc2)
    refine k_exit ?_
    refine SeqK.et (by assumption) ?_
    refine LoopK.et (by assumption) ?_
    refine BlkK.et (by assumption) ?_
    refine SeqK.nx (by assumption) ?_
    refine k_seq (fun Q K => ?_)
    refine k_lin (fun W K => ?_)
    refine l_op 0 rfl rfl rfl rfl rfl ?_
    first | refine l_op 2 rfl rfl rfl rfl rfl ?_ | refine l_ln rfl rfl rfl rfl ?_
    refine l_cmp rfl rfl rfl rfl ?_
    refine l_op 0 rfl rfl rfl rfl rfl ?_
    refine l_guard rfl rfl rfl (fun hc3 => ?_) (fun hc3 => ?_)
    · replace hc3 := of_decide_eq_true ((irr_eq _).symm.trans hc3)
      refine l_s rfl rfl ?_
      refine l_s rfl rfl ?_
      refine l_op 2 rfl rfl rfl rfl rfl ?_
      refine l_op 0 rfl rfl rfl rfl rfl ?_
      refine l_nil (WK.nx (by assumption) ?_)
      refine SeqK.nx (by assumption) ?_
      refine k_ret ?_
      refine FunK.rt (by assumption) rfl ?_
      -- leaf 1
      first
      | exact ⟨true, rfl, F.pick [] (by decide), fun h => by cases h⟩
      | exact ⟨_, rfl, F.pick [] (by decide), fun _ => by omega⟩
    replace hc3 := of_decide_eq_false ((irr_eq _).symm.trans hc3)
    refine l_op 0 rfl rfl rfl rfl rfl ?_
    refine l_cmp rfl rfl rfl rfl ?_
    refine l_op 2 rfl rfl rfl rfl rfl ?_
    refine l_op 0 rfl rfl rfl rfl rfl ?_
    refine l_nil (WK.nx (by assumption) ?_)
    refine SeqK.nx (by assumption) ?_
    refine k_ret ?_
    refine FunK.rt (by assumption) rfl ?_
    -- leaf 2
    first
    | exact ⟨true, rfl, F.pick [] (by decide), fun h => by cases h⟩
    | exact ⟨_, rfl, F.pick [] (by decide), fun _ => by omega⟩
  replace hc1 := of_decide_eq_false ((irr_eq _).symm.trans hc1)
  refine l_s rfl rfl ?_
  refine l_s rfl rfl ?_
  refine l_op 2 rfl rfl rfl rfl rfl ?_
  refine l_nil (WK.nx (by assumption) ?_)
  refine SeqK.nx (by assumption) ?_
  first | refine e_cond_f rfl rfl rfl ?_ | refine e_cond_f rfl rfl (by rw [irr_eq]; first | exact beq_eq_false_iff_ne.2 (by assumption) | exact decide_eq_false (by assumption) | exact bne_eq_false_iff_eq.2 (by assumption)) ?_
  refine k_exit ?_
  refine SeqK.et (by assumption) ?_
  refine LoopK.et (by assumption) ?_
  refine BlkK.et (by assumption) ?_
  refine SeqK.nx (by assumption) ?_
  refine k_seq (fun Q K => ?_)
  refine k_lin (fun W K => ?_)
  refine l_op 0 rfl rfl rfl rfl rfl ?_
  first | refine l_op 2 rfl rfl rfl rfl rfl ?_ | refine l_ln rfl rfl rfl rfl ?_
  refine l_cmp rfl rfl rfl rfl ?_
  refine l_op 0 rfl rfl rfl rfl rfl ?_
  refine l_guard rfl rfl rfl (fun hc4 => ?_) (fun hc4 => ?_)
  · replace hc4 := of_decide_eq_true ((irr_eq _).symm.trans hc4)
    refine l_s rfl rfl ?_
    refine l_s rfl rfl ?_
    refine l_op 2 rfl rfl rfl rfl rfl ?_
    refine l_op 0 rfl rfl rfl rfl rfl ?_
    refine l_nil (WK.nx (by assumption) ?_)
    refine SeqK.nx (by assumption) ?_
    refine k_ret ?_
    refine FunK.rt (by assumption) rfl ?_
    -- leaf 3
    first
    | exact ⟨true, rfl, F.pick [] (by decide), fun h => by cases h⟩
    | exact ⟨_, rfl, F.pick [] (by decide), fun _ => by omega⟩
  replace hc4 := of_decide_eq_false ((irr_eq _).symm.trans hc4)
  refine l_op 0 rfl rfl rfl rfl rfl ?_
  refine l_cmp rfl rfl rfl rfl ?_
  refine l_op 2 rfl rfl rfl rfl rfl ?_
  refine l_op 0 rfl rfl rfl rfl rfl ?_
  refine l_nil (WK.nx (by assumption) ?_)
  refine SeqK.nx (by assumption) ?_
  refine k_ret ?_
  refine FunK.rt (by assumption) rfl ?_
  -- leaf 4
  first
  | exact ⟨true, rfl, F.pick [] (by decide), fun h => by cases h⟩
  | exact ⟨_, rfl, F.pick [] (by decide), fun _ => by omega⟩

end Go.Proofs.Ytkealnppdblgiaa
