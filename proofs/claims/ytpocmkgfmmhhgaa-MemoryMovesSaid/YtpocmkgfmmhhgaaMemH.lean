/- Acts on a memory, as they come in; the memory behind them. No statement of the seat is proved in this text. -/
import Derived.Test.YtpocmkgfmmhhgaaMemG
import Derived.Test.YtpocmkgfmmhhgaaMemE
set_option linter.unusedVariables false
set_option linter.unusedSimpArgs false
set_option maxRecDepth 100000
set_option maxHeartbeats 4000000
namespace Go.Proofs.Ytpocmkgfmmhhgaa
open GAb Go

structure Act9 where
  k : Int
  a : Int
  b : Int
  n : Int
  x : Int
  ra : Option Addr
  rl : Nat
  rc : Nat
  ram : List Int
  la : Option Addr
  ll : Nat
  lc : Nat
  xs : List (Int × Int)
deriving Inhabited
abbrev eA9 (t : Act9) : List Value := [.int .i64 t.k, .int .u32 t.a, .int .u32 t.b, .int .i64 t.n, .int .u32 t.x, .slice t.ra t.rl t.rc, .slice t.la t.ll t.lc]
theorem eA9_len (t : Act9) : (eA9 t).length = 7 := rfl
def Act9OK (σ : AState) (t : Act9) : Prop := (U32 t.a ∧ U32 t.b ∧ U32 t.x) ∧ (∃ zr, Row σ t.ra t.rl t.rc 1 (u8l zr) ∧ t.ram = zr.take t.rl ∧ ∀ z ∈ zr, 0 ≤ z ∧ z ≤ 255) ∧ (∃ zl, Row σ t.la t.ll t.lc 2 (rows eB zl) ∧ t.xs = zl.take t.ll ∧ BlkOK zl) ∧ t.rc ≤ 140737488351232 ∧ t.lc ≤ 140737488351232
theorem Act9OK.kp {n0 : Nat} {σ σ' : AState} {t : Act9} (hn : σ.next ≤ n0) (h : Act9OK σ t) (k : Kp n0 σ σ') : Act9OK σ' t := by
  obtain ⟨h1, ⟨zr, a1, a2⟩, ⟨zl, b1, b2⟩, h4⟩ := h
  exact ⟨h1, ⟨zr, a1.kp hn k, a2⟩, ⟨zl, b1.kp hn k, b2⟩, h4⟩
theorem opn_data9 : Opn Try.prog 28 fun σ vs => ∃ x len cap zs, vs = [.slice x len cap] ∧ Row σ x len cap 1 (u8l zs) ∧ (∀ z ∈ zs, 0 ≤ z ∧ z ≤ 255) ∧ cap ≤ 140737488351232 :=
  opn_mono (opn_slice (es := 1) Try.underlying28 (by kernel_rfl) (by decide) (opn_int Try.underlying5)) (fun σ vs h => by
    obtain ⟨x, len, cap, zs, rfl, hR, hE, hM⟩ := h
    obtain ⟨xs, rfl, h1, h2⟩ := els_rows (Q := fun z => (Lit.int .u8 z).wf = true) (e := fun z => [Value.int .u8 z]) (es := 1) (σ := σ) hE
    have e : rows (fun z => [Value.int .u8 z]) xs = u8l xs := by
      unfold rows; exact (List.map_eq_flatMap ..).symm
    have hb : Try.prog.bytesOf 5 = 1 := by kernel_rfl
    rw [hb] at hM
    rw [e] at hR
    exact ⟨x, len, cap, xs, rfl, hR, fun z hz => bounds_u8 (h2 z hz), by unfold reachBytes at hM; omega⟩) (fun σ σ' vs ⟨x, len, cap, zs, h1, h2, h3⟩ k => ⟨x, len, cap, zs, h1, h2.kp (Nat.le_refl _) k, h3⟩)
theorem opn_block9 : Opn Try.prog 97 fun _ vs => ∃ x : Int × Int, vs = eB x ∧ (U32 x.1 ∧ U32 x.2) :=
  opn_mono (opn_struct Try.underlying97 (by kernel_rfl) (.cons (opn_int Try.underlying23) (.cons (opn_int Try.underlying23) .nil))) (fun σ vs h => by
    obtain ⟨u0, w0, rfl, ⟨n0, rfl, h0⟩, u1, w1, rfl, ⟨n1, rfl, h1⟩, rfl⟩ := h
    exact ⟨(n0, n1), rfl, bounds_u32 h0, bounds_u32 h1⟩) (fun _ _ _ h _ => h)
theorem opn_blocks9 : Opn Try.prog 42 fun σ vs => ∃ x len cap zs, vs = [.slice x len cap] ∧ Row σ x len cap 2 (rows eB zs) ∧ BlkOK zs ∧ cap ≤ 17592186044416 :=
  opn_mono (opn_slice (es := 2) Try.underlying42 (by kernel_rfl) (by decide) opn_block9) (fun σ vs h => by
    obtain ⟨x, len, cap, zs, rfl, hR, hE, hM⟩ := h
    obtain ⟨xs, rfl, h1, h2⟩ := els_rows (Q := fun x : Int × Int => U32 x.1 ∧ U32 x.2) (e := eB) (es := 2) (σ := σ) hE
    have hb : Try.prog.bytesOf 97 = 8 := by kernel_rfl
    rw [hb] at hM
    exact ⟨x, len, cap, xs, rfl, hR, fun y hy => h2 y hy, by unfold reachBytes at hM; omega⟩) (fun σ σ' vs ⟨x, len, cap, zs, h1, h2, h3⟩ k => ⟨x, len, cap, zs, h1, h2.kp (Nat.le_refl _) k, h3⟩)
theorem opn_act9 : Opn Try.prog 59 fun σ vs => ∃ t : Act9, vs = eA9 t ∧ Act9OK σ t :=
  opn_mono (opn_struct Try.underlying59 (by kernel_rfl) (.cons (opn_int Try.underlying3) (.cons (opn_int Try.underlying23) (.cons (opn_int Try.underlying23) (.cons (opn_int Try.underlying3) (.cons (opn_int Try.underlying23) (.cons opn_data9 (.cons opn_blocks9 .nil)))))))) (fun σ vs h => by
    obtain ⟨u0, w0, rfl, ⟨n0, rfl, h0⟩, u1, w1, rfl, ⟨n1, rfl, h1⟩, u2, w2, rfl, ⟨n2, rfl, h2⟩, u3, w3, rfl, ⟨n3, rfl, h3⟩, u4, w4, rfl, ⟨n4, rfl, h4⟩, u5, w5, rfl, ⟨x, l, c, zs, rfl, a1, a2, a3⟩, u6, w6, rfl, ⟨x2, l2, c2, bs, rfl, b1, b2, b3⟩, rfl⟩ := h
    exact ⟨⟨n0, n1, n2, n3, n4, x, l, c, zs.take l, x2, l2, c2, bs.take l2⟩, rfl, ⟨bounds_u32 h1, bounds_u32 h2, bounds_u32 h4⟩, ⟨zs, a1, rfl, a2⟩, ⟨bs, b1, rfl, b2⟩, a3, by show c2 ≤ _; omega⟩) (fun σ σ' vs ⟨t, h1, h2⟩ k => ⟨t, h1, h2.kp (Nat.le_refl _) k⟩)
theorem opn_acts9 : Opn Try.prog 22 fun σ vs => ∃ x len cap zs, vs = [.slice x len cap] ∧ Row σ x len cap 7 (rows eA9 zs) ∧ ∀ t ∈ zs, Act9OK σ t :=
  opn_mono (opn_slice (es := 7) Try.underlying22 (by kernel_rfl) (by decide) opn_act9) (fun σ vs h => by
    obtain ⟨x, len, cap, zs, rfl, hR, hE, hM⟩ := h
    obtain ⟨xs, rfl, h1, h2⟩ := els_rows (Q := fun t => Act9OK σ t) (e := eA9) (es := 7) (σ := σ) hE
    exact ⟨x, len, cap, xs, rfl, hR, fun y hy => h2 y hy⟩) (fun σ σ' vs ⟨x, len, cap, zs, h1, h2, h3⟩ k => ⟨x, len, cap, zs, h1, h2.kp (Nat.le_refl _) k, fun t ht => (h3 t ht).kp (Nat.le_refl _) k⟩)
/-- Acts that are only read. -/
structure OldA9 (O : Nat → Prop) (σ : AState) (a : Option Addr) (l c : Nat) (ts : List Act9) : Prop where
  old : Old O σ a l c 7 (rows eA9 ts)
  ram : ∀ t ∈ ts, Old O σ t.ra t.rl t.rc 1 (u8l t.ram)
  blk : ∀ t ∈ ts, Old O σ t.la t.ll t.lc 2 (rows eB t.xs)
  byt : ∀ t ∈ ts, Bytes t.ram
  bok : ∀ t ∈ ts, BlkOK t.xs
  u32 : ∀ t ∈ ts, U32 t.a ∧ U32 t.b ∧ U32 t.x
  cap : ∀ t ∈ ts, (t.rl : Int) ≤ 140737488355328 ∧ (t.ll : Int) ≤ 140737488355328
theorem oldA9_row {σ : AState} {a : Option Addr} {l c : Nat} {zs : List Act9} (h : Row σ a l c 7 (rows eA9 zs) ∧ ∀ t ∈ zs, Act9OK σ t) : OldA9 E0 σ a l c (zs.take l) := by
  refine ⟨Old.pure ⟨_, h.1, by rw [rows_take eA9_len]⟩, fun t ht => ?_, fun t ht => ?_, fun t ht => ?_, fun t ht => ?_, fun t ht => ?_, fun t ht => ?_⟩ <;> obtain ⟨u, ⟨zr, a1, a2, a3⟩, ⟨zl, b1, b2, b3⟩, d1, d2⟩ := h.2 t (List.mem_of_mem_take ht)
  · exact Old.pure ⟨_, a1, by rw [a2, Nat.mul_one]; exact List.map_take.symm⟩
  · exact Old.pure ⟨_, b1, by rw [b2, rows_take eB_len]⟩
  · rw [a2]; exact bytesm_mem.2 fun x hx => a3 x (List.mem_of_mem_take hx)
  · rw [b2]; exact fun x hx => b3 x (List.mem_of_mem_take hx)
  · exact u
  · have e1 := a1.size.2
    have e2 := b1.size.2
    omega
theorem OldA9.len {O : Nat → Prop} {σ : AState} {a : Option Addr} {l c : Nat} {ts : List Act9} (h : OldA9 O σ a l c ts) : ts.length = l := h.old.1.len eA9_len (by decide)
theorem OldA9.to {σ s : AState} {L : List Fact} {a : Option Addr} {l c : Nat} {ts : List Act9} (h : OldA9 E0 σ a l c ts) (F : Facts E0 σ s L) : OldA9 E0 s a l c ts :=
  ⟨Old.pure (F.old h.old), fun t ht => Old.pure (F.old (h.ram t ht)), fun t ht => Old.pure (F.old (h.blk t ht)), h.byt, h.bok, h.u32, h.cap⟩
theorem mem9 {ts : List Act9} {i : Nat} (hi : i < ts.length) : ts.getD i default ∈ ts := by
  simp only [List.getD, List.getElem?_eq_getElem hi, Option.getD_some]; exact List.getElem_mem hi
def sum9 : List Act9 → Int
  | [] => 0
  | t :: ts => t.rl + t.ll + sum9 ts
theorem sum9_nn : ∀ ts : List Act9, 0 ≤ sum9 ts
  | [] => by simp [sum9]
  | t :: ts => by have := sum9_nn ts; simp only [sum9]; omega
theorem sum9_take {ts : List Act9} {i : Nat} (h : i < ts.length) : sum9 (ts.take (i + 1)) = sum9 (ts.take i) + (ts.getD i default).rl + (ts.getD i default).ll := by
  induction ts generalizing i with
  | nil => cases h
  | cons p ts ih =>
    cases i with
    | zero => simp [sum9]
    | succ i =>
      simp only [List.take_succ_cons, sum9, List.getD_cons_succ]
      rw [ih (by simp at h; omega)]
      omega
theorem sum9_mem : ∀ {ts : List Act9} {t : Act9}, t ∈ ts → (t.rl : Int) + t.ll ≤ sum9 ts
  | q :: ts, p, h => by
    have := sum9_nn ts
    simp only [sum9]
    rcases List.mem_cons.1 h with rfl | h
    · omega
    · have := sum9_mem h; omega
theorem huge9_call {σ : AState} {a : Option Addr} {l c : Nat} {ts : List Act9} (h : OldA9 E0 σ a l c ts) :
    SCall Try.prog E0 8 [.slice a l c] σ (Ret E0 σ (fun (b : Bool) => .bool b) (fun _ => []) fun b => b = false → l ≤ 120 ∧ ∀ t ∈ ts, t.rl ≤ 65536 ∧ t.ll ≤ 65536) := by
  obtain rfl := h.len
  have ho := h.old
  refine k_fun Try.func8 rfl (m := 37) rfl fun B hD Q K => ?_
  have F := Facts.nil E0 σ
  refine k_seq (fun Q K => ?_)
  refine k_lin (fun W K => ?_)
  refine l_op 0 rfl rfl rfl rfl rfl ?_
  refine l_nil (WK.nx (by assumption) ?_)
  refine SeqK.nx (by assumption) ?_
  refine k_seq (fun Q K => ?_)
  refine k_lin (fun W K => ?_)
  refine l_op 0 rfl rfl rfl rfl rfl ?_
  refine l_nil (WK.nx (by assumption) ?_)
  refine SeqK.nx (by assumption) ?_
  refine k_seq (fun Q K => ?_)
  refine k_seq (fun Q K => ?_)
  refine k_lin (fun W K => ?_)
  refine l_op 0 rfl rfl rfl rfl rfl ?_
  refine l_nil (WK.nx (by assumption) ?_)
  refine SeqK.nx (by assumption) ?_
  refine k_block (fun Q K => ?_)
  refine k_loop (α := Int) (fun i s => Facts E0 σ s [] ∧ 0 ≤ i ∧ i ≤ ts.length ∧ i ≤ 121 ∧ sum9 (ts.take i.toNat) ≤ i * 300000000000000) (fun i => [(0, .slice a ts.length c), (3, .int .i64 (sum9 (ts.take i.toNat))), (4, .int .i64 i)]) (fun i => (ts.length - i).toNat) 0 ⟨F, by omega, by omega, by omega, by simp [sum9]⟩ (by repeat (first | exact trivial | refine And.intro rfl ?_)) ?_
  clear F
  rintro i env s Q K0 ⟨F, i0, i1, i2, n1⟩
  have n0 := sum9_nn (ts.take i.toNat)
  refine k_seq (fun Q K => ?_)
  refine k_seq (fun Q K => ?_)
  refine k_lin (fun W K => ?_)
  refine l_op 0 rfl rfl rfl rfl rfl ?_
  refine l_op 0 rfl rfl rfl rfl rfl ?_
  first | refine l_op 2 rfl rfl rfl rfl rfl ?_ | refine l_ln rfl rfl rfl rfl ?_
  refine l_cmp rfl rfl rfl rfl ?_
  refine l_op 0 rfl rfl rfl rfl rfl ?_
  refine l_guard rfl rfl rfl (fun hc1 => ?_) (fun hc1 => ?_)
  · replace hc1 := of_decide_eq_true ((irr_eq _).symm.trans hc1)
    refine l_op 0 rfl rfl rfl rfl rfl ?_
    refine l_cmp rfl rfl rfl rfl ?_
    refine l_op 2 rfl rfl rfl rfl rfl ?_
    refine l_nil (WK.nx (by assumption) ?_)
    refine SeqK.nx (by assumption) ?_
    refine l_cond rfl rfl (fun hc2 => ?_) (fun hc2 => ?_)
    · replace hc2 := of_decide_eq_true ((irr_eq _).symm.trans hc2)
      have hci := h.cap _ (mem9 (i := i.toNat) (by omega))
      refine k_skip ?_
      refine SeqK.nx (by assumption) ?_
      refine k_seq (fun Q K => ?_)
      refine k_block (fun Q K => ?_)
      refine k_linm [0, 1, 2, 3, 4, 8, 9, 10, 11, 5, 6, 7, 12, 13, 14, 15] mixed (by kernel_rfl) (fun W K => ?_)
      try have hpS := F.pns
      refine l_op 0 rfl rfl rfl rfl rfl ?_
      refine l_op 0 rfl rfl rfl rfl rfl ?_
      refine l_op 0 rfl rfl rfl rfl rfl ?_
      first | refine l_ixrs (e := eA9) F ho ⟨eA9_len, by decide⟩ rfl rfl rfl rfl rfl rfl (by omega) (fun m18 b18 hA18 hS18 => ?_) | refine l_ixr (e := eA9) rfl rfl rfl rfl rfl rfl (F.old ho) ⟨eA9_len, by decide⟩ (by omega) (fun m18 b18 hA18 => ?_)
      refine l_op 2 rfl rfl rfl rfl rfl ?_
      refine l_op 0 rfl rfl rfl rfl rfl ?_
      refine l_op 0 rfl rfl rfl rfl rfl ?_
      first | refine l_ixrs (e := eA9) F ho ⟨eA9_len, by decide⟩ rfl rfl rfl rfl rfl rfl (by omega) (fun m25 b25 hA25 hS25 => ?_) | refine l_ixr (e := eA9) rfl rfl rfl rfl rfl rfl (F.old ho) ⟨eA9_len, by decide⟩ (by omega) (fun m25 b25 hA25 => ?_)
      refine l_op 2 rfl rfl rfl rfl rfl ?_
      refine l_ldj (j := 5) rfl rfl rfl rfl rfl rfl hA18 rfl ?_
      first | refine l_op 2 rfl rfl rfl rfl rfl ?_ | refine l_ln rfl rfl rfl rfl ?_
      refine l_a64 rfl rfl rfl (by omega) rfl ?_
      refine l_ldj (j := 6) rfl rfl rfl rfl rfl rfl hA25 rfl ?_
      first | refine l_op 2 rfl rfl rfl rfl rfl ?_ | refine l_ln rfl rfl rfl rfl ?_
      refine l_a64 rfl rfl rfl (by omega) rfl ?_
      refine l_op 0 rfl rfl rfl rfl rfl ?_
      refine l_nil (WK.nx (by assumption) ?_)
      refine BlkK.nx (by assumption) ?_
      refine SeqK.nx (by assumption) ?_
      refine k_lin (fun W K => ?_)
      refine l_op 0 rfl rfl rfl rfl rfl ?_
      refine l_a64 rfl rfl rfl (by omega) rfl ?_
      refine l_op 0 rfl rfl rfl rfl rfl ?_
      refine l_nil (WK.nx (by assumption) ?_)
      have e1 : (i + 1).toNat = i.toNat + 1 := by omega
      have e2 := sum9_take (ts := ts) (i := i.toNat) (by omega)
      rw [← e1] at e2
      exact K0.nx (i + 1) (by rw [e2]; exact (by repeat (first | exact trivial | refine And.intro rfl ?_))) ⟨F, by omega, by omega, by omega, by omega⟩ (by first | omega | (simp only; omega))
    replace hc2 := of_decide_eq_false ((irr_eq _).symm.trans hc2)
    refine k_exit ?_
    refine SeqK.et (by assumption) ?_
    refine LoopK.et (by assumption) ?_
    refine BlkK.et (by assumption) ?_
    refine SeqK.nx (by assumption) ?_
    refine k_seq (fun Q K => ?_)
    refine k_lin (fun W K => ?_)
    refine l_op 0 rfl rfl rfl rfl rfl ?_
    first | refine l_op 2 rfl rfl rfl rfl rfl ?_ | refine l_ln rfl rfl rfl rfl ?_
    refine l_cmp rfl rfl rfl rfl ?_
    refine l_op 0 rfl rfl rfl rfl rfl ?_
    refine l_guard rfl rfl rfl (fun hc3 => ?_) (fun hc3 => ?_)
    · replace hc3 := of_decide_eq_true ((irr_eq _).symm.trans hc3)
      refine l_s rfl rfl ?_
      refine l_s rfl rfl ?_
      refine l_op 2 rfl rfl rfl rfl rfl ?_
      refine l_op 0 rfl rfl rfl rfl rfl ?_
      refine l_nil (WK.nx (by assumption) ?_)
      refine SeqK.nx (by assumption) ?_
      refine k_ret ?_
      refine FunK.rt (by assumption) rfl ?_
      -- leaf 1
      first
      | exact ⟨true, rfl, F, fun h => by cases h⟩
      | (refine ⟨_, rfl, F, fun hb => ?_⟩
         rw [irr_eq, decide_eq_false_iff_not] at hb
         have hall : ts.take i.toNat = ts := List.take_of_length_le (by omega)
         rw [hall] at hb
         exact ⟨by omega, fun t ht => by have := sum9_mem ht; omega⟩)
    replace hc3 := of_decide_eq_false ((irr_eq _).symm.trans hc3)
    refine l_op 0 rfl rfl rfl rfl rfl ?_
    refine l_cmp rfl rfl rfl rfl ?_
    refine l_op 2 rfl rfl rfl rfl rfl ?_
    refine l_op 0 rfl rfl rfl rfl rfl ?_
    refine l_nil (WK.nx (by assumption) ?_)
    refine SeqK.nx (by assumption) ?_
    refine k_ret ?_
    refine FunK.rt (by assumption) rfl ?_
    -- leaf 2
    first
    | exact ⟨true, rfl, F, fun h => by cases h⟩
    | (refine ⟨_, rfl, F, fun hb => ?_⟩
       rw [irr_eq, decide_eq_false_iff_not] at hb
       have hall : ts.take i.toNat = ts := List.take_of_length_le (by omega)
       rw [hall] at hb
       exact ⟨by omega, fun t ht => by have := sum9_mem ht; omega⟩)
  replace hc1 := of_decide_eq_false ((irr_eq _).symm.trans hc1)
  refine l_s rfl rfl ?_
  refine l_s rfl rfl ?_
  refine l_op 2 rfl rfl rfl rfl rfl ?_
  refine l_nil (WK.nx (by assumption) ?_)
  refine SeqK.nx (by assumption) ?_
  first | refine e_cond_f rfl rfl rfl ?_ | refine e_cond_f rfl rfl (by rw [irr_eq]; first | exact beq_eq_false_iff_ne.2 (by assumption) | exact decide_eq_false (by assumption) | exact bne_eq_false_iff_eq.2 (by assumption)) ?_
  refine k_exit ?_
  refine SeqK.et (by assumption) ?_
  refine LoopK.et (by assumption) ?_
  refine BlkK.et (by assumption) ?_
  refine SeqK.nx (by assumption) ?_
  refine k_seq (fun Q K => ?_)
  refine k_lin (fun W K => ?_)
  refine l_op 0 rfl rfl rfl rfl rfl ?_
  first | refine l_op 2 rfl rfl rfl rfl rfl ?_ | refine l_ln rfl rfl rfl rfl ?_
  refine l_cmp rfl rfl rfl rfl ?_
  refine l_op 0 rfl rfl rfl rfl rfl ?_
  refine l_guard rfl rfl rfl (fun hc4 => ?_) (fun hc4 => ?_)
  · replace hc4 := of_decide_eq_true ((irr_eq _).symm.trans hc4)
    refine l_s rfl rfl ?_
    refine l_s rfl rfl ?_
    refine l_op 2 rfl rfl rfl rfl rfl ?_
    refine l_op 0 rfl rfl rfl rfl rfl ?_
    refine l_nil (WK.nx (by assumption) ?_)
    refine SeqK.nx (by assumption) ?_
    refine k_ret ?_
    refine FunK.rt (by assumption) rfl ?_
    -- leaf 3
    first
    | exact ⟨true, rfl, F, fun h => by cases h⟩
    | (refine ⟨_, rfl, F, fun hb => ?_⟩
       rw [irr_eq, decide_eq_false_iff_not] at hb
       have hall : ts.take i.toNat = ts := List.take_of_length_le (by omega)
       rw [hall] at hb
       exact ⟨by omega, fun t ht => by have := sum9_mem ht; omega⟩)
  replace hc4 := of_decide_eq_false ((irr_eq _).symm.trans hc4)
  refine l_op 0 rfl rfl rfl rfl rfl ?_
  refine l_cmp rfl rfl rfl rfl ?_
  refine l_op 2 rfl rfl rfl rfl rfl ?_
  refine l_op 0 rfl rfl rfl rfl rfl ?_
  refine l_nil (WK.nx (by assumption) ?_)
  refine SeqK.nx (by assumption) ?_
  refine k_ret ?_
  refine FunK.rt (by assumption) rfl ?_
  -- leaf 4
  first
  | exact ⟨true, rfl, F, fun h => by cases h⟩
  | (refine ⟨_, rfl, F, fun hb => ?_⟩
     rw [irr_eq, decide_eq_false_iff_not] at hb
     have hall : ts.take i.toNat = ts := List.take_of_length_le (by omega)
     rw [hall] at hb
     exact ⟨by omega, fun t ht => by have := sum9_mem ht; omega⟩)

end Go.Proofs.Ytpocmkgfmmhhgaa
