/- The row of a number: found by halves. No statement of the seat is proved in this text. -/
import Derived.Test.YtkemnodaadlonaaCTab
import Derived.Test.YtkemnodaadlonaaAb32
set_option linter.unusedVariables false
set_option linter.unusedSimpArgs false
set_option maxRecDepth 100000
set_option maxHeartbeats 4000000
namespace Go.Proofs.Ytkemnodaadlonaa
open GAb Go

def Rising (tb : List Rw) : Prop := ∀ i j : Nat, i < j → j < tb.length → (tb.getD i default).1 < (tb.getD j default).1
def U32 (x : Int) : Prop := 0 ≤ x ∧ x ≤ 4294967295
def RwOK (tb : List Rw) : Prop := ∀ x ∈ tb, U32 x.1
theorem RwOK.at {tb : List Rw} (h : RwOK tb) (i : Nat) : U32 (tb.getD i default).1 := by
  by_cases hi : i < tb.length
  · simp only [List.getD, List.getElem?_eq_getElem hi, Option.getD_some]
    exact h _ (List.getElem_mem hi)
  · simp only [List.getD, List.getElem?_eq_none (by omega : tb.length ≤ i), Option.getD_none]
    exact ⟨Int.le_refl _, by decide⟩
theorem geq_call {σ : AState} {p q c : Nat} {a : Option Addr} {tb : List Rw} {op i : Int} (hp : OldC E0 σ p [.slice a tb.length c]) (hq : OldC E0 σ q [.int .u32 op]) (hT : Old E0 σ a tb.length c 3 (rows eR tb)) (hi : 0 ≤ i ∧ i < tb.length) :
    SCall Try.prog E0 64 [.int .i64 i, .pointer (some ⟨p, 0, none⟩), .pointer (some ⟨q, 0, none⟩)] σ (Ret E0 σ (fun (_ : Unit) => .bool (irr (decide ((tb.getD i.toNat default).1 ≥ op)))) (fun _ => []) fun _ => True) := by
  refine k_fun Try.func64 rfl (m := 12) rfl fun B hD Q K => ?_
  have F := Facts.nil E0 σ
  refine k_seq (fun Q K => ?_)
  refine k_lin (fun W K => ?_)
  refine l_op 0 rfl rfl rfl rfl rfl ?_
  refine l_nil (WK.nx (by assumption) ?_)
  refine SeqK.nx (by assumption) ?_
  refine k_seq (fun Q K => ?_)
  refine k_linm [1, 0, 2, 3, 4, 5, 6, 7] mixed (by kernel_rfl) (fun W K => ?_)
  try have hpS := F.pns
  refine l_op 0 rfl rfl rfl rfl rfl ?_
  refine l_ldo F (by assumption) rfl rfl rfl rfl rfl rfl ?_
  first | have hpS := PnS.add hpS hS1 | have hpS := PnS.add hpS (OldC.sf (by assumption)) | skip
  refine l_ixrs (e := eR) F hT ⟨eR_len, by decide⟩ rfl rfl rfl rfl rfl rfl (by omega) (fun m7 b7 hA7 hS7 => ?_)
  refine l_op 2 rfl rfl rfl rfl rfl ?_
  refine l_ld0 rfl rfl rfl rfl rfl (by assumption) ?_
  first | have hpS := PnS.add hpS hS7 | have hpS := PnS.add hpS (OldC.sf (by assumption)) | skip
  refine l_ldo F (by assumption) rfl rfl rfl rfl rfl rfl ?_
  first | have hpS := PnS.add hpS hS2 | have hpS := PnS.add hpS (OldC.sf (by assumption)) | skip
  refine l_cmp rfl rfl rfl rfl ?_
  refine l_op 0 rfl rfl rfl rfl rfl ?_
  refine l_nil (WK.nx (by assumption) ?_)
  refine SeqK.nx (by assumption) ?_
  refine k_ret ?_
  refine FunK.rt (by assumption) rfl ?_
  -- leaf 1
  exact ⟨(), rfl, F.pick [] (by decide), trivial⟩

theorem half {x : Int} (h0 : 0 ≤ x) (h1 : x ≤ 10000) : IntKind.i64.wrap (x.fdiv (2 ^ min (Int.toNat 1) IntKind.u64.bits)) = x / 2 := by
  have e : x.fdiv (2 ^ min (Int.toNat 1) IntKind.u64.bits) = x / 2 := by
    show x.fdiv 2 = x / 2
    rw [Int.fdiv_eq_ediv_of_nonneg _ (by omega)]
  rw [e, wrapi (by omega) (by omega)]
theorem search_call {σ : AState} {p q c n : Nat} {a : Option Addr} {tb : List Rw} {op : Int} (hln : tb.length = n) (hp : OldC E0 σ p [.slice a n c]) (hq : OldC E0 σ q [.int .u32 op]) (hT : Old E0 σ a n c 3 (rows eR tb)) (hn : tb.length ≤ 1000) (hR : Rising tb) :
    SCall Try.prog E0 63 [.int .i64 n, .func (.func 64) #[] #[.pointer (some ⟨p, 0, none⟩), .pointer (some ⟨q, 0, none⟩)]] σ (Ret E0 σ (fun (i : Int) => .int .i64 i) (fun _ => []) fun i => 0 ≤ i ∧ i ≤ tb.length ∧ (∀ j : Nat, j < i → (tb.getD j default).1 < op) ∧ ∀ j : Nat, i ≤ j → j < tb.length → op ≤ (tb.getD j default).1) := by
  subst hln
  refine k_fun Try.func63 rfl (m := 26) rfl fun B hD Q K => ?_
  have F := Facts.nil E0 σ
  refine k_seq (fun Q K => ?_)
  refine k_lin (fun W K => ?_)
  refine l_op 0 rfl rfl rfl rfl rfl ?_
  refine l_nil (WK.nx (by assumption) ?_)
  refine SeqK.nx (by assumption) ?_
  refine k_seq (fun Q K => ?_)
  refine k_lin (fun W K => ?_)
  refine l_op 0 rfl rfl rfl rfl rfl ?_
  refine l_op 0 rfl rfl rfl rfl rfl ?_
  refine l_op 0 rfl rfl rfl rfl rfl ?_
  refine l_nil (WK.nx (by assumption) ?_)
  refine SeqK.nx (by assumption) ?_
  refine k_seq (fun Q K => ?_)
  refine k_block (fun Q K => ?_)
  refine k_loop (α := Int × Int) (fun ⟨i, j⟩ s => Facts E0 σ s [] ∧ 0 ≤ i ∧ i ≤ j ∧ j ≤ tb.length ∧ (∀ k : Nat, k < i → (tb.getD k default).1 < op) ∧ ∀ k : Nat, j ≤ k → k < tb.length → op ≤ (tb.getD k default).1) (fun ⟨i, j⟩ => [(1, .func (.func 64) #[] #[.pointer (some ⟨p, 0, none⟩), .pointer (some ⟨q, 0, none⟩)]), (5, .int .i64 i), (6, .int .i64 j)]) (fun ⟨i, j⟩ => (j - i).toNat) (0, tb.length) ⟨F, by omega, by omega, by omega, fun k hk => by omega, fun k hk hk2 => by omega⟩ (by repeat (first | exact trivial | refine And.intro rfl ?_)) ?_
  clear F
  rintro ⟨i, j⟩ env s Q K0 ⟨F, i0, ij, jn, hlo, hhi⟩
  refine k_seq (fun Q K => ?_)
  refine k_seq (fun Q K => ?_)
  refine k_lin (fun W K => ?_)
  refine l_op 0 rfl rfl rfl rfl rfl ?_
  refine l_op 0 rfl rfl rfl rfl rfl ?_
  refine l_cmp rfl rfl rfl rfl ?_
  refine l_nil (WK.nx (by assumption) ?_)
  refine SeqK.nx (by assumption) ?_
  refine l_cond rfl rfl (fun hc1 => ?_) (fun hc1 => ?_)
  · replace hc1 := of_decide_eq_true ((irr_eq _).symm.trans hc1)
    refine k_skip ?_
    refine SeqK.nx (by assumption) ?_
    refine k_block (fun Q K => ?_)
    refine k_seq (fun Q K => ?_)
    refine k_lin (fun W K => ?_)
    refine l_op 0 rfl rfl rfl rfl rfl ?_
    refine l_op 0 rfl rfl rfl rfl rfl ?_
    refine l_a64 rfl rfl rfl (by omega) rfl ?_
    refine l_cu64 rfl rfl rfl (by omega) rfl ?_
    refine l_op 2 rfl rfl rfl rfl rfl ?_
    refine l_op 16 rfl rfl rfl (congrArg (Value.int .i64) (half (by omega) (by omega))) rfl ?_
    refine l_op 0 rfl rfl rfl rfl rfl ?_
    refine l_nil (WK.nx (by assumption) ?_)
    refine SeqK.nx (by assumption) ?_
    refine k_seq (fun Q K => ?_)
    refine k_lin (fun W K => ?_)
    refine l_op 0 rfl rfl rfl rfl rfl ?_
    refine l_op 0 rfl rfl rfl rfl rfl ?_
    refine l_callp F rfl rfl (by kernel_rfl) rfl rfl (geq_call (F.oldc0 hp) (F.oldc0 hq) (Old.pure (F.old hT)) (by omega)) (fun _ s F _ => ?_)
    (try dsimp only [n_1, n_2, n_3, n_4, List.append_nil, pk, n_5, n_6] at F)
    refine l_op 2 rfl rfl rfl rfl rfl ?_
    refine l_nil (WK.nx (by assumption) ?_)
    refine SeqK.nx (by assumption) ?_
    refine l_cond rfl rfl (fun hc2 => ?_) (fun hc2 => ?_)
    · try simp only [irr_eq, beq_iff_eq, bne_iff_ne, beq_eq_false_iff_ne, bne_eq_false_iff_eq, ne_eq, decide_eq_true_eq, decide_eq_false_iff_not, Bool.not_eq_true', Bool.not_eq_false'] at hc2
      refine k_lin (fun W K => ?_)
      refine l_op 0 rfl rfl rfl rfl rfl ?_
      refine l_a64 rfl rfl rfl (by omega) rfl ?_
      refine l_op 0 rfl rfl rfl rfl rfl ?_
      refine l_nil (WK.nx (by assumption) ?_)
      refine BlkK.nx (by assumption) ?_
      first
      | (have hg : (tb.getD ((i + j) / 2).toNat default).1 < op := by omega
         exact K0.nx ((i + j) / 2 + 1, j) (by repeat (first | exact trivial | refine And.intro rfl ?_)) ⟨F.pick [] (by decide), by omega, by omega, by omega, fun k hk => by
          by_cases e : (k : Int) = (i + j) / 2
          · have : k = ((i + j) / 2).toNat := by omega
            rw [this]; omega
          · have := hR k ((i + j) / 2).toNat (by omega) (by omega)
            omega, hhi⟩ (by first | omega | (simp only; omega)))
      | exact K0.nx (i, (i + j) / 2) (by repeat (first | exact trivial | refine And.intro rfl ?_)) ⟨F.pick [] (by decide), by omega, by omega, by omega, hlo, fun k hk hk2 => by
          by_cases e : (k : Int) = (i + j) / 2
          · have : k = ((i + j) / 2).toNat := by omega
            rw [this]; omega
          · have := hR ((i + j) / 2).toNat k (by omega) (by omega)
            omega⟩ (by first | omega | (simp only; omega))
    try simp only [irr_eq, beq_iff_eq, bne_iff_ne, beq_eq_false_iff_ne, bne_eq_false_iff_eq, ne_eq, decide_eq_true_eq, decide_eq_false_iff_not, Bool.not_eq_true', Bool.not_eq_false'] at hc2
    refine k_lin (fun W K => ?_)
    refine l_op 0 rfl rfl rfl rfl rfl ?_
    refine l_op 0 rfl rfl rfl rfl rfl ?_
    refine l_nil (WK.nx (by assumption) ?_)
    refine BlkK.nx (by assumption) ?_
    first
    | (have hg : (tb.getD ((i + j) / 2).toNat default).1 < op := by omega
       exact K0.nx ((i + j) / 2 + 1, j) (by repeat (first | exact trivial | refine And.intro rfl ?_)) ⟨F.pick [] (by decide), by omega, by omega, by omega, fun k hk => by
        by_cases e : (k : Int) = (i + j) / 2
        · have : k = ((i + j) / 2).toNat := by omega
          rw [this]; omega
        · have := hR k ((i + j) / 2).toNat (by omega) (by omega)
          omega, hhi⟩ (by first | omega | (simp only; omega)))
    | exact K0.nx (i, (i + j) / 2) (by repeat (first | exact trivial | refine And.intro rfl ?_)) ⟨F.pick [] (by decide), by omega, by omega, by omega, hlo, fun k hk hk2 => by
        by_cases e : (k : Int) = (i + j) / 2
        · have : k = ((i + j) / 2).toNat := by omega
          rw [this]; omega
        · have := hR ((i + j) / 2).toNat k (by omega) (by omega)
          omega⟩ (by first | omega | (simp only; omega))
  replace hc1 := of_decide_eq_false ((irr_eq _).symm.trans hc1)
  refine k_exit ?_
  refine SeqK.et (by assumption) ?_
  refine LoopK.et (by assumption) ?_
  refine BlkK.et (by assumption) ?_
  refine SeqK.nx (by assumption) ?_
  refine k_seq (fun Q K => ?_)
  refine k_lin (fun W K => ?_)
  refine l_op 0 rfl rfl rfl rfl rfl ?_
  refine l_op 0 rfl rfl rfl rfl rfl ?_
  refine l_nil (WK.nx (by assumption) ?_)
  refine SeqK.nx (by assumption) ?_
  refine k_ret ?_
  refine FunK.rt (by assumption) rfl ?_
  -- leaf 1
  exact ⟨i, rfl, F.pick [] (by decide), by omega, by omega, hlo, fun k hk hk2 => hhi k (by omega) hk2⟩

theorem rising_lit (tb : List Rw) (h : (List.range tb.length).all (fun j => (List.range j).all fun i => decide ((tb.getD i default).1 < (tb.getD j default).1)) = true) : Rising tb := fun i j h1 h2 => by
  have a := List.all_eq_true.1 h j (List.mem_range.2 h2)
  have b := List.all_eq_true.1 a i (List.mem_range.2 h1)
  simpa using b
def tbl : List Rw := rowsL ++ lateL
theorem tbl_rising : Rising tbl := rising_lit _ (by kernel_rfl)
theorem rows_rising : Rising rowsL := rising_lit _ (by kernel_rfl)
theorem late_rising : Rising lateL := rising_lit _ (by kernel_rfl)
theorem rwOK_lit (tb : List Rw) (h : (tb.all fun x => decide (0 ≤ x.1 ∧ x.1 ≤ 4294967295)) = true) : RwOK tb := fun x hx => by
  have := List.all_eq_true.1 h x hx
  simp only [decide_eq_true_eq] at this
  exact this
theorem tbl_ok : RwOK tbl := rwOK_lit _ (by kernel_rfl)
/-- The row of a number. -/
def findR (op : Int) : Option Rw := tbl.find? fun x => x.1 == op
theorem find_at {i : Nat} (h : i < tbl.length) : findR (tbl.getD i default).1 = some (tbl.getD i default) := by
  unfold findR
  rw [List.find?_eq_some_iff_getElem]
  refine ⟨by simp, i, h, by simp [List.getD, h], fun j hj => ?_⟩
  have := tbl_rising j i hj h
  simp [List.getD, h, Nat.lt_trans hj h] at this
  simp [List.getD, h]
  omega
theorem find_no {op : Int} (h : ∀ i : Nat, i < tbl.length → (tbl.getD i default).1 ≠ op) : findR op = none := by
  unfold findR
  rw [List.find?_eq_none]
  intro x hx
  obtain ⟨i, hi, rfl⟩ := List.getElem_of_mem hx
  have := h i hi
  simp [List.getD, hi] at this
  simpa using this
abbrev foundV : Option Rw → Value
  | some r => .tuple #[.agg (eR r).toArray, .bool true]
  | none => .tuple #[.agg #[.int .u32 0, .string ByteArray.empty, .string ByteArray.empty], .bool false]
theorem none_of {tb : List Rw} {op i : Int} (hR : Rising tb) (h : 0 ≤ i ∧ i ≤ tb.length ∧ (∀ j : Nat, j < i → (tb.getD j default).1 < op) ∧ ∀ j : Nat, i ≤ j → j < tb.length → op ≤ (tb.getD j default).1)
    (hne : i = tb.length ∨ (tb.getD i.toNat default).1 ≠ op) : ∀ j : Nat, j < tb.length → (tb.getD j default).1 ≠ op := fun j hj he => by
  obtain ⟨i0, i1, hlo, hhi⟩ := h
  by_cases h1 : (j : Int) < i
  · have := hlo j h1; omega
  · rcases hne with h2 | h2
    · omega
    · by_cases h3 : j = i.toNat
      · subst h3; exact h2 he
      · have := hR i.toNat j (by omega) hj
        have := hhi i.toNat (by omega) (by omega)
        omega
theorem tbl_lo {i : Nat} (h : i < 62) : tbl.getD i default = rowsL.getD i default := by
  unfold tbl; simp only [List.getD]; rw [List.getElem?_append_left (by exact h)]
theorem tbl_hi {i : Nat} : tbl.getD (62 + i) default = lateL.getD i default := by
  unfold tbl; simp only [List.getD]; rw [List.getElem?_append_right (by show 62 ≤ _; omega)]
  have : 62 + i - rowsL.length = i := by show 62 + i - 62 = i; omega
  rw [this]
theorem tbl_len : tbl.length = 130 := rfl
theorem rows_len : rowsL.length = 62 := rfl
theorem late_len : lateL.length = 68 := rfl
theorem rows_top : (rowsL.getD 61 default).1 = 288 := rfl
theorem rows_le {i : Nat} (h : i < 62) : (rowsL.getD i default).1 ≤ 288 := by
  by_cases e : i = 61
  · subst e; exact Int.le_refl _
  · have := rows_rising i 61 (by omega) (by decide)
    have := rows_top
    omega
theorem late_gt {i : Nat} (h : i < 68) : 288 < (lateL.getD i default).1 := by
  have h0 : (lateL.getD 0 default).1 = 289 := rfl
  by_cases e : i = 0
  · subst e; omega
  · have := late_rising 0 i (by omega) h
    omega
theorem rows_no {op i : Int} (ho : op ≤ 288) (h : 0 ≤ i ∧ i ≤ rowsL.length ∧ (∀ j : Nat, j < i → (rowsL.getD j default).1 < op) ∧ ∀ j : Nat, i ≤ j → j < rowsL.length → op ≤ (rowsL.getD j default).1) (hne : i = rowsL.length ∨ (rowsL.getD i.toNat default).1 ≠ op) : findR op = none := by
  have := none_of rows_rising h hne
  refine find_no fun j hj => ?_
  by_cases h1 : j < 62
  · rw [tbl_lo h1]; exact this j h1
  · obtain ⟨k, rfl⟩ : ∃ k, j = 62 + k := ⟨j - 62, by omega⟩
    rw [tbl_hi]
    have := late_gt (i := k) (by rw [tbl_len] at hj; omega)
    omega
theorem late_no {op i : Int} (ho : 288 < op) (h : 0 ≤ i ∧ i ≤ lateL.length ∧ (∀ j : Nat, j < i → (lateL.getD j default).1 < op) ∧ ∀ j : Nat, i ≤ j → j < lateL.length → op ≤ (lateL.getD j default).1) (hne : i = lateL.length ∨ (lateL.getD i.toNat default).1 ≠ op) : findR op = none := by
  have := none_of late_rising h hne
  refine find_no fun j hj => ?_
  by_cases h1 : j < 62
  · rw [tbl_lo h1]
    have := rows_le h1
    omega
  · obtain ⟨k, rfl⟩ : ∃ k, j = 62 + k := ⟨j - 62, by omega⟩
    rw [tbl_hi]
    exact this k (by rw [tbl_len] at hj; rw [late_len]; omega)
theorem rows_yes {op i : Int} (h : 0 ≤ i ∧ i < 62) (he : (rowsL.getD i.toNat default).1 = op) : findR op = some (rowsL.getD i.toNat default) := by
  have := find_at (i := i.toNat) (by rw [tbl_len]; omega)
  rw [tbl_lo (by omega), he] at this
  exact this
theorem late_yes {op i : Int} (h : 0 ≤ i ∧ i < 68) (he : (lateL.getD i.toNat default).1 = op) : findR op = some (lateL.getD i.toNat default) := by
  have := find_at (i := 62 + i.toNat) (by rw [tbl_len]; omega)
  rw [tbl_hi, he] at this
  exact this
theorem find_call {σ : AState} {op : Int} (ho : U32 op) :
    SCall Try.prog E0 49 [.int .u32 op] σ (Ret E0 σ (fun (_ : Unit) => foundV (findR op)) (fun _ => []) fun _ => True) := by
  obtain ⟨o0, o1⟩ := ho
  refine k_fun Try.func49 rfl (m := 39) rfl fun B hD Q K => ?_
  have F := Facts.nil E0 σ
  refine k_seq (fun Q K => ?_)
  refine k_lin (fun W K => ?_)
  refine l_bx F rfl rfl rfl rfl rfl (fun q1 s F => ?_)
  (try dsimp only [n_1, n_2, n_3, n_4, List.append_nil, pk, n_5, n_6] at F)
  refine l_al F rfl rfl rfl rfl (fun q2 s F => ?_)
  (try dsimp only [n_1, n_2, n_3, n_4, List.append_nil, pk, n_5, n_6] at F)
  refine l_op 0 rfl rfl rfl rfl rfl ?_
  refine l_nil (WK.nx (by assumption) ?_)
  refine SeqK.nx (by assumption) ?_
  refine k_seq (fun Q K => ?_)
  refine k_lin (fun W K => ?_)
  refine l_callp F rfl rfl (by kernel_rfl) rfl rfl rows_call (fun y1 s F _ => ?_)
  (try dsimp only [n_1, n_2, n_3, n_4, List.append_nil, pk, n_5, n_6] at F)
  refine l_al F rfl rfl rfl rfl (fun q4 s F => ?_)
  (try dsimp only [n_1, n_2, n_3, n_4, List.append_nil, pk, n_5, n_6] at F)
  refine l_stc F 3 rfl rfl rfl rfl rfl rfl rfl rfl rfl hD (fun s F => ?_)
  (try dsimp only [n_1, n_2, n_3, n_4, List.append_nil, pk, n_5, n_6] at F)
  refine l_nil (WK.nx (by assumption) ?_)
  refine SeqK.nx (by assumption) ?_
  refine k_seq (fun Q K => ?_)
  refine k_seq (fun Q K => ?_)
  refine k_linr mixed (by kernel_rfl) (fun W K => ?_)
  try have hpS := F.pns
  refine l_ldc F 0 rfl rfl rfl rfl rfl rfl rfl ?_
  first | have hpS := PnS.add hpS hS1 | have hpS := PnS.add hpS (OldC.sf (by assumption)) | skip
  refine l_ldc F 3 rfl rfl rfl rfl rfl rfl rfl ?_
  first | have hpS := PnS.add hpS hS4 | have hpS := PnS.add hpS (OldC.sf (by assumption)) | skip
  refine l_ldc F 3 rfl rfl rfl rfl rfl rfl rfl ?_
  first | have hpS := PnS.add hpS hS4 | have hpS := PnS.add hpS (OldC.sf (by assumption)) | skip
  first | refine l_op 2 rfl rfl rfl rfl rfl ?_ | refine l_ln rfl rfl rfl rfl ?_
  refine l_a64 rfl rfl rfl (by omega) rfl ?_
  refine l_ixr (e := eR) rfl rfl rfl rfl rfl rfl (F.has 2 rfl) ⟨eR_len, by decide⟩ (by omega) (fun m12 b12 hA12 => ?_)
  refine l_op 2 rfl rfl rfl rfl rfl ?_
  refine l_ld0 rfl rfl rfl rfl rfl (by assumption) ?_
  first | have hpS := PnS.add hpS hS12 | have hpS := PnS.add hpS (OldC.sf (by assumption)) | skip
  refine l_cmp rfl rfl rfl rfl ?_
  refine l_nil (WK.nx (by assumption) ?_)
  refine SeqK.nx (by assumption) ?_
  refine l_cond rfl rfl (fun hc1 => ?_) (fun hc1 => ?_)
  · replace hc1 := of_decide_eq_true ((irr_eq _).symm.trans hc1)
    have hlt : 288 < op := by have := rows_top; rw [show ((62 : Nat) : Int) - 1 = ((61 : Nat) : Int) by rfl, Int.toNat_natCast] at hc1; omega
    refine k_lin (fun W K => ?_)
    refine l_callp F rfl rfl (by kernel_rfl) rfl rfl late_call (fun y2 s F _ => ?_)
    (try dsimp only [n_1, n_2, n_3, n_4, List.append_nil, pk, n_5, n_6] at F)
    refine l_stc F 3 rfl rfl rfl rfl rfl rfl rfl rfl rfl hD (fun s F => ?_)
    (try dsimp only [n_1, n_2, n_3, n_4, List.append_nil, pk, n_5, n_6] at F)
    refine l_nil (WK.nx (by assumption) ?_)
    refine SeqK.nx (by assumption) ?_
    refine k_seq (fun Q K => ?_)
    refine k_lin (fun W K => ?_)
    refine l_ldc F 3 rfl rfl rfl rfl rfl rfl rfl ?_
    first | refine l_op 2 rfl rfl rfl rfl rfl ?_ | refine l_ln rfl rfl rfl rfl ?_
    refine l_mkf rfl rfl rfl ?_
    first
      | refine l_callp F rfl rfl (by kernel_rfl) rfl rfl (search_call (tb := lateL) (a := y2.1) (c := y2.2) (op := op) (p := q4) (q := q1) rfl (F.cel0 3 rfl) (F.cel0 0 rfl) (Old.pure (F.has 4 rfl)) (by decide) late_rising) (fun i s F hi => ?_)
      | refine l_callp F rfl rfl (by kernel_rfl) rfl rfl (search_call (tb := rowsL) (a := y1.1) (c := y1.2) (op := op) (p := q4) (q := q1) rfl (F.cel0 3 rfl) (F.cel0 0 rfl) (Old.pure (F.has 2 rfl)) (by decide) rows_rising) (fun i s F hi => ?_)
    have hi2 := hi.2.1
    first | rw [late_len] at hi2 | rw [rows_len] at hi2
    (try dsimp only [n_1, n_2, n_3, n_4, List.append_nil, pk, n_5, n_6] at F)
    refine l_op 0 rfl rfl rfl rfl rfl ?_
    refine l_nil (WK.nx (by assumption) ?_)
    refine SeqK.nx (by assumption) ?_
    refine k_seq (fun Q K => ?_)
    refine k_seq (fun Q K => ?_)
    refine k_linm [0, 1, 2, 3, 4, 6, 5, 7, 8, 9, 10, 11, 12] mixed (by kernel_rfl) (fun W K => ?_)
    try have hpS := F.pns
    refine l_op 0 rfl rfl rfl rfl rfl ?_
    refine l_ldc F 3 rfl rfl rfl rfl rfl rfl rfl ?_
    first | have hpS := PnS.add hpS hS4 | have hpS := PnS.add hpS (OldC.sf (by assumption)) | skip
    first | refine l_op 2 rfl rfl rfl rfl rfl ?_ | refine l_ln rfl rfl rfl rfl ?_
    refine l_cmp rfl rfl rfl rfl ?_
    refine l_op 0 rfl rfl rfl rfl rfl ?_
    refine l_guard rfl rfl rfl (fun hc2 => ?_) (fun hc2 => ?_)
    · first | replace hc2 := eq_of_beq ((irr_eq _).symm.trans hc2) | simp only [irr_eq, beq_iff_eq, beq_eq_false_iff_ne, ne_eq, decide_eq_true_eq, decide_eq_false_iff_not] at hc2
      refine l_s rfl rfl ?_
      refine l_s rfl rfl ?_
      refine l_s rfl rfl ?_
      refine l_s rfl rfl ?_
      refine l_s rfl rfl ?_
      refine l_s rfl rfl ?_
      refine l_s rfl rfl ?_
      refine l_op 2 rfl rfl rfl rfl rfl ?_
      refine l_nil (WK.nx (by assumption) ?_)
      refine SeqK.nx (by assumption) ?_
      first | refine e_cond_t rfl rfl rfl ?_ | refine e_cond_t rfl rfl (by rw [irr_eq]; first | exact beq_iff_eq.2 (by assumption) | exact decide_eq_true (by assumption) | exact bne_iff_ne.2 (by assumption)) ?_
      refine k_seq (fun Q K => ?_)
      refine k_lin (fun W K => ?_)
      refine l_bld rfl rfl rfl rfl ?_
      refine l_stca F 1 rfl rfl rfl rfl rfl rfl rfl rfl rfl rfl hD rfl (fun s F => ?_)
      (try dsimp only [n_1, n_2, n_3, n_4, List.append_nil, pk, n_5, n_6] at F)
      refine l_op 0 rfl rfl rfl rfl rfl ?_
      refine l_nil (WK.nx (by assumption) ?_)
      refine SeqK.nx (by assumption) ?_
      refine k_ret ?_
      refine SeqK.rt (by assumption) ?_
      first | refine FunK.rtc (by assumption) (res_cell F 0 rfl rfl (by kernel_rfl) (resE_rsv rfl)) ?_ | refine FunK.rtc (by assumption) (res_cell F 1 rfl rfl (by kernel_rfl) (resE_rsv rfl)) ?_ | refine FunK.rtc (by assumption) (res_cell F 2 rfl rfl (by kernel_rfl) (resE_rsv rfl)) ?_ | refine FunK.rtc (by assumption) (res_cell F 3 rfl rfl (by kernel_rfl) (resE_rsv rfl)) ?_ | refine FunK.rtc (by assumption) (res_cell F 4 rfl rfl (by kernel_rfl) (resE_rsv rfl)) ?_ | refine FunK.rtc (by assumption) (res_cell F 5 rfl rfl (by kernel_rfl) (resE_rsv rfl)) ?_ | refine FunK.rtc (by assumption) (res_cell F 6 rfl rfl (by kernel_rfl) (resE_rsv rfl)) ?_ | refine FunK.rtc (by assumption) (res_cell F 7 rfl rfl (by kernel_rfl) (resE_rsv rfl)) ?_
      -- leaf 1
      refine ⟨(), ?_, F.pick [] (by decide), trivial⟩
      first
        | (rw [late_no hlt hi (by first | (left; rw [late_len]; omega) | (right; omega))]; rfl)
        | (rw [rows_no hle hi (by first | (left; rw [rows_len]; omega) | (right; omega))]; rfl)
        | (rw [late_yes (op := op) (i := i) ⟨by omega, by omega⟩ (by omega)]; rfl)
        | (rw [rows_yes (op := op) (i := i) ⟨by omega, by omega⟩ (by omega)]; rfl)
    first | replace hc2 := ne_of_beq_false ((irr_eq _).symm.trans hc2) | simp only [irr_eq, beq_iff_eq, beq_eq_false_iff_ne, ne_eq, decide_eq_true_eq, decide_eq_false_iff_not] at hc2
    refine l_op 0 rfl rfl rfl rfl rfl ?_
    refine l_ldc F 3 rfl rfl rfl rfl rfl rfl rfl ?_
    first | have hpS := PnS.add hpS hS4 | have hpS := PnS.add hpS (OldC.sf (by assumption)) | skip
    first
      | refine l_ixr (e := eR) rfl rfl rfl rfl rfl rfl (F.has 4 rfl) ⟨eR_len, by decide⟩ (by omega) (fun m28 b28 hA28 => ?_)
      | refine l_ixr (e := eR) rfl rfl rfl rfl rfl rfl (F.has 2 rfl) ⟨eR_len, by decide⟩ (by omega) (fun m28 b28 hA28 => ?_)
    refine l_op 2 rfl rfl rfl rfl rfl ?_
    refine l_ld0 rfl rfl rfl rfl rfl (by assumption) ?_
    first | have hpS := PnS.add hpS hS28 | have hpS := PnS.add hpS (OldC.sf (by assumption)) | skip
    refine l_ldc F 0 rfl rfl rfl rfl rfl rfl rfl ?_
    first | have hpS := PnS.add hpS hS1 | have hpS := PnS.add hpS (OldC.sf (by assumption)) | skip
    refine l_cmp rfl rfl rfl rfl ?_
    refine l_op 2 rfl rfl rfl rfl rfl ?_
    refine l_nil (WK.nx (by assumption) ?_)
    refine SeqK.nx (by assumption) ?_
    refine l_cond rfl rfl (fun hc3 => ?_) (fun hc3 => ?_)
    · first | replace hc3 := bne_iff_ne.1 ((irr_eq _).symm.trans hc3) | simp only [irr_eq, bne_iff_ne, bne_eq_false_iff_eq, ne_eq, decide_eq_true_eq, decide_eq_false_iff_not, Bool.not_eq_true', Bool.not_eq_false'] at hc3
      refine k_seq (fun Q K => ?_)
      refine k_lin (fun W K => ?_)
      refine l_bld rfl rfl rfl rfl ?_
      refine l_stca F 1 rfl rfl rfl rfl rfl rfl rfl rfl rfl rfl hD rfl (fun s F => ?_)
      (try dsimp only [n_1, n_2, n_3, n_4, List.append_nil, pk, n_5, n_6] at F)
      refine l_op 0 rfl rfl rfl rfl rfl ?_
      refine l_nil (WK.nx (by assumption) ?_)
      refine SeqK.nx (by assumption) ?_
      refine k_ret ?_
      refine SeqK.rt (by assumption) ?_
      first | refine FunK.rtc (by assumption) (res_cell F 0 rfl rfl (by kernel_rfl) (resE_rsv rfl)) ?_ | refine FunK.rtc (by assumption) (res_cell F 1 rfl rfl (by kernel_rfl) (resE_rsv rfl)) ?_ | refine FunK.rtc (by assumption) (res_cell F 2 rfl rfl (by kernel_rfl) (resE_rsv rfl)) ?_ | refine FunK.rtc (by assumption) (res_cell F 3 rfl rfl (by kernel_rfl) (resE_rsv rfl)) ?_ | refine FunK.rtc (by assumption) (res_cell F 4 rfl rfl (by kernel_rfl) (resE_rsv rfl)) ?_ | refine FunK.rtc (by assumption) (res_cell F 5 rfl rfl (by kernel_rfl) (resE_rsv rfl)) ?_ | refine FunK.rtc (by assumption) (res_cell F 6 rfl rfl (by kernel_rfl) (resE_rsv rfl)) ?_ | refine FunK.rtc (by assumption) (res_cell F 7 rfl rfl (by kernel_rfl) (resE_rsv rfl)) ?_
      -- leaf 2
      refine ⟨(), ?_, F.pick [] (by decide), trivial⟩
      first
        | (rw [late_no hlt hi (by first | (left; rw [late_len]; omega) | (right; omega))]; rfl)
        | (rw [rows_no hle hi (by first | (left; rw [rows_len]; omega) | (right; omega))]; rfl)
        | (rw [late_yes (op := op) (i := i) ⟨by omega, by omega⟩ (by omega)]; rfl)
        | (rw [rows_yes (op := op) (i := i) ⟨by omega, by omega⟩ (by omega)]; rfl)
    first | replace hc3 := bne_eq_false_iff_eq.1 ((irr_eq _).symm.trans hc3) | simp only [irr_eq, bne_iff_ne, bne_eq_false_iff_eq, ne_eq, decide_eq_true_eq, decide_eq_false_iff_not, Bool.not_eq_true', Bool.not_eq_false'] at hc3
    refine k_skip ?_
    refine SeqK.nx (by assumption) ?_
    refine k_seq (fun Q K => ?_)
    refine k_lin (fun W K => ?_)
    refine l_ldc F 3 rfl rfl rfl rfl rfl rfl rfl ?_
    refine l_op 0 rfl rfl rfl rfl rfl ?_
    first
      | refine l_ixr (e := eR) rfl rfl rfl rfl rfl rfl (F.has 4 rfl) ⟨eR_len, by decide⟩ (by omega) (fun m37 b37 hA37 => ?_)
      | refine l_ixr (e := eR) rfl rfl rfl rfl rfl rfl (F.has 2 rfl) ⟨eR_len, by decide⟩ (by omega) (fun m37 b37 hA37 => ?_)
    refine l_lda rfl rfl rfl rfl rfl (by assumption) ?_
    refine l_stca F 1 rfl rfl rfl rfl rfl rfl rfl rfl rfl rfl hD rfl (fun s F => ?_)
    (try dsimp only [n_1, n_2, n_3, n_4, List.append_nil, pk, n_5, n_6] at F)
    refine l_op 0 rfl rfl rfl rfl rfl ?_
    refine l_nil (WK.nx (by assumption) ?_)
    refine SeqK.nx (by assumption) ?_
    refine k_ret ?_
    first | refine FunK.rtc (by assumption) (res_cell F 0 rfl rfl (by kernel_rfl) (resE_rsv rfl)) ?_ | refine FunK.rtc (by assumption) (res_cell F 1 rfl rfl (by kernel_rfl) (resE_rsv rfl)) ?_ | refine FunK.rtc (by assumption) (res_cell F 2 rfl rfl (by kernel_rfl) (resE_rsv rfl)) ?_ | refine FunK.rtc (by assumption) (res_cell F 3 rfl rfl (by kernel_rfl) (resE_rsv rfl)) ?_ | refine FunK.rtc (by assumption) (res_cell F 4 rfl rfl (by kernel_rfl) (resE_rsv rfl)) ?_ | refine FunK.rtc (by assumption) (res_cell F 5 rfl rfl (by kernel_rfl) (resE_rsv rfl)) ?_ | refine FunK.rtc (by assumption) (res_cell F 6 rfl rfl (by kernel_rfl) (resE_rsv rfl)) ?_ | refine FunK.rtc (by assumption) (res_cell F 7 rfl rfl (by kernel_rfl) (resE_rsv rfl)) ?_
    -- leaf 3
    refine ⟨(), ?_, F.pick [] (by decide), trivial⟩
    first
      | (rw [late_no hlt hi (by first | (left; rw [late_len]; omega) | (right; omega))]; rfl)
      | (rw [rows_no hle hi (by first | (left; rw [rows_len]; omega) | (right; omega))]; rfl)
      | (rw [late_yes (op := op) (i := i) ⟨by omega, by omega⟩ (by omega)]; rfl)
      | (rw [rows_yes (op := op) (i := i) ⟨by omega, by omega⟩ (by omega)]; rfl)
  replace hc1 := of_decide_eq_false ((irr_eq _).symm.trans hc1)
  have hle : op ≤ 288 := by have := rows_top; rw [show ((62 : Nat) : Int) - 1 = ((61 : Nat) : Int) by rfl, Int.toNat_natCast] at hc1; omega
  refine k_skip ?_
  refine SeqK.nx (by assumption) ?_
  refine k_seq (fun Q K => ?_)
  refine k_lin (fun W K => ?_)
  refine l_ldc F 3 rfl rfl rfl rfl rfl rfl rfl ?_
  first | refine l_op 2 rfl rfl rfl rfl rfl ?_ | refine l_ln rfl rfl rfl rfl ?_
  refine l_mkf rfl rfl rfl ?_
  first
    | refine l_callp F rfl rfl (by kernel_rfl) rfl rfl (search_call (tb := lateL) (a := y2.1) (c := y2.2) (op := op) (p := q4) (q := q1) rfl (F.cel0 3 rfl) (F.cel0 0 rfl) (Old.pure (F.has 4 rfl)) (by decide) late_rising) (fun i s F hi => ?_)
    | refine l_callp F rfl rfl (by kernel_rfl) rfl rfl (search_call (tb := rowsL) (a := y1.1) (c := y1.2) (op := op) (p := q4) (q := q1) rfl (F.cel0 3 rfl) (F.cel0 0 rfl) (Old.pure (F.has 2 rfl)) (by decide) rows_rising) (fun i s F hi => ?_)
  have hi2 := hi.2.1
  first | rw [late_len] at hi2 | rw [rows_len] at hi2
  (try dsimp only [n_1, n_2, n_3, n_4, List.append_nil, pk, n_5, n_6] at F)
  refine l_op 0 rfl rfl rfl rfl rfl ?_
  refine l_nil (WK.nx (by assumption) ?_)
  refine SeqK.nx (by assumption) ?_
  refine k_seq (fun Q K => ?_)
  refine k_seq (fun Q K => ?_)
  refine k_linm [0, 1, 2, 3, 4, 6, 5, 7, 8, 9, 10, 11, 12] mixed (by kernel_rfl) (fun W K => ?_)
  try have hpS := F.pns
  refine l_op 0 rfl rfl rfl rfl rfl ?_
  refine l_ldc F 3 rfl rfl rfl rfl rfl rfl rfl ?_
  first | have hpS := PnS.add hpS hS4 | have hpS := PnS.add hpS (OldC.sf (by assumption)) | skip
  first | refine l_op 2 rfl rfl rfl rfl rfl ?_ | refine l_ln rfl rfl rfl rfl ?_
  refine l_cmp rfl rfl rfl rfl ?_
  refine l_op 0 rfl rfl rfl rfl rfl ?_
  refine l_guard rfl rfl rfl (fun hc4 => ?_) (fun hc4 => ?_)
  · first | replace hc4 := eq_of_beq ((irr_eq _).symm.trans hc4) | simp only [irr_eq, beq_iff_eq, beq_eq_false_iff_ne, ne_eq, decide_eq_true_eq, decide_eq_false_iff_not] at hc4
    refine l_s rfl rfl ?_
    refine l_s rfl rfl ?_
    refine l_s rfl rfl ?_
    refine l_s rfl rfl ?_
    refine l_s rfl rfl ?_
    refine l_s rfl rfl ?_
    refine l_s rfl rfl ?_
    refine l_op 2 rfl rfl rfl rfl rfl ?_
    refine l_nil (WK.nx (by assumption) ?_)
    refine SeqK.nx (by assumption) ?_
    first | refine e_cond_t rfl rfl rfl ?_ | refine e_cond_t rfl rfl (by rw [irr_eq]; first | exact beq_iff_eq.2 (by assumption) | exact decide_eq_true (by assumption) | exact bne_iff_ne.2 (by assumption)) ?_
    refine k_seq (fun Q K => ?_)
    refine k_lin (fun W K => ?_)
    refine l_bld rfl rfl rfl rfl ?_
    refine l_stca F 1 rfl rfl rfl rfl rfl rfl rfl rfl rfl rfl hD rfl (fun s F => ?_)
    (try dsimp only [n_1, n_2, n_3, n_4, List.append_nil, pk, n_5, n_6] at F)
    refine l_op 0 rfl rfl rfl rfl rfl ?_
    refine l_nil (WK.nx (by assumption) ?_)
    refine SeqK.nx (by assumption) ?_
    refine k_ret ?_
    refine SeqK.rt (by assumption) ?_
    first | refine FunK.rtc (by assumption) (res_cell F 0 rfl rfl (by kernel_rfl) (resE_rsv rfl)) ?_ | refine FunK.rtc (by assumption) (res_cell F 1 rfl rfl (by kernel_rfl) (resE_rsv rfl)) ?_ | refine FunK.rtc (by assumption) (res_cell F 2 rfl rfl (by kernel_rfl) (resE_rsv rfl)) ?_ | refine FunK.rtc (by assumption) (res_cell F 3 rfl rfl (by kernel_rfl) (resE_rsv rfl)) ?_ | refine FunK.rtc (by assumption) (res_cell F 4 rfl rfl (by kernel_rfl) (resE_rsv rfl)) ?_ | refine FunK.rtc (by assumption) (res_cell F 5 rfl rfl (by kernel_rfl) (resE_rsv rfl)) ?_ | refine FunK.rtc (by assumption) (res_cell F 6 rfl rfl (by kernel_rfl) (resE_rsv rfl)) ?_ | refine FunK.rtc (by assumption) (res_cell F 7 rfl rfl (by kernel_rfl) (resE_rsv rfl)) ?_
    -- leaf 4
    refine ⟨(), ?_, F.pick [] (by decide), trivial⟩
    first
      | (rw [late_no hlt hi (by first | (left; rw [late_len]; omega) | (right; omega))]; rfl)
      | (rw [rows_no hle hi (by first | (left; rw [rows_len]; omega) | (right; omega))]; rfl)
      | (rw [late_yes (op := op) (i := i) ⟨by omega, by omega⟩ (by omega)]; rfl)
      | (rw [rows_yes (op := op) (i := i) ⟨by omega, by omega⟩ (by omega)]; rfl)
  first | replace hc4 := ne_of_beq_false ((irr_eq _).symm.trans hc4) | simp only [irr_eq, beq_iff_eq, beq_eq_false_iff_ne, ne_eq, decide_eq_true_eq, decide_eq_false_iff_not] at hc4
  refine l_op 0 rfl rfl rfl rfl rfl ?_
  refine l_ldc F 3 rfl rfl rfl rfl rfl rfl rfl ?_
  first | have hpS := PnS.add hpS hS4 | have hpS := PnS.add hpS (OldC.sf (by assumption)) | skip
  first
    | refine l_ixr (e := eR) rfl rfl rfl rfl rfl rfl (F.has 4 rfl) ⟨eR_len, by decide⟩ (by omega) (fun m28 b28 hA28 => ?_)
    | refine l_ixr (e := eR) rfl rfl rfl rfl rfl rfl (F.has 2 rfl) ⟨eR_len, by decide⟩ (by omega) (fun m28 b28 hA28 => ?_)
  refine l_op 2 rfl rfl rfl rfl rfl ?_
  refine l_ld0 rfl rfl rfl rfl rfl (by assumption) ?_
  first | have hpS := PnS.add hpS hS28 | have hpS := PnS.add hpS (OldC.sf (by assumption)) | skip
  refine l_ldc F 0 rfl rfl rfl rfl rfl rfl rfl ?_
  first | have hpS := PnS.add hpS hS1 | have hpS := PnS.add hpS (OldC.sf (by assumption)) | skip
  refine l_cmp rfl rfl rfl rfl ?_
  refine l_op 2 rfl rfl rfl rfl rfl ?_
  refine l_nil (WK.nx (by assumption) ?_)
  refine SeqK.nx (by assumption) ?_
  refine l_cond rfl rfl (fun hc5 => ?_) (fun hc5 => ?_)
  · first | replace hc5 := bne_iff_ne.1 ((irr_eq _).symm.trans hc5) | simp only [irr_eq, bne_iff_ne, bne_eq_false_iff_eq, ne_eq, decide_eq_true_eq, decide_eq_false_iff_not, Bool.not_eq_true', Bool.not_eq_false'] at hc5
    refine k_seq (fun Q K => ?_)
    refine k_lin (fun W K => ?_)
    refine l_bld rfl rfl rfl rfl ?_
    refine l_stca F 1 rfl rfl rfl rfl rfl rfl rfl rfl rfl rfl hD rfl (fun s F => ?_)
    (try dsimp only [n_1, n_2, n_3, n_4, List.append_nil, pk, n_5, n_6] at F)
    refine l_op 0 rfl rfl rfl rfl rfl ?_
    refine l_nil (WK.nx (by assumption) ?_)
    refine SeqK.nx (by assumption) ?_
    refine k_ret ?_
    refine SeqK.rt (by assumption) ?_
    first | refine FunK.rtc (by assumption) (res_cell F 0 rfl rfl (by kernel_rfl) (resE_rsv rfl)) ?_ | refine FunK.rtc (by assumption) (res_cell F 1 rfl rfl (by kernel_rfl) (resE_rsv rfl)) ?_ | refine FunK.rtc (by assumption) (res_cell F 2 rfl rfl (by kernel_rfl) (resE_rsv rfl)) ?_ | refine FunK.rtc (by assumption) (res_cell F 3 rfl rfl (by kernel_rfl) (resE_rsv rfl)) ?_ | refine FunK.rtc (by assumption) (res_cell F 4 rfl rfl (by kernel_rfl) (resE_rsv rfl)) ?_ | refine FunK.rtc (by assumption) (res_cell F 5 rfl rfl (by kernel_rfl) (resE_rsv rfl)) ?_ | refine FunK.rtc (by assumption) (res_cell F 6 rfl rfl (by kernel_rfl) (resE_rsv rfl)) ?_ | refine FunK.rtc (by assumption) (res_cell F 7 rfl rfl (by kernel_rfl) (resE_rsv rfl)) ?_
    -- leaf 5
    refine ⟨(), ?_, F.pick [] (by decide), trivial⟩
    first
      | (rw [late_no hlt hi (by first | (left; rw [late_len]; omega) | (right; omega))]; rfl)
      | (rw [rows_no hle hi (by first | (left; rw [rows_len]; omega) | (right; omega))]; rfl)
      | (rw [late_yes (op := op) (i := i) ⟨by omega, by omega⟩ (by omega)]; rfl)
      | (rw [rows_yes (op := op) (i := i) ⟨by omega, by omega⟩ (by omega)]; rfl)
  first | replace hc5 := bne_eq_false_iff_eq.1 ((irr_eq _).symm.trans hc5) | simp only [irr_eq, bne_iff_ne, bne_eq_false_iff_eq, ne_eq, decide_eq_true_eq, decide_eq_false_iff_not, Bool.not_eq_true', Bool.not_eq_false'] at hc5
  refine k_skip ?_
  refine SeqK.nx (by assumption) ?_
  refine k_seq (fun Q K => ?_)
  refine k_lin (fun W K => ?_)
  refine l_ldc F 3 rfl rfl rfl rfl rfl rfl rfl ?_
  refine l_op 0 rfl rfl rfl rfl rfl ?_
  first
    | refine l_ixr (e := eR) rfl rfl rfl rfl rfl rfl (F.has 4 rfl) ⟨eR_len, by decide⟩ (by omega) (fun m37 b37 hA37 => ?_)
    | refine l_ixr (e := eR) rfl rfl rfl rfl rfl rfl (F.has 2 rfl) ⟨eR_len, by decide⟩ (by omega) (fun m37 b37 hA37 => ?_)
  refine l_lda rfl rfl rfl rfl rfl (by assumption) ?_
  refine l_stca F 1 rfl rfl rfl rfl rfl rfl rfl rfl rfl rfl hD rfl (fun s F => ?_)
  (try dsimp only [n_1, n_2, n_3, n_4, List.append_nil, pk, n_5, n_6] at F)
  refine l_op 0 rfl rfl rfl rfl rfl ?_
  refine l_nil (WK.nx (by assumption) ?_)
  refine SeqK.nx (by assumption) ?_
  refine k_ret ?_
  first | refine FunK.rtc (by assumption) (res_cell F 0 rfl rfl (by kernel_rfl) (resE_rsv rfl)) ?_ | refine FunK.rtc (by assumption) (res_cell F 1 rfl rfl (by kernel_rfl) (resE_rsv rfl)) ?_ | refine FunK.rtc (by assumption) (res_cell F 2 rfl rfl (by kernel_rfl) (resE_rsv rfl)) ?_ | refine FunK.rtc (by assumption) (res_cell F 3 rfl rfl (by kernel_rfl) (resE_rsv rfl)) ?_ | refine FunK.rtc (by assumption) (res_cell F 4 rfl rfl (by kernel_rfl) (resE_rsv rfl)) ?_ | refine FunK.rtc (by assumption) (res_cell F 5 rfl rfl (by kernel_rfl) (resE_rsv rfl)) ?_ | refine FunK.rtc (by assumption) (res_cell F 6 rfl rfl (by kernel_rfl) (resE_rsv rfl)) ?_ | refine FunK.rtc (by assumption) (res_cell F 7 rfl rfl (by kernel_rfl) (resE_rsv rfl)) ?_
  -- leaf 6
  refine ⟨(), ?_, F.pick [] (by decide), trivial⟩
  first
    | (rw [late_no hlt hi (by first | (left; rw [late_len]; omega) | (right; omega))]; rfl)
    | (rw [rows_no hle hi (by first | (left; rw [rows_len]; omega) | (right; omega))]; rfl)
    | (rw [late_yes (op := op) (i := i) ⟨by omega, by omega⟩ (by omega)]; rfl)
    | (rw [rows_yes (op := op) (i := i) ⟨by omega, by omega⟩ (by omega)]; rfl)

def sigP (op : Int) : ByteArray × Bool := match findR op with | some r => (r.2.2, true) | none => (ByteArray.empty, false)
def nameP (op : Int) : ByteArray := match findR op with | some r => r.2.1 | none => ByteArray.empty
theorem signature_call {σ : AState} {op : Int} (ho : U32 op) :
    SCall Try.prog E0 25 [.int .u32 op] σ (Ret E0 σ (fun (_ : Unit) => .tuple #[.string (sigP op).1, .bool (sigP op).2]) (fun _ => []) fun _ => True) := by
  unfold sigP
  have hf := @find_call σ op ho
  cases hR : findR op with
  | none =>
    rw [hR] at hf
    refine k_fun Try.func25 rfl (m := 14) rfl fun B hD Q K => ?_
    have F := Facts.nil E0 σ
    refine k_seq (fun Q K => ?_)
    refine k_lin (fun W K => ?_)
    refine l_op 0 rfl rfl rfl rfl rfl ?_
    refine l_op 0 rfl rfl rfl rfl rfl ?_
    refine l_nil (WK.nx (by assumption) ?_)
    refine SeqK.nx (by assumption) ?_
    refine k_seq (fun Q K => ?_)
    refine k_lin (fun W K => ?_)
    refine l_op 0 rfl rfl rfl rfl rfl ?_
    refine l_callp F rfl rfl (by kernel_rfl) rfl rfl hf (fun _ s F _ => ?_)
    (try dsimp only [n_1, n_2, n_3, n_4, List.append_nil, pk, n_5, n_6] at F)
    refine l_op 0 rfl rfl rfl rfl rfl ?_
    refine l_op 2 rfl rfl rfl rfl rfl ?_
    refine l_op 2 rfl rfl rfl rfl rfl ?_
    refine l_al F rfl rfl rfl rfl (fun q4 s F => ?_)
    (try dsimp only [n_1, n_2, n_3, n_4, List.append_nil, pk, n_5, n_6] at F)
    refine l_stca F 0 rfl rfl rfl rfl rfl rfl rfl rfl rfl rfl hD rfl (fun s F => ?_)
    (try dsimp only [n_1, n_2, n_3, n_4, List.append_nil, pk, n_5, n_6] at F)
    refine l_op 0 rfl rfl rfl rfl rfl ?_
    refine l_nil (WK.nx (by assumption) ?_)
    refine SeqK.nx (by assumption) ?_
    refine k_seq (fun Q K => ?_)
    refine k_lin (fun W K => ?_)
    refine l_op 2 rfl rfl rfl rfl rfl ?_
    refine l_ldc F 0 rfl rfl rfl rfl rfl rfl rfl ?_
    refine l_op 0 rfl rfl rfl rfl rfl ?_
    refine l_op 0 rfl rfl rfl rfl rfl ?_
    refine l_op 0 rfl rfl rfl rfl rfl ?_
    refine l_nil (WK.nx (by assumption) ?_)
    refine SeqK.nx (by assumption) ?_
    refine k_ret ?_
    refine FunK.rt (by assumption) rfl ?_
    -- leaf 1
    exact ⟨(), rfl, F.pick [] (by decide), trivial⟩
  | some r =>
    rw [hR] at hf
    refine k_fun Try.func25 rfl (m := 14) rfl fun B hD Q K => ?_
    have F := Facts.nil E0 σ
    refine k_seq (fun Q K => ?_)
    refine k_lin (fun W K => ?_)
    refine l_op 0 rfl rfl rfl rfl rfl ?_
    refine l_op 0 rfl rfl rfl rfl rfl ?_
    refine l_nil (WK.nx (by assumption) ?_)
    refine SeqK.nx (by assumption) ?_
    refine k_seq (fun Q K => ?_)
    refine k_lin (fun W K => ?_)
    refine l_op 0 rfl rfl rfl rfl rfl ?_
    refine l_callp F rfl rfl (by kernel_rfl) rfl rfl hf (fun _ s F _ => ?_)
    (try dsimp only [n_1, n_2, n_3, n_4, List.append_nil, pk, n_5, n_6] at F)
    refine l_op 0 rfl rfl rfl rfl rfl ?_
    refine l_op 2 rfl rfl rfl rfl rfl ?_
    refine l_op 2 rfl rfl rfl rfl rfl ?_
    refine l_al F rfl rfl rfl rfl (fun q4 s F => ?_)
    (try dsimp only [n_1, n_2, n_3, n_4, List.append_nil, pk, n_5, n_6] at F)
    refine l_stca F 0 rfl rfl rfl rfl rfl rfl rfl rfl rfl rfl hD rfl (fun s F => ?_)
    (try dsimp only [n_1, n_2, n_3, n_4, List.append_nil, pk, n_5, n_6] at F)
    refine l_op 0 rfl rfl rfl rfl rfl ?_
    refine l_nil (WK.nx (by assumption) ?_)
    refine SeqK.nx (by assumption) ?_
    refine k_seq (fun Q K => ?_)
    refine k_lin (fun W K => ?_)
    refine l_op 2 rfl rfl rfl rfl rfl ?_
    refine l_ldc F 0 rfl rfl rfl rfl rfl rfl rfl ?_
    refine l_op 0 rfl rfl rfl rfl rfl ?_
    refine l_op 0 rfl rfl rfl rfl rfl ?_
    refine l_op 0 rfl rfl rfl rfl rfl ?_
    refine l_nil (WK.nx (by assumption) ?_)
    refine SeqK.nx (by assumption) ?_
    refine k_ret ?_
    refine FunK.rt (by assumption) rfl ?_
    -- leaf 1
    exact ⟨(), rfl, F.pick [] (by decide), trivial⟩
theorem name_call {σ : AState} {op : Int} (ho : U32 op) :
    SCall Try.prog E0 29 [.int .u32 op] σ (Ret E0 σ (fun (_ : Unit) => .string (nameP op)) (fun _ => []) fun _ => True) := by
  unfold nameP
  have hf := @find_call σ op ho
  cases hR : findR op with
  | none =>
    rw [hR] at hf
    refine k_fun Try.func29 rfl (m := 12) rfl fun B hD Q K => ?_
    have F := Facts.nil E0 σ
    refine k_seq (fun Q K => ?_)
    refine k_lin (fun W K => ?_)
    refine l_op 0 rfl rfl rfl rfl rfl ?_
    refine l_nil (WK.nx (by assumption) ?_)
    refine SeqK.nx (by assumption) ?_
    refine k_seq (fun Q K => ?_)
    refine k_lin (fun W K => ?_)
    refine l_op 0 rfl rfl rfl rfl rfl ?_
    refine l_callp F rfl rfl (by kernel_rfl) rfl rfl hf (fun _ s F _ => ?_)
    (try dsimp only [n_1, n_2, n_3, n_4, List.append_nil, pk, n_5, n_6] at F)
    refine l_op 0 rfl rfl rfl rfl rfl ?_
    refine l_op 2 rfl rfl rfl rfl rfl ?_
    refine l_op 2 rfl rfl rfl rfl rfl ?_
    refine l_al F rfl rfl rfl rfl (fun q3 s F => ?_)
    (try dsimp only [n_1, n_2, n_3, n_4, List.append_nil, pk, n_5, n_6] at F)
    refine l_stca F 0 rfl rfl rfl rfl rfl rfl rfl rfl rfl rfl hD rfl (fun s F => ?_)
    (try dsimp only [n_1, n_2, n_3, n_4, List.append_nil, pk, n_5, n_6] at F)
    refine l_op 0 rfl rfl rfl rfl rfl ?_
    refine l_nil (WK.nx (by assumption) ?_)
    refine SeqK.nx (by assumption) ?_
    refine k_seq (fun Q K => ?_)
    refine k_lin (fun W K => ?_)
    refine l_op 2 rfl rfl rfl rfl rfl ?_
    refine l_ldc F 0 rfl rfl rfl rfl rfl rfl rfl ?_
    refine l_op 0 rfl rfl rfl rfl rfl ?_
    refine l_nil (WK.nx (by assumption) ?_)
    refine SeqK.nx (by assumption) ?_
    refine k_ret ?_
    refine FunK.rt (by assumption) rfl ?_
    -- leaf 1
    exact ⟨(), rfl, F.pick [] (by decide), trivial⟩
  | some r =>
    rw [hR] at hf
    refine k_fun Try.func29 rfl (m := 12) rfl fun B hD Q K => ?_
    have F := Facts.nil E0 σ
    refine k_seq (fun Q K => ?_)
    refine k_lin (fun W K => ?_)
    refine l_op 0 rfl rfl rfl rfl rfl ?_
    refine l_nil (WK.nx (by assumption) ?_)
    refine SeqK.nx (by assumption) ?_
    refine k_seq (fun Q K => ?_)
    refine k_lin (fun W K => ?_)
    refine l_op 0 rfl rfl rfl rfl rfl ?_
    refine l_callp F rfl rfl (by kernel_rfl) rfl rfl hf (fun _ s F _ => ?_)
    (try dsimp only [n_1, n_2, n_3, n_4, List.append_nil, pk, n_5, n_6] at F)
    refine l_op 0 rfl rfl rfl rfl rfl ?_
    refine l_op 2 rfl rfl rfl rfl rfl ?_
    refine l_op 2 rfl rfl rfl rfl rfl ?_
    refine l_al F rfl rfl rfl rfl (fun q3 s F => ?_)
    (try dsimp only [n_1, n_2, n_3, n_4, List.append_nil, pk, n_5, n_6] at F)
    refine l_stca F 0 rfl rfl rfl rfl rfl rfl rfl rfl rfl rfl hD rfl (fun s F => ?_)
    (try dsimp only [n_1, n_2, n_3, n_4, List.append_nil, pk, n_5, n_6] at F)
    refine l_op 0 rfl rfl rfl rfl rfl ?_
    refine l_nil (WK.nx (by assumption) ?_)
    refine SeqK.nx (by assumption) ?_
    refine k_seq (fun Q K => ?_)
    refine k_lin (fun W K => ?_)
    refine l_op 2 rfl rfl rfl rfl rfl ?_
    refine l_ldc F 0 rfl rfl rfl rfl rfl rfl rfl ?_
    refine l_op 0 rfl rfl rfl rfl rfl ?_
    refine l_nil (WK.nx (by assumption) ?_)
    refine SeqK.nx (by assumption) ?_
    refine k_ret ?_
    refine FunK.rt (by assumption) rfl ?_
    -- leaf 1
    exact ⟨(), rfl, F.pick [] (by decide), trivial⟩

end Go.Proofs.Ytkemnodaadlonaa
