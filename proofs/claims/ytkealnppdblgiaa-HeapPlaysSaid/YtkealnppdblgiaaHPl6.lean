/- The document's heap: its blocks, rising. No statement of the seat is proved in this text. -/
import Derived.Test.YtkealnppdblgiaaHPl5
set_option linter.unusedVariables false
set_option linter.unusedSimpArgs false
set_option maxRecDepth 100000
set_option maxHeartbeats 4000000
-- macs
namespace Go.Proofs.Ytkealnppdblgiaa
open GAb Go

def Asc (bl : List (Int × Int)) : Prop := ∀ i j : Nat, i < j → j < bl.length → (bl.getD i default).1 < (bl.getD j default).1
theorem asc_right {en : Int} : ∀ {bl : List (Int × Int)} {q : Int}, BlkOK bl → rightL en q bl = true → Asc bl
  | [], q, _, _ => fun i j h1 h2 => by simp at h2
  | b :: bl, q, hB, h => by
    obtain ⟨⟨a1, a2⟩, ⟨a3, a4⟩⟩ := hB b (by simp)
    have hB' : BlkOK bl := fun x hx => hB x (by simp [hx])
    simp only [rightL] at h
    split at h
    · cases h
    rename_i hb
    have hall := rightL_all hB' h
    have ih := asc_right hB' h
    intro i j h1 h2
    cases j with
    | zero => omega
    | succ j =>
      simp only [List.length_cons] at h2
      have hj : j < bl.length := by omega
      cases i with
      | zero =>
        simp only [List.getD_cons_zero, List.getD_cons_succ]
        have := hall _ (List.getElem_mem hj)
        simp only [List.getD, List.getElem?_eq_getElem hj, Option.getD_some]
        omega
      | succ i =>
        simp only [List.getD_cons_succ]
        exact ih i j (by omega) hj
theorem asc_hok {most st en : Int} {bl : List (Int × Int)} (h : HOK most st en bl) : Asc bl := by
  by_cases hne : bl = []
  · subst hne; intro i j h1 h2; simp at h2
  · exact asc_right h.blk (h.on hne).2.2.2.2
/-- The last address of the first so many. -/
def lastA (bl : List (Int × Int)) (k : Nat) : Int := if k = 0 then -1 else (bl.getD (k - 1) default).1
theorem best_at {L bl : List (Int × Int)} (hP : L.Perm bl) (hA : Asc bl) (hB : BlkOK bl) {k : Nat} (hk : k < bl.length) {b : Nat} (hb : b < L.length) (h1 : lastA bl k < (L.getD b default).1)
    (h2 : ∀ j : Nat, j < L.length → lastA bl k < (L.getD j default).1 → (L.getD b default).1 ≤ (L.getD j default).1) : L.getD b default = bl.getD k default := by
  have hmem : L.getD b default ∈ bl := by
    refine hP.mem_iff.1 ?_
    simp only [List.getD, List.getElem?_eq_getElem hb, Option.getD_some]
    exact List.getElem_mem hb
  obtain ⟨i, hi, he⟩ := List.getElem_of_mem hmem
  have hei : bl.getD i default = L.getD b default := by
    rw [← he]; simp [List.getD, hi]
  have hlast : lastA bl k < (bl.getD k default).1 := by
    unfold lastA
    split
    · rename_i h0
      have := (hB.at k).1.1
      omega
    · exact hA (k - 1) k (by omega) hk
  have hki : k ≤ i := by
    by_cases h : i < k
    · exfalso
      rw [← hei] at h1
      unfold lastA at h1
      rw [if_neg (by omega)] at h1
      by_cases e : i = k - 1
      · rw [e] at h1; omega
      · have := hA i (k - 1) (by omega) (by omega); omega
    · omega
  have hkm : bl.getD k default ∈ L := by
    refine hP.mem_iff.2 ?_
    simp only [List.getD, List.getElem?_eq_getElem hk, Option.getD_some]
    exact List.getElem_mem hk
  obtain ⟨j, hj, hje⟩ := List.getElem_of_mem hkm
  have hej : L.getD j default = bl.getD k default := by rw [← hje]; simp [List.getD, hj]
  have hle := h2 j hj (by rw [hej]; exact hlast)
  rw [hej, ← hei] at hle
  by_cases e : i = k
  · rw [← hei, e]
  · have := hA k i (by omega) hi
    omega
theorem best_is {L bl : List (Int × Int)} (hP : L.Perm bl) (hA : Asc bl) (hB : BlkOK bl) {k : Nat} (hk : k < bl.length) (h : ∀ j : Nat, j < L.length → (L.getD j default).1 ≤ lastA bl k) : False := by
  have hkm : bl.getD k default ∈ L := by
    refine hP.mem_iff.2 ?_
    simp only [List.getD, List.getElem?_eq_getElem hk, Option.getD_some]
    exact List.getElem_mem hk
  obtain ⟨j, hj, hje⟩ := List.getElem_of_mem hkm
  have hej : L.getD j default = bl.getD k default := by rw [← hje]; simp [List.getD, hj]
  have := h j hj
  rw [hej] at this
  unfold lastA at this
  split at this
  · have := (hB.at k).1.1; omega
  · have := hA (k - 1) k (by omega) hk; omega
/-- Among the first i of them the least one behind the last, if there is one. -/
def BI (L : List (Int × Int)) (la i b : Int) : Prop :=
  (b = -1 ∧ ∀ j : Nat, j < i → (L.getD j default).1 ≤ la) ∨ (0 ≤ b ∧ b < i ∧ la < (L.getD b.toNat default).1 ∧ ∀ j : Nat, j < i → la < (L.getD j default).1 → (L.getD b.toNat default).1 ≤ (L.getD j default).1)
theorem bi_take {L : List (Int × Int)} {la i b : Int} (h : BI L la i b) (hi : 0 ≤ i) (h1 : la < (L.getD i.toNat default).1) (h2 : b < 0 ∨ (L.getD i.toNat default).1 < (L.getD b.toNat default).1) : BI L la (i + 1) i := by
  refine .inr ⟨hi, by omega, h1, fun j hj hl => ?_⟩
  by_cases hji : (j : Int) < i
  · rcases h with ⟨hb, h⟩ | ⟨hb, hbi, h3, h4⟩
    · have := h j hji; omega
    · have := h4 j hji hl; omega
  · have : j = i.toNat := by omega
    rw [this]; exact Int.le_refl _
theorem bi_skip1 {L : List (Int × Int)} {la i b : Int} (h : BI L la i b) (hi : 0 ≤ i) (h1 : (L.getD i.toNat default).1 ≤ la) : BI L la (i + 1) b := by
  rcases h with ⟨hb, h⟩ | ⟨hb, hbi, h3, h4⟩
  · refine .inl ⟨hb, fun j hj => ?_⟩
    by_cases hji : (j : Int) < i
    · exact h j hji
    · have : j = i.toNat := by omega
      rw [this]; exact h1
  · refine .inr ⟨hb, by omega, h3, fun j hj hl => ?_⟩
    by_cases hji : (j : Int) < i
    · exact h4 j hji hl
    · have : j = i.toNat := by omega
      rw [this] at hl; omega
theorem bi_skip2 {L : List (Int × Int)} {la i b : Int} (h : BI L la i b) (hi : 0 ≤ i) (h1 : ¬ b < 0) (h2 : ¬ (L.getD i.toNat default).1 < (L.getD b.toNat default).1) : BI L la (i + 1) b := by
  rcases h with ⟨hb, h⟩ | ⟨hb, hbi, h3, h4⟩
  · omega
  · refine .inr ⟨hb, by omega, h3, fun j hj hl => ?_⟩
    by_cases hji : (j : Int) < i
    · exact h4 j hji hl
    · have : j = i.toNat := by omega
      rw [this]; omega
theorem rblocks_call {σ : AState} {m c : Nat} {a : Option Addr} {most st en : Int} {L bl : List (Int × Int)} (hc : OldC E0 σ m (rC a c most st en L)) (hl : Old E0 σ a L.length c 2 (rows eB L)) (hP : L.Perm bl) (hA : Asc bl) (hB : BlkOK bl) (hn : L.length ≤ 1000000) :
    SCall Try.prog E0 23 [.pointer (some ⟨m, 0, none⟩)] σ (Ret E0 σ (fun (y : Option Addr × Nat) => .slice y.1 bl.length y.2) (fun y => [own y.1 bl.length y.2 2 (rows eB bl)]) fun _ => True) := by
  have hlen : L.length = bl.length := hP.length_eq
  have hBL : BlkOK L := fun x hx => hB x (hP.mem_iff.1 hx)
  refine k_fun Try.func23 rfl (m := 81) rfl fun B hD Q K => ?_
  have F := Facts.nil E0 σ
  refine k_seq (fun Q K => ?_)
  refine k_lin (fun W K => ?_)
  refine l_op 0 rfl rfl rfl rfl rfl ?_
  refine l_nil (WK.nx (by assumption) ?_)
  refine SeqK.nx (by assumption) ?_
  refine k_seq (fun Q K => ?_)
  refine k_lin (fun W K => ?_)
  refine l_op 0 rfl rfl rfl rfl rfl ?_
  refine l_nil (WK.nx (by assumption) ?_)
  refine SeqK.nx (by assumption) ?_
  refine k_seq (fun Q K => ?_)
  refine k_block (fun Q K => ?_)
  have F := F.nilrow 2
  refine k_loop (α := Nat × Option Addr × Nat) (fun ⟨k, x, q⟩ s => Facts E0 σ s [own x k q 2 (rows eB (bl.take k))] ∧ k ≤ bl.length) (fun ⟨k, x, q⟩ => [(0, .pointer (some ⟨m, 0, none⟩)), (3, .slice x k q)]) (fun ⟨k, _⟩ => bl.length - k) (0, none, 0) ⟨F, by omega⟩ (by repeat (first | exact trivial | refine And.intro rfl ?_)) ?_
  clear F
  rintro ⟨k, x, q⟩ env s Q K0 ⟨F, k1⟩
  refine k_seq (fun Q K => ?_)
  refine k_seq (fun Q K => ?_)
  refine k_lin (fun W K => ?_)
  refine l_op 0 rfl rfl rfl rfl rfl ?_
  first | refine l_op 2 rfl rfl rfl rfl rfl ?_ | refine l_ln rfl rfl rfl rfl ?_
  refine l_op 0 rfl rfl rfl rfl rfl ?_
  refine l_op 2 rfl rfl rfl rfl rfl ?_
  refine l_op 2 rfl rfl rfl rfl rfl ?_
  refine l_ldo F (by assumption) rfl rfl rfl rfl rfl rfl ?_
  first | refine l_op 2 rfl rfl rfl rfl rfl ?_ | refine l_ln rfl rfl rfl rfl ?_
  refine l_cmp rfl rfl rfl rfl ?_
  refine l_nil (WK.nx (by assumption) ?_)
  refine SeqK.nx (by assumption) ?_
  refine l_cond rfl rfl (fun hc1 => ?_) (fun hc1 => ?_)
  · replace hc1 := of_decide_eq_true ((irr_eq _).symm.trans hc1)
    refine k_skip ?_
    refine SeqK.nx (by assumption) ?_
    refine k_block (fun Q K => ?_)
    refine k_seq (fun Q K => ?_)
    refine k_lin (fun W K => ?_)
    refine l_op 0 rfl rfl rfl rfl rfl ?_
    refine l_nil (WK.nx (by assumption) ?_)
    refine SeqK.nx (by assumption) ?_
    refine k_seq (fun Q K => ?_)
    refine k_seq (fun Q K => ?_)
    refine k_lin (fun W K => ?_)
    refine l_op 0 rfl rfl rfl rfl rfl ?_
    refine l_nil (WK.nx (by assumption) ?_)
    refine SeqK.nx (by assumption) ?_
    refine k_block (fun Q K => ?_)
    refine k_loop (α := Int × Int) (fun ⟨i, b⟩ s => Facts E0 σ s [own x k q 2 (rows eB (bl.take k))] ∧ 0 ≤ i ∧ i ≤ L.length ∧ BI L (lastA bl k) i b) (fun ⟨i, b⟩ => [(0, .pointer (some ⟨m, 0, none⟩)), (3, .slice x k q), (4, .int .i64 b), (5, .int .i64 i)]) (fun ⟨i, _⟩ => (L.length - i).toNat) (0, -1) ⟨F, by omega, by omega, .inl ⟨rfl, fun j hj => by omega⟩⟩ (by repeat (first | exact trivial | refine And.intro rfl ?_)) ?_
    clear F
    rintro ⟨i, b⟩ env s Q K1 ⟨F, i0, i1, hb⟩
    refine k_seq (fun Q K => ?_)
    refine k_seq (fun Q K => ?_)
    refine k_lin (fun W K => ?_)
    refine l_op 0 rfl rfl rfl rfl rfl ?_
    refine l_op 0 rfl rfl rfl rfl rfl ?_
    refine l_op 2 rfl rfl rfl rfl rfl ?_
    refine l_op 2 rfl rfl rfl rfl rfl ?_
    refine l_ldo F (by assumption) rfl rfl rfl rfl rfl rfl ?_
    first | refine l_op 2 rfl rfl rfl rfl rfl ?_ | refine l_ln rfl rfl rfl rfl ?_
    refine l_cmp rfl rfl rfl rfl ?_
    refine l_nil (WK.nx (by assumption) ?_)
    refine SeqK.nx (by assumption) ?_
    refine l_cond rfl rfl (fun hc2 => ?_) (fun hc2 => ?_)
    · replace hc2 := of_decide_eq_true ((irr_eq _).symm.trans hc2)
      obtain ⟨hLi0, hLi1⟩ := (hBL.at i.toNat).1
      have hbb : -1 ≤ b ∧ b < L.length := by rcases hb with h | h <;> omega
      have hla0 : (k : Int) = 0 → lastA bl k = -1 := fun h => if_pos (by omega)
      have hla1 : (k : Int) ≠ 0 → lastA bl k = ((bl.take k).getD ((k : Int) - 1).toNat default).1 := fun h => by
        unfold lastA
        rw [if_neg (by omega)]
        have e : ((k : Int) - 1).toNat = k - 1 := by omega
        rw [e]
        simp only [List.getD, List.getElem?_take, if_pos (show k - 1 < k by omega)]
      refine k_skip ?_
      refine SeqK.nx (by assumption) ?_
      refine k_seq (fun Q K => ?_)
      refine k_block (fun Q K => ?_)
      refine k_seq (fun Q K => ?_)
      refine k_linm [0, 1, 2, 3, 4, 5, 6, 8, 12, 13, 14, 15, 16, 17, 7, 9, 10, 11, 18, 19, 20, 21] mixed (by kernel_rfl) (fun W K => ?_)
      try have hpS := F.pns
      refine l_op 0 rfl rfl rfl rfl rfl ?_
      first | refine l_op 2 rfl rfl rfl rfl rfl ?_ | refine l_ln rfl rfl rfl rfl ?_
      refine l_cmp rfl rfl rfl rfl ?_
      refine l_op 0 rfl rfl rfl rfl rfl ?_
      refine l_guard rfl rfl rfl (fun hc3 => ?_) (fun hc3 => ?_)
      · first | replace hc3 := eq_of_beq ((irr_eq _).symm.trans hc3) | simp only [irr_eq, beq_iff_eq, beq_eq_false_iff_ne, ne_eq, decide_eq_true_eq, decide_eq_false_iff_not] at hc3
        refine l_s rfl rfl ?_
        refine l_s rfl rfl ?_
        refine l_s rfl rfl ?_
        refine l_s rfl rfl ?_
        refine l_s rfl rfl ?_
        refine l_s rfl rfl ?_
        refine l_s rfl rfl ?_
        refine l_s rfl rfl ?_
        refine l_s rfl rfl ?_
        refine l_s rfl rfl ?_
        refine l_s rfl rfl ?_
        refine l_s rfl rfl ?_
        refine l_s rfl rfl ?_
        refine l_s rfl rfl ?_
        refine l_s rfl rfl ?_
        refine l_s rfl rfl ?_
        refine l_op 2 rfl rfl rfl rfl rfl ?_
        refine l_op 0 rfl rfl rfl rfl rfl ?_
        refine l_nil (WK.nx (by assumption) ?_)
        refine SeqK.nx (by assumption) ?_
        refine k_seq (fun Q K => ?_)
        refine k_linm [0, 1, 2, 3, 4, 5, 6, 7, 9, 13, 14, 15, 17, 8, 10, 11, 12, 16, 18, 19, 20, 21, 22, 23] mixed (by kernel_rfl) (fun W K => ?_)
        try have hpS := F.pns
        refine l_op 0 rfl rfl rfl rfl rfl ?_
        refine l_op 0 rfl rfl rfl rfl rfl ?_
        refine l_op 0 rfl rfl rfl rfl rfl ?_
        refine l_cmp rfl rfl rfl rfl ?_
        refine l_op 0 rfl rfl rfl rfl rfl ?_
        refine l_guard rfl rfl rfl (fun hc4 => ?_) (fun hc4 => ?_)
        · replace hc4 := of_decide_eq_true ((irr_eq _).symm.trans hc4)
          refine l_s rfl rfl ?_
          refine l_s rfl rfl ?_
          refine l_s rfl rfl ?_
          refine l_s rfl rfl ?_
          refine l_s rfl rfl ?_
          refine l_s rfl rfl ?_
          refine l_s rfl rfl ?_
          refine l_s rfl rfl ?_
          refine l_s rfl rfl ?_
          refine l_s rfl rfl ?_
          refine l_s rfl rfl ?_
          refine l_s rfl rfl ?_
          refine l_s rfl rfl ?_
          refine l_s rfl rfl ?_
          refine l_s rfl rfl ?_
          refine l_s rfl rfl ?_
          refine l_s rfl rfl ?_
          refine l_op 2 rfl rfl rfl rfl rfl ?_
          refine l_op 2 rfl rfl rfl rfl rfl ?_
          refine l_nil (WK.nx (by assumption) ?_)
          refine SeqK.nx (by assumption) ?_
          first | refine e_cond_t rfl rfl rfl ?_ | refine e_cond_t rfl rfl (by rw [irr_eq]; first | exact beq_iff_eq.2 (by assumption) | exact decide_eq_true (by assumption) | exact bne_iff_ne.2 (by assumption)) ?_
          refine k_lin (fun W K => ?_)
          refine l_op 0 rfl rfl rfl rfl rfl ?_
          refine l_op 0 rfl rfl rfl rfl rfl ?_
          refine l_nil (WK.nx (by assumption) ?_)
          refine BlkK.nx (by assumption) ?_
          refine SeqK.nx (by assumption) ?_
          refine k_lin (fun W K => ?_)
          refine l_op 0 rfl rfl rfl rfl rfl ?_
          refine l_a64 rfl rfl rfl (by omega) rfl ?_
          refine l_op 0 rfl rfl rfl rfl rfl ?_
          refine l_nil (WK.nx (by assumption) ?_)
          first
          | exact K1.nx (i + 1, i) (by repeat (first | exact trivial | refine And.intro rfl ?_)) ⟨F, by omega, by omega, bi_take hb i0 (by by_cases hk0 : (k : Int) = 0; rw [hla0 hk0]; omega; rw [hla1 hk0]; omega) (by omega)⟩ (by first | omega | (simp only; omega))
          | exact K1.nx (i + 1, b) (by repeat (first | exact trivial | refine And.intro rfl ?_)) ⟨F, by omega, by omega, bi_skip1 hb i0 (by by_cases hk0 : (k : Int) = 0; rw [hla0 hk0]; omega; rw [hla1 hk0]; omega)⟩ (by first | omega | (simp only; omega))
          | exact K1.nx (i + 1, b) (by repeat (first | exact trivial | refine And.intro rfl ?_)) ⟨F, by omega, by omega, bi_skip2 hb i0 (by omega) (by omega)⟩ (by first | omega | (simp only; omega))
        replace hc4 := of_decide_eq_false ((irr_eq _).symm.trans hc4)
        refine l_op 0 rfl rfl rfl rfl rfl ?_
        refine l_op 2 rfl rfl rfl rfl rfl ?_
        refine l_op 2 rfl rfl rfl rfl rfl ?_
        refine l_op 0 rfl rfl rfl rfl rfl ?_
        refine l_op 0 rfl rfl rfl rfl rfl ?_
        refine l_op 2 rfl rfl rfl rfl rfl ?_
        refine l_op 2 rfl rfl rfl rfl rfl ?_
        refine l_op 0 rfl rfl rfl rfl rfl ?_
        refine l_ldo F (by assumption) rfl rfl rfl rfl rfl rfl ?_
        first | have hpS := PnS.add hpS hS51 | have hpS := PnS.add hpS (OldC.sf (by assumption)) | skip
        refine l_ixr (e := eB) rfl rfl rfl rfl rfl rfl (F.old hl) ⟨eB_len, by decide⟩ (by omega) (fun m55 b55 hA55 => ?_)
        refine l_op 2 rfl rfl rfl rfl rfl ?_
        refine l_ld0 rfl rfl rfl rfl rfl (by assumption) ?_
        first | have hpS := PnS.add hpS hS55 | have hpS := PnS.add hpS (OldC.sf (by assumption)) | skip
        refine l_ldo F (by assumption) rfl rfl rfl rfl rfl rfl ?_
        first | have hpS := PnS.add hpS hS59 | have hpS := PnS.add hpS (OldC.sf (by assumption)) | skip
        refine l_ixr (e := eB) rfl rfl rfl rfl rfl rfl (F.old hl) ⟨eB_len, by decide⟩ (by omega) (fun m63 b63 hA63 => ?_)
        refine l_op 2 rfl rfl rfl rfl rfl ?_
        refine l_ld0 rfl rfl rfl rfl rfl (by assumption) ?_
        first | have hpS := PnS.add hpS hS63 | have hpS := PnS.add hpS (OldC.sf (by assumption)) | skip
        refine l_cmp rfl rfl rfl rfl ?_
        refine l_op 2 rfl rfl rfl rfl rfl ?_
        refine l_op 2 rfl rfl rfl rfl rfl ?_
        refine l_nil (WK.nx (by assumption) ?_)
        refine SeqK.nx (by assumption) ?_
        refine l_cond rfl rfl (fun hc5 => ?_) (fun hc5 => ?_)
        · replace hc5 := of_decide_eq_true ((irr_eq _).symm.trans hc5)
          refine k_lin (fun W K => ?_)
          refine l_op 0 rfl rfl rfl rfl rfl ?_
          refine l_op 0 rfl rfl rfl rfl rfl ?_
          refine l_nil (WK.nx (by assumption) ?_)
          refine BlkK.nx (by assumption) ?_
          refine SeqK.nx (by assumption) ?_
          refine k_lin (fun W K => ?_)
          refine l_op 0 rfl rfl rfl rfl rfl ?_
          refine l_a64 rfl rfl rfl (by omega) rfl ?_
          refine l_op 0 rfl rfl rfl rfl rfl ?_
          refine l_nil (WK.nx (by assumption) ?_)
          first
          | exact K1.nx (i + 1, i) (by repeat (first | exact trivial | refine And.intro rfl ?_)) ⟨F, by omega, by omega, bi_take hb i0 (by by_cases hk0 : (k : Int) = 0; rw [hla0 hk0]; omega; rw [hla1 hk0]; omega) (by omega)⟩ (by first | omega | (simp only; omega))
          | exact K1.nx (i + 1, b) (by repeat (first | exact trivial | refine And.intro rfl ?_)) ⟨F, by omega, by omega, bi_skip1 hb i0 (by by_cases hk0 : (k : Int) = 0; rw [hla0 hk0]; omega; rw [hla1 hk0]; omega)⟩ (by first | omega | (simp only; omega))
          | exact K1.nx (i + 1, b) (by repeat (first | exact trivial | refine And.intro rfl ?_)) ⟨F, by omega, by omega, bi_skip2 hb i0 (by omega) (by omega)⟩ (by first | omega | (simp only; omega))
        replace hc5 := of_decide_eq_false ((irr_eq _).symm.trans hc5)
        refine k_skip ?_
        refine BlkK.nx (by assumption) ?_
        refine SeqK.nx (by assumption) ?_
        refine k_lin (fun W K => ?_)
        refine l_op 0 rfl rfl rfl rfl rfl ?_
        refine l_a64 rfl rfl rfl (by omega) rfl ?_
        refine l_op 0 rfl rfl rfl rfl rfl ?_
        refine l_nil (WK.nx (by assumption) ?_)
        first
        | exact K1.nx (i + 1, i) (by repeat (first | exact trivial | refine And.intro rfl ?_)) ⟨F, by omega, by omega, bi_take hb i0 (by by_cases hk0 : (k : Int) = 0; rw [hla0 hk0]; omega; rw [hla1 hk0]; omega) (by omega)⟩ (by first | omega | (simp only; omega))
        | exact K1.nx (i + 1, b) (by repeat (first | exact trivial | refine And.intro rfl ?_)) ⟨F, by omega, by omega, bi_skip1 hb i0 (by by_cases hk0 : (k : Int) = 0; rw [hla0 hk0]; omega; rw [hla1 hk0]; omega)⟩ (by first | omega | (simp only; omega))
        | exact K1.nx (i + 1, b) (by repeat (first | exact trivial | refine And.intro rfl ?_)) ⟨F, by omega, by omega, bi_skip2 hb i0 (by omega) (by omega)⟩ (by first | omega | (simp only; omega))
      first | replace hc3 := ne_of_beq_false ((irr_eq _).symm.trans hc3) | simp only [irr_eq, beq_iff_eq, beq_eq_false_iff_ne, ne_eq, decide_eq_true_eq, decide_eq_false_iff_not] at hc3
      refine l_op 0 rfl rfl rfl rfl rfl ?_
      refine l_op 2 rfl rfl rfl rfl rfl ?_
      refine l_op 2 rfl rfl rfl rfl rfl ?_
      refine l_op 0 rfl rfl rfl rfl rfl ?_
      refine l_op 0 rfl rfl rfl rfl rfl ?_
      refine l_op 0 rfl rfl rfl rfl rfl ?_
      first | refine l_op 2 rfl rfl rfl rfl rfl ?_ | refine l_ln rfl rfl rfl rfl ?_
      refine l_a64 rfl rfl rfl (by omega) rfl ?_
      refine l_ixr (e := eB) rfl rfl rfl rfl rfl rfl (F.has 0 rfl) ⟨eB_len, by decide⟩ (by omega) (fun m40 b40 hA40 => ?_)
      refine l_op 2 rfl rfl rfl rfl rfl ?_
      refine l_ldo F (by assumption) rfl rfl rfl rfl rfl rfl ?_
      first | have hpS := PnS.add hpS hS29 | have hpS := PnS.add hpS (OldC.sf (by assumption)) | skip
      refine l_ixr (e := eB) rfl rfl rfl rfl rfl rfl (F.old hl) ⟨eB_len, by decide⟩ (by omega) (fun m33 b33 hA33 => ?_)
      refine l_op 2 rfl rfl rfl rfl rfl ?_
      refine l_ld0 rfl rfl rfl rfl rfl (by assumption) ?_
      first | have hpS := PnS.add hpS hS33 | have hpS := PnS.add hpS (OldC.sf (by assumption)) | skip
      refine l_ld0 rfl rfl rfl rfl rfl (by assumption) ?_
      first | have hpS := PnS.add hpS hS40 | have hpS := PnS.add hpS (OldC.sf (by assumption)) | skip
      refine l_cmp rfl rfl rfl rfl ?_
      refine l_op 2 rfl rfl rfl rfl rfl ?_
      refine l_op 0 rfl rfl rfl rfl rfl ?_
      refine l_nil (WK.nx (by assumption) ?_)
      refine SeqK.nx (by assumption) ?_
      refine k_seq (fun Q K => ?_)
      refine k_linm [0, 1, 2, 3, 4, 5, 6, 7, 9, 13, 14, 15, 17, 8, 10, 11, 12, 16, 18, 19, 20, 21, 22, 23] mixed (by kernel_rfl) (fun W K => ?_)
      try have hpS := F.pns
      refine l_op 0 rfl rfl rfl rfl rfl ?_
      refine l_op 0 rfl rfl rfl rfl rfl ?_
      refine l_guard rfl rfl rfl (fun hc6 => ?_) (fun hc6 => ?_)
      · replace hc6 := of_decide_eq_true ((irr_eq _).symm.trans hc6)
        refine l_op 0 rfl rfl rfl rfl rfl ?_
        refine l_cmp rfl rfl rfl rfl ?_
        refine l_op 0 rfl rfl rfl rfl rfl ?_
        refine l_guard rfl rfl rfl (fun hc7 => ?_) (fun hc7 => ?_)
        · replace hc7 := of_decide_eq_true ((irr_eq _).symm.trans hc7)
          refine l_s rfl rfl ?_
          refine l_s rfl rfl ?_
          refine l_s rfl rfl ?_
          refine l_s rfl rfl ?_
          refine l_s rfl rfl ?_
          refine l_s rfl rfl ?_
          refine l_s rfl rfl ?_
          refine l_s rfl rfl ?_
          refine l_s rfl rfl ?_
          refine l_s rfl rfl ?_
          refine l_s rfl rfl ?_
          refine l_s rfl rfl ?_
          refine l_s rfl rfl ?_
          refine l_s rfl rfl ?_
          refine l_s rfl rfl ?_
          refine l_s rfl rfl ?_
          refine l_s rfl rfl ?_
          refine l_op 2 rfl rfl rfl rfl rfl ?_
          refine l_op 2 rfl rfl rfl rfl rfl ?_
          refine l_nil (WK.nx (by assumption) ?_)
          refine SeqK.nx (by assumption) ?_
          first | refine e_cond_t rfl rfl rfl ?_ | refine e_cond_t rfl rfl (by rw [irr_eq]; first | exact beq_iff_eq.2 (by assumption) | exact decide_eq_true (by assumption) | exact bne_iff_ne.2 (by assumption)) ?_
          refine k_lin (fun W K => ?_)
          refine l_op 0 rfl rfl rfl rfl rfl ?_
          refine l_op 0 rfl rfl rfl rfl rfl ?_
          refine l_nil (WK.nx (by assumption) ?_)
          refine BlkK.nx (by assumption) ?_
          refine SeqK.nx (by assumption) ?_
          refine k_lin (fun W K => ?_)
          refine l_op 0 rfl rfl rfl rfl rfl ?_
          refine l_a64 rfl rfl rfl (by omega) rfl ?_
          refine l_op 0 rfl rfl rfl rfl rfl ?_
          refine l_nil (WK.nx (by assumption) ?_)
          first
          | exact K1.nx (i + 1, i) (by repeat (first | exact trivial | refine And.intro rfl ?_)) ⟨F, by omega, by omega, bi_take hb i0 (by by_cases hk0 : (k : Int) = 0; rw [hla0 hk0]; omega; rw [hla1 hk0]; omega) (by omega)⟩ (by first | omega | (simp only; omega))
          | exact K1.nx (i + 1, b) (by repeat (first | exact trivial | refine And.intro rfl ?_)) ⟨F, by omega, by omega, bi_skip1 hb i0 (by by_cases hk0 : (k : Int) = 0; rw [hla0 hk0]; omega; rw [hla1 hk0]; omega)⟩ (by first | omega | (simp only; omega))
          | exact K1.nx (i + 1, b) (by repeat (first | exact trivial | refine And.intro rfl ?_)) ⟨F, by omega, by omega, bi_skip2 hb i0 (by omega) (by omega)⟩ (by first | omega | (simp only; omega))
        replace hc7 := of_decide_eq_false ((irr_eq _).symm.trans hc7)
        refine l_op 0 rfl rfl rfl rfl rfl ?_
        refine l_op 2 rfl rfl rfl rfl rfl ?_
        refine l_op 2 rfl rfl rfl rfl rfl ?_
        refine l_op 0 rfl rfl rfl rfl rfl ?_
        refine l_op 0 rfl rfl rfl rfl rfl ?_
        refine l_op 2 rfl rfl rfl rfl rfl ?_
        refine l_op 2 rfl rfl rfl rfl rfl ?_
        refine l_op 0 rfl rfl rfl rfl rfl ?_
        refine l_ldo F (by assumption) rfl rfl rfl rfl rfl rfl ?_
        first | have hpS := PnS.add hpS hS51 | have hpS := PnS.add hpS (OldC.sf (by assumption)) | skip
        refine l_ixr (e := eB) rfl rfl rfl rfl rfl rfl (F.old hl) ⟨eB_len, by decide⟩ (by omega) (fun m55 b55 hA55 => ?_)
        refine l_op 2 rfl rfl rfl rfl rfl ?_
        refine l_ld0 rfl rfl rfl rfl rfl (by assumption) ?_
        first | have hpS := PnS.add hpS hS55 | have hpS := PnS.add hpS (OldC.sf (by assumption)) | skip
        refine l_ldo F (by assumption) rfl rfl rfl rfl rfl rfl ?_
        first | have hpS := PnS.add hpS hS59 | have hpS := PnS.add hpS (OldC.sf (by assumption)) | skip
        refine l_ixr (e := eB) rfl rfl rfl rfl rfl rfl (F.old hl) ⟨eB_len, by decide⟩ (by omega) (fun m63 b63 hA63 => ?_)
        refine l_op 2 rfl rfl rfl rfl rfl ?_
        refine l_ld0 rfl rfl rfl rfl rfl (by assumption) ?_
        first | have hpS := PnS.add hpS hS63 | have hpS := PnS.add hpS (OldC.sf (by assumption)) | skip
        refine l_cmp rfl rfl rfl rfl ?_
        refine l_op 2 rfl rfl rfl rfl rfl ?_
        refine l_op 2 rfl rfl rfl rfl rfl ?_
        refine l_nil (WK.nx (by assumption) ?_)
        refine SeqK.nx (by assumption) ?_
        refine l_cond rfl rfl (fun hc8 => ?_) (fun hc8 => ?_)
        · replace hc8 := of_decide_eq_true ((irr_eq _).symm.trans hc8)
          refine k_lin (fun W K => ?_)
          refine l_op 0 rfl rfl rfl rfl rfl ?_
          refine l_op 0 rfl rfl rfl rfl rfl ?_
          refine l_nil (WK.nx (by assumption) ?_)
          refine BlkK.nx (by assumption) ?_
          refine SeqK.nx (by assumption) ?_
          refine k_lin (fun W K => ?_)
          refine l_op 0 rfl rfl rfl rfl rfl ?_
          refine l_a64 rfl rfl rfl (by omega) rfl ?_
          refine l_op 0 rfl rfl rfl rfl rfl ?_
          refine l_nil (WK.nx (by assumption) ?_)
          first
          | exact K1.nx (i + 1, i) (by repeat (first | exact trivial | refine And.intro rfl ?_)) ⟨F, by omega, by omega, bi_take hb i0 (by by_cases hk0 : (k : Int) = 0; rw [hla0 hk0]; omega; rw [hla1 hk0]; omega) (by omega)⟩ (by first | omega | (simp only; omega))
          | exact K1.nx (i + 1, b) (by repeat (first | exact trivial | refine And.intro rfl ?_)) ⟨F, by omega, by omega, bi_skip1 hb i0 (by by_cases hk0 : (k : Int) = 0; rw [hla0 hk0]; omega; rw [hla1 hk0]; omega)⟩ (by first | omega | (simp only; omega))
          | exact K1.nx (i + 1, b) (by repeat (first | exact trivial | refine And.intro rfl ?_)) ⟨F, by omega, by omega, bi_skip2 hb i0 (by omega) (by omega)⟩ (by first | omega | (simp only; omega))
        replace hc8 := of_decide_eq_false ((irr_eq _).symm.trans hc8)
        refine k_skip ?_
        refine BlkK.nx (by assumption) ?_
        refine SeqK.nx (by assumption) ?_
        refine k_lin (fun W K => ?_)
        refine l_op 0 rfl rfl rfl rfl rfl ?_
        refine l_a64 rfl rfl rfl (by omega) rfl ?_
        refine l_op 0 rfl rfl rfl rfl rfl ?_
        refine l_nil (WK.nx (by assumption) ?_)
        first
        | exact K1.nx (i + 1, i) (by repeat (first | exact trivial | refine And.intro rfl ?_)) ⟨F, by omega, by omega, bi_take hb i0 (by by_cases hk0 : (k : Int) = 0; rw [hla0 hk0]; omega; rw [hla1 hk0]; omega) (by omega)⟩ (by first | omega | (simp only; omega))
        | exact K1.nx (i + 1, b) (by repeat (first | exact trivial | refine And.intro rfl ?_)) ⟨F, by omega, by omega, bi_skip1 hb i0 (by by_cases hk0 : (k : Int) = 0; rw [hla0 hk0]; omega; rw [hla1 hk0]; omega)⟩ (by first | omega | (simp only; omega))
        | exact K1.nx (i + 1, b) (by repeat (first | exact trivial | refine And.intro rfl ?_)) ⟨F, by omega, by omega, bi_skip2 hb i0 (by omega) (by omega)⟩ (by first | omega | (simp only; omega))
      replace hc6 := of_decide_eq_false ((irr_eq _).symm.trans hc6)
      refine l_s rfl rfl ?_
      refine l_s rfl rfl ?_
      refine l_s rfl rfl ?_
      refine l_s rfl rfl ?_
      refine l_s rfl rfl ?_
      refine l_s rfl rfl ?_
      refine l_s rfl rfl ?_
      refine l_s rfl rfl ?_
      refine l_s rfl rfl ?_
      refine l_s rfl rfl ?_
      refine l_s rfl rfl ?_
      refine l_s rfl rfl ?_
      refine l_s rfl rfl ?_
      refine l_s rfl rfl ?_
      refine l_s rfl rfl ?_
      refine l_s rfl rfl ?_
      refine l_s rfl rfl ?_
      refine l_s rfl rfl ?_
      refine l_s rfl rfl ?_
      refine l_s rfl rfl ?_
      refine l_s rfl rfl ?_
      refine l_op 2 rfl rfl rfl rfl rfl ?_
      refine l_nil (WK.nx (by assumption) ?_)
      refine SeqK.nx (by assumption) ?_
      first | refine e_cond_f rfl rfl rfl ?_ | refine e_cond_f rfl rfl (by rw [irr_eq]; first | exact beq_eq_false_iff_ne.2 (by assumption) | exact decide_eq_false (by assumption) | exact bne_eq_false_iff_eq.2 (by assumption)) ?_
      refine k_skip ?_
      refine BlkK.nx (by assumption) ?_
      refine SeqK.nx (by assumption) ?_
      refine k_lin (fun W K => ?_)
      refine l_op 0 rfl rfl rfl rfl rfl ?_
      refine l_a64 rfl rfl rfl (by omega) rfl ?_
      refine l_op 0 rfl rfl rfl rfl rfl ?_
      refine l_nil (WK.nx (by assumption) ?_)
      first
      | exact K1.nx (i + 1, i) (by repeat (first | exact trivial | refine And.intro rfl ?_)) ⟨F, by omega, by omega, bi_take hb i0 (by by_cases hk0 : (k : Int) = 0; rw [hla0 hk0]; omega; rw [hla1 hk0]; omega) (by omega)⟩ (by first | omega | (simp only; omega))
      | exact K1.nx (i + 1, b) (by repeat (first | exact trivial | refine And.intro rfl ?_)) ⟨F, by omega, by omega, bi_skip1 hb i0 (by by_cases hk0 : (k : Int) = 0; rw [hla0 hk0]; omega; rw [hla1 hk0]; omega)⟩ (by first | omega | (simp only; omega))
      | exact K1.nx (i + 1, b) (by repeat (first | exact trivial | refine And.intro rfl ?_)) ⟨F, by omega, by omega, bi_skip2 hb i0 (by omega) (by omega)⟩ (by first | omega | (simp only; omega))
    replace hc2 := of_decide_eq_false ((irr_eq _).symm.trans hc2)
    have hbest : L.getD b.toNat default = bl.getD k default ∧ 0 ≤ b ∧ b < L.length := by
      rcases hb with ⟨_, h⟩ | ⟨hb0, hbi, h3, h4⟩
      · exact (best_is hP hA hB (by omega) (fun j hj => h j (by omega))).elim
      · exact ⟨best_at hP hA hB (by omega) (by omega) h3 (fun j hj hl => h4 j (by omega) hl), hb0, by omega⟩
    obtain ⟨hbe, hb0, hbl⟩ := hbest
    refine k_exit ?_
    refine SeqK.et (by assumption) ?_
    refine LoopK.et (by assumption) ?_
    refine BlkK.et (by assumption) ?_
    refine SeqK.nx (by assumption) ?_
    refine k_lin (fun W K => ?_)
    refine l_op 0 rfl rfl rfl rfl rfl ?_
    refine l_op 0 rfl rfl rfl rfl rfl ?_
    refine l_op 2 rfl rfl rfl rfl rfl ?_
    refine l_op 2 rfl rfl rfl rfl rfl ?_
    refine l_ldo F (by assumption) rfl rfl rfl rfl rfl rfl ?_
    refine l_op 0 rfl rfl rfl rfl rfl ?_
    refine l_ixr (e := eB) rfl rfl rfl rfl rfl rfl (F.old hl) ⟨eB_len, by decide⟩ (by omega) (fun m76 b76 hA76 => ?_)
    refine l_lda (ws := eB (L.getD b.toNat default)) rfl rfl rfl rfl rfl hA76 ?_
    refine l_lit (k := 2) F rfl rfl rfl rfl (fun q78 s F => ?_)
    (try dsimp only [n_1, n_2, n_3, n_4, List.append_nil, pk, n_5, n_6] at F)
    refine l_app (es := 2) (ns := rows eB [bl.getD k default]) F 0 rfl rfl rfl rfl rfl rfl rfl (F.has 1 (by rw [hbe]; rfl)) (eB_one [bl.getD k default]) rfl (by omega) hD (fun x2 c2 s F => ?_)
    (try dsimp only [n_1, n_2, n_3, n_4, List.append_nil, pk, n_5, n_6] at F)
    refine l_op 0 rfl rfl rfl rfl rfl ?_
    refine l_nil (WK.nx (by assumption) ?_)
    refine BlkK.nx (by assumption) ?_
    have e1 : rows eB (bl.take k) ++ rows eB [bl.getD k default] = rows eB (bl.take (k + 1)) := by
      rw [← rows_append, List.take_succ_eq_append_getElem (by omega)]
      simp [List.getD, show k < bl.length by omega]
    rw [e1] at F
    exact K0.nx (k + 1, x2, c2) (by repeat (first | exact trivial | refine And.intro rfl ?_)) ⟨F.pick [0] (by decide), by omega⟩ (by first | omega | (simp only; omega))
  replace hc1 := of_decide_eq_false ((irr_eq _).symm.trans hc1)
  refine k_exit ?_
  refine SeqK.et (by assumption) ?_
  refine LoopK.et (by assumption) ?_
  refine BlkK.et (by assumption) ?_
  refine SeqK.nx (by assumption) ?_
  refine k_seq (fun Q K => ?_)
  refine k_lin (fun W K => ?_)
  refine l_op 0 rfl rfl rfl rfl rfl ?_
  refine l_op 0 rfl rfl rfl rfl rfl ?_
  refine l_nil (WK.nx (by assumption) ?_)
  refine SeqK.nx (by assumption) ?_
  refine k_ret ?_
  refine FunK.rt (by assumption) rfl ?_
  -- leaf 1
  have hk : k = bl.length := by omega
  subst hk
  rw [List.take_length] at F
  exact ⟨(x, q), rfl, F, trivial⟩

end Go.Proofs.Ytkealnppdblgiaa
