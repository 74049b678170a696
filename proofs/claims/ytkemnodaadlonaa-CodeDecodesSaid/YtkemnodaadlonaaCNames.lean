/- Each name's number, and the law of the names. No statement of the seat is proved in this text. -/
import Derived.Test.YtkemnodaadlonaaCTab2
import Derived.Test.YtkemnodaadlonaaLibBe
import Derived.Test.YtkemnodaadlonaaLive
import Derived.Laws.Strings
set_option linter.unusedVariables false
set_option linter.unusedSimpArgs false
set_option maxRecDepth 100000
set_option maxHeartbeats 4000000
namespace Go.Proofs.Ytkemnodaadlonaa
open GAb Go

theorem eR_one (tb : List Rw) : (rows eR tb).all Value.oneCell' = true := by
  rw [List.all_eq_true]
  intro v hv
  obtain ⟨r, _, hr⟩ := List.mem_flatMap.1 hv
  simp only [List.mem_cons, List.mem_nil_iff, or_false] at hr
  rcases hr with rfl | rfl | rfl <;> rfl
def nmB (nm : ByteArray) (r : Rw) : Bool := r.2.1.data.toList == nm.data.toList
theorem nmB_iff {nm : ByteArray} {r : Rw} : nmB nm r = true ↔ r.2.1.toList = nm.toList := by
  unfold nmB
  rw [beq_iff_eq, ByteArray.toList_eq, ByteArray.toList_eq]
def opP (nm : ByteArray) : Int × Bool := match tbl.find? (nmB nm) with | some r => (r.1, true) | none => (0, false)
theorem opP_yes {nm : ByteArray} {i : Nat} (hi : i < tbl.length) (h : (tbl.getD i default).2.1.toList = nm.toList) (hb : ∀ j : Nat, j < i → ¬ (tbl.getD j default).2.1.toList = nm.toList) : opP nm = ((tbl.getD i default).1, true) := by
  have : tbl.find? (nmB nm) = some (tbl.getD i default) := by
    rw [List.find?_eq_some_iff_getElem]
    refine ⟨nmB_iff.2 h, i, hi, by simp [List.getD, hi], fun j hj => ?_⟩
    have h1 := hb j hj
    rw [← nmB_iff] at h1
    have hj' : j < tbl.length := Nat.lt_trans hj hi
    simp only [List.getD, List.getElem?_eq_getElem hj', Option.getD_some] at h1
    simpa using h1
  unfold opP; rw [this]
theorem opP_no {nm : ByteArray} (hb : ∀ j : Nat, j < tbl.length → ¬ (tbl.getD j default).2.1.toList = nm.toList) : opP nm = (0, false) := by
  have : tbl.find? (nmB nm) = none := by
    rw [List.find?_eq_none]
    intro x hx
    obtain ⟨i, hi, rfl⟩ := List.getElem_of_mem hx
    have h1 := hb i hi
    rw [← nmB_iff] at h1
    simpa only [List.getD, List.getElem?_eq_getElem hi, Option.getD_some] using h1
  unfold opP; rw [this]
theorem op_call {σ : AState} {nm : ByteArray} :
    SCall Try.prog E0 27 [.string nm] σ (Ret E0 σ (fun (_ : Unit) => .tuple #[.int .u32 (opP nm).1, .bool (opP nm).2]) (fun _ => []) fun _ => True) := by
  refine k_fun Try.func27 rfl (m := 21) rfl fun B hD Q K => ?_
  have F := Facts.nil E0 σ
  refine k_seq (fun Q K => ?_)
  refine k_lin (fun W K => ?_)
  refine l_op 0 rfl rfl rfl rfl rfl ?_
  refine l_op 0 rfl rfl rfl rfl rfl ?_
  refine l_nil (WK.nx (by assumption) ?_)
  refine SeqK.nx (by assumption) ?_
  refine k_seq (fun Q K => ?_)
  refine k_seq (fun Q K => ?_)
  refine k_lin (fun W K => ?_)
  refine l_callp F rfl rfl (by kernel_rfl) rfl rfl rows_call (fun y1 s F _ => ?_)
  (try dsimp only [n_1, n_2, n_3, n_4, List.append_nil, pk, n_5, n_6] at F)
  refine l_callp F rfl rfl (by kernel_rfl) rfl rfl late_call (fun y2 s F _ => ?_)
  (try dsimp only [n_1, n_2, n_3, n_4, List.append_nil, pk, n_5, n_6] at F)
  refine l_app (es := 3) F 0 rfl rfl rfl rfl rfl rfl rfl (F.has 1 rfl) (eR_one lateL) rfl (by omega) hD (fun x8 c8 s F => ?_)
  (try dsimp only [n_1, n_2, n_3, n_4, List.append_nil, pk, n_5, n_6] at F)
  first | refine l_op 2 rfl rfl rfl rfl rfl ?_ | refine l_ln rfl rfl rfl rfl ?_
  refine l_op 0 rfl rfl rfl rfl rfl ?_
  refine l_nil (WK.nx (by assumption) ?_)
  refine SeqK.nx (by assumption) ?_
  refine k_block (fun Q K => ?_)
  have F0 : Facts E0 σ s [own x8 130 c8 3 (rows eR tbl)] := by
    have := F.pick [0] (by decide)
    rw [show tbl = rowsL ++ lateL from rfl, rows_append]
    exact this
  clear F
  refine k_loop (α := Int) (fun i s => Facts E0 σ s [own x8 130 c8 3 (rows eR tbl)] ∧ 0 ≤ i ∧ i ≤ 130 ∧ ∀ j : Nat, j < i → ¬ (tbl.getD j default).2.1.toList = nm.toList) (fun i => [(0, .string nm), (8, .slice x8 130 c8), (9, .int .i64 (130 : Nat)), (10, .int .i64 i)]) (fun i => (130 - i).toNat) 0 ⟨F0, by omega, by omega, fun j hj => by omega⟩ (by repeat (first | exact trivial | refine And.intro rfl ?_)) ?_
  rintro i env s Q K0 ⟨F, i0, i1, hno⟩
  refine k_seq (fun Q K => ?_)
  refine k_lin (fun W K => ?_)
  refine l_cmp rfl rfl rfl rfl ?_
  refine l_nil (WK.nx (by assumption) ?_)
  refine SeqK.nx (by assumption) ?_
  refine k_seq (fun Q K => ?_)
  refine l_cond rfl rfl (fun hc1 => ?_) (fun hc1 => ?_)
  · replace hc1 := of_decide_eq_true ((irr_eq _).symm.trans hc1)
    refine k_skip ?_
    refine SeqK.nx (by assumption) ?_
    refine k_seq (fun Q K => ?_)
    refine k_block (fun Q K => ?_)
    refine k_seq (fun Q K => ?_)
    refine k_lin (fun W K => ?_)
    refine l_ixr (e := eR) rfl rfl rfl rfl rfl rfl (F.has 0 rfl) ⟨eR_len, by decide⟩ (by omega) (fun m12 b12 hA12 => ?_)
    refine l_lda (ws := eR (tbl.getD i.toNat default)) rfl rfl rfl rfl rfl hA12 ?_
    refine l_al F rfl rfl rfl rfl (fun q5 s F => ?_)
    (try dsimp only [n_1, n_2, n_3, n_4, List.append_nil, pk, n_5, n_6] at F)
    refine l_stca F 1 rfl rfl rfl rfl rfl rfl rfl rfl rfl rfl hD rfl (fun s F => ?_)
    (try dsimp only [n_1, n_2, n_3, n_4, List.append_nil, pk, n_5, n_6] at F)
    refine l_nil (WK.nx (by assumption) ?_)
    refine SeqK.nx (by assumption) ?_
    refine k_seq (fun Q K => ?_)
    refine k_lin (fun W K => ?_)
    refine l_op 2 rfl rfl rfl rfl rfl ?_
    refine l_ldc F 1 rfl rfl rfl rfl rfl rfl rfl ?_
    refine l_op 0 rfl rfl rfl rfl rfl ?_
    refine l_cmp rfl rfl rfl rfl ?_
    refine l_nil (WK.nx (by assumption) ?_)
    refine SeqK.nx (by assumption) ?_
    refine l_cond rfl rfl (fun hc2 => ?_) (fun hc2 => ?_)
    · first | replace hc2 := eq_of_beq ((irr_eq _).symm.trans hc2) | simp only [irr_eq, beq_iff_eq, beq_eq_false_iff_ne, ne_eq, decide_eq_true_eq, decide_eq_false_iff_not] at hc2
      refine k_seq (fun Q K => ?_)
      refine k_lin (fun W K => ?_)
      refine l_op 2 rfl rfl rfl rfl rfl ?_
      refine l_ldc F 1 rfl rfl rfl rfl rfl rfl rfl ?_
      refine l_op 0 rfl rfl rfl rfl rfl ?_
      refine l_op 0 rfl rfl rfl rfl rfl ?_
      refine l_nil (WK.nx (by assumption) ?_)
      refine SeqK.nx (by assumption) ?_
      refine k_ret ?_
      refine BlkK.rt (by assumption) ?_
      refine SeqK.rt (by assumption) ?_
      refine LoopK.rt (by assumption) ?_
      refine BlkK.rt (by assumption) ?_
      refine SeqK.rt (by assumption) ?_
      refine FunK.rt (by assumption) rfl ?_
      -- leaf 1
      first
        | (rw [opP_yes (i := i.toNat) (by rw [tbl_len]; omega) (by assumption) (fun j hj => hno j (by omega))]
           exact ⟨(), rfl, F.pick [] (by decide), trivial⟩)
        | (rw [opP_no (fun j hj => hno j (by rw [tbl_len] at hj; omega))]
           exact ⟨(), rfl, F.pick [] (by decide), trivial⟩)
    first | replace hc2 := ne_of_beq_false ((irr_eq _).symm.trans hc2) | simp only [irr_eq, beq_iff_eq, beq_eq_false_iff_ne, ne_eq, decide_eq_true_eq, decide_eq_false_iff_not] at hc2
    refine k_skip ?_
    refine BlkK.nx (by assumption) ?_
    refine SeqK.nx (by assumption) ?_
    refine k_lin (fun W K => ?_)
    refine l_a64 rfl rfl rfl (by omega) rfl ?_
    refine l_op 0 rfl rfl rfl rfl rfl ?_
    refine l_nil (WK.nx (by assumption) ?_)
    exact K0.nx (i + 1) (by repeat (first | exact trivial | refine And.intro rfl ?_)) ⟨F.pick [0] (by decide), by omega, by omega, fun j hj => by
      by_cases hji : (j : Int) < i
      · exact hno j hji
      · have : j = i.toNat := by omega
        rw [this]; assumption⟩ (by first | omega | (simp only; omega))
  replace hc1 := of_decide_eq_false ((irr_eq _).symm.trans hc1)
  refine k_exit ?_
  refine SeqK.et (by assumption) ?_
  refine LoopK.et (by assumption) ?_
  refine BlkK.et (by assumption) ?_
  refine SeqK.nx (by assumption) ?_
  refine k_seq (fun Q K => ?_)
  refine k_lin (fun W K => ?_)
  refine l_op 0 rfl rfl rfl rfl rfl ?_
  refine l_op 0 rfl rfl rfl rfl rfl ?_
  refine l_nil (WK.nx (by assumption) ?_)
  refine SeqK.nx (by assumption) ?_
  refine k_ret ?_
  refine FunK.rt (by assumption) rfl ?_
  -- leaf 2
  first
    | (rw [opP_yes (i := i.toNat) (by rw [tbl_len]; omega) (by assumption) (fun j hj => hno j (by omega))]
       exact ⟨(), rfl, F.pick [] (by decide), trivial⟩)
    | (rw [opP_no (fun j hj => hno j (by rw [tbl_len] at hj; omega))]
       exact ⟨(), rfl, F.pick [] (by decide), trivial⟩)

theorem tbl_names : (tbl.all fun r => (ltr r.2.2).all (fun c => c == 76 || c == 83) && r.2.1.data.toList != [] && (match tbl.find? (nmB r.2.1) with | some q => q.1 == r.1 | none => false)) = true := by kernel_rfl
theorem empty_toList : (ByteArray.mk #[]).toList = [] := by rw [ByteArray.toList_eq]
theorem names_law {σ : AState} {op : Int} (ho : U32 op) :
    SCall Try.prog E0 7 [.int .u32 op] σ (fun v _ => v = .bool true) := by
  refine k_fun Try.func7 rfl (m := 66) rfl fun B hD Q K => ?_
  have F := Facts.nil E0 σ
  refine k_seq (fun Q K => ?_)
  refine k_lin (fun W K => ?_)
  refine l_op 0 rfl rfl rfl rfl rfl ?_
  refine l_nil (WK.nx (by assumption) ?_)
  refine SeqK.nx (by assumption) ?_
  refine k_seq (fun Q K => ?_)
  refine k_lin (fun W K => ?_)
  refine l_op 0 rfl rfl rfl rfl rfl ?_
  refine l_callp F rfl rfl (by kernel_rfl) rfl rfl (signature_call ho) (fun _ s F _ => ?_)
  (try dsimp only [n_1, n_2, n_3, n_4, List.append_nil, pk, n_5, n_6] at F)
  refine l_op 0 rfl rfl rfl rfl rfl ?_
  refine l_op 2 rfl rfl rfl rfl rfl ?_
  refine l_op 2 rfl rfl rfl rfl rfl ?_
  refine l_op 0 rfl rfl rfl rfl rfl ?_
  refine l_op 0 rfl rfl rfl rfl rfl ?_
  refine l_nil (WK.nx (by assumption) ?_)
  refine SeqK.nx (by assumption) ?_
  refine k_seq (fun Q K => ?_)
  refine k_lin (fun W K => ?_)
  refine l_op 0 rfl rfl rfl rfl rfl ?_
  refine l_callp F rfl rfl (by kernel_rfl) rfl rfl (name_call ho) (fun _ s F _ => ?_)
  (try dsimp only [n_1, n_2, n_3, n_4, List.append_nil, pk, n_5, n_6] at F)
  refine l_op 0 rfl rfl rfl rfl rfl ?_
  refine l_nil (WK.nx (by assumption) ?_)
  refine SeqK.nx (by assumption) ?_
  refine k_seq (fun Q K => ?_)
  refine k_lin (fun W K => ?_)
  refine l_op 0 rfl rfl rfl rfl rfl ?_
  refine l_callp F rfl rfl (by kernel_rfl) rfl rfl op_call (fun _ s F _ => ?_)
  (try dsimp only [n_1, n_2, n_3, n_4, List.append_nil, pk, n_5, n_6] at F)
  refine l_op 0 rfl rfl rfl rfl rfl ?_
  refine l_op 2 rfl rfl rfl rfl rfl ?_
  refine l_op 2 rfl rfl rfl rfl rfl ?_
  refine l_op 0 rfl rfl rfl rfl rfl ?_
  refine l_op 0 rfl rfl rfl rfl rfl ?_
  refine l_nil (WK.nx (by assumption) ?_)
  refine SeqK.nx (by assumption) ?_
  refine k_seq (fun Q K => ?_)
  refine k_seq (fun Q K => ?_)
  refine k_lin (fun W K => ?_)
  refine l_op 0 rfl rfl rfl rfl rfl ?_
  refine l_op 2 rfl rfl rfl rfl rfl ?_
  refine l_nil (WK.nx (by assumption) ?_)
  refine SeqK.nx (by assumption) ?_
  refine l_cond rfl rfl (fun hc1 => ?_) (fun hc1 => ?_)
  · try simp only [irr_eq, beq_iff_eq, bne_iff_ne, beq_eq_false_iff_ne, bne_eq_false_iff_eq, ne_eq, decide_eq_true_eq, decide_eq_false_iff_not, Bool.not_eq_true', Bool.not_eq_false'] at hc1
    have hf : findR op = none := by
      have h2 := hc1
      unfold sigP at h2
      split at h2
      · cases h2
      · assumption
    have hs1 : (sigP op).1 = ByteArray.mk #[] := by unfold sigP; rw [hf]; rfl
    have hn1 : nameP op = ByteArray.mk #[] := by unfold nameP; rw [hf]; rfl
    refine k_seq (fun Q K => ?_)
    refine k_lin (fun W K => ?_)
    refine l_op 0 rfl rfl rfl rfl rfl ?_
    refine l_cmp rfl rfl rfl rfl ?_
    refine l_op 0 rfl rfl rfl rfl rfl ?_
    refine l_guard rfl rfl rfl (fun hc2 => ?_) (fun hc2 => ?_)
    · first | replace hc2 := eq_of_beq ((irr_eq _).symm.trans hc2) | simp only [irr_eq, beq_iff_eq, beq_eq_false_iff_ne, ne_eq, decide_eq_true_eq, decide_eq_false_iff_not] at hc2
      refine l_op 0 rfl rfl rfl rfl rfl ?_
      refine l_cmp rfl rfl rfl rfl ?_
      refine l_op 2 rfl rfl rfl rfl rfl ?_
      refine l_op 0 rfl rfl rfl rfl rfl ?_
      refine l_guard rfl rfl rfl (fun hc3 => ?_) (fun hc3 => ?_)
      · first | replace hc3 := eq_of_beq ((irr_eq _).symm.trans hc3) | simp only [irr_eq, beq_iff_eq, beq_eq_false_iff_ne, ne_eq, decide_eq_true_eq, decide_eq_false_iff_not] at hc3
        refine l_callv rfl rfl (by kernel_rfl) rfl rfl (live_call _ _) ?_
        (try dsimp only [n_1, n_2, n_3, n_4, List.append_nil, pk, n_5, n_6] at F)
        refine l_op 2 rfl rfl rfl rfl rfl ?_
        refine l_op 0 rfl rfl rfl rfl rfl ?_
        refine l_nil (WK.nx (by assumption) ?_)
        refine SeqK.nx (by assumption) ?_
        refine k_ret ?_
        refine SeqK.rt (by assumption) ?_
        refine FunK.rt (by assumption) rfl ?_
        -- leaf 1
        rfl
      first | replace hc3 := ne_of_beq_false ((irr_eq _).symm.trans hc3) | simp only [irr_eq, beq_iff_eq, beq_eq_false_iff_ne, ne_eq, decide_eq_true_eq, decide_eq_false_iff_not] at hc3
      exact absurd (by rw [hn1]) hc3
    first | replace hc2 := ne_of_beq_false ((irr_eq _).symm.trans hc2) | simp only [irr_eq, beq_iff_eq, beq_eq_false_iff_ne, ne_eq, decide_eq_true_eq, decide_eq_false_iff_not] at hc2
    exact absurd (by rw [hs1]) hc2
  try simp only [irr_eq, beq_iff_eq, bne_iff_ne, beq_eq_false_iff_ne, bne_eq_false_iff_eq, ne_eq, decide_eq_true_eq, decide_eq_false_iff_not, Bool.not_eq_true', Bool.not_eq_false'] at hc1
  obtain ⟨r, hf⟩ : ∃ r, findR op = some r := by
    have h2 := hc1
    unfold sigP at h2
    split at h2
    · exact ⟨_, by assumption⟩
    · cases h2
  have hs1 : (sigP op).1 = r.2.2 := by unfold sigP; rw [hf]
  have hn1 : nameP op = r.2.1 := by unfold nameP; rw [hf]
  obtain ⟨hm, hro⟩ := find_mem hf
  have hall := List.all_eq_true.1 tbl_names r hm
  simp only [Bool.and_eq_true] at hall
  obtain ⟨⟨g1, g2⟩, g3⟩ := hall
  have hop : opP (nameP op) = (op, true) := by
    rw [hn1]
    unfold opP
    split at g3
    · rename_i q hq
      have : q.1 = r.1 := by simpa using g3
      simp only [this, hro]
    · cases g3
  have h8 := sig_size op
  rw [hop]
  refine k_skip ?_
  refine SeqK.nx (by assumption) ?_
  refine k_seq (fun Q K => ?_)
  refine k_seq (fun Q K => ?_)
  refine k_lin (fun W K => ?_)
  refine l_op 0 rfl rfl rfl rfl rfl ?_
  refine l_nil (WK.nx (by assumption) ?_)
  refine SeqK.nx (by assumption) ?_
  refine k_block (fun Q K => ?_)
  refine k_loop (α := Int) (fun i s => Facts E0 σ s [] ∧ 0 ≤ i) (fun i => [(0, .int .u32 op), (3, .string (sigP op).1), (5, .string (nameP op)), (6, .int .u32 op), (7, .bool true), (8, .int .i64 i)]) (fun i => ((sigP op).1.size - i).toNat) 0 ⟨F, by omega⟩ (by repeat (first | exact trivial | refine And.intro rfl ?_)) ?_
  clear F
  rintro i env s Q K0 ⟨F, i0⟩
  refine k_seq (fun Q K => ?_)
  refine k_seq (fun Q K => ?_)
  refine k_lin (fun W K => ?_)
  refine l_op 0 rfl rfl rfl rfl rfl ?_
  refine l_op 0 rfl rfl rfl rfl rfl ?_
  first | refine l_op 2 rfl rfl rfl rfl rfl ?_ | refine l_ln rfl rfl rfl rfl ?_
  refine l_cmp rfl rfl rfl rfl ?_
  refine l_nil (WK.nx (by assumption) ?_)
  refine SeqK.nx (by assumption) ?_
  refine l_cond rfl rfl (fun hc4 => ?_) (fun hc4 => ?_)
  · replace hc4 := of_decide_eq_true ((irr_eq _).symm.trans hc4)
    have hc : (ltr (sigP op).1).getD i.toNat 0 = 76 ∨ (ltr (sigP op).1).getD i.toNat 0 = 83 := by
      have hil : i.toNat < (ltr r.2.2).length := by rw [ltr_length, ← hs1]; omega
      have := List.all_eq_true.1 g1 _ (List.getElem_mem hil)
      rw [hs1]
      have e : (ltr r.2.2).getD i.toNat 0 = (ltr r.2.2)[i.toNat] := by rw [List.getD, List.getElem?_eq_getElem hil]; rfl
      rw [e]
      simpa only [Bool.or_eq_true, beq_iff_eq] using this
    refine k_skip ?_
    refine SeqK.nx (by assumption) ?_
    refine k_seq (fun Q K => ?_)
    refine k_block (fun Q K => ?_)
    refine k_seq (fun Q K => ?_)
    refine k_lin (fun W K => ?_)
    refine l_op 0 rfl rfl rfl rfl rfl ?_
    refine l_op 0 rfl rfl rfl rfl rfl ?_
    refine l_sx rfl rfl rfl rfl rfl (by omega) ?_
    refine l_cmp rfl rfl rfl rfl ?_
    refine l_op 0 rfl rfl rfl rfl rfl ?_
    refine l_guard rfl rfl rfl (fun hc5 => ?_) (fun hc5 => ?_)
    · first | replace hc5 := bne_iff_ne.1 ((irr_eq _).symm.trans hc5) | simp only [irr_eq, bne_iff_ne, bne_eq_false_iff_eq, ne_eq, decide_eq_true_eq, decide_eq_false_iff_not, Bool.not_eq_true', Bool.not_eq_false'] at hc5
      refine l_op 0 rfl rfl rfl rfl rfl ?_
      refine l_op 0 rfl rfl rfl rfl rfl ?_
      refine l_sx rfl rfl rfl rfl rfl (by omega) ?_
      refine l_cmp rfl rfl rfl rfl ?_
      refine l_op 2 rfl rfl rfl rfl rfl ?_
      refine l_nil (WK.nx (by assumption) ?_)
      refine SeqK.nx (by assumption) ?_
      refine l_cond rfl rfl (fun hc6 => ?_) (fun hc6 => ?_)
      · first | replace hc6 := bne_iff_ne.1 ((irr_eq _).symm.trans hc6) | simp only [irr_eq, bne_iff_ne, bne_eq_false_iff_eq, ne_eq, decide_eq_true_eq, decide_eq_false_iff_not, Bool.not_eq_true', Bool.not_eq_false'] at hc6
        omega
      first | replace hc6 := bne_eq_false_iff_eq.1 ((irr_eq _).symm.trans hc6) | simp only [irr_eq, bne_iff_ne, bne_eq_false_iff_eq, ne_eq, decide_eq_true_eq, decide_eq_false_iff_not, Bool.not_eq_true', Bool.not_eq_false'] at hc6
      refine k_skip ?_
      refine BlkK.nx (by assumption) ?_
      refine SeqK.nx (by assumption) ?_
      refine k_lin (fun W K => ?_)
      refine l_op 0 rfl rfl rfl rfl rfl ?_
      refine l_a64 rfl rfl rfl (by omega) rfl ?_
      refine l_op 0 rfl rfl rfl rfl rfl ?_
      refine l_nil (WK.nx (by assumption) ?_)
      exact K0.nx (i + 1) (by repeat (first | exact trivial | refine And.intro rfl ?_)) ⟨F, by omega⟩ (by first | omega | (simp only; omega))
    first | replace hc5 := bne_eq_false_iff_eq.1 ((irr_eq _).symm.trans hc5) | simp only [irr_eq, bne_iff_ne, bne_eq_false_iff_eq, ne_eq, decide_eq_true_eq, decide_eq_false_iff_not, Bool.not_eq_true', Bool.not_eq_false'] at hc5
    refine l_s rfl rfl ?_
    refine l_s rfl rfl ?_
    refine l_s rfl rfl ?_
    refine l_s rfl rfl ?_
    refine l_op 2 rfl rfl rfl rfl rfl ?_
    refine l_nil (WK.nx (by assumption) ?_)
    refine SeqK.nx (by assumption) ?_
    first | refine e_cond_f rfl rfl rfl ?_ | refine e_cond_f rfl rfl (by rw [irr_eq]; first | exact beq_eq_false_iff_ne.2 (by assumption) | exact decide_eq_false (by assumption) | exact bne_eq_false_iff_eq.2 (by assumption)) ?_
    refine k_skip ?_
    refine BlkK.nx (by assumption) ?_
    refine SeqK.nx (by assumption) ?_
    refine k_lin (fun W K => ?_)
    refine l_op 0 rfl rfl rfl rfl rfl ?_
    refine l_a64 rfl rfl rfl (by omega) rfl ?_
    refine l_op 0 rfl rfl rfl rfl rfl ?_
    refine l_nil (WK.nx (by assumption) ?_)
    exact K0.nx (i + 1) (by repeat (first | exact trivial | refine And.intro rfl ?_)) ⟨F, by omega⟩ (by first | omega | (simp only; omega))
  replace hc4 := of_decide_eq_false ((irr_eq _).symm.trans hc4)
  refine k_exit ?_
  refine SeqK.et (by assumption) ?_
  refine LoopK.et (by assumption) ?_
  refine BlkK.et (by assumption) ?_
  refine SeqK.nx (by assumption) ?_
  refine k_seq (fun Q K => ?_)
  refine k_lin (fun W K => ?_)
  refine l_op 0 rfl rfl rfl rfl rfl ?_
  refine l_cmp rfl rfl rfl rfl ?_
  refine l_op 0 rfl rfl rfl rfl rfl ?_
  refine l_guard rfl rfl rfl (fun hc7 => ?_) (fun hc7 => ?_)
  · first | replace hc7 := bne_iff_ne.1 ((irr_eq _).symm.trans hc7) | simp only [irr_eq, bne_iff_ne, bne_eq_false_iff_eq, ne_eq, decide_eq_true_eq, decide_eq_false_iff_not, Bool.not_eq_true', Bool.not_eq_false'] at hc7
    refine l_op 0 rfl rfl rfl rfl rfl ?_
    refine l_op 2 rfl rfl rfl rfl rfl ?_
    refine l_op 0 rfl rfl rfl rfl rfl ?_
    refine l_guard rfl rfl rfl (fun hc8 => ?_) (fun hc8 => ?_)
    · try simp only [irr_eq, beq_iff_eq, bne_iff_ne, beq_eq_false_iff_ne, bne_eq_false_iff_eq, ne_eq, decide_eq_true_eq, decide_eq_false_iff_not, Bool.not_eq_true', Bool.not_eq_false'] at hc8
      refine l_op 0 rfl rfl rfl rfl rfl ?_
      refine l_op 0 rfl rfl rfl rfl rfl ?_
      refine l_cmp rfl rfl rfl rfl ?_
      refine l_op 2 rfl rfl rfl rfl rfl ?_
      refine l_op 0 rfl rfl rfl rfl rfl ?_
      refine l_guard rfl rfl rfl (fun hc9 => ?_) (fun hc9 => ?_)
      · first | replace hc9 := eq_of_beq ((irr_eq _).symm.trans hc9) | simp only [irr_eq, beq_iff_eq, beq_eq_false_iff_ne, ne_eq, decide_eq_true_eq, decide_eq_false_iff_not] at hc9
        refine l_op 0 rfl rfl rfl rfl rfl ?_
        first | refine l_op 2 rfl rfl rfl rfl rfl ?_ | refine l_ln rfl rfl rfl rfl ?_
        refine l_cmp rfl rfl rfl rfl ?_
        refine l_op 2 rfl rfl rfl rfl rfl ?_
        refine l_op 0 rfl rfl rfl rfl rfl ?_
        refine l_guard rfl rfl rfl (fun hc10 => ?_) (fun hc10 => ?_)
        · replace hc10 := of_decide_eq_true ((irr_eq _).symm.trans hc10)
          refine l_callv rfl rfl (by kernel_rfl) rfl rfl (live_call _ _) ?_
          (try dsimp only [n_1, n_2, n_3, n_4, List.append_nil, pk, n_5, n_6] at F)
          refine l_op 2 rfl rfl rfl rfl rfl ?_
          refine l_op 0 rfl rfl rfl rfl rfl ?_
          refine l_nil (WK.nx (by assumption) ?_)
          refine SeqK.nx (by assumption) ?_
          refine k_ret ?_
          refine FunK.rt (by assumption) rfl ?_
          -- leaf 2
          rfl
        replace hc10 := of_decide_eq_false ((irr_eq _).symm.trans hc10)
        omega
      first | replace hc9 := ne_of_beq_false ((irr_eq _).symm.trans hc9) | simp only [irr_eq, beq_iff_eq, beq_eq_false_iff_ne, ne_eq, decide_eq_true_eq, decide_eq_false_iff_not] at hc9
      omega
    cases hc8
  first | replace hc7 := bne_eq_false_iff_eq.1 ((irr_eq _).symm.trans hc7) | simp only [irr_eq, bne_iff_ne, bne_eq_false_iff_eq, ne_eq, decide_eq_true_eq, decide_eq_false_iff_not, Bool.not_eq_true', Bool.not_eq_false'] at hc7
  exact absurd (by rw [hn1, empty_toList, ByteArray.toList_eq] at hc7; exact hc7) (by simpa using g2)

end Go.Proofs.Ytkemnodaadlonaa
