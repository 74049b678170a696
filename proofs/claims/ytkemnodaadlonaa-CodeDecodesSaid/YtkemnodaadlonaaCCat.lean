/- Rows of bytes laid one behind the other. No statement of the seat is proved in this text. -/
import Derived.Test.YtkemnodaadlonaaCDec
set_option linter.unusedVariables false
set_option linter.unusedSimpArgs false
set_option maxRecDepth 100000
set_option maxHeartbeats 4000000
namespace Go.Proofs.Ytkemnodaadlonaa
open GAb Go

theorem grow_call {σ : AState} {n : Int} (h0 : 0 ≤ n) (h1 : n ≤ 1000000000) :
    SCall Try.prog E0 66 [.slice none 0 0, .int .i64 n] σ (Ret E0 σ (fun (y : Option Addr × Nat) => .slice y.1 0 y.2) (fun y => [own y.1 0 y.2 1 (u8l [])]) fun _ => True) := by
  refine k_fun Try.func66 rfl (m := 27) rfl fun B hD Q K => ?_
  have F := (Facts.nil E0 σ).nilrow 1
  refine k_seq (fun Q K => ?_)
  refine k_lin (fun W K => ?_)
  refine l_op 0 rfl rfl rfl rfl rfl ?_
  refine l_nil (WK.nx (by assumption) ?_)
  refine SeqK.nx (by assumption) ?_
  refine k_seq (fun Q K => ?_)
  refine k_seq (fun Q K => ?_)
  refine k_lin (fun W K => ?_)
  refine l_op 0 rfl rfl rfl rfl rfl ?_
  refine l_cmp rfl rfl rfl rfl ?_
  refine l_nil (WK.nx (by assumption) ?_)
  refine SeqK.nx (by assumption) ?_
  refine l_cond rfl rfl (fun hc1 => ?_) (fun hc1 => ?_)
  · replace hc1 := of_decide_eq_true ((irr_eq _).symm.trans hc1)
    omega
  replace hc1 := of_decide_eq_false ((irr_eq _).symm.trans hc1)
  refine k_skip ?_
  refine SeqK.nx (by assumption) ?_
  refine k_seq (fun Q K => ?_)
  refine k_seq (fun Q K => ?_)
  refine k_lin (fun W K => ?_)
  refine l_op 0 rfl rfl rfl rfl rfl ?_
  refine l_op 0 rfl rfl rfl rfl rfl ?_
  first | refine l_op 2 rfl rfl rfl rfl rfl ?_ | refine l_cp0 rfl rfl rfl rfl ?_
  refine l_op 0 rfl rfl rfl rfl rfl ?_
  first | refine l_op 2 rfl rfl rfl rfl rfl ?_ | refine l_ln rfl rfl rfl rfl ?_
  refine l_a64 rfl rfl rfl (by omega) rfl ?_
  refine l_a64 rfl rfl rfl (by omega) rfl ?_
  refine l_op 0 rfl rfl rfl rfl rfl ?_
  refine l_nil (WK.nx (by assumption) ?_)
  refine SeqK.nx (by assumption) ?_
  refine k_seq (fun Q K => ?_)
  refine k_lin (fun W K => ?_)
  refine l_op 0 rfl rfl rfl rfl rfl ?_
  refine l_cmp rfl rfl rfl rfl ?_
  refine l_nil (WK.nx (by assumption) ?_)
  refine SeqK.nx (by assumption) ?_
  refine l_cond rfl rfl (fun hc2 => ?_) (fun hc2 => ?_)
  · replace hc2 := of_decide_eq_true ((irr_eq _).symm.trans hc2)
    refine k_lin (fun W K => ?_)
    refine l_op 0 rfl rfl rfl rfl rfl ?_
    refine l_op 0 rfl rfl rfl rfl rfl ?_
    first | refine l_op 2 rfl rfl rfl rfl rfl ?_ | refine l_cp0 rfl rfl rfl rfl ?_
    first | refine l_slh rfl rfl rfl rfl rfl ⟨rfl, _, _, rfl, by omega, rfl⟩ (F.old (by assumption)) (by omega) ?_ | refine l_slh rfl rfl rfl rfl rfl ⟨rfl, _, _, rfl, by omega, rfl⟩ (F.has 0 rfl) (by omega) ?_ | refine l_slh rfl rfl rfl rfl rfl ⟨rfl, _, _, rfl, by omega, rfl⟩ (F.has 1 rfl) (by omega) ?_ | refine l_slh rfl rfl rfl rfl rfl ⟨rfl, _, _, rfl, by omega, rfl⟩ (F.has 2 rfl) (by omega) ?_ | refine l_slh rfl rfl rfl rfl rfl ⟨rfl, _, _, rfl, by omega, rfl⟩ (F.has 3 rfl) (by omega) ?_
    refine l_op 0 rfl rfl rfl rfl rfl ?_
    refine l_appz (es := 1) F rfl rfl rfl rfl rfl rfl (.inl rfl) (F.has 0 rfl) rfl (by omega) (by omega) rfl (by omega) (fun q22 c22 s F => ?_)
    (try dsimp only [n_1, n_2, n_3, n_4, List.append_nil, pk, n_5, n_6] at F)
    refine l_op 0 rfl rfl rfl rfl rfl ?_
    first | refine l_op 2 rfl rfl rfl rfl rfl ?_ | refine l_ln rfl rfl rfl rfl ?_
    first | refine l_slh rfl rfl rfl rfl rfl ⟨rfl, _, _, rfl, by omega, rfl⟩ (F.old (by assumption)) (by omega) ?_ | refine l_slh rfl rfl rfl rfl rfl ⟨rfl, _, _, rfl, by omega, rfl⟩ (F.has 0 rfl) (by omega) ?_ | refine l_slh rfl rfl rfl rfl rfl ⟨rfl, _, _, rfl, by omega, rfl⟩ (F.has 1 rfl) (by omega) ?_ | refine l_slh rfl rfl rfl rfl rfl ⟨rfl, _, _, rfl, by omega, rfl⟩ (F.has 2 rfl) (by omega) ?_ | refine l_slh rfl rfl rfl rfl rfl ⟨rfl, _, _, rfl, by omega, rfl⟩ (F.has 3 rfl) (by omega) ?_
    refine l_op 0 rfl rfl rfl rfl rfl ?_
    refine l_nil (WK.nx (by assumption) ?_)
    refine SeqK.nx (by assumption) ?_
    refine k_seq (fun Q K => ?_)
    refine k_lin (fun W K => ?_)
    refine l_op 0 rfl rfl rfl rfl rfl ?_
    refine l_op 0 rfl rfl rfl rfl rfl ?_
    refine l_nil (WK.nx (by assumption) ?_)
    refine SeqK.nx (by assumption) ?_
    refine k_ret ?_
    refine FunK.rt (by assumption) rfl ?_
    -- leaf 1
    first
      | (have F' := Facts.upto (F := F) 1 rfl (h := 0) (by omega)
         exact ⟨(some ⟨q22, 0, some 0⟩, c22), rfl, F'.pick [1] (by decide), trivial⟩)
      | exact ⟨(none, 0), rfl, F.pick [0] (by decide), trivial⟩
  replace hc2 := of_decide_eq_false ((irr_eq _).symm.trans hc2)
  refine k_skip ?_
  refine SeqK.nx (by assumption) ?_
  refine k_seq (fun Q K => ?_)
  refine k_lin (fun W K => ?_)
  refine l_op 0 rfl rfl rfl rfl rfl ?_
  refine l_op 0 rfl rfl rfl rfl rfl ?_
  refine l_nil (WK.nx (by assumption) ?_)
  refine SeqK.nx (by assumption) ?_
  refine k_ret ?_
  refine FunK.rt (by assumption) rfl ?_
  -- leaf 2
  first
    | (have F' := Facts.upto (F := F) 1 rfl (h := 0) (by omega)
       exact ⟨(some ⟨q22, 0, some 0⟩, c22), rfl, F'.pick [1] (by decide), trivial⟩)
    | exact ⟨(none, 0), rfl, F.pick [0] (by decide), trivial⟩
/-- A row of bytes as a value, and its bytes. -/
abbrev Pt := Option Addr × Nat × Nat × List Int
abbrev eP (t : Pt) : List Value := [.slice t.1 t.2.1 t.2.2.1]
theorem eP_len (t : Pt) : (eP t).length = 1 := rfl
def cat (ps : List Pt) : List Int := ps.flatMap fun t => t.2.2.2
theorem cat_take {ps : List Pt} {i : Nat} (h : i < ps.length) : cat (ps.take (i + 1)) = cat (ps.take i) ++ (ps.getD i default).2.2.2 := by
  unfold cat
  rw [List.take_succ_eq_append_getElem h, List.flatMap_append]
  simp [List.getD, h]
theorem cat_le {ps : List Pt} (i : Nat) : (cat (ps.take i)).length ≤ (cat ps).length := by
  have : cat ps = cat (ps.take i) ++ cat (ps.drop i) := by unfold cat; rw [← List.flatMap_append, List.take_append_drop]
  rw [this, List.length_append]; omega
theorem concat_call {σ : AState} {a : Option Addr} {l c : Nat} {ps : List Pt} (h : Old E0 σ a l c 1 (rows eP ps)) (hp : ∀ t ∈ ps, Old E0 σ t.1 t.2.1 t.2.2.1 1 (u8l t.2.2.2)) (hb : (cat ps).length ≤ 1000000) (hl : l ≤ 1000000) :
    SCall Try.prog E0 57 [.slice a l c] σ (Ret E0 σ (fun (y : Option Addr × Nat) => .slice y.1 (cat ps).length y.2) (fun y => [own y.1 (cat ps).length y.2 1 (u8l (cat ps))]) fun _ => True) := by
  obtain rfl : ps.length = l := h.1.len eP_len (by decide)
  have hpi : ∀ i : Nat, i < ps.length → Old E0 σ (ps.getD i default).1 (ps.getD i default).2.1 (ps.getD i default).2.2.1 1 (u8l (ps.getD i default).2.2.2) := fun i hi => by
    have := hp _ (List.getElem_mem hi)
    simpa only [List.getD, List.getElem?_eq_getElem hi, Option.getD_some] using this
  refine k_fun Try.func57 rfl (m := 36) rfl fun B hD Q K => ?_
  have F := Facts.nil E0 σ
  refine k_seq (fun Q K => ?_)
  refine k_lin (fun W K => ?_)
  refine l_op 0 rfl rfl rfl rfl rfl ?_
  refine l_nil (WK.nx (by assumption) ?_)
  refine SeqK.nx (by assumption) ?_
  refine k_seq (fun Q K => ?_)
  refine k_lin (fun W K => ?_)
  refine l_op 0 rfl rfl rfl rfl rfl ?_
  refine l_nil (WK.nx (by assumption) ?_)
  refine SeqK.nx (by assumption) ?_
  refine k_seq (fun Q K => ?_)
  refine k_seq (fun Q K => ?_)
  refine k_lin (fun W K => ?_)
  refine l_op 0 rfl rfl rfl rfl rfl ?_
  first | refine l_op 2 rfl rfl rfl rfl rfl ?_ | refine l_ln rfl rfl rfl rfl ?_
  refine l_op 0 rfl rfl rfl rfl rfl ?_
  refine l_nil (WK.nx (by assumption) ?_)
  refine SeqK.nx (by assumption) ?_
  refine k_block (fun Q K => ?_)
  refine k_loop (α := Int) (fun i s => Facts E0 σ s [] ∧ 0 ≤ i ∧ i ≤ ps.length) (fun i => [(0, .slice a ps.length c), (3, .int .i64 (cat (ps.take i.toNat)).length), (9, .slice a ps.length c), (10, .int .i64 ps.length), (11, .int .i64 i)]) (fun i => (ps.length - i).toNat) 0 ⟨F, by omega, by omega⟩ (by repeat (first | exact trivial | refine And.intro rfl ?_)) ?_
  clear F
  rintro i env s Q K0 ⟨F, i0, i1⟩
  refine k_seq (fun Q K => ?_)
  refine k_lin (fun W K => ?_)
  refine l_cmp rfl rfl rfl rfl ?_
  refine l_nil (WK.nx (by assumption) ?_)
  refine SeqK.nx (by assumption) ?_
  refine k_seq (fun Q K => ?_)
  refine l_cond rfl rfl (fun hc1 => ?_) (fun hc1 => ?_)
  · replace hc1 := of_decide_eq_true ((irr_eq _).symm.trans hc1)
    have hi : i.toNat < ps.length := by omega
    have hlen := (hpi i.toNat hi).len8
    have hct := cat_take hi
    have hcl := cat_le (ps := ps) (i.toNat + 1)
    rw [hct, List.length_append] at hcl
    refine k_skip ?_
    refine SeqK.nx (by assumption) ?_
    refine k_seq (fun Q K => ?_)
    refine k_block (fun Q K => ?_)
    refine k_seq (fun Q K => ?_)
    refine k_lin (fun W K => ?_)
    refine l_ixr (e := eP) rfl rfl rfl rfl rfl rfl (F.old h) ⟨eP_len, by decide⟩ (by omega) (fun m13 b13 hA13 => ?_)
    refine l_ld0 rfl rfl rfl rfl rfl (by assumption) ?_
    refine l_op 0 rfl rfl rfl rfl rfl ?_
    refine l_nil (WK.nx (by assumption) ?_)
    refine SeqK.nx (by assumption) ?_
    refine k_seq (fun Q K => ?_)
    refine k_lin (fun W K => ?_)
    refine l_op 0 rfl rfl rfl rfl rfl ?_
    refine l_op 0 rfl rfl rfl rfl rfl ?_
    first | refine l_op 2 rfl rfl rfl rfl rfl ?_ | refine l_ln rfl rfl rfl rfl ?_
    refine l_a64 rfl rfl rfl (by omega) rfl ?_
    refine l_op 0 rfl rfl rfl rfl rfl ?_
    refine l_nil (WK.nx (by assumption) ?_)
    refine SeqK.nx (by assumption) ?_
    refine k_seq (fun Q K => ?_)
    refine k_lin (fun W K => ?_)
    refine l_op 0 rfl rfl rfl rfl rfl ?_
    refine l_cmp rfl rfl rfl rfl ?_
    refine l_nil (WK.nx (by assumption) ?_)
    refine SeqK.nx (by assumption) ?_
    refine l_cond rfl rfl (fun hc2 => ?_) (fun hc2 => ?_)
    · replace hc2 := of_decide_eq_true ((irr_eq _).symm.trans hc2)
      omega
    replace hc2 := of_decide_eq_false ((irr_eq _).symm.trans hc2)
    refine k_skip ?_
    refine BlkK.nx (by assumption) ?_
    refine SeqK.nx (by assumption) ?_
    refine k_lin (fun W K => ?_)
    refine l_a64 rfl rfl rfl (by omega) rfl ?_
    refine l_op 0 rfl rfl rfl rfl rfl ?_
    refine l_nil (WK.nx (by assumption) ?_)
    have e1 : (i + 1).toNat = i.toNat + 1 := by omega
    have e2 : (((cat (ps.take i.toNat)).length : Nat) : Int) + (((ps.getD i.toNat default).2.1 : Nat) : Int) = ((cat (ps.take (i + 1).toNat)).length : Nat) := by
      rw [e1, hct, List.length_append]; omega
    exact K0.nx (i + 1) (by rw [← e2]; exact (by repeat (first | exact trivial | refine And.intro rfl ?_))) ⟨F.pick [] (by decide), by omega, by omega⟩ (by first | omega | (simp only; omega))
  replace hc1 := of_decide_eq_false ((irr_eq _).symm.trans hc1)
  have hall : ps.take i.toNat = ps := List.take_of_length_le (by omega)
  refine k_exit ?_
  refine SeqK.et (by assumption) ?_
  refine LoopK.et (by assumption) ?_
  refine BlkK.et (by assumption) ?_
  refine SeqK.nx (by assumption) ?_
  refine k_seq (fun Q K => ?_)
  refine k_lin (fun W K => ?_)
  refine l_op 0 rfl rfl rfl rfl rfl ?_
  refine l_callp F rfl rfl (by kernel_rfl) rfl rfl (grow_call (by omega) (by rw [hall]; omega)) (fun y s F _ => ?_)
  (try dsimp only [n_1, n_2, n_3, n_4, List.append_nil, pk, n_5, n_6] at F)
  refine l_op 0 rfl rfl rfl rfl rfl ?_
  refine l_nil (WK.nx (by assumption) ?_)
  refine SeqK.nx (by assumption) ?_
  refine k_seq (fun Q K => ?_)
  refine k_seq (fun Q K => ?_)
  refine k_lin (fun W K => ?_)
  refine l_op 0 rfl rfl rfl rfl rfl ?_
  first | refine l_op 2 rfl rfl rfl rfl rfl ?_ | refine l_ln rfl rfl rfl rfl ?_
  refine l_op 0 rfl rfl rfl rfl rfl ?_
  refine l_nil (WK.nx (by assumption) ?_)
  refine SeqK.nx (by assumption) ?_
  refine k_block (fun Q K => ?_)
  refine k_loop (α := Int × Option Addr × Nat) (fun ⟨i, x, k⟩ s => Facts E0 σ s [own x (cat (ps.take i.toNat)).length k 1 (u8l (cat (ps.take i.toNat)))] ∧ 0 ≤ i ∧ i ≤ ps.length) (fun ⟨i, x, k⟩ => [(6, .slice x (cat (ps.take i.toNat)).length k), (25, .slice a ps.length c), (26, .int .i64 ps.length), (27, .int .i64 i)]) (fun ⟨i, _⟩ => (ps.length - i).toNat) (0, y.1, y.2) ⟨F, by omega, by omega⟩ (by repeat (first | exact trivial | refine And.intro rfl ?_)) ?_
  clear F
  rintro ⟨i, x, k⟩ env s Q K0 ⟨F, j0, j1⟩
  refine k_seq (fun Q K => ?_)
  refine k_lin (fun W K => ?_)
  refine l_cmp rfl rfl rfl rfl ?_
  refine l_nil (WK.nx (by assumption) ?_)
  refine SeqK.nx (by assumption) ?_
  refine k_seq (fun Q K => ?_)
  refine l_cond rfl rfl (fun hc3 => ?_) (fun hc3 => ?_)
  · replace hc3 := of_decide_eq_true ((irr_eq _).symm.trans hc3)
    have hi : i.toNat < ps.length := by omega
    have hlen := (hpi i.toNat hi).len8
    have hct := cat_take hi
    have hcl := cat_le (ps := ps) (i.toNat + 1)
    rw [hct, List.length_append] at hcl
    refine k_skip ?_
    refine SeqK.nx (by assumption) ?_
    refine k_seq (fun Q K => ?_)
    refine k_block (fun Q K => ?_)
    refine k_seq (fun Q K => ?_)
    refine k_lin (fun W K => ?_)
    refine l_ixr (e := eP) rfl rfl rfl rfl rfl rfl (F.old h) ⟨eP_len, by decide⟩ (by omega) (fun m29 b29 hA29 => ?_)
    refine l_ld0 rfl rfl rfl rfl rfl (by assumption) ?_
    refine l_op 0 rfl rfl rfl rfl rfl ?_
    refine l_nil (WK.nx (by assumption) ?_)
    refine SeqK.nx (by assumption) ?_
    refine k_lin (fun W K => ?_)
    refine l_op 0 rfl rfl rfl rfl rfl ?_
    refine l_op 0 rfl rfl rfl rfl rfl ?_
    refine l_appi F 0 rfl rfl rfl rfl rfl rfl rfl (F.old (hpi i.toNat hi)) rfl (by omega) hD (fun x2 c2 s F => ?_)
    (try dsimp only [n_1, n_2, n_3, n_4, List.append_nil, pk, n_5, n_6] at F)
    refine l_op 0 rfl rfl rfl rfl rfl ?_
    refine l_nil (WK.nx (by assumption) ?_)
    refine BlkK.nx (by assumption) ?_
    refine SeqK.nx (by assumption) ?_
    refine k_lin (fun W K => ?_)
    refine l_a64 rfl rfl rfl (by omega) rfl ?_
    refine l_op 0 rfl rfl rfl rfl rfl ?_
    refine l_nil (WK.nx (by assumption) ?_)
    have e1 : (i + 1).toNat = i.toNat + 1 := by omega
    have e2 : (cat (ps.take i.toNat)).length + (ps.getD i.toNat default).2.1 = (cat (ps.take (i + 1).toNat)).length := by
      rw [e1, hct, List.length_append]; omega
    rw [← hct, ← e1, e2] at F
    exact K0.nx (i + 1, x2, c2) (by dsimp only; rw [← e2]; exact (by repeat (first | exact trivial | refine And.intro rfl ?_))) ⟨F, by omega, by omega⟩ (by first | omega | (simp only; omega))
  replace hc3 := of_decide_eq_false ((irr_eq _).symm.trans hc3)
  have hall2 : ps.take i.toNat = ps := List.take_of_length_le (by omega)
  refine k_exit ?_
  refine SeqK.et (by assumption) ?_
  refine LoopK.et (by assumption) ?_
  refine BlkK.et (by assumption) ?_
  refine SeqK.nx (by assumption) ?_
  refine k_seq (fun Q K => ?_)
  refine k_lin (fun W K => ?_)
  refine l_op 0 rfl rfl rfl rfl rfl ?_
  refine l_op 0 rfl rfl rfl rfl rfl ?_
  refine l_nil (WK.nx (by assumption) ?_)
  refine SeqK.nx (by assumption) ?_
  refine k_ret ?_
  refine FunK.rt (by assumption) rfl ?_
  -- leaf 1
  rw [hall2] at F
  exact ⟨(x, k), by rw [hall2]; rfl, F, trivial⟩

end Go.Proofs.Ytkemnodaadlonaa
