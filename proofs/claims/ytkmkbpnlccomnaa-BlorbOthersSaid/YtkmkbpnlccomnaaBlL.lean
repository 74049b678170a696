/- Which game bytes hold. No statement of the seat is proved in this text. -/
import Derived.Test.YtkmkbpnlccomnaaBlK
set_option linter.unusedVariables false
set_option linter.unusedSimpArgs false
set_option maxRecDepth 100000
set_option maxHeartbeats 8000000
namespace Go.Proofs.Ytkmkbpnlccomnaa
open GAb Go

theorem Facts.ofM {O : Nat → Prop} {σ0 σ : AState} {L A : List Fact} (F : Facts O σ0 σ L) (k : Nat) (hk : L[k]? = some (many A)) {f : Fact} (hf : f ∈ A) : Facts O σ0 σ [f] :=
  ⟨F.le, F.eq, fun g hg => by rw [List.mem_singleton.1 hg]; exact (F.ho _ (List.mem_of_getElem? hk)).1 _ hf, fun g hg m hm => by rw [List.mem_singleton.1 hg] at hm; exact F.fo _ (List.mem_of_getElem? hk) m ⟨f, hf, hm⟩, List.pairwise_singleton _ _⟩
def execB : List Int := [69, 120, 101, 99]
def glulB : List Int := [71, 108, 117, 108]
def gluLB : List Int := [71, 76, 85, 76]
def formB : List Int := [70, 79, 82, 77]
def isEx (r : List Int × Int × List Int × List Int) : Bool := decide (r.1 = execB ∧ r.2.1 = 0 ∧ r.2.2.1 = gluLB)
def exR (n : Int) : Option (List Int × Int × List Int × List Int) → Int × Int × List Int
  | some r => (0, n, r.2.2.2)
  | none => (62, 12, [])
def gameR (bs : List Int) : Int × Int × List Int :=
  if (bs.length : Int) < 4 then (63, 0, [])
  else if bs.take 4 = glulB then (0, bs.length, bs)
  else if bs.take 4 ≠ formB then (63, 0, [])
  else if (readR bs).1 ≠ 0 then ((readR bs).1, (readR bs).2.1, [])
  else exR bs.length ((readR bs).2.2.find? isEx)
theorem find_at {α : Type} {P : α → Bool} : ∀ {L : List α} {i : Nat} {x : α}, L[i]? = some x → P x = true → (∀ j y, j < i → L[j]? = some y → P y = false) → L.find? P = some x
  | [], i, x, h, _, _ => by simp at h
  | a :: L, 0, x, h, hP, _ => by
    simp at h; subst h; simp [List.find?, hP]
  | a :: L, i + 1, x, h, hP, hn => by
    have h0 := hn 0 a (by omega) rfl
    rw [List.find?_cons, h0]
    exact find_at (by simpa using h) hP fun j y hj hy => hn (j + 1) y (by omega) (by simpa using hy)
theorem find_no {α : Type} {P : α → Bool} {L : List α} (h : ∀ (j : Nat) (y : α), L[j]? = some y → P y = false) : L.find? P = none := by
  rw [List.find?_eq_none]
  intro x hx
  obtain ⟨j, hj, rfl⟩ := List.mem_iff_getElem.1 hx
  rw [h j _ (List.getElem?_eq_getElem hj)]
  decide
theorem execB_b : Bytes execB := bytes_mem.2 fun x hx => by simp [execB] at hx; omega
theorem glulB_b : Bytes glulB := bytes_mem.2 fun x hx => by simp [glulB] at hx; omega
theorem gluLB_b : Bytes gluLB := bytes_mem.2 fun x hx => by simp [gluLB] at hx; omega
theorem formB_b : Bytes formB := bytes_mem.2 fun x hx => by simp [formB] at hx; omega
theorem execB_s : strOfNums execB = { data := #[69, 120, 101, 99] } := by decide
theorem glulB_s : strOfNums glulB = { data := #[71, 108, 117, 108] } := by decide
theorem gluLB_s : strOfNums gluLB = { data := #[71, 76, 85, 76] } := by decide
theorem formB_s : strOfNums formB = { data := #[70, 79, 82, 77] } := by decide
abbrev GY := Option Addr × Nat × Nat × List Int
abbrev gamV (bs : List Int) (y : GY) : Value := .tuple #[.slice y.1 y.2.1 y.2.2.1, .int .i64 (gameR bs).1, .int .i64 (gameR bs).2.1]
abbrev gamF (y : GY) : List Fact := [own y.1 y.2.1 y.2.2.1 1 (u8l y.2.2.2)]
def GamP (bs : List Int) (y : GY) : Prop := y.2.2.2 = (gameR bs).2.2 ∧ y.2.1 ≤ 2000000
theorem gam_bad {bs : List Int} {σ s : AState} (F : Facts E0 σ s []) {e at_ : Int} (h : gameR bs = (e, at_, [])) : Ret E0 σ (gamV bs) gamF (GamP bs) (one [.slice none 0 0, .int .i64 e, .int .i64 at_]) s :=
  ⟨(none, 0, 0, []), by rw [gamV, h]; rfl, F.nilrow 1, by rw [GamP, h]; exact ⟨rfl, Nat.zero_le _⟩⟩

theorem goE_len {bs : List Int} {l : CL} {n : Int} : ∀ {k : Nat} {i : Int} {acc : RL}, (goE bs l n k i acc).2.2.length ≤ acc.length + k
  | 0, i, acc => Nat.le_refl _
  | k + 1, i, acc => by
    unfold goE
    split
    · split
      · exact Nat.zero_le _
      · split
        · exact Nat.zero_le _
        · split
          · exact Nat.zero_le _
          · have := goE_len (bs := bs) (l := l) (n := n) (k := k) (i := i + 1) (acc := acc ++ [entV bs l i])
            rw [List.length_append, List.length_singleton] at this
            omega
    · show acc.length ≤ _; omega
theorem readR_len (bs : List Int) : (readR bs).2.2.length ≤ 600 := by
  unfold readR
  split
  · exact Nat.zero_le _
  split
  · exact Nat.zero_le _
  split
  · exact Nat.zero_le _
  · have := goE_len (bs := bs) (l := (parseR bs).2.2.2) (n := (idxR (parseR bs).2.2.2).1) (k := 600) (i := 0) (acc := [])
    simpa using this
theorem game_call {σ : AState} {a : Option Addr} {l c : Nat} {bs : List Int} (hl : Old E0 σ a l c 1 (u8l bs)) (hB : Bytes bs) (hn : l ≤ 2000000) (hc : a = none ∨ 0 < c) :
    SCall Try.prog E0 22 [.slice a l c] σ (Ret E0 σ (gamV bs) gamF (GamP bs)) := by
  have hbl := hl.len8
  refine k_fun Try.func22 rfl (m := 58) rfl fun B hD Q K => ?_
  have F := Facts.nil E0 σ
  refine k_seq (fun Q K => ?_)
  refine k_lin (fun W K => ?_)
  refine l_op 0 rfl rfl rfl rfl rfl ?_
  refine l_op 0 rfl rfl rfl rfl rfl ?_
  refine l_op 0 rfl rfl rfl rfl rfl ?_
  refine l_nil (WK.nx (by assumption) ?_)
  refine SeqK.nx (by assumption) ?_
  refine k_seq (fun Q K => ?_)
  refine k_seq (fun Q K => ?_)
  refine k_lin (fun W K => ?_)
  refine l_op 0 rfl rfl rfl rfl rfl ?_
  first | refine l_op 2 rfl rfl rfl rfl rfl ?_ | refine l_ln rfl rfl rfl rfl ?_
  refine l_cmp rfl rfl rfl rfl ?_
  refine l_nil (WK.nx (by assumption) ?_)
  refine SeqK.nx (by assumption) ?_
  refine l_cond rfl rfl (fun hc1 => ?_) (fun hc1 => ?_)
  · replace hc1 := of_decide_eq_true ((irr_eq _).symm.trans hc1)
    have hg : gameR bs = (63, 0, []) := by unfold gameR; rw [if_pos (by omega)]
    refine k_seq (fun Q K => ?_)
    refine k_lin (fun W K => ?_)
    refine l_op 0 rfl rfl rfl rfl rfl ?_
    refine l_op 0 rfl rfl rfl rfl rfl ?_
    refine l_op 0 rfl rfl rfl rfl rfl ?_
    refine l_nil (WK.nx (by assumption) ?_)
    refine SeqK.nx (by assumption) ?_
    refine k_ret ?_
    refine SeqK.rt (by assumption) ?_
    refine FunK.rt (by assumption) rfl ?_
    -- leaf 1
    first
    | (exact gam_bad (F.pick [] (by decide)) hg)
    | (refine ⟨(yc.1, l, yc.2, bs), ?_, F, ?_⟩
       · rw [gamV, hg0, ← hbl]; rfl
       · rw [GamP, hg0]; exact ⟨rfl, by dsimp only; omega⟩)
    | (refine ⟨((rs.getD i.toNat default).x, (rs.getD i.toNat default).l, (rs.getD i.toNat default).c, (rs.getD i.toNat default).d), ?_, Facts.ofM F 0 rfl (List.mem_map_of_mem hmem), ?_⟩
       · rw [gamV, hgo, ← hbl]; rfl
       · rw [GamP, hgo]; exact ⟨rfl, (q2 _ hmem).2.1⟩)
  replace hc1 := of_decide_eq_false ((irr_eq _).symm.trans hc1)
  have g1 : ¬ (bs.length : Int) < 4 := by omega
  refine k_skip ?_
  refine SeqK.nx (by assumption) ?_
  refine k_seq (fun Q K => ?_)
  refine k_seq (fun Q K => ?_)
  refine k_lin (fun W K => ?_)
  refine l_op 0 rfl rfl rfl rfl rfl ?_
  first | refine l_slh rfl rfl rfl rfl rfl ⟨rfl, _, _, rfl, by omega, rfl⟩ (F.old (by assumption)) (by omega) ?_ | refine l_slh rfl rfl rfl rfl rfl ⟨rfl, _, _, rfl, by omega, rfl⟩ (F.has 0 rfl) (by omega) ?_ | refine l_slh rfl rfl rfl rfl rfl ⟨rfl, _, _, rfl, by omega, rfl⟩ (F.has 1 rfl) (by omega) ?_ | refine l_slh rfl rfl rfl rfl rfl ⟨rfl, _, _, rfl, by omega, rfl⟩ (F.has 2 rfl) (by omega) ?_ | refine l_slh rfl rfl rfl rfl rfl ⟨rfl, _, _, rfl, by omega, rfl⟩ (F.has 3 rfl) (by omega) ?_
  refine l_str rfl rfl rfl rfl rfl (F.old (hl.upto8 (hi := 4) (by omega))) ?_
  refine l_nil (WK.nx (by assumption) ?_)
  refine SeqK.nx (by assumption) ?_
  refine k_block (fun Q K => ?_)
  refine k_seq (fun Q K => ?_)
  refine k_lin (fun W K => ?_)
  refine l_cmp rfl rfl rfl rfl ?_
  refine l_op 0 rfl rfl rfl rfl rfl ?_
  refine l_nil (WK.nx (by assumption) ?_)
  refine SeqK.nx (by assumption) ?_
  refine l_cond rfl rfl (fun hc2 => ?_) (fun hc2 => ?_)
  · first | replace hc2 := eq_of_beq ((irr_eq _).symm.trans hc2) | simp only [irr_eq, beq_iff_eq, beq_eq_false_iff_ne, ne_eq, decide_eq_true_eq, decide_eq_false_iff_not] at hc2
    have g2 : bs.take 4 = glulB := (sbeq_str (hB.take _) glulB_b).1 (beq_iff_eq.2 (by rw [glulB_s]; exact hc2))
    refine k_seq (fun Q K => ?_)
    refine k_lin (fun W K => ?_)
    refine l_op 0 rfl rfl rfl rfl rfl ?_
    refine l_callp F rfl rfl (by kernel_rfl) rfl rfl (clone_call (Old.pure (F.old hl)) (by omega)) (fun yc s F _ => ?_)
    (try dsimp only [n_1, n_2, n_3, n_4, List.append_nil, pk, n_5, n_6] at F)
    have hg0 : gameR bs = (0, (bs.length : Int), bs) := by unfold gameR; rw [if_neg g1, if_pos g2]
    refine l_op 0 rfl rfl rfl rfl rfl ?_
    first | refine l_op 2 rfl rfl rfl rfl rfl ?_ | refine l_ln rfl rfl rfl rfl ?_
    refine l_op 0 rfl rfl rfl rfl rfl ?_
    refine l_op 0 rfl rfl rfl rfl rfl ?_
    refine l_op 0 rfl rfl rfl rfl rfl ?_
    refine l_nil (WK.nx (by assumption) ?_)
    refine SeqK.nx (by assumption) ?_
    refine k_ret ?_
    refine BlkK.rt (by assumption) ?_
    refine SeqK.rt (by assumption) ?_
    refine FunK.rt (by assumption) rfl ?_
    -- leaf 2
    first
    | (exact gam_bad (F.pick [] (by decide)) hg)
    | (refine ⟨(yc.1, l, yc.2, bs), ?_, F, ?_⟩
       · rw [gamV, hg0, ← hbl]; rfl
       · rw [GamP, hg0]; exact ⟨rfl, by dsimp only; omega⟩)
    | (refine ⟨((rs.getD i.toNat default).x, (rs.getD i.toNat default).l, (rs.getD i.toNat default).c, (rs.getD i.toNat default).d), ?_, Facts.ofM F 0 rfl (List.mem_map_of_mem hmem), ?_⟩
       · rw [gamV, hgo, ← hbl]; rfl
       · rw [GamP, hgo]; exact ⟨rfl, (q2 _ hmem).2.1⟩)
  first | replace hc2 := ne_of_beq_false ((irr_eq _).symm.trans hc2) | simp only [irr_eq, beq_iff_eq, beq_eq_false_iff_ne, ne_eq, decide_eq_true_eq, decide_eq_false_iff_not] at hc2
  have g2 : ¬ bs.take 4 = glulB := fun q => hc2 (by rw [← glulB_s]; exact beq_iff_eq.1 ((sbeq_str (hB.take _) glulB_b).2 q))
  refine k_seq (fun Q K => ?_)
  refine k_lin (fun W K => ?_)
  refine l_cmp rfl rfl rfl rfl ?_
  refine l_op 0 rfl rfl rfl rfl rfl ?_
  refine l_nil (WK.nx (by assumption) ?_)
  refine SeqK.nx (by assumption) ?_
  refine l_cond rfl rfl (fun hc3 => ?_) (fun hc3 => ?_)
  · first | replace hc3 := eq_of_beq ((irr_eq _).symm.trans hc3) | simp only [irr_eq, beq_iff_eq, beq_eq_false_iff_ne, ne_eq, decide_eq_true_eq, decide_eq_false_iff_not] at hc3
    have g3 : bs.take 4 = formB := (sbeq_str (hB.take _) formB_b).1 (beq_iff_eq.2 (by rw [formB_s]; exact hc3))
    refine k_seq (fun Q K => ?_)
    refine k_lin (fun W K => ?_)
    refine l_op 0 rfl rfl rfl rfl rfl ?_
    refine l_callp F rfl rfl (by kernel_rfl) rfl rfl (read_call (Old.pure (F.old hl)) hB hn hc) (fun y s F hy => ?_)
    obtain ⟨x, m, d, rs⟩ := y
    obtain ⟨q1, q2⟩ := hy
    dsimp only [reaF, reaV] at F q1 q2 ⊢
    (try dsimp only [n_1, n_2, n_3, n_4, List.append_nil, pk, n_5, n_6] at F)
    refine l_op 0 rfl rfl rfl rfl rfl ?_
    refine l_op 2 rfl rfl rfl rfl rfl ?_
    refine l_op 2 rfl rfl rfl rfl rfl ?_
    refine l_op 2 rfl rfl rfl rfl rfl ?_
    refine l_op 0 rfl rfl rfl rfl rfl ?_
    refine l_op 0 rfl rfl rfl rfl rfl ?_
    refine l_op 0 rfl rfl rfl rfl rfl ?_
    refine l_nil (WK.nx (by assumption) ?_)
    refine SeqK.nx (by assumption) ?_
    refine k_seq (fun Q K => ?_)
    refine k_seq (fun Q K => ?_)
    refine k_lin (fun W K => ?_)
    refine l_op 0 rfl rfl rfl rfl rfl ?_
    refine l_cmp rfl rfl rfl rfl ?_
    refine l_nil (WK.nx (by assumption) ?_)
    refine SeqK.nx (by assumption) ?_
    refine l_cond rfl rfl (fun hc4 => ?_) (fun hc4 => ?_)
    · first | replace hc4 := bne_iff_ne.1 ((irr_eq _).symm.trans hc4) | simp only [irr_eq, bne_iff_ne, bne_eq_false_iff_eq, ne_eq, decide_eq_true_eq, decide_eq_false_iff_not, Bool.not_eq_true', Bool.not_eq_false'] at hc4
      have hg : gameR bs = ((readR bs).1, (readR bs).2.1, []) := by unfold gameR; rw [if_neg g1, if_neg g2, if_neg (not_not_intro g3), if_pos hc4]
      refine k_seq (fun Q K => ?_)
      refine k_lin (fun W K => ?_)
      refine l_op 0 rfl rfl rfl rfl rfl ?_
      refine l_op 0 rfl rfl rfl rfl rfl ?_
      refine l_op 0 rfl rfl rfl rfl rfl ?_
      refine l_op 0 rfl rfl rfl rfl rfl ?_
      refine l_op 0 rfl rfl rfl rfl rfl ?_
      refine l_nil (WK.nx (by assumption) ?_)
      refine SeqK.nx (by assumption) ?_
      refine k_ret ?_
      refine SeqK.rt (by assumption) ?_
      refine BlkK.rt (by assumption) ?_
      refine SeqK.rt (by assumption) ?_
      refine FunK.rt (by assumption) rfl ?_
      -- leaf 3
      first
      | (exact gam_bad (F.pick [] (by decide)) hg)
      | (refine ⟨(yc.1, l, yc.2, bs), ?_, F, ?_⟩
         · rw [gamV, hg0, ← hbl]; rfl
         · rw [GamP, hg0]; exact ⟨rfl, by dsimp only; omega⟩)
      | (refine ⟨((rs.getD i.toNat default).x, (rs.getD i.toNat default).l, (rs.getD i.toNat default).c, (rs.getD i.toNat default).d), ?_, Facts.ofM F 0 rfl (List.mem_map_of_mem hmem), ?_⟩
         · rw [gamV, hgo, ← hbl]; rfl
         · rw [GamP, hgo]; exact ⟨rfl, (q2 _ hmem).2.1⟩)
    first | replace hc4 := bne_eq_false_iff_eq.1 ((irr_eq _).symm.trans hc4) | simp only [irr_eq, bne_iff_ne, bne_eq_false_iff_eq, ne_eq, decide_eq_true_eq, decide_eq_false_iff_not, Bool.not_eq_true', Bool.not_eq_false'] at hc4
    have hrl : rs.length = m := (F.has 1 rfl).len eR_len (by decide)
    have hml : m ≤ 600 := by
      have := readR_len bs
      rw [← q1, List.length_map] at this
      omega
    have hgf : gameR bs = exR bs.length ((rs.map plR).find? isEx) := by unfold gameR; rw [if_neg g1, if_neg g2, if_neg (not_not_intro g3), if_neg (not_not_intro hc4), ← q1]
    refine k_skip ?_
    refine SeqK.nx (by assumption) ?_
    refine k_seq (fun Q K => ?_)
    refine k_seq (fun Q K => ?_)
    refine k_lin (fun W K => ?_)
    refine l_op 0 rfl rfl rfl rfl rfl ?_
    first | refine l_op 2 rfl rfl rfl rfl rfl ?_ | refine l_ln rfl rfl rfl rfl ?_
    refine l_op 0 rfl rfl rfl rfl rfl ?_
    refine l_nil (WK.nx (by assumption) ?_)
    refine SeqK.nx (by assumption) ?_
    refine k_block (fun Q K => ?_)
    refine k_loop (α := Int) (fun i s => Facts E0 σ s [many (rs.map dR), own x m d 4 (rows eR rs)] ∧ 0 ≤ i ∧ i ≤ m ∧ ∀ j : Nat, (j : Int) < i → isEx (plR (rs.getD j default)) = false) (fun i => [(0, .slice a l c), (34, .slice x m d), (35, .int .i64 m), (36, .int .i64 i)]) (fun i => (m - i).toNat) 0 ⟨F, by omega, by omega, fun j hj => by omega⟩ (by repeat (first | exact trivial | refine And.intro rfl ?_)) ?_
    clear F
    rintro i env s Q K0 ⟨F, i0, i1, hj⟩
    refine k_seq (fun Q K => ?_)
    refine k_lin (fun W K => ?_)
    refine l_cmp rfl rfl rfl rfl ?_
    refine l_nil (WK.nx (by assumption) ?_)
    refine SeqK.nx (by assumption) ?_
    refine k_seq (fun Q K => ?_)
    refine l_cond rfl rfl (fun hc5 => ?_) (fun hc5 => ?_)
    · replace hc5 := of_decide_eq_true ((irr_eq _).symm.trans hc5)
      refine k_skip ?_
      refine SeqK.nx (by assumption) ?_
      refine k_seq (fun Q K => ?_)
      refine k_block (fun Q K => ?_)
      refine k_seq (fun Q K => ?_)
      refine k_lin (fun W K => ?_)
      refine l_ixr (e := eR) rfl rfl rfl rfl rfl rfl (F.has 1 rfl) ⟨eR_len, by decide⟩ (by omega) (fun m38 b38 hA38 => ?_)
      have hmem := memR (ts := rs) (i := i.toNat) (by omega)
      refine l_lda rfl rfl rfl rfl rfl (by assumption) ?_
      refine l_al F rfl rfl rfl rfl (fun q9 s F => ?_)
      (try dsimp only [n_1, n_2, n_3, n_4, List.append_nil, pk, n_5, n_6] at F)
      refine l_stca F 2 rfl rfl rfl rfl rfl rfl rfl rfl rfl rfl hD rfl (fun s F => ?_)
      (try dsimp only [n_1, n_2, n_3, n_4, List.append_nil, pk, n_5, n_6] at F)
      refine l_nil (WK.nx (by assumption) ?_)
      refine SeqK.nx (by assumption) ?_
      refine k_seq (fun Q K => ?_)
      refine k_lin (fun W K => ?_)
      refine l_op 2 rfl rfl rfl rfl rfl ?_
      refine l_ldc F 2 rfl rfl rfl rfl rfl rfl rfl ?_
      refine l_cmp rfl rfl rfl rfl ?_
      refine l_op 0 rfl rfl rfl rfl rfl ?_
      refine l_guard rfl rfl rfl (fun hc6 => ?_) (fun hc6 => ?_)
      · first | replace hc6 := eq_of_beq ((irr_eq _).symm.trans hc6) | simp only [irr_eq, beq_iff_eq, beq_eq_false_iff_ne, ne_eq, decide_eq_true_eq, decide_eq_false_iff_not] at hc6
        have v1 : ltr (rs.getD i.toNat default).us = execB := (sneq_iff execB_b execB_s).1 (beq_iff_eq.2 hc6)
        refine l_op 2 rfl rfl rfl rfl rfl ?_
        refine l_ldc F 2 rfl rfl rfl rfl rfl rfl rfl ?_
        refine l_cmp rfl rfl rfl rfl ?_
        refine l_op 2 rfl rfl rfl rfl rfl ?_
        refine l_op 0 rfl rfl rfl rfl rfl ?_
        refine l_guard rfl rfl rfl (fun hc7 => ?_) (fun hc7 => ?_)
        · first | replace hc7 := eq_of_beq ((irr_eq _).symm.trans hc7) | simp only [irr_eq, beq_iff_eq, beq_eq_false_iff_ne, ne_eq, decide_eq_true_eq, decide_eq_false_iff_not] at hc7
          refine l_op 2 rfl rfl rfl rfl rfl ?_
          refine l_ldc F 2 rfl rfl rfl rfl rfl rfl rfl ?_
          refine l_cmp rfl rfl rfl rfl ?_
          refine l_op 2 rfl rfl rfl rfl rfl ?_
          refine l_nil (WK.nx (by assumption) ?_)
          refine SeqK.nx (by assumption) ?_
          refine l_cond rfl rfl (fun hc8 => ?_) (fun hc8 => ?_)
          · first | replace hc8 := eq_of_beq ((irr_eq _).symm.trans hc8) | simp only [irr_eq, beq_iff_eq, beq_eq_false_iff_ne, ne_eq, decide_eq_true_eq, decide_eq_false_iff_not] at hc8
            have v2 : ltr (rs.getD i.toNat default).id = gluLB := (sneq_iff gluLB_b gluLB_s).1 (beq_iff_eq.2 hc8)
            have hgo : gameR bs = (0, (bs.length : Int), (rs.getD i.toNat default).d) := by
              have : (rs.map plR).find? isEx = some (plR (rs.getD i.toNat default)) := find_at (getPR (by omega)) (by unfold isEx; exact decide_eq_true ⟨v1, by assumption, v2⟩) fun j y hji hy => by
                rw [getPR (by omega)] at hy
                injection hy with hy
                rw [← hy]; exact hj j (by omega)
              rw [hgf, this]; rfl
            refine k_seq (fun Q K => ?_)
            refine k_lin (fun W K => ?_)
            refine l_op 2 rfl rfl rfl rfl rfl ?_
            refine l_ldc F 2 rfl rfl rfl rfl rfl rfl rfl ?_
            refine l_op 0 rfl rfl rfl rfl rfl ?_
            first | refine l_op 2 rfl rfl rfl rfl rfl ?_ | refine l_ln rfl rfl rfl rfl ?_
            refine l_op 0 rfl rfl rfl rfl rfl ?_
            refine l_op 0 rfl rfl rfl rfl rfl ?_
            refine l_op 0 rfl rfl rfl rfl rfl ?_
            refine l_nil (WK.nx (by assumption) ?_)
            refine SeqK.nx (by assumption) ?_
            refine k_ret ?_
            refine BlkK.rt (by assumption) ?_
            refine SeqK.rt (by assumption) ?_
            refine LoopK.rt (by assumption) ?_
            refine BlkK.rt (by assumption) ?_
            refine SeqK.rt (by assumption) ?_
            refine BlkK.rt (by assumption) ?_
            refine SeqK.rt (by assumption) ?_
            refine FunK.rt (by assumption) rfl ?_
            -- leaf 4
            first
            | (exact gam_bad (F.pick [] (by decide)) hg)
            | (refine ⟨(yc.1, l, yc.2, bs), ?_, F, ?_⟩
               · rw [gamV, hg0, ← hbl]; rfl
               · rw [GamP, hg0]; exact ⟨rfl, by dsimp only; omega⟩)
            | (refine ⟨((rs.getD i.toNat default).x, (rs.getD i.toNat default).l, (rs.getD i.toNat default).c, (rs.getD i.toNat default).d), ?_, Facts.ofM F 0 rfl (List.mem_map_of_mem hmem), ?_⟩
               · rw [gamV, hgo, ← hbl]; rfl
               · rw [GamP, hgo]; exact ⟨rfl, (q2 _ hmem).2.1⟩)
          first | replace hc8 := ne_of_beq_false ((irr_eq _).symm.trans hc8) | simp only [irr_eq, beq_iff_eq, beq_eq_false_iff_ne, ne_eq, decide_eq_true_eq, decide_eq_false_iff_not] at hc8
          refine k_skip ?_
          refine BlkK.nx (by assumption) ?_
          refine SeqK.nx (by assumption) ?_
          refine k_lin (fun W K => ?_)
          refine l_a64 rfl rfl rfl (by omega) rfl ?_
          refine l_op 0 rfl rfl rfl rfl rfl ?_
          refine l_nil (WK.nx (by assumption) ?_)
          refine K0.nx (i + 1) (by repeat (first | exact trivial | refine And.intro rfl ?_)) ⟨F.pick [0, 1] (by decide), by omega, by omega, fun j hji => ?_⟩ (by first | omega | (simp only; omega))
          by_cases e : (j : Int) = i
          · rw [show j = i.toNat by omega]
            refine decide_eq_false ?_
            rintro ⟨z1, z2, z3⟩
            first
              | exact (by assumption : (rs.getD i.toNat default).us.toList ≠ _) (beq_iff_eq.1 ((sneq_iff execB_b execB_s).2 z1))
              | exact (by assumption : (rs.getD i.toNat default).id.toList ≠ _) (beq_iff_eq.1 ((sneq_iff gluLB_b gluLB_s).2 z3))
              | exact absurd z2 (by assumption)
          · exact hj j (by omega)
        first | replace hc7 := ne_of_beq_false ((irr_eq _).symm.trans hc7) | simp only [irr_eq, beq_iff_eq, beq_eq_false_iff_ne, ne_eq, decide_eq_true_eq, decide_eq_false_iff_not] at hc7
        refine l_s rfl rfl ?_
        refine l_s rfl rfl ?_
        refine l_s rfl rfl ?_
        refine l_op 2 rfl rfl rfl rfl rfl ?_
        refine l_nil (WK.nx (by assumption) ?_)
        refine SeqK.nx (by assumption) ?_
        first | refine e_cond_f rfl rfl rfl ?_ | refine e_cond_f rfl rfl (by rw [irr_eq]; first | exact beq_eq_false_iff_ne.2 (by assumption) | exact decide_eq_false (by assumption) | exact bne_eq_false_iff_eq.2 (by assumption)) ?_
        refine k_skip ?_
        refine BlkK.nx (by assumption) ?_
        refine SeqK.nx (by assumption) ?_
        refine k_lin (fun W K => ?_)
        refine l_a64 rfl rfl rfl (by omega) rfl ?_
        refine l_op 0 rfl rfl rfl rfl rfl ?_
        refine l_nil (WK.nx (by assumption) ?_)
        refine K0.nx (i + 1) (by repeat (first | exact trivial | refine And.intro rfl ?_)) ⟨F.pick [0, 1] (by decide), by omega, by omega, fun j hji => ?_⟩ (by first | omega | (simp only; omega))
        by_cases e : (j : Int) = i
        · rw [show j = i.toNat by omega]
          refine decide_eq_false ?_
          rintro ⟨z1, z2, z3⟩
          first
            | exact (by assumption : (rs.getD i.toNat default).us.toList ≠ _) (beq_iff_eq.1 ((sneq_iff execB_b execB_s).2 z1))
            | exact (by assumption : (rs.getD i.toNat default).id.toList ≠ _) (beq_iff_eq.1 ((sneq_iff gluLB_b gluLB_s).2 z3))
            | exact absurd z2 (by assumption)
        · exact hj j (by omega)
      first | replace hc6 := ne_of_beq_false ((irr_eq _).symm.trans hc6) | simp only [irr_eq, beq_iff_eq, beq_eq_false_iff_ne, ne_eq, decide_eq_true_eq, decide_eq_false_iff_not] at hc6
      refine l_s rfl rfl ?_
      refine l_s rfl rfl ?_
      refine l_s rfl rfl ?_
      refine l_op 2 rfl rfl rfl rfl rfl ?_
      refine l_op 0 rfl rfl rfl rfl rfl ?_
      refine l_s rfl rfl ?_
      refine l_s rfl rfl ?_
      refine l_s rfl rfl ?_
      refine l_op 2 rfl rfl rfl rfl rfl ?_
      refine l_nil (WK.nx (by assumption) ?_)
      refine SeqK.nx (by assumption) ?_
      first | refine e_cond_f rfl rfl rfl ?_ | refine e_cond_f rfl rfl (by rw [irr_eq]; first | exact beq_eq_false_iff_ne.2 (by assumption) | exact decide_eq_false (by assumption) | exact bne_eq_false_iff_eq.2 (by assumption)) ?_
      refine k_skip ?_
      refine BlkK.nx (by assumption) ?_
      refine SeqK.nx (by assumption) ?_
      refine k_lin (fun W K => ?_)
      refine l_a64 rfl rfl rfl (by omega) rfl ?_
      refine l_op 0 rfl rfl rfl rfl rfl ?_
      refine l_nil (WK.nx (by assumption) ?_)
      refine K0.nx (i + 1) (by repeat (first | exact trivial | refine And.intro rfl ?_)) ⟨F.pick [0, 1] (by decide), by omega, by omega, fun j hji => ?_⟩ (by first | omega | (simp only; omega))
      by_cases e : (j : Int) = i
      · rw [show j = i.toNat by omega]
        refine decide_eq_false ?_
        rintro ⟨z1, z2, z3⟩
        first
          | exact (by assumption : (rs.getD i.toNat default).us.toList ≠ _) (beq_iff_eq.1 ((sneq_iff execB_b execB_s).2 z1))
          | exact (by assumption : (rs.getD i.toNat default).id.toList ≠ _) (beq_iff_eq.1 ((sneq_iff gluLB_b gluLB_s).2 z3))
          | exact absurd z2 (by assumption)
      · exact hj j (by omega)
    replace hc5 := of_decide_eq_false ((irr_eq _).symm.trans hc5)
    have hg : gameR bs = (62, 12, []) := by
      have : (rs.map plR).find? isEx = none := find_no fun j y hy => by
        by_cases hjl : j < rs.length
        · rw [getPR hjl] at hy
          injection hy with hy
          rw [← hy]; exact hj j (by omega)
        · rw [List.getElem?_eq_none (by rw [List.length_map]; omega)] at hy; cases hy
      rw [hgf, this]; rfl
    refine k_exit ?_
    refine SeqK.et (by assumption) ?_
    refine LoopK.et (by assumption) ?_
    refine BlkK.et (by assumption) ?_
    refine SeqK.nx (by assumption) ?_
    refine k_seq (fun Q K => ?_)
    refine k_lin (fun W K => ?_)
    refine l_op 0 rfl rfl rfl rfl rfl ?_
    refine l_op 0 rfl rfl rfl rfl rfl ?_
    refine l_op 0 rfl rfl rfl rfl rfl ?_
    refine l_nil (WK.nx (by assumption) ?_)
    refine SeqK.nx (by assumption) ?_
    refine k_ret ?_
    refine BlkK.rt (by assumption) ?_
    refine SeqK.rt (by assumption) ?_
    refine FunK.rt (by assumption) rfl ?_
    -- leaf 5
    first
    | (exact gam_bad (F.pick [] (by decide)) hg)
    | (refine ⟨(yc.1, l, yc.2, bs), ?_, F, ?_⟩
       · rw [gamV, hg0, ← hbl]; rfl
       · rw [GamP, hg0]; exact ⟨rfl, by dsimp only; omega⟩)
    | (refine ⟨((rs.getD i.toNat default).x, (rs.getD i.toNat default).l, (rs.getD i.toNat default).c, (rs.getD i.toNat default).d), ?_, Facts.ofM F 0 rfl (List.mem_map_of_mem hmem), ?_⟩
       · rw [gamV, hgo, ← hbl]; rfl
       · rw [GamP, hgo]; exact ⟨rfl, (q2 _ hmem).2.1⟩)
  first | replace hc3 := ne_of_beq_false ((irr_eq _).symm.trans hc3) | simp only [irr_eq, beq_iff_eq, beq_eq_false_iff_ne, ne_eq, decide_eq_true_eq, decide_eq_false_iff_not] at hc3
  have g3 : ¬ bs.take 4 = formB := fun q => hc3 (by rw [← formB_s]; exact beq_iff_eq.1 ((sbeq_str (hB.take _) formB_b).2 q))
  have hg : gameR bs = (63, 0, []) := by unfold gameR; rw [if_neg g1, if_neg g2, if_pos g3]
  refine k_skip ?_
  refine BlkK.nx (by assumption) ?_
  refine SeqK.nx (by assumption) ?_
  refine k_seq (fun Q K => ?_)
  refine k_lin (fun W K => ?_)
  refine l_op 0 rfl rfl rfl rfl rfl ?_
  refine l_op 0 rfl rfl rfl rfl rfl ?_
  refine l_op 0 rfl rfl rfl rfl rfl ?_
  refine l_nil (WK.nx (by assumption) ?_)
  refine SeqK.nx (by assumption) ?_
  refine k_ret ?_
  refine FunK.rt (by assumption) rfl ?_
  -- leaf 6
  first
  | (exact gam_bad (F.pick [] (by decide)) hg)
  | (refine ⟨(yc.1, l, yc.2, bs), ?_, F, ?_⟩
     · rw [gamV, hg0, ← hbl]; rfl
     · rw [GamP, hg0]; exact ⟨rfl, by dsimp only; omega⟩)
  | (refine ⟨((rs.getD i.toNat default).x, (rs.getD i.toNat default).l, (rs.getD i.toNat default).c, (rs.getD i.toNat default).d), ?_, Facts.ofM F 0 rfl (List.mem_map_of_mem hmem), ?_⟩
     · rw [gamV, hgo, ← hbl]; rfl
     · rw [GamP, hgo]; exact ⟨rfl, (q2 _ hmem).2.1⟩)

end Go.Proofs.Ytkmkbpnlccomnaa
