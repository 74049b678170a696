/- What is laid is read as it was; a container that is cut is none; the game in a container: in plain numbers. No statement of the seat is proved in this text. -/
import Derived.Test.YtkmkbpnlccomnaaBlO
set_option linter.unusedVariables false
set_option linter.unusedSimpArgs false
set_option maxRecDepth 100000
set_option maxHeartbeats 8000000
namespace Go.Proofs.Ytkmkbpnlccomnaa
open GAb Go

/-- Resources that can be laid. -/
structure Good (ts : List RS) : Prop where
  ids : IdsR ts
  len : ts.length ≤ 512
  dup : ¬ DupN ts ts.length
  dl : ∀ t ∈ ts, t.d.length = t.l
  bd : ∀ t ∈ ts, t.l ≤ 2000000
  nm : ∀ t ∈ ts, U32 t.nm
  sz : 12 + sizeK (cksR ts) ≤ 4194304
  su : sumR ts ≤ 900000
abbrev layB (ts : List RS) : List Int := bldR kindBA (cksR ts)
theorem kindBA_l : ltr kindBA = kindB := by decide
theorem ridxBA_l : ltr ridxBA = ridxB := by decide
theorem plcP_inj {l : CL} {i j : Nat} (hi : i ≤ l.length) (hj : j ≤ l.length) (h : plcP l i = plcP l j) : i = j := by
  unfold plcP at h
  rcases Nat.lt_trichotomy i j with q | q | q
  · have := lenP_lt q hj; omega
  · exact q
  · have := lenP_lt q hi; omega
theorem findC_at {l : CL} {j : Nat} : ∀ {n : Nat}, j < n → n ≤ l.length → findC l n (plcP l j) = j
  | 0, h, _ => by omega
  | n + 1, h, hn => by
    rw [findC_succ (by omega)]
    by_cases e : n = j
    · subst e; rw [if_pos rfl]
    · rw [if_neg (fun q => e (plcP_inj (by omega) (by omega) q))]
      exact findC_at (by omega) (by omega)
theorem entsD_split {ts : List RS} {i : Nat} : ∀ {n : Nat}, i < n → ∃ E, entsD ts n = entsD ts i ++ (entD ts i ++ E)
  | 0, h => by omega
  | n + 1, h => by
    by_cases e : n = i
    · subst e; exact ⟨[], by rw [entsD_succ, List.append_nil]⟩
    · obtain ⟨E, hE⟩ := entsD_split (ts := ts) (i := i) (n := n) (by omega)
      exact ⟨E ++ entD ts n, by rw [entsD_succ, hE]; simp only [List.append_assoc]⟩
/-- The i-th entry's place in a container. -/
theorem lay_at {ts : List RS} (hids : IdsR ts) {i : Nat} (hi : i < ts.length) : ∃ A Z, layB ts = A ++ (ltr (ts.getD i default).us ++ (putR (ts.getD i default).nm 4 ++ (putR (plcR ts i) 4 ++ Z))) ∧ A.length = 24 + 12 * i := by
  obtain ⟨E, hE⟩ := entsD_split (ts := ts) (i := i) hi
  have hlen := entsD_len hids (n := i) (by omega)
  refine ⟨[70, 79, 82, 77] ++ putR (sizeK (cksR ts) + 4) 4 ++ ltr kindBA ++ ltr ridxBA ++ putR (idxD ts).length 4 ++ putR ts.length 4 ++ entsD ts i, E ++ ((if ((idxD ts).length : Int) % 2 = 1 then [0] else []) ++ (ts.map toK).flatMap bldC), ?_, ?_⟩
  · have h2 : idxD ts = putR ts.length 4 ++ (entsD ts i ++ (ltr (ts.getD i default).us ++ (putR (ts.getD i default).nm 4 ++ (putR (plcR ts i) 4 ++ E)))) := by
      unfold idxD; rw [hE]; unfold entD; simp only [List.append_assoc]
    have h3 : (cksR ts).flatMap bldC = ltr ridxBA ++ (putR (idxD ts).length 4 ++ (idxD ts ++ (if ((idxD ts).length : Int) % 2 = 1 then [0] else []))) ++ (ts.map toK).flatMap bldC := by
      unfold cksR; rw [List.flatMap_cons]; rfl
    unfold layB bldR
    rw [h3]
    generalize (if ((idxD ts).length : Int) % 2 = 1 then [0] else [] : List Int) = pad
    generalize putR (((idxD ts).length : Nat) : Int) 4 = q
    rw [h2]
    simp only [List.append_assoc]
  · simp only [List.length_append, put4_len, hlen, kindBA_l, ridxBA_l]
    simp only [kindB, ridxB, List.length_cons, List.length_nil]
    try omega
theorem ent_at {ts : List RS} (g : Good ts) {i : Nat} (hi : i < ts.length) : entU (layB ts) i = ltr (ts.getD i default).us ∧ entX (layB ts) i = (ts.getD i default).nm ∧ be (layB ts) (24 + 12 * (i : Int) + 8).toNat 4 = plcR ts i := by
  obtain ⟨A, Z, hA, hl⟩ := lay_at g.ids hi
  have hmem := memR hi
  have h4 := (idR_iff.1 (g.ids _ hmem).1).1
  obtain ⟨n0, n1⟩ := g.nm _ hmem
  have hpb := plcR_bd (ts := ts) i g.su (by have := g.len; omega)
  have e0 : (24 + 12 * (i : Int)).toNat = A.length := by omega
  have e1 : (24 + 12 * (i : Int) + 4).toNat = (A ++ ltr (ts.getD i default).us).length := by rw [List.length_append]; omega
  have e2 : (24 + 12 * (i : Int) + 8).toNat = (A ++ ltr (ts.getD i default).us ++ putR (ts.getD i default).nm 4).length := by rw [List.length_append, List.length_append, put4_len]; omega
  refine ⟨?_, ?_, ?_⟩
  · show cutB (layB ts) (24 + 12 * (i : Int)).toNat 4 = _
    rw [e0, hA, ← h4, cut_mid]
  · show be (layB ts) (24 + 12 * (i : Int) + 4).toNat 4 = _
    rw [e1, hA, ← List.append_assoc, show (4 : Nat) = (4 : Int).toNat from rfl, be_put _ _ _ 4 (by decide)]
    exact Int.emod_eq_of_lt (by omega) (by show (ts.getD i default).nm < 256 ^ 4; omega)
  · rw [e2, hA, ← List.append_assoc, ← List.append_assoc, show (4 : Nat) = (4 : Int).toNat from rfl, be_put _ _ _ 4 (by decide)]
    exact Int.emod_eq_of_lt (by omega) (by show plcR ts i < 256 ^ 4; omega)
theorem good_c {ts : List RS} (g : Good ts) : ∀ t ∈ cksR ts, GoodC t := by
  intro t ht
  rcases List.mem_cons.1 ht with rfl | ht
  · exact ⟨(show idR (ltr ridxBA) = true by decide), rfl, by have := idxD_len g.ids; have := g.len; show (idxD ts).length ≤ _; omega⟩
  · obtain ⟨r, hr, rfl⟩ := List.mem_map.1 ht
    exact ⟨(g.ids r hr).2, g.dl r hr, by have := g.bd r hr; show r.l ≤ _; omega⟩
theorem lay_parse {ts : List RS} (g : Good ts) : parseR (layB ts) = (0, ((layB ts).length : Int), kindB, (cksR ts).map plK) := by
  have := back (kind := kindBA) (ts := cksR ts) (by decide) (good_c g) (by unfold cksR; rw [List.length_cons, List.length_map]; have := g.len; omega) g.sz
  rw [kindBA_l] at this
  exact this
theorem lay_idx {ts : List RS} (g : Good ts) : idxR ((cksR ts).map plK) = ((ts.length : Int), 0) := by
  have h0 : ((cksR ts).map plK).getD 0 default = (ltr ridxBA, idxD ts) := rfl
  have hl := idxD_len g.ids
  have hn := g.len
  have hb : be (idxD ts) 0 4 = ts.length := by
    have := be_put [] (entsD ts ts.length) (ts.length : Int) 4 (by decide)
    exact this.trans (Int.emod_eq_of_lt (by omega) (by show (ts.length : Int) < 256 ^ 4; omega))
  unfold idxR
  rw [h0]
  rw [if_neg, if_neg, hb, if_neg]
  · omega
  · show ¬ (((idxD ts).length : Int) < 4 ∨ ((idxD ts).length : Int) ≠ 4 + 12 * be (idxD ts) 0 4)
    rw [hb]; omega
  · rintro (q | q)
    · unfold cksR at q; simp at q
    · exact q ridxBA_l
theorem lay_go {ts : List RS} (g : Good ts) : ∀ {k i : Nat}, i ≤ ts.length → ts.length < k + i → goE (layB ts) ((cksR ts).map plK) ts.length k i ((ts.take i).map plR) = (0, ((layB ts).length : Int), ts.map plR)
  | 0, i, h1, h2 => by omega
  | k + 1, i, h1, h2 => by
    by_cases hi : i < ts.length
    · obtain ⟨u1, u2, u3⟩ := ent_at g hi
      have hmem := memR hi
      have hpl : plcP ((cksR ts).map plK) (i + 1) = plcR ts i := plc_at g.dl (by show ((idxD ts).length : Int) = _; rw [idxD_len g.ids]; omega)
      have hlen : ((cksR ts).map plK).length = ts.length + 1 := by unfold cksR; simp
      have hC : entC (layB ts) ((cksR ts).map plK) i = ((i + 1 : Nat) : Int) := by
        show findC _ _ (be _ _ 4) = _
        rw [u3, ← hpl]
        exact findC_at (by omega) (Nat.le_refl _)
      have hget : ((cksR ts).map plK).getD (i + 1) default = (ltr (ts.getD i default).id, (ts.getD i default).d) := by
        unfold cksR
        simp [List.getD, hi]
      have hV : entV (layB ts) ((cksR ts).map plK) i = plR (ts.getD i default) := by
        unfold entV
        rw [u1, u2, hC, show ((i + 1 : Nat) : Int).toNat = i + 1 by omega, hget]
      rw [goE_eq (by omega), if_pos (by omega), if_neg (by rw [u1, (g.ids _ hmem).1]; decide), if_neg, if_neg (by rw [hC]; omega), hV]
      · have := lay_go g (k := k) (i := i + 1) hi (by omega)
        rw [take_oneR hi, List.map_append] at this
        exact this
      · rw [u1, u2]
        rintro ⟨r, hr, z1, z2⟩
        obtain ⟨t, ht, rfl⟩ := List.mem_map.1 hr
        obtain ⟨j, hj, rfl⟩ := List.mem_iff_getElem.1 ht
        rw [List.length_take] at hj
        have e : (ts.take i)[j] = ts.getD j default := by simp [List.getD, show j < ts.length by omega]
        rw [e] at z1 z2
        exact g.dup ⟨j, i, by omega, hi, ltr_inj z1, z2⟩
    · rw [goE_eq (by omega), if_neg (by omega), List.take_of_length_le (by omega)]
theorem lay_read {ts : List RS} (g : Good ts) : readR (layB ts) = (0, ((layB ts).length : Int), ts.map plR) := by
  have hn := g.len
  have := lay_go g (k := 600) (i := 0) (Nat.zero_le _) (by omega)
  unfold readR
  rw [lay_parse g, if_neg (not_not_intro rfl), if_neg (not_not_intro rfl), lay_idx g, if_neg (not_not_intro rfl)]
  exact this
theorem lay_len {ts : List RS} (g : Good ts) : ((layB ts).length : Int) = 12 + sizeK (cksR ts) := bldR_len (by decide) (good_c g)
theorem lay_form (ts : List RS) : (layB ts).take 4 = formB := rfl
theorem lay_be {ts : List RS} (g : Good ts) : be (layB ts) 4 4 = (layB ts).length - 8 := by
  have h0 := (sizeK_bd (cksR ts)).1
  have := be_put [70, 79, 82, 77] (ltr kindBA ++ (cksR ts).flatMap bldC) (sizeK (cksR ts) + 4) 4 (by decide)
  have e : layB ts = [70, 79, 82, 77] ++ (putR (sizeK (cksR ts) + 4) 4 ++ (ltr kindBA ++ (cksR ts).flatMap bldC)) := by unfold layB bldR; simp only [List.append_assoc]
  rw [← e] at this
  have hs := g.sz
  rw [lay_len g]
  refine Eq.trans this ((Int.emod_eq_of_lt (by omega) (by show sizeK (cksR ts) + 4 < 256 ^ 4; omega)).trans ?_)
  omega
/-- Cut. -/
theorem cut_read {ts : List RS} (g : Good ts) {k : Nat} (hk : k < (layB ts).length) : (readR ((layB ts).take k)).1 ≠ 0 ∧ (readR ((layB ts).take k)).2.2 = [] := by
  have hl : ((layB ts).take k).length = k := by rw [List.length_take]; omega
  have hL := lay_len g
  have hs := g.sz
  have hh : (headR ((layB ts).take k)).1 ≠ 0 := by
    unfold headR
    rw [hl, if_neg (by omega), if_neg ?_]
    · split
      · show (2 : Int) ≠ 0
        decide
      · rename_i h12
        have hb : be ((layB ts).take k) 4 4 = (layB ts).length - 8 := by
          rw [← lay_be g]
          simp only [be, List.getD, List.getElem?_take, show 4 + 3 < k by omega, show 4 + 2 < k by omega, show 4 + 1 < k by omega, show 4 + 0 < k by omega, if_true]
        rw [if_pos (by rw [hb]; omega)]
        decide
    · refine not_not_intro ?_
      have h4 := congrArg (List.take (min k 4)) (lay_form ts)
      rw [List.take_take, Nat.min_eq_left (by omega)] at h4
      rw [List.take_take, Nat.min_eq_left (by omega)]
      exact h4
  have hp : (parseR ((layB ts).take k)).1 ≠ 0 := by unfold parseR; rw [if_pos hh]; exact hh
  unfold readR
  rw [if_pos hp]
  exact ⟨hp, rfl⟩
theorem cut_game {ts : List RS} (g : Good ts) {k : Nat} (hk : k < (layB ts).length) : (gameR ((layB ts).take k)).2.2 = [] ∧ (k < 4 → (gameR ((layB ts).take k)).1 = 63) ∧ (4 ≤ k → (gameR ((layB ts).take k)).1 = (readR ((layB ts).take k)).1) := by
  have hl : ((layB ts).take k).length = k := by rw [List.length_take]; omega
  have hr := cut_read g hk
  unfold gameR
  rw [hl]
  by_cases h4 : k < 4
  · rw [if_pos (by omega)]; exact ⟨rfl, fun _ => rfl, fun q => by omega⟩
  · have e4 : ((layB ts).take k).take 4 = formB := by rw [List.take_take, Nat.min_eq_left (by omega)]; exact lay_form ts
    rw [if_neg (by omega), e4, if_neg (by decide), if_neg (not_not_intro rfl), if_pos hr.1]
    exact ⟨rfl, fun q => by omega, fun _ => rfl⟩
/-- The game in a container. -/
theorem lay_game {ts : List RS} (g : Good ts) {i : Nat} (hi : i < ts.length) (hu : (ts.getD i default).us = exBA) (hn : (ts.getD i default).nm = 0) (hd : (ts.getD i default).id = glBA) : gameR (layB ts) = (0, ((layB ts).length : Int), (ts.getD i default).d) := by
  have hL := lay_len g
  have h0 := (sizeK_bd (cksR ts)).1
  have hex : ∀ r : RS, isEx (plR r) = true ↔ (ltr r.us = execB ∧ r.nm = 0 ∧ ltr r.id = gluLB) := fun r => by unfold isEx; exact decide_eq_true_iff
  have hf : (ts.map plR).find? isEx = some (plR (ts.getD i default)) := find_at (getPR hi) ((hex _).2 ⟨by rw [hu]; decide, hn, by rw [hd]; decide⟩) fun j y hji hy => by
    rw [getPR (by omega)] at hy
    injection hy with hy
    rw [← hy, ← Bool.not_eq_true, hex]
    rintro ⟨z1, z2, _⟩
    refine g.dup ⟨j, i, hji, hi, ltr_inj (z1.trans ?_), z2.trans hn.symm⟩
    rw [hu]; decide
  unfold gameR
  rw [if_neg (by omega), lay_form, if_neg (by decide), if_neg (not_not_intro rfl), lay_read g, if_neg (not_not_intro rfl), hf]
  rfl

end Go.Proofs.Ytkmkbpnlccomnaa
namespace Go.Proofs.Ytkmkbpnlccomnaa
open GAb Go

theorem bytes_layB {ts : List RS} (h : ∀ t ∈ ts, Bytes t.d) : Bytes (layB ts) := by
  refine bytes_bldR fun t ht => ?_
  rcases List.mem_cons.1 ht with rfl | ht
  · exact bytes_idxD ts
  · obtain ⟨r, hr, rfl⟩ := List.mem_map.1 ht
    exact h r hr
/-- What a Lay tells. -/
theorem lay_told {ts : List RS} {e : Int} {n : Nat} {bs : List Int} (h : LayP ts e n bs) (hd : ∀ t ∈ ts, t.d.length = t.l) (hs : sumR ts ≤ 900000) (hu : ∀ t ∈ ts, U32 t.nm) :
    e ≠ 0 ∧ n = 0 ∧ 0 < ts.length ∨ e = 0 ∧ Good ts ∧ bs = layB ts := by
  have nz : ∀ {t}, t ∈ ts → 0 < ts.length := fun ht => List.length_pos_of_mem ht
  rcases h with ⟨h1, h2, h3⟩ | ⟨h1, ⟨h2, h3, h4⟩ | ⟨h2, ⟨h3, h4, h5⟩ | ⟨h3, h4⟩⟩⟩
  · refine .inl ⟨by omega, h2, ?_⟩
    cases ts with
    | nil => exact absurd (fun t ht => by cases ht) h3
    | cons t ts => exact Nat.succ_pos _
  · exact .inl ⟨by omega, h3, by omega⟩
  · obtain ⟨i, j, _, hj, _⟩ := h5
    exact .inl ⟨by omega, h4, by omega⟩
  · have hk : idR (ltr kindBA) = true := by decide
    have hi : IdsOK (cksR ts) := fun t ht => by
      rcases List.mem_cons.1 ht with rfl | ht
      · show idR (ltr ridxBA) = true
        decide
      · obtain ⟨r, hr, rfl⟩ := List.mem_map.1 ht
        exact (h1 r hr).2
    rcases h4 with ⟨a1, a2, a3⟩ | ⟨a1, a2, ⟨a3, a4, a5⟩ | ⟨a3, ⟨a4, a5, a6⟩ | ⟨a4, a5, a6⟩⟩⟩
    · exact absurd ⟨hk, hi⟩ a3
    · refine .inl ⟨by omega, a4, ?_⟩
      unfold cksR at a5
      rw [List.length_cons, List.length_map] at a5
      omega
    · refine .inl ⟨by omega, a5, ?_⟩
      rcases Nat.eq_zero_or_pos ts.length with q | q
      · have := List.eq_nil_of_length_eq_zero q
        subst this
        exact absurd a6 (by decide)
      · exact q
    · exact .inr ⟨a4, ⟨h1, h2, h3, hd, fun t ht => by have := sumR_mem ht; omega, hu, a5, hs⟩, a6⟩

theorem lay_small {ts : List RS} (g : Good ts) : 0 ≤ sizeK (cksR ts) ∧ sizeK (cksR ts) ≤ 20000 + sumR ts := by
  have h1 := sizeK_bd (cksR ts)
  have h2 : sumK (cksR ts) ≤ (idxD ts).length + 4 + sumR ts := by
    unfold cksR
    have := sumK_toK ts
    simp only [sumK]
    show ((idxD ts).length : Int) + (ridxBA.size : Int) + sumK (ts.map toK) ≤ _
    have : ridxBA.size = 4 := rfl
    omega
  have h3 := idxD_len g.ids
  have h4 := g.len
  have h5 : (cksR ts).length = ts.length + 1 := by unfold cksR; simp
  omega
theorem back6_law {σ : AState} {a : Option Addr} {l c : Nat} {ts : List RS} (h : OldR E0 σ a l c ts) :
    SCall Try.prog E0 6 [.slice a l c] σ (fun v _ => v = .bool true) := by
  have htl := h.len
  refine k_fun Try.func6 rfl (m := 53) rfl fun B hD Q K => ?_
  have F := Facts.nil E0 σ
  refine k_seq (fun Q K => ?_)
  refine k_lin (fun W K => ?_)
  refine l_op 0 rfl rfl rfl rfl rfl ?_
  refine l_nil (WK.nx (by assumption) ?_)
  refine SeqK.nx (by assumption) ?_
  refine k_seq (fun Q K => ?_)
  refine k_seq (fun Q K => ?_)
  refine k_lin (fun W K => ?_)
  refine l_op 0 rfl rfl rfl rfl rfl ?_
  refine l_callp F rfl rfl (by kernel_rfl) rfl rfl (huge6_call h (by omega)) (fun hu s F hhu => ?_)
  (try dsimp only [n_1, n_2, n_3, n_4, List.append_nil, pk, n_5, n_6] at F)
  refine l_nil (WK.nx (by assumption) ?_)
  refine SeqK.nx (by assumption) ?_
  refine l_cond rfl rfl (fun hc1 => ?_) (fun hc1 => ?_)
  · try simp only [irr_eq, beq_iff_eq, bne_iff_ne, beq_eq_false_iff_ne, bne_eq_false_iff_eq, ne_eq, decide_eq_true_eq, decide_eq_false_iff_not, Bool.not_eq_true', Bool.not_eq_false'] at hc1
    refine k_seq (fun Q K => ?_)
    refine k_lin (fun W K => ?_)
    refine l_callp F rfl rfl (by kernel_rfl) rfl rfl live6_call (fun _ s F _ => ?_)
    (try dsimp only [n_1, n_2, n_3, n_4, List.append_nil, pk, n_5, n_6] at F)
    refine l_op 0 rfl rfl rfl rfl rfl ?_
    refine l_nil (WK.nx (by assumption) ?_)
    refine SeqK.nx (by assumption) ?_
    refine k_ret ?_
    refine SeqK.rt (by assumption) ?_
    refine FunK.rt (by assumption) rfl ?_
    -- leaf 1
    first
    | rfl
    | (simp_all; done)
  try simp only [irr_eq, beq_iff_eq, bne_iff_ne, beq_eq_false_iff_ne, bne_eq_false_iff_eq, ne_eq, decide_eq_true_eq, decide_eq_false_iff_not, Bool.not_eq_true', Bool.not_eq_false'] at hc1
  obtain ⟨hb1, hb2⟩ := hhu hc1
  refine k_skip ?_
  refine SeqK.nx (by assumption) ?_
  refine k_seq (fun Q K => ?_)
  refine k_lin (fun W K => ?_)
  refine l_op 0 rfl rfl rfl rfl rfl ?_
  refine l_callp F rfl rfl (by kernel_rfl) rfl rfl (lay_call (h.to F) (by omega) (by omega)) (fun y s F hy => ?_)
  (try dsimp only [n_1, n_2, n_3, n_4, List.append_nil, pk, n_5, n_6] at F)
  obtain ⟨e, x, n, d, bs⟩ := y
  dsimp only at F hy ⊢
  have htold := lay_told hy (fun t ht => (h.dat t ht).len8) (by omega) h.nmb
  (try dsimp only [n_1, n_2, n_3, n_4, List.append_nil, pk, n_5, n_6] at F)
  refine l_op 0 rfl rfl rfl rfl rfl ?_
  refine l_op 2 rfl rfl rfl rfl rfl ?_
  refine l_op 2 rfl rfl rfl rfl rfl ?_
  refine l_op 0 rfl rfl rfl rfl rfl ?_
  refine l_op 0 rfl rfl rfl rfl rfl ?_
  refine l_nil (WK.nx (by assumption) ?_)
  refine SeqK.nx (by assumption) ?_
  refine k_seq (fun Q K => ?_)
  refine k_seq (fun Q K => ?_)
  refine k_lin (fun W K => ?_)
  refine l_op 0 rfl rfl rfl rfl rfl ?_
  refine l_callv rfl rfl (by kernel_rfl) rfl rfl num6_call ?_
  (try dsimp only [n_1, n_2, n_3, n_4, List.append_nil, pk, n_5, n_6] at F)
  refine l_cmp rfl rfl rfl rfl ?_
  refine l_nil (WK.nx (by assumption) ?_)
  refine SeqK.nx (by assumption) ?_
  refine l_cond rfl rfl (fun hc2 => ?_) (fun hc2 => ?_)
  · first | replace hc2 := bne_iff_ne.1 ((irr_eq _).symm.trans hc2) | simp only [irr_eq, bne_iff_ne, bne_eq_false_iff_eq, ne_eq, decide_eq_true_eq, decide_eq_false_iff_not, Bool.not_eq_true', Bool.not_eq_false'] at hc2
    obtain ⟨_, rfl, hpos⟩ : e ≠ 0 ∧ n = 0 ∧ 0 < ts.length := by
      rcases htold with q | ⟨q, _⟩
      · exact q
      · exact absurd q hc2
    refine k_seq (fun Q K => ?_)
    refine k_lin (fun W K => ?_)
    refine l_op 0 rfl rfl rfl rfl rfl ?_
    first | refine l_op 2 rfl rfl rfl rfl rfl ?_ | refine l_ln rfl rfl rfl rfl ?_
    refine l_cmp rfl rfl rfl rfl ?_
    refine l_op 0 rfl rfl rfl rfl rfl ?_
    refine l_guard rfl rfl rfl (fun hc3 => ?_) (fun hc3 => ?_)
    · first | replace hc3 := eq_of_beq ((irr_eq _).symm.trans hc3) | simp only [irr_eq, beq_iff_eq, beq_eq_false_iff_ne, ne_eq, decide_eq_true_eq, decide_eq_false_iff_not] at hc3
      refine l_op 0 rfl rfl rfl rfl rfl ?_
      first | refine l_op 2 rfl rfl rfl rfl rfl ?_ | refine l_ln rfl rfl rfl rfl ?_
      refine l_cmp rfl rfl rfl rfl ?_
      refine l_op 2 rfl rfl rfl rfl rfl ?_
      refine l_op 0 rfl rfl rfl rfl rfl ?_
      refine l_guard rfl rfl rfl (fun hc4 => ?_) (fun hc4 => ?_)
      · replace hc4 := of_decide_eq_true ((irr_eq _).symm.trans hc4)
        refine l_callp F rfl rfl (by kernel_rfl) rfl rfl live6_call (fun _ s F _ => ?_)
        (try dsimp only [n_1, n_2, n_3, n_4, List.append_nil, pk, n_5, n_6] at F)
        refine l_op 2 rfl rfl rfl rfl rfl ?_
        refine l_op 0 rfl rfl rfl rfl rfl ?_
        refine l_nil (WK.nx (by assumption) ?_)
        refine SeqK.nx (by assumption) ?_
        refine k_ret ?_
        refine SeqK.rt (by assumption) ?_
        refine FunK.rt (by assumption) rfl ?_
        -- leaf 2
        first
        | rfl
        | (simp_all; done)
      replace hc4 := of_decide_eq_false ((irr_eq _).symm.trans hc4)
      exfalso; omega
    first | replace hc3 := ne_of_beq_false ((irr_eq _).symm.trans hc3) | simp only [irr_eq, beq_iff_eq, beq_eq_false_iff_ne, ne_eq, decide_eq_true_eq, decide_eq_false_iff_not] at hc3
    exact absurd rfl hc3
  first | replace hc2 := bne_eq_false_iff_eq.1 ((irr_eq _).symm.trans hc2) | simp only [irr_eq, bne_iff_ne, bne_eq_false_iff_eq, ne_eq, decide_eq_true_eq, decide_eq_false_iff_not, Bool.not_eq_true', Bool.not_eq_false'] at hc2
  obtain ⟨g, hbs⟩ : Good ts ∧ bs = layB ts := by
    rcases htold with ⟨q, _⟩ | ⟨_, q⟩
    · exact absurd (by omega) q
    · exact q
  have hn := F.len8 0 rfl
  have hL := lay_len g
  have hz := g.sz
  rw [← hbs] at hL
  have hcap : n ≤ d := by obtain ⟨_, hR, _⟩ := F.has 0 rfl; exact hR.size.2
  have h0 := lay_small g
  have hbk := lay_read g
  rw [← hbs] at hbk
  refine k_skip ?_
  refine SeqK.nx (by assumption) ?_
  refine k_seq (fun Q K => ?_)
  refine k_lin (fun W K => ?_)
  refine l_op 0 rfl rfl rfl rfl rfl ?_
  refine l_callp F rfl rfl (by kernel_rfl) rfl rfl (read_call (bs := bs) (Old.pure (F.has 0 rfl)) (by rw [hbs]; exact bytes_layB h.byt) (by omega) (.inr (by omega))) (fun y s F hy2 => ?_)
  (try dsimp only [n_1, n_2, n_3, n_4, List.append_nil, pk, n_5, n_6] at F)
  obtain ⟨x1, n1, d1, rs⟩ := y
  obtain ⟨w1, w2⟩ := hy2
  dsimp only [reaV, reaF] at F w1 w2 ⊢
  rw [hbk] at w1 ⊢
  dsimp only at w1 ⊢
  (try dsimp only [n_1, n_2, n_3, n_4, List.append_nil, pk, n_5, n_6] at F)
  refine l_op 0 rfl rfl rfl rfl rfl ?_
  refine l_op 2 rfl rfl rfl rfl rfl ?_
  refine l_op 2 rfl rfl rfl rfl rfl ?_
  refine l_op 2 rfl rfl rfl rfl rfl ?_
  refine l_op 0 rfl rfl rfl rfl rfl ?_
  refine l_op 0 rfl rfl rfl rfl rfl ?_
  refine l_op 0 rfl rfl rfl rfl rfl ?_
  refine l_nil (WK.nx (by assumption) ?_)
  refine SeqK.nx (by assumption) ?_
  refine k_seq (fun Q K => ?_)
  refine k_lin (fun W K => ?_)
  refine l_op 0 rfl rfl rfl rfl rfl ?_
  refine l_op 0 rfl rfl rfl rfl rfl ?_
  refine l_callp F rfl rfl (by kernel_rfl) rfl rfl (same6_call (h.to F) (Facts.oldR F 1 2 rfl rfl w2) (by omega)) (fun z s F hz => ?_)
  obtain rfl : z = true := hz.2 w1.symm
  (try dsimp only [n_1, n_2, n_3, n_4, List.append_nil, pk, n_5, n_6] at F)
  refine l_op 0 rfl rfl rfl rfl rfl ?_
  refine l_guard rfl rfl rfl (fun hc5 => ?_) (fun hc5 => ?_)
  · try simp only [irr_eq, beq_iff_eq, bne_iff_ne, beq_eq_false_iff_ne, bne_eq_false_iff_eq, ne_eq, decide_eq_true_eq, decide_eq_false_iff_not, Bool.not_eq_true', Bool.not_eq_false'] at hc5
    refine l_op 0 rfl rfl rfl rfl rfl ?_
    refine l_callv rfl rfl (by kernel_rfl) rfl rfl num6_call ?_
    (try dsimp only [n_1, n_2, n_3, n_4, List.append_nil, pk, n_5, n_6] at F)
    refine l_cmp rfl rfl rfl rfl ?_
    refine l_op 2 rfl rfl rfl rfl rfl ?_
    refine l_op 0 rfl rfl rfl rfl rfl ?_
    refine l_guard rfl rfl rfl (fun hc6 => ?_) (fun hc6 => ?_)
    · first | replace hc6 := eq_of_beq ((irr_eq _).symm.trans hc6) | simp only [irr_eq, beq_iff_eq, beq_eq_false_iff_ne, ne_eq, decide_eq_true_eq, decide_eq_false_iff_not] at hc6
      refine l_op 0 rfl rfl rfl rfl rfl ?_
      refine l_op 0 rfl rfl rfl rfl rfl ?_
      first | refine l_op 2 rfl rfl rfl rfl rfl ?_ | refine l_ln rfl rfl rfl rfl ?_
      refine l_cmp rfl rfl rfl rfl ?_
      refine l_op 2 rfl rfl rfl rfl rfl ?_
      refine l_op 0 rfl rfl rfl rfl rfl ?_
      refine l_guard rfl rfl rfl (fun hc7 => ?_) (fun hc7 => ?_)
      · first | replace hc7 := eq_of_beq ((irr_eq _).symm.trans hc7) | simp only [irr_eq, beq_iff_eq, beq_eq_false_iff_ne, ne_eq, decide_eq_true_eq, decide_eq_false_iff_not] at hc7
        refine l_callp F rfl rfl (by kernel_rfl) rfl rfl live6_call (fun _ s F _ => ?_)
        (try dsimp only [n_1, n_2, n_3, n_4, List.append_nil, pk, n_5, n_6] at F)
        refine l_op 2 rfl rfl rfl rfl rfl ?_
        refine l_op 0 rfl rfl rfl rfl rfl ?_
        refine l_nil (WK.nx (by assumption) ?_)
        refine SeqK.nx (by assumption) ?_
        refine k_ret ?_
        refine FunK.rt (by assumption) rfl ?_
        -- leaf 3
        first
        | rfl
        | (simp_all; done)
      first | replace hc7 := ne_of_beq_false ((irr_eq _).symm.trans hc7) | simp only [irr_eq, beq_iff_eq, beq_eq_false_iff_ne, ne_eq, decide_eq_true_eq, decide_eq_false_iff_not] at hc7
      refine l_s rfl rfl ?_
      refine l_op 2 rfl rfl rfl rfl rfl ?_
      refine l_op 0 rfl rfl rfl rfl rfl ?_
      refine l_nil (WK.nx (by assumption) ?_)
      refine SeqK.nx (by assumption) ?_
      refine k_ret ?_
      refine FunK.rt (by assumption) rfl ?_
      -- leaf 4
      first
      | rfl
      | (simp_all; done)
    first | replace hc6 := ne_of_beq_false ((irr_eq _).symm.trans hc6) | simp only [irr_eq, beq_iff_eq, beq_eq_false_iff_ne, ne_eq, decide_eq_true_eq, decide_eq_false_iff_not] at hc6
    refine l_s rfl rfl ?_
    refine l_s rfl rfl ?_
    refine l_s rfl rfl ?_
    refine l_s rfl rfl ?_
    refine l_op 2 rfl rfl rfl rfl rfl ?_
    refine l_op 0 rfl rfl rfl rfl rfl ?_
    refine l_s rfl rfl ?_
    refine l_op 2 rfl rfl rfl rfl rfl ?_
    refine l_op 0 rfl rfl rfl rfl rfl ?_
    refine l_nil (WK.nx (by assumption) ?_)
    refine SeqK.nx (by assumption) ?_
    refine k_ret ?_
    refine FunK.rt (by assumption) rfl ?_
    -- leaf 5
    first
    | rfl
    | (simp_all; done)
  try simp only [irr_eq, beq_iff_eq, bne_iff_ne, beq_eq_false_iff_ne, bne_eq_false_iff_eq, ne_eq, decide_eq_true_eq, decide_eq_false_iff_not, Bool.not_eq_true', Bool.not_eq_false'] at hc5
  refine l_s rfl rfl ?_
  refine l_s rfl rfl ?_
  refine l_s rfl rfl ?_
  refine l_op 2 rfl rfl rfl rfl rfl ?_
  refine l_op 0 rfl rfl rfl rfl rfl ?_
  refine l_s rfl rfl ?_
  refine l_s rfl rfl ?_
  refine l_s rfl rfl ?_
  refine l_s rfl rfl ?_
  refine l_op 2 rfl rfl rfl rfl rfl ?_
  refine l_op 0 rfl rfl rfl rfl rfl ?_
  refine l_s rfl rfl ?_
  refine l_op 2 rfl rfl rfl rfl rfl ?_
  refine l_op 0 rfl rfl rfl rfl rfl ?_
  refine l_nil (WK.nx (by assumption) ?_)
  refine SeqK.nx (by assumption) ?_
  refine k_ret ?_
  refine FunK.rt (by assumption) rfl ?_
  -- leaf 6
  first
  | rfl
  | (simp_all; done)

theorem cuts6_law {σ : AState} {a : Option Addr} {l c : Nat} {ts : List RS} {k : Int} (h : OldR E0 σ a l c ts) (hk : -9223372036854775808 ≤ k ∧ k ≤ 9223372036854775807) :
    SCall Try.prog E0 8 [.slice a l c, .int .i64 k] σ (fun v _ => v = .bool true) := by
  have htl := h.len
  refine k_fun Try.func8 rfl (m := 88) rfl fun B hD Q K => ?_
  have F := Facts.nil E0 σ
  refine k_seq (fun Q K => ?_)
  refine k_lin (fun W K => ?_)
  refine l_op 0 rfl rfl rfl rfl rfl ?_
  refine l_nil (WK.nx (by assumption) ?_)
  refine SeqK.nx (by assumption) ?_
  refine k_seq (fun Q K => ?_)
  refine k_seq (fun Q K => ?_)
  refine k_lin (fun W K => ?_)
  refine l_op 0 rfl rfl rfl rfl rfl ?_
  refine l_callp F rfl rfl (by kernel_rfl) rfl rfl (huge6_call h (by omega)) (fun hu s F hhu => ?_)
  (try dsimp only [n_1, n_2, n_3, n_4, List.append_nil, pk, n_5, n_6] at F)
  refine l_nil (WK.nx (by assumption) ?_)
  refine SeqK.nx (by assumption) ?_
  refine l_cond rfl rfl (fun hc1 => ?_) (fun hc1 => ?_)
  · try simp only [irr_eq, beq_iff_eq, bne_iff_ne, beq_eq_false_iff_ne, bne_eq_false_iff_eq, ne_eq, decide_eq_true_eq, decide_eq_false_iff_not, Bool.not_eq_true', Bool.not_eq_false'] at hc1
    refine k_seq (fun Q K => ?_)
    refine k_lin (fun W K => ?_)
    refine l_callp F rfl rfl (by kernel_rfl) rfl rfl live6_call (fun _ s F _ => ?_)
    (try dsimp only [n_1, n_2, n_3, n_4, List.append_nil, pk, n_5, n_6] at F)
    refine l_op 0 rfl rfl rfl rfl rfl ?_
    refine l_nil (WK.nx (by assumption) ?_)
    refine SeqK.nx (by assumption) ?_
    refine k_ret ?_
    refine SeqK.rt (by assumption) ?_
    refine FunK.rt (by assumption) rfl ?_
    -- leaf 1
    first
    | rfl
    | (simp_all; done)
  try simp only [irr_eq, beq_iff_eq, bne_iff_ne, beq_eq_false_iff_ne, bne_eq_false_iff_eq, ne_eq, decide_eq_true_eq, decide_eq_false_iff_not, Bool.not_eq_true', Bool.not_eq_false'] at hc1
  obtain ⟨hb1, hb2⟩ := hhu hc1
  refine k_skip ?_
  refine SeqK.nx (by assumption) ?_
  refine k_seq (fun Q K => ?_)
  refine k_lin (fun W K => ?_)
  refine l_op 0 rfl rfl rfl rfl rfl ?_
  refine l_callp F rfl rfl (by kernel_rfl) rfl rfl (lay_call (h.to F) (by omega) (by omega)) (fun y s F hy => ?_)
  (try dsimp only [n_1, n_2, n_3, n_4, List.append_nil, pk, n_5, n_6] at F)
  obtain ⟨e, x, n, d, bs⟩ := y
  dsimp only at F hy ⊢
  have htold := lay_told hy (fun t ht => (h.dat t ht).len8) (by omega) h.nmb
  have hn := F.len8 0 rfl
  (try dsimp only [n_1, n_2, n_3, n_4, List.append_nil, pk, n_5, n_6] at F)
  refine l_op 0 rfl rfl rfl rfl rfl ?_
  refine l_op 2 rfl rfl rfl rfl rfl ?_
  refine l_op 2 rfl rfl rfl rfl rfl ?_
  refine l_op 0 rfl rfl rfl rfl rfl ?_
  refine l_op 0 rfl rfl rfl rfl rfl ?_
  refine l_nil (WK.nx (by assumption) ?_)
  refine SeqK.nx (by assumption) ?_
  refine k_seq (fun Q K => ?_)
  refine k_seq (fun Q K => ?_)
  refine k_lin (fun W K => ?_)
  refine l_op 0 rfl rfl rfl rfl rfl ?_
  refine l_callv rfl rfl (by kernel_rfl) rfl rfl num6_call ?_
  (try dsimp only [n_1, n_2, n_3, n_4, List.append_nil, pk, n_5, n_6] at F)
  refine l_cmp rfl rfl rfl rfl ?_
  refine l_op 0 rfl rfl rfl rfl rfl ?_
  refine l_guard rfl rfl rfl (fun hc2 => ?_) (fun hc2 => ?_)
  · first | replace hc2 := bne_iff_ne.1 ((irr_eq _).symm.trans hc2) | simp only [irr_eq, bne_iff_ne, bne_eq_false_iff_eq, ne_eq, decide_eq_true_eq, decide_eq_false_iff_not, Bool.not_eq_true', Bool.not_eq_false'] at hc2
    refine l_s rfl rfl ?_
    refine l_s rfl rfl ?_
    refine l_op 2 rfl rfl rfl rfl rfl ?_
    refine l_op 0 rfl rfl rfl rfl rfl ?_
    refine l_s rfl rfl ?_
    refine l_s rfl rfl ?_
    refine l_s rfl rfl ?_
    refine l_s rfl rfl ?_
    refine l_op 2 rfl rfl rfl rfl rfl ?_
    refine l_nil (WK.nx (by assumption) ?_)
    refine SeqK.nx (by assumption) ?_
    first | refine e_cond_t rfl rfl rfl ?_ | refine e_cond_t rfl rfl (by rw [irr_eq]; first | exact beq_iff_eq.2 (by assumption) | exact decide_eq_true (by assumption) | exact bne_iff_ne.2 (by assumption)) ?_
    refine k_seq (fun Q K => ?_)
    refine k_lin (fun W K => ?_)
    refine l_callp F rfl rfl (by kernel_rfl) rfl rfl live6_call (fun _ s F _ => ?_)
    (try dsimp only [n_1, n_2, n_3, n_4, List.append_nil, pk, n_5, n_6] at F)
    refine l_op 0 rfl rfl rfl rfl rfl ?_
    refine l_nil (WK.nx (by assumption) ?_)
    refine SeqK.nx (by assumption) ?_
    refine k_ret ?_
    refine SeqK.rt (by assumption) ?_
    refine FunK.rt (by assumption) rfl ?_
    -- leaf 2
    first
    | rfl
    | (simp_all; done)
  first | replace hc2 := bne_eq_false_iff_eq.1 ((irr_eq _).symm.trans hc2) | simp only [irr_eq, bne_iff_ne, bne_eq_false_iff_eq, ne_eq, decide_eq_true_eq, decide_eq_false_iff_not, Bool.not_eq_true', Bool.not_eq_false'] at hc2
  refine l_op 0 rfl rfl rfl rfl rfl ?_
  refine l_cmp rfl rfl rfl rfl ?_
  refine l_op 2 rfl rfl rfl rfl rfl ?_
  refine l_op 0 rfl rfl rfl rfl rfl ?_
  refine l_guard rfl rfl rfl (fun hc3 => ?_) (fun hc3 => ?_)
  · replace hc3 := of_decide_eq_true ((irr_eq _).symm.trans hc3)
    refine l_s rfl rfl ?_
    refine l_s rfl rfl ?_
    refine l_s rfl rfl ?_
    refine l_s rfl rfl ?_
    refine l_op 2 rfl rfl rfl rfl rfl ?_
    refine l_nil (WK.nx (by assumption) ?_)
    refine SeqK.nx (by assumption) ?_
    first | refine e_cond_t rfl rfl rfl ?_ | refine e_cond_t rfl rfl (by rw [irr_eq]; first | exact beq_iff_eq.2 (by assumption) | exact decide_eq_true (by assumption) | exact bne_iff_ne.2 (by assumption)) ?_
    refine k_seq (fun Q K => ?_)
    refine k_lin (fun W K => ?_)
    refine l_callp F rfl rfl (by kernel_rfl) rfl rfl live6_call (fun _ s F _ => ?_)
    (try dsimp only [n_1, n_2, n_3, n_4, List.append_nil, pk, n_5, n_6] at F)
    refine l_op 0 rfl rfl rfl rfl rfl ?_
    refine l_nil (WK.nx (by assumption) ?_)
    refine SeqK.nx (by assumption) ?_
    refine k_ret ?_
    refine SeqK.rt (by assumption) ?_
    refine FunK.rt (by assumption) rfl ?_
    -- leaf 3
    first
    | rfl
    | (simp_all; done)
  replace hc3 := of_decide_eq_false ((irr_eq _).symm.trans hc3)
  refine l_op 0 rfl rfl rfl rfl rfl ?_
  refine l_op 0 rfl rfl rfl rfl rfl ?_
  first | refine l_op 2 rfl rfl rfl rfl rfl ?_ | refine l_ln rfl rfl rfl rfl ?_
  refine l_cmp rfl rfl rfl rfl ?_
  refine l_op 2 rfl rfl rfl rfl rfl ?_
  refine l_nil (WK.nx (by assumption) ?_)
  refine SeqK.nx (by assumption) ?_
  refine l_cond rfl rfl (fun hc4 => ?_) (fun hc4 => ?_)
  · replace hc4 := of_decide_eq_true ((irr_eq _).symm.trans hc4)
    refine k_seq (fun Q K => ?_)
    refine k_lin (fun W K => ?_)
    refine l_callp F rfl rfl (by kernel_rfl) rfl rfl live6_call (fun _ s F _ => ?_)
    (try dsimp only [n_1, n_2, n_3, n_4, List.append_nil, pk, n_5, n_6] at F)
    refine l_op 0 rfl rfl rfl rfl rfl ?_
    refine l_nil (WK.nx (by assumption) ?_)
    refine SeqK.nx (by assumption) ?_
    refine k_ret ?_
    refine SeqK.rt (by assumption) ?_
    refine FunK.rt (by assumption) rfl ?_
    -- leaf 4
    first
    | rfl
    | (simp_all; done)
  replace hc4 := of_decide_eq_false ((irr_eq _).symm.trans hc4)
  obtain ⟨g, hbs⟩ : Good ts ∧ bs = layB ts := by
    rcases htold with ⟨q, _⟩ | ⟨_, q⟩
    · exact absurd (by omega) q
    · exact q
  have hL := lay_len g
  have h0 := lay_small g
  have hcap : n ≤ d := by obtain ⟨_, hR, _⟩ := F.has 0 rfl; exact hR.size.2
  have hB := bytes_layB h.byt
  have hkl : k.toNat < (layB ts).length := by rw [← hbs]; omega
  obtain ⟨cr1, cr2⟩ := cut_read g hkl
  obtain ⟨cg1, cg2, cg3⟩ := cut_game g hkl
  rw [← hbs] at cr1 cr2 cg1 cg2 cg3 hL hB
  refine k_skip ?_
  refine SeqK.nx (by assumption) ?_
  refine k_seq (fun Q K => ?_)
  refine k_lin (fun W K => ?_)
  refine l_op 0 rfl rfl rfl rfl rfl ?_
  refine l_op 0 rfl rfl rfl rfl rfl ?_
  first | refine l_slh rfl rfl rfl rfl rfl ⟨rfl, _, _, rfl, by omega, rfl⟩ (F.old (by assumption)) (by omega) ?_ | refine l_slh rfl rfl rfl rfl rfl ⟨rfl, _, _, rfl, by omega, rfl⟩ (F.has 0 rfl) (by omega) ?_ | refine l_slh rfl rfl rfl rfl rfl ⟨rfl, _, _, rfl, by omega, rfl⟩ (F.has 1 rfl) (by omega) ?_ | refine l_slh rfl rfl rfl rfl rfl ⟨rfl, _, _, rfl, by omega, rfl⟩ (F.has 2 rfl) (by omega) ?_ | refine l_slh rfl rfl rfl rfl rfl ⟨rfl, _, _, rfl, by omega, rfl⟩ (F.has 3 rfl) (by omega) ?_
  refine l_callp F rfl rfl (by kernel_rfl) rfl rfl (read_call (bs := bs.take k.toNat) (Old.pure ((F.has 0 rfl).upto8 (by omega))) (hB.take _) (by omega) (.inr (by omega))) (fun y s F hy2 => ?_)
  (try dsimp only [n_1, n_2, n_3, n_4, List.append_nil, pk, n_5, n_6] at F)
  obtain ⟨x1, n1, d1, rs⟩ := y
  obtain ⟨w1, w2⟩ := hy2
  dsimp only [reaV, reaF] at F w1 w2 ⊢
  rw [cr2] at w1
  have hrl : rs.length = n1 := (F.has 2 rfl).len eR_len (by decide)
  have hr0 : n1 = 0 := by have := congrArg List.length w1; rw [List.length_map] at this; rw [← hrl, this]; rfl
  (try dsimp only [n_1, n_2, n_3, n_4, List.append_nil, pk, n_5, n_6] at F)
  refine l_op 0 rfl rfl rfl rfl rfl ?_
  refine l_op 2 rfl rfl rfl rfl rfl ?_
  refine l_op 2 rfl rfl rfl rfl rfl ?_
  refine l_op 2 rfl rfl rfl rfl rfl ?_
  refine l_op 0 rfl rfl rfl rfl rfl ?_
  refine l_op 0 rfl rfl rfl rfl rfl ?_
  refine l_op 0 rfl rfl rfl rfl rfl ?_
  refine l_nil (WK.nx (by assumption) ?_)
  refine SeqK.nx (by assumption) ?_
  refine k_seq (fun Q K => ?_)
  refine k_lin (fun W K => ?_)
  refine l_op 0 rfl rfl rfl rfl rfl ?_
  refine l_op 0 rfl rfl rfl rfl rfl ?_
  first | refine l_slh rfl rfl rfl rfl rfl ⟨rfl, _, _, rfl, by omega, rfl⟩ (F.old (by assumption)) (by omega) ?_ | refine l_slh rfl rfl rfl rfl rfl ⟨rfl, _, _, rfl, by omega, rfl⟩ (F.has 0 rfl) (by omega) ?_ | refine l_slh rfl rfl rfl rfl rfl ⟨rfl, _, _, rfl, by omega, rfl⟩ (F.has 1 rfl) (by omega) ?_ | refine l_slh rfl rfl rfl rfl rfl ⟨rfl, _, _, rfl, by omega, rfl⟩ (F.has 2 rfl) (by omega) ?_ | refine l_slh rfl rfl rfl rfl rfl ⟨rfl, _, _, rfl, by omega, rfl⟩ (F.has 3 rfl) (by omega) ?_
  refine l_callp F rfl rfl (by kernel_rfl) rfl rfl (game_call (bs := bs.take k.toNat) (Old.pure ((F.has 0 rfl).upto8 (by omega))) (hB.take _) (by omega) (.inr (by omega))) (fun y s F hy3 => ?_)
  (try dsimp only [n_1, n_2, n_3, n_4, List.append_nil, pk, n_5, n_6] at F)
  obtain ⟨x2, n2, d2, gs⟩ := y
  dsimp only [gamV, gamF, GamP] at F hy3 ⊢
  obtain ⟨v1, v2⟩ := hy3
  rw [cg1] at v1
  have hg0 : n2 = 0 := by have := F.len8 3 rfl; rw [v1] at this; exact this.symm
  (try dsimp only [n_1, n_2, n_3, n_4, List.append_nil, pk, n_5, n_6] at F)
  refine l_op 0 rfl rfl rfl rfl rfl ?_
  refine l_op 2 rfl rfl rfl rfl rfl ?_
  refine l_op 2 rfl rfl rfl rfl rfl ?_
  refine l_op 2 rfl rfl rfl rfl rfl ?_
  refine l_op 0 rfl rfl rfl rfl rfl ?_
  refine l_op 0 rfl rfl rfl rfl rfl ?_
  refine l_op 0 rfl rfl rfl rfl rfl ?_
  refine l_nil (WK.nx (by assumption) ?_)
  refine SeqK.nx (by assumption) ?_
  refine k_seq (fun Q K => ?_)
  refine k_lin (fun W K => ?_)
  refine l_op 0 rfl rfl rfl rfl rfl ?_
  first | refine l_op 2 rfl rfl rfl rfl rfl ?_ | refine l_ln rfl rfl rfl rfl ?_
  refine l_op 0 rfl rfl rfl rfl rfl ?_
  first | refine l_op 2 rfl rfl rfl rfl rfl ?_ | refine l_ln rfl rfl rfl rfl ?_
  refine l_a64 rfl rfl rfl (by omega) rfl ?_
  refine l_cmp rfl rfl rfl rfl ?_
  refine l_op 0 rfl rfl rfl rfl rfl ?_
  refine l_guard rfl rfl rfl (fun hc5 => ?_) (fun hc5 => ?_)
  · first | replace hc5 := eq_of_beq ((irr_eq _).symm.trans hc5) | simp only [irr_eq, beq_iff_eq, beq_eq_false_iff_ne, ne_eq, decide_eq_true_eq, decide_eq_false_iff_not] at hc5
    refine l_op 0 rfl rfl rfl rfl rfl ?_
    refine l_callv rfl rfl (by kernel_rfl) rfl rfl num6_call ?_
    (try dsimp only [n_1, n_2, n_3, n_4, List.append_nil, pk, n_5, n_6] at F)
    refine l_cmp rfl rfl rfl rfl ?_
    refine l_op 2 rfl rfl rfl rfl rfl ?_
    refine l_op 0 rfl rfl rfl rfl rfl ?_
    refine l_guard rfl rfl rfl (fun hc6 => ?_) (fun hc6 => ?_)
    · first | replace hc6 := bne_iff_ne.1 ((irr_eq _).symm.trans hc6) | simp only [irr_eq, bne_iff_ne, bne_eq_false_iff_eq, ne_eq, decide_eq_true_eq, decide_eq_false_iff_not, Bool.not_eq_true', Bool.not_eq_false'] at hc6
      refine l_op 0 rfl rfl rfl rfl rfl ?_
      refine l_callv rfl rfl (by kernel_rfl) rfl rfl num6_call ?_
      (try dsimp only [n_1, n_2, n_3, n_4, List.append_nil, pk, n_5, n_6] at F)
      refine l_cmp rfl rfl rfl rfl ?_
      refine l_op 2 rfl rfl rfl rfl rfl ?_
      refine l_op 0 rfl rfl rfl rfl rfl ?_
      refine l_guard rfl rfl rfl (fun hc7 => ?_) (fun hc7 => ?_)
      · first | replace hc7 := bne_iff_ne.1 ((irr_eq _).symm.trans hc7) | simp only [irr_eq, bne_iff_ne, bne_eq_false_iff_eq, ne_eq, decide_eq_true_eq, decide_eq_false_iff_not, Bool.not_eq_true', Bool.not_eq_false'] at hc7
        refine l_op 0 rfl rfl rfl rfl rfl ?_
        refine l_cmp rfl rfl rfl rfl ?_
        refine l_op 0 rfl rfl rfl rfl rfl ?_
        refine l_guard rfl rfl rfl (fun hc8 => ?_) (fun hc8 => ?_)
        · replace hc8 := of_decide_eq_true ((irr_eq _).symm.trans hc8)
          refine l_op 0 rfl rfl rfl rfl rfl ?_
          refine l_callv rfl rfl (by kernel_rfl) rfl rfl num6_call ?_
          (try dsimp only [n_1, n_2, n_3, n_4, List.append_nil, pk, n_5, n_6] at F)
          refine l_cmp rfl rfl rfl rfl ?_
          refine l_op 2 rfl rfl rfl rfl rfl ?_
          refine l_op 0 rfl rfl rfl rfl rfl ?_
          refine l_guard rfl rfl rfl (fun hc9 => ?_) (fun hc9 => ?_)
          · first | replace hc9 := eq_of_beq ((irr_eq _).symm.trans hc9) | simp only [irr_eq, beq_iff_eq, beq_eq_false_iff_ne, ne_eq, decide_eq_true_eq, decide_eq_false_iff_not] at hc9
            refine l_s rfl rfl ?_
            refine l_s rfl rfl ?_
            refine l_s rfl rfl ?_
            refine l_s rfl rfl ?_
            refine l_s rfl rfl ?_
            refine l_s rfl rfl ?_
            refine l_s rfl rfl ?_
            refine l_op 2 rfl rfl rfl rfl rfl ?_
            refine l_op 2 rfl rfl rfl rfl rfl ?_
            refine l_op 0 rfl rfl rfl rfl rfl ?_
            refine l_callp F rfl rfl (by kernel_rfl) rfl rfl live6_call (fun _ s F _ => ?_)
            (try dsimp only [n_1, n_2, n_3, n_4, List.append_nil, pk, n_5, n_6] at F)
            refine l_op 2 rfl rfl rfl rfl rfl ?_
            refine l_op 0 rfl rfl rfl rfl rfl ?_
            refine l_nil (WK.nx (by assumption) ?_)
            refine SeqK.nx (by assumption) ?_
            refine k_ret ?_
            refine FunK.rt (by assumption) rfl ?_
            -- leaf 5
            first
            | rfl
            | (simp_all; done)
          first | replace hc9 := ne_of_beq_false ((irr_eq _).symm.trans hc9) | simp only [irr_eq, beq_iff_eq, beq_eq_false_iff_ne, ne_eq, decide_eq_true_eq, decide_eq_false_iff_not] at hc9
          refine l_op 0 rfl rfl rfl rfl rfl ?_
          refine l_cmp rfl rfl rfl rfl ?_
          refine l_op 0 rfl rfl rfl rfl rfl ?_
          refine l_guard rfl rfl rfl (fun hc10 => ?_) (fun hc10 => ?_)
          · replace hc10 := of_decide_eq_true ((irr_eq _).symm.trans hc10)
            refine l_op 0 rfl rfl rfl rfl rfl ?_
            refine l_op 0 rfl rfl rfl rfl rfl ?_
            refine l_cmp rfl rfl rfl rfl ?_
            refine l_op 2 rfl rfl rfl rfl rfl ?_
            refine l_op 2 rfl rfl rfl rfl rfl ?_
            refine l_op 2 rfl rfl rfl rfl rfl ?_
            refine l_op 0 rfl rfl rfl rfl rfl ?_
            refine l_guard rfl rfl rfl (fun hc11 => ?_) (fun hc11 => ?_)
            · first | replace hc11 := eq_of_beq ((irr_eq _).symm.trans hc11) | simp only [irr_eq, beq_iff_eq, beq_eq_false_iff_ne, ne_eq, decide_eq_true_eq, decide_eq_false_iff_not] at hc11
              refine l_callp F rfl rfl (by kernel_rfl) rfl rfl live6_call (fun _ s F _ => ?_)
              (try dsimp only [n_1, n_2, n_3, n_4, List.append_nil, pk, n_5, n_6] at F)
              refine l_op 2 rfl rfl rfl rfl rfl ?_
              refine l_op 0 rfl rfl rfl rfl rfl ?_
              refine l_nil (WK.nx (by assumption) ?_)
              refine SeqK.nx (by assumption) ?_
              refine k_ret ?_
              refine FunK.rt (by assumption) rfl ?_
              -- leaf 6
              first
              | rfl
              | (simp_all; done)
            first | replace hc11 := ne_of_beq_false ((irr_eq _).symm.trans hc11) | simp only [irr_eq, beq_iff_eq, beq_eq_false_iff_ne, ne_eq, decide_eq_true_eq, decide_eq_false_iff_not] at hc11
            refine l_s rfl rfl ?_
            refine l_op 2 rfl rfl rfl rfl rfl ?_
            refine l_op 0 rfl rfl rfl rfl rfl ?_
            refine l_nil (WK.nx (by assumption) ?_)
            refine SeqK.nx (by assumption) ?_
            refine k_ret ?_
            refine FunK.rt (by assumption) rfl ?_
            -- leaf 7
            first
            | rfl
            | (simp_all; done)
          replace hc10 := of_decide_eq_false ((irr_eq _).symm.trans hc10)
          refine l_s rfl rfl ?_
          refine l_s rfl rfl ?_
          refine l_s rfl rfl ?_
          refine l_op 2 rfl rfl rfl rfl rfl ?_
          refine l_op 2 rfl rfl rfl rfl rfl ?_
          refine l_op 2 rfl rfl rfl rfl rfl ?_
          refine l_op 0 rfl rfl rfl rfl rfl ?_
          refine l_s rfl rfl ?_
          refine l_op 2 rfl rfl rfl rfl rfl ?_
          refine l_op 0 rfl rfl rfl rfl rfl ?_
          refine l_nil (WK.nx (by assumption) ?_)
          refine SeqK.nx (by assumption) ?_
          refine k_ret ?_
          refine FunK.rt (by assumption) rfl ?_
          -- leaf 8
          first
          | rfl
          | (simp_all; done)
        replace hc8 := of_decide_eq_false ((irr_eq _).symm.trans hc8)
        refine l_s rfl rfl ?_
        refine l_s rfl rfl ?_
        refine l_s rfl rfl ?_
        refine l_op 2 rfl rfl rfl rfl rfl ?_
        refine l_op 0 rfl rfl rfl rfl rfl ?_
        refine l_op 0 rfl rfl rfl rfl rfl ?_
        refine l_cmp rfl rfl rfl rfl ?_
        refine l_op 0 rfl rfl rfl rfl rfl ?_
        refine l_guard rfl rfl rfl (fun hc12 => ?_) (fun hc12 => ?_)
        · replace hc12 := of_decide_eq_true ((irr_eq _).symm.trans hc12)
          refine l_op 0 rfl rfl rfl rfl rfl ?_
          refine l_op 0 rfl rfl rfl rfl rfl ?_
          refine l_cmp rfl rfl rfl rfl ?_
          refine l_op 2 rfl rfl rfl rfl rfl ?_
          refine l_op 2 rfl rfl rfl rfl rfl ?_
          refine l_op 2 rfl rfl rfl rfl rfl ?_
          refine l_op 0 rfl rfl rfl rfl rfl ?_
          refine l_guard rfl rfl rfl (fun hc13 => ?_) (fun hc13 => ?_)
          · first | replace hc13 := eq_of_beq ((irr_eq _).symm.trans hc13) | simp only [irr_eq, beq_iff_eq, beq_eq_false_iff_ne, ne_eq, decide_eq_true_eq, decide_eq_false_iff_not] at hc13
            refine l_callp F rfl rfl (by kernel_rfl) rfl rfl live6_call (fun _ s F _ => ?_)
            (try dsimp only [n_1, n_2, n_3, n_4, List.append_nil, pk, n_5, n_6] at F)
            refine l_op 2 rfl rfl rfl rfl rfl ?_
            refine l_op 0 rfl rfl rfl rfl rfl ?_
            refine l_nil (WK.nx (by assumption) ?_)
            refine SeqK.nx (by assumption) ?_
            refine k_ret ?_
            refine FunK.rt (by assumption) rfl ?_
            -- leaf 9
            first
            | rfl
            | (simp_all; done)
          first | replace hc13 := ne_of_beq_false ((irr_eq _).symm.trans hc13) | simp only [irr_eq, beq_iff_eq, beq_eq_false_iff_ne, ne_eq, decide_eq_true_eq, decide_eq_false_iff_not] at hc13
          refine l_s rfl rfl ?_
          refine l_op 2 rfl rfl rfl rfl rfl ?_
          refine l_op 0 rfl rfl rfl rfl rfl ?_
          refine l_nil (WK.nx (by assumption) ?_)
          refine SeqK.nx (by assumption) ?_
          refine k_ret ?_
          refine FunK.rt (by assumption) rfl ?_
          -- leaf 10
          first
          | rfl
          | (simp_all; done)
        replace hc12 := of_decide_eq_false ((irr_eq _).symm.trans hc12)
        refine l_s rfl rfl ?_
        refine l_s rfl rfl ?_
        refine l_s rfl rfl ?_
        refine l_op 2 rfl rfl rfl rfl rfl ?_
        refine l_op 2 rfl rfl rfl rfl rfl ?_
        refine l_op 2 rfl rfl rfl rfl rfl ?_
        refine l_op 0 rfl rfl rfl rfl rfl ?_
        refine l_s rfl rfl ?_
        refine l_op 2 rfl rfl rfl rfl rfl ?_
        refine l_op 0 rfl rfl rfl rfl rfl ?_
        refine l_nil (WK.nx (by assumption) ?_)
        refine SeqK.nx (by assumption) ?_
        refine k_ret ?_
        refine FunK.rt (by assumption) rfl ?_
        -- leaf 11
        first
        | rfl
        | (simp_all; done)
      first | replace hc7 := bne_eq_false_iff_eq.1 ((irr_eq _).symm.trans hc7) | simp only [irr_eq, bne_iff_ne, bne_eq_false_iff_eq, ne_eq, decide_eq_true_eq, decide_eq_false_iff_not, Bool.not_eq_true', Bool.not_eq_false'] at hc7
      refine l_s rfl rfl ?_
      refine l_s rfl rfl ?_
      refine l_s rfl rfl ?_
      refine l_s rfl rfl ?_
      refine l_s rfl rfl ?_
      refine l_s rfl rfl ?_
      refine l_s rfl rfl ?_
      refine l_s rfl rfl ?_
      refine l_s rfl rfl ?_
      refine l_s rfl rfl ?_
      refine l_s rfl rfl ?_
      refine l_s rfl rfl ?_
      refine l_s rfl rfl ?_
      refine l_s rfl rfl ?_
      refine l_s rfl rfl ?_
      refine l_s rfl rfl ?_
      refine l_op 2 rfl rfl rfl rfl rfl ?_
      refine l_op 0 rfl rfl rfl rfl rfl ?_
      refine l_s rfl rfl ?_
      refine l_op 2 rfl rfl rfl rfl rfl ?_
      refine l_op 0 rfl rfl rfl rfl rfl ?_
      refine l_nil (WK.nx (by assumption) ?_)
      refine SeqK.nx (by assumption) ?_
      refine k_ret ?_
      refine FunK.rt (by assumption) rfl ?_
      -- leaf 12
      first
      | rfl
      | (simp_all; done)
    first | replace hc6 := bne_eq_false_iff_eq.1 ((irr_eq _).symm.trans hc6) | simp only [irr_eq, bne_iff_ne, bne_eq_false_iff_eq, ne_eq, decide_eq_true_eq, decide_eq_false_iff_not, Bool.not_eq_true', Bool.not_eq_false'] at hc6
    refine l_s rfl rfl ?_
    refine l_s rfl rfl ?_
    refine l_s rfl rfl ?_
    refine l_op 2 rfl rfl rfl rfl rfl ?_
    refine l_op 0 rfl rfl rfl rfl rfl ?_
    refine l_s rfl rfl ?_
    refine l_s rfl rfl ?_
    refine l_s rfl rfl ?_
    refine l_s rfl rfl ?_
    refine l_s rfl rfl ?_
    refine l_s rfl rfl ?_
    refine l_s rfl rfl ?_
    refine l_s rfl rfl ?_
    refine l_s rfl rfl ?_
    refine l_s rfl rfl ?_
    refine l_s rfl rfl ?_
    refine l_s rfl rfl ?_
    refine l_s rfl rfl ?_
    refine l_s rfl rfl ?_
    refine l_s rfl rfl ?_
    refine l_s rfl rfl ?_
    refine l_op 2 rfl rfl rfl rfl rfl ?_
    refine l_op 0 rfl rfl rfl rfl rfl ?_
    refine l_s rfl rfl ?_
    refine l_op 2 rfl rfl rfl rfl rfl ?_
    refine l_op 0 rfl rfl rfl rfl rfl ?_
    refine l_nil (WK.nx (by assumption) ?_)
    refine SeqK.nx (by assumption) ?_
    refine k_ret ?_
    refine FunK.rt (by assumption) rfl ?_
    -- leaf 13
    first
    | rfl
    | (simp_all; done)
  first | replace hc5 := ne_of_beq_false ((irr_eq _).symm.trans hc5) | simp only [irr_eq, beq_iff_eq, beq_eq_false_iff_ne, ne_eq, decide_eq_true_eq, decide_eq_false_iff_not] at hc5
  refine l_s rfl rfl ?_
  refine l_s rfl rfl ?_
  refine l_s rfl rfl ?_
  refine l_op 2 rfl rfl rfl rfl rfl ?_
  refine l_op 0 rfl rfl rfl rfl rfl ?_
  refine l_s rfl rfl ?_
  refine l_s rfl rfl ?_
  refine l_s rfl rfl ?_
  refine l_op 2 rfl rfl rfl rfl rfl ?_
  refine l_op 0 rfl rfl rfl rfl rfl ?_
  refine l_s rfl rfl ?_
  refine l_s rfl rfl ?_
  refine l_s rfl rfl ?_
  refine l_s rfl rfl ?_
  refine l_s rfl rfl ?_
  refine l_s rfl rfl ?_
  refine l_s rfl rfl ?_
  refine l_s rfl rfl ?_
  refine l_s rfl rfl ?_
  refine l_s rfl rfl ?_
  refine l_s rfl rfl ?_
  refine l_s rfl rfl ?_
  refine l_s rfl rfl ?_
  refine l_s rfl rfl ?_
  refine l_s rfl rfl ?_
  refine l_s rfl rfl ?_
  refine l_op 2 rfl rfl rfl rfl rfl ?_
  refine l_op 0 rfl rfl rfl rfl rfl ?_
  refine l_s rfl rfl ?_
  refine l_op 2 rfl rfl rfl rfl rfl ?_
  refine l_op 0 rfl rfl rfl rfl rfl ?_
  refine l_nil (WK.nx (by assumption) ?_)
  refine SeqK.nx (by assumption) ?_
  refine k_ret ?_
  refine FunK.rt (by assumption) rfl ?_
  -- leaf 14
  first
  | rfl
  | (simp_all; done)

end Go.Proofs.Ytkmkbpnlccomnaa
