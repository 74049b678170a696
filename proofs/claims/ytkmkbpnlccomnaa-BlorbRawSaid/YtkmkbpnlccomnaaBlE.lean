/- A container is read, by the program. No statement of the seat is proved in this text. -/
import Derived.Test.YtkmkbpnlccomnaaBlD
set_option linter.unusedVariables false
set_option linter.unusedSimpArgs false
set_option maxRecDepth 100000
set_option maxHeartbeats 8000000
namespace Go.Proofs.Ytkmkbpnlccomnaa
open GAb Go

structure RS where
  us : ByteArray
  nm : Int
  id : ByteArray
  x : Option Addr
  l : Nat
  c : Nat
  d : List Int
  deriving Inhabited
abbrev eR (t : RS) : List Value := [.string t.us, .int .u32 t.nm, .string t.id, .slice t.x t.l t.c]
theorem eR_len (t : RS) : (eR t).length = 4 := rfl
abbrev dR (t : RS) : Fact := own t.x t.l t.c 1 (u8l t.d)
abbrev plR (t : RS) : List Int × Int × List Int × List Int := (ltr t.us, t.nm, ltr t.id, t.d)
def BdR (ts : List RS) : Prop := ∀ t ∈ ts, Bytes t.d ∧ t.l ≤ 2000000 ∧ t.us.size = 4 ∧ t.id.size = 4 ∧ U32 t.nm
theorem k47 : KeyOK Try.prog 47 false := keyOK_num Try.underlying47
theorem k74 : KeyOK Try.prog 74 true := by
  have hu : Try.prog.underlying 74 = some (.struct (Try.prog.fieldsOf 74)) := by kernel_rfl
  have hfs : (Try.prog.fieldsOf 74).toList.length = 2 := by kernel_rfl
  obtain ⟨f, g, hfg⟩ : ∃ f g, (Try.prog.fieldsOf 74).toList = [f, g] := by
    match h : (Try.prog.fieldsOf 74).toList, hfs with
    | [f, g], _ => exact ⟨f, g, rfl⟩
  have hall : ((Try.prog.fieldsOf 74).toList.map fun f => (f.name == "_", f.offset, f.type)) = [(false, 0, 9), (false, 1, 47)] := by kernel_rfl
  rw [hfg] at hall
  simp only [List.map_cons, List.map_nil, List.cons.injEq, Prod.mk.injEq, and_true] at hall
  obtain ⟨⟨a1, a2, a3⟩, b1, b2, b3⟩ := hall
  exact keyOK_nam hu hfg ⟨by simpa using a1, by simpa using b1, a2, b2⟩ (by rw [a3]; kernel_rfl) (by rw [b3]; kernel_rfl) (by kernel_rfl)

/-- Whose entries were seen. -/
def seenK (rs : List RS) : List (MK × Int) := rs.map fun r => (MK.nam r.us r.nm, 1)
theorem allK_app {b : Bool} {kvs : List (MK × Int)} {e : MK × Int} (h : AllK b kvs) (he : e.1.kd = b) : AllK b (kvs ++ [e]) := by
  intro x hx
  rcases List.mem_append.1 hx with hx | hx
  · exact h x hx
  · rw [List.mem_singleton.1 hx]; exact he
theorem seenK_kd (rs : List RS) : AllK true (seenK rs) := by
  intro e he
  obtain ⟨r, _, rfl⟩ := List.mem_map.1 he
  rfl
theorem seenK_one (rs : List RS) : ∀ e ∈ seenK rs, e.2 = 1 := by
  intro e he
  obtain ⟨r, _, rfl⟩ := List.mem_map.1 he
  rfl
theorem seenK_has {rs : List RS} {u : ByteArray} {x : Int} : (∃ e ∈ seenK rs, e.1 = MK.nam u x) ↔ hasU (rs.map plR) (ltr u) x := by
  constructor
  · rintro ⟨e, he, h⟩
    obtain ⟨r, hr, rfl⟩ := List.mem_map.1 he
    injection h with h1 h2
    exact ⟨plR r, List.mem_map_of_mem hr, by rw [← h1], h2⟩
  · rintro ⟨e, he, h1, h2⟩
    obtain ⟨r, hr, rfl⟩ := List.mem_map.1 he
    refine ⟨_, List.mem_map_of_mem hr, ?_⟩
    show MK.nam r.us r.nm = _
    rw [ltr_inj h1, ← h2]
theorem seenK_app (rs : List RS) (r : RS) : seenK (rs ++ [r]) = seenK rs ++ [(MK.nam r.us r.nm, 1)] := by simp [seenK]
abbrev RY := Option Addr × Nat × Nat × List RS
abbrev reaV (bs : List Int) (y : RY) : Value := .tuple #[.slice y.1 y.2.1 y.2.2.1, .int .i64 (readR bs).1, .int .i64 (readR bs).2.1]
abbrev reaF (y : RY) : List Fact := [many (y.2.2.2.map dR), own y.1 y.2.1 y.2.2.1 4 (rows eR y.2.2.2)]
def ReaP (bs : List Int) (y : RY) : Prop := y.2.2.2.map plR = (readR bs).2.2 ∧ BdR y.2.2.2
theorem rea_bad {bs : List Int} {σ s : AState} (F : Facts E0 σ s []) {e at_ : Int} (h : readR bs = (e, at_, [])) : Ret E0 σ (reaV bs) reaF (ReaP bs) (one [.slice none 0 0, .int .i64 e, .int .i64 at_]) s :=
  ⟨(none, 0, 0, []), by rw [reaV, h]; rfl, (F.nilrow 4).nomany, by rw [h]; rfl, fun t ht => by cases ht⟩

theorem read_call {σ : AState} {a : Option Addr} {l c : Nat} {bs : List Int} (hl : Old E0 σ a l c 1 (u8l bs)) (hB : Bytes bs) (hn : l ≤ 2000000) (hc : a = none ∨ 0 < c) :
    SCall Try.prog E0 12 [.slice a l c] σ (Ret E0 σ (reaV bs) reaF (ReaP bs)) := by
  have hbl := hl.len8
  refine k_fun Try.func12 rfl (m := 130) rfl fun B hD Q K => ?_
  have F := Facts.nil E0 σ
  refine k_seq (fun Q K => ?_)
  refine k_lin (fun W K => ?_)
  refine l_op 0 rfl rfl rfl rfl rfl ?_
  refine l_op 0 rfl rfl rfl rfl rfl ?_
  refine l_op 0 rfl rfl rfl rfl rfl ?_
  refine l_nil (WK.nx (by assumption) ?_)
  refine SeqK.nx (by assumption) ?_
  refine k_seq (fun Q K => ?_)
  refine k_lin (fun W K => ?_)
  refine l_op 0 rfl rfl rfl rfl rfl ?_
  refine l_callp F rfl rfl (by kernel_rfl) rfl rfl (parse_call (Old.pure (F.old hl)) hB hn hc) (fun y s F hy => ?_)
  obtain ⟨kind, xa, m, d, us⟩ := y
  obtain ⟨q1, q2, q3⟩ := hy
  dsimp only [parF, parV] at F q1 q2 q3 ⊢
  (try dsimp only [n_1, n_2, n_3, n_4, List.append_nil, pk, n_5, n_6] at F)
  refine l_op 0 rfl rfl rfl rfl rfl ?_
  refine l_op 2 rfl rfl rfl rfl rfl ?_
  refine l_op 2 rfl rfl rfl rfl rfl ?_
  refine l_op 2 rfl rfl rfl rfl rfl ?_
  refine l_op 2 rfl rfl rfl rfl rfl ?_
  refine l_op 0 rfl rfl rfl rfl rfl ?_
  refine l_op 0 rfl rfl rfl rfl rfl ?_
  refine l_op 0 rfl rfl rfl rfl rfl ?_
  refine l_op 0 rfl rfl rfl rfl rfl ?_
  refine l_nil (WK.nx (by assumption) ?_)
  refine SeqK.nx (by assumption) ?_
  refine k_seq (fun Q K => ?_)
  refine k_seq (fun Q K => ?_)
  refine k_lin (fun W K => ?_)
  refine l_op 0 rfl rfl rfl rfl rfl ?_
  refine l_cmp rfl rfl rfl rfl ?_
  refine l_nil (WK.nx (by assumption) ?_)
  refine SeqK.nx (by assumption) ?_
  refine l_cond rfl rfl (fun hc1 => ?_) (fun hc1 => ?_)
  · first | replace hc1 := bne_iff_ne.1 ((irr_eq _).symm.trans hc1) | simp only [irr_eq, bne_iff_ne, bne_eq_false_iff_eq, ne_eq, decide_eq_true_eq, decide_eq_false_iff_not, Bool.not_eq_true', Bool.not_eq_false'] at hc1
    have hr : readR bs = ((parseR bs).1, (parseR bs).2.1, []) := by unfold readR; rw [if_pos hc1]
    refine k_seq (fun Q K => ?_)
    refine k_lin (fun W K => ?_)
    refine l_op 0 rfl rfl rfl rfl rfl ?_
    refine l_op 0 rfl rfl rfl rfl rfl ?_
    refine l_op 0 rfl rfl rfl rfl rfl ?_
    refine l_op 0 rfl rfl rfl rfl rfl ?_
    refine l_op 0 rfl rfl rfl rfl rfl ?_
    refine l_nil (WK.nx (by assumption) ?_)
    refine SeqK.nx (by assumption) ?_
    refine k_ret ?_
    refine SeqK.rt (by assumption) ?_
    refine FunK.rt (by assumption) rfl ?_
    -- leaf 1
    first
    | (exact rea_bad (F.pick [] (by decide)) hr)
    | (refine rea_bad (F.pick [] (by decide)) (hrd.trans (hgo.symm.trans ?_))
       rw [goE_eq (by omega), if_pos (by omega), if_pos (by assumption)]; done)
    | (refine rea_bad (F.pick [] (by decide)) (hrd.trans (hgo.symm.trans ?_))
       rw [goE_eq (by omega), if_pos (by omega), if_neg hid, if_pos hhas]; done)
    | (refine rea_bad (F.pick [] (by decide)) (hrd.trans (hgo.symm.trans ?_))
       rw [goE_eq (by omega), if_pos (by omega), if_neg hid, if_neg hnot, if_pos (by assumption)]; done)
    | (rw [goE_eq (by omega), if_neg (by omega)] at hgo
       have hp := hrd.trans hgo.symm
       refine ⟨(x, m', d', rs), ?_, F.pick [4, 5] (by decide), ?_⟩
       · rw [reaV, hp, ← hbl]; rfl
       · rw [ReaP, hp]
         exact ⟨rfl, hbd⟩)
  first | replace hc1 := bne_eq_false_iff_eq.1 ((irr_eq _).symm.trans hc1) | simp only [irr_eq, bne_iff_ne, bne_eq_false_iff_eq, ne_eq, decide_eq_true_eq, decide_eq_false_iff_not, Bool.not_eq_true', Bool.not_eq_false'] at hc1
  have hpo := parse_ok hB (bs := bs) (by omega)
  rw [← q2] at hpo
  have hml : us.length = m := (F.has 1 rfl).len eK_len (by decide)
  have hge := lenP_ge (us.map plK)
  rw [List.length_map] at hge
  refine k_skip ?_
  refine SeqK.nx (by assumption) ?_
  refine k_seq (fun Q K => ?_)
  refine k_seq (fun Q K => ?_)
  refine k_lin (fun W K => ?_)
  refine l_op 0 rfl rfl rfl rfl rfl ?_
  refine l_cmp rfl rfl rfl rfl ?_
  refine l_nil (WK.nx (by assumption) ?_)
  refine SeqK.nx (by assumption) ?_
  refine l_cond rfl rfl (fun hc2 => ?_) (fun hc2 => ?_)
  · first | replace hc2 := bne_iff_ne.1 ((irr_eq _).symm.trans hc2) | simp only [irr_eq, bne_iff_ne, bne_eq_false_iff_eq, ne_eq, decide_eq_true_eq, decide_eq_false_iff_not, Bool.not_eq_true', Bool.not_eq_false'] at hc2
    have hr : readR bs = (60, 8, []) := by
      unfold readR
      rw [if_neg (by omega), if_pos]
      rw [← q1]
      exact fun q => hc2 (beq_iff_eq.1 ((sneq_iff kindB_b kindB_s).2 q))
    refine k_seq (fun Q K => ?_)
    refine k_lin (fun W K => ?_)
    refine l_op 0 rfl rfl rfl rfl rfl ?_
    refine l_op 0 rfl rfl rfl rfl rfl ?_
    refine l_op 0 rfl rfl rfl rfl rfl ?_
    refine l_nil (WK.nx (by assumption) ?_)
    refine SeqK.nx (by assumption) ?_
    refine k_ret ?_
    refine SeqK.rt (by assumption) ?_
    refine FunK.rt (by assumption) rfl ?_
    -- leaf 2
    first
    | (exact rea_bad (F.pick [] (by decide)) hr)
    | (refine rea_bad (F.pick [] (by decide)) (hrd.trans (hgo.symm.trans ?_))
       rw [goE_eq (by omega), if_pos (by omega), if_pos (by assumption)]; done)
    | (refine rea_bad (F.pick [] (by decide)) (hrd.trans (hgo.symm.trans ?_))
       rw [goE_eq (by omega), if_pos (by omega), if_neg hid, if_pos hhas]; done)
    | (refine rea_bad (F.pick [] (by decide)) (hrd.trans (hgo.symm.trans ?_))
       rw [goE_eq (by omega), if_pos (by omega), if_neg hid, if_neg hnot, if_pos (by assumption)]; done)
    | (rw [goE_eq (by omega), if_neg (by omega)] at hgo
       have hp := hrd.trans hgo.symm
       refine ⟨(x, m', d', rs), ?_, F.pick [4, 5] (by decide), ?_⟩
       · rw [reaV, hp, ← hbl]; rfl
       · rw [ReaP, hp]
         exact ⟨rfl, hbd⟩)
  first | replace hc2 := bne_eq_false_iff_eq.1 ((irr_eq _).symm.trans hc2) | simp only [irr_eq, bne_iff_ne, bne_eq_false_iff_eq, ne_eq, decide_eq_true_eq, decide_eq_false_iff_not, Bool.not_eq_true', Bool.not_eq_false'] at hc2
  have hkd : ¬ (parseR bs).2.2.1 ≠ kindB := by
    rw [← q1]
    exact not_not_intro ((sneq_iff kindB_b kindB_s).1 (beq_iff_eq.2 hc2))
  refine k_skip ?_
  refine SeqK.nx (by assumption) ?_
  refine k_seq (fun Q K => ?_)
  refine k_lin (fun W K => ?_)
  refine l_op 0 rfl rfl rfl rfl rfl ?_
  refine l_callp F rfl rfl (by kernel_rfl) rfl rfl (index_call (Facts.oldK F 0 1 rfl rfl q3) (fun t ht => (q3 t ht).2.1)) (fun _ s F _ => ?_)
  (try dsimp only [n_1, n_2, n_3, n_4, List.append_nil, pk, n_5, n_6] at F)
  refine l_op 0 rfl rfl rfl rfl rfl ?_
  refine l_op 2 rfl rfl rfl rfl rfl ?_
  refine l_op 2 rfl rfl rfl rfl rfl ?_
  refine l_op 0 rfl rfl rfl rfl rfl ?_
  refine l_op 0 rfl rfl rfl rfl rfl ?_
  refine l_nil (WK.nx (by assumption) ?_)
  refine SeqK.nx (by assumption) ?_
  refine k_seq (fun Q K => ?_)
  refine k_seq (fun Q K => ?_)
  refine k_lin (fun W K => ?_)
  refine l_op 0 rfl rfl rfl rfl rfl ?_
  refine l_cmp rfl rfl rfl rfl ?_
  refine l_nil (WK.nx (by assumption) ?_)
  refine SeqK.nx (by assumption) ?_
  refine l_cond rfl rfl (fun hc3 => ?_) (fun hc3 => ?_)
  · first | replace hc3 := bne_iff_ne.1 ((irr_eq _).symm.trans hc3) | simp only [irr_eq, bne_iff_ne, bne_eq_false_iff_eq, ne_eq, decide_eq_true_eq, decide_eq_false_iff_not, Bool.not_eq_true', Bool.not_eq_false'] at hc3
    have hr : readR bs = ((idxR (us.map plK)).2, 12, []) := by
      unfold readR
      rw [if_neg (by omega), if_neg hkd, ← q2, if_pos hc3]
    refine k_seq (fun Q K => ?_)
    refine k_lin (fun W K => ?_)
    refine l_op 0 rfl rfl rfl rfl rfl ?_
    refine l_op 0 rfl rfl rfl rfl rfl ?_
    refine l_op 0 rfl rfl rfl rfl rfl ?_
    refine l_op 0 rfl rfl rfl rfl rfl ?_
    refine l_nil (WK.nx (by assumption) ?_)
    refine SeqK.nx (by assumption) ?_
    refine k_ret ?_
    refine SeqK.rt (by assumption) ?_
    refine FunK.rt (by assumption) rfl ?_
    -- leaf 3
    first
    | (exact rea_bad (F.pick [] (by decide)) hr)
    | (refine rea_bad (F.pick [] (by decide)) (hrd.trans (hgo.symm.trans ?_))
       rw [goE_eq (by omega), if_pos (by omega), if_pos (by assumption)]; done)
    | (refine rea_bad (F.pick [] (by decide)) (hrd.trans (hgo.symm.trans ?_))
       rw [goE_eq (by omega), if_pos (by omega), if_neg hid, if_pos hhas]; done)
    | (refine rea_bad (F.pick [] (by decide)) (hrd.trans (hgo.symm.trans ?_))
       rw [goE_eq (by omega), if_pos (by omega), if_neg hid, if_neg hnot, if_pos (by assumption)]; done)
    | (rw [goE_eq (by omega), if_neg (by omega)] at hgo
       have hp := hrd.trans hgo.symm
       refine ⟨(x, m', d', rs), ?_, F.pick [4, 5] (by decide), ?_⟩
       · rw [reaV, hp, ← hbl]; rfl
       · rw [ReaP, hp]
         exact ⟨rfl, hbd⟩)
  first | replace hc3 := bne_eq_false_iff_eq.1 ((irr_eq _).symm.trans hc3) | simp only [irr_eq, bne_iff_ne, bne_eq_false_iff_eq, ne_eq, decide_eq_true_eq, decide_eq_false_iff_not, Bool.not_eq_true', Bool.not_eq_false'] at hc3
  have hne : us.length ≠ 0 := by
    intro q
    have : us = [] := List.eq_nil_of_length_eq_zero q
    subst this
    exact absurd hc3 (by decide)
  have hg0 : (us.map plK).getD 0 default = plK (us.getD 0 default) := getP (by omega)
  have hix := idx_ok (l := us.map plK) (by rw [hg0]; exact (q3 _ (OldK.mem (i := 0) (by omega))).1) hc3
  have hrd : readR bs = goE bs (us.map plK) (idxR (us.map plK)).1 600 0 [] := by
    unfold readR
    rw [if_neg (by omega), if_neg hkd, ← q2, if_neg (not_not_intro hc3)]
  have hp0 := hpo.2.2 (fun q => hne (by simpa using congrArg List.length q))
  have hp1 := congrArg List.length hp0
  rw [List.length_take, List.length_drop] at hp1
  refine k_skip ?_
  refine SeqK.nx (by assumption) ?_
  refine k_seq (fun Q K => ?_)
  refine k_lin (fun W K => ?_)
  refine l_mm F rfl rfl rfl (fun q41 s F => ?_)
  (try dsimp only [n_1, n_2, n_3, n_4, List.append_nil, pk, n_5, n_6] at F)
  refine l_op 0 rfl rfl rfl rfl rfl ?_
  refine l_nil (WK.nx (by assumption) ?_)
  refine SeqK.nx (by assumption) ?_
  refine k_seq (fun Q K => ?_)
  refine k_seq (fun Q K => ?_)
  refine k_lin (fun W K => ?_)
  refine l_op 0 rfl rfl rfl rfl rfl ?_
  refine l_callp F rfl rfl (by kernel_rfl) rfl rfl (places_call (Facts.oldK F 0 1 rfl rfl q3) (fun t ht => (q3 t ht).2.1) (by omega)) (fun yp s F _ => ?_)
  (try dsimp only [n_1, n_2, n_3, n_4, List.append_nil, pk, n_5, n_6] at F)
  first | refine l_op 2 rfl rfl rfl rfl rfl ?_ | refine l_ln rfl rfl rfl rfl ?_
  refine l_op 0 rfl rfl rfl rfl rfl ?_
  refine l_nil (WK.nx (by assumption) ?_)
  refine SeqK.nx (by assumption) ?_
  refine k_block (fun Q K => ?_)
  have F0 := F
  clear F
  have hpl := plcL_len (us.map plK) m
  have hPl : (us.map plK).length = m := by rw [List.length_map]; exact hml
  obtain ⟨_, _, hx3, hx4, hx5, _⟩ := hix
  refine k_loop (α := Int) (fun i s => Facts E0 σ s [many (us.map dK), own xa m d 2 (rows eK us), mpf q41 (begN (us.map plK) i.toNat), own yp.1 m yp.2 1 ((plcL (us.map plK) m).map (.int .i64))] ∧ 0 ≤ i ∧ i ≤ m) (fun i => [(0, .slice a l c), (2, .slice none 0 0), (6, .slice xa m d), (7, .int .i64 (idxR (us.map plK)).1), (8, .map (some q41)), (43, .slice yp.1 m yp.2), (44, .int .i64 m), (45, .int .i64 i)]) (fun i => (m - i).toNat) 0 ⟨F0, by omega, by omega⟩ (by repeat (first | exact trivial | refine And.intro rfl ?_)) ?_
  clear F0
  rintro i env s Q K0 ⟨F, i0, i1⟩
  refine k_seq (fun Q K => ?_)
  refine k_lin (fun W K => ?_)
  refine l_cmp rfl rfl rfl rfl ?_
  refine l_nil (WK.nx (by assumption) ?_)
  refine SeqK.nx (by assumption) ?_
  refine k_seq (fun Q K => ?_)
  refine l_cond rfl rfl (fun hc4 => ?_) (fun hc4 => ?_)
  · replace hc4 := of_decide_eq_true ((irr_eq _).symm.trans hc4)
    refine k_skip ?_
    refine SeqK.nx (by assumption) ?_
    refine k_seq (fun Q K => ?_)
    refine k_block (fun Q K => ?_)
    refine k_seq (fun Q K => ?_)
    refine k_lin (fun W K => ?_)
    refine l_op 0 rfl rfl rfl rfl rfl ?_
    refine l_ixi rfl rfl rfl rfl rfl rfl (F.has 3 rfl) (by omega) (fun m48 b48 hA48 => ?_)
    rw [plcL_at (by omega)] at hA48
    have hb48 : 12 ≤ plcP (us.map plK) i.toNat ∧ plcP (us.map plK) i.toNat ≤ 12 + lenP (us.map plK) := by
      have := lenP_nn ((us.map plK).take i.toNat)
      have := lenP_le (us.map plK) i.toNat
      unfold plcP; omega
    refine l_ld0 rfl rfl rfl rfl rfl (by assumption) ?_
    refine l_op 0 rfl rfl rfl rfl rfl ?_
    refine l_op 0 rfl rfl rfl rfl rfl ?_
    refine l_nil (WK.nx (by assumption) ?_)
    refine SeqK.nx (by assumption) ?_
    refine k_lin (fun W K => ?_)
    refine l_op 0 rfl rfl rfl rfl rfl ?_
    refine l_op 0 rfl rfl rfl rfl rfl ?_
    refine l_c32 rfl rfl rfl (by omega) rfl ?_
    refine l_op 0 rfl rfl rfl rfl rfl ?_
    refine l_mu (k := MK.num (plcP (us.map plK) i.toNat)) F 2 k47 rfl rfl rfl rfl rfl rfl rfl rfl (begN_kd _ _) (begN_new (by omega)) hD (fun s F => ?_)
    (try dsimp only [n_1, n_2, n_3, n_4, List.append_nil, pk, n_5, n_6] at F)
    refine l_nil (WK.nx (by assumption) ?_)
    refine BlkK.nx (by assumption) ?_
    refine SeqK.nx (by assumption) ?_
    refine k_lin (fun W K => ?_)
    refine l_a64 rfl rfl rfl (by omega) rfl ?_
    refine l_op 0 rfl rfl rfl rfl rfl ?_
    refine l_nil (WK.nx (by assumption) ?_)
    refine K0.nx (i + 1) (by repeat (first | exact trivial | refine And.intro rfl ?_)) ⟨?_, by omega, by omega⟩ (by first | omega | (simp only; omega))
    rw [show (i + 1).toNat = i.toNat + 1 by omega, begN_succ, show ((i.toNat : Nat) : Int) = i by omega]
    exact F
  replace hc4 := of_decide_eq_false ((irr_eq _).symm.trans hc4)
  refine k_exit ?_
  refine SeqK.et (by assumption) ?_
  refine LoopK.et (by assumption) ?_
  refine BlkK.et (by assumption) ?_
  refine SeqK.nx (by assumption) ?_
  refine k_seq (fun Q K => ?_)
  refine k_lin (fun W K => ?_)
  refine l_mm F rfl rfl rfl (fun q55 s F => ?_)
  (try dsimp only [n_1, n_2, n_3, n_4, List.append_nil, pk, n_5, n_6] at F)
  refine l_op 0 rfl rfl rfl rfl rfl ?_
  refine l_nil (WK.nx (by assumption) ?_)
  refine SeqK.nx (by assumption) ?_
  refine k_seq (fun Q K => ?_)
  refine k_seq (fun Q K => ?_)
  refine k_lin (fun W K => ?_)
  refine l_op 0 rfl rfl rfl rfl rfl ?_
  refine l_op 0 rfl rfl rfl rfl rfl ?_
  refine l_nil (WK.nx (by assumption) ?_)
  refine SeqK.nx (by assumption) ?_
  refine k_block (fun Q K => ?_)
  have F0 : Facts E0 σ s [many (us.map dK), own xa m d 2 (rows eK us), mpf q41 (begN (us.map plK) m), mpf q55 (seenK []), many (([] : List RS).map dR), own none 0 0 4 (rows eR [])] := by
    have h1 := (F.nilrow 4).nomany
    rw [show i.toNat = m by omega] at h1
    exact h1.pick [1, 2, 3, 5, 0, 6] (by decide)
  clear F
  refine k_loop (α := Int × Option Addr × Nat × Nat × List RS × Nat) (fun ⟨i, x, m', d', rs, k⟩ s => Facts E0 σ s [many (us.map dK), own xa m d 2 (rows eK us), mpf q41 (begN (us.map plK) m), mpf q55 (seenK rs), many (rs.map dR), own x m' d' 4 (rows eR rs)] ∧ 0 ≤ i ∧ i ≤ (idxR (us.map plK)).1 ∧ (idxR (us.map plK)).1 - i < k ∧ BdR rs ∧ goE bs (us.map plK) (idxR (us.map plK)).1 k i (rs.map plR) = goE bs (us.map plK) (idxR (us.map plK)).1 600 0 [] ∧ (m' : Int) ≤ i) (fun ⟨i, x, m', d', rs, k⟩ => [(0, .slice a l c), (2, .slice x m' d'), (6, .slice xa m d), (8, .map (some q41)), (11, .map (some q55)), (56, .int .i64 (idxR (us.map plK)).1), (57, .int .i64 i)]) (fun ⟨i, _⟩ => ((idxR (us.map plK)).1 - i).toNat) (0, none, 0, 0, [], 600) ⟨F0, by omega, by omega, by omega, (fun t ht => by cases ht), rfl, by omega⟩ (by repeat (first | exact trivial | refine And.intro rfl ?_)) ?_
  clear F0
  rintro ⟨i, x, m', d', rs, k⟩ env s Q K0 ⟨F, i0, i1, hk, hbd, hgo, hm'⟩
  refine k_seq (fun Q K => ?_)
  refine k_lin (fun W K => ?_)
  refine l_cmp rfl rfl rfl rfl ?_
  refine l_nil (WK.nx (by assumption) ?_)
  refine SeqK.nx (by assumption) ?_
  refine k_seq (fun Q K => ?_)
  refine l_cond rfl rfl (fun hc5 => ?_) (fun hc5 => ?_)
  · replace hc5 := of_decide_eq_true ((irr_eq _).symm.trans hc5)
    have hbx : (beR bs (24 + 12 * i + 4) 4).1 = be bs (24 + 12 * i + 4).toNat 4 := by rw [beR_ok ⟨by omega, by omega⟩]
    have hbs : (beR bs (24 + 12 * i + 8) 4).1 = be bs (24 + 12 * i + 8).toNat 4 := by rw [beR_ok ⟨by omega, by omega⟩]
    have hxb := be_lt4 hB (24 + 12 * i + 4).toNat (k := 4) (by omega)
    have hsb := be_lt4 hB (24 + 12 * i + 8).toNat (k := 4) (by omega)
    have e4 : (24 + 12 * i + 4).toNat - (24 + 12 * i).toNat = 4 := by omega
    refine k_skip ?_
    refine SeqK.nx (by assumption) ?_
    refine k_seq (fun Q K => ?_)
    refine k_block (fun Q K => ?_)
    refine k_seq (fun Q K => ?_)
    refine k_lin (fun W K => ?_)
    refine l_op 0 rfl rfl rfl rfl rfl ?_
    refine l_op 0 rfl rfl rfl rfl rfl ?_
    refine l_nil (WK.nx (by assumption) ?_)
    refine SeqK.nx (by assumption) ?_
    refine k_seq (fun Q K => ?_)
    refine k_lin (fun W K => ?_)
    refine l_op 0 rfl rfl rfl rfl rfl ?_
    refine l_a64 rfl rfl rfl (by omega) rfl ?_
    refine l_a64 rfl rfl rfl (by omega) rfl ?_
    refine l_op 0 rfl rfl rfl rfl rfl ?_
    refine l_nil (WK.nx (by assumption) ?_)
    refine SeqK.nx (by assumption) ?_
    refine k_seq (fun Q K => ?_)
    refine k_lin (fun W K => ?_)
    refine l_op 0 rfl rfl rfl rfl rfl ?_
    refine l_op 0 rfl rfl rfl rfl rfl ?_
    refine l_a64 rfl rfl rfl (by omega) rfl ?_
    refine l_callp F rfl rfl (by kernel_rfl) rfl rfl (wbe_call (at_ := 24 + 12 * i + 4) (n := 4) (Old.pure (F.old hl)) hB (by omega)) (fun _ s F _ => ?_)
    (try dsimp only [n_1, n_2, n_3, n_4, List.append_nil, pk, n_5, n_6] at F)
    refine l_op 0 rfl rfl rfl rfl rfl ?_
    refine l_op 2 rfl rfl rfl rfl rfl ?_
    refine l_op 2 rfl rfl rfl rfl rfl ?_
    refine l_op 0 rfl rfl rfl rfl rfl ?_
    refine l_op 0 rfl rfl rfl rfl rfl ?_
    refine l_nil (WK.nx (by assumption) ?_)
    refine SeqK.nx (by assumption) ?_
    refine k_seq (fun Q K => ?_)
    refine k_lin (fun W K => ?_)
    refine l_op 0 rfl rfl rfl rfl rfl ?_
    refine l_op 0 rfl rfl rfl rfl rfl ?_
    refine l_a64 rfl rfl rfl (by omega) rfl ?_
    refine l_callp F rfl rfl (by kernel_rfl) rfl rfl (wbe_call (at_ := 24 + 12 * i + 8) (n := 4) (Old.pure (F.old hl)) hB (by omega)) (fun _ s F _ => ?_)
    (try dsimp only [n_1, n_2, n_3, n_4, List.append_nil, pk, n_5, n_6] at F)
    refine l_op 0 rfl rfl rfl rfl rfl ?_
    refine l_op 2 rfl rfl rfl rfl rfl ?_
    refine l_op 2 rfl rfl rfl rfl rfl ?_
    refine l_op 0 rfl rfl rfl rfl rfl ?_
    refine l_op 0 rfl rfl rfl rfl rfl ?_
    refine l_nil (WK.nx (by assumption) ?_)
    refine SeqK.nx (by assumption) ?_
    refine k_seq (fun Q K => ?_)
    refine k_lin (fun W K => ?_)
    refine l_op 0 rfl rfl rfl rfl rfl ?_
    refine l_op 0 rfl rfl rfl rfl rfl ?_
    refine l_op 0 rfl rfl rfl rfl rfl ?_
    refine l_a64 rfl rfl rfl (by omega) rfl ?_
    first | refine l_sl rfl rfl rfl rfl rfl rfl rfl rfl ⟨rfl, _, _, rfl, by omega, rfl⟩ (F.old (by assumption)) (by omega) ?_ | refine l_sl rfl rfl rfl rfl rfl rfl rfl rfl ⟨rfl, _, _, rfl, by omega, rfl⟩ (F.has 0 rfl) (by omega) ?_ | refine l_sl rfl rfl rfl rfl rfl rfl rfl rfl ⟨rfl, _, _, rfl, by omega, rfl⟩ (F.has 1 rfl) (by omega) ?_ | refine l_sl rfl rfl rfl rfl rfl rfl rfl rfl ⟨rfl, _, _, rfl, by omega, rfl⟩ (F.has 2 rfl) (by omega) ?_ | refine l_sl rfl rfl rfl rfl rfl rfl rfl rfl ⟨rfl, _, _, rfl, by omega, rfl⟩ (F.has 3 rfl) (by omega) ?_
    refine l_str rfl rfl rfl rfl rfl (F.old (hl.part8 (lo := (24 + 12 * i).toNat) (hi := (24 + 12 * i + 4).toNat) (by omega) (by omega))) ?_
    obtain ⟨U, hU⟩ : ∃ U, strOfNums (List.take ((24 + 12 * i + 4).toNat - (24 + 12 * i).toNat) (List.drop (24 + 12 * i).toNat bs)) = U := ⟨_, rfl⟩
    have hU2 : ltr U = entU bs i := by rw [← hU, ltr_str ((hB.drop _).take _), e4]
    have hU3 : U.size ≤ 4 := by rw [← hU, str_size, List.length_take]; omega
    rw [hU]
    refine l_op 0 rfl rfl rfl rfl rfl ?_
    refine l_bld rfl rfl rfl rfl ?_
    refine l_al F rfl rfl rfl rfl (fun q18 s F => ?_)
    (try dsimp only [n_1, n_2, n_3, n_4, List.append_nil, pk, n_5, n_6] at F)
    refine l_stca F 6 rfl rfl rfl rfl rfl rfl rfl rfl rfl rfl hD rfl (fun s F => ?_)
    (try dsimp only [n_1, n_2, n_3, n_4, List.append_nil, pk, n_5, n_6] at F)
    refine l_nil (WK.nx (by assumption) ?_)
    refine SeqK.nx (by assumption) ?_
    refine k_seq (fun Q K => ?_)
    refine k_seq (fun Q K => ?_)
    refine k_lin (fun W K => ?_)
    refine l_op 2 rfl rfl rfl rfl rfl ?_
    refine l_ldc F 6 rfl rfl rfl rfl rfl rfl rfl ?_
    refine l_callp F rfl rfl (by kernel_rfl) rfl rfl (id_call (by omega)) (fun _ s F _ => ?_)
    (try dsimp only [n_1, n_2, n_3, n_4, List.append_nil, pk, n_5, n_6] at F)
    have hseen : mlook (seenK rs) (MK.nam U (beR bs (24 + 12 * i + 4) 4).1) > 0 ↔ hasU (rs.map plR) (entU bs i) (entX bs i) := by
      rw [mlook_pos (seenK_one rs), seenK_has, hU2, hbx]
    refine l_op 2 rfl rfl rfl rfl rfl ?_
    refine l_nil (WK.nx (by assumption) ?_)
    refine SeqK.nx (by assumption) ?_
    refine l_cond rfl rfl (fun hc6 => ?_) (fun hc6 => ?_)
    · try simp only [irr_eq, beq_iff_eq, bne_iff_ne, beq_eq_false_iff_ne, bne_eq_false_iff_eq, ne_eq, decide_eq_true_eq, decide_eq_false_iff_not, Bool.not_eq_true', Bool.not_eq_false'] at hc6
      rw [hU2] at hc6
      refine k_seq (fun Q K => ?_)
      refine k_lin (fun W K => ?_)
      refine l_op 0 rfl rfl rfl rfl rfl ?_
      refine l_op 0 rfl rfl rfl rfl rfl ?_
      refine l_op 0 rfl rfl rfl rfl rfl ?_
      refine l_op 0 rfl rfl rfl rfl rfl ?_
      refine l_nil (WK.nx (by assumption) ?_)
      refine SeqK.nx (by assumption) ?_
      refine k_ret ?_
      refine SeqK.rt (by assumption) ?_
      refine BlkK.rt (by assumption) ?_
      refine SeqK.rt (by assumption) ?_
      refine LoopK.rt (by assumption) ?_
      refine BlkK.rt (by assumption) ?_
      refine SeqK.rt (by assumption) ?_
      refine FunK.rt (by assumption) rfl ?_
      -- leaf 4
      first
      | (exact rea_bad (F.pick [] (by decide)) hr)
      | (refine rea_bad (F.pick [] (by decide)) (hrd.trans (hgo.symm.trans ?_))
         rw [goE_eq (by omega), if_pos (by omega), if_pos (by assumption)]; done)
      | (refine rea_bad (F.pick [] (by decide)) (hrd.trans (hgo.symm.trans ?_))
         rw [goE_eq (by omega), if_pos (by omega), if_neg hid, if_pos hhas]; done)
      | (refine rea_bad (F.pick [] (by decide)) (hrd.trans (hgo.symm.trans ?_))
         rw [goE_eq (by omega), if_pos (by omega), if_neg hid, if_neg hnot, if_pos (by assumption)]; done)
      | (rw [goE_eq (by omega), if_neg (by omega)] at hgo
         have hp := hrd.trans hgo.symm
         refine ⟨(x, m', d', rs), ?_, F.pick [4, 5] (by decide), ?_⟩
         · rw [reaV, hp, ← hbl]; rfl
         · rw [ReaP, hp]
           exact ⟨rfl, hbd⟩)
    try simp only [irr_eq, beq_iff_eq, bne_iff_ne, beq_eq_false_iff_ne, bne_eq_false_iff_eq, ne_eq, decide_eq_true_eq, decide_eq_false_iff_not, Bool.not_eq_true', Bool.not_eq_false'] at hc6
    rw [hU2] at hc6
    have hid : ¬ idR (entU bs i) = false := by rw [hc6]; decide
    refine k_skip ?_
    refine SeqK.nx (by assumption) ?_
    refine k_seq (fun Q K => ?_)
    refine k_seq (fun Q K => ?_)
    refine k_lin (fun W K => ?_)
    refine l_op 0 rfl rfl rfl rfl rfl ?_
    refine l_ldca F 6 rfl rfl rfl rfl rfl rfl rfl ?_
    refine l_lk (k := MK.nam U (beR bs (24 + 12 * i + 4) 4).1) F 3 k74 rfl rfl rfl rfl rfl rfl rfl (seenK_kd rs) ?_
    refine l_cmp rfl rfl rfl rfl ?_
    refine l_nil (WK.nx (by assumption) ?_)
    refine SeqK.nx (by assumption) ?_
    refine l_cond rfl rfl (fun hc7 => ?_) (fun hc7 => ?_)
    · replace hc7 := of_decide_eq_true ((irr_eq _).symm.trans hc7)
      have hhas := hseen.1 hc7
      refine k_seq (fun Q K => ?_)
      refine k_lin (fun W K => ?_)
      refine l_op 0 rfl rfl rfl rfl rfl ?_
      refine l_op 0 rfl rfl rfl rfl rfl ?_
      refine l_op 0 rfl rfl rfl rfl rfl ?_
      refine l_op 0 rfl rfl rfl rfl rfl ?_
      refine l_nil (WK.nx (by assumption) ?_)
      refine SeqK.nx (by assumption) ?_
      refine k_ret ?_
      refine SeqK.rt (by assumption) ?_
      refine BlkK.rt (by assumption) ?_
      refine SeqK.rt (by assumption) ?_
      refine LoopK.rt (by assumption) ?_
      refine BlkK.rt (by assumption) ?_
      refine SeqK.rt (by assumption) ?_
      refine FunK.rt (by assumption) rfl ?_
      -- leaf 5
      first
      | (exact rea_bad (F.pick [] (by decide)) hr)
      | (refine rea_bad (F.pick [] (by decide)) (hrd.trans (hgo.symm.trans ?_))
         rw [goE_eq (by omega), if_pos (by omega), if_pos (by assumption)]; done)
      | (refine rea_bad (F.pick [] (by decide)) (hrd.trans (hgo.symm.trans ?_))
         rw [goE_eq (by omega), if_pos (by omega), if_neg hid, if_pos hhas]; done)
      | (refine rea_bad (F.pick [] (by decide)) (hrd.trans (hgo.symm.trans ?_))
         rw [goE_eq (by omega), if_pos (by omega), if_neg hid, if_neg hnot, if_pos (by assumption)]; done)
      | (rw [goE_eq (by omega), if_neg (by omega)] at hgo
         have hp := hrd.trans hgo.symm
         refine ⟨(x, m', d', rs), ?_, F.pick [4, 5] (by decide), ?_⟩
         · rw [reaV, hp, ← hbl]; rfl
         · rw [ReaP, hp]
           exact ⟨rfl, hbd⟩)
    replace hc7 := of_decide_eq_false ((irr_eq _).symm.trans hc7)
    have hnew : ∀ e ∈ seenK rs, e.1 ≠ MK.nam U (beR bs (24 + 12 * i + 4) 4).1 := fun e he q => hc7 ((mlook_pos (seenK_one rs)).2 ⟨e, he, q⟩)
    have hm0 := mlook_new hnew
    have hnot : ¬ hasU (rs.map plR) (entU bs i) (entX bs i) := fun q => hc7 (hseen.2 q)
    refine k_skip ?_
    refine SeqK.nx (by assumption) ?_
    refine k_cut (α := Unit) (fun _ s => Facts E0 σ s [many (us.map dK), own xa m d 2 (rows eK us), mpf q41 (begN (us.map plK) m), mpf q55 (seenK rs ++ [(MK.nam U (beR bs (24 + 12 * i + 4) 4).1, 1)]), many (rs.map dR), own x m' d' 4 (rows eR rs), cel q18 [.string U, .int .u32 (beR bs (24 + 12 * i + 4) 4).1]]) (fun _ => [(0, .slice a l c), (2, .slice x m' d'), (6, .slice xa m d), (8, .map (some q41)), (11, .map (some q55)), (13, .int .i64 (24 + 12 * i)), (14, .int .u32 (beR bs (24 + 12 * i + 4) 4).1), (16, .int .u32 (beR bs (24 + 12 * i + 8) 4).1), (18, .pointer (some ⟨q18, 0, none⟩)), (56, .int .i64 (idxR (us.map plK)).1), (57, .int .i64 i)]) (fun Q KC => ?_) ?_
    · refine k_lalt [0, 1] [(2, [3, 4, 5, 6]), (4, [5, 2, 3, 6])] mixed (by kernel_rfl) (fun W K => ?_)
      try have hpS := F.pns
      refine l_op 0 rfl rfl rfl rfl rfl ?_
      refine l_ldca F 6 rfl rfl rfl rfl rfl rfl rfl ?_
      first | have hpS := PnS.add hpS hS18 | have hpS := PnS.add hpS (OldC.sf (by assumption)) | skip
      refine l_nil (alt_two ?_ ?_)
      · refine l_lk (k := MK.nam U (beR bs (24 + 12 * i + 4) 4).1) F 3 k74 rfl rfl rfl rfl rfl rfl rfl (seenK_kd rs) ?_ (.inl (PnA.cel F 6 rfl pna_nil))
        refine l_a64 rfl rfl rfl (by omega) rfl ?_
        refine l_me (k := MK.nam U (beR bs (24 + 12 * i + 4) 4).1) F 3 k74 rfl rfl rfl rfl rfl rfl rfl (seenK_kd rs) hnew hD (fun s F => ?_) (.inl (PnA.celE F 6 3 rfl rfl (by decide) pna_nil))
        (try dsimp only [n_1, n_2, n_3, n_4, List.append_nil, pk, n_5, n_6] at F)
        refine l_op 2 rfl rfl rfl rfl rfl ?_
        refine l_es F 3 rfl rfl rfl rfl rfl rfl rfl hD (fun s F => ?_) (.inl (PnA.celE F 6 3 rfl rfl (by decide) pna_nil))
        (try dsimp only [n_1, n_2, n_3, n_4, List.append_nil, pk, n_5, n_6] at F)
        refine l_nil (WK.nx (by assumption) ?_)
        have F1 : Facts E0 σ s [many (us.map dK), own xa m d 2 (rows eK us), mpf q41 (begN (us.map plK) m), mpf q55 (seenK rs ++ [(MK.nam U (beR bs (24 + 12 * i + 4) 4).1, 1)]), many (rs.map dR), own x m' d' 4 (rows eR rs), cel q18 [.string U, .int .u32 (beR bs (24 + 12 * i + 4) 4).1]] := by
          first
            | (rw [hm0] at F; exact F)
            | (rw [hm1] at F; exact F)
        exact KC.nx () (by repeat (first | exact trivial | refine And.intro rfl ?_)) F1
      refine l_me (k := MK.nam U (beR bs (24 + 12 * i + 4) 4).1) F 3 k74 rfl rfl rfl rfl rfl rfl rfl (seenK_kd rs) hnew hD (fun s F => ?_) (.inl (PnA.celE F 6 3 rfl rfl (by decide) pna_nil))
      (try dsimp only [n_1, n_2, n_3, n_4, List.append_nil, pk, n_5, n_6] at F)
      refine l_op 2 rfl rfl rfl rfl rfl ?_
      refine l_lk (k := MK.nam U (beR bs (24 + 12 * i + 4) 4).1) F 3 k74 rfl rfl rfl rfl rfl rfl rfl (allK_app (seenK_kd rs) rfl) ?_ (.inl (PnA.cel F 6 rfl pna_nil))
      have hm1 : mlook (seenK rs ++ [(MK.nam U (beR bs (24 + 12 * i + 4) 4).1, 0)]) (MK.nam U (beR bs (24 + 12 * i + 4) 4).1) = 0 := by
        rw [mlook_app, if_neg (fun ⟨e, he, q⟩ => hnew e he q), if_pos rfl]
      refine l_a64 rfl rfl rfl (by omega) rfl ?_
      refine l_es F 3 rfl rfl rfl rfl rfl rfl rfl hD (fun s F => ?_) (.inl (PnA.celE F 6 3 rfl rfl (by decide) pna_nil))
      (try dsimp only [n_1, n_2, n_3, n_4, List.append_nil, pk, n_5, n_6] at F)
      refine l_nil (WK.nx (by assumption) ?_)
      have F1 : Facts E0 σ s [many (us.map dK), own xa m d 2 (rows eK us), mpf q41 (begN (us.map plK) m), mpf q55 (seenK rs ++ [(MK.nam U (beR bs (24 + 12 * i + 4) 4).1, 1)]), many (rs.map dR), own x m' d' 4 (rows eR rs), cel q18 [.string U, .int .u32 (beR bs (24 + 12 * i + 4) 4).1]] := by
        first
          | (rw [hm0] at F; exact F)
          | (rw [hm1] at F; exact F)
      exact KC.nx () (by repeat (first | exact trivial | refine And.intro rfl ?_)) F1
    · clear F
      rintro ⟨⟩ env s F
      refine k_seq (fun Q K => ?_)
      refine k_lin (fun W K => ?_)
      refine l_op 0 rfl rfl rfl rfl rfl ?_
      refine l_op 0 rfl rfl rfl rfl rfl ?_
      refine l_lk (k := MK.num (beR bs (24 + 12 * i + 8) 4).1) F 2 k47 rfl rfl rfl rfl rfl rfl rfl (begN_kd _ _) ?_
      have hfc : mlook (begN (us.map plK) m) (MK.num (beR bs (24 + 12 * i + 8) 4).1) = entC bs (us.map plK) i := by
        show _ = mlook (begN (us.map plK) (us.map plK).length) _
        rw [hPl, hbs]
      have hfb := findC_bd (l := us.map plK) (n := (us.map plK).length) (be bs (24 + 12 * i + 8).toNat 4) (Nat.le_refl _)
      refine l_op 0 rfl rfl rfl rfl rfl ?_
      refine l_nil (WK.nx (by assumption) ?_)
      refine SeqK.nx (by assumption) ?_
      refine k_seq (fun Q K => ?_)
      refine k_seq (fun Q K => ?_)
      refine k_lin (fun W K => ?_)
      refine l_op 0 rfl rfl rfl rfl rfl ?_
      refine l_cmp rfl rfl rfl rfl ?_
      refine l_nil (WK.nx (by assumption) ?_)
      refine SeqK.nx (by assumption) ?_
      refine l_cond rfl rfl (fun hc8 => ?_) (fun hc8 => ?_)
      · first | replace hc8 := eq_of_beq ((irr_eq _).symm.trans hc8) | simp only [irr_eq, beq_iff_eq, beq_eq_false_iff_ne, ne_eq, decide_eq_true_eq, decide_eq_false_iff_not] at hc8
        rw [hfc] at hc8
        refine k_seq (fun Q K => ?_)
        refine k_lin (fun W K => ?_)
        refine l_op 0 rfl rfl rfl rfl rfl ?_
        refine l_a64 rfl rfl rfl (by omega) rfl ?_
        refine l_op 0 rfl rfl rfl rfl rfl ?_
        refine l_op 0 rfl rfl rfl rfl rfl ?_
        refine l_op 0 rfl rfl rfl rfl rfl ?_
        refine l_nil (WK.nx (by assumption) ?_)
        refine SeqK.nx (by assumption) ?_
        refine k_ret ?_
        refine SeqK.rt (by assumption) ?_
        refine BlkK.rt (by assumption) ?_
        refine SeqK.rt (by assumption) ?_
        refine LoopK.rt (by assumption) ?_
        refine BlkK.rt (by assumption) ?_
        refine SeqK.rt (by assumption) ?_
        refine FunK.rt (by assumption) rfl ?_
        -- leaf 6
        first
        | (exact rea_bad (F.pick [] (by decide)) hr)
        | (refine rea_bad (F.pick [] (by decide)) (hrd.trans (hgo.symm.trans ?_))
           rw [goE_eq (by omega), if_pos (by omega), if_pos (by assumption)]; done)
        | (refine rea_bad (F.pick [] (by decide)) (hrd.trans (hgo.symm.trans ?_))
           rw [goE_eq (by omega), if_pos (by omega), if_neg hid, if_pos hhas]; done)
        | (refine rea_bad (F.pick [] (by decide)) (hrd.trans (hgo.symm.trans ?_))
           rw [goE_eq (by omega), if_pos (by omega), if_neg hid, if_neg hnot, if_pos (by assumption)]; done)
        | (rw [goE_eq (by omega), if_neg (by omega)] at hgo
           have hp := hrd.trans hgo.symm
           refine ⟨(x, m', d', rs), ?_, F.pick [4, 5] (by decide), ?_⟩
           · rw [reaV, hp, ← hbl]; rfl
           · rw [ReaP, hp]
             exact ⟨rfl, hbd⟩)
      first | replace hc8 := ne_of_beq_false ((irr_eq _).symm.trans hc8) | simp only [irr_eq, beq_iff_eq, beq_eq_false_iff_ne, ne_eq, decide_eq_true_eq, decide_eq_false_iff_not] at hc8
      have hcb : 0 < mlook (begN (us.map plK) m) (MK.num (beR bs (24 + 12 * i + 8) 4).1) ∧ mlook (begN (us.map plK) m) (MK.num (beR bs (24 + 12 * i + 8) 4).1) < m := by
        rw [hfc] at hc8 ⊢
        show 0 < findC _ _ _ ∧ findC _ _ _ < _
        have : findC (us.map plK) (us.map plK).length (be bs (24 + 12 * i + 8).toNat 4) ≠ 0 := hc8
        omega
      have hmem := OldK.mem (ts := us) (i := (mlook (begN (us.map plK) m) (MK.num (beR bs (24 + 12 * i + 8) 4).1)).toNat) (by omega)
      have hqc := q3 _ hmem
      refine k_skip ?_
      refine SeqK.nx (by assumption) ?_
      refine k_linm [0, 1, 3, 4, 5, 6, 7, 9, 10, 11, 12, 2, 8, 13, 14, 15, 16, 17, 18] mixed (by kernel_rfl) (fun W K => ?_)
      try have hpS := F.pns
      refine l_op 0 rfl rfl rfl rfl rfl ?_
      refine l_op 2 rfl rfl rfl rfl rfl ?_
      refine l_op 0 rfl rfl rfl rfl rfl ?_
      refine l_op 0 rfl rfl rfl rfl rfl ?_
      refine l_op 0 rfl rfl rfl rfl rfl ?_
      refine l_ixor (e := eK) F 1 rfl ⟨eK_len, by decide⟩ rfl rfl rfl rfl rfl rfl (by omega) (fun m114 e114 ha114 hA114 => ?_)
      cases ha114
      refine l_op 2 rfl rfl rfl rfl rfl ?_
      refine l_op 0 rfl rfl rfl rfl rfl ?_
      refine l_op 0 rfl rfl rfl rfl rfl ?_
      refine l_ixor (e := eK) F 1 rfl ⟨eK_len, by decide⟩ rfl rfl rfl rfl rfl rfl (by omega) (fun m119 e119 ha119 hA119 => ?_)
      cases ha119
      refine l_op 2 rfl rfl rfl rfl rfl ?_
      refine l_ldc F 6 rfl rfl rfl rfl rfl rfl rfl ?_
      first | have hpS := PnS.add hpS hS18 | have hpS := PnS.add hpS (OldC.sf (by assumption)) | skip
      refine l_ld0 rfl rfl rfl rfl rfl (by assumption) ?_
      first | have hpS := PnS.add hpS hS114 | have hpS := PnS.add hpS (OldC.sf (by assumption)) | skip
      refine l_ldj rfl rfl rfl rfl rfl rfl (by assumption) rfl ?_
      first | have hpS := PnS.add hpS hS119 | have hpS := PnS.add hpS (OldC.sf (by assumption)) | skip
      refine l_callp F rfl rfl (by kernel_rfl) rfl rfl (clone_call (Old.pure (F.hasM 0 rfl (List.mem_map_of_mem hmem))) (by omega)) (fun yc s F _ => ?_) (.inl (PnA.own F 1 rfl (PnA.own F 1 rfl (PnA.cel F 6 rfl pna_nil))))
      (try dsimp only [n_1, n_2, n_3, n_4, List.append_nil, pk, n_5, n_6] at F)
      refine l_bld rfl rfl rfl rfl ?_
      refine l_lit F rfl rfl rfl rfl (fun q124 s F => ?_) (.inl (PnA.own F 1 rfl (PnA.own F 1 rfl (PnA.cel F 6 rfl pna_nil))))
      (try dsimp only [n_1, n_2, n_3, n_4, List.append_nil, pk, n_5, n_6] at F)
      refine l_app (es := 4) F 5 rfl rfl rfl rfl rfl rfl rfl (F.has 8 rfl) rfl rfl (by omega) hD (fun x2 c2 s F => ?_) (.inl (PnA.ownE F 1 5 rfl rfl (by decide) (PnA.ownE F 1 5 rfl rfl (by decide) (PnA.celE F 6 5 rfl rfl (by decide) pna_nil))))
      (try dsimp only [n_1, n_2, n_3, n_4, List.append_nil, pk, n_5, n_6] at F)
      refine l_op 0 rfl rfl rfl rfl rfl ?_
      refine l_nil (WK.nx (by assumption) ?_)
      refine BlkK.nx (by assumption) ?_
      refine SeqK.nx (by assumption) ?_
      refine k_lin (fun W K => ?_)
      refine l_a64 rfl rfl rfl (by omega) rfl ?_
      refine l_op 0 rfl rfl rfl rfl rfl ?_
      refine l_nil (WK.nx (by assumption) ?_)
      obtain ⟨cc, hcc⟩ : ∃ cc, us.getD (mlook (begN (us.map plK) m) (MK.num (beR bs (24 + 12 * i + 8) 4).1)).toNat default = cc := ⟨_, rfl⟩
      rw [hcc] at F hqc hmem
      have hcd := (F.has 7 rfl).size
      rw [List.length_map, Nat.mul_one] at hcd
      have hV : plR ⟨U, (beR bs (24 + 12 * i + 4) 4).1, cc.id, yc.1, cc.l, yc.2, cc.d⟩ = entV bs (us.map plK) i := by
        show (ltr U, (beR bs (24 + 12 * i + 4) 4).1, ltr cc.id, cc.d) = (entU bs i, entX bs i, ((us.map plK).getD (entC bs (us.map plK) i).toNat default).1, ((us.map plK).getD (entC bs (us.map plK) i).toNat default).2)
        rw [hU2, hbx, ← hfc, getP (by omega), hcc]
      have hgo2 := hgo
      rw [goE_eq (by omega), if_pos (by omega), if_neg hid, if_neg hnot, if_neg (by rw [← hfc]; omega), ← hV] at hgo2
      have F9 := ((F.pick [4, 7, 0, 1, 2, 3, 5] (by decide)).join).pick [1, 2, 3, 4, 0, 5] (by decide)
      refine K0.nx (i + 1, x2, m' + 1, c2, rs ++ [⟨U, (beR bs (24 + 12 * i + 4) 4).1, cc.id, yc.1, cc.l, yc.2, cc.d⟩], k - 1) (by repeat (first | exact trivial | refine And.intro rfl ?_)) ⟨?_, by omega, by omega, by omega, ?_, ?_, by omega⟩ (by first | omega | (simp only; omega))
      · rw [seenK_app, List.map_append, rows_append]; exact F9
      · intro t ht
        rcases List.mem_append.1 ht with ht | ht
        · exact hbd t ht
        · rw [List.mem_singleton.1 ht]
          have hu : U32 (beR bs (24 + 12 * i + 4) 4).1 := ⟨by omega, by omega⟩
          refine ⟨hqc.1, hqc.2.1, ?_, hqc.2.2, hu⟩
          have := (idR_iff.1 (by simpa using hid : idR (entU bs i) = true)).1
          rw [← hU2, ltr_length] at this
          exact this
      · rw [List.map_append]; exact hgo2
  replace hc5 := of_decide_eq_false ((irr_eq _).symm.trans hc5)
  refine k_exit ?_
  refine SeqK.et (by assumption) ?_
  refine LoopK.et (by assumption) ?_
  refine BlkK.et (by assumption) ?_
  refine SeqK.nx (by assumption) ?_
  refine k_seq (fun Q K => ?_)
  refine k_lin (fun W K => ?_)
  refine l_op 0 rfl rfl rfl rfl rfl ?_
  refine l_op 0 rfl rfl rfl rfl rfl ?_
  first | refine l_op 2 rfl rfl rfl rfl rfl ?_ | refine l_ln rfl rfl rfl rfl ?_
  refine l_op 0 rfl rfl rfl rfl rfl ?_
  refine l_op 0 rfl rfl rfl rfl rfl ?_
  refine l_op 0 rfl rfl rfl rfl rfl ?_
  refine l_nil (WK.nx (by assumption) ?_)
  refine SeqK.nx (by assumption) ?_
  refine k_ret ?_
  refine FunK.rt (by assumption) rfl ?_
  -- leaf 7
  first
  | (exact rea_bad (F.pick [] (by decide)) hr)
  | (refine rea_bad (F.pick [] (by decide)) (hrd.trans (hgo.symm.trans ?_))
     rw [goE_eq (by omega), if_pos (by omega), if_pos (by assumption)]; done)
  | (refine rea_bad (F.pick [] (by decide)) (hrd.trans (hgo.symm.trans ?_))
     rw [goE_eq (by omega), if_pos (by omega), if_neg hid, if_pos hhas]; done)
  | (refine rea_bad (F.pick [] (by decide)) (hrd.trans (hgo.symm.trans ?_))
     rw [goE_eq (by omega), if_pos (by omega), if_neg hid, if_neg hnot, if_pos (by assumption)]; done)
  | (rw [goE_eq (by omega), if_neg (by omega)] at hgo
     have hp := hrd.trans hgo.symm
     refine ⟨(x, m', d', rs), ?_, F.pick [4, 5] (by decide), ?_⟩
     · rw [reaV, hp, ← hbl]; rfl
     · rw [ReaP, hp]
       exact ⟨rfl, hbd⟩)

end Go.Proofs.Ytkmkbpnlccomnaa
