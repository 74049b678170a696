/- Resources, and the container they make: in plain numbers, and by the program. No statement of the seat is proved in this text. -/
import Derived.Test.YtkmkbpnlccomnaaBlF
set_option linter.unusedVariables false
set_option linter.unusedSimpArgs false
set_option maxRecDepth 100000
set_option maxHeartbeats 8000000
namespace Go.Proofs.Ytkmkbpnlccomnaa
open GAb Go

/-- Resources that are only read. -/
structure OldR (O : Nat → Prop) (σ : AState) (a : Option Addr) (l c : Nat) (ts : List RS) : Prop where
  old : Old O σ a l c 4 (rows eR ts)
  dat : ∀ t ∈ ts, Old O σ t.x t.l t.c 1 (u8l t.d)
  byt : ∀ t ∈ ts, Bytes t.d
  nmb : ∀ t ∈ ts, U32 t.nm
  bd : ∀ t ∈ ts, (t.l : Int) ≤ 140737488351232 ∧ (t.id.size : Int) ≤ 140737488351232 ∧ (t.us.size : Int) ≤ 140737488351232
theorem OldR.len {O : Nat → Prop} {σ : AState} {a : Option Addr} {l c : Nat} {ts : List RS} (h : OldR O σ a l c ts) : ts.length = l := h.old.1.len eR_len (by decide)
theorem memR {ts : List RS} {i : Nat} (hi : i < ts.length) : ts.getD i default ∈ ts := by
  simp only [List.getD, List.getElem?_eq_getElem hi, Option.getD_some]; exact List.getElem_mem hi
theorem OldR.to {O : Nat → Prop} {σ s : AState} {L : List Fact} {a : Option Addr} {l c : Nat} {ts : List RS} (h : OldR O σ a l c ts) (F : Facts O σ s L) : OldR E0 s a l c ts :=
  ⟨Old.pure (F.old h.old), fun t ht => Old.pure (F.old (h.dat t ht)), h.byt, h.nmb, h.bd⟩
/-- Resources of one's own, read. -/
theorem Facts.oldR {O : Nat → Prop} {σ0 σ : AState} {L : List Fact} (F : Facts O σ0 σ L) (i j : Nat) {ts : List RS} {a : Option Addr} {l c : Nat} (hi : L[i]? = some (many (ts.map dR))) (hj : L[j]? = some (own a l c 4 (rows eR ts))) (hb : BdR ts) : OldR E0 σ a l c ts :=
  ⟨Old.pure (F.has j hj), fun t ht => Old.pure (F.hasM i hi (List.mem_map_of_mem ht)), fun t ht => (hb t ht).1, fun t ht => (hb t ht).2.2.2.2, fun t ht => by obtain ⟨_, h1, h2, h3, _⟩ := hb t ht; omega⟩

def sumR : List RS → Int
  | [] => 0
  | t :: ts => t.l + t.id.size + t.us.size + sumR ts
theorem sumR_take {ts : List RS} {i : Nat} (h : i < ts.length) : sumR (ts.take (i + 1)) = sumR (ts.take i) + (ts.getD i default).l + (ts.getD i default).id.size + (ts.getD i default).us.size := by
  induction ts generalizing i with
  | nil => cases h
  | cons t ts ih =>
    cases i with
    | zero => simp [sumR]
    | succ i =>
      simp only [List.take_succ_cons, sumR, List.getD_cons_succ]
      rw [ih (by simp at h; omega)]
      omega
theorem sumR_nn : ∀ ts : List RS, 0 ≤ sumR ts
  | [] => by simp [sumR]
  | t :: ts => by have := sumR_nn ts; simp only [sumR]; omega
theorem sumR_mem : ∀ {ts : List RS} {t : RS}, t ∈ ts → (t.l : Int) + t.id.size + t.us.size ≤ sumR ts
  | t' :: ts, t, h => by
    have := sumR_nn ts
    simp only [sumR]
    rcases List.mem_cons.1 h with rfl | h
    · omega
    · have := sumR_mem h; omega

abbrev kindBA : ByteArray := { data := #[73, 70, 82, 83] }
abbrev ridxBA : ByteArray := { data := #[82, 73, 100, 120] }
abbrev toK (t : RS) : CK := ⟨t.id, t.x, t.l, t.c, t.d⟩
/-- Where the i-th resource's chunk begins. -/
def plcR (ts : List RS) (i : Nat) : Int := 24 + 12 * ts.length + sizeK ((ts.map toK).take i)
def entD (ts : List RS) (i : Nat) : List Int := ltr (ts.getD i default).us ++ putR (ts.getD i default).nm 4 ++ putR (plcR ts i) 4
def entsD (ts : List RS) (n : Nat) : List Int := (List.range n).flatMap (entD ts)
theorem entsD_succ (ts : List RS) (n : Nat) : entsD ts (n + 1) = entsD ts n ++ entD ts n := by
  unfold entsD; rw [List.range_succ, List.flatMap_append]; simp
def idxD (ts : List RS) : List Int := putR ts.length 4 ++ entsD ts ts.length
def cksR (ts : List RS) : List CK := ⟨ridxBA, none, (idxD ts).length, 0, idxD ts⟩ :: ts.map toK
def IdsR (ts : List RS) : Prop := ∀ t ∈ ts, idR (ltr t.us) = true ∧ idR (ltr t.id) = true
/-- Are two of the first ones named alike? -/
def DupN (ts : List RS) (n : Nat) : Prop := ∃ i j, i < j ∧ j < n ∧ (ts.getD i default).us = (ts.getD j default).us ∧ (ts.getD i default).nm = (ts.getD j default).nm
def LayP (ts : List RS) (e : Int) (n : Nat) (bs : List Int) : Prop :=
  e = 1 ∧ n = 0 ∧ ¬ IdsR ts ∨ IdsR ts ∧ (e = 4 ∧ n = 0 ∧ 512 < ts.length ∨ ts.length ≤ 512 ∧ (e = 6 ∧ n = 0 ∧ DupN ts ts.length ∨ ¬ DupN ts ts.length ∧ BldP kindBA (cksR ts) e n bs))
theorem entD_len {ts : List RS} {i : Nat} (h : idR (ltr (ts.getD i default).us) = true) : (entD ts i).length = 12 := by
  unfold entD; simp only [List.length_append, put4_len, (idR_iff.1 h).1]
theorem entsD_len {ts : List RS} (h : IdsR ts) : ∀ {n : Nat}, n ≤ ts.length → (entsD ts n).length = 12 * n
  | 0, _ => rfl
  | n + 1, hn => by rw [entsD_succ, List.length_append, entsD_len h (by omega), entD_len (h _ (memR (by omega))).1]; omega
theorem idxD_len {ts : List RS} (h : IdsR ts) : (idxD ts).length = 4 + 12 * ts.length := by
  unfold idxD; rw [List.length_append, put4_len, entsD_len h (Nat.le_refl _)]
theorem bytes_entD (ts : List RS) (i : Nat) : Bytes (entD ts i) := Bytes.app (Bytes.app (ltr_bytes _) (bytes_put _ _)) (bytes_put _ _)
theorem bytes_entsD (ts : List RS) : ∀ n, Bytes (entsD ts n)
  | 0 => bytes_mem.2 fun x hx => by cases hx
  | n + 1 => by rw [entsD_succ]; exact Bytes.app (bytes_entsD ts n) (bytes_entD ts n)
theorem bytes_idxD (ts : List RS) : Bytes (idxD ts) := Bytes.app (bytes_put _ _) (bytes_entsD ts _)
/-- Sizes told twice. -/
theorem sizeK_lenP : ∀ {ts : List CK}, (∀ t ∈ ts, t.d.length = t.l) → sizeK ts = lenP (ts.map plK)
  | [], _ => rfl
  | t :: ts, h => by
    have h1 := h t (List.mem_cons_self ..)
    have h2 := sizeK_lenP fun u hu => h u (List.mem_cons_of_mem _ hu)
    simp only [List.map_cons, sizeK, lenP, h1, h2]
theorem sumK_toK : ∀ ts : List RS, sumK (ts.map toK) ≤ sumR ts
  | [] => by simp [sumK, sumR]
  | t :: ts => by have := sumK_toK ts; simp only [List.map_cons, sumK, sumR]; omega

end Go.Proofs.Ytkmkbpnlccomnaa
set_option linter.unusedVariables false
set_option linter.unusedSimpArgs false
set_option maxRecDepth 100000
set_option maxHeartbeats 8000000
namespace Go.Proofs.Ytkmkbpnlccomnaa
open GAb Go

theorem bldP_head {kind i : ByteArray} {x y : Option Addr} {l c c' : Nat} {d : List Int} {L : List CK} {e : Int} {n : Nat} {bs : List Int} (h : BldP kind (⟨i, x, l, c, d⟩ :: L) e n bs) : BldP kind (⟨i, y, l, c', d⟩ :: L) e n bs := by
  have hi : IdsOK (⟨i, x, l, c, d⟩ :: L) ↔ IdsOK (⟨i, y, l, c', d⟩ :: L) := by simp [IdsOK]
  unfold BldP at h ⊢
  rw [hi] at h
  exact h
theorem take_oneR {ts : List RS} {i : Nat} (hi : i < ts.length) : ts.take (i + 1) = ts.take i ++ [ts.getD i default] := by
  rw [List.take_succ_eq_append_getElem hi]; simp [List.getD, hi]
theorem seen_at {ts : List RS} {i : Nat} {k : MK} : (∃ e ∈ seenK (ts.take i), e.1 = k) ↔ ∃ j, j < i ∧ j < ts.length ∧ MK.nam (ts.getD j default).us (ts.getD j default).nm = k := by
  constructor
  · rintro ⟨e, he, h⟩
    obtain ⟨r, hr, rfl⟩ := List.mem_map.1 he
    obtain ⟨j, hj, rfl⟩ := List.mem_iff_getElem.1 hr
    rw [List.length_take] at hj
    refine ⟨j, by omega, by omega, ?_⟩
    rw [← h]
    simp [List.getD, show j < ts.length by omega]
  · rintro ⟨j, h1, h2, h⟩
    refine ⟨_, List.mem_map_of_mem (List.mem_iff_getElem.2 ⟨j, by rw [List.length_take]; omega, rfl⟩), ?_⟩
    rw [← h]
    simp [List.getD, h2]
theorem dup_step {ts : List RS} {i : Nat} (hi : i < ts.length) (h : ¬ DupN ts i) (hn : ∀ e ∈ seenK (ts.take i), e.1 ≠ MK.nam (ts.getD i default).us (ts.getD i default).nm) : ¬ DupN ts (i + 1) := by
  rintro ⟨a, b, h1, h2, h3, h4⟩
  by_cases hb : b = i
  · subst hb
    obtain ⟨e, he, q⟩ := (seen_at (ts := ts) (i := b)).2 ⟨a, h1, by omega, by rw [h3, h4]⟩
    exact hn e he q
  · exact h ⟨a, b, h1, by omega, h3, h4⟩
theorem dup_yes {ts : List RS} {i : Nat} (hi : i < ts.length) (h : ∃ e ∈ seenK (ts.take i), e.1 = MK.nam (ts.getD i default).us (ts.getD i default).nm) : DupN ts ts.length := by
  obtain ⟨j, h1, h2, h3⟩ := seen_at.1 h
  injection h3 with h4 h5
  exact ⟨j, i, h1, hi, h4, h5⟩
theorem lay_bad {ts : List RS} {σ s : AState} (F : Facts E0 σ s []) {e : Int} (h : LayP ts e 0 []) : Ret E0 σ (fun (y : Int × Option Addr × Nat × Nat × List Int) => .tuple #[.slice y.2.1 y.2.2.1 y.2.2.2.1, .int .i64 y.1]) (fun y => [own y.2.1 y.2.2.1 y.2.2.2.1 1 (u8l y.2.2.2.2)]) (fun y => LayP ts y.1 y.2.2.1 y.2.2.2.2) (one [.slice none 0 0, .int .i64 e]) s :=
  ⟨(e, none, 0, 0, []), rfl, F.nilrow 1, h⟩

/-- The chunks' places. -/
theorem plc_at {ts : List RS} {c0 : CK} {i : Nat} (h : ∀ t ∈ ts, t.d.length = t.l) (hc : (c0.d.length : Int) = 4 + 12 * ts.length) : plcP ((c0 :: ts.map toK).map plK) (i + 1) = plcR ts i := by
  have e : sizeK ((ts.map toK).take i) = lenP (((ts.map toK).map plK).take i) := by
    have := sizeK_lenP (ts := (ts.map toK).take i) fun t ht => by
      obtain ⟨r, hr, rfl⟩ := List.mem_map.1 (List.mem_of_mem_take ht)
      exact h r hr
    rw [this, List.map_take]
  unfold plcP plcR
  rw [List.map_cons, List.take_succ_cons, e]
  simp only [lenP]
  omega
theorem plcR_bd {ts : List RS} (i : Nat) (hs : sumR ts ≤ 900000) (hl : ts.length ≤ 2000) : 24 ≤ plcR ts i ∧ plcR ts i ≤ 4000000 := by
  have h1 := sizeK_bd ((ts.map toK).take i)
  have h2 := sumK_le (ts.map toK) i
  have h3 := sumK_toK ts
  have h4 : ((ts.map toK).take i).length ≤ ts.length := by rw [List.length_take, List.length_map]; omega
  unfold plcR; omega
/-- A row of one's own with one chunk of one's own ahead. -/
theorem oldK_lay {σ s : AState} {L : List Fact} {a x x0 : Option Addr} {l c m d n0 c0 : Nat} {ts : List RS} {id : ByteArray} {d0 : List Int} (h : OldR E0 σ a l c ts) (F : Facts E0 σ s L) (i j : Nat) (hi : L[i]? = some (own x0 n0 c0 1 (u8l d0))) (hj : L[j]? = some (own x m d 2 (rows eK (⟨id, x0, n0, c0, d0⟩ :: ts.map toK)))) (hB : Bytes d0) (hn : n0 ≤ 2000000 ∧ id.size ≤ 100) : OldK E0 s x m d (⟨id, x0, n0, c0, d0⟩ :: ts.map toK) := by
  refine ⟨Old.pure (F.has j hj), fun t ht => ?_, fun t ht => ?_, fun t ht => ?_⟩
  · rcases List.mem_cons.1 ht with rfl | ht
    · exact Old.pure (F.has i hi)
    · obtain ⟨r, hr, rfl⟩ := List.mem_map.1 ht; exact Old.pure (F.old (h.dat r hr))
  · rcases List.mem_cons.1 ht with rfl | ht
    · exact hB
    · obtain ⟨r, hr, rfl⟩ := List.mem_map.1 ht; exact h.byt r hr
  · rcases List.mem_cons.1 ht with rfl | ht
    · show (n0 : Int) ≤ _ ∧ (id.size : Int) ≤ _
      omega
    · obtain ⟨r, hr, rfl⟩ := List.mem_map.1 ht
      have := h.bd r hr
      exact ⟨this.1, this.2.1⟩
theorem lay_call {σ : AState} {a : Option Addr} {l c : Nat} {ts : List RS} (h : OldR E0 σ a l c ts) (hl : l ≤ 2000) (hs : sumR ts ≤ 900000) :
    SCall Try.prog E0 19 [.slice a l c] σ (Ret E0 σ (fun (y : Int × Option Addr × Nat × Nat × List Int) => .tuple #[.slice y.2.1 y.2.2.1 y.2.2.2.1, .int .i64 y.1]) (fun y => [own y.2.1 y.2.2.1 y.2.2.2.1 1 (u8l y.2.2.2.2)]) fun y => LayP ts y.1 y.2.2.1 y.2.2.2.2) := by
  have htl := h.len
  have ho := h.old
  refine k_fun Try.func19 rfl (m := 123) rfl fun B hD Q K => ?_
  have F := Facts.nil E0 σ
  refine k_seq (fun Q K => ?_)
  refine k_lin (fun W K => ?_)
  refine l_op 0 rfl rfl rfl rfl rfl ?_
  refine l_op 0 rfl rfl rfl rfl rfl ?_
  refine l_nil (WK.nx (by assumption) ?_)
  refine SeqK.nx (by assumption) ?_
  refine k_seq (fun Q K => ?_)
  refine k_seq (fun Q K => ?_)
  refine k_lin (fun W K => ?_)
  refine l_op 0 rfl rfl rfl rfl rfl ?_
  first | refine l_op 2 rfl rfl rfl rfl rfl ?_ | refine l_ln rfl rfl rfl rfl ?_
  refine l_op 0 rfl rfl rfl rfl rfl ?_
  refine l_nil (WK.nx (by assumption) ?_)
  refine SeqK.nx (by assumption) ?_
  refine k_block (fun Q K => ?_)
  refine k_loop (α := Int) (fun i s => Facts E0 σ s [] ∧ 0 ≤ i ∧ i ≤ l ∧ IdsR (ts.take i.toNat)) (fun i => [(0, .slice a l c), (16, .slice a l c), (17, .int .i64 l), (18, .int .i64 i)]) (fun i => (l - i).toNat) 0 ⟨F, by omega, by omega, fun t ht => by cases ht⟩ (by repeat (first | exact trivial | refine And.intro rfl ?_)) ?_
  clear F
  rintro i env s Q K0 ⟨F, i0, i1, hid⟩
  refine k_seq (fun Q K => ?_)
  refine k_lin (fun W K => ?_)
  refine l_cmp rfl rfl rfl rfl ?_
  refine l_nil (WK.nx (by assumption) ?_)
  refine SeqK.nx (by assumption) ?_
  refine k_seq (fun Q K => ?_)
  refine l_cond rfl rfl (fun hc1 => ?_) (fun hc1 => ?_)
  · replace hc1 := of_decide_eq_true ((irr_eq _).symm.trans hc1)
    have hmem := memR (ts := ts) (i := i.toNat) (by omega)
    have hsm := sumR_mem hmem
    refine k_skip ?_
    refine SeqK.nx (by assumption) ?_
    refine k_seq (fun Q K => ?_)
    refine k_block (fun Q K => ?_)
    refine k_seq (fun Q K => ?_)
    refine k_lin (fun W K => ?_)
    refine l_ixr (e := eR) rfl rfl rfl rfl rfl rfl (F.old ho) ⟨eR_len, by decide⟩ (by omega) (fun m20 b20 hA20 => ?_)
    refine l_lda rfl rfl rfl rfl rfl (by assumption) ?_
    refine l_al F rfl rfl rfl rfl (fun q5 s F => ?_)
    (try dsimp only [n_1, n_2, n_3, n_4, List.append_nil, pk, n_5, n_6] at F)
    refine l_stca F 0 rfl rfl rfl rfl rfl rfl rfl rfl rfl rfl hD rfl (fun s F => ?_)
    (try dsimp only [n_1, n_2, n_3, n_4, List.append_nil, pk, n_5, n_6] at F)
    refine l_nil (WK.nx (by assumption) ?_)
    refine SeqK.nx (by assumption) ?_
    refine k_seq (fun Q K => ?_)
    refine k_lin (fun W K => ?_)
    refine l_op 2 rfl rfl rfl rfl rfl ?_
    refine l_ldc F 0 rfl rfl rfl rfl rfl rfl rfl ?_
    refine l_callp F rfl rfl (by kernel_rfl) rfl rfl (id_call (by omega)) (fun _ s F _ => ?_)
    (try dsimp only [n_1, n_2, n_3, n_4, List.append_nil, pk, n_5, n_6] at F)
    refine l_op 2 rfl rfl rfl rfl rfl ?_
    refine l_op 0 rfl rfl rfl rfl rfl ?_
    refine l_guard rfl rfl rfl (fun hc2 => ?_) (fun hc2 => ?_)
    · try simp only [irr_eq, beq_iff_eq, bne_iff_ne, beq_eq_false_iff_ne, bne_eq_false_iff_eq, ne_eq, decide_eq_true_eq, decide_eq_false_iff_not, Bool.not_eq_true', Bool.not_eq_false'] at hc2
      have hbad : ¬ IdsR ts := fun q => by
        have := (q _ hmem).1
        rw [hc2] at this; exact absurd this (by decide)
      refine l_s rfl rfl ?_
      refine l_s rfl rfl ?_
      refine l_s rfl rfl ?_
      refine l_s rfl rfl ?_
      refine l_op 2 rfl rfl rfl rfl rfl ?_
      refine l_nil (WK.nx (by assumption) ?_)
      refine SeqK.nx (by assumption) ?_
      first | refine e_cond_t rfl rfl rfl ?_ | refine e_cond_t rfl rfl (by rw [irr_eq]; first | exact beq_iff_eq.2 (by assumption) | exact decide_eq_true (by assumption) | exact bne_iff_ne.2 (by assumption)) ?_
      refine k_seq (fun Q K => ?_)
      refine k_lin (fun W K => ?_)
      refine l_op 0 rfl rfl rfl rfl rfl ?_
      refine l_op 0 rfl rfl rfl rfl rfl ?_
      refine l_nil (WK.nx (by assumption) ?_)
      refine SeqK.nx (by assumption) ?_
      refine k_ret ?_
      refine BlkK.rt (by assumption) ?_
      refine SeqK.rt (by assumption) ?_
      refine LoopK.rt (by assumption) ?_
      refine BlkK.rt (by assumption) ?_
      refine SeqK.rt (by assumption) ?_
      refine FunK.rt (by assumption) rfl ?_
      -- leaf 1
      first
      | (exact lay_bad (F.pick [] (by decide)) (.inl ⟨rfl, rfl, hbad⟩))
      | (exact lay_bad (F.pick [] (by decide)) (.inr ⟨hall, .inl ⟨rfl, rfl, by omega⟩⟩))
      | (exact lay_bad (F.pick [] (by decide)) (.inr ⟨hall, .inr ⟨by omega, .inl ⟨rfl, rfl, hdup⟩⟩⟩))
      | (refine ⟨yb, rfl, F.pick [4] (by decide), .inr ⟨hall, .inr ⟨by omega, .inr ⟨hnd2, ?_⟩⟩⟩⟩
         rw [hmi] at hyb
         exact bldP_head hyb)
    try simp only [irr_eq, beq_iff_eq, bne_iff_ne, beq_eq_false_iff_ne, bne_eq_false_iff_eq, ne_eq, decide_eq_true_eq, decide_eq_false_iff_not, Bool.not_eq_true', Bool.not_eq_false'] at hc2
    refine l_op 2 rfl rfl rfl rfl rfl ?_
    refine l_ldc F 0 rfl rfl rfl rfl rfl rfl rfl ?_
    refine l_callp F rfl rfl (by kernel_rfl) rfl rfl (id_call (by omega)) (fun _ s F _ => ?_)
    (try dsimp only [n_1, n_2, n_3, n_4, List.append_nil, pk, n_5, n_6] at F)
    refine l_op 2 rfl rfl rfl rfl rfl ?_
    refine l_op 2 rfl rfl rfl rfl rfl ?_
    refine l_nil (WK.nx (by assumption) ?_)
    refine SeqK.nx (by assumption) ?_
    refine l_cond rfl rfl (fun hc3 => ?_) (fun hc3 => ?_)
    · try simp only [irr_eq, beq_iff_eq, bne_iff_ne, beq_eq_false_iff_ne, bne_eq_false_iff_eq, ne_eq, decide_eq_true_eq, decide_eq_false_iff_not, Bool.not_eq_true', Bool.not_eq_false'] at hc3
      have hbad : ¬ IdsR ts := fun q => by
        have := (q _ hmem).2
        rw [hc3] at this; exact absurd this (by decide)
      refine k_seq (fun Q K => ?_)
      refine k_lin (fun W K => ?_)
      refine l_op 0 rfl rfl rfl rfl rfl ?_
      refine l_op 0 rfl rfl rfl rfl rfl ?_
      refine l_nil (WK.nx (by assumption) ?_)
      refine SeqK.nx (by assumption) ?_
      refine k_ret ?_
      refine BlkK.rt (by assumption) ?_
      refine SeqK.rt (by assumption) ?_
      refine LoopK.rt (by assumption) ?_
      refine BlkK.rt (by assumption) ?_
      refine SeqK.rt (by assumption) ?_
      refine FunK.rt (by assumption) rfl ?_
      -- leaf 2
      first
      | (exact lay_bad (F.pick [] (by decide)) (.inl ⟨rfl, rfl, hbad⟩))
      | (exact lay_bad (F.pick [] (by decide)) (.inr ⟨hall, .inl ⟨rfl, rfl, by omega⟩⟩))
      | (exact lay_bad (F.pick [] (by decide)) (.inr ⟨hall, .inr ⟨by omega, .inl ⟨rfl, rfl, hdup⟩⟩⟩))
      | (refine ⟨yb, rfl, F.pick [4] (by decide), .inr ⟨hall, .inr ⟨by omega, .inr ⟨hnd2, ?_⟩⟩⟩⟩
         rw [hmi] at hyb
         exact bldP_head hyb)
    try simp only [irr_eq, beq_iff_eq, bne_iff_ne, beq_eq_false_iff_ne, bne_eq_false_iff_eq, ne_eq, decide_eq_true_eq, decide_eq_false_iff_not, Bool.not_eq_true', Bool.not_eq_false'] at hc3
    refine k_skip ?_
    refine BlkK.nx (by assumption) ?_
    refine SeqK.nx (by assumption) ?_
    refine k_lin (fun W K => ?_)
    refine l_a64 rfl rfl rfl (by omega) rfl ?_
    refine l_op 0 rfl rfl rfl rfl rfl ?_
    refine l_nil (WK.nx (by assumption) ?_)
    refine K0.nx (i + 1) (by repeat (first | exact trivial | refine And.intro rfl ?_)) ⟨F.pick [] (by decide), by omega, by omega, ?_⟩ (by first | omega | (simp only; omega))
    rw [show (i + 1).toNat = i.toNat + 1 by omega, take_oneR (by omega)]
    intro t ht
    rcases List.mem_append.1 ht with ht | ht
    · exact hid t ht
    · rw [List.mem_singleton.1 ht]
      exact ⟨by assumption, by assumption⟩
  replace hc1 := of_decide_eq_false ((irr_eq _).symm.trans hc1)
  have hall : IdsR ts := by rw [List.take_of_length_le (by omega)] at hid; exact hid
  refine k_exit ?_
  refine SeqK.et (by assumption) ?_
  refine LoopK.et (by assumption) ?_
  refine BlkK.et (by assumption) ?_
  refine SeqK.nx (by assumption) ?_
  refine k_seq (fun Q K => ?_)
  refine k_seq (fun Q K => ?_)
  refine k_lin (fun W K => ?_)
  refine l_op 0 rfl rfl rfl rfl rfl ?_
  first | refine l_op 2 rfl rfl rfl rfl rfl ?_ | refine l_ln rfl rfl rfl rfl ?_
  refine l_cmp rfl rfl rfl rfl ?_
  refine l_nil (WK.nx (by assumption) ?_)
  refine SeqK.nx (by assumption) ?_
  refine l_cond rfl rfl (fun hc4 => ?_) (fun hc4 => ?_)
  · replace hc4 := of_decide_eq_true ((irr_eq _).symm.trans hc4)
    refine k_seq (fun Q K => ?_)
    refine k_lin (fun W K => ?_)
    refine l_op 0 rfl rfl rfl rfl rfl ?_
    refine l_op 0 rfl rfl rfl rfl rfl ?_
    refine l_nil (WK.nx (by assumption) ?_)
    refine SeqK.nx (by assumption) ?_
    refine k_ret ?_
    refine SeqK.rt (by assumption) ?_
    refine FunK.rt (by assumption) rfl ?_
    -- leaf 3
    first
    | (exact lay_bad (F.pick [] (by decide)) (.inl ⟨rfl, rfl, hbad⟩))
    | (exact lay_bad (F.pick [] (by decide)) (.inr ⟨hall, .inl ⟨rfl, rfl, by omega⟩⟩))
    | (exact lay_bad (F.pick [] (by decide)) (.inr ⟨hall, .inr ⟨by omega, .inl ⟨rfl, rfl, hdup⟩⟩⟩))
    | (refine ⟨yb, rfl, F.pick [4] (by decide), .inr ⟨hall, .inr ⟨by omega, .inr ⟨hnd2, ?_⟩⟩⟩⟩
       rw [hmi] at hyb
       exact bldP_head hyb)
  replace hc4 := of_decide_eq_false ((irr_eq _).symm.trans hc4)
  refine k_skip ?_
  refine SeqK.nx (by assumption) ?_
  refine k_seq (fun Q K => ?_)
  refine k_lin (fun W K => ?_)
  refine l_mm F rfl rfl rfl (fun q36 s F => ?_)
  (try dsimp only [n_1, n_2, n_3, n_4, List.append_nil, pk, n_5, n_6] at F)
  refine l_op 0 rfl rfl rfl rfl rfl ?_
  refine l_nil (WK.nx (by assumption) ?_)
  refine SeqK.nx (by assumption) ?_
  refine k_seq (fun Q K => ?_)
  refine k_seq (fun Q K => ?_)
  refine k_lin (fun W K => ?_)
  refine l_op 0 rfl rfl rfl rfl rfl ?_
  first | refine l_op 2 rfl rfl rfl rfl rfl ?_ | refine l_ln rfl rfl rfl rfl ?_
  refine l_op 0 rfl rfl rfl rfl rfl ?_
  refine l_nil (WK.nx (by assumption) ?_)
  refine SeqK.nx (by assumption) ?_
  refine k_block (fun Q K => ?_)
  refine k_loop (α := Int) (fun i s => Facts E0 σ s [mpf q36 (seenK (ts.take i.toNat))] ∧ 0 ≤ i ∧ i ≤ l ∧ ¬ DupN ts i.toNat) (fun i => [(0, .slice a l c), (6, .map (some q36)), (37, .slice a l c), (38, .int .i64 l), (39, .int .i64 i)]) (fun i => (l - i).toNat) 0 ⟨F, by omega, by omega, fun ⟨a, b, h1, h2, _⟩ => by simp at h2⟩ (by repeat (first | exact trivial | refine And.intro rfl ?_)) ?_
  clear F
  rintro i env s Q K1 ⟨F, i0, i1, hnd⟩
  refine k_seq (fun Q K => ?_)
  refine k_lin (fun W K => ?_)
  refine l_cmp rfl rfl rfl rfl ?_
  refine l_nil (WK.nx (by assumption) ?_)
  refine SeqK.nx (by assumption) ?_
  refine k_seq (fun Q K => ?_)
  refine l_cond rfl rfl (fun hc5 => ?_) (fun hc5 => ?_)
  · replace hc5 := of_decide_eq_true ((irr_eq _).symm.trans hc5)
    refine k_skip ?_
    refine SeqK.nx (by assumption) ?_
    refine k_seq (fun Q K => ?_)
    refine k_block (fun Q K => ?_)
    refine k_seq (fun Q K => ?_)
    refine k_lin (fun W K => ?_)
    refine l_ixr (e := eR) rfl rfl rfl rfl rfl rfl (F.old ho) ⟨eR_len, by decide⟩ (by omega) (fun m41 b41 hA41 => ?_)
    refine l_lda rfl rfl rfl rfl rfl (by assumption) ?_
    refine l_al F rfl rfl rfl rfl (fun q8 s F => ?_)
    (try dsimp only [n_1, n_2, n_3, n_4, List.append_nil, pk, n_5, n_6] at F)
    refine l_stca F 1 rfl rfl rfl rfl rfl rfl rfl rfl rfl rfl hD rfl (fun s F => ?_)
    (try dsimp only [n_1, n_2, n_3, n_4, List.append_nil, pk, n_5, n_6] at F)
    refine l_nil (WK.nx (by assumption) ?_)
    refine SeqK.nx (by assumption) ?_
    refine k_seq (fun Q K => ?_)
    refine k_lin (fun W K => ?_)
    refine l_op 2 rfl rfl rfl rfl rfl ?_
    refine l_ldc F 1 rfl rfl rfl rfl rfl rfl rfl ?_
    refine l_op 2 rfl rfl rfl rfl rfl ?_
    refine l_ldc F 1 rfl rfl rfl rfl rfl rfl rfl ?_
    refine l_bld rfl rfl rfl rfl ?_
    refine l_al F rfl rfl rfl rfl (fun q9 s F => ?_)
    (try dsimp only [n_1, n_2, n_3, n_4, List.append_nil, pk, n_5, n_6] at F)
    refine l_stca F 2 rfl rfl rfl rfl rfl rfl rfl rfl rfl rfl hD rfl (fun s F => ?_)
    (try dsimp only [n_1, n_2, n_3, n_4, List.append_nil, pk, n_5, n_6] at F)
    refine l_nil (WK.nx (by assumption) ?_)
    refine SeqK.nx (by assumption) ?_
    refine k_seq (fun Q K => ?_)
    refine k_seq (fun Q K => ?_)
    refine k_lin (fun W K => ?_)
    refine l_op 0 rfl rfl rfl rfl rfl ?_
    refine l_ldca F 2 rfl rfl rfl rfl rfl rfl rfl ?_
    refine l_lk (k := MK.nam (ts.getD i.toNat default).us (ts.getD i.toNat default).nm) F 0 k74 rfl rfl rfl rfl rfl rfl rfl (seenK_kd _) ?_
    refine l_cmp rfl rfl rfl rfl ?_
    refine l_nil (WK.nx (by assumption) ?_)
    refine SeqK.nx (by assumption) ?_
    refine l_cond rfl rfl (fun hc6 => ?_) (fun hc6 => ?_)
    · replace hc6 := of_decide_eq_true ((irr_eq _).symm.trans hc6)
      have hdup := dup_yes (by omega) ((mlook_pos (seenK_one _)).1 hc6)
      refine k_seq (fun Q K => ?_)
      refine k_lin (fun W K => ?_)
      refine l_op 0 rfl rfl rfl rfl rfl ?_
      refine l_op 0 rfl rfl rfl rfl rfl ?_
      refine l_nil (WK.nx (by assumption) ?_)
      refine SeqK.nx (by assumption) ?_
      refine k_ret ?_
      refine SeqK.rt (by assumption) ?_
      refine BlkK.rt (by assumption) ?_
      refine SeqK.rt (by assumption) ?_
      refine LoopK.rt (by assumption) ?_
      refine BlkK.rt (by assumption) ?_
      refine SeqK.rt (by assumption) ?_
      refine FunK.rt (by assumption) rfl ?_
      -- leaf 4
      first
      | (exact lay_bad (F.pick [] (by decide)) (.inl ⟨rfl, rfl, hbad⟩))
      | (exact lay_bad (F.pick [] (by decide)) (.inr ⟨hall, .inl ⟨rfl, rfl, by omega⟩⟩))
      | (exact lay_bad (F.pick [] (by decide)) (.inr ⟨hall, .inr ⟨by omega, .inl ⟨rfl, rfl, hdup⟩⟩⟩))
      | (refine ⟨yb, rfl, F.pick [4] (by decide), .inr ⟨hall, .inr ⟨by omega, .inr ⟨hnd2, ?_⟩⟩⟩⟩
         rw [hmi] at hyb
         exact bldP_head hyb)
    replace hc6 := of_decide_eq_false ((irr_eq _).symm.trans hc6)
    have hnew : ∀ e ∈ seenK (ts.take i.toNat), e.1 ≠ MK.nam (ts.getD i.toNat default).us (ts.getD i.toNat default).nm := fun e he q => hc6 ((mlook_pos (seenK_one _)).2 ⟨e, he, q⟩)
    have hm0 := mlook_new hnew
    refine k_skip ?_
    refine SeqK.nx (by assumption) ?_
    refine k_lalt [0, 1] [(2, [3, 4, 5, 6]), (4, [5, 2, 3, 6])] mixed (by kernel_rfl) (fun W K => ?_)
    try have hpS := F.pns
    refine l_op 0 rfl rfl rfl rfl rfl ?_
    refine l_ldca F 2 rfl rfl rfl rfl rfl rfl rfl ?_
    first | have hpS := PnS.add hpS hS9 | have hpS := PnS.add hpS (OldC.sf (by assumption)) | skip
    refine l_nil (alt_two ?_ ?_)
    · refine l_lk (k := MK.nam (ts.getD i.toNat default).us (ts.getD i.toNat default).nm) F 0 k74 rfl rfl rfl rfl rfl rfl rfl (seenK_kd _) ?_ (.inl (PnA.cel F 2 rfl pna_nil))
      refine l_a64 rfl rfl rfl (by omega) rfl ?_
      refine l_me (k := MK.nam (ts.getD i.toNat default).us (ts.getD i.toNat default).nm) F 0 k74 rfl rfl rfl rfl rfl rfl rfl (seenK_kd _) hnew hD (fun s F => ?_) (.inl (PnA.celE F 2 0 rfl rfl (by decide) pna_nil))
      (try dsimp only [n_1, n_2, n_3, n_4, List.append_nil, pk, n_5, n_6] at F)
      refine l_op 2 rfl rfl rfl rfl rfl ?_
      refine l_es F 0 rfl rfl rfl rfl rfl rfl rfl hD (fun s F => ?_) (.inl (PnA.celE F 2 0 rfl rfl (by decide) pna_nil))
      (try dsimp only [n_1, n_2, n_3, n_4, List.append_nil, pk, n_5, n_6] at F)
      refine l_nil (WK.nx (by assumption) ?_)
      refine BlkK.nx (by assumption) ?_
      refine SeqK.nx (by assumption) ?_
      refine k_lin (fun W K => ?_)
      refine l_a64 rfl rfl rfl (by omega) rfl ?_
      refine l_op 0 rfl rfl rfl rfl rfl ?_
      refine l_nil (WK.nx (by assumption) ?_)
      have F1 : Facts E0 σ s [mpf q36 (seenK (ts.take i.toNat) ++ [(MK.nam (ts.getD i.toNat default).us (ts.getD i.toNat default).nm, 1)])] := by
        first
          | (rw [hm0] at F; exact F.pick [0] (by decide))
          | (rw [hm1] at F; exact F.pick [0] (by decide))
      refine K1.nx (i + 1) (by repeat (first | exact trivial | refine And.intro rfl ?_)) ⟨?_, by omega, by omega, ?_⟩ (by first | omega | (simp only; omega))
      · rw [show (i + 1).toNat = i.toNat + 1 by omega, take_oneR (by omega), seenK_app]; exact F1
      · rw [show (i + 1).toNat = i.toNat + 1 by omega]; exact dup_step (by omega) hnd hnew
    refine l_me (k := MK.nam (ts.getD i.toNat default).us (ts.getD i.toNat default).nm) F 0 k74 rfl rfl rfl rfl rfl rfl rfl (seenK_kd _) hnew hD (fun s F => ?_) (.inl (PnA.celE F 2 0 rfl rfl (by decide) pna_nil))
    (try dsimp only [n_1, n_2, n_3, n_4, List.append_nil, pk, n_5, n_6] at F)
    refine l_op 2 rfl rfl rfl rfl rfl ?_
    refine l_lk (k := MK.nam (ts.getD i.toNat default).us (ts.getD i.toNat default).nm) F 0 k74 rfl rfl rfl rfl rfl rfl rfl (allK_app (seenK_kd _) rfl) ?_ (.inl (PnA.cel F 2 rfl pna_nil))
    have hm1 : mlook (seenK (ts.take i.toNat) ++ [(MK.nam (ts.getD i.toNat default).us (ts.getD i.toNat default).nm, 0)]) (MK.nam (ts.getD i.toNat default).us (ts.getD i.toNat default).nm) = 0 := by
      rw [mlook_app, if_neg (fun ⟨e, he, q⟩ => hnew e he q), if_pos rfl]
    refine l_a64 rfl rfl rfl (by omega) rfl ?_
    refine l_es F 0 rfl rfl rfl rfl rfl rfl rfl hD (fun s F => ?_) (.inl (PnA.celE F 2 0 rfl rfl (by decide) pna_nil))
    (try dsimp only [n_1, n_2, n_3, n_4, List.append_nil, pk, n_5, n_6] at F)
    refine l_nil (WK.nx (by assumption) ?_)
    refine BlkK.nx (by assumption) ?_
    refine SeqK.nx (by assumption) ?_
    refine k_lin (fun W K => ?_)
    refine l_a64 rfl rfl rfl (by omega) rfl ?_
    refine l_op 0 rfl rfl rfl rfl rfl ?_
    refine l_nil (WK.nx (by assumption) ?_)
    have F1 : Facts E0 σ s [mpf q36 (seenK (ts.take i.toNat) ++ [(MK.nam (ts.getD i.toNat default).us (ts.getD i.toNat default).nm, 1)])] := by
      first
        | (rw [hm0] at F; exact F.pick [0] (by decide))
        | (rw [hm1] at F; exact F.pick [0] (by decide))
    refine K1.nx (i + 1) (by repeat (first | exact trivial | refine And.intro rfl ?_)) ⟨?_, by omega, by omega, ?_⟩ (by first | omega | (simp only; omega))
    · rw [show (i + 1).toNat = i.toNat + 1 by omega, take_oneR (by omega), seenK_app]; exact F1
    · rw [show (i + 1).toNat = i.toNat + 1 by omega]; exact dup_step (by omega) hnd hnew
  replace hc5 := of_decide_eq_false ((irr_eq _).symm.trans hc5)
  have hnd2 : ¬ DupN ts ts.length := by rw [show ts.length = i.toNat by omega]; exact hnd
  refine k_exit ?_
  refine SeqK.et (by assumption) ?_
  refine LoopK.et (by assumption) ?_
  refine BlkK.et (by assumption) ?_
  refine SeqK.nx (by assumption) ?_
  refine k_seq (fun Q K => ?_)
  refine k_lin (fun W K => ?_)
  refine l_op 0 rfl rfl rfl rfl rfl ?_
  first | refine l_op 2 rfl rfl rfl rfl rfl ?_ | refine l_ln rfl rfl rfl rfl ?_
  refine l_a64 rfl rfl rfl (by omega) rfl ?_
  refine l_a64 rfl rfl rfl (by omega) rfl ?_
  refine l_mk F rfl rfl rfl rfl rfl rfl rfl (by omega) (fun q63 s F => ?_)
  (try dsimp only [n_1, n_2, n_3, n_4, List.append_nil, pk, n_5, n_6] at F)
  refine l_bld rfl rfl rfl rfl ?_
  refine l_lit F rfl rfl rfl rfl (fun q65 s F => ?_)
  (try dsimp only [n_1, n_2, n_3, n_4, List.append_nil, pk, n_5, n_6] at F)
  refine l_op 0 rfl rfl rfl rfl rfl ?_
  refine l_nil (WK.nx (by assumption) ?_)
  refine SeqK.nx (by assumption) ?_
  refine k_seq (fun Q K => ?_)
  refine k_seq (fun Q K => ?_)
  refine k_lin (fun W K => ?_)
  refine l_op 0 rfl rfl rfl rfl rfl ?_
  first | refine l_op 2 rfl rfl rfl rfl rfl ?_ | refine l_ln rfl rfl rfl rfl ?_
  refine l_op 0 rfl rfl rfl rfl rfl ?_
  refine l_nil (WK.nx (by assumption) ?_)
  refine SeqK.nx (by assumption) ?_
  refine k_block (fun Q K => ?_)
  obtain ⟨N, hN⟩ : ∃ N, (4 + 12 * (l : Int)).toNat = N := ⟨_, rfl⟩
  rw [hN] at F ⊢
  have F0 : Facts E0 σ s [own (some ⟨q63, 0, some 0⟩) N N 1 (u8l (List.replicate N 0)), own (some ⟨q65, 0, some 0⟩) 1 1 2 (rows eK (⟨ridxBA, some ⟨q63, 0, some 0⟩, N, N, List.replicate N 0⟩ :: ((ts.take 0).map toK)))] := by
    rw [← zrow8]
    exact F.pick [1, 2] (by decide)
  clear F
  refine k_loop (α := Int × Option Addr × Nat × Nat) (fun ⟨i, x, m, d⟩ s => Facts E0 σ s [own (some ⟨q63, 0, some 0⟩) N N 1 (u8l (List.replicate N 0)), own x m d 2 (rows eK (⟨ridxBA, some ⟨q63, 0, some 0⟩, N, N, List.replicate N 0⟩ :: ((ts.take i.toNat).map toK)))] ∧ 0 ≤ i ∧ i ≤ l ∧ (m : Int) = i + 1) (fun ⟨i, x, m, d⟩ => [(0, .slice a l c), (10, .slice x m d), (66, .slice a l c), (67, .int .i64 l), (68, .int .i64 i)]) (fun ⟨i, _⟩ => (l - i).toNat) (0, some ⟨q65, 0, some 0⟩, 1, 1) ⟨F0, by omega, by omega, by omega⟩ (by repeat (first | exact trivial | refine And.intro rfl ?_)) ?_
  clear F0
  rintro ⟨i, x, m, d⟩ env s Q K2 ⟨F, i0, i1, hm⟩
  refine k_seq (fun Q K => ?_)
  refine k_lin (fun W K => ?_)
  refine l_cmp rfl rfl rfl rfl ?_
  refine l_nil (WK.nx (by assumption) ?_)
  refine SeqK.nx (by assumption) ?_
  refine k_seq (fun Q K => ?_)
  refine l_cond rfl rfl (fun hc7 => ?_) (fun hc7 => ?_)
  · replace hc7 := of_decide_eq_true ((irr_eq _).symm.trans hc7)
    refine k_skip ?_
    refine SeqK.nx (by assumption) ?_
    refine k_seq (fun Q K => ?_)
    refine k_block (fun Q K => ?_)
    refine k_seq (fun Q K => ?_)
    refine k_lin (fun W K => ?_)
    refine l_ixr (e := eR) rfl rfl rfl rfl rfl rfl (F.old ho) ⟨eR_len, by decide⟩ (by omega) (fun m70 b70 hA70 => ?_)
    refine l_lda rfl rfl rfl rfl rfl (by assumption) ?_
    refine l_al F rfl rfl rfl rfl (fun q12 s F => ?_)
    (try dsimp only [n_1, n_2, n_3, n_4, List.append_nil, pk, n_5, n_6] at F)
    refine l_stca F 2 rfl rfl rfl rfl rfl rfl rfl rfl rfl rfl hD rfl (fun s F => ?_)
    (try dsimp only [n_1, n_2, n_3, n_4, List.append_nil, pk, n_5, n_6] at F)
    refine l_nil (WK.nx (by assumption) ?_)
    refine SeqK.nx (by assumption) ?_
    refine k_lin (fun W K => ?_)
    refine l_op 0 rfl rfl rfl rfl rfl ?_
    refine l_op 2 rfl rfl rfl rfl rfl ?_
    refine l_ldc F 2 rfl rfl rfl rfl rfl rfl rfl ?_
    refine l_op 2 rfl rfl rfl rfl rfl ?_
    refine l_ldc F 2 rfl rfl rfl rfl rfl rfl rfl ?_
    refine l_bld rfl rfl rfl rfl ?_
    refine l_lit F rfl rfl rfl rfl (fun q78 s F => ?_)
    (try dsimp only [n_1, n_2, n_3, n_4, List.append_nil, pk, n_5, n_6] at F)
    refine l_app (es := 2) F 1 rfl rfl rfl rfl rfl rfl rfl (F.has 3 rfl) rfl rfl (by omega) hD (fun x2 c2 s F => ?_)
    (try dsimp only [n_1, n_2, n_3, n_4, List.append_nil, pk, n_5, n_6] at F)
    refine l_op 0 rfl rfl rfl rfl rfl ?_
    refine l_nil (WK.nx (by assumption) ?_)
    refine BlkK.nx (by assumption) ?_
    refine SeqK.nx (by assumption) ?_
    refine k_lin (fun W K => ?_)
    refine l_a64 rfl rfl rfl (by omega) rfl ?_
    refine l_op 0 rfl rfl rfl rfl rfl ?_
    refine l_nil (WK.nx (by assumption) ?_)
    have F9 := F.pick [0, 1] (by decide)
    refine K2.nx (i + 1, x2, m + 1, c2) (by repeat (first | exact trivial | refine And.intro rfl ?_)) ⟨?_, by omega, by omega, by omega⟩ (by first | omega | (simp only; omega))
    rw [show (i + 1).toNat = i.toNat + 1 by omega, take_oneR (by omega), List.map_append, ← List.cons_append, rows_append]
    exact F9
  replace hc7 := of_decide_eq_false ((irr_eq _).symm.trans hc7)
  obtain rfl : m = l + 1 := by omega
  rw [show i.toNat = l by omega, List.take_of_length_le (by omega)] at F
  have hN4 : (N : Int) = 4 + 12 * l := by omega
  have hdl : ∀ t ∈ ts, t.d.length = t.l := fun t ht => (h.dat t ht).len8
  have hcB : Bytes (List.replicate N (0 : Int)) := bytes_mem.2 fun z hz => by have := List.eq_of_mem_replicate hz; omega
  have hl3 : ∀ t ∈ (⟨ridxBA, some ⟨q63, 0, some 0⟩, N, N, List.replicate N 0⟩ :: ts.map toK : List CK), t.l ≤ 2000000 := fun t ht => by
    rcases List.mem_cons.1 ht with rfl | ht
    · show N ≤ _; omega
    · obtain ⟨r, hr, rfl⟩ := List.mem_map.1 ht
      have := sumR_mem hr
      show r.l ≤ _; omega
  refine k_exit ?_
  refine SeqK.et (by assumption) ?_
  refine LoopK.et (by assumption) ?_
  refine BlkK.et (by assumption) ?_
  refine SeqK.nx (by assumption) ?_
  refine k_seq (fun Q K => ?_)
  refine k_lin (fun W K => ?_)
  refine l_op 0 rfl rfl rfl rfl rfl ?_
  first | refine l_op 2 rfl rfl rfl rfl rfl ?_ | refine l_ln rfl rfl rfl rfl ?_
  refine l_c32 rfl rfl rfl (by omega) rfl ?_
  refine l_callp F rfl rfl (by kernel_rfl) rfl rfl (wput_call (x := (l : Int)) (n := 4) ⟨by omega, by omega⟩) (fun y s F _ => ?_)
  (try dsimp only [n_1, n_2, n_3, n_4, List.append_nil, pk, n_5, n_6] at F)
  refine l_op 0 rfl rfl rfl rfl rfl ?_
  refine l_nil (WK.nx (by assumption) ?_)
  refine SeqK.nx (by assumption) ?_
  refine k_seq (fun Q K => ?_)
  refine k_seq (fun Q K => ?_)
  refine k_lin (fun W K => ?_)
  refine l_op 0 rfl rfl rfl rfl rfl ?_
  refine l_callp F rfl rfl (by kernel_rfl) rfl rfl (places_call (oldK_lay h F 0 1 rfl rfl hcB ⟨by omega, by decide⟩) hl3 (by omega)) (fun yp s F _ => ?_)
  (try dsimp only [n_1, n_2, n_3, n_4, List.append_nil, pk, n_5, n_6] at F)
  refine l_sl (es := 1) rfl rfl rfl rfl rfl rfl rfl rfl rfl (F.has 3 rfl) (by omega) ?_
  first | refine l_op 2 rfl rfl rfl rfl rfl ?_ | refine l_ln rfl rfl rfl rfl ?_
  refine l_op 0 rfl rfl rfl rfl rfl ?_
  refine l_nil (WK.nx (by assumption) ?_)
  refine SeqK.nx (by assumption) ?_
  refine k_block (fun Q K => ?_)
  have F0 : Facts E0 σ s [own (some ⟨q63, 0, some 0⟩) N N 1 (u8l (List.replicate N 0)), own x (l + 1) d 2 (rows eK (⟨ridxBA, some ⟨q63, 0, some 0⟩, N, N, List.replicate N 0⟩ :: ts.map toK)), own yp.1 (l + 1) yp.2 1 ((plcL ((⟨ridxBA, some ⟨q63, 0, some 0⟩, N, N, List.replicate N 0⟩ :: ts.map toK : List CK).map plK) (l + 1)).map (.int .i64)), own y.1 4 y.2 1 (u8l (putR (l : Int) 4 ++ entsD ts 0))] := by
    have := F.pick [0, 1, 3, 2] (by decide)
    rw [show entsD ts 0 = [] from rfl, List.append_nil]
    exact this
  clear F
  refine k_loop (α := Int × Option Addr × Nat × Nat) (fun ⟨i, x', m', d'⟩ s => Facts E0 σ s [own (some ⟨q63, 0, some 0⟩) N N 1 (u8l (List.replicate N 0)), own x (l + 1) d 2 (rows eK (⟨ridxBA, some ⟨q63, 0, some 0⟩, N, N, List.replicate N 0⟩ :: ts.map toK)), own yp.1 (l + 1) yp.2 1 ((plcL ((⟨ridxBA, some ⟨q63, 0, some 0⟩, N, N, List.replicate N 0⟩ :: ts.map toK : List CK).map plK) (l + 1)).map (.int .i64)), own x' m' d' 1 (u8l (putR (l : Int) 4 ++ entsD ts i.toNat))] ∧ 0 ≤ i ∧ i ≤ l ∧ (m' : Int) = 4 + 12 * i) (fun ⟨i, x', m', d'⟩ => [(0, .slice a l c), (10, .slice x (l + 1) d), (13, .slice x' m' d'), (87, .slice (shift yp.1 (1 * 1)) (l + 1 - 1) (yp.2 - 1)), (88, .int .i64 ((l + 1 - 1 : Nat) : Int)), (89, .int .i64 i)]) (fun ⟨i, _⟩ => (l - i).toNat) (0, y.1, 4, y.2) ⟨F0, by omega, by omega, by omega⟩ (by repeat (first | exact trivial | refine And.intro rfl ?_)) ?_
  clear F0
  rintro ⟨i, x', m', d'⟩ env s Q K3 ⟨F, i0, i1, hm'⟩
  have hpb := plcR_bd (ts := ts) i.toNat hs (by omega)
  refine k_seq (fun Q K => ?_)
  refine k_lin (fun W K => ?_)
  refine l_cmp rfl rfl rfl rfl ?_
  refine l_nil (WK.nx (by assumption) ?_)
  refine SeqK.nx (by assumption) ?_
  refine k_seq (fun Q K => ?_)
  refine l_cond rfl rfl (fun hc8 => ?_) (fun hc8 => ?_)
  · replace hc8 := of_decide_eq_true ((irr_eq _).symm.trans hc8)
    refine k_skip ?_
    refine SeqK.nx (by assumption) ?_
    refine k_seq (fun Q K => ?_)
    refine k_block (fun Q K => ?_)
    refine k_seq (fun Q K => ?_)
    refine k_lin (fun W K => ?_)
    refine l_op 0 rfl rfl rfl rfl rfl ?_
    refine l_ixi rfl rfl rfl rfl rfl rfl ((F.has 2 rfl).part8 (lo := 1) (hi := l + 1) (by omega) (by omega)) (by omega) (fun m92 b92 hA92 => ?_)
    rw [getD_part _ _ _ _ (by omega), show 1 + i.toNat = i.toNat + 1 by omega, plcL_at (by omega), plc_at hdl (by simp only [List.length_replicate]; omega)] at hA92
    have hmem := memR (ts := ts) (i := i.toNat) (by omega)
    have hsm := sumR_mem hmem
    have hu4 := (idR_iff.1 (hall _ hmem).1).1
    rw [ltr_length] at hu4
    have hnm := h.nmb _ hmem
    refine l_ld0 rfl rfl rfl rfl rfl (by assumption) ?_
    refine l_op 0 rfl rfl rfl rfl rfl ?_
    refine l_op 0 rfl rfl rfl rfl rfl ?_
    refine l_nil (WK.nx (by assumption) ?_)
    refine SeqK.nx (by assumption) ?_
    refine k_seq (fun Q K => ?_)
    refine k_lin (fun W K => ?_)
    refine l_op 0 rfl rfl rfl rfl rfl ?_
    refine l_op 0 rfl rfl rfl rfl rfl ?_
    refine l_op 0 rfl rfl rfl rfl rfl ?_
    refine l_ixr (e := eR) rfl rfl rfl rfl rfl rfl (F.old ho) ⟨eR_len, by decide⟩ (by omega) (fun m97 b97 hA97 => ?_)
    refine l_op 2 rfl rfl rfl rfl rfl ?_
    refine l_ld0 rfl rfl rfl rfl rfl (by assumption) ?_
    refine l_apps F 3 rfl rfl rfl rfl rfl rfl rfl rfl (by omega) hD (fun a4 c4 s F => ?_)
    (try dsimp only [n_1, n_2, n_3, n_4, List.append_nil, pk, n_5, n_6] at F)
    refine l_op 0 rfl rfl rfl rfl rfl ?_
    refine l_nil (WK.nx (by assumption) ?_)
    refine SeqK.nx (by assumption) ?_
    refine k_seq (fun Q K => ?_)
    refine k_lin (fun W K => ?_)
    refine l_op 0 rfl rfl rfl rfl rfl ?_
    refine l_op 0 rfl rfl rfl rfl rfl ?_
    refine l_op 0 rfl rfl rfl rfl rfl ?_
    refine l_ixr (e := eR) rfl rfl rfl rfl rfl rfl (F.old ho) ⟨eR_len, by decide⟩ (by omega) (fun m104 b104 hA104 => ?_)
    refine l_op 2 rfl rfl rfl rfl rfl ?_
    refine l_ldj rfl rfl rfl rfl rfl rfl (by assumption) rfl ?_
    refine l_callp F rfl rfl (by kernel_rfl) rfl rfl (wput_call (x := (ts.getD i.toNat default).nm) (n := 4) hnm) (fun y2 s F _ => ?_)
    (try dsimp only [n_1, n_2, n_3, n_4, List.append_nil, pk, n_5, n_6] at F)
    have hp5 : (putR (ts.getD i.toNat default).nm 4).length = 4 := rfl
    refine l_appi F 3 rfl rfl rfl rfl rfl rfl rfl (F.has 4 rfl) rfl (by omega) hD (fun a5 c5 s F => ?_)
    (try dsimp only [n_1, n_2, n_3, n_4, List.append_nil, pk, n_5, n_6] at F)
    refine l_op 0 rfl rfl rfl rfl rfl ?_
    refine l_nil (WK.nx (by assumption) ?_)
    refine SeqK.nx (by assumption) ?_
    refine k_lin (fun W K => ?_)
    refine l_op 0 rfl rfl rfl rfl rfl ?_
    refine l_op 0 rfl rfl rfl rfl rfl ?_
    refine l_c32 rfl rfl rfl (by omega) rfl ?_
    refine l_callp F rfl rfl (by kernel_rfl) rfl rfl (wput_call (x := plcR ts i.toNat) (n := 4) ⟨by omega, by omega⟩) (fun y3 s F _ => ?_)
    (try dsimp only [n_1, n_2, n_3, n_4, List.append_nil, pk, n_5, n_6] at F)
    have hp6 : (putR (plcR ts i.toNat) 4).length = 4 := rfl
    refine l_appi F 3 rfl rfl rfl rfl rfl rfl rfl (F.has 5 rfl) rfl (by omega) hD (fun a6 c6 s F => ?_)
    (try dsimp only [n_1, n_2, n_3, n_4, List.append_nil, pk, n_5, n_6] at F)
    refine l_op 0 rfl rfl rfl rfl rfl ?_
    refine l_nil (WK.nx (by assumption) ?_)
    refine BlkK.nx (by assumption) ?_
    refine SeqK.nx (by assumption) ?_
    refine k_lin (fun W K => ?_)
    refine l_a64 rfl rfl rfl (by omega) rfl ?_
    refine l_op 0 rfl rfl rfl rfl rfl ?_
    refine l_nil (WK.nx (by assumption) ?_)
    have F9 := F.pick [0, 1, 2, 3] (by decide)
    refine K3.nx (i + 1, a6, _, c6) (by repeat (first | exact trivial | refine And.intro rfl ?_)) ⟨?_, by omega, by omega, ?_⟩ (by first | omega | (simp only; omega))
    · rw [show (i + 1).toNat = i.toNat + 1 by omega, entsD_succ]
      have e9 : putR (l : Int) 4 ++ (entsD ts i.toNat ++ entD ts i.toNat) = putR (l : Int) 4 ++ entsD ts i.toNat ++ ltr (ts.getD i.toNat default).us ++ putR (ts.getD i.toNat default).nm 4 ++ putR (plcR ts i.toNat) 4 := by
        unfold entD; simp only [List.append_assoc]
      rw [e9]
      exact F9
    · rw [hp5, hp6, hu4]; omega
  replace hc8 := of_decide_eq_false ((irr_eq _).symm.trans hc8)
  refine k_exit ?_
  refine SeqK.et (by assumption) ?_
  refine LoopK.et (by assumption) ?_
  refine BlkK.et (by assumption) ?_
  refine SeqK.nx (by assumption) ?_
  refine k_seq (fun Q K => ?_)
  refine k_lin (fun W K => ?_)
  refine l_op 0 rfl rfl rfl rfl rfl ?_
  refine l_op 0 rfl rfl rfl rfl rfl ?_
  refine l_ixor (e := eK) F 1 rfl ⟨eK_len, by decide⟩ rfl rfl rfl rfl rfl rfl (by omega) (fun m117 e117 ha117 hA117 => ?_)
  cases ha117
  refine l_op 2 rfl rfl rfl rfl rfl ?_
  refine l_sto (j := 1) F 1 rfl rfl rfl rfl rfl rfl rfl rfl (by omega) hD (fun s F => ?_)
  have hiD : putR (l : Int) 4 ++ entsD ts i.toNat = idxD ts := by unfold idxD; rw [show i.toNat = ts.length by omega, htl]
  have F2 : Facts E0 σ s [own (some ⟨q63, 0, some 0⟩) N N 1 (u8l (List.replicate N 0)), own (some ⟨m117, 0, e117⟩) (l + 1) d 2 (rows eK (⟨ridxBA, x', m', d', idxD ts⟩ :: ts.map toK)), own yp.1 (l + 1) yp.2 1 ((plcL ((⟨ridxBA, some ⟨q63, 0, some 0⟩, N, N, List.replicate N 0⟩ :: ts.map toK : List CK).map plK) (l + 1)).map (.int .i64)), own x' m' d' 1 (u8l (idxD ts))] := by
    rw [hiD] at F
    exact F
  clear F
  have F := F2
  have hmi : m' = (idxD ts).length := by rw [idxD_len hall]; omega
  refine l_nil (WK.nx (by assumption) ?_)
  refine SeqK.nx (by assumption) ?_
  refine k_seq (fun Q K => ?_)
  refine k_lin (fun W K => ?_)
  refine l_op 0 rfl rfl rfl rfl rfl ?_
  refine l_callp F rfl rfl (by kernel_rfl) rfl rfl (build_call (kind := kindBA) (oldK_lay h F 3 1 rfl rfl (bytes_idxD ts) ⟨by omega, by decide⟩) (by omega) (by have := sumK_toK ts; show (m' : Int) + 4 + sumK (ts.map toK) ≤ _; omega) (by decide)) (fun yb s F hyb => ?_)
  (try dsimp only [n_1, n_2, n_3, n_4, List.append_nil, pk, n_5, n_6] at F)
  refine l_op 2 rfl rfl rfl rfl rfl ?_
  refine l_op 2 rfl rfl rfl rfl rfl ?_
  refine l_op 0 rfl rfl rfl rfl rfl ?_
  refine l_op 0 rfl rfl rfl rfl rfl ?_
  refine l_nil (WK.nx (by assumption) ?_)
  refine SeqK.nx (by assumption) ?_
  refine k_ret ?_
  refine FunK.rt (by assumption) rfl ?_
  -- leaf 5
  first
  | (exact lay_bad (F.pick [] (by decide)) (.inl ⟨rfl, rfl, hbad⟩))
  | (exact lay_bad (F.pick [] (by decide)) (.inr ⟨hall, .inl ⟨rfl, rfl, by omega⟩⟩))
  | (exact lay_bad (F.pick [] (by decide)) (.inr ⟨hall, .inr ⟨by omega, .inl ⟨rfl, rfl, hdup⟩⟩⟩))
  | (refine ⟨yb, rfl, F.pick [4] (by decide), .inr ⟨hall, .inr ⟨by omega, .inr ⟨hnd2, ?_⟩⟩⟩⟩
     rw [hmi] at hyb
     exact bldP_head hyb)

end Go.Proofs.Ytkmkbpnlccomnaa
