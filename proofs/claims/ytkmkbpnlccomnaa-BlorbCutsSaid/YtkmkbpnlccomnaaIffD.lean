/- A form is read, by the program. No statement of the seat is proved in this text. -/
import Derived.Test.YtkmkbpnlccomnaaIffC
set_option linter.unusedVariables false
set_option linter.unusedSimpArgs false
set_option maxRecDepth 100000
set_option maxHeartbeats 4000000
namespace Go.Proofs.Ytkmkbpnlccomnaa
open GAb Go

abbrev dK (t : CK) : Fact := own t.x t.l t.c 1 (u8l t.d)
abbrev plK (t : CK) : List Int × List Int := (ltr t.id, t.d)
theorem eK_one (ts : List CK) : (rows eK ts).all Value.oneCell' = true := by
  rw [rows, List.all_flatMap, List.all_eq_true]; intro t _; rfl
/-- Bounds of what was read. -/
def BdK (ts : List CK) : Prop := ∀ t ∈ ts, Bytes t.d ∧ t.l ≤ 2000000 ∧ t.id.size = 4
/-- Chunks of one's own, read. -/
theorem Facts.oldK {O : Nat → Prop} {σ0 σ : AState} {L : List Fact} (F : Facts O σ0 σ L) (i j : Nat) {ts : List CK} {a : Option Addr} {l c : Nat} (hi : L[i]? = some (many (ts.map dK))) (hj : L[j]? = some (own a l c 2 (rows eK ts))) (hb : BdK ts) : OldK E0 σ a l c ts :=
  ⟨Old.pure (F.has j hj), fun t ht => Old.pure (F.hasM i hi (List.mem_map_of_mem ht)), fun t ht => (hb t ht).1, fun t ht => by obtain ⟨_, h1, h2⟩ := hb t ht; omega⟩
abbrev PY := ByteArray × Option Addr × Nat × Nat × List CK
abbrev parV (bs : List Int) (y : PY) : Value := .tuple #[.string y.1, .slice y.2.1 y.2.2.1 y.2.2.2.1, .int .i64 (parseR bs).1, .int .i64 (parseR bs).2.1]
abbrev parF (y : PY) : List Fact := [many (y.2.2.2.2.map dK), own y.2.1 y.2.2.1 y.2.2.2.1 2 (rows eK y.2.2.2.2)]
def ParP (bs : List Int) (y : PY) : Prop := ltr y.1 = (parseR bs).2.2.1 ∧ y.2.2.2.2.map plK = (parseR bs).2.2.2 ∧ BdK y.2.2.2.2
theorem par_bad {bs : List Int} {σ s : AState} (F : Facts E0 σ s []) {e at_ : Int} (h : parseR bs = (e, at_, [], [])) : Ret E0 σ (parV bs) parF (ParP bs) (one [.string ⟨#[]⟩, .slice none 0 0, .int .i64 e, .int .i64 at_]) s :=
  ⟨(⟨#[]⟩, none, 0, 0, []), by rw [parV, h]; rfl, (F.nilrow 2).nomany, by rw [h]; rfl, by rw [h]; rfl, fun t ht => by cases ht⟩

theorem size_call2 {σ : AState} {id : ByteArray} {x : Option Addr} {l c : Nat} (hl : l ≤ 100000000) : SCall Try.prog E0 43 [.agg #[.string id, .slice x l c]] σ (Ret E0 σ (fun (_ : Unit) => .int .i64 (8 + l + (l : Int) % 2)) (fun _ => []) fun _ => True) := size_call (t := ⟨id, x, l, c, []⟩) hl
theorem parse_call {σ : AState} {a : Option Addr} {l c : Nat} {bs : List Int} (hl : Old E0 σ a l c 1 (u8l bs)) (hB : Bytes bs) (hn : l ≤ 2000000) (hc : a = none ∨ 0 < c) :
    SCall Try.prog E0 30 [.slice a l c] σ (Ret E0 σ (parV bs) parF (ParP bs)) := by
  have hbl := hl.len8
  refine k_fun Try.func30 rfl (m := 54) rfl fun B hD Q K => ?_
  have F := Facts.nil E0 σ
  refine k_seq (fun Q K => ?_)
  refine k_lin (fun W K => ?_)
  refine l_op 0 rfl rfl rfl rfl rfl ?_
  refine l_op 0 rfl rfl rfl rfl rfl ?_
  refine l_op 0 rfl rfl rfl rfl rfl ?_
  refine l_op 0 rfl rfl rfl rfl rfl ?_
  refine l_nil (WK.nx (by assumption) ?_)
  refine SeqK.nx (by assumption) ?_
  refine k_seq (fun Q K => ?_)
  refine k_seq (fun Q K => ?_)
  refine k_lin (fun W K => ?_)
  refine l_op 0 rfl rfl rfl rfl rfl ?_
  refine l_callp F rfl rfl (by kernel_rfl) rfl rfl (head_call (Old.pure (F.old hl)) hB hn hc) (fun y s F _ => ?_)
  refine l_op 0 rfl rfl rfl rfl rfl ?_
  refine l_op 2 rfl rfl rfl rfl rfl ?_
  refine l_op 2 rfl rfl rfl rfl rfl ?_
  refine l_op 0 rfl rfl rfl rfl rfl ?_
  refine l_op 0 rfl rfl rfl rfl rfl ?_
  refine l_nil (WK.nx (by assumption) ?_)
  refine SeqK.nx (by assumption) ?_
  refine k_seq (fun Q K => ?_)
  refine k_lin (fun W K => ?_)
  refine l_op 0 rfl rfl rfl rfl rfl ?_
  refine l_cmp rfl rfl rfl rfl ?_
  refine l_nil (WK.nx (by assumption) ?_)
  refine SeqK.nx (by assumption) ?_
  refine l_cond rfl rfl (fun hc1 => ?_) (fun hc1 => ?_)
  · first | replace hc1 := bne_iff_ne.1 ((irr_eq _).symm.trans hc1) | simp only [irr_eq, bne_iff_ne, bne_eq_false_iff_eq, ne_eq, decide_eq_true_eq, decide_eq_false_iff_not, Bool.not_eq_true', Bool.not_eq_false'] at hc1
    refine k_seq (fun Q K => ?_)
    refine k_lin (fun W K => ?_)
    refine l_op 0 rfl rfl rfl rfl rfl ?_
    refine l_op 0 rfl rfl rfl rfl rfl ?_
    refine l_op 0 rfl rfl rfl rfl rfl ?_
    refine l_op 0 rfl rfl rfl rfl rfl ?_
    refine l_op 0 rfl rfl rfl rfl rfl ?_
    refine l_op 0 rfl rfl rfl rfl rfl ?_
    refine l_nil (WK.nx (by assumption) ?_)
    refine SeqK.nx (by assumption) ?_
    refine k_ret ?_
    refine SeqK.rt (by assumption) ?_
    refine FunK.rt (by assumption) rfl ?_
    -- leaf 1
    first
    | (refine par_bad (F.pick [] (by decide)) ?_
       unfold parseR; rw [if_pos hc1]; done)
    | (refine par_bad (F.pick [] (by decide)) ?_
       have hml := (F.has 1 rfl).len eK_len (by decide)
       rw [goK_eq (by omega), if_pos (by omega), if_pos (by rw [List.length_map]; omega)] at hgo
       rw [parse_go hc1 hgo.symm]; rfl)
    | (refine par_bad (F.pick [] (by decide)) ?_
       have hml := (F.has 1 rfl).len eK_len (by decide)
       rw [goK_eq (by omega), if_pos (by omega), if_neg (by rw [List.length_map]; omega), if_pos (by assumption)] at hgo
       rw [parse_go hc1 hgo.symm, if_pos (by assumption)])
    | (rw [goK_eq (by omega), if_neg (by omega)] at hgo
       have hp := parse_go hc1 hgo.symm
       rw [if_neg (by decide)] at hp
       refine ⟨(strOfNums (List.take (12 - 8) (List.drop 8 bs)), x, m, d, ts), ?_, F, ?_⟩
       · rw [parV, hp, ← hbl]; rfl
       · rw [ParP, hp]
         exact ⟨ltr_str ((hB.drop _).take _), rfl, hbd⟩)
  first | replace hc1 := bne_eq_false_iff_eq.1 ((irr_eq _).symm.trans hc1) | simp only [irr_eq, bne_iff_ne, bne_eq_false_iff_eq, ne_eq, decide_eq_true_eq, decide_eq_false_iff_not, Bool.not_eq_true', Bool.not_eq_false'] at hc1
  have hh := head_ok hc1
  refine k_skip ?_
  refine SeqK.nx (by assumption) ?_
  refine k_seq (fun Q K => ?_)
  refine k_seq (fun Q K => ?_)
  refine k_lin (fun W K => ?_)
  refine l_op 0 rfl rfl rfl rfl rfl ?_
  refine l_nil (WK.nx (by assumption) ?_)
  refine SeqK.nx (by assumption) ?_
  refine k_block (fun Q K => ?_)
  refine k_loop (α := Int × Option Addr × Nat × Nat × List CK × Nat) (fun ⟨p, x, m, d, ts, k⟩ s => Facts E0 σ s [many (ts.map dK), own x m d 2 (rows eK ts)] ∧ 12 ≤ p ∧ p ≤ l ∧ (l : Int) - p < k ∧ BdK ts ∧ goK bs k p (ts.map plK) = goK bs bs.length 12 [] ∧ (m : Int) ≤ p) (fun ⟨p, x, m, d, ts, k⟩ => [(0, .slice a l c), (3, .slice x m d), (8, .int .i64 p)]) (fun ⟨p, _⟩ => (l - p).toNat) (12, none, 0, 0, [], bs.length) ⟨((F.pick [] (by decide)).nilrow 2).nomany, by omega, by omega, by omega, (fun t ht => by cases ht), rfl, by omega⟩ (by repeat (first | exact trivial | refine And.intro rfl ?_)) ?_
  clear F
  rintro ⟨p, x, m, d, ts, k⟩ env s Q K0 ⟨F, p0, p1, hk, hbd, hgo, hm⟩
  refine k_seq (fun Q K => ?_)
  refine k_seq (fun Q K => ?_)
  refine k_lin (fun W K => ?_)
  refine l_op 0 rfl rfl rfl rfl rfl ?_
  refine l_op 0 rfl rfl rfl rfl rfl ?_
  first | refine l_op 2 rfl rfl rfl rfl rfl ?_ | refine l_ln rfl rfl rfl rfl ?_
  refine l_cmp rfl rfl rfl rfl ?_
  refine l_nil (WK.nx (by assumption) ?_)
  refine SeqK.nx (by assumption) ?_
  refine l_cond rfl rfl (fun hc2 => ?_) (fun hc2 => ?_)
  · replace hc2 := of_decide_eq_true ((irr_eq _).symm.trans hc2)
    refine k_skip ?_
    refine SeqK.nx (by assumption) ?_
    refine k_block (fun Q K => ?_)
    refine k_seq (fun Q K => ?_)
    refine k_seq (fun Q K => ?_)
    refine k_lin (fun W K => ?_)
    refine l_op 0 rfl rfl rfl rfl rfl ?_
    first | refine l_op 2 rfl rfl rfl rfl rfl ?_ | refine l_ln rfl rfl rfl rfl ?_
    refine l_cmp rfl rfl rfl rfl ?_
    refine l_nil (WK.nx (by assumption) ?_)
    refine SeqK.nx (by assumption) ?_
    refine l_cond rfl rfl (fun hc3 => ?_) (fun hc3 => ?_)
    · first | replace hc3 := eq_of_beq ((irr_eq _).symm.trans hc3) | simp only [irr_eq, beq_iff_eq, beq_eq_false_iff_ne, ne_eq, decide_eq_true_eq, decide_eq_false_iff_not] at hc3
      refine k_seq (fun Q K => ?_)
      refine k_lin (fun W K => ?_)
      refine l_op 0 rfl rfl rfl rfl rfl ?_
      refine l_op 0 rfl rfl rfl rfl rfl ?_
      refine l_op 0 rfl rfl rfl rfl rfl ?_
      refine l_op 0 rfl rfl rfl rfl rfl ?_
      refine l_op 0 rfl rfl rfl rfl rfl ?_
      refine l_nil (WK.nx (by assumption) ?_)
      refine SeqK.nx (by assumption) ?_
      refine k_ret ?_
      refine SeqK.rt (by assumption) ?_
      refine BlkK.rt (by assumption) ?_
      refine LoopK.rt (by assumption) ?_
      refine BlkK.rt (by assumption) ?_
      refine SeqK.rt (by assumption) ?_
      refine FunK.rt (by assumption) rfl ?_
      -- leaf 2
      first
      | (refine par_bad (F.pick [] (by decide)) ?_
         unfold parseR; rw [if_pos hc1]; done)
      | (refine par_bad (F.pick [] (by decide)) ?_
         have hml := (F.has 1 rfl).len eK_len (by decide)
         rw [goK_eq (by omega), if_pos (by omega), if_pos (by rw [List.length_map]; omega)] at hgo
         rw [parse_go hc1 hgo.symm]; rfl)
      | (refine par_bad (F.pick [] (by decide)) ?_
         have hml := (F.has 1 rfl).len eK_len (by decide)
         rw [goK_eq (by omega), if_pos (by omega), if_neg (by rw [List.length_map]; omega), if_pos (by assumption)] at hgo
         rw [parse_go hc1 hgo.symm, if_pos (by assumption)])
      | (rw [goK_eq (by omega), if_neg (by omega)] at hgo
         have hp := parse_go hc1 hgo.symm
         rw [if_neg (by decide)] at hp
         refine ⟨(strOfNums (List.take (12 - 8) (List.drop 8 bs)), x, m, d, ts), ?_, F, ?_⟩
         · rw [parV, hp, ← hbl]; rfl
         · rw [ParP, hp]
           exact ⟨ltr_str ((hB.drop _).take _), rfl, hbd⟩)
    first | replace hc3 := ne_of_beq_false ((irr_eq _).symm.trans hc3) | simp only [irr_eq, beq_iff_eq, beq_eq_false_iff_ne, ne_eq, decide_eq_true_eq, decide_eq_false_iff_not] at hc3
    refine k_skip ?_
    refine SeqK.nx (by assumption) ?_
    refine k_seq (fun Q K => ?_)
    refine k_lin (fun W K => ?_)
    refine l_op 0 rfl rfl rfl rfl rfl ?_
    refine l_op 0 rfl rfl rfl rfl rfl ?_
    refine l_callp F rfl rfl (by kernel_rfl) rfl rfl (chunk_call (p := p) (Old.pure (F.old hl)) hB hn (by omega)) (fun y s F hy => ?_)
    refine l_op 0 rfl rfl rfl rfl rfl ?_
    refine l_op 2 rfl rfl rfl rfl rfl ?_
    refine l_op 2 rfl rfl rfl rfl rfl ?_
    refine l_op 2 rfl rfl rfl rfl rfl ?_
    refine l_al F rfl rfl rfl rfl (fun q9 s F => ?_)
    (try dsimp only [n_1, n_2, n_3, n_4, List.append_nil, pk, n_5, n_6] at F)
    refine l_stca F 3 rfl rfl rfl rfl rfl rfl rfl rfl rfl rfl hD rfl (fun s F => ?_)
    (try dsimp only [n_1, n_2, n_3, n_4, List.append_nil, pk, n_5, n_6] at F)
    refine l_op 0 rfl rfl rfl rfl rfl ?_
    refine l_op 0 rfl rfl rfl rfl rfl ?_
    refine l_nil (WK.nx (by assumption) ?_)
    refine SeqK.nx (by assumption) ?_
    refine k_seq (fun Q K => ?_)
    refine k_seq (fun Q K => ?_)
    refine k_lin (fun W K => ?_)
    refine l_op 0 rfl rfl rfl rfl rfl ?_
    refine l_cmp rfl rfl rfl rfl ?_
    refine l_nil (WK.nx (by assumption) ?_)
    refine SeqK.nx (by assumption) ?_
    refine l_cond rfl rfl (fun hc4 => ?_) (fun hc4 => ?_)
    · first | replace hc4 := bne_iff_ne.1 ((irr_eq _).symm.trans hc4) | simp only [irr_eq, bne_iff_ne, bne_eq_false_iff_eq, ne_eq, decide_eq_true_eq, decide_eq_false_iff_not, Bool.not_eq_true', Bool.not_eq_false'] at hc4
      refine k_seq (fun Q K => ?_)
      refine k_lin (fun W K => ?_)
      refine l_op 0 rfl rfl rfl rfl rfl ?_
      refine l_op 0 rfl rfl rfl rfl rfl ?_
      refine l_op 0 rfl rfl rfl rfl rfl ?_
      refine l_op 0 rfl rfl rfl rfl rfl ?_
      refine l_op 0 rfl rfl rfl rfl rfl ?_
      refine l_op 0 rfl rfl rfl rfl rfl ?_
      refine l_nil (WK.nx (by assumption) ?_)
      refine SeqK.nx (by assumption) ?_
      refine k_ret ?_
      refine SeqK.rt (by assumption) ?_
      refine BlkK.rt (by assumption) ?_
      refine LoopK.rt (by assumption) ?_
      refine BlkK.rt (by assumption) ?_
      refine SeqK.rt (by assumption) ?_
      refine FunK.rt (by assumption) rfl ?_
      -- leaf 3
      first
      | (refine par_bad (F.pick [] (by decide)) ?_
         unfold parseR; rw [if_pos hc1]; done)
      | (refine par_bad (F.pick [] (by decide)) ?_
         have hml := (F.has 1 rfl).len eK_len (by decide)
         rw [goK_eq (by omega), if_pos (by omega), if_pos (by rw [List.length_map]; omega)] at hgo
         rw [parse_go hc1 hgo.symm]; rfl)
      | (refine par_bad (F.pick [] (by decide)) ?_
         have hml := (F.has 1 rfl).len eK_len (by decide)
         rw [goK_eq (by omega), if_pos (by omega), if_neg (by rw [List.length_map]; omega), if_pos (by assumption)] at hgo
         rw [parse_go hc1 hgo.symm, if_pos (by assumption)])
      | (rw [goK_eq (by omega), if_neg (by omega)] at hgo
         have hp := parse_go hc1 hgo.symm
         rw [if_neg (by decide)] at hp
         refine ⟨(strOfNums (List.take (12 - 8) (List.drop 8 bs)), x, m, d, ts), ?_, F, ?_⟩
         · rw [parV, hp, ← hbl]; rfl
         · rw [ParP, hp]
           exact ⟨ltr_str ((hB.drop _).take _), rfl, hbd⟩)
    first | replace hc4 := bne_eq_false_iff_eq.1 ((irr_eq _).symm.trans hc4) | simp only [irr_eq, bne_iff_ne, bne_eq_false_iff_eq, ne_eq, decide_eq_true_eq, decide_eq_false_iff_not, Bool.not_eq_true', Bool.not_eq_false'] at hc4
    have ho := chunkE_ok hc4
    have hs := stepP_bd hB hc4
    have hL := chunkI_len hB (p := p) (by omega) hc4
    have hbb := be_lt4 hB (p + 4).toNat (k := 4) (by omega)
    have hI := hy hc4
    have hbI := chunkI_bytes hB p
    rw [← hI] at hL hbI
    dsimp only at hL hbI
    have hyl := F.len8 2 rfl
    have hml : ts.length = m := (F.has 1 rfl).len eK_len (by decide)
    have hidl := ltr_length y.1
    refine k_skip ?_
    refine SeqK.nx (by assumption) ?_
    refine k_seq (fun Q K => ?_)
    refine k_lin (fun W K => ?_)
    refine l_op 0 rfl rfl rfl rfl rfl ?_
    refine l_ldca F 3 rfl rfl rfl rfl rfl rfl rfl ?_
    refine l_lit F rfl rfl rfl rfl (fun q42 s F => ?_)
    (try dsimp only [n_1, n_2, n_3, n_4, List.append_nil, pk, n_5, n_6] at F)
    refine l_app (es := 2) F 1 rfl rfl rfl rfl rfl rfl rfl (F.has 4 rfl) rfl rfl (by omega) hD (fun x2 c2 s F => ?_)
    refine l_op 0 rfl rfl rfl rfl rfl ?_
    refine l_nil (WK.nx (by assumption) ?_)
    refine SeqK.nx (by assumption) ?_
    refine k_lin (fun W K => ?_)
    refine l_op 0 rfl rfl rfl rfl rfl ?_
    refine l_ldca F 3 rfl rfl rfl rfl rfl rfl rfl ?_
    refine l_callp F rfl rfl (by kernel_rfl) rfl rfl (size_call2 (by omega)) (fun _ s F _ => ?_)
    (try dsimp only [n_1, n_2, n_3, n_4, List.append_nil, pk, n_5, n_6] at F)
    refine l_a64 rfl rfl rfl (by omega) rfl ?_
    refine l_op 0 rfl rfl rfl rfl rfl ?_
    refine l_nil (WK.nx (by assumption) ?_)
    refine BlkK.nx (by assumption) ?_
    have hstep : stepP bs p = p + (8 + (y.2.2.1 : Int) + (y.2.2.1 : Int) % 2) := by
      unfold stepP; rw [← hL.2, ← hyl]
    have F9 := (F.pick [0, 2, 1] (by decide)).join
    have hgo2 := hgo
    rw [goK_eq (by omega), if_pos (by omega), if_neg (by rw [List.length_map]; omega), if_neg (not_not_intro (by assumption)), ← hI] at hgo2
    refine K0.nx (_, x2, m + 1, c2, ts ++ [⟨y.1, y.2.1, y.2.2.1, y.2.2.2.1, y.2.2.2.2⟩], k - 1) (by repeat (first | exact trivial | refine And.intro rfl ?_)) ⟨?_, by omega, by omega, by omega, ?_, ?_, by omega⟩ (by first | omega | (simp only; omega))
    · rw [List.map_append, rows_append]; exact F9
    · intro t ht
      rcases List.mem_append.1 ht with ht | ht
      · exact hbd t ht
      · rw [List.mem_singleton.1 ht]; exact ⟨hbI.2, by simp only; omega, by simp only; omega⟩
    · rw [List.map_append, ← hstep]; exact hgo2
  replace hc2 := of_decide_eq_false ((irr_eq _).symm.trans hc2)
  refine k_exit ?_
  refine SeqK.et (by assumption) ?_
  refine LoopK.et (by assumption) ?_
  refine BlkK.et (by assumption) ?_
  refine SeqK.nx (by assumption) ?_
  refine k_seq (fun Q K => ?_)
  refine k_lin (fun W K => ?_)
  refine l_op 0 rfl rfl rfl rfl rfl ?_
  first | refine l_sl rfl rfl rfl rfl rfl rfl rfl rfl ⟨rfl, _, _, rfl, by omega, rfl⟩ (F.old (by assumption)) (by omega) ?_ | refine l_sl rfl rfl rfl rfl rfl rfl rfl rfl ⟨rfl, _, _, rfl, by omega, rfl⟩ (F.has 0 rfl) (by omega) ?_ | refine l_sl rfl rfl rfl rfl rfl rfl rfl rfl ⟨rfl, _, _, rfl, by omega, rfl⟩ (F.has 1 rfl) (by omega) ?_ | refine l_sl rfl rfl rfl rfl rfl rfl rfl rfl ⟨rfl, _, _, rfl, by omega, rfl⟩ (F.has 2 rfl) (by omega) ?_ | refine l_sl rfl rfl rfl rfl rfl rfl rfl rfl ⟨rfl, _, _, rfl, by omega, rfl⟩ (F.has 3 rfl) (by omega) ?_
  refine l_str rfl rfl rfl rfl rfl (F.old (hl.part8 (lo := 8) (hi := 12) (by omega) (by omega))) ?_
  refine l_op 0 rfl rfl rfl rfl rfl ?_
  refine l_op 0 rfl rfl rfl rfl rfl ?_
  first | refine l_op 2 rfl rfl rfl rfl rfl ?_ | refine l_ln rfl rfl rfl rfl ?_
  refine l_op 0 rfl rfl rfl rfl rfl ?_
  refine l_op 0 rfl rfl rfl rfl rfl ?_
  refine l_op 0 rfl rfl rfl rfl rfl ?_
  refine l_op 0 rfl rfl rfl rfl rfl ?_
  refine l_nil (WK.nx (by assumption) ?_)
  refine SeqK.nx (by assumption) ?_
  refine k_ret ?_
  refine FunK.rt (by assumption) rfl ?_
  -- leaf 4
  first
  | (refine par_bad (F.pick [] (by decide)) ?_
     unfold parseR; rw [if_pos hc1]; done)
  | (refine par_bad (F.pick [] (by decide)) ?_
     have hml := (F.has 1 rfl).len eK_len (by decide)
     rw [goK_eq (by omega), if_pos (by omega), if_pos (by rw [List.length_map]; omega)] at hgo
     rw [parse_go hc1 hgo.symm]; rfl)
  | (refine par_bad (F.pick [] (by decide)) ?_
     have hml := (F.has 1 rfl).len eK_len (by decide)
     rw [goK_eq (by omega), if_pos (by omega), if_neg (by rw [List.length_map]; omega), if_pos (by assumption)] at hgo
     rw [parse_go hc1 hgo.symm, if_pos (by assumption)])
  | (rw [goK_eq (by omega), if_neg (by omega)] at hgo
     have hp := parse_go hc1 hgo.symm
     rw [if_neg (by decide)] at hp
     refine ⟨(strOfNums (List.take (12 - 8) (List.drop 8 bs)), x, m, d, ts), ?_, F, ?_⟩
     · rw [parV, hp, ← hbl]; rfl
     · rw [ParP, hp]
       exact ⟨ltr_str ((hB.drop _).take _), rfl, hbd⟩)

end Go.Proofs.Ytkmkbpnlccomnaa
