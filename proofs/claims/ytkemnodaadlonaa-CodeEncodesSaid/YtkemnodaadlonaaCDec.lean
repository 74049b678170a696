/- The instruction at a place, by the program. No statement of the seat is proved in this text. -/
import Derived.Test.YtkemnodaadlonaaCPut
import Derived.Test.YtkemnodaadlonaaCTab2
set_option linter.unusedVariables false
set_option linter.unusedSimpArgs false
set_option maxRecDepth 100000
set_option maxHeartbeats 4000000
namespace Go.Proofs.Ytkemnodaadlonaa
open GAb Go

abbrev eO (x : Int × Int) : List Value := [.int .i64 x.1, .int .u32 x.2]
theorem eO_len (x : Int × Int) : (eO x).length = 2 := rfl
theorem rowsO_set1 : ∀ (L : List (Int × Int)) (i : Nat) (v : Int), i < L.length → (rows eO L).set (i * 2) (.int .i64 v) = rows eO (L.set i (v, (L.getD i default).2))
  | [], _, _, h => by simp at h
  | x :: L, 0, v, _ => rfl
  | x :: L, i + 1, v, h => by
    have ih := rowsO_set1 L i v (by simpa using h)
    have e : (i + 1) * 2 = i * 2 + 1 + 1 := by omega
    rw [e]
    show eO x ++ (rows eO L).set (i * 2) _ = eO x ++ rows eO (L.set i _)
    rw [ih]
    rfl
theorem rowsO_set2 : ∀ (L : List (Int × Int)) (i : Nat) (v : Int), i < L.length → (rows eO L).set (i * 2 + 1) (.int .u32 v) = rows eO (L.set i ((L.getD i default).1, v))
  | [], _, _, h => by simp at h
  | x :: L, 0, v, _ => rfl
  | x :: L, i + 1, v, h => by
    have ih := rowsO_set2 L i v (by simpa using h)
    have e : (i + 1) * 2 + 1 = i * 2 + 1 + 1 + 1 := by omega
    rw [e]
    show eO x ++ (rows eO L).set (i * 2 + 1) _ = eO x ++ rows eO (L.set i _)
    rw [ih]
    rfl
theorem zrowO (n : Nat) : zrow [Value.int .i64 0, Value.int .u32 0] n = rows eO (List.replicate n (0, 0)) := by
  induction n with
  | zero => rfl
  | succ n ih =>
    have : zrow [Value.int .i64 0, Value.int .u32 0] (n + 1) = Value.int .i64 0 :: Value.int .u32 0 :: zrow [Value.int .i64 0, Value.int .u32 0] n := by
      simp [zrow, List.replicate_succ]
    rw [this, ih, List.replicate_succ]
    rfl
/-- An instruction's letters, by its number. -/
def sgR (op : Int) : Option (List Int) := if (sigP op).2 = true then some (ltr (sigP op).1) else none
theorem sg_dom (op : Int) (h : sgR op ≠ none) : 0 ≤ op ∧ op < 16384 := by
  unfold sgR sigP at h
  cases hf : findR op with
  | none => rw [hf] at h; simp at h
  | some r =>
    obtain ⟨h1, h2⟩ := find_mem hf
    have := List.all_eq_true.1 tbl_small r h1
    simp at this
    omega
theorem sg_len {op : Int} {s : List Int} (h : sgR op = some s) : s.length ≤ 8 := by
  unfold sgR at h
  split at h
  · injection h with h
    rw [← h, ltr_length]
    exact sig_size op
  · cases h
abbrev decV (r : Int × List (Int × Int) × Int × Int) (y : Option Addr × Nat) : Value := .tuple #[.agg #[.int .u32 r.1, .slice y.1 r.2.1.length y.2], .int .i64 r.2.2.1, .int .i64 r.2.2.2]
/-- The operands whose modes are told. -/
def modesTo (ms : List Int) (i : Nat) : List (Int × Int) := (ms.take i).map (fun m => (m, 0)) ++ List.replicate (ms.length - i) (0, 0)
def numF (r : Option (Int × Int)) : Int × Int × Int := match r with | some (op, n) => (op, n, 0) | none => (0, 0, 90)
theorem numV_F (r : Option (Int × Int)) : numV r = .tuple #[.int .u32 (numF r).1, .int .i64 (numF r).2.1, .int .i64 (numF r).2.2] := by
  rcases r with _ | ⟨op, n⟩ <;> rfl
theorem numF_no {r : Option (Int × Int)} (h : (numF r).2.2 ≠ 0) : r = none := by
  rcases r with _ | ⟨op, n⟩
  · rfl
  · exact (h rfl).elim
theorem numF_ok {r : Option (Int × Int)} (h : (numF r).2.2 = 0) : r = some ((numF r).1, (numF r).2.1) := by
  rcases r with _ | ⟨op, n⟩
  · exact (by cases h)
  · rfl
theorem num_bd {bs : List Int} {at_ op n : Int} (hB : Bytes bs) (h : numR bs at_ = some (op, n)) : U32 op ∧ 1 ≤ n ∧ n ≤ 4 ∧ at_ + n ≤ bs.length := by
  have g2 := be2_lo hB at_.toNat
  have g4 := be4_lo hB at_.toNat
  have g1 := hB.at at_.toNat
  have e1 : be bs at_.toNat 1 = bs.getD at_.toNat 0 := by simp [be]
  unfold numR at h
  (repeat' split at h) <;> first
    | (exfalso; cases h; done)
    | (simp only [Option.some.injEq, Prod.mk.injEq] at h
       obtain ⟨rfl, rfl⟩ := h
       exact ⟨⟨by omega, by omega⟩, by omega, by omega, by omega⟩)
theorem numberF_call {σ : AState} {a : Option Addr} {l c : Nat} {bs : List Int} {at_ : Int} (h : Old E0 σ a l c 1 (u8l bs)) (hB : Bytes bs) (hl : l ≤ 2000000) (h0 : 0 ≤ at_) :
    SCall Try.prog E0 34 [.slice a l c, .int .i64 at_] σ (Ret E0 σ (fun (_ : Unit) => .tuple #[.int .u32 (numF (numR bs at_)).1, .int .i64 (numF (numR bs at_)).2.1, .int .i64 (numF (numR bs at_)).2.2]) (fun _ => []) fun _ => True) := by
  rw [← numV_F]; exact number_call h hB hl h0
theorem nib_shr {b i : Int} (hb : 0 ≤ b) (hi : 0 ≤ i) : b.fdiv (2 ^ min (4 * (i % 2)).toNat IntKind.u8.bits) = b / (if i.toNat % 2 = 0 then 1 else 16) := by
  rcases (by omega : i % 2 = 0 ∨ i % 2 = 1) with h | h
  · rw [h, if_pos (by omega)]
    show b.fdiv 1 = b / 1
    rw [Int.fdiv_eq_ediv_of_nonneg _ (by omega)]
  · rw [h, if_neg (by omega)]
    show b.fdiv 16 = b / 16
    rw [Int.fdiv_eq_ediv_of_nonneg _ (by omega)]
theorem and15 {x : Int} (h0 : 0 ≤ x) (h1 : x ≤ 255) : IntKind.u8.wrap ↑(BitVec.ofInt IntKind.u8.bits x &&& BitVec.ofInt IntKind.u8.bits 15).toNat = x % 16 := by
  have e : (BitVec.ofInt IntKind.u8.bits x &&& BitVec.ofInt IntKind.u8.bits 15).toNat = (x % 256).toNat % 2 ^ 4 := by
    rw [BitVec.toNat_and, BitVec.toNat_ofInt]
    exact Nat.and_two_pow_sub_one_eq_mod _ 4
  rw [e, wrap8 (by omega) (by omega)]
  omega
theorem nib_eq {bs : List Int} {p i : Int} (hB : Bytes bs) (hi : 0 ≤ i) : IntKind.u8.wrap ↑(BitVec.ofInt IntKind.u8.bits (bs.getD (p + i / 2).toNat 0 / (if i.toNat % 2 = 0 then 1 else 16)) &&& BitVec.ofInt IntKind.u8.bits 15).toNat = nibR bs p i.toNat := by
  have hb := hB.at (p + i / 2).toNat
  have e : p + ((i.toNat / 2 : Nat) : Int) = p + i / 2 := by omega
  unfold nibR
  rw [e]
  split
  · rw [Int.ediv_one, and15 (by omega) (by omega)]
  · rw [and15 (by omega) (by omega)]
theorem nib_bd (bs : List Int) (p : Int) (i : Nat) : 0 ≤ nibR bs p i ∧ nibR bs p i ≤ 15 := by
  unfold nibR
  generalize bs.getD (p + ((i / 2 : Nat) : Int)).toNat 0 / (if i % 2 = 0 then 1 else 16) = z
  omega
theorem modes_len (bs : List Int) (p : Int) (k : Nat) : (modesR bs p k).length = k := by simp [modesR]
theorem modes_at {bs : List Int} {p : Int} {k i : Nat} (h : i < k) : (modesR bs p k).getD i 0 = nibR bs p i := by
  simp [modesR, List.getD, h]
theorem modesTo_at {ms : List Int} {i : Nat} (h : i < ms.length) : (modesTo ms i).getD i default = (0, 0) := by
  unfold modesTo
  have e : ((ms.take i).map fun m => (m, (0 : Int))).length = i := by rw [List.length_map, List.length_take]; omega
  simp only [List.getD]
  rw [List.getElem?_append_right (by omega), e, Nat.sub_self, List.getElem?_replicate, if_pos (by omega)]
  rfl
theorem modesTo_len {ms : List Int} {i : Nat} (h : i ≤ ms.length) : (modesTo ms i).length = ms.length := by
  unfold modesTo
  rw [List.length_append, List.length_map, List.length_take, List.length_replicate]
  omega
theorem modesTo_step {ms : List Int} {i : Nat} (h : i < ms.length) : (modesTo ms i).set i (ms.getD i 0, ((modesTo ms i).getD i default).2) = modesTo ms (i + 1) := by
  rw [modesTo_at h]
  have e : ((ms.take i).map fun m => (m, (0 : Int))).length = i := by rw [List.length_map, List.length_take]; omega
  unfold modesTo
  rw [List.set_append_right _ _ (by omega), e, Nat.sub_self, show ms.length - i = (ms.length - (i + 1)) + 1 by omega, List.replicate_succ, List.set_cons_zero, List.take_add_one, List.map_append, List.append_assoc]
  simp [List.getD, h]
theorem modesTo_end (ms : List Int) : modesTo ms ms.length = [] ++ (ms.drop 0).map fun m => (m, 0) := by
  unfold modesTo; simp
theorem allMay_of : ∀ (s ms : List Int), s.length = ms.length → (∀ j : Nat, j < ms.length → mayR (s.getD j 0) (ms.getD j 0) = true) → allMay s ms = true
  | [], _, _, _ => by simp [allMay]
  | _ :: _, [], h, _ => by simp at h
  | c :: s, m :: ms, h, hm => by
    have h0 := hm 0 (by simp)
    have ih := allMay_of s ms (by simpa using h) (fun j hj => by simpa using hm (j + 1) (by simpa using hj))
    simp only [allMay, Bool.and_eq_true]
    exact ⟨by simpa using h0, ih⟩
theorem allMay_not : ∀ (s ms : List Int) (j : Nat), s.length = ms.length → j < ms.length → mayR (s.getD j 0) (ms.getD j 0) = false → allMay s ms = false
  | [], [], j, _, h, _ => by simp at h
  | [], _ :: _, _, h, _, _ => by simp at h
  | _ :: _, [], _, h, _, _ => by simp at h
  | c :: s, m :: ms, 0, h, _, hm => by
    simp only [List.getD_cons_zero] at hm
    simp [allMay, hm]
  | c :: s, m :: ms, j + 1, h, hj, hm => by
    have ih := allMay_not s ms j (by simpa using h) (by simpa using hj) (by simpa using hm)
    simp [allMay, ih]
theorem dec_at {sg : Int → Option (List Int)} {bs : List Int} {at_ op n : Int} {s : List Int} (h0 : ¬ at_ < 0) (hn : numR bs at_ = some (op, n)) (hs : sg op = some s) :
    decR sg bs at_ = if at_ + n + ((s.length + 1) / 2 : Nat) > bs.length then ((0 : Int), ([] : List (Int × Int)), (0 : Int), (90 : Int))
      else if allMay s (modesR bs (at_ + n) s.length) = false then (0, [], 0, 111)
      else match valsR bs (at_ + n + ((s.length + 1) / 2 : Nat)) (modesR bs (at_ + n) s.length) with
        | none => (0, [], 0, 90)
        | some (ars, q) => (op, ars, q - at_, 0) := by
  unfold decR
  rw [if_neg h0, hn]
  simp only [hs]
  rfl
theorem modesTo_at2 {ms : List Int} {i : Nat} (h : i < ms.length) : (modesTo ms (i + 1)).getD i default = (ms.getD i 0, 0) := by
  have e : ((ms.take (i + 1)).map fun m => (m, (0 : Int))).length = i + 1 := by rw [List.length_map, List.length_take]; omega
  unfold modesTo
  simp only [List.getD]
  rw [List.getElem?_append_left (by omega), List.getElem?_map, List.getElem?_take, if_pos (by omega), List.getElem?_eq_getElem h]
  rfl
/-- The operands whose values are told. -/
abbrev valsTo (ms : List Int) (pre : List (Int × Int)) (i : Nat) : List (Int × Int) := pre ++ (ms.drop i).map fun m => (m, 0)
theorem drop_at {ms : List Int} {i : Nat} (h : i < ms.length) : ms.drop i = ms.getD i 0 :: ms.drop (i + 1) := by
  rw [List.drop_eq_getElem_cons h]
  simp [List.getD, h]
theorem valsTo_at {ms : List Int} {pre : List (Int × Int)} {i : Nat} (hp : pre.length = i) (h : i < ms.length) : (valsTo ms pre i).getD i default = (ms.getD i 0, 0) := by
  unfold valsTo
  rw [drop_at h]
  simp only [List.getD]
  rw [List.getElem?_append_right (by omega), hp, Nat.sub_self]
  rfl
theorem valsTo_len {ms : List Int} {pre : List (Int × Int)} {i : Nat} (hp : pre.length = i) (h : i ≤ ms.length) : (valsTo ms pre i).length = ms.length := by
  unfold valsTo
  rw [List.length_append, List.length_map, List.length_drop]
  omega
theorem valsTo_set {ms : List Int} {pre : List (Int × Int)} {i : Nat} {v : Int} (hp : pre.length = i) (h : i < ms.length) : (rows eO (valsTo ms pre i)).set (i * 2 + 1) (.int .u32 v) = rows eO (valsTo ms (pre ++ [(ms.getD i 0, v)]) (i + 1)) := by
  rw [rowsO_set2 _ _ _ (by rw [valsTo_len hp (by omega)]; omega), valsTo_at hp h]
  unfold valsTo
  rw [List.set_append_right _ _ (by omega), hp, Nat.sub_self, drop_at h, List.map_cons, List.set_cons_zero, List.append_assoc]
  rfl
theorem valsTo_skip {ms : List Int} {pre : List (Int × Int)} {i : Nat} (h : i < ms.length) : valsTo ms pre i = valsTo ms (pre ++ [(ms.getD i 0, 0)]) (i + 1) := by
  unfold valsTo
  rw [drop_at h, List.map_cons, List.append_assoc]
  rfl
theorem vals_id (o : Option (List (Int × Int) × Int)) : (o.map fun r => (([] : List (Int × Int)) ++ r.1, r.2)) = o := by cases o <;> simp
theorem vals_app {o : Option (List (Int × Int) × Int)} {y : Int × Int} {pre : List (Int × Int)} : (o.map fun r => (y :: r.1, r.2)).map (fun r => (pre ++ r.1, r.2)) = o.map fun r => ((pre ++ [y]) ++ r.1, r.2) := by
  cases o <;> simp
theorem decode_call {σ : AState} {a : Option Addr} {l c : Nat} {bs : List Int} {at_ : Int} (h : Old E0 σ a l c 1 (u8l bs)) (hB : Bytes bs) (hl : l ≤ 1000000) (hat : at_ ≤ 1000000000) :
    SCall Try.prog E0 14 [.slice a l c, .int .i64 at_] σ (Ret E0 σ (decV (decR sgR bs at_)) (fun y => [own y.1 (decR sgR bs at_).2.1.length y.2 2 (rows eO (decR sgR bs at_).2.1)]) fun _ => True) := by
  have hbl := h.len8
  refine k_fun Try.func14 rfl (m := 135) rfl fun B hD Q K => ?_
  have F := (Facts.nil E0 σ).nilrow 2
  refine k_seq (fun Q K => ?_)
  refine k_lin (fun W K => ?_)
  refine l_al F rfl rfl rfl rfl (fun q4 s F => ?_)
  (try dsimp only [n_1, n_2, n_3, n_4, List.append_nil, pk, n_5, n_6] at F)
  refine l_op 0 rfl rfl rfl rfl rfl ?_
  refine l_op 0 rfl rfl rfl rfl rfl ?_
  refine l_nil (WK.nx (by assumption) ?_)
  refine SeqK.nx (by assumption) ?_
  refine k_seq (fun Q K => ?_)
  refine k_seq (fun Q K => ?_)
  refine k_lin (fun W K => ?_)
  refine l_op 0 rfl rfl rfl rfl rfl ?_
  refine l_cmp rfl rfl rfl rfl ?_
  refine l_nil (WK.nx (by assumption) ?_)
  refine SeqK.nx (by assumption) ?_
  refine l_cond rfl rfl (fun hc1 => ?_) (fun hc1 => ?_)
  · replace hc1 := of_decide_eq_true ((irr_eq _).symm.trans hc1)
    have hr : decR sgR bs at_ = (0, [], 0, 1) := if_pos (by assumption)
    refine k_seq (fun Q K => ?_)
    refine k_lin (fun W K => ?_)
    refine l_ldca F 1 rfl rfl rfl rfl rfl rfl rfl ?_
    refine l_stca F 1 rfl rfl rfl rfl rfl rfl rfl rfl rfl rfl hD rfl (fun s F => ?_)
    (try dsimp only [n_1, n_2, n_3, n_4, List.append_nil, pk, n_5, n_6] at F)
    refine l_op 0 rfl rfl rfl rfl rfl ?_
    refine l_op 0 rfl rfl rfl rfl rfl ?_
    refine l_nil (WK.nx (by assumption) ?_)
    refine SeqK.nx (by assumption) ?_
    refine k_ret ?_
    refine SeqK.rt (by assumption) ?_
    first | refine FunK.rtc (by assumption) (res_cell F 0 rfl rfl (by kernel_rfl) (resE_rsv rfl)) ?_ | refine FunK.rtc (by assumption) (res_cell F 1 rfl rfl (by kernel_rfl) (resE_rsv rfl)) ?_ | refine FunK.rtc (by assumption) (res_cell F 2 rfl rfl (by kernel_rfl) (resE_rsv rfl)) ?_ | refine FunK.rtc (by assumption) (res_cell F 3 rfl rfl (by kernel_rfl) (resE_rsv rfl)) ?_ | refine FunK.rtc (by assumption) (res_cell F 4 rfl rfl (by kernel_rfl) (resE_rsv rfl)) ?_ | refine FunK.rtc (by assumption) (res_cell F 5 rfl rfl (by kernel_rfl) (resE_rsv rfl)) ?_ | refine FunK.rtc (by assumption) (res_cell F 6 rfl rfl (by kernel_rfl) (resE_rsv rfl)) ?_ | refine FunK.rtc (by assumption) (res_cell F 7 rfl rfl (by kernel_rfl) (resE_rsv rfl)) ?_
    -- leaf 1
    first
      | (rw [hr]; exact ⟨(none, 0), rfl, F.pick [0] (by decide), trivial⟩)
      | (rw [hr]
         refine ⟨(none, 0), ?_, F.pick [0] (by decide), trivial⟩
         show Value.tuple #[_, _, .int .i64 nf.2.2] = _
         rw [h90]; rfl)
      | (rw [hr]
         refine ⟨(some ⟨q57, 0, some 0⟩, kk), ?_, ?_, trivial⟩
         · show _ = Value.tuple #[.agg #[.int .u32 nf.1, .slice _ pre.length _], _, _]
           rw [hpl]; rfl
         · show Facts _ _ _ [own _ pre.length _ 2 (rows eO pre)]
           rw [hpl]; exact F.pick [2] (by decide))
  replace hc1 := of_decide_eq_false ((irr_eq _).symm.trans hc1)
  refine k_skip ?_
  refine SeqK.nx (by assumption) ?_
  refine k_seq (fun Q K => ?_)
  refine k_lin (fun W K => ?_)
  refine l_op 0 rfl rfl rfl rfl rfl ?_
  refine l_op 0 rfl rfl rfl rfl rfl ?_
  refine l_callp F rfl rfl (by kernel_rfl) rfl rfl (numberF_call (Old.pure (F.old h)) hB (by omega) (by omega)) (fun _ s F _ => ?_)
  generalize hN : numF (numR bs at_) = nf
  (try dsimp only [n_1, n_2, n_3, n_4, List.append_nil, pk, n_5, n_6] at F)
  refine l_op 0 rfl rfl rfl rfl rfl ?_
  refine l_op 2 rfl rfl rfl rfl rfl ?_
  refine l_op 2 rfl rfl rfl rfl rfl ?_
  refine l_op 2 rfl rfl rfl rfl rfl ?_
  refine l_op 0 rfl rfl rfl rfl rfl ?_
  refine l_op 0 rfl rfl rfl rfl rfl ?_
  refine l_op 0 rfl rfl rfl rfl rfl ?_
  refine l_nil (WK.nx (by assumption) ?_)
  refine SeqK.nx (by assumption) ?_
  refine k_seq (fun Q K => ?_)
  refine k_seq (fun Q K => ?_)
  refine k_lin (fun W K => ?_)
  refine l_op 0 rfl rfl rfl rfl rfl ?_
  refine l_cmp rfl rfl rfl rfl ?_
  refine l_nil (WK.nx (by assumption) ?_)
  refine SeqK.nx (by assumption) ?_
  refine l_cond rfl rfl (fun hc2 => ?_) (fun hc2 => ?_)
  · first | replace hc2 := bne_iff_ne.1 ((irr_eq _).symm.trans hc2) | simp only [irr_eq, bne_iff_ne, bne_eq_false_iff_eq, ne_eq, decide_eq_true_eq, decide_eq_false_iff_not, Bool.not_eq_true', Bool.not_eq_false'] at hc2
    have hnum := numF_no (r := numR bs at_) (by rw [hN]; exact hc2)
    have h90 : nf.2.2 = 90 := by rw [← hN, hnum]; rfl
    have hr : decR sgR bs at_ = (0, [], 0, 90) := by unfold decR; rw [if_neg (by assumption), hnum]
    refine k_seq (fun Q K => ?_)
    refine k_lin (fun W K => ?_)
    refine l_ldca F 1 rfl rfl rfl rfl rfl rfl rfl ?_
    refine l_op 0 rfl rfl rfl rfl rfl ?_
    refine l_stca F 1 rfl rfl rfl rfl rfl rfl rfl rfl rfl rfl hD rfl (fun s F => ?_)
    (try dsimp only [n_1, n_2, n_3, n_4, List.append_nil, pk, n_5, n_6] at F)
    refine l_op 0 rfl rfl rfl rfl rfl ?_
    refine l_op 0 rfl rfl rfl rfl rfl ?_
    refine l_nil (WK.nx (by assumption) ?_)
    refine SeqK.nx (by assumption) ?_
    refine k_ret ?_
    refine SeqK.rt (by assumption) ?_
    first | refine FunK.rtc (by assumption) (res_cell F 0 rfl rfl (by kernel_rfl) (resE_rsv rfl)) ?_ | refine FunK.rtc (by assumption) (res_cell F 1 rfl rfl (by kernel_rfl) (resE_rsv rfl)) ?_ | refine FunK.rtc (by assumption) (res_cell F 2 rfl rfl (by kernel_rfl) (resE_rsv rfl)) ?_ | refine FunK.rtc (by assumption) (res_cell F 3 rfl rfl (by kernel_rfl) (resE_rsv rfl)) ?_ | refine FunK.rtc (by assumption) (res_cell F 4 rfl rfl (by kernel_rfl) (resE_rsv rfl)) ?_ | refine FunK.rtc (by assumption) (res_cell F 5 rfl rfl (by kernel_rfl) (resE_rsv rfl)) ?_ | refine FunK.rtc (by assumption) (res_cell F 6 rfl rfl (by kernel_rfl) (resE_rsv rfl)) ?_ | refine FunK.rtc (by assumption) (res_cell F 7 rfl rfl (by kernel_rfl) (resE_rsv rfl)) ?_
    -- leaf 2
    first
      | (rw [hr]; exact ⟨(none, 0), rfl, F.pick [0] (by decide), trivial⟩)
      | (rw [hr]
         refine ⟨(none, 0), ?_, F.pick [0] (by decide), trivial⟩
         show Value.tuple #[_, _, .int .i64 nf.2.2] = _
         rw [h90]; rfl)
      | (rw [hr]
         refine ⟨(some ⟨q57, 0, some 0⟩, kk), ?_, ?_, trivial⟩
         · show _ = Value.tuple #[.agg #[.int .u32 nf.1, .slice _ pre.length _], _, _]
           rw [hpl]; rfl
         · show Facts _ _ _ [own _ pre.length _ 2 (rows eO pre)]
           rw [hpl]; exact F.pick [2] (by decide))
  first | replace hc2 := bne_eq_false_iff_eq.1 ((irr_eq _).symm.trans hc2) | simp only [irr_eq, bne_iff_ne, bne_eq_false_iff_eq, ne_eq, decide_eq_true_eq, decide_eq_false_iff_not, Bool.not_eq_true', Bool.not_eq_false'] at hc2
  have hnum := numF_ok (r := numR bs at_) (by rw [hN]; exact hc2)
  rw [hN] at hnum
  obtain ⟨hop, hn1, hn4, hnl⟩ := num_bd hB hnum
  refine k_skip ?_
  refine SeqK.nx (by assumption) ?_
  refine k_seq (fun Q K => ?_)
  refine k_lin (fun W K => ?_)
  refine l_op 0 rfl rfl rfl rfl rfl ?_
  refine l_callp F rfl rfl (by kernel_rfl) rfl rfl (signature_call hop) (fun _ s F _ => ?_)
  have hs8 := sig_size nf.1
  generalize hS : sigP nf.1 = sp at hs8
  (try dsimp only [n_1, n_2, n_3, n_4, List.append_nil, pk, n_5, n_6] at F)
  refine l_op 0 rfl rfl rfl rfl rfl ?_
  refine l_op 2 rfl rfl rfl rfl rfl ?_
  refine l_op 2 rfl rfl rfl rfl rfl ?_
  refine l_op 0 rfl rfl rfl rfl rfl ?_
  refine l_op 0 rfl rfl rfl rfl rfl ?_
  refine l_nil (WK.nx (by assumption) ?_)
  refine SeqK.nx (by assumption) ?_
  refine k_seq (fun Q K => ?_)
  refine k_seq (fun Q K => ?_)
  refine k_lin (fun W K => ?_)
  refine l_op 0 rfl rfl rfl rfl rfl ?_
  refine l_op 2 rfl rfl rfl rfl rfl ?_
  refine l_nil (WK.nx (by assumption) ?_)
  refine SeqK.nx (by assumption) ?_
  refine l_cond rfl rfl (fun hc3 => ?_) (fun hc3 => ?_)
  · try simp only [irr_eq, beq_iff_eq, bne_iff_ne, beq_eq_false_iff_ne, bne_eq_false_iff_eq, ne_eq, decide_eq_true_eq, decide_eq_false_iff_not, Bool.not_eq_true', Bool.not_eq_false'] at hc3
    have hr : decR sgR bs at_ = (0, [], 0, 110) := by
      have hsg : sgR nf.1 = none := by unfold sgR; rw [hS, if_neg (by simp_all)]
      unfold decR; rw [if_neg (by assumption), hnum]
      simp only [hsg]
    refine k_seq (fun Q K => ?_)
    refine k_lin (fun W K => ?_)
    refine l_ldca F 1 rfl rfl rfl rfl rfl rfl rfl ?_
    refine l_stca F 1 rfl rfl rfl rfl rfl rfl rfl rfl rfl rfl hD rfl (fun s F => ?_)
    (try dsimp only [n_1, n_2, n_3, n_4, List.append_nil, pk, n_5, n_6] at F)
    refine l_op 0 rfl rfl rfl rfl rfl ?_
    refine l_op 0 rfl rfl rfl rfl rfl ?_
    refine l_nil (WK.nx (by assumption) ?_)
    refine SeqK.nx (by assumption) ?_
    refine k_ret ?_
    refine SeqK.rt (by assumption) ?_
    first | refine FunK.rtc (by assumption) (res_cell F 0 rfl rfl (by kernel_rfl) (resE_rsv rfl)) ?_ | refine FunK.rtc (by assumption) (res_cell F 1 rfl rfl (by kernel_rfl) (resE_rsv rfl)) ?_ | refine FunK.rtc (by assumption) (res_cell F 2 rfl rfl (by kernel_rfl) (resE_rsv rfl)) ?_ | refine FunK.rtc (by assumption) (res_cell F 3 rfl rfl (by kernel_rfl) (resE_rsv rfl)) ?_ | refine FunK.rtc (by assumption) (res_cell F 4 rfl rfl (by kernel_rfl) (resE_rsv rfl)) ?_ | refine FunK.rtc (by assumption) (res_cell F 5 rfl rfl (by kernel_rfl) (resE_rsv rfl)) ?_ | refine FunK.rtc (by assumption) (res_cell F 6 rfl rfl (by kernel_rfl) (resE_rsv rfl)) ?_ | refine FunK.rtc (by assumption) (res_cell F 7 rfl rfl (by kernel_rfl) (resE_rsv rfl)) ?_
    -- leaf 3
    first
      | (rw [hr]; exact ⟨(none, 0), rfl, F.pick [0] (by decide), trivial⟩)
      | (rw [hr]
         refine ⟨(none, 0), ?_, F.pick [0] (by decide), trivial⟩
         show Value.tuple #[_, _, .int .i64 nf.2.2] = _
         rw [h90]; rfl)
      | (rw [hr]
         refine ⟨(some ⟨q57, 0, some 0⟩, kk), ?_, ?_, trivial⟩
         · show _ = Value.tuple #[.agg #[.int .u32 nf.1, .slice _ pre.length _], _, _]
           rw [hpl]; rfl
         · show Facts _ _ _ [own _ pre.length _ 2 (rows eO pre)]
           rw [hpl]; exact F.pick [2] (by decide))
  try simp only [irr_eq, beq_iff_eq, bne_iff_ne, beq_eq_false_iff_ne, bne_eq_false_iff_eq, ne_eq, decide_eq_true_eq, decide_eq_false_iff_not, Bool.not_eq_true', Bool.not_eq_false'] at hc3
  refine k_skip ?_
  refine SeqK.nx (by assumption) ?_
  refine k_seq (fun Q K => ?_)
  refine k_lin (fun W K => ?_)
  refine l_op 0 rfl rfl rfl rfl rfl ?_
  refine l_op 0 rfl rfl rfl rfl rfl ?_
  refine l_a64 rfl rfl rfl (by omega) rfl ?_
  refine l_op 0 rfl rfl rfl rfl rfl ?_
  refine l_nil (WK.nx (by assumption) ?_)
  refine SeqK.nx (by assumption) ?_
  refine k_seq (fun Q K => ?_)
  refine k_lin (fun W K => ?_)
  refine l_op 0 rfl rfl rfl rfl rfl ?_
  refine l_op 0 rfl rfl rfl rfl rfl ?_
  first | refine l_op 2 rfl rfl rfl rfl rfl ?_ | refine l_ln rfl rfl rfl rfl ?_
  refine l_a64 rfl rfl rfl (by omega) rfl ?_
  first | refine l_quon rfl rfl rfl rfl rfl (by omega) rfl ?_ | refine l_quou64 rfl rfl rfl rfl rfl (by omega) rfl ?_ | refine l_quou32 rfl rfl rfl rfl rfl (by omega) rfl ?_ | refine l_quo rfl rfl rfl rfl rfl (by omega) rfl ?_
  refine l_a64 rfl rfl rfl (by omega) rfl ?_
  refine l_op 0 rfl rfl rfl rfl rfl ?_
  refine l_nil (WK.nx (by assumption) ?_)
  refine SeqK.nx (by assumption) ?_
  refine k_seq (fun Q K => ?_)
  refine k_seq (fun Q K => ?_)
  refine k_lin (fun W K => ?_)
  refine l_op 0 rfl rfl rfl rfl rfl ?_
  refine l_op 0 rfl rfl rfl rfl rfl ?_
  first | refine l_op 2 rfl rfl rfl rfl rfl ?_ | refine l_ln rfl rfl rfl rfl ?_
  refine l_cmp rfl rfl rfl rfl ?_
  refine l_nil (WK.nx (by assumption) ?_)
  refine SeqK.nx (by assumption) ?_
  refine l_cond rfl rfl (fun hc4 => ?_) (fun hc4 => ?_)
  · replace hc4 := of_decide_eq_true ((irr_eq _).symm.trans hc4)
    have hr : decR sgR bs at_ = (0, [], 0, 90) := by
      have hsg : sgR nf.1 = some (ltr sp.1) := by unfold sgR; rw [hS, if_pos (by simp_all)]
      rw [dec_at (by assumption) hnum hsg, ltr_length, if_pos (by omega)]
    refine k_seq (fun Q K => ?_)
    refine k_lin (fun W K => ?_)
    refine l_ldca F 1 rfl rfl rfl rfl rfl rfl rfl ?_
    refine l_stca F 1 rfl rfl rfl rfl rfl rfl rfl rfl rfl rfl hD rfl (fun s F => ?_)
    (try dsimp only [n_1, n_2, n_3, n_4, List.append_nil, pk, n_5, n_6] at F)
    refine l_op 0 rfl rfl rfl rfl rfl ?_
    refine l_op 0 rfl rfl rfl rfl rfl ?_
    refine l_nil (WK.nx (by assumption) ?_)
    refine SeqK.nx (by assumption) ?_
    refine k_ret ?_
    refine SeqK.rt (by assumption) ?_
    first | refine FunK.rtc (by assumption) (res_cell F 0 rfl rfl (by kernel_rfl) (resE_rsv rfl)) ?_ | refine FunK.rtc (by assumption) (res_cell F 1 rfl rfl (by kernel_rfl) (resE_rsv rfl)) ?_ | refine FunK.rtc (by assumption) (res_cell F 2 rfl rfl (by kernel_rfl) (resE_rsv rfl)) ?_ | refine FunK.rtc (by assumption) (res_cell F 3 rfl rfl (by kernel_rfl) (resE_rsv rfl)) ?_ | refine FunK.rtc (by assumption) (res_cell F 4 rfl rfl (by kernel_rfl) (resE_rsv rfl)) ?_ | refine FunK.rtc (by assumption) (res_cell F 5 rfl rfl (by kernel_rfl) (resE_rsv rfl)) ?_ | refine FunK.rtc (by assumption) (res_cell F 6 rfl rfl (by kernel_rfl) (resE_rsv rfl)) ?_ | refine FunK.rtc (by assumption) (res_cell F 7 rfl rfl (by kernel_rfl) (resE_rsv rfl)) ?_
    -- leaf 4
    first
      | (rw [hr]; exact ⟨(none, 0), rfl, F.pick [0] (by decide), trivial⟩)
      | (rw [hr]
         refine ⟨(none, 0), ?_, F.pick [0] (by decide), trivial⟩
         show Value.tuple #[_, _, .int .i64 nf.2.2] = _
         rw [h90]; rfl)
      | (rw [hr]
         refine ⟨(some ⟨q57, 0, some 0⟩, kk), ?_, ?_, trivial⟩
         · show _ = Value.tuple #[.agg #[.int .u32 nf.1, .slice _ pre.length _], _, _]
           rw [hpl]; rfl
         · show Facts _ _ _ [own _ pre.length _ 2 (rows eO pre)]
           rw [hpl]; exact F.pick [2] (by decide))
  replace hc4 := of_decide_eq_false ((irr_eq _).symm.trans hc4)
  refine k_skip ?_
  refine SeqK.nx (by assumption) ?_
  refine k_seq (fun Q K => ?_)
  refine k_lin (fun W K => ?_)
  refine l_op 0 rfl rfl rfl rfl rfl ?_
  first | refine l_op 2 rfl rfl rfl rfl rfl ?_ | refine l_ln rfl rfl rfl rfl ?_
  refine l_mk F rfl rfl rfl rfl rfl rfl rfl (by omega) (fun q57 s F => ?_)
  (try dsimp only [n_1, n_2, n_3, n_4, List.append_nil, pk, n_5, n_6] at F)
  refine l_op 0 rfl rfl rfl rfl rfl ?_
  refine l_nil (WK.nx (by assumption) ?_)
  refine SeqK.nx (by assumption) ?_
  refine k_seq (fun Q K => ?_)
  refine k_seq (fun Q K => ?_)
  refine k_lin (fun W K => ?_)
  refine l_op 0 rfl rfl rfl rfl rfl ?_
  first | refine l_op 2 rfl rfl rfl rfl rfl ?_ | refine l_ln rfl rfl rfl rfl ?_
  refine l_op 0 rfl rfl rfl rfl rfl ?_
  refine l_nil (WK.nx (by assumption) ?_)
  refine SeqK.nx (by assumption) ?_
  refine k_block (fun Q K => ?_)
  generalize hK : ((sp.1.size : Nat) : Int).toNat = kk at F ⊢
  rw [Int.toNat_natCast] at hK
  have hsg : sgR nf.1 = some (ltr sp.1) := by unfold sgR; rw [hS, if_pos (by assumption)]
  have hsl : (ltr sp.1).length = kk := by rw [ltr_length, hK]
  have hdec := dec_at (sg := sgR) (bs := bs) (at_ := at_) (by assumption) hnum hsg
  rw [hsl, if_neg (by omega)] at hdec
  obtain ⟨ms, hms⟩ : ∃ ms, modesR bs (at_ + nf.2.1) kk = ms := ⟨_, rfl⟩
  rw [hms] at hdec
  have hml : ms.length = kk := by rw [← hms, modes_len]
  have F : Facts E0 σ s [own none 0 0 2 [], cel q4 [Value.int .u32 0, .slice none 0 0], own (some ⟨q57, 0, some 0⟩) kk kk 2 (rows eO (modesTo ms 0))] := by
    have e : modesTo ms 0 = List.replicate kk (0, 0) := by unfold modesTo; simp [hml]
    rw [e, ← zrowO]
    exact F
  refine k_loop (α := Int) (fun i s => Facts E0 σ s [own none 0 0 2 [], cel q4 [Value.int .u32 0, .slice none 0 0], own (some ⟨q57, 0, some 0⟩) kk kk 2 (rows eO (modesTo ms i.toNat))] ∧ 0 ≤ i ∧ i ≤ kk ∧ ∀ j : Nat, j < i → mayR ((ltr sp.1).getD j 0) (ms.getD j 0) = true) (fun i => [(0, .slice a l c), (1, .int .i64 at_), (4, .pointer (some ⟨q4, 0, none⟩)), (7, .int .u32 nf.1), (8, .string sp.1), (10, .int .i64 (at_ + nf.2.1)), (11, .int .i64 (at_ + nf.2.1 + ((sp.1.size : Nat) + 1) / 2)), (12, .slice (some ⟨q57, 0, some 0⟩) kk kk), (59, .int .i64 kk), (60, .int .i64 i)]) (fun i => (kk - i).toNat) 0 ⟨F, by omega, by omega, fun j hj => by omega⟩ (by repeat (first | exact trivial | refine And.intro rfl ?_)) ?_
  clear F
  rintro i env s Q K0 ⟨F, i0, i1, hmay⟩
  refine k_seq (fun Q K => ?_)
  refine k_lin (fun W K => ?_)
  refine l_cmp rfl rfl rfl rfl ?_
  refine l_nil (WK.nx (by assumption) ?_)
  refine SeqK.nx (by assumption) ?_
  refine k_seq (fun Q K => ?_)
  refine l_cond rfl rfl (fun hc5 => ?_) (fun hc5 => ?_)
  · replace hc5 := of_decide_eq_true ((irr_eq _).symm.trans hc5)
    refine k_skip ?_
    refine SeqK.nx (by assumption) ?_
    refine k_seq (fun Q K => ?_)
    refine k_block (fun Q K => ?_)
    refine k_seq (fun Q K => ?_)
    refine k_lin (fun W K => ?_)
    refine l_op 0 rfl rfl rfl rfl rfl ?_
    refine l_op 0 rfl rfl rfl rfl rfl ?_
    refine l_nil (WK.nx (by assumption) ?_)
    refine SeqK.nx (by assumption) ?_
    refine k_seq (fun Q K => ?_)
    refine k_lin (fun W K => ?_)
    refine l_op 0 rfl rfl rfl rfl rfl ?_
    refine l_op 0 rfl rfl rfl rfl rfl ?_
    refine l_op 0 rfl rfl rfl rfl rfl ?_
    refine l_op 0 rfl rfl rfl rfl rfl ?_
    refine l_op 0 rfl rfl rfl rfl rfl ?_
    first | refine l_quon rfl rfl rfl rfl rfl (by omega) rfl ?_ | refine l_quou64 rfl rfl rfl rfl rfl (by omega) rfl ?_ | refine l_quou32 rfl rfl rfl rfl rfl (by omega) rfl ?_ | refine l_quo rfl rfl rfl rfl rfl (by omega) rfl ?_
    refine l_a64 rfl rfl rfl (by omega) rfl ?_
    first | refine l_ixi rfl rfl rfl rfl rfl rfl (F.old (by assumption)) (by omega) (fun m70 b70 hA70 => ?_) | (refine l_ixoi F 0 rfl rfl rfl rfl rfl rfl rfl (by omega) (fun m e ha hA70 => ?_); cases ha) | (refine l_ixoi F 1 rfl rfl rfl rfl rfl rfl rfl (by omega) (fun m e ha hA70 => ?_); cases ha) | (refine l_ixoi F 2 rfl rfl rfl rfl rfl rfl rfl (by omega) (fun m e ha hA70 => ?_); cases ha) | (refine l_ixoi F 3 rfl rfl rfl rfl rfl rfl rfl (by omega) (fun m e ha hA70 => ?_); cases ha)
    refine l_ld0 rfl rfl rfl rfl rfl (by assumption) ?_
    refine l_op 0 rfl rfl rfl rfl rfl ?_
    first | refine l_remn rfl rfl rfl rfl rfl (by omega) rfl ?_ | refine l_rem rfl rfl rfl rfl rfl (by omega) rfl ?_
    refine l_a64 rfl rfl rfl (by omega) rfl ?_
    refine l_sh (bs.getD (at_ + nf.2.1 + i / 2).toNat 0 / (if i.toNat % 2 = 0 then 1 else 16)) rfl rfl rfl rfl rfl (by omega) (.inl ⟨rfl, nib_shr (hB.at _).1 i0⟩) ?_
    have hnb := nib_bd bs (at_ + nf.2.1) i.toNat
    refine l_op 2 rfl rfl rfl (congrArg (Value.int .u8) (nib_eq hB i0)) rfl ?_
    refine l_c64 rfl rfl rfl (by omega) rfl ?_
    refine l_ixo F 2 rfl rfl rfl rfl rfl rfl rfl (by omega) (fun m78 e78 ha78 hA78 => ?_)
    cases ha78
    refine l_op 2 rfl rfl rfl rfl rfl ?_
    refine l_sto (j := i.toNat * 2) (v := .int .i64 (nibR bs (at_ + nf.2.1) i.toNat)) F 2 rfl rfl rfl rfl rfl rfl rfl rfl (by omega) hD (fun s F => ?_)
    (try dsimp only [n_1, n_2, n_3, n_4, List.append_nil, pk, n_5, n_6] at F)
    have hset : (rows eO (modesTo ms i.toNat)).set (i.toNat * 2) (.int .i64 (nibR bs (at_ + nf.2.1) i.toNat)) = rows eO (modesTo ms (i.toNat + 1)) := by
      rw [rowsO_set1 _ _ _ (by rw [modesTo_len (by omega)]; omega), ← modesTo_step (by omega), ← hms, modes_at (by omega)]
    rw [hset] at F
    refine l_nil (WK.nx (by assumption) ?_)
    refine SeqK.nx (by assumption) ?_
    refine k_seq (fun Q K => ?_)
    refine k_linr mixed (by kernel_rfl) (fun W K => ?_)
    try have hpS := F.pns
    refine l_op 0 rfl rfl rfl rfl rfl ?_
    refine l_op 0 rfl rfl rfl rfl rfl ?_
    refine l_sx rfl rfl rfl rfl rfl (by omega) ?_
    refine l_op 0 rfl rfl rfl rfl rfl ?_
    refine l_op 0 rfl rfl rfl rfl rfl ?_
    refine l_ixo F 2 rfl rfl rfl rfl rfl rfl rfl (by omega) (fun m85 e85 ha85 hA85 => ?_)
    cases ha85
    rw [rows_at eO_len (by rw [modesTo_len (by omega)]; omega), modesTo_at2 (by omega)] at hA85
    refine l_op 2 rfl rfl rfl rfl rfl ?_
    refine l_ld0 rfl rfl rfl rfl rfl (by assumption) ?_
    first | have hpS := PnS.add hpS hS85 | have hpS := PnS.add hpS (OldC.sf (by assumption)) | skip
    have hpA := PnA.own F 2 rfl pna_nil
    refine l_callp F rfl rfl (by kernel_rfl) rfl rfl may_call (fun _ s F _ => ?_)
    (try dsimp only [n_1, n_2, n_3, n_4, List.append_nil, pk, n_5, n_6] at F)
    refine l_op 2 rfl rfl rfl rfl rfl ?_
    refine l_nil (WK.nx (by assumption) ?_)
    refine SeqK.nx (by assumption) ?_
    refine l_cond rfl rfl (fun hc6 => ?_) (fun hc6 => ?_)
    · try simp only [irr_eq, beq_iff_eq, bne_iff_ne, beq_eq_false_iff_ne, bne_eq_false_iff_eq, ne_eq, decide_eq_true_eq, decide_eq_false_iff_not, Bool.not_eq_true', Bool.not_eq_false'] at hc6
      have hr : decR sgR bs at_ = (0, [], 0, 111) := by
        rw [hdec, allMay_not _ ms i.toNat (by omega) (by omega) hc6, if_pos rfl]
      refine k_seq (fun Q K => ?_)
      refine k_lin (fun W K => ?_)
      refine l_ldca F 1 rfl rfl rfl rfl rfl rfl rfl ?_
      refine l_stca F 1 rfl rfl rfl rfl rfl rfl rfl rfl rfl rfl hD rfl (fun s F => ?_)
      (try dsimp only [n_1, n_2, n_3, n_4, List.append_nil, pk, n_5, n_6] at F)
      refine l_op 0 rfl rfl rfl rfl rfl ?_
      refine l_op 0 rfl rfl rfl rfl rfl ?_
      refine l_nil (WK.nx (by assumption) ?_)
      refine SeqK.nx (by assumption) ?_
      refine k_ret ?_
      refine BlkK.rt (by assumption) ?_
      refine SeqK.rt (by assumption) ?_
      refine LoopK.rt (by assumption) ?_
      refine BlkK.rt (by assumption) ?_
      refine SeqK.rt (by assumption) ?_
      first | refine FunK.rtc (by assumption) (res_cell F 0 rfl rfl (by kernel_rfl) (resE_rsv rfl)) ?_ | refine FunK.rtc (by assumption) (res_cell F 1 rfl rfl (by kernel_rfl) (resE_rsv rfl)) ?_ | refine FunK.rtc (by assumption) (res_cell F 2 rfl rfl (by kernel_rfl) (resE_rsv rfl)) ?_ | refine FunK.rtc (by assumption) (res_cell F 3 rfl rfl (by kernel_rfl) (resE_rsv rfl)) ?_ | refine FunK.rtc (by assumption) (res_cell F 4 rfl rfl (by kernel_rfl) (resE_rsv rfl)) ?_ | refine FunK.rtc (by assumption) (res_cell F 5 rfl rfl (by kernel_rfl) (resE_rsv rfl)) ?_ | refine FunK.rtc (by assumption) (res_cell F 6 rfl rfl (by kernel_rfl) (resE_rsv rfl)) ?_ | refine FunK.rtc (by assumption) (res_cell F 7 rfl rfl (by kernel_rfl) (resE_rsv rfl)) ?_
      -- leaf 5
      first
        | (rw [hr]; exact ⟨(none, 0), rfl, F.pick [0] (by decide), trivial⟩)
        | (rw [hr]
           refine ⟨(none, 0), ?_, F.pick [0] (by decide), trivial⟩
           show Value.tuple #[_, _, .int .i64 nf.2.2] = _
           rw [h90]; rfl)
        | (rw [hr]
           refine ⟨(some ⟨q57, 0, some 0⟩, kk), ?_, ?_, trivial⟩
           · show _ = Value.tuple #[.agg #[.int .u32 nf.1, .slice _ pre.length _], _, _]
             rw [hpl]; rfl
           · show Facts _ _ _ [own _ pre.length _ 2 (rows eO pre)]
             rw [hpl]; exact F.pick [2] (by decide))
    try simp only [irr_eq, beq_iff_eq, bne_iff_ne, beq_eq_false_iff_ne, bne_eq_false_iff_eq, ne_eq, decide_eq_true_eq, decide_eq_false_iff_not, Bool.not_eq_true', Bool.not_eq_false'] at hc6
    refine k_skip ?_
    refine BlkK.nx (by assumption) ?_
    refine SeqK.nx (by assumption) ?_
    refine k_lin (fun W K => ?_)
    refine l_a64 rfl rfl rfl (by omega) rfl ?_
    refine l_op 0 rfl rfl rfl rfl rfl ?_
    refine l_nil (WK.nx (by assumption) ?_)
    have e1 : (i + 1).toNat = i.toNat + 1 := by omega
    exact K0.nx (i + 1) (by repeat (first | exact trivial | refine And.intro rfl ?_)) ⟨by rw [e1]; exact F.pick [0, 1, 2] (by decide), by omega, by omega, fun j hj => by
      by_cases hji : (j : Int) < i
      · exact hmay j hji
      · have : j = i.toNat := by omega
        rw [this]; simpa using hc6⟩ (by first | omega | (simp only; omega))
  replace hc5 := of_decide_eq_false ((irr_eq _).symm.trans hc5)
  have hall : allMay (ltr sp.1) ms = true := allMay_of _ _ (by omega) (fun j hj => hmay j (by omega))
  rw [hall, if_neg (by decide)] at hdec
  have hsz : ∀ j : Nat, j < kk → 0 ≤ szm (ms.getD j 0) := fun j hj => may_sz (hmay j (by omega))
  refine k_exit ?_
  refine SeqK.et (by assumption) ?_
  refine LoopK.et (by assumption) ?_
  refine BlkK.et (by assumption) ?_
  refine SeqK.nx (by assumption) ?_
  refine k_seq (fun Q K => ?_)
  refine k_seq (fun Q K => ?_)
  refine k_lin (fun W K => ?_)
  refine l_op 0 rfl rfl rfl rfl rfl ?_
  first | refine l_op 2 rfl rfl rfl rfl rfl ?_ | refine l_ln rfl rfl rfl rfl ?_
  refine l_op 0 rfl rfl rfl rfl rfl ?_
  refine l_nil (WK.nx (by assumption) ?_)
  refine SeqK.nx (by assumption) ?_
  refine k_block (fun Q K => ?_)
  have ei : i.toNat = ms.length := by omega
  rw [ei, modesTo_end] at F
  obtain ⟨q0, hq0⟩ : ∃ q0, at_ + nf.2.1 + (((kk + 1) / 2 : Nat) : Int) = q0 := ⟨_, rfl⟩
  rw [hq0] at hdec
  have hq0' : at_ + nf.2.1 + ((sp.1.size : Nat) + 1) / 2 = q0 := by omega
  refine k_loop (α := Int × Int × List (Int × Int)) (fun ⟨i, q, pre⟩ s => Facts E0 σ s [own none 0 0 2 [], cel q4 [Value.int .u32 0, .slice none 0 0], own (some ⟨q57, 0, some 0⟩) kk kk 2 (rows eO (valsTo ms pre i.toNat))] ∧ 0 ≤ i ∧ i ≤ kk ∧ pre.length = i.toNat ∧ 0 ≤ q ∧ q ≤ l ∧ valsR bs q0 ms = (valsR bs q (ms.drop i.toNat)).map fun r => (pre ++ r.1, r.2)) (fun ⟨i, q, pre⟩ => [(0, .slice a l c), (1, .int .i64 at_), (4, .pointer (some ⟨q4, 0, none⟩)), (7, .int .u32 nf.1), (11, .int .i64 q), (12, .slice (some ⟨q57, 0, some 0⟩) kk kk), (92, .slice (some ⟨q57, 0, some 0⟩) kk kk), (93, .int .i64 kk), (94, .int .i64 i)]) (fun ⟨i, _⟩ => (kk - i).toNat) (0, at_ + nf.2.1 + ((sp.1.size : Nat) + 1) / 2, []) ⟨F, by omega, by omega, rfl, by omega, by omega, by rw [hq0']; exact (vals_id _).symm⟩ (by repeat (first | exact trivial | refine And.intro rfl ?_)) ?_
  clear F
  rintro ⟨i, q, pre⟩ env s Q K0 ⟨F, j0, j1, hpre, qq0, qq1, hvals⟩
  refine k_seq (fun Q K => ?_)
  refine k_lin (fun W K => ?_)
  refine l_cmp rfl rfl rfl rfl ?_
  refine l_nil (WK.nx (by assumption) ?_)
  refine SeqK.nx (by assumption) ?_
  refine k_seq (fun Q K => ?_)
  refine l_cond rfl rfl (fun hc7 => ?_) (fun hc7 => ?_)
  · replace hc7 := of_decide_eq_true ((irr_eq _).symm.trans hc7)
    have him : i.toNat < ms.length := by omega
    have hszi := hsz i.toNat (by omega)
    obtain ⟨z0, z1, z2, z3⟩ := szm_cases hszi
    refine k_skip ?_
    refine SeqK.nx (by assumption) ?_
    refine k_seq (fun Q K => ?_)
    refine k_block (fun Q K => ?_)
    refine k_seq (fun Q K => ?_)
    refine k_lin (fun W K => ?_)
    refine l_op 0 rfl rfl rfl rfl rfl ?_
    refine l_ixo F 2 rfl rfl rfl rfl rfl rfl rfl (by omega) (fun m97 e97 ha97 hA97 => ?_)
    cases ha97
    rw [rows_at eO_len (by rw [valsTo_len hpre (by omega)]; omega), valsTo_at hpre him] at hA97
    refine l_lda (ws := eO (ms.getD i.toNat 0, 0)) rfl rfl rfl rfl rfl hA97 ?_
    refine l_al F rfl rfl rfl rfl (fun q15 s F => ?_)
    (try dsimp only [n_1, n_2, n_3, n_4, List.append_nil, pk, n_5, n_6] at F)
    refine l_op 0 rfl rfl rfl rfl rfl ?_
    refine l_stca F 3 rfl rfl rfl rfl rfl rfl rfl rfl rfl rfl hD rfl (fun s F => ?_)
    (try dsimp only [n_1, n_2, n_3, n_4, List.append_nil, pk, n_5, n_6] at F)
    refine l_nil (WK.nx (by assumption) ?_)
    refine SeqK.nx (by assumption) ?_
    refine k_seq (fun Q K => ?_)
    refine k_lin (fun W K => ?_)
    refine l_op 2 rfl rfl rfl rfl rfl ?_
    refine l_ldc F 3 rfl rfl rfl rfl rfl rfl rfl ?_
    refine l_callp F rfl rfl (by kernel_rfl) rfl rfl size_call (fun _ s F _ => ?_)
    (try dsimp only [n_1, n_2, n_3, n_4, List.append_nil, pk, n_5, n_6] at F)
    refine l_op 0 rfl rfl rfl rfl rfl ?_
    refine l_nil (WK.nx (by assumption) ?_)
    refine SeqK.nx (by assumption) ?_
    refine k_seq (fun Q K => ?_)
    refine k_seq (fun Q K => ?_)
    refine k_lin (fun W K => ?_)
    refine l_op 0 rfl rfl rfl rfl rfl ?_
    refine l_cmp rfl rfl rfl rfl ?_
    refine l_nil (WK.nx (by assumption) ?_)
    refine SeqK.nx (by assumption) ?_
    refine l_cond rfl rfl (fun hc8 => ?_) (fun hc8 => ?_)
    · first | replace hc8 := eq_of_beq ((irr_eq _).symm.trans hc8) | simp only [irr_eq, beq_iff_eq, beq_eq_false_iff_ne, ne_eq, decide_eq_true_eq, decide_eq_false_iff_not] at hc8
      refine k_exit ?_
      refine SeqK.et (by assumption) ?_
      refine BlkK.et (by assumption) ?_
      refine SeqK.nx (by assumption) ?_
      refine k_lin (fun W K => ?_)
      refine l_a64 rfl rfl rfl (by omega) rfl ?_
      refine l_op 0 rfl rfl rfl rfl rfl ?_
      refine l_nil (WK.nx (by assumption) ?_)
      have e1 : (i + 1).toNat = i.toNat + 1 := by omega
      first
        | (have hz : szm (ms.getD i.toNat 0) = 0 := by omega
           rw [drop_at him, valsR, if_pos hz, vals_app] at hvals
           rw [valsTo_skip him] at F
           exact K0.nx (i + 1, q, pre ++ [(ms.getD i.toNat 0, 0)]) (by repeat (first | exact trivial | refine And.intro rfl ?_)) ⟨by rw [e1]; exact F.pick [0, 1, 2] (by decide), by omega, by omega, by rw [List.length_append, hpre, e1]; rfl, by omega, by omega, by rw [e1]; exact hvals⟩ (by first | omega | (simp only; omega)))
        | (rw [drop_at him, valsR, if_neg (by omega), if_neg (by omega), vals_app] at hvals
           exact K0.nx (i + 1, q + szm (ms.getD i.toNat 0), pre ++ [(ms.getD i.toNat 0, telR (ms.getD i.toNat 0) (be bs q.toNat (szm (ms.getD i.toNat 0)).toNat))]) (by repeat (first | exact trivial | refine And.intro rfl ?_)) ⟨by rw [e1]; exact F.pick [0, 1, 2] (by decide), by omega, by omega, by rw [List.length_append, hpre, e1]; rfl, by omega, by omega, by rw [e1]; exact hvals⟩ (by first | omega | (simp only; omega)))
    first | replace hc8 := ne_of_beq_false ((irr_eq _).symm.trans hc8) | simp only [irr_eq, beq_iff_eq, beq_eq_false_iff_ne, ne_eq, decide_eq_true_eq, decide_eq_false_iff_not] at hc8
    refine k_skip ?_
    refine SeqK.nx (by assumption) ?_
    refine k_seq (fun Q K => ?_)
    refine k_lin (fun W K => ?_)
    refine l_op 0 rfl rfl rfl rfl rfl ?_
    refine l_op 0 rfl rfl rfl rfl rfl ?_
    refine l_op 0 rfl rfl rfl rfl rfl ?_
    refine l_callp F rfl rfl (by kernel_rfl) rfl rfl (wbe_call (Old.pure (F.old h)) hB (by omega)) (fun _ s F _ => ?_)
    (try dsimp only [n_1, n_2, n_3, n_4, List.append_nil, pk, n_5, n_6] at F)
    refine l_op 0 rfl rfl rfl rfl rfl ?_
    refine l_op 2 rfl rfl rfl rfl rfl ?_
    refine l_op 2 rfl rfl rfl rfl rfl ?_
    refine l_op 0 rfl rfl rfl rfl rfl ?_
    refine l_op 0 rfl rfl rfl rfl rfl ?_
    refine l_nil (WK.nx (by assumption) ?_)
    refine SeqK.nx (by assumption) ?_
    refine k_seq (fun Q K => ?_)
    refine k_seq (fun Q K => ?_)
    refine k_lin (fun W K => ?_)
    refine l_op 0 rfl rfl rfl rfl rfl ?_
    refine l_cmp rfl rfl rfl rfl ?_
    refine l_nil (WK.nx (by assumption) ?_)
    refine SeqK.nx (by assumption) ?_
    refine l_cond rfl rfl (fun hc9 => ?_) (fun hc9 => ?_)
    · first | replace hc9 := bne_iff_ne.1 ((irr_eq _).symm.trans hc9) | simp only [irr_eq, bne_iff_ne, bne_eq_false_iff_eq, ne_eq, decide_eq_true_eq, decide_eq_false_iff_not, Bool.not_eq_true', Bool.not_eq_false'] at hc9
      have hr : decR sgR bs at_ = (0, [], 0, 90) := by
        have hshort := ben_no qq0 (by omega) hc9
        rw [hdec, hvals, drop_at him, valsR, if_neg (by omega), if_pos (by omega)]
        rfl
      refine k_seq (fun Q K => ?_)
      refine k_lin (fun W K => ?_)
      refine l_ldca F 1 rfl rfl rfl rfl rfl rfl rfl ?_
      refine l_stca F 1 rfl rfl rfl rfl rfl rfl rfl rfl rfl rfl hD rfl (fun s F => ?_)
      (try dsimp only [n_1, n_2, n_3, n_4, List.append_nil, pk, n_5, n_6] at F)
      refine l_op 0 rfl rfl rfl rfl rfl ?_
      refine l_op 0 rfl rfl rfl rfl rfl ?_
      refine l_nil (WK.nx (by assumption) ?_)
      refine SeqK.nx (by assumption) ?_
      refine k_ret ?_
      refine SeqK.rt (by assumption) ?_
      refine BlkK.rt (by assumption) ?_
      refine SeqK.rt (by assumption) ?_
      refine LoopK.rt (by assumption) ?_
      refine BlkK.rt (by assumption) ?_
      refine SeqK.rt (by assumption) ?_
      first | refine FunK.rtc (by assumption) (res_cell F 0 rfl rfl (by kernel_rfl) (resE_rsv rfl)) ?_ | refine FunK.rtc (by assumption) (res_cell F 1 rfl rfl (by kernel_rfl) (resE_rsv rfl)) ?_ | refine FunK.rtc (by assumption) (res_cell F 2 rfl rfl (by kernel_rfl) (resE_rsv rfl)) ?_ | refine FunK.rtc (by assumption) (res_cell F 3 rfl rfl (by kernel_rfl) (resE_rsv rfl)) ?_ | refine FunK.rtc (by assumption) (res_cell F 4 rfl rfl (by kernel_rfl) (resE_rsv rfl)) ?_ | refine FunK.rtc (by assumption) (res_cell F 5 rfl rfl (by kernel_rfl) (resE_rsv rfl)) ?_ | refine FunK.rtc (by assumption) (res_cell F 6 rfl rfl (by kernel_rfl) (resE_rsv rfl)) ?_ | refine FunK.rtc (by assumption) (res_cell F 7 rfl rfl (by kernel_rfl) (resE_rsv rfl)) ?_
      -- leaf 6
      first
        | (rw [hr]; exact ⟨(none, 0), rfl, F.pick [0] (by decide), trivial⟩)
        | (rw [hr]
           refine ⟨(none, 0), ?_, F.pick [0] (by decide), trivial⟩
           show Value.tuple #[_, _, .int .i64 nf.2.2] = _
           rw [h90]; rfl)
        | (rw [hr]
           refine ⟨(some ⟨q57, 0, some 0⟩, kk), ?_, ?_, trivial⟩
           · show _ = Value.tuple #[.agg #[.int .u32 nf.1, .slice _ pre.length _], _, _]
             rw [hpl]; rfl
           · show Facts _ _ _ [own _ pre.length _ 2 (rows eO pre)]
             rw [hpl]; exact F.pick [2] (by decide))
    first | replace hc9 := bne_eq_false_iff_eq.1 ((irr_eq _).symm.trans hc9) | simp only [irr_eq, bne_iff_ne, bne_eq_false_iff_eq, ne_eq, decide_eq_true_eq, decide_eq_false_iff_not, Bool.not_eq_true', Bool.not_eq_false'] at hc9
    obtain ⟨hlen, hbv⟩ := ben_ok qq0 (by omega) hc9
    have hx4 := be_lt4 hB q.toNat (k := (szm (ms.getD i.toNat 0)).toNat) (by omega)
    rw [← hbv] at hx4
    have hxu : U32 (beR bs q (szm (ms.getD i.toNat 0))).1 := hx4
    refine k_skip ?_
    refine SeqK.nx (by assumption) ?_
    refine k_seq (fun Q K => ?_)
    refine k_seq (fun Q K => ?_)
    refine k_lin (fun W K => ?_)
    refine l_op 2 rfl rfl rfl rfl rfl ?_
    refine l_ldc F 3 rfl rfl rfl rfl rfl rfl rfl ?_
    refine l_callp F rfl rfl (by kernel_rfl) rfl rfl constant_call (fun _ s F _ => ?_)
    (try dsimp only [n_1, n_2, n_3, n_4, List.append_nil, pk, n_5, n_6] at F)
    refine l_nil (WK.nx (by assumption) ?_)
    refine SeqK.nx (by assumption) ?_
    refine l_cond rfl rfl (fun hc10 => ?_) (fun hc10 => ?_)
    · try simp only [irr_eq, beq_iff_eq, bne_iff_ne, beq_eq_false_iff_ne, bne_eq_false_iff_eq, ne_eq, decide_eq_true_eq, decide_eq_false_iff_not, Bool.not_eq_true', Bool.not_eq_false'] at hc10
      refine k_lin (fun W K => ?_)
      refine l_op 0 rfl rfl rfl rfl rfl ?_
      refine l_op 0 rfl rfl rfl rfl rfl ?_
      refine l_callp F rfl rfl (by kernel_rfl) rfl rfl (extend_call hxu) (fun _ s F _ => ?_)
      (try dsimp only [n_1, n_2, n_3, n_4, List.append_nil, pk, n_5, n_6] at F)
      refine l_op 0 rfl rfl rfl rfl rfl ?_
      refine l_nil (WK.nx (by assumption) ?_)
      refine SeqK.nx (by assumption) ?_
      refine k_seq (fun Q K => ?_)
      refine k_lin (fun W K => ?_)
      refine l_op 0 rfl rfl rfl rfl rfl ?_
      refine l_op 0 rfl rfl rfl rfl rfl ?_
      refine l_op 0 rfl rfl rfl rfl rfl ?_
      refine l_ixo F 2 rfl rfl rfl rfl rfl rfl rfl (by omega) (fun m123 e123 ha123 hA123 => ?_)
      cases ha123
      refine l_op 2 rfl rfl rfl rfl rfl ?_
      first
        | (have hx : extR (beR bs q (szm (ms.getD i.toNat 0))).1 (szm (ms.getD i.toNat 0)) = telR (ms.getD i.toNat 0) (be bs q.toNat (szm (ms.getD i.toNat 0)).toNat) := by
             unfold telR; rw [if_pos (by assumption), hbv]
           refine l_sto (j := i.toNat * 2 + 1) (v := .int .u32 (extR (beR bs q (szm (ms.getD i.toNat 0))).1 (szm (ms.getD i.toNat 0)))) F 2 rfl rfl rfl rfl rfl rfl rfl rfl (by omega) hD (fun s F => ?_)
           rw [hx] at F)
        | (have hx : (beR bs q (szm (ms.getD i.toNat 0))).1 = telR (ms.getD i.toNat 0) (be bs q.toNat (szm (ms.getD i.toNat 0)).toNat) := by
             unfold telR; rw [if_neg (by simp_all), hbv]
           refine l_sto (j := i.toNat * 2 + 1) (v := .int .u32 (beR bs q (szm (ms.getD i.toNat 0))).1) F 2 rfl rfl rfl rfl rfl rfl rfl rfl (by omega) hD (fun s F => ?_)
           rw [hx] at F)
      (try dsimp only [n_1, n_2, n_3, n_4, List.append_nil, pk, n_5, n_6] at F)
      rw [valsTo_set hpre him] at F
      refine l_nil (WK.nx (by assumption) ?_)
      refine SeqK.nx (by assumption) ?_
      refine k_lin (fun W K => ?_)
      refine l_op 0 rfl rfl rfl rfl rfl ?_
      refine l_op 0 rfl rfl rfl rfl rfl ?_
      refine l_a64 rfl rfl rfl (by omega) rfl ?_
      refine l_op 0 rfl rfl rfl rfl rfl ?_
      refine l_nil (WK.nx (by assumption) ?_)
      refine BlkK.nx (by assumption) ?_
      refine SeqK.nx (by assumption) ?_
      refine k_lin (fun W K => ?_)
      refine l_a64 rfl rfl rfl (by omega) rfl ?_
      refine l_op 0 rfl rfl rfl rfl rfl ?_
      refine l_nil (WK.nx (by assumption) ?_)
      have e1 : (i + 1).toNat = i.toNat + 1 := by omega
      first
        | (have hz : szm (ms.getD i.toNat 0) = 0 := by omega
           rw [drop_at him, valsR, if_pos hz, vals_app] at hvals
           rw [valsTo_skip him] at F
           exact K0.nx (i + 1, q, pre ++ [(ms.getD i.toNat 0, 0)]) (by repeat (first | exact trivial | refine And.intro rfl ?_)) ⟨by rw [e1]; exact F.pick [0, 1, 2] (by decide), by omega, by omega, by rw [List.length_append, hpre, e1]; rfl, by omega, by omega, by rw [e1]; exact hvals⟩ (by first | omega | (simp only; omega)))
        | (rw [drop_at him, valsR, if_neg (by omega), if_neg (by omega), vals_app] at hvals
           exact K0.nx (i + 1, q + szm (ms.getD i.toNat 0), pre ++ [(ms.getD i.toNat 0, telR (ms.getD i.toNat 0) (be bs q.toNat (szm (ms.getD i.toNat 0)).toNat))]) (by repeat (first | exact trivial | refine And.intro rfl ?_)) ⟨by rw [e1]; exact F.pick [0, 1, 2] (by decide), by omega, by omega, by rw [List.length_append, hpre, e1]; rfl, by omega, by omega, by rw [e1]; exact hvals⟩ (by first | omega | (simp only; omega)))
    try simp only [irr_eq, beq_iff_eq, bne_iff_ne, beq_eq_false_iff_ne, bne_eq_false_iff_eq, ne_eq, decide_eq_true_eq, decide_eq_false_iff_not, Bool.not_eq_true', Bool.not_eq_false'] at hc10
    refine k_skip ?_
    refine SeqK.nx (by assumption) ?_
    refine k_seq (fun Q K => ?_)
    refine k_lin (fun W K => ?_)
    refine l_op 0 rfl rfl rfl rfl rfl ?_
    refine l_op 0 rfl rfl rfl rfl rfl ?_
    refine l_op 0 rfl rfl rfl rfl rfl ?_
    refine l_ixo F 2 rfl rfl rfl rfl rfl rfl rfl (by omega) (fun m123 e123 ha123 hA123 => ?_)
    cases ha123
    refine l_op 2 rfl rfl rfl rfl rfl ?_
    first
      | (have hx : extR (beR bs q (szm (ms.getD i.toNat 0))).1 (szm (ms.getD i.toNat 0)) = telR (ms.getD i.toNat 0) (be bs q.toNat (szm (ms.getD i.toNat 0)).toNat) := by
           unfold telR; rw [if_pos (by assumption), hbv]
         refine l_sto (j := i.toNat * 2 + 1) (v := .int .u32 (extR (beR bs q (szm (ms.getD i.toNat 0))).1 (szm (ms.getD i.toNat 0)))) F 2 rfl rfl rfl rfl rfl rfl rfl rfl (by omega) hD (fun s F => ?_)
         rw [hx] at F)
      | (have hx : (beR bs q (szm (ms.getD i.toNat 0))).1 = telR (ms.getD i.toNat 0) (be bs q.toNat (szm (ms.getD i.toNat 0)).toNat) := by
           unfold telR; rw [if_neg (by simp_all), hbv]
         refine l_sto (j := i.toNat * 2 + 1) (v := .int .u32 (beR bs q (szm (ms.getD i.toNat 0))).1) F 2 rfl rfl rfl rfl rfl rfl rfl rfl (by omega) hD (fun s F => ?_)
         rw [hx] at F)
    (try dsimp only [n_1, n_2, n_3, n_4, List.append_nil, pk, n_5, n_6] at F)
    rw [valsTo_set hpre him] at F
    refine l_nil (WK.nx (by assumption) ?_)
    refine SeqK.nx (by assumption) ?_
    refine k_lin (fun W K => ?_)
    refine l_op 0 rfl rfl rfl rfl rfl ?_
    refine l_op 0 rfl rfl rfl rfl rfl ?_
    refine l_a64 rfl rfl rfl (by omega) rfl ?_
    refine l_op 0 rfl rfl rfl rfl rfl ?_
    refine l_nil (WK.nx (by assumption) ?_)
    refine BlkK.nx (by assumption) ?_
    refine SeqK.nx (by assumption) ?_
    refine k_lin (fun W K => ?_)
    refine l_a64 rfl rfl rfl (by omega) rfl ?_
    refine l_op 0 rfl rfl rfl rfl rfl ?_
    refine l_nil (WK.nx (by assumption) ?_)
    have e1 : (i + 1).toNat = i.toNat + 1 := by omega
    first
      | (have hz : szm (ms.getD i.toNat 0) = 0 := by omega
         rw [drop_at him, valsR, if_pos hz, vals_app] at hvals
         rw [valsTo_skip him] at F
         exact K0.nx (i + 1, q, pre ++ [(ms.getD i.toNat 0, 0)]) (by repeat (first | exact trivial | refine And.intro rfl ?_)) ⟨by rw [e1]; exact F.pick [0, 1, 2] (by decide), by omega, by omega, by rw [List.length_append, hpre, e1]; rfl, by omega, by omega, by rw [e1]; exact hvals⟩ (by first | omega | (simp only; omega)))
      | (rw [drop_at him, valsR, if_neg (by omega), if_neg (by omega), vals_app] at hvals
         exact K0.nx (i + 1, q + szm (ms.getD i.toNat 0), pre ++ [(ms.getD i.toNat 0, telR (ms.getD i.toNat 0) (be bs q.toNat (szm (ms.getD i.toNat 0)).toNat))]) (by repeat (first | exact trivial | refine And.intro rfl ?_)) ⟨by rw [e1]; exact F.pick [0, 1, 2] (by decide), by omega, by omega, by rw [List.length_append, hpre, e1]; rfl, by omega, by omega, by rw [e1]; exact hvals⟩ (by first | omega | (simp only; omega)))
  replace hc7 := of_decide_eq_false ((irr_eq _).symm.trans hc7)
  have hr : decR sgR bs at_ = (nf.1, pre, q - at_, 0) := by
    rw [hdec, hvals, List.drop_of_length_le (by omega), valsR]
    simp only [Option.map_some, List.append_nil]
  have hpl : pre.length = kk := by omega
  have F : Facts E0 σ s [own none 0 0 2 [], cel q4 [Value.int .u32 0, .slice none 0 0], own (some ⟨q57, 0, some 0⟩) kk kk 2 (rows eO pre)] := by
    have e : valsTo ms pre i.toNat = pre := by unfold valsTo; rw [List.drop_of_length_le (by omega)]; simp
    rw [e] at F
    exact F
  refine k_exit ?_
  refine SeqK.et (by assumption) ?_
  refine LoopK.et (by assumption) ?_
  refine BlkK.et (by assumption) ?_
  refine SeqK.nx (by assumption) ?_
  refine k_seq (fun Q K => ?_)
  refine k_lin (fun W K => ?_)
  refine l_op 0 rfl rfl rfl rfl rfl ?_
  refine l_op 0 rfl rfl rfl rfl rfl ?_
  refine l_bld rfl rfl rfl rfl ?_
  refine l_op 0 rfl rfl rfl rfl rfl ?_
  refine l_op 0 rfl rfl rfl rfl rfl ?_
  refine l_a64 rfl rfl rfl (by omega) rfl ?_
  refine l_stca F 1 rfl rfl rfl rfl rfl rfl rfl rfl rfl rfl hD rfl (fun s F => ?_)
  (try dsimp only [n_1, n_2, n_3, n_4, List.append_nil, pk, n_5, n_6] at F)
  refine l_op 0 rfl rfl rfl rfl rfl ?_
  refine l_op 0 rfl rfl rfl rfl rfl ?_
  refine l_nil (WK.nx (by assumption) ?_)
  refine SeqK.nx (by assumption) ?_
  refine k_ret ?_
  first | refine FunK.rtc (by assumption) (res_cell F 0 rfl rfl (by kernel_rfl) (resE_rsv rfl)) ?_ | refine FunK.rtc (by assumption) (res_cell F 1 rfl rfl (by kernel_rfl) (resE_rsv rfl)) ?_ | refine FunK.rtc (by assumption) (res_cell F 2 rfl rfl (by kernel_rfl) (resE_rsv rfl)) ?_ | refine FunK.rtc (by assumption) (res_cell F 3 rfl rfl (by kernel_rfl) (resE_rsv rfl)) ?_ | refine FunK.rtc (by assumption) (res_cell F 4 rfl rfl (by kernel_rfl) (resE_rsv rfl)) ?_ | refine FunK.rtc (by assumption) (res_cell F 5 rfl rfl (by kernel_rfl) (resE_rsv rfl)) ?_ | refine FunK.rtc (by assumption) (res_cell F 6 rfl rfl (by kernel_rfl) (resE_rsv rfl)) ?_ | refine FunK.rtc (by assumption) (res_cell F 7 rfl rfl (by kernel_rfl) (resE_rsv rfl)) ?_
  -- leaf 7
  first
    | (rw [hr]; exact ⟨(none, 0), rfl, F.pick [0] (by decide), trivial⟩)
    | (rw [hr]
       refine ⟨(none, 0), ?_, F.pick [0] (by decide), trivial⟩
       show Value.tuple #[_, _, .int .i64 nf.2.2] = _
       rw [h90]; rfl)
    | (rw [hr]
       refine ⟨(some ⟨q57, 0, some 0⟩, kk), ?_, ?_, trivial⟩
       · show _ = Value.tuple #[.agg #[.int .u32 nf.1, .slice _ pre.length _], _, _]
         rw [hpl]; rfl
       · show Facts _ _ _ [own _ pre.length _ 2 (rows eO pre)]
         rw [hpl]; exact F.pick [2] (by decide))

end Go.Proofs.Ytkemnodaadlonaa
