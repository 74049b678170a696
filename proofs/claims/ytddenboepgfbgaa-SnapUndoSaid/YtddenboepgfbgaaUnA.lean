/- States of a game, copied, taken away, compared. No statement of the seat is proved in this text. -/
import Derived.Test.YtddenboepgfbgaaWd
import Derived.Test.YtddenboepgfbgaaAb34
import Derived.Test.YtddenboepgfbgaaLibBytes
set_option linter.unusedVariables false
set_option linter.unusedSimpArgs false
set_option maxRecDepth 100000
set_option maxHeartbeats 4000000
namespace GAb
open Go
/-- A block's cells. -/
abbrev eB (x : Int × Int) : List Value := [.int .u32 x.1, .int .u32 x.2]
theorem eB_len (x : Int × Int) : (eB x).length = 2 := rfl
theorem eB_one (bl : List (Int × Int)) : (rows eB bl).all Value.oneCell' = true := by
  rw [List.all_eq_true]
  intro v hv
  obtain ⟨x, _, hx⟩ := List.mem_flatMap.1 hv
  simp at hx
  rcases hx with rfl | rfl <;> rfl
end GAb
namespace Go.Proofs.Ytddenboepgfbgaa
open GAb Go

theorem all_take {p : Value → Bool} {l : List Value} (h : l.all p = true) (k : Nat) : (l.take k).all p = true := by
  rw [List.all_eq_true] at h ⊢; exact fun v hv => h v (List.mem_of_mem_take hv)
theorem all_drop {p : Value → Bool} {l : List Value} (h : l.all p = true) (k : Nat) : (l.drop k).all p = true := by
  rw [List.all_eq_true] at h ⊢; exact fun v hv => h v (List.mem_of_mem_drop hv)
/-! Strings and their numbers. -/
theorem ltr_str {xs : List Int} (h : Bytes xs) : ltr (strOfNums xs) = xs := by
  show ((xs.map fun n => UInt8.ofNat n.toNat).toArray.toList).map (fun b : UInt8 => (b.toNat : Int)) = xs
  rw [List.toList_toArray, List.map_map]
  refine List.ext_getElem (by simp) fun i h1 h2 => ?_
  have hb := h i h2
  simp only [List.getD, List.getElem?_eq_getElem h2, Option.getD_some] at hb
  simp only [List.getElem_map, Function.comp]
  rw [UInt8.toNat_ofNat']
  omega
theorem str_size (xs : List Int) : (strOfNums xs).size = xs.length := by
  show (List.toArray _).size = _
  simp
theorem str_ltr (s : ByteArray) : strOfNums (ltr s) = s := by
  unfold strOfNums
  obtain ⟨⟨l⟩⟩ := s
  congr 1
  simp only [ltr, List.map_map]
  congr 1
  rw [List.map_congr_left (g := id) (fun b hb => by simp)]
  simp
theorem ltr_inj {s t : ByteArray} (h : ltr s = ltr t) : s = t := by rw [← str_ltr s, ← str_ltr t, h]
theorem ltr_bytes (s : ByteArray) : Bytes (ltr s) := fun i _ => ltr_bd s i
theorem Bytes.take {bs : List Int} (h : Bytes bs) (k : Nat) : Bytes (bs.take k) := fun i hi => by
  have := h.at i
  rw [List.length_take] at hi
  have e : (bs.take k).getD i 0 = bs.getD i 0 := by simp [List.getD, List.getElem?_take, show i < k by omega]
  rw [e]; exact this
/-- Likeness of strings, as the program tells it. -/
theorem sbeq_iff {s t : ByteArray} : (s.toList == t.toList) = true ↔ ltr s = ltr t := by
  rw [ByteArray.toList_eq, ByteArray.toList_eq, beq_iff_eq]
  exact ⟨fun h => by unfold ltr; rw [h], fun h => by rw [ltr_inj h]⟩
theorem sbeq_str {xs ys : List Int} (hx : Bytes xs) (hy : Bytes ys) : ((strOfNums xs).toList == (strOfNums ys).toList) = true ↔ xs = ys := by
  rw [sbeq_iff, ltr_str hx, ltr_str hy]

theorem irr_f : Value.bool false = Value.bool (irr false) := by rw [irr_eq]
theorem irr_t : Value.bool true = Value.bool (irr true) := by rw [irr_eq]
/-- A state: what differs of the memory, its root, the blocks, the stack; each with its place. -/
structure SS where
  mx : Option Addr
  ml : Nat
  mc : Nat
  m : List Int
  rt : Int
  bx : Option Addr
  bl : Nat
  bc : Nat
  b : List (Int × Int)
  sx : Option Addr
  sl : Nat
  sc : Nat
  s : List Int
  deriving Inhabited
abbrev eS (t : SS) : List Value := [.slice t.mx t.ml t.mc, .int .u32 t.rt, .slice t.bx t.bl t.bc, .slice t.sx t.sl t.sc]
theorem eS_len (t : SS) : (eS t).length = 4 := rfl
theorem eS_one (L : List SS) : (rows eS L).all Value.oneCell' = true := by
  rw [List.all_eq_true]
  intro v hv
  obtain ⟨x, _, hx⟩ := List.mem_flatMap.1 hv
  simp at hx
  rcases hx with rfl | rfl | rfl | rfl <;> rfl
/-- Its pieces. -/
abbrev dS (t : SS) : List Fact := [own t.mx t.ml t.mc 1 (u8l t.m), own t.bx t.bl t.bc 2 (rows eB t.b), own t.sx t.sl t.sc 1 (u8l t.s)]
/-- What it says. -/
abbrev plS (t : SS) : List Int × Int × List (Int × Int) × List Int := (t.m, t.rt, t.b, t.s)

/-- Bytes, copied. -/
theorem bclone_call {σ : AState} {a : Option Addr} {l c : Nat} {xs : List Int} (h1 : Old E0 σ a l c 1 (u8l xs)) (hl : l ≤ 1000000000) :
    SCall Try.prog E0 31 [.slice a l c] σ (Ret E0 σ (fun (y : Option Addr × Nat) => .slice y.1 l y.2) (fun y => [own y.1 l y.2 1 (u8l xs)]) fun _ => True) := by
  have hxl := h1.len8
  have F := Facts.nil E0 σ
  cases a with
  | none =>
    obtain ⟨rfl, rfl, hxs⟩ := Has.none h1.1
    obtain rfl : xs = [] := List.eq_nil_of_length_eq_zero hxl
    refine k_fun Try.func31 rfl (m := 8) rfl fun B hD Q K => ?_
    refine k_seq (fun Q K => ?_)
    refine k_lin (fun W K => ?_)
    refine l_op 0 rfl rfl rfl rfl rfl ?_
    refine l_nil (WK.nx (by assumption) ?_)
    refine SeqK.nx (by assumption) ?_
    refine k_seq (fun Q K => ?_)
    refine k_seq (fun Q K => ?_)
    refine k_lin (fun W K => ?_)
    refine l_op 0 rfl rfl rfl rfl rfl ?_
    refine l_cmp rfl rfl rfl rfl ?_
    refine l_nil (WK.nx (by assumption) ?_)
    refine SeqK.nx (by assumption) ?_
    refine l_cond rfl rfl (fun hc1 => ?_) (fun hc1 => ?_)
    · first | replace hc1 := eq_of_beq ((irr_eq _).symm.trans hc1) | simp only [irr_eq, beq_iff_eq, beq_eq_false_iff_ne, ne_eq, decide_eq_true_eq, decide_eq_false_iff_not] at hc1
      refine k_seq (fun Q K => ?_)
      refine k_lin (fun W K => ?_)
      refine l_op 0 rfl rfl rfl rfl rfl ?_
      refine l_nil (WK.nx (by assumption) ?_)
      refine SeqK.nx (by assumption) ?_
      refine k_ret ?_
      refine SeqK.rt (by assumption) ?_
      refine FunK.rt (by assumption) rfl ?_
      -- leaf 1
      exact ⟨(none, 0), rfl, F.nilrow 1, trivial⟩
    exact absurd ((irr_eq _).symm.trans hc1) (by decide)
  | some p =>
    refine k_fun Try.func31 rfl (m := 8) rfl fun B hD Q K => ?_
    refine k_seq (fun Q K => ?_)
    refine k_lin (fun W K => ?_)
    refine l_op 0 rfl rfl rfl rfl rfl ?_
    refine l_nil (WK.nx (by assumption) ?_)
    refine SeqK.nx (by assumption) ?_
    refine k_seq (fun Q K => ?_)
    refine k_seq (fun Q K => ?_)
    refine k_lin (fun W K => ?_)
    refine l_op 0 rfl rfl rfl rfl rfl ?_
    refine l_cmp rfl rfl rfl rfl ?_
    refine l_nil (WK.nx (by assumption) ?_)
    refine SeqK.nx (by assumption) ?_
    refine l_cond rfl rfl (fun hc1 => ?_) (fun hc1 => ?_)
    · exact absurd ((irr_eq _).symm.trans hc1) (by decide)
    first | replace hc1 := ne_of_beq_false ((irr_eq _).symm.trans hc1) | simp only [irr_eq, beq_iff_eq, beq_eq_false_iff_ne, ne_eq, decide_eq_true_eq, decide_eq_false_iff_not] at hc1
    refine k_skip ?_
    refine SeqK.nx (by assumption) ?_
    refine k_seq (fun Q K => ?_)
    refine k_lin (fun W K => ?_)
    refine l_lit F rfl rfl rfl rfl (fun q5 s F => ?_)
    (try dsimp only [n_1, n_2, n_3, n_4, List.append_nil, pk, n_5, n_6] at F)
    refine l_op 0 rfl rfl rfl rfl rfl ?_
    refine l_appi (xs := []) F 0 rfl rfl rfl rfl rfl rfl rfl (F.old h1) rfl (by omega) hD (fun x2 c2 s F => ?_)
    (try dsimp only [n_1, n_2, n_3, n_4, List.append_nil, pk, n_5, n_6] at F)
    rw [Nat.zero_add] at F
    refine l_op 0 rfl rfl rfl rfl rfl ?_
    refine l_nil (WK.nx (by assumption) ?_)
    refine SeqK.nx (by assumption) ?_
    refine k_ret ?_
    refine FunK.rt (by assumption) rfl ?_
    -- leaf 1
    exact ⟨(x2, c2), congrArg (fun k => Value.slice x2 k c2) (Nat.zero_add l), F, trivial⟩

/-- Blocks, copied. -/
theorem blclone_call {σ : AState} {a : Option Addr} {l c : Nat} {bl : List (Int × Int)} (h1 : Old E0 σ a l c 2 (rows eB bl)) (hl : l ≤ 1000000000) :
    SCall Try.prog E0 32 [.slice a l c] σ (Ret E0 σ (fun (y : Option Addr × Nat) => .slice y.1 l y.2) (fun y => [own y.1 l y.2 2 (rows eB bl)]) fun _ => True) := by
  have hxl : bl.length = l := h1.1.len eB_len (by decide)
  have F := Facts.nil E0 σ
  cases a with
  | none =>
    obtain ⟨rfl, rfl, hxs⟩ := Has.none h1.1
    obtain rfl : bl = [] := List.eq_nil_of_length_eq_zero hxl
    refine k_fun Try.func32 rfl (m := 8) rfl fun B hD Q K => ?_
    refine k_seq (fun Q K => ?_)
    refine k_lin (fun W K => ?_)
    refine l_op 0 rfl rfl rfl rfl rfl ?_
    refine l_nil (WK.nx (by assumption) ?_)
    refine SeqK.nx (by assumption) ?_
    refine k_seq (fun Q K => ?_)
    refine k_seq (fun Q K => ?_)
    refine k_lin (fun W K => ?_)
    refine l_op 0 rfl rfl rfl rfl rfl ?_
    refine l_cmp rfl rfl rfl rfl ?_
    refine l_nil (WK.nx (by assumption) ?_)
    refine SeqK.nx (by assumption) ?_
    refine l_cond rfl rfl (fun hc1 => ?_) (fun hc1 => ?_)
    · first | replace hc1 := eq_of_beq ((irr_eq _).symm.trans hc1) | simp only [irr_eq, beq_iff_eq, beq_eq_false_iff_ne, ne_eq, decide_eq_true_eq, decide_eq_false_iff_not] at hc1
      refine k_seq (fun Q K => ?_)
      refine k_lin (fun W K => ?_)
      refine l_op 0 rfl rfl rfl rfl rfl ?_
      refine l_nil (WK.nx (by assumption) ?_)
      refine SeqK.nx (by assumption) ?_
      refine k_ret ?_
      refine SeqK.rt (by assumption) ?_
      refine FunK.rt (by assumption) rfl ?_
      -- leaf 1
      exact ⟨(none, 0), rfl, F.nilrow 2, trivial⟩
    exact absurd ((irr_eq _).symm.trans hc1) (by decide)
  | some p =>
    refine k_fun Try.func32 rfl (m := 8) rfl fun B hD Q K => ?_
    refine k_seq (fun Q K => ?_)
    refine k_lin (fun W K => ?_)
    refine l_op 0 rfl rfl rfl rfl rfl ?_
    refine l_nil (WK.nx (by assumption) ?_)
    refine SeqK.nx (by assumption) ?_
    refine k_seq (fun Q K => ?_)
    refine k_seq (fun Q K => ?_)
    refine k_lin (fun W K => ?_)
    refine l_op 0 rfl rfl rfl rfl rfl ?_
    refine l_cmp rfl rfl rfl rfl ?_
    refine l_nil (WK.nx (by assumption) ?_)
    refine SeqK.nx (by assumption) ?_
    refine l_cond rfl rfl (fun hc1 => ?_) (fun hc1 => ?_)
    · exact absurd ((irr_eq _).symm.trans hc1) (by decide)
    first | replace hc1 := ne_of_beq_false ((irr_eq _).symm.trans hc1) | simp only [irr_eq, beq_iff_eq, beq_eq_false_iff_ne, ne_eq, decide_eq_true_eq, decide_eq_false_iff_not] at hc1
    refine k_skip ?_
    refine SeqK.nx (by assumption) ?_
    refine k_seq (fun Q K => ?_)
    refine k_lin (fun W K => ?_)
    refine l_lit F rfl rfl rfl rfl (fun q5 s F => ?_)
    (try dsimp only [n_1, n_2, n_3, n_4, List.append_nil, pk, n_5, n_6] at F)
    refine l_op 0 rfl rfl rfl rfl rfl ?_
    refine l_app (es := 2) F 0 rfl rfl rfl rfl rfl rfl rfl (F.old h1) (eB_one bl) rfl (by omega) hD (fun x2 c2 s F => ?_)
    (try dsimp only [n_1, n_2, n_3, n_4, List.append_nil, pk, n_5, n_6] at F)
    rw [Nat.zero_add] at F
    refine l_op 0 rfl rfl rfl rfl rfl ?_
    refine l_nil (WK.nx (by assumption) ?_)
    refine SeqK.nx (by assumption) ?_
    refine k_ret ?_
    refine FunK.rt (by assumption) rfl ?_
    -- leaf 1
    exact ⟨(x2, c2), congrArg (fun k => Value.slice x2 k c2) (Nat.zero_add l), F, trivial⟩

theorem same8_call {σ : AState} {a b : Option Addr} {l1 l2 c1 c2 : Nat} {xs ys : List (Int × Int)} (h1 : Old E0 σ a l1 c1 2 (rows eB xs)) (h2 : Old E0 σ b l2 c2 2 (rows eB ys)) (hn : xs.length ≤ 1000000) :
    SCall Try.prog E0 34 [.slice a l1 c1, .slice b l2 c2] σ (Ret E0 σ (fun (_ : Unit) => .bool (irr (decide (xs = ys)))) (fun _ => []) fun _ => True) := by
  obtain rfl : xs.length = l1 := h1.1.len eB_len (by decide)
  obtain rfl : ys.length = l2 := h2.1.len eB_len (by decide)
  refine k_fun Try.func34 rfl (m := 26) rfl fun B hD Q K => ?_
  have F := Facts.nil E0 σ
  refine k_seq (fun Q K => ?_)
  refine k_lin (fun W K => ?_)
  refine l_op 0 rfl rfl rfl rfl rfl ?_
  refine l_nil (WK.nx (by assumption) ?_)
  refine SeqK.nx (by assumption) ?_
  refine k_seq (fun Q K => ?_)
  refine k_seq (fun Q K => ?_)
  refine k_lin (fun W K => ?_)
  refine l_op 0 rfl rfl rfl rfl rfl ?_
  first | refine l_op 2 rfl rfl rfl rfl rfl ?_ | refine l_ln rfl rfl rfl rfl ?_
  refine l_op 0 rfl rfl rfl rfl rfl ?_
  first | refine l_op 2 rfl rfl rfl rfl rfl ?_ | refine l_ln rfl rfl rfl rfl ?_
  refine l_cmp rfl rfl rfl rfl ?_
  refine l_nil (WK.nx (by assumption) ?_)
  refine SeqK.nx (by assumption) ?_
  refine l_cond rfl rfl (fun hc1 => ?_) (fun hc1 => ?_)
  · first | replace hc1 := bne_iff_ne.1 ((irr_eq _).symm.trans hc1) | simp only [irr_eq, bne_iff_ne, bne_eq_false_iff_eq, ne_eq, decide_eq_true_eq, decide_eq_false_iff_not, Bool.not_eq_true', Bool.not_eq_false'] at hc1
    refine k_seq (fun Q K => ?_)
    refine k_lin (fun W K => ?_)
    refine l_op 0 rfl rfl rfl rfl rfl ?_
    refine l_nil (WK.nx (by assumption) ?_)
    refine SeqK.nx (by assumption) ?_
    refine k_ret ?_
    refine SeqK.rt (by assumption) ?_
    refine FunK.rt (by assumption) rfl ?_
    -- leaf 1
    refine ⟨(), ?_, F.pick [] (by decide), trivial⟩
    show Value.bool _ = Value.bool _
    rw [irr_eq]
    first
      | (rw [decide_eq_false (fun e => hne (by rw [e]))]; done)
      | (rw [decide_eq_false (fun e => hc1 (by rw [e]))]; done)
      | (rw [decide_eq_true (by rw [List.take_of_length_le (by omega), List.take_of_length_le (by omega)] at hI; exact hI)])
  first | replace hc1 := bne_eq_false_iff_eq.1 ((irr_eq _).symm.trans hc1) | simp only [irr_eq, bne_iff_ne, bne_eq_false_iff_eq, ne_eq, decide_eq_true_eq, decide_eq_false_iff_not, Bool.not_eq_true', Bool.not_eq_false'] at hc1
  refine k_skip ?_
  refine SeqK.nx (by assumption) ?_
  refine k_seq (fun Q K => ?_)
  refine k_seq (fun Q K => ?_)
  refine k_lin (fun W K => ?_)
  refine l_op 0 rfl rfl rfl rfl rfl ?_
  refine l_nil (WK.nx (by assumption) ?_)
  refine SeqK.nx (by assumption) ?_
  refine k_block (fun Q K => ?_)
  refine k_loop (α := Int) (fun i s => Facts E0 σ s [] ∧ 0 ≤ i ∧ i ≤ xs.length ∧ xs.take i.toNat = ys.take i.toNat) (fun i => [(0, .slice a xs.length c1), (1, .slice b ys.length c2), (5, .int .i64 i)]) (fun i => (xs.length - i).toNat) 0 ⟨F, by omega, by omega, by simp⟩ (by repeat (first | exact trivial | refine And.intro rfl ?_)) ?_
  clear F
  rintro i env s Q K0 ⟨F, i0, i1, hI⟩
  refine k_seq (fun Q K => ?_)
  refine k_seq (fun Q K => ?_)
  refine k_lin (fun W K => ?_)
  refine l_op 0 rfl rfl rfl rfl rfl ?_
  refine l_op 0 rfl rfl rfl rfl rfl ?_
  first | refine l_op 2 rfl rfl rfl rfl rfl ?_ | refine l_ln rfl rfl rfl rfl ?_
  refine l_cmp rfl rfl rfl rfl ?_
  refine l_nil (WK.nx (by assumption) ?_)
  refine SeqK.nx (by assumption) ?_
  refine l_cond rfl rfl (fun hc2 => ?_) (fun hc2 => ?_)
  · replace hc2 := of_decide_eq_true ((irr_eq _).symm.trans hc2)
    refine k_skip ?_
    refine SeqK.nx (by assumption) ?_
    refine k_seq (fun Q K => ?_)
    refine k_block (fun Q K => ?_)
    refine k_seq (fun Q K => ?_)
    refine k_linm [0, 1, 2, 4, 5, 6, 3, 7, 8] mixed (by kernel_rfl) (fun W K => ?_)
    try have hpS := F.pns
    refine l_op 0 rfl rfl rfl rfl rfl ?_
    refine l_op 0 rfl rfl rfl rfl rfl ?_
    refine l_ixrs (e := eB) F h1 ⟨eB_len, by decide⟩ rfl rfl rfl rfl rfl rfl (by omega) (fun m19 b19 hA19 hS19 => ?_)
    refine l_op 0 rfl rfl rfl rfl rfl ?_
    refine l_op 0 rfl rfl rfl rfl rfl ?_
    refine l_ixrs (e := eB) F h2 ⟨eB_len, by decide⟩ rfl rfl rfl rfl rfl rfl (by omega) (fun m23 b23 hA23 hS23 => ?_)
    refine l_lda (ws := eB (xs.getD i.toNat default)) rfl rfl rfl rfl rfl hA19 ?_
    have hpS := PnS.add hpS hS19
    refine l_lda (ws := eB (ys.getD i.toNat default)) rfl rfl rfl rfl rfl hA23 ?_
    have hpS := PnS.add hpS hS23
    refine l_cm2 (ng := true) (a0 := (xs.getD i.toNat default).1) (a1 := (xs.getD i.toNat default).2) (b0 := (ys.getD i.toNat default).1) (b1 := (ys.getD i.toNat default).2) (by kernel_rfl) rfl rfl ?_
    refine l_nil (WK.nx (by assumption) ?_)
    refine SeqK.nx (by assumption) ?_
    refine l_cond rfl rfl (fun hc3 => ?_) (fun hc3 => ?_)
    · try simp only [irr_eq, beq_iff_eq, bne_iff_ne, beq_eq_false_iff_ne, bne_eq_false_iff_eq, ne_eq, decide_eq_true_eq, decide_eq_false_iff_not, Bool.not_eq_true', Bool.not_eq_false'] at hc3
      have hne : xs.getD i.toNat default ≠ ys.getD i.toNat default := fun e => by rw [e] at hc3; simp at hc3
      refine k_seq (fun Q K => ?_)
      refine k_lin (fun W K => ?_)
      refine l_op 0 rfl rfl rfl rfl rfl ?_
      refine l_nil (WK.nx (by assumption) ?_)
      refine SeqK.nx (by assumption) ?_
      refine k_ret ?_
      refine BlkK.rt (by assumption) ?_
      refine SeqK.rt (by assumption) ?_
      refine LoopK.rt (by assumption) ?_
      refine BlkK.rt (by assumption) ?_
      refine SeqK.rt (by assumption) ?_
      refine FunK.rt (by assumption) rfl ?_
      -- leaf 2
      refine ⟨(), ?_, F.pick [] (by decide), trivial⟩
      show Value.bool _ = Value.bool _
      rw [irr_eq]
      first
        | (rw [decide_eq_false (fun e => hne (by rw [e]))]; done)
        | (rw [decide_eq_false (fun e => hc1 (by rw [e]))]; done)
        | (rw [decide_eq_true (by rw [List.take_of_length_le (by omega), List.take_of_length_le (by omega)] at hI; exact hI)])
    try simp only [irr_eq, beq_iff_eq, bne_iff_ne, beq_eq_false_iff_ne, bne_eq_false_iff_eq, ne_eq, decide_eq_true_eq, decide_eq_false_iff_not, Bool.not_eq_true', Bool.not_eq_false'] at hc3
    have heq : xs.getD i.toNat default = ys.getD i.toNat default := by
      simp only [if_true, Bool.not_eq_false', Bool.and_eq_true, beq_iff_eq] at hc3
      exact Prod.ext hc3.1 hc3.2
    refine k_skip ?_
    refine BlkK.nx (by assumption) ?_
    refine SeqK.nx (by assumption) ?_
    refine k_lin (fun W K => ?_)
    refine l_op 0 rfl rfl rfl rfl rfl ?_
    (first | refine l_a64 rfl rfl rfl (by omega) rfl ?_ | refine l_a32 rfl rfl rfl (by omega) rfl ?_ | refine l_a8 rfl rfl rfl (by omega) rfl ?_ | refine l_au64 rfl rfl rfl (by omega) rfl ?_ | refine l_op 1 rfl rfl rfl rfl rfl ?_)
    refine l_op 0 rfl rfl rfl rfl rfl ?_
    refine l_nil (WK.nx (by assumption) ?_)
    have e1 : (i + 1).toNat = i.toNat + 1 := by omega
    have e2 : xs.take (i.toNat + 1) = ys.take (i.toNat + 1) := by
      rw [List.take_add_one, List.take_add_one, hI]
      have h3 : i.toNat < xs.length := by omega
      have h4 : i.toNat < ys.length := by omega
      simp only [List.getD, List.getElem?_eq_getElem h3, List.getElem?_eq_getElem h4, Option.getD_some] at heq
      rw [List.getElem?_eq_getElem h3, List.getElem?_eq_getElem h4, heq]
    exact K0.nx (i + 1) (by repeat (first | exact trivial | refine And.intro rfl ?_)) ⟨F.pick [] (by decide), by omega, by omega, by rw [e1]; exact e2⟩ (by first | omega | (simp only; omega))
  replace hc2 := of_decide_eq_false ((irr_eq _).symm.trans hc2)
  refine k_exit ?_
  refine SeqK.et (by assumption) ?_
  refine LoopK.et (by assumption) ?_
  refine BlkK.et (by assumption) ?_
  refine SeqK.nx (by assumption) ?_
  refine k_seq (fun Q K => ?_)
  refine k_lin (fun W K => ?_)
  refine l_op 0 rfl rfl rfl rfl rfl ?_
  refine l_nil (WK.nx (by assumption) ?_)
  refine SeqK.nx (by assumption) ?_
  refine k_ret ?_
  refine FunK.rt (by assumption) rfl ?_
  -- leaf 3
  refine ⟨(), ?_, F.pick [] (by decide), trivial⟩
  show Value.bool _ = Value.bool _
  rw [irr_eq]
  first
    | (rw [decide_eq_false (fun e => hne (by rw [e]))]; done)
    | (rw [decide_eq_false (fun e => hc1 (by rw [e]))]; done)
    | (rw [decide_eq_true (by rw [List.take_of_length_le (by omega), List.take_of_length_le (by omega)] at hI; exact hI)])

theorem rows_del (bl : List SS) (i : Nat) (hi : i < bl.length) (zs : List Value) : (splice (splice (rows eS bl) (i * 4) (rows eS (bl.drop (i + 1)))) ((bl.length - 1) * 4) zs).take ((bl.length - 1) * 4) = rows eS (bl.eraseIdx i) := by
  have h1 : (rows eS bl).length = bl.length * 4 := rows_length eS_len _
  have h2 : (rows eS (bl.drop (i + 1))).length = (bl.length - (i + 1)) * 4 := by rw [rows_length eS_len, List.length_drop]
  have h3 : (splice (rows eS bl) (i * 4) (rows eS (bl.drop (i + 1)))).take ((bl.length - 1) * 4) = rows eS (bl.eraseIdx i) := by
    unfold splice
    rw [List.eraseIdx_eq_take_drop_succ, rows_append, rows_take eS_len]
    have e1 : (rows eS (bl.take i)).length = i * 4 := by rw [rows_length eS_len, List.length_take]; omega
    rw [List.take_append, e1, List.take_of_length_le (l := rows eS (bl.take i)) (by omega), List.take_append_of_le_length (by omega), List.take_of_length_le (l := rows eS (bl.drop (i + 1))) (by omega)]
  have h4 : (splice (rows eS bl) (i * 4) (rows eS (bl.drop (i + 1)))).length = bl.length * 4 := by rw [splice_length (by omega), h1]
  generalize splice (rows eS bl) (i * 4) (rows eS (bl.drop (i + 1))) = V at *
  rw [← h3]
  unfold splice
  rw [List.take_append_of_le_length (by rw [List.length_take]; omega), List.take_take, Nat.min_self]

theorem delete_call {O : Nat → Prop} {σ : AState} {m c : Nat} {i : Int} {bl : List SS} (F : Facts O σ σ [own (some ⟨m, 0, some 0⟩) bl.length c 4 (rows eS bl)]) (hi : 0 ≤ i ∧ i < bl.length) (hn : bl.length ≤ 1000000) :
    SCall Try.prog O 41 [.slice (some ⟨m, 0, some 0⟩) bl.length c, .int .i64 i, .int .i64 (i + 1)] σ (Ret O σ (fun (_ : Unit) => .slice (some ⟨m, 0, some 0⟩) (bl.length - 1) c) (fun _ => [own (some ⟨m, 0, some 0⟩) (bl.length - 1) c 4 (rows eS (bl.eraseIdx i.toNat))]) fun _ => True) := by
  have hcap : bl.length ≤ c := by obtain ⟨zs, hR, _⟩ := F.has 0 rfl; exact hR.size.2
  refine k_fun Try.func41 rfl (m := 33) rfl fun B hD Q K => ?_
  refine k_seq (fun Q K => ?_)
  refine k_lin (fun W K => ?_)
  refine l_op 0 rfl rfl rfl rfl rfl ?_
  refine l_nil (WK.nx (by assumption) ?_)
  refine SeqK.nx (by assumption) ?_
  refine k_seq (fun Q K => ?_)
  refine k_lin (fun W K => ?_)
  refine l_op 0 rfl rfl rfl rfl rfl ?_
  refine l_op 0 rfl rfl rfl rfl rfl ?_
  refine l_op 0 rfl rfl rfl rfl rfl ?_
  refine l_op 0 rfl rfl rfl rfl rfl ?_
  first | refine l_op 2 rfl rfl rfl rfl rfl ?_ | refine l_ln rfl rfl rfl rfl ?_
  refine l_slm rfl rfl rfl rfl ⟨rfl, _, _, rfl, by omega, rfl⟩ ⟨rfl, _, _, rfl, by omega, rfl⟩ ⟨rfl, _, _, rfl, by omega, rfl⟩ ⟨by omega, by omega, by omega⟩ ?_
  refine l_nil (WK.nx (by assumption) ?_)
  refine SeqK.nx (by assumption) ?_
  refine k_seq (fun Q K => ?_)
  refine k_seq (fun Q K => ?_)
  refine k_lin (fun W K => ?_)
  refine l_op 0 rfl rfl rfl rfl rfl ?_
  refine l_op 0 rfl rfl rfl rfl rfl ?_
  refine l_cmp rfl rfl rfl rfl ?_
  refine l_nil (WK.nx (by assumption) ?_)
  refine SeqK.nx (by assumption) ?_
  refine l_cond rfl rfl (fun hc1 => ?_) (fun hc1 => ?_)
  · first | replace hc1 := eq_of_beq ((irr_eq _).symm.trans hc1) | simp only [irr_eq, beq_iff_eq, beq_eq_false_iff_ne, ne_eq, decide_eq_true_eq, decide_eq_false_iff_not] at hc1
    omega
  first | replace hc1 := ne_of_beq_false ((irr_eq _).symm.trans hc1) | simp only [irr_eq, beq_iff_eq, beq_eq_false_iff_ne, ne_eq, decide_eq_true_eq, decide_eq_false_iff_not] at hc1
  refine k_skip ?_
  refine SeqK.nx (by assumption) ?_
  refine k_seq (fun Q K => ?_)
  refine k_lin (fun W K => ?_)
  refine l_op 0 rfl rfl rfl rfl rfl ?_
  first | refine l_op 2 rfl rfl rfl rfl rfl ?_ | refine l_ln rfl rfl rfl rfl ?_
  refine l_op 0 rfl rfl rfl rfl rfl ?_
  refine l_nil (WK.nx (by assumption) ?_)
  refine SeqK.nx (by assumption) ?_
  refine k_seq (fun Q K => ?_)
  refine k_linr mixed (by kernel_rfl) (fun W K => ?_)
  try have hpS := F.pns
  refine l_op 0 rfl rfl rfl rfl rfl ?_
  refine l_op 0 rfl rfl rfl rfl rfl ?_
  first | refine l_slh (es := 4) rfl rfl rfl rfl rfl ⟨rfl, _, _, rfl, by omega, rfl⟩ (F.old (by assumption)) (by omega) ?_ | refine l_slh (es := 4) rfl rfl rfl rfl rfl ⟨rfl, _, _, rfl, by omega, rfl⟩ (F.has 0 rfl) (by omega) ?_ | refine l_slh (es := 4) rfl rfl rfl rfl rfl ⟨rfl, _, _, rfl, by omega, rfl⟩ (F.has 1 rfl) (by omega) ?_ | refine l_slh (es := 4) rfl rfl rfl rfl rfl ⟨rfl, _, _, rfl, by omega, rfl⟩ (F.has 2 rfl) (by omega) ?_ | refine l_slh (es := 4) rfl rfl rfl rfl rfl ⟨rfl, _, _, rfl, by omega, rfl⟩ (F.has 3 rfl) (by omega) ?_
  refine l_op 0 rfl rfl rfl rfl rfl ?_
  refine l_op 0 rfl rfl rfl rfl rfl ?_
  first | refine l_sl (es := 4) rfl rfl rfl rfl rfl rfl rfl rfl rfl (F.old (by assumption)) (by omega) ?_ | refine l_sl (es := 4) rfl rfl rfl rfl rfl rfl rfl rfl rfl (F.has 0 rfl) (by omega) ?_ | refine l_sl (es := 4) rfl rfl rfl rfl rfl rfl rfl rfl rfl (F.has 1 rfl) (by omega) ?_ | refine l_sl (es := 4) rfl rfl rfl rfl rfl rfl rfl rfl rfl (F.has 2 rfl) (by omega) ?_ | refine l_sl (es := 4) rfl rfl rfl rfl rfl rfl rfl rfl rfl (F.has 3 rfl) (by omega) ?_
  have hp := (F.has 0 rfl).part (lo := (i + 1).toNat) (hi := bl.length) (by omega) (by omega)
  refine l_appo (es := 4) F 0 rfl rfl rfl rfl rfl rfl rfl hp (all_take (all_drop (eS_one bl) _) _) (by omega) hD (fun s F => ?_)
  (try dsimp only [n_1, n_2, n_3, n_4, List.append_nil, pk, n_5, n_6] at F)
  refine l_op 0 rfl rfl rfl rfl rfl ?_
  refine l_nil (WK.nx (by assumption) ?_)
  refine SeqK.nx (by assumption) ?_
  refine k_seq (fun Q K => ?_)
  refine k_lin (fun W K => ?_)
  refine l_op 0 rfl rfl rfl rfl rfl ?_
  refine l_op 0 rfl rfl rfl rfl rfl ?_
  first | refine l_op 2 rfl rfl rfl rfl rfl ?_ | refine l_ln rfl rfl rfl rfl ?_
  refine l_op 0 rfl rfl rfl rfl rfl ?_
  first | refine l_sl (es := 4) rfl rfl rfl rfl rfl rfl rfl rfl ⟨rfl, _, _, rfl, by omega, rfl⟩ (F.old (by assumption)) (by omega) ?_ | refine l_sl (es := 4) rfl rfl rfl rfl rfl rfl rfl rfl ⟨rfl, _, _, rfl, by omega, rfl⟩ (F.has 0 rfl) (by omega) ?_ | refine l_sl (es := 4) rfl rfl rfl rfl rfl rfl rfl rfl ⟨rfl, _, _, rfl, by omega, rfl⟩ (F.has 1 rfl) (by omega) ?_ | refine l_sl (es := 4) rfl rfl rfl rfl rfl rfl rfl rfl ⟨rfl, _, _, rfl, by omega, rfl⟩ (F.has 2 rfl) (by omega) ?_ | refine l_sl (es := 4) rfl rfl rfl rfl rfl rfl rfl rfl ⟨rfl, _, _, rfl, by omega, rfl⟩ (F.has 3 rfl) (by omega) ?_
  refine l_clr (es := 4) F 0 rfl rfl rfl rfl rfl rfl (by dsimp only; omega) hD (fun s F => ?_)
  (try dsimp only [n_1, n_2, n_3, n_4, List.append_nil, pk, n_5, n_6] at F)
  refine l_nil (WK.nx (by assumption) ?_)
  refine SeqK.nx (by assumption) ?_
  refine k_seq (fun Q K => ?_)
  refine k_lin (fun W K => ?_)
  refine l_op 0 rfl rfl rfl rfl rfl ?_
  refine l_op 0 rfl rfl rfl rfl rfl ?_
  refine l_nil (WK.nx (by assumption) ?_)
  refine SeqK.nx (by assumption) ?_
  refine k_ret ?_
  refine FunK.rt (by assumption) rfl ?_
  -- leaf 1
  have e1 : i.toNat + (bl.length - (i + 1).toNat) = bl.length - 1 := by omega
  have e2 : 0 + (↑(bl.length - 1) : Int).toNat * 4 = (bl.length - 1) * 4 := by omega
  have e3 : (i + 1).toNat = i.toNat + 1 := by omega
  have e4 : ((rows eS bl).drop ((i.toNat + 1) * 4)).take ((bl.length - (i.toNat + 1)) * 4) = rows eS (bl.drop (i.toNat + 1)) := by
    rw [rows_drop eS_len, List.take_of_length_le (by rw [rows_length eS_len, List.length_drop]; omega)]
  rw [e1] at F ⊢
  rw [e2, e3, e4] at F
  have G := F.upto 0 rfl (h := bl.length - 1) (by omega)
  rw [rows_del bl i.toNat (by omega)] at G
  exact ⟨(), rfl, G, trivial⟩


end Go.Proofs.Ytddenboepgfbgaa
