/- The small game's header, by the program; its memory. No statement of the seat is proved in this text. -/
import Derived.Test.YtocfmecenpeoiaaGreatMemT
import Derived.Test.YtocfmecenpeoiaaGreatMemC
set_option linter.unusedVariables false
set_option linter.unusedSimpArgs false
set_option maxRecDepth 100000
set_option maxHeartbeats 4000000
namespace GAb
open Go
/-- The place of an array's element. -/
def ixAE (P : Program) (o : Oper) : Option (Operand × Operand × Nat × Nat) :=
  match o.op with
  | .indexAddr t x ix => match okx x, okx ix, P.underlying t with
    | true, true, some (.array len elem) => (tsz P elem).map fun k => (x, ix, len, k)
    | _, _, _ => none
  | _ => none
theorem l_ixA {P : Program} {B : Base} {n : Nat} {all : Array Oper} {W : Pn → Env → AState → Prop} {pn : Pn} {env : Env} {σ : AState} {o : Oper} {rest : List Oper} {d : Option Nat} {x ix : Operand} {len k m j : Nat} {ik : IntKind} {i : Int} (h : ixAE P o = some (x, ix, len, k)) (hw : wantedE all n o env = true) (hd : dsto o = some d) (hx : look n env x = .pointer (some ⟨m, j, none⟩)) (hi : look n env ix = .int ik i) (hb : 0 ≤ i ∧ i < len)
    (hl : Lin P B all W n pn rest (upd env d (.pointer (some ⟨m, j + i.toNat * k, none⟩))) σ) : Lin P B all W n pn (o :: rest) env σ := by
  refine l_p hw hd (v := .pointer (some ⟨m, j + i.toNat * k, none⟩)) ?_ (by unfold ixAE at h; unfold rbE; split at h <;> first | (rename_i ho; rw [ho]) | cases h) hl
  unfold ixAE at h
  split at h
  · rename_i t x' ix' ho
    split at h
    · rename_i len' elem k1 k2 hu
      cases hk : tsz P elem with
      | none => rw [hk] at h; cases h
      | some k' =>
        rw [hk] at h
        injection h with h
        injection h with e1 h
        injection h with e2 h
        injection h with e3 e4
        subst e1; subst e2; subst e3; subst e4
        unfold aop aIndexAddr
        simp only [ho, look_aval k1, look_aval k2, hx, hi, hu, hk]
        rw [if_pos hb]
        rfl
    · cases h
  · cases h
end GAb
namespace Go.Proofs.YtocfmecenpeoiaaGreat
open GAb Go

theorem hpaged_call {σ : AState} {x : Int} (hx : U32 x) : SCall Tryz.prog E0 154 [.int .u32 x] σ (Ret E0 σ (fun (_ : Unit) => .bool (irr (x % 256 == 0))) (fun _ => []) fun _ => True) := by
  obtain ⟨x0, x1⟩ := hx
  refine k_fun Tryz.func154 rfl (m := 6) rfl fun B hD Q K => ?_
  have F := Facts.nil E0 σ
  refine k_seq fun Q K => k_lin fun W K => ?_
  refine l_op 0 rfl rfl rfl rfl rfl ?_
  refine l_nil (WK.nx ‹_› (SeqK.nx ‹_› ?_))
  refine k_seq fun Q K => k_lin fun W K => ?_
  refine l_op 0 rfl rfl rfl rfl rfl ?_
  refine l_remn rfl rfl rfl rfl rfl (by omega) rfl ?_
  refine l_cmp rfl rfl rfl rfl ?_
  refine l_op 0 rfl rfl rfl rfl rfl ?_
  refine l_nil (WK.nx ‹_› (SeqK.nx ‹_› (k_ret ?_)))
  refine FunK.rt (by assumption) rfl ?_
  -- leaf 1
  exact ⟨(), rfl, F, trivial⟩
/-- The sum of so many words. -/
def hsumF (bs : List Int) : Nat → Int
  | 0 => 0
  | i + 1 => if i = 8 then hsumF bs i else (hsumF bs i + at9 bs (4 * (i : Int))) % 4294967296
theorem hsumF_bd (bs : List Int) : ∀ i, 0 ≤ hsumF bs i ∧ hsumF bs i ≤ 4294967295
  | 0 => ⟨Int.le_refl _, (by show (0 : Int) ≤ 4294967295; decide)⟩
  | i + 1 => by
    have h := hsumF_bd bs i
    unfold hsumF
    split
    · exact h
    · omega
theorem hsum_call {σ : AState} {a : Option Addr} {l c : Nat} {bs : List Int} (h : Old E0 σ a l c 1 (u8l bs)) (hB : Bytes bs) (hl : l ≤ 1000000) (h4 : l % 4 = 0) :
    SCall Tryz.prog E0 155 [.slice a l c] σ (Ret E0 σ (fun (_ : Unit) => .int .u32 (hsumF bs (l / 4))) (fun _ => []) fun _ => True) := by
  have hbl := h.len8
  refine k_fun Tryz.func155 rfl (m := 26) rfl fun B hD Q K => ?_
  have F := Facts.nil E0 σ
  refine k_seq fun Q K => k_lin fun W K => ?_
  refine l_op 0 rfl rfl rfl rfl rfl ?_
  refine l_nil (WK.nx ‹_› (SeqK.nx ‹_› ?_))
  refine k_seq fun Q K => k_lin fun W K => ?_
  refine l_op 0 rfl rfl rfl rfl rfl ?_
  refine l_nil (WK.nx ‹_› (SeqK.nx ‹_› ?_))
  refine k_seq fun Q K => k_seq fun Q K => k_lin fun W K => ?_
  refine l_op 0 rfl rfl rfl rfl rfl ?_
  refine l_nil (WK.nx ‹_› (SeqK.nx ‹_› ?_))
  refine k_block fun Q K => ?_
  refine k_loop (α := Nat) (fun i s => Facts E0 σ s [] ∧ 4 * i ≤ l) (fun i => [(0, .slice a l c), (3, .int .u32 (hsumF bs i)), (4, .int .i64 (4 * (i : Int)))]) (fun i => l - i) 0 ⟨F, by omega⟩ (by repeat (first | exact trivial | refine And.intro rfl ?_)) ?_
  clear F
  rintro i env s Q K0 ⟨F, i1⟩
  have hbd := hsumF_bd bs i
  have hbd2 := at9_bd hB (4 * (i : Int))
  refine k_seq fun Q K => k_seq fun Q K => k_lin fun W K => ?_
  refine l_op 0 rfl rfl rfl rfl rfl ?_
  refine l_a64 rfl rfl rfl (by omega) rfl ?_
  refine l_op 0 rfl rfl rfl rfl rfl ?_
  refine l_op 2 rfl rfl rfl rfl rfl ?_
  refine l_cmp rfl rfl rfl rfl ?_
  refine l_nil (WK.nx ‹_› (SeqK.nx ‹_› ?_))
  refine l_cond rfl rfl (fun hc1 => ?_) (fun hc1 => ?_)
  · replace hc1 := of_decide_eq_true ((irr_eq _).symm.trans hc1)
    refine k_skip (SeqK.nx ‹_› ?_)
    refine k_seq fun Q K => k_block fun Q K => k_seq fun Q K => k_seq fun Q K => k_lin fun W K => ?_
    refine l_op 0 rfl rfl rfl rfl rfl ?_
    refine l_cmp rfl rfl rfl rfl ?_
    refine l_nil (WK.nx ‹_› (SeqK.nx ‹_› ?_))
    refine l_cond rfl rfl (fun hc2 => ?_) (fun hc2 => ?_)
    · replace hc2 := eq_of_beq ((irr_eq _).symm.trans hc2)
      refine k_exit ?_
      refine SeqK.et (by assumption) ?_
      refine BlkK.et (by assumption) ?_
      refine SeqK.nx ‹_› ?_
      refine k_lin fun W K => ?_
      refine l_op 0 rfl rfl rfl rfl rfl ?_
      refine l_a64 rfl rfl rfl (by omega) rfl ?_
      refine l_op 0 rfl rfl rfl rfl rfl ?_
      refine l_nil (WK.nx ‹_› ?_)
      have e : 4 * (i : Int) + 4 = 4 * ((i + 1 : Nat) : Int) := by omega
      (have e2 : hsumF bs (i + 1) = hsumF bs i := if_pos (by omega)
       rw [← e2, e]
       exact K0.nx (i + 1) (by repeat (first | exact trivial | refine And.intro rfl ?_)) ⟨F, by omega⟩ (by first | omega | (simp only; omega)))
    replace hc2 := ne_of_beq_false ((irr_eq _).symm.trans hc2)
    refine k_skip (SeqK.nx ‹_› ?_)
    refine k_seq fun Q K => k_lin fun W K => ?_
    iterate 2 refine l_op 0 rfl rfl rfl rfl rfl ?_
    refine l_callp F rfl rfl (by kernel_rfl) rfl rfl (wbe_call (at_ := 4 * (i : Int)) (n := 4) (Old.pure (F.old h)) hB (by omega)) (fun _ s F _ => ?_)
    (try dsimp only [n_1, n_2, n_3, n_4, List.append_nil, pk, n_5, n_6] at F)
    refine l_op 0 rfl rfl rfl rfl rfl ?_
    iterate 2 refine l_op 2 rfl rfl rfl rfl rfl ?_
    iterate 2 refine l_op 0 rfl rfl rfl rfl rfl ?_
    refine l_nil (WK.nx ‹_› (SeqK.nx ‹_› ?_))
    refine k_lin fun W K => ?_
    iterate 2 refine l_op 0 rfl rfl rfl rfl rfl ?_
    refine l_op 1 rfl rfl rfl rfl rfl ?_
    refine l_op 0 rfl rfl rfl rfl rfl ?_
    refine l_nil (WK.nx ‹_› (BlkK.nx ‹_› (SeqK.nx ‹_› ?_)))
    refine k_lin fun W K => ?_
    refine l_op 0 rfl rfl rfl rfl rfl ?_
    refine l_a64 rfl rfl rfl (by omega) rfl ?_
    refine l_op 0 rfl rfl rfl rfl rfl ?_
    refine l_nil (WK.nx ‹_› ?_)
    have e : 4 * (i : Int) + 4 = 4 * ((i + 1 : Nat) : Int) := by omega
    (have e2 : hsumF bs (i + 1) = IntKind.u32.wrap (hsumF bs i + (beR bs (4 * (i : Int)) 4).1) := if_neg (by omega)
     rw [← e2, e]
     exact K0.nx (i + 1) (by repeat (first | exact trivial | refine And.intro rfl ?_)) ⟨F, by omega⟩ (by first | omega | (simp only; omega)))
  replace hc1 := of_decide_eq_false ((irr_eq _).symm.trans hc1)
  refine k_exit ?_
  refine SeqK.et (by assumption) ?_
  refine LoopK.et (by assumption) ?_
  refine BlkK.et (by assumption) ?_
  refine SeqK.nx ‹_› ?_
  refine k_seq fun Q K => k_lin fun W K => ?_
  iterate 2 refine l_op 0 rfl rfl rfl rfl rfl ?_
  refine l_nil (WK.nx ‹_› (SeqK.nx ‹_› (k_ret ?_)))
  refine FunK.rt (by assumption) rfl ?_
  -- leaf 1
  obtain rfl : i = l / 4 := by omega
  exact ⟨(), rfl, F, trivial⟩
/-- The words that are read. -/
def w9 (i : Nat) : List Value := (List.range 8).map fun j => if j < i then .int .u32 (at9 smallB (4 + 4 * (j : Int))) else .int .u32 0
theorem w9_len (i : Nat) : (w9 i).length = 8 := by simp [w9]
theorem w9_step {i : Nat} (h : i < 8) : (w9 i).set i (.int .u32 (at9 smallB (4 + 4 * (i : Int)))) = w9 (i + 1) := by
  apply List.ext_getElem
  · simp [w9]
  · intro k h1 h2
    rw [List.getElem_set]
    by_cases hk : i = k
    · subst hk; simp [w9]
    · rw [if_neg hk]
      simp only [w9, List.getElem_map, List.getElem_range]
      by_cases h3 : k < i
      · rw [if_pos h3, if_pos (by omega)]
      · rw [if_neg h3, if_neg (by omega)]
theorem w9_8 : w9 8 = [.int .u32 (at9 smallB 4), .int .u32 (at9 smallB 8), .int .u32 (at9 smallB 12), .int .u32 (at9 smallB 16), .int .u32 (at9 smallB 20), .int .u32 (at9 smallB 24), .int .u32 (at9 smallB 28), .int .u32 (at9 smallB 32)] := rfl
theorem setv_ok : ∀ {vs : List Value} {j : Nat} {v : Value}, j < vs.length → setv vs j v = some (vs.set j v)
  | [], _, _, h => (by cases h)
  | x :: xs, 0, v, _ => rfl
  | x :: xs, j + 1, v, h => by
    have := setv_ok (vs := xs) (j := j) (v := v) (by simpa using h)
    unfold setv
    rw [this]; rfl
theorem setv_w9 {i : Nat} (h : i < 8) : setv (w9 i) (0 + (i : Int).toNat * 1) (.int .u32 (at9 smallB (4 + 4 * (i : Int)))) = some (w9 (i + 1)) := by
  rw [show 0 + (i : Int).toNat * 1 = i by omega, ← w9_step h]
  exact setv_ok (by rw [w9_len]; exact h)
theorem at9_eq (bs : List Int) (p : Int) : (beR bs p 4).1 = at9 bs p := rfl
attribute [local irreducible] at9
theorem hread_call {σ : AState} {a : Option Addr} {c : Nat} (h : Old E0 σ a 512 c 1 (u8l smallB)) :
    SCall Tryz.prog E0 153 [.slice a 512 c] σ (Ret E0 σ (fun (_ : Unit) => .agg #[.int .u32 (at9 smallB 4), .int .u32 (at9 smallB 8), .int .u32 (at9 smallB 12), .int .u32 (at9 smallB 16), .int .u32 (at9 smallB 20), .int .u32 (at9 smallB 24), .int .u32 (at9 smallB 28), .int .u32 (at9 smallB 32)]) (fun _ => []) fun _ => True) := by
  refine k_fun Tryz.func153 rfl (m := 36) rfl fun B hD Q K => ?_
  have F := Facts.nil E0 σ
  refine k_seq fun Q K => k_lin fun W K => ?_
  refine l_al F rfl rfl rfl rfl (fun q2 s F => ?_)
  (try dsimp only [n_1, n_2, n_3, n_4, List.append_nil, pk, n_5, n_6] at F)
  refine l_nil (WK.nx ‹_› (SeqK.nx ‹_› ?_))
  refine k_seq fun Q K => k_lin fun W K => ?_
  refine l_al F rfl rfl rfl rfl (fun q3 s F => ?_)
  (try dsimp only [n_1, n_2, n_3, n_4, List.append_nil, pk, n_5, n_6] at F)
  refine l_nil (WK.nx ‹_› (SeqK.nx ‹_› ?_))
  refine k_seq fun Q K => k_seq fun Q K => k_lin fun W K => ?_
  refine l_op 0 rfl rfl rfl rfl rfl ?_
  refine l_nil (WK.nx ‹_› (SeqK.nx ‹_› ?_))
  refine k_block fun Q K => ?_
  have F0 : Facts E0 σ s [cel q2 [.int .u32 0, .int .u32 0, .int .u32 0, .int .u32 0, .int .u32 0, .int .u32 0, .int .u32 0, .int .u32 0], cel q3 (w9 0)] := F
  refine k_loop (α := Nat) (fun i s => Facts E0 σ s [cel q2 [.int .u32 0, .int .u32 0, .int .u32 0, .int .u32 0, .int .u32 0, .int .u32 0, .int .u32 0, .int .u32 0], cel q3 (w9 i)] ∧ i ≤ 8) (fun i => [(0, .slice a 512 c), (2, .pointer (some ⟨q2, 0, none⟩)), (3, .pointer (some ⟨q3, 0, none⟩)), (5, .int .i64 i)]) (fun i => 8 - i) 0 ⟨F0, by omega⟩ (by repeat (first | exact trivial | refine And.intro rfl ?_)) ?_
  clear F F0
  rintro i env s Q K0 ⟨F, i1⟩
  refine k_seq fun Q K => k_lin fun W K => ?_
  refine l_cmp rfl rfl rfl rfl ?_
  refine l_nil (WK.nx ‹_› (SeqK.nx ‹_› ?_))
  refine k_seq fun Q K => ?_
  refine l_cond rfl rfl (fun hc1 => ?_) (fun hc1 => ?_)
  · replace hc1 := of_decide_eq_true ((irr_eq _).symm.trans hc1)
    refine k_skip (SeqK.nx ‹_› ?_)
    refine k_seq fun Q K => k_block fun Q K => k_seq fun Q K => k_lin fun W K => ?_
    iterate 2 refine l_op 0 rfl rfl rfl rfl rfl ?_
    refine l_nil (WK.nx ‹_› (SeqK.nx ‹_› ?_))
    refine k_lin fun W K => ?_
    iterate 3 refine l_op 0 rfl rfl rfl rfl rfl ?_
    iterate 2 refine l_a64 rfl rfl rfl (by omega) rfl ?_
    refine l_callp F rfl rfl (by kernel_rfl) rfl rfl (wbe_call (at_ := 4 + 4 * (i : Int)) (n := 4) (Old.pure (F.old h)) smallB_bytes (by omega)) (fun _ s F _ => ?_)
    (try dsimp only [n_1, n_2, n_3, n_4, List.append_nil, pk, n_5, n_6] at F)
    refine l_op 0 rfl rfl rfl rfl rfl ?_
    iterate 2 refine l_op 2 rfl rfl rfl rfl rfl ?_
    refine l_ixA (len := 8) (k := 1) rfl rfl rfl rfl rfl (by omega) ?_
    rw [at9_eq]
    refine l_stc (j := 0 + (i : Int).toNat * 1) (us := w9 (i + 1)) F 1 rfl rfl rfl rfl rfl rfl rfl rfl (setv_w9 (i := i) (by omega)) hD (fun s F => ?_)
    (try dsimp only [n_1, n_2, n_3, n_4, List.append_nil, pk, n_5, n_6] at F)
    refine l_nil (WK.nx ‹_› (BlkK.nx ‹_› (SeqK.nx ‹_› ?_)))
    refine k_lin fun W K => ?_
    refine l_a64 rfl rfl rfl (by omega) rfl ?_
    refine l_op 0 rfl rfl rfl rfl rfl ?_
    refine l_nil (WK.nx ‹_› ?_)
    have e : (i : Int) + 1 = ((i + 1 : Nat) : Int) := by omega
    rw [e]
    exact K0.nx (i + 1) (by repeat (first | exact trivial | refine And.intro rfl ?_)) ⟨F, by omega⟩ (by first | omega | (simp only; omega))
  replace hc1 := of_decide_eq_false ((irr_eq _).symm.trans hc1)
  obtain rfl : i = 8 := by omega
  rw [w9_8] at F
  refine k_exit ?_
  refine SeqK.et (by assumption) ?_
  refine LoopK.et (by assumption) ?_
  refine BlkK.et (by assumption) ?_
  refine SeqK.nx ‹_› ?_
  refine k_seq fun Q K => k_lin fun W K => ?_
  refine l_ixA (len := 8) (k := 1) rfl rfl rfl rfl rfl (by omega) ?_
  refine l_ldc F 1 rfl rfl rfl rfl rfl rfl rfl ?_
  refine l_ixA (len := 8) (k := 1) rfl rfl rfl rfl rfl (by omega) ?_
  refine l_ldc F 1 rfl rfl rfl rfl rfl rfl rfl ?_
  refine l_ixA (len := 8) (k := 1) rfl rfl rfl rfl rfl (by omega) ?_
  refine l_ldc F 1 rfl rfl rfl rfl rfl rfl rfl ?_
  refine l_ixA (len := 8) (k := 1) rfl rfl rfl rfl rfl (by omega) ?_
  refine l_ldc F 1 rfl rfl rfl rfl rfl rfl rfl ?_
  refine l_ixA (len := 8) (k := 1) rfl rfl rfl rfl rfl (by omega) ?_
  refine l_ldc F 1 rfl rfl rfl rfl rfl rfl rfl ?_
  refine l_ixA (len := 8) (k := 1) rfl rfl rfl rfl rfl (by omega) ?_
  refine l_ldc F 1 rfl rfl rfl rfl rfl rfl rfl ?_
  refine l_ixA (len := 8) (k := 1) rfl rfl rfl rfl rfl (by omega) ?_
  refine l_ldc F 1 rfl rfl rfl rfl rfl rfl rfl ?_
  refine l_ixA (len := 8) (k := 1) rfl rfl rfl rfl rfl (by omega) ?_
  refine l_ldc F 1 rfl rfl rfl rfl rfl rfl rfl ?_
  refine l_bld (vs := [.int .u32 (at9 smallB 4), .int .u32 (at9 smallB 8), .int .u32 (at9 smallB 12), .int .u32 (at9 smallB 16), .int .u32 (at9 smallB 20), .int .u32 (at9 smallB 24), .int .u32 (at9 smallB 28), .int .u32 (at9 smallB 32)]) rfl (by kernel_rfl) rfl rfl ?_
  refine l_stca F 0 rfl rfl rfl rfl rfl rfl rfl rfl rfl rfl hD rfl (fun s F => ?_)
  (try dsimp only [n_1, n_2, n_3, n_4, List.append_nil, pk, n_5, n_6] at F)
  refine l_nil (WK.nx ‹_› (SeqK.nx ‹_› (k_ret ?_)))
  refine FunK.rtc (by assumption) (res_cell F 0 rfl rfl (by kernel_rfl) (resE_rsv rfl)) ?_
  -- leaf 1
  exact ⟨(), rfl, F.pick [] (by decide), trivial⟩

theorem sbMag : strOfNums (smallB.take 4) = { data := #[71, 108, 117, 108] } := by kernel_rfl
theorem hsumS : hsumF smallB (512 / 4) = 1198488979 := by kernel_rfl
theorem hparse_call {σ : AState} {a : Option Addr} {c : Nat} (h : Old E0 σ a 512 c 1 (u8l smallB)) :
    SCall Tryz.prog E0 102 [.slice a 512 c] σ (Ret E0 σ (fun (v : Value) => .tuple #[v, .int .i64 0, .int .i64 36]) (fun _ => []) fun v => v = .agg #[.int .u32 196867, .int .u32 256, .int .u32 512, .int .u32 768, .int .u32 256, .int .u32 36, .int .u32 0, .int .u32 1198488979]) := by
  refine k_fun Tryz.func102 rfl (m := 133) rfl fun B hD Q K => ?_
  have F := Facts.nil E0 σ
  obtain ⟨w4, e4, v4⟩ : ∃ w, at9 smallB 4 = w ∧ w = 196867 := ⟨_, rfl, sb4⟩
  obtain ⟨w8, e8, v8⟩ : ∃ w, at9 smallB 8 = w ∧ w = 256 := ⟨_, rfl, sb8⟩
  obtain ⟨w12, e12, v12⟩ : ∃ w, at9 smallB 12 = w ∧ w = 512 := ⟨_, rfl, sb12⟩
  obtain ⟨w16, e16, v16⟩ : ∃ w, at9 smallB 16 = w ∧ w = 768 := ⟨_, rfl, sb16⟩
  obtain ⟨w20, e20, v20⟩ : ∃ w, at9 smallB 20 = w ∧ w = 256 := ⟨_, rfl, sb20⟩
  obtain ⟨w24, e24, v24⟩ : ∃ w, at9 smallB 24 = w ∧ w = 36 := ⟨_, rfl, sb24⟩
  obtain ⟨w28, e28, v28⟩ : ∃ w, at9 smallB 28 = w ∧ w = 0 := ⟨_, rfl, sb28⟩
  obtain ⟨w32, e32, v32⟩ : ∃ w, at9 smallB 32 = w ∧ w = 1198488979 := ⟨_, rfl, sb32⟩
  refine k_seq fun Q K => k_lin fun W K => ?_
  refine l_al F rfl rfl rfl rfl (fun q2 s F => ?_)
  (try dsimp only [n_1, n_2, n_3, n_4, List.append_nil, pk, n_5, n_6] at F)
  iterate 2 refine l_op 0 rfl rfl rfl rfl rfl ?_
  refine l_nil (WK.nx ‹_› (SeqK.nx ‹_› ?_))
  refine k_seq fun Q K => k_seq fun Q K => k_lin fun W K => ?_
  refine l_op 0 rfl rfl rfl rfl rfl ?_
  refine l_op 2 rfl rfl rfl rfl rfl ?_
  refine l_cmp rfl rfl rfl rfl ?_
  refine l_nil (WK.nx ‹_› (SeqK.nx ‹_› ?_))
  refine l_cond rfl rfl (fun hc1 => ?_) (fun hc1 => ?_)
  · replace hc1 := of_decide_eq_true ((irr_eq _).symm.trans hc1)
    refine k_seq fun Q K => k_lin fun W K => ?_
    refine l_ldca F 0 rfl rfl rfl rfl rfl rfl rfl ?_
    refine l_stca F 0 rfl rfl rfl rfl rfl rfl rfl rfl rfl rfl hD rfl (fun s F => ?_)
    (try dsimp only [n_1, n_2, n_3, n_4, List.append_nil, pk, n_5, n_6] at F)
    iterate 2 refine l_op 0 rfl rfl rfl rfl rfl ?_
    refine l_nil (WK.nx ‹_› (SeqK.nx ‹_› (k_ret (SeqK.rt ‹_› ?_))))
    refine FunK.rtc (by assumption) (res_cell F 0 rfl rfl (by kernel_rfl) (resE_rsv rfl)) ?_
    -- leaf 1
    (exfalso; omega)
  replace hc1 := of_decide_eq_false ((irr_eq _).symm.trans hc1)
  refine k_skip (SeqK.nx ‹_› ?_)
  refine k_seq fun Q K => k_seq fun Q K => k_lin fun W K => ?_
  refine l_op 0 rfl rfl rfl rfl rfl ?_
  iterate 2 refine l_op 2 rfl rfl rfl rfl rfl ?_
  refine l_op 0 rfl rfl rfl rfl rfl ?_
  refine l_nil (WK.nx ‹_› (SeqK.nx ‹_› ?_))
  refine k_seq fun Q K => ?_
  refine k_linm [0, 1, 2, 4, 5, 3, 6] mixed (by kernel_rfl) (fun W K => ?_)
  try have hpS := F.pns
  iterate 2 refine l_op 0 rfl rfl rfl rfl rfl ?_
  have hm : (bif true then if (4 : Int) < ((512 : Nat) : Int) then (4 : Int) else ((512 : Nat) : Int) else if ((512 : Nat) : Int) < 4 then (4 : Int) else ((512 : Nat) : Int)) = 4 := by decide
  rw [hm]
  refine l_slh (es := 1) rfl rfl rfl rfl rfl ⟨rfl, _, _, rfl, by omega, rfl⟩ (F.old h) (by omega) ?_
  refine l_op 0 rfl rfl rfl rfl rfl ?_
  refine l_p (v := .string { data := #[71, 108, 117, 108] }) rfl rfl (by kernel_rfl) rfl ?_
  have hcp : 512 ≤ c := by obtain ⟨zs, hR, _⟩ := h.1; exact hR.size.2
  refine l_strm F (h.upto8 (hi := 4) (by omega)) (.inr (by omega)) rfl rfl rfl rfl rfl (fun pn' hpn => ?_)
  rw [sbMag]
  refine l_cmp rfl rfl rfl rfl ?_
  refine l_nil (WK.nx ‹_› (SeqK.nx ‹_› ?_))
  refine l_cond rfl rfl (fun hc2 => ?_) (fun hc2 => ?_)
  · replace hc2 := bne_iff_ne.1 ((irr_eq _).symm.trans hc2)
    exact absurd rfl (by assumption)
  replace hc2 := bne_eq_false_iff_eq.1 ((irr_eq _).symm.trans hc2)
  refine k_skip (SeqK.nx ‹_› ?_)
  refine k_seq fun Q K => k_seq fun Q K => k_lin fun W K => ?_
  refine l_op 0 rfl rfl rfl rfl rfl ?_
  refine l_op 2 rfl rfl rfl rfl rfl ?_
  refine l_cmp rfl rfl rfl rfl ?_
  refine l_nil (WK.nx ‹_› (SeqK.nx ‹_› ?_))
  refine l_cond rfl rfl (fun hc3 => ?_) (fun hc3 => ?_)
  · replace hc3 := of_decide_eq_true ((irr_eq _).symm.trans hc3)
    refine k_seq fun Q K => k_lin fun W K => ?_
    refine l_ldca F 0 rfl rfl rfl rfl rfl rfl rfl ?_
    refine l_op 0 rfl rfl rfl rfl rfl ?_
    refine l_op 2 rfl rfl rfl rfl rfl ?_
    refine l_stca F 0 rfl rfl rfl rfl rfl rfl rfl rfl rfl rfl hD rfl (fun s F => ?_)
    (try dsimp only [n_1, n_2, n_3, n_4, List.append_nil, pk, n_5, n_6] at F)
    iterate 2 refine l_op 0 rfl rfl rfl rfl rfl ?_
    refine l_nil (WK.nx ‹_› (SeqK.nx ‹_› (k_ret (SeqK.rt ‹_› ?_))))
    refine FunK.rtc (by assumption) (res_cell F 0 rfl rfl (by kernel_rfl) (resE_rsv rfl)) ?_
    -- leaf 2
    (exfalso; omega)
  replace hc3 := of_decide_eq_false ((irr_eq _).symm.trans hc3)
  refine k_skip (SeqK.nx ‹_› ?_)
  refine k_seq fun Q K => k_lin fun W K => ?_
  refine l_op 0 rfl rfl rfl rfl rfl ?_
  refine l_callp F rfl rfl (by kernel_rfl) rfl rfl (hread_call (Old.pure (F.old h))) (fun _ s F _ => ?_)
  (try dsimp only [n_1, n_2, n_3, n_4, List.append_nil, pk, n_5, n_6] at F)
  simp only [e4, e8, e12, e16, e20, e24, e28, e32]
  (try dsimp only [n_1, n_2, n_3, n_4, List.append_nil, pk, n_5, n_6] at F)
  refine l_al F rfl rfl rfl rfl (fun q6 s F => ?_)
  (try dsimp only [n_1, n_2, n_3, n_4, List.append_nil, pk, n_5, n_6] at F)
  refine l_stca F 1 rfl rfl rfl rfl rfl rfl rfl rfl rfl rfl hD rfl (fun s F => ?_)
  (try dsimp only [n_1, n_2, n_3, n_4, List.append_nil, pk, n_5, n_6] at F)
  refine l_nil (WK.nx ‹_› (SeqK.nx ‹_› ?_))
  refine k_seq fun Q K => k_block fun Q K => k_seq fun Q K => k_lin fun W K => ?_
  refine l_op 2 rfl rfl rfl rfl rfl ?_
  refine l_ldc F 1 rfl rfl rfl rfl rfl rfl rfl ?_
  refine l_cmp rfl rfl rfl rfl ?_
  refine l_op 0 rfl rfl rfl rfl rfl ?_
  refine l_guard rfl rfl rfl (fun hc4 => ?_) (fun hc4 => ?_)
  · replace hc4 := of_decide_eq_true ((irr_eq _).symm.trans hc4)
    iterate 3 refine l_s rfl rfl ?_
    refine l_op 2 rfl rfl rfl rfl rfl ?_
    refine l_op 0 rfl rfl rfl rfl rfl ?_
    refine l_nil (WK.nx ‹_› (SeqK.nx ‹_› ?_))
    refine e_cond_t rfl rfl rfl ?_
    refine k_seq fun Q K => k_lin fun W K => ?_
    refine l_ldca F 0 rfl rfl rfl rfl rfl rfl rfl ?_
    refine l_stca F 0 rfl rfl rfl rfl rfl rfl rfl rfl rfl rfl hD rfl (fun s F => ?_)
    (try dsimp only [n_1, n_2, n_3, n_4, List.append_nil, pk, n_5, n_6] at F)
    iterate 2 refine l_op 0 rfl rfl rfl rfl rfl ?_
    refine l_nil (WK.nx ‹_› (SeqK.nx ‹_› (k_ret (BlkK.rt ‹_› (SeqK.rt ‹_› ?_)))))
    refine FunK.rtc (by assumption) (res_cell F 0 rfl rfl (by kernel_rfl) (resE_rsv rfl)) ?_
    -- leaf 3
    (exfalso; omega)
  replace hc4 := of_decide_eq_false ((irr_eq _).symm.trans hc4)
  refine l_op 2 rfl rfl rfl rfl rfl ?_
  refine l_ldc F 1 rfl rfl rfl rfl rfl rfl rfl ?_
  refine l_cmp rfl rfl rfl rfl ?_
  refine l_op 2 rfl rfl rfl rfl rfl ?_
  refine l_op 0 rfl rfl rfl rfl rfl ?_
  refine l_nil (WK.nx ‹_› (SeqK.nx ‹_› ?_))
  refine l_cond rfl rfl (fun hc5 => ?_) (fun hc5 => ?_)
  · replace hc5 := of_decide_eq_true ((irr_eq _).symm.trans hc5)
    refine k_seq fun Q K => k_lin fun W K => ?_
    refine l_ldca F 0 rfl rfl rfl rfl rfl rfl rfl ?_
    refine l_stca F 0 rfl rfl rfl rfl rfl rfl rfl rfl rfl rfl hD rfl (fun s F => ?_)
    (try dsimp only [n_1, n_2, n_3, n_4, List.append_nil, pk, n_5, n_6] at F)
    iterate 2 refine l_op 0 rfl rfl rfl rfl rfl ?_
    refine l_nil (WK.nx ‹_› (SeqK.nx ‹_› (k_ret (BlkK.rt ‹_› (SeqK.rt ‹_› ?_)))))
    refine FunK.rtc (by assumption) (res_cell F 0 rfl rfl (by kernel_rfl) (resE_rsv rfl)) ?_
    -- leaf 4
    (exfalso; omega)
  replace hc5 := of_decide_eq_false ((irr_eq _).symm.trans hc5)
  refine k_seq fun Q K => k_lin fun W K => ?_
  refine l_op 2 rfl rfl rfl rfl rfl ?_
  refine l_ldc F 1 rfl rfl rfl rfl rfl rfl rfl ?_
  refine l_cmp rfl rfl rfl rfl ?_
  refine l_op 0 rfl rfl rfl rfl rfl ?_
  refine l_guard rfl rfl rfl (fun hc6 => ?_) (fun hc6 => ?_)
  · replace hc6 := of_decide_eq_true ((irr_eq _).symm.trans hc6)
    iterate 4 refine l_s rfl rfl ?_
    refine l_op 2 rfl rfl rfl rfl rfl ?_
    refine l_op 0 rfl rfl rfl rfl rfl ?_
    refine l_nil (WK.nx ‹_› (SeqK.nx ‹_› ?_))
    refine e_cond_t rfl rfl rfl ?_
    refine k_seq fun Q K => k_lin fun W K => ?_
    refine l_ldca F 0 rfl rfl rfl rfl rfl rfl rfl ?_
    refine l_stca F 0 rfl rfl rfl rfl rfl rfl rfl rfl rfl rfl hD rfl (fun s F => ?_)
    (try dsimp only [n_1, n_2, n_3, n_4, List.append_nil, pk, n_5, n_6] at F)
    iterate 2 refine l_op 0 rfl rfl rfl rfl rfl ?_
    refine l_nil (WK.nx ‹_› (SeqK.nx ‹_› (k_ret (BlkK.rt ‹_› (SeqK.rt ‹_› ?_)))))
    refine FunK.rtc (by assumption) (res_cell F 0 rfl rfl (by kernel_rfl) (resE_rsv rfl)) ?_
    -- leaf 5
    (exfalso; omega)
  replace hc6 := of_decide_eq_false ((irr_eq _).symm.trans hc6)
  refine l_op 2 rfl rfl rfl rfl rfl ?_
  refine l_ldc F 1 rfl rfl rfl rfl rfl rfl rfl ?_
  refine l_callp F rfl rfl (by kernel_rfl) rfl rfl (hpaged_call ⟨by omega, by omega⟩) (fun _ s F _ => ?_)
  (try dsimp only [n_1, n_2, n_3, n_4, List.append_nil, pk, n_5, n_6] at F)
  iterate 2 refine l_op 2 rfl rfl rfl rfl rfl ?_
  refine l_op 0 rfl rfl rfl rfl rfl ?_
  refine l_nil (WK.nx ‹_› (SeqK.nx ‹_› ?_))
  refine l_cond rfl rfl (fun hc7 => ?_) (fun hc7 => ?_)
  · try simp only [i_1, i_2, i_3, i_4, i_5, ne_eq, i_6, i_7, i_8, i_9] at hc7
    refine k_seq fun Q K => k_lin fun W K => ?_
    refine l_ldca F 0 rfl rfl rfl rfl rfl rfl rfl ?_
    refine l_stca F 0 rfl rfl rfl rfl rfl rfl rfl rfl rfl rfl hD rfl (fun s F => ?_)
    (try dsimp only [n_1, n_2, n_3, n_4, List.append_nil, pk, n_5, n_6] at F)
    iterate 2 refine l_op 0 rfl rfl rfl rfl rfl ?_
    refine l_nil (WK.nx ‹_› (SeqK.nx ‹_› (k_ret (BlkK.rt ‹_› (SeqK.rt ‹_› ?_)))))
    refine FunK.rtc (by assumption) (res_cell F 0 rfl rfl (by kernel_rfl) (resE_rsv rfl)) ?_
    -- leaf 6
    (exfalso; omega)
  try simp only [i_1, i_2, i_3, i_4, i_5, ne_eq, i_6, i_7, i_8, i_9] at hc7
  refine k_seq fun Q K => k_lin fun W K => ?_
  refine l_op 2 rfl rfl rfl rfl rfl ?_
  refine l_ldc F 1 rfl rfl rfl rfl rfl rfl rfl ?_
  refine l_op 2 rfl rfl rfl rfl rfl ?_
  refine l_ldc F 1 rfl rfl rfl rfl rfl rfl rfl ?_
  refine l_cmp rfl rfl rfl rfl ?_
  refine l_op 0 rfl rfl rfl rfl rfl ?_
  refine l_guard rfl rfl rfl (fun hc8 => ?_) (fun hc8 => ?_)
  · replace hc8 := of_decide_eq_true ((irr_eq _).symm.trans hc8)
    iterate 6 refine l_s rfl rfl ?_
    refine l_op 2 rfl rfl rfl rfl rfl ?_
    refine l_op 0 rfl rfl rfl rfl rfl ?_
    iterate 4 refine l_s rfl rfl ?_
    refine l_op 2 rfl rfl rfl rfl rfl ?_
    refine l_op 0 rfl rfl rfl rfl rfl ?_
    refine l_nil (WK.nx ‹_› (SeqK.nx ‹_› ?_))
    refine e_cond_t rfl rfl rfl ?_
    refine k_seq fun Q K => k_lin fun W K => ?_
    refine l_ldca F 0 rfl rfl rfl rfl rfl rfl rfl ?_
    refine l_stca F 0 rfl rfl rfl rfl rfl rfl rfl rfl rfl rfl hD rfl (fun s F => ?_)
    (try dsimp only [n_1, n_2, n_3, n_4, List.append_nil, pk, n_5, n_6] at F)
    iterate 2 refine l_op 0 rfl rfl rfl rfl rfl ?_
    refine l_nil (WK.nx ‹_› (SeqK.nx ‹_› (k_ret (BlkK.rt ‹_› (SeqK.rt ‹_› ?_)))))
    refine FunK.rtc (by assumption) (res_cell F 0 rfl rfl (by kernel_rfl) (resE_rsv rfl)) ?_
    -- leaf 7
    (exfalso; omega)
  replace hc8 := of_decide_eq_false ((irr_eq _).symm.trans hc8)
  refine l_op 2 rfl rfl rfl rfl rfl ?_
  refine l_ldc F 1 rfl rfl rfl rfl rfl rfl rfl ?_
  refine l_op 0 rfl rfl rfl rfl rfl ?_
  refine l_op 2 rfl rfl rfl rfl rfl ?_
  refine l_c32 rfl rfl rfl (by omega) rfl ?_
  refine l_cmp rfl rfl rfl rfl ?_
  refine l_op 2 rfl rfl rfl rfl rfl ?_
  refine l_op 0 rfl rfl rfl rfl rfl ?_
  refine l_guard rfl rfl rfl (fun hc9 => ?_) (fun hc9 => ?_)
  · replace hc9 := bne_iff_ne.1 ((irr_eq _).symm.trans hc9)
    iterate 4 refine l_s rfl rfl ?_
    refine l_op 2 rfl rfl rfl rfl rfl ?_
    refine l_op 0 rfl rfl rfl rfl rfl ?_
    refine l_nil (WK.nx ‹_› (SeqK.nx ‹_› ?_))
    refine e_cond_t rfl rfl rfl ?_
    refine k_seq fun Q K => k_lin fun W K => ?_
    refine l_ldca F 0 rfl rfl rfl rfl rfl rfl rfl ?_
    refine l_stca F 0 rfl rfl rfl rfl rfl rfl rfl rfl rfl rfl hD rfl (fun s F => ?_)
    (try dsimp only [n_1, n_2, n_3, n_4, List.append_nil, pk, n_5, n_6] at F)
    iterate 2 refine l_op 0 rfl rfl rfl rfl rfl ?_
    refine l_nil (WK.nx ‹_› (SeqK.nx ‹_› (k_ret (BlkK.rt ‹_› (SeqK.rt ‹_› ?_)))))
    refine FunK.rtc (by assumption) (res_cell F 0 rfl rfl (by kernel_rfl) (resE_rsv rfl)) ?_
    -- leaf 8
    (exfalso; omega)
  replace hc9 := bne_eq_false_iff_eq.1 ((irr_eq _).symm.trans hc9)
  refine l_op 2 rfl rfl rfl rfl rfl ?_
  refine l_ldc F 1 rfl rfl rfl rfl rfl rfl rfl ?_
  refine l_callp F rfl rfl (by kernel_rfl) rfl rfl (hpaged_call ⟨by omega, by omega⟩) (fun _ s F _ => ?_)
  (try dsimp only [n_1, n_2, n_3, n_4, List.append_nil, pk, n_5, n_6] at F)
  iterate 2 refine l_op 2 rfl rfl rfl rfl rfl ?_
  refine l_op 0 rfl rfl rfl rfl rfl ?_
  refine l_nil (WK.nx ‹_› (SeqK.nx ‹_› ?_))
  refine l_cond rfl rfl (fun hc10 => ?_) (fun hc10 => ?_)
  · try simp only [i_1, i_2, i_3, i_4, i_5, ne_eq, i_6, i_7, i_8, i_9] at hc10
    refine k_seq fun Q K => k_lin fun W K => ?_
    refine l_ldca F 0 rfl rfl rfl rfl rfl rfl rfl ?_
    refine l_stca F 0 rfl rfl rfl rfl rfl rfl rfl rfl rfl rfl hD rfl (fun s F => ?_)
    (try dsimp only [n_1, n_2, n_3, n_4, List.append_nil, pk, n_5, n_6] at F)
    iterate 2 refine l_op 0 rfl rfl rfl rfl rfl ?_
    refine l_nil (WK.nx ‹_› (SeqK.nx ‹_› (k_ret (BlkK.rt ‹_› (SeqK.rt ‹_› ?_)))))
    refine FunK.rtc (by assumption) (res_cell F 0 rfl rfl (by kernel_rfl) (resE_rsv rfl)) ?_
    -- leaf 9
    (exfalso; omega)
  try simp only [i_1, i_2, i_3, i_4, i_5, ne_eq, i_6, i_7, i_8, i_9] at hc10
  refine k_seq fun Q K => k_lin fun W K => ?_
  refine l_op 2 rfl rfl rfl rfl rfl ?_
  refine l_ldc F 1 rfl rfl rfl rfl rfl rfl rfl ?_
  refine l_op 2 rfl rfl rfl rfl rfl ?_
  refine l_ldc F 1 rfl rfl rfl rfl rfl rfl rfl ?_
  refine l_cmp rfl rfl rfl rfl ?_
  refine l_op 0 rfl rfl rfl rfl rfl ?_
  refine l_guard rfl rfl rfl (fun hc11 => ?_) (fun hc11 => ?_)
  · replace hc11 := of_decide_eq_true ((irr_eq _).symm.trans hc11)
    iterate 3 refine l_s rfl rfl ?_
    refine l_op 2 rfl rfl rfl rfl rfl ?_
    refine l_op 0 rfl rfl rfl rfl rfl ?_
    iterate 4 refine l_s rfl rfl ?_
    refine l_op 2 rfl rfl rfl rfl rfl ?_
    refine l_op 0 rfl rfl rfl rfl rfl ?_
    refine l_nil (WK.nx ‹_› (SeqK.nx ‹_› ?_))
    refine e_cond_t rfl rfl rfl ?_
    refine k_seq fun Q K => k_lin fun W K => ?_
    refine l_ldca F 0 rfl rfl rfl rfl rfl rfl rfl ?_
    refine l_stca F 0 rfl rfl rfl rfl rfl rfl rfl rfl rfl rfl hD rfl (fun s F => ?_)
    (try dsimp only [n_1, n_2, n_3, n_4, List.append_nil, pk, n_5, n_6] at F)
    iterate 2 refine l_op 0 rfl rfl rfl rfl rfl ?_
    refine l_nil (WK.nx ‹_› (SeqK.nx ‹_› (k_ret (BlkK.rt ‹_› (SeqK.rt ‹_› ?_)))))
    refine FunK.rtc (by assumption) (res_cell F 0 rfl rfl (by kernel_rfl) (resE_rsv rfl)) ?_
    -- leaf 10
    (exfalso; omega)
  replace hc11 := of_decide_eq_false ((irr_eq _).symm.trans hc11)
  refine l_op 2 rfl rfl rfl rfl rfl ?_
  refine l_ldc F 1 rfl rfl rfl rfl rfl rfl rfl ?_
  refine l_cmp rfl rfl rfl rfl ?_
  refine l_op 2 rfl rfl rfl rfl rfl ?_
  refine l_op 0 rfl rfl rfl rfl rfl ?_
  refine l_guard rfl rfl rfl (fun hc12 => ?_) (fun hc12 => ?_)
  · replace hc12 := of_decide_eq_true ((irr_eq _).symm.trans hc12)
    iterate 4 refine l_s rfl rfl ?_
    refine l_op 2 rfl rfl rfl rfl rfl ?_
    refine l_op 0 rfl rfl rfl rfl rfl ?_
    refine l_nil (WK.nx ‹_› (SeqK.nx ‹_› ?_))
    refine e_cond_t rfl rfl rfl ?_
    refine k_seq fun Q K => k_lin fun W K => ?_
    refine l_ldca F 0 rfl rfl rfl rfl rfl rfl rfl ?_
    refine l_stca F 0 rfl rfl rfl rfl rfl rfl rfl rfl rfl rfl hD rfl (fun s F => ?_)
    (try dsimp only [n_1, n_2, n_3, n_4, List.append_nil, pk, n_5, n_6] at F)
    iterate 2 refine l_op 0 rfl rfl rfl rfl rfl ?_
    refine l_nil (WK.nx ‹_› (SeqK.nx ‹_› (k_ret (BlkK.rt ‹_› (SeqK.rt ‹_› ?_)))))
    refine FunK.rtc (by assumption) (res_cell F 0 rfl rfl (by kernel_rfl) (resE_rsv rfl)) ?_
    -- leaf 11
    (exfalso; omega)
  replace hc12 := of_decide_eq_false ((irr_eq _).symm.trans hc12)
  refine l_op 2 rfl rfl rfl rfl rfl ?_
  refine l_ldc F 1 rfl rfl rfl rfl rfl rfl rfl ?_
  refine l_callp F rfl rfl (by kernel_rfl) rfl rfl (hpaged_call ⟨by omega, by omega⟩) (fun _ s F _ => ?_)
  (try dsimp only [n_1, n_2, n_3, n_4, List.append_nil, pk, n_5, n_6] at F)
  iterate 2 refine l_op 2 rfl rfl rfl rfl rfl ?_
  refine l_op 0 rfl rfl rfl rfl rfl ?_
  refine l_nil (WK.nx ‹_› (SeqK.nx ‹_› ?_))
  refine l_cond rfl rfl (fun hc13 => ?_) (fun hc13 => ?_)
  · try simp only [i_1, i_2, i_3, i_4, i_5, ne_eq, i_6, i_7, i_8, i_9] at hc13
    refine k_seq fun Q K => k_lin fun W K => ?_
    refine l_ldca F 0 rfl rfl rfl rfl rfl rfl rfl ?_
    refine l_stca F 0 rfl rfl rfl rfl rfl rfl rfl rfl rfl rfl hD rfl (fun s F => ?_)
    (try dsimp only [n_1, n_2, n_3, n_4, List.append_nil, pk, n_5, n_6] at F)
    iterate 2 refine l_op 0 rfl rfl rfl rfl rfl ?_
    refine l_nil (WK.nx ‹_› (SeqK.nx ‹_› (k_ret (BlkK.rt ‹_› (SeqK.rt ‹_› ?_)))))
    refine FunK.rtc (by assumption) (res_cell F 0 rfl rfl (by kernel_rfl) (resE_rsv rfl)) ?_
    -- leaf 12
    (exfalso; omega)
  try simp only [i_1, i_2, i_3, i_4, i_5, ne_eq, i_6, i_7, i_8, i_9] at hc13
  refine k_seq fun Q K => k_lin fun W K => ?_
  refine l_op 2 rfl rfl rfl rfl rfl ?_
  refine l_ldc F 1 rfl rfl rfl rfl rfl rfl rfl ?_
  refine l_cmp rfl rfl rfl rfl ?_
  refine l_op 0 rfl rfl rfl rfl rfl ?_
  refine l_guard rfl rfl rfl (fun hc14 => ?_) (fun hc14 => ?_)
  · replace hc14 := eq_of_beq ((irr_eq _).symm.trans hc14)
    iterate 3 refine l_s rfl rfl ?_
    refine l_op 2 rfl rfl rfl rfl rfl ?_
    refine l_op 0 rfl rfl rfl rfl rfl ?_
    iterate 4 refine l_s rfl rfl ?_
    refine l_op 2 rfl rfl rfl rfl rfl ?_
    refine l_op 0 rfl rfl rfl rfl rfl ?_
    refine l_nil (WK.nx ‹_› (SeqK.nx ‹_› ?_))
    refine e_cond_t rfl rfl rfl ?_
    refine k_seq fun Q K => k_lin fun W K => ?_
    refine l_ldca F 0 rfl rfl rfl rfl rfl rfl rfl ?_
    refine l_stca F 0 rfl rfl rfl rfl rfl rfl rfl rfl rfl rfl hD rfl (fun s F => ?_)
    (try dsimp only [n_1, n_2, n_3, n_4, List.append_nil, pk, n_5, n_6] at F)
    iterate 2 refine l_op 0 rfl rfl rfl rfl rfl ?_
    refine l_nil (WK.nx ‹_› (SeqK.nx ‹_› (k_ret (BlkK.rt ‹_› (SeqK.rt ‹_› ?_)))))
    refine FunK.rtc (by assumption) (res_cell F 0 rfl rfl (by kernel_rfl) (resE_rsv rfl)) ?_
    -- leaf 13
    (exfalso; omega)
  replace hc14 := ne_of_beq_false ((irr_eq _).symm.trans hc14)
  refine l_op 2 rfl rfl rfl rfl rfl ?_
  refine l_ldc F 1 rfl rfl rfl rfl rfl rfl rfl ?_
  refine l_cmp rfl rfl rfl rfl ?_
  refine l_op 2 rfl rfl rfl rfl rfl ?_
  refine l_op 0 rfl rfl rfl rfl rfl ?_
  refine l_guard rfl rfl rfl (fun hc15 => ?_) (fun hc15 => ?_)
  · replace hc15 := of_decide_eq_true ((irr_eq _).symm.trans hc15)
    iterate 4 refine l_s rfl rfl ?_
    refine l_op 2 rfl rfl rfl rfl rfl ?_
    refine l_op 0 rfl rfl rfl rfl rfl ?_
    refine l_nil (WK.nx ‹_› (SeqK.nx ‹_› ?_))
    refine e_cond_t rfl rfl rfl ?_
    refine k_seq fun Q K => k_lin fun W K => ?_
    refine l_ldca F 0 rfl rfl rfl rfl rfl rfl rfl ?_
    refine l_stca F 0 rfl rfl rfl rfl rfl rfl rfl rfl rfl rfl hD rfl (fun s F => ?_)
    (try dsimp only [n_1, n_2, n_3, n_4, List.append_nil, pk, n_5, n_6] at F)
    iterate 2 refine l_op 0 rfl rfl rfl rfl rfl ?_
    refine l_nil (WK.nx ‹_› (SeqK.nx ‹_› (k_ret (BlkK.rt ‹_› (SeqK.rt ‹_› ?_)))))
    refine FunK.rtc (by assumption) (res_cell F 0 rfl rfl (by kernel_rfl) (resE_rsv rfl)) ?_
    -- leaf 14
    (exfalso; omega)
  replace hc15 := of_decide_eq_false ((irr_eq _).symm.trans hc15)
  refine l_op 2 rfl rfl rfl rfl rfl ?_
  refine l_ldc F 1 rfl rfl rfl rfl rfl rfl rfl ?_
  refine l_callp F rfl rfl (by kernel_rfl) rfl rfl (hpaged_call ⟨by omega, by omega⟩) (fun _ s F _ => ?_)
  (try dsimp only [n_1, n_2, n_3, n_4, List.append_nil, pk, n_5, n_6] at F)
  iterate 2 refine l_op 2 rfl rfl rfl rfl rfl ?_
  refine l_op 0 rfl rfl rfl rfl rfl ?_
  refine l_nil (WK.nx ‹_› (SeqK.nx ‹_› ?_))
  refine l_cond rfl rfl (fun hc16 => ?_) (fun hc16 => ?_)
  · try simp only [i_1, i_2, i_3, i_4, i_5, ne_eq, i_6, i_7, i_8, i_9] at hc16
    refine k_seq fun Q K => k_lin fun W K => ?_
    refine l_ldca F 0 rfl rfl rfl rfl rfl rfl rfl ?_
    refine l_stca F 0 rfl rfl rfl rfl rfl rfl rfl rfl rfl rfl hD rfl (fun s F => ?_)
    (try dsimp only [n_1, n_2, n_3, n_4, List.append_nil, pk, n_5, n_6] at F)
    iterate 2 refine l_op 0 rfl rfl rfl rfl rfl ?_
    refine l_nil (WK.nx ‹_› (SeqK.nx ‹_› (k_ret (BlkK.rt ‹_› (SeqK.rt ‹_› ?_)))))
    refine FunK.rtc (by assumption) (res_cell F 0 rfl rfl (by kernel_rfl) (resE_rsv rfl)) ?_
    -- leaf 15
    (exfalso; omega)
  try simp only [i_1, i_2, i_3, i_4, i_5, ne_eq, i_6, i_7, i_8, i_9] at hc16
  refine k_seq fun Q K => k_lin fun W K => ?_
  refine l_op 2 rfl rfl rfl rfl rfl ?_
  refine l_ldc F 1 rfl rfl rfl rfl rfl rfl rfl ?_
  refine l_cmp rfl rfl rfl rfl ?_
  refine l_op 0 rfl rfl rfl rfl rfl ?_
  refine l_guard rfl rfl rfl (fun hc17 => ?_) (fun hc17 => ?_)
  · replace hc17 := of_decide_eq_true ((irr_eq _).symm.trans hc17)
    iterate 5 refine l_s rfl rfl ?_
    refine l_op 2 rfl rfl rfl rfl rfl ?_
    refine l_op 0 rfl rfl rfl rfl rfl ?_
    refine l_nil (WK.nx ‹_› (SeqK.nx ‹_› ?_))
    refine e_cond_t rfl rfl rfl ?_
    refine k_seq fun Q K => k_lin fun W K => ?_
    refine l_ldca F 0 rfl rfl rfl rfl rfl rfl rfl ?_
    refine l_stca F 0 rfl rfl rfl rfl rfl rfl rfl rfl rfl rfl hD rfl (fun s F => ?_)
    (try dsimp only [n_1, n_2, n_3, n_4, List.append_nil, pk, n_5, n_6] at F)
    iterate 2 refine l_op 0 rfl rfl rfl rfl rfl ?_
    refine l_nil (WK.nx ‹_› (SeqK.nx ‹_› (k_ret (BlkK.rt ‹_› (SeqK.rt ‹_› ?_)))))
    refine FunK.rtc (by assumption) (res_cell F 0 rfl rfl (by kernel_rfl) (resE_rsv rfl)) ?_
    -- leaf 16
    (exfalso; omega)
  replace hc17 := of_decide_eq_false ((irr_eq _).symm.trans hc17)
  refine l_op 2 rfl rfl rfl rfl rfl ?_
  refine l_ldc F 1 rfl rfl rfl rfl rfl rfl rfl ?_
  refine l_op 2 rfl rfl rfl rfl rfl ?_
  refine l_ldc F 1 rfl rfl rfl rfl rfl rfl rfl ?_
  refine l_cmp rfl rfl rfl rfl ?_
  refine l_op 2 rfl rfl rfl rfl rfl ?_
  refine l_op 0 rfl rfl rfl rfl rfl ?_
  refine l_nil (WK.nx ‹_› (SeqK.nx ‹_› ?_))
  refine l_cond rfl rfl (fun hc18 => ?_) (fun hc18 => ?_)
  · replace hc18 := of_decide_eq_true ((irr_eq _).symm.trans hc18)
    refine k_seq fun Q K => k_lin fun W K => ?_
    refine l_ldca F 0 rfl rfl rfl rfl rfl rfl rfl ?_
    refine l_stca F 0 rfl rfl rfl rfl rfl rfl rfl rfl rfl rfl hD rfl (fun s F => ?_)
    (try dsimp only [n_1, n_2, n_3, n_4, List.append_nil, pk, n_5, n_6] at F)
    iterate 2 refine l_op 0 rfl rfl rfl rfl rfl ?_
    refine l_nil (WK.nx ‹_› (SeqK.nx ‹_› (k_ret (BlkK.rt ‹_› (SeqK.rt ‹_› ?_)))))
    refine FunK.rtc (by assumption) (res_cell F 0 rfl rfl (by kernel_rfl) (resE_rsv rfl)) ?_
    -- leaf 17
    (exfalso; omega)
  replace hc18 := of_decide_eq_false ((irr_eq _).symm.trans hc18)
  refine k_seq fun Q K => k_lin fun W K => ?_
  refine l_op 2 rfl rfl rfl rfl rfl ?_
  refine l_ldc F 1 rfl rfl rfl rfl rfl rfl rfl ?_
  refine l_op 2 rfl rfl rfl rfl rfl ?_
  refine l_ldc F 1 rfl rfl rfl rfl rfl rfl rfl ?_
  refine l_cmp rfl rfl rfl rfl ?_
  refine l_op 0 rfl rfl rfl rfl rfl ?_
  refine l_nil (WK.nx ‹_› (SeqK.nx ‹_› ?_))
  refine l_cond rfl rfl (fun hc19 => ?_) (fun hc19 => ?_)
  · replace hc19 := of_decide_eq_true ((irr_eq _).symm.trans hc19)
    refine k_seq fun Q K => k_lin fun W K => ?_
    refine l_ldca F 0 rfl rfl rfl rfl rfl rfl rfl ?_
    refine l_stca F 0 rfl rfl rfl rfl rfl rfl rfl rfl rfl rfl hD rfl (fun s F => ?_)
    (try dsimp only [n_1, n_2, n_3, n_4, List.append_nil, pk, n_5, n_6] at F)
    iterate 2 refine l_op 0 rfl rfl rfl rfl rfl ?_
    refine l_nil (WK.nx ‹_› (SeqK.nx ‹_› (k_ret (BlkK.rt ‹_› (SeqK.rt ‹_› ?_)))))
    refine FunK.rtc (by assumption) (res_cell F 0 rfl rfl (by kernel_rfl) (resE_rsv rfl)) ?_
    -- leaf 18
    (exfalso; omega)
  replace hc19 := of_decide_eq_false ((irr_eq _).symm.trans hc19)
  refine k_seq fun Q K => ?_
  refine k_linm [0, 2, 1, 3, 4, 5] mixed (by kernel_rfl) (fun W K => ?_)
  try have hpS := F.pns
  refine l_op 2 rfl rfl rfl rfl rfl ?_
  refine l_op 0 rfl rfl rfl rfl rfl ?_
  refine l_ldc F 1 rfl rfl rfl rfl rfl rfl rfl ?_
  skip
  have hpA := PnA.cel F 1 rfl pna_nil
  refine l_callp F rfl rfl (by kernel_rfl) rfl rfl (hsum_call (Old.pure (F.old h)) smallB_bytes (by omega) (by omega)) (fun _ s F _ => ?_)
  (try dsimp only [n_1, n_2, n_3, n_4, List.append_nil, pk, n_5, n_6] at F)
  rw [hsumS]
  refine l_cmp rfl rfl rfl rfl ?_
  refine l_op 0 rfl rfl rfl rfl rfl ?_
  refine l_nil (WK.nx ‹_› (SeqK.nx ‹_› ?_))
  refine l_cond rfl rfl (fun hc20 => ?_) (fun hc20 => ?_)
  · replace hc20 := bne_iff_ne.1 ((irr_eq _).symm.trans hc20)
    refine k_seq fun Q K => k_lin fun W K => ?_
    refine l_ldca F 0 rfl rfl rfl rfl rfl rfl rfl ?_
    refine l_stca F 0 rfl rfl rfl rfl rfl rfl rfl rfl rfl rfl hD rfl (fun s F => ?_)
    (try dsimp only [n_1, n_2, n_3, n_4, List.append_nil, pk, n_5, n_6] at F)
    iterate 2 refine l_op 0 rfl rfl rfl rfl rfl ?_
    refine l_nil (WK.nx ‹_› (SeqK.nx ‹_› (k_ret (BlkK.rt ‹_› (SeqK.rt ‹_› ?_)))))
    refine FunK.rtc (by assumption) (res_cell F 0 rfl rfl (by kernel_rfl) (resE_rsv rfl)) ?_
    -- leaf 19
    (exfalso; omega)
  replace hc20 := bne_eq_false_iff_eq.1 ((irr_eq _).symm.trans hc20)
  refine k_skip (BlkK.nx ‹_› (SeqK.nx ‹_› ?_))
  refine k_seq fun Q K => k_lin fun W K => ?_
  refine l_ldca F 1 rfl rfl rfl rfl rfl rfl rfl ?_
  refine l_stca F 0 rfl rfl rfl rfl rfl rfl rfl rfl rfl rfl hD rfl (fun s F => ?_)
  (try dsimp only [n_1, n_2, n_3, n_4, List.append_nil, pk, n_5, n_6] at F)
  iterate 2 refine l_op 0 rfl rfl rfl rfl rfl ?_
  refine l_nil (WK.nx ‹_› (SeqK.nx ‹_› (k_ret ?_)))
  refine FunK.rtc (by assumption) (res_cell F 0 rfl rfl (by kernel_rfl) (resE_rsv rfl)) ?_
  -- leaf 20
  exact ⟨_, rfl, F.pick [] (by decide), by rw [v4, v8, v12, v16, v20, v24, v28, v32]⟩

/-- The memory of the small game, at first. -/
abbrev z0 (y : Nat × Option Addr × Nat × Nat × Nat) : MZ := ⟨0, 0, y.2.1, y.2.2.1, y.2.2.2.1, 768, 768, firstB, y.2.2.2.2, none, 0, 0, 0, []⟩
theorem firstB_bytes : Bytes firstB := Bytes.appm smallB_bytes (bytesm_mem.2 fun x hx => by rw [(List.mem_replicate.1 hx).2]; exact ⟨Int.le_refl _, by decide⟩)
theorem z0_ok (y : Nat × Option Addr × Nat × Nat × Nat) : MOK (z0 y) := by
  refine ⟨(by show (0 : Int) ≤ 0 ∧ (0 : Int) ≤ 4294967295 ∧ (0 : Int) ≤ 0 ∧ (0 : Int) ≤ 8589934590; decide), ?_, ?_, firstB_bytes, hok_new _, .inl rfl, fun h => absurd rfl h⟩
  · show firstB.length ≤ 768 ∧ 768 ≤ 768 ∧ firstB.length ≤ 1048576
    rw [firstB_len]; decide
  · show 768 ≤ firstB.length ∧ firstB.length % 256 = 0
    rw [firstB_len]; decide
theorem mnew_call {σ : AState} {a : Option Addr} {c : Nat} (h : Old E0 σ a 512 c 1 (u8l smallB)) :
    SCall Tryz.prog E0 44 [.slice a 512 c] σ (Ret E0 σ (fun (y : Nat × Option Addr × Nat × Nat × Nat) => .tuple #[.pointer (some ⟨y.1, 0, none⟩), .int .i64 0, .int .i64 36]) (fun y => mF y.1 (z0 y)) fun _ => True) := by
  refine k_fun Tryz.func44 rfl (m := 33) rfl fun B hD Q K => ?_
  have F := Facts.nil E0 σ
  refine k_seq fun Q K => k_lin fun W K => ?_
  iterate 3 refine l_op 0 rfl rfl rfl rfl rfl ?_
  refine l_nil (WK.nx ‹_› (SeqK.nx ‹_› ?_))
  refine k_seq fun Q K => k_lin fun W K => ?_
  refine l_op 0 rfl rfl rfl rfl rfl ?_
  refine l_callp F rfl rfl (by kernel_rfl) rfl rfl (hparse_call (Old.pure (F.old h))) (fun v s F hv => ?_)
  (try dsimp only [n_1, n_2, n_3, n_4, List.append_nil, pk, n_5, n_6] at F)
  subst hv
  (try dsimp only [n_1, n_2, n_3, n_4, List.append_nil, pk, n_5, n_6] at F)
  refine l_op 0 rfl rfl rfl rfl rfl ?_
  iterate 3 refine l_op 2 rfl rfl rfl rfl rfl ?_
  refine l_al F rfl rfl rfl rfl (fun q5 s F => ?_)
  (try dsimp only [n_1, n_2, n_3, n_4, List.append_nil, pk, n_5, n_6] at F)
  refine l_stca F 0 rfl rfl rfl rfl rfl rfl rfl rfl rfl rfl hD rfl (fun s F => ?_)
  (try dsimp only [n_1, n_2, n_3, n_4, List.append_nil, pk, n_5, n_6] at F)
  iterate 2 refine l_op 0 rfl rfl rfl rfl rfl ?_
  refine l_nil (WK.nx ‹_› (SeqK.nx ‹_› ?_))
  refine k_seq fun Q K => k_seq fun Q K => k_lin fun W K => ?_
  refine l_op 0 rfl rfl rfl rfl rfl ?_
  refine l_cmp rfl rfl rfl rfl ?_
  refine l_nil (WK.nx ‹_› (SeqK.nx ‹_› ?_))
  refine l_cond rfl rfl (fun hc1 => ?_) (fun hc1 => ?_)
  · replace hc1 := bne_iff_ne.1 ((irr_eq _).symm.trans hc1)
    refine k_seq fun Q K => k_lin fun W K => ?_
    iterate 5 refine l_op 0 rfl rfl rfl rfl rfl ?_
    refine l_nil (WK.nx ‹_› (SeqK.nx ‹_› (k_ret (SeqK.rt ‹_› ?_))))
    refine FunK.rt (by assumption) rfl ?_
    -- leaf 1
    (exfalso; omega)
  replace hc1 := bne_eq_false_iff_eq.1 ((irr_eq _).symm.trans hc1)
  refine k_skip (SeqK.nx ‹_› ?_)
  refine k_seq fun Q K => ?_
  refine k_linm [1, 0, 2, 3, 4, 5, 6, 7] mixed (by kernel_rfl) (fun W K => ?_)
  try have hpS := F.pns
  refine l_op 0 rfl rfl rfl rfl rfl ?_
  refine l_ldca F 0 rfl rfl rfl rfl rfl rfl rfl ?_
  skip
  have hpA := PnA.cel F 0 rfl pna_nil
  refine l_callp F rfl rfl (by kernel_rfl) rfl rfl (clone_call (Old.pure (F.old h)) (by omega)) (fun yg s F _ => ?_)
  (try dsimp only [n_1, n_2, n_3, n_4, List.append_nil, pk, n_5, n_6] at F)
  refine l_bld (vs := [.int .u64 0, .int .u64 0, .int .u32 196867, .int .u32 256, .int .u32 512, .int .u32 768, .int .u32 256, .int .u32 36, .int .u32 0, .int .u32 1198488979, .slice yg.1 512 yg.2, .slice none 0 0]) rfl (by kernel_rfl) rfl rfl ?_
  have hpA := PnA.cel F 0 rfl pna_nil
  refine l_callp F rfl rfl (by kernel_rfl) rfl rfl new_call (fun qh s F _ => ?_)
  (try dsimp only [n_1, n_2, n_3, n_4, List.append_nil, pk, n_5, n_6] at F)
  refine l_bld (vs := [.int .u64 0, .int .u64 0, .int .u32 196867, .int .u32 256, .int .u32 512, .int .u32 768, .int .u32 256, .int .u32 36, .int .u32 0, .int .u32 1198488979, .slice yg.1 512 yg.2, .slice none 0 0, .pointer (some ⟨qh, 0, none⟩)]) rfl (by kernel_rfl) rfl rfl ?_
  replace F : Facts E0 σ s [cel q5 [.int .u32 196867, .int .u32 256, .int .u32 512, .int .u32 768, .int .u32 256, .int .u32 36, .int .u32 0, .int .u32 1198488979], own yg.1 512 yg.2 1 (u8l smallB), cel qh (hC qh none 0 1048576 0 0 []), own none 0 0 2 (rows eB [])] := F
  refine l_bx F rfl rfl rfl rfl rfl (fun q22 s F => ?_) (.inl (PnA.cel F 0 rfl pna_nil))
  replace F : Facts E0 σ s [cel q5 [.int .u32 196867, .int .u32 256, .int .u32 512, .int .u32 768, .int .u32 256, .int .u32 36, .int .u32 0, .int .u32 1198488979], own yg.1 512 yg.2 1 (u8l smallB), cel qh (hC qh none 0 1048576 0 0 []), own none 0 0 2 (rows eB []), cel q22 [.int .u64 0, .int .u64 0, .int .u32 196867, .int .u32 256, .int .u32 512, .int .u32 768, .int .u32 256, .int .u32 36, .int .u32 0, .int .u32 1198488979, .slice yg.1 512 yg.2, .slice none 0 0, .pointer (some ⟨qh, 0, none⟩)]] := F
  refine l_op 0 rfl rfl rfl rfl rfl ?_
  refine l_nil (WK.nx ‹_› (SeqK.nx ‹_› ?_))
  refine k_seq fun Q K => k_lin fun W K => ?_
  iterate 2 refine l_op 0 rfl rfl rfl rfl rfl ?_
  iterate 2 refine l_op 2 rfl rfl rfl rfl rfl ?_
  refine l_callp F rfl rfl (by kernel_rfl) rfl rfl (first_call (F.cel0 4 rfl) (Old.pure (F.has 1 rfl))) (fun qb s F _ => ?_)
  (try dsimp only [n_1, n_2, n_3, n_4, List.append_nil, pk, n_5, n_6] at F)
  iterate 3 refine l_op 2 rfl rfl rfl rfl rfl ?_
  refine l_stc F 4 rfl rfl rfl rfl rfl rfl rfl rfl rfl hD (fun s F => ?_)
  (try dsimp only [n_1, n_2, n_3, n_4, List.append_nil, pk, n_5, n_6] at F)
  refine l_nil (WK.nx ‹_› (SeqK.nx ‹_› ?_))
  refine k_seq fun Q K => k_lin fun W K => ?_
  iterate 5 refine l_op 0 rfl rfl rfl rfl rfl ?_
  refine l_nil (WK.nx ‹_› (SeqK.nx ‹_› (k_ret ?_)))
  refine FunK.rt (by assumption) rfl ?_
  -- leaf 2
  (refine ⟨(q22, yg.1, yg.2, qb, qh), rfl, ?_, trivial⟩
   have F1 : Facts E0 σ s [cel q22 [.int .u64 0, .int .u64 0, .int .u32 196867, .int .u32 256, .int .u32 512, .int .u32 768, .int .u32 256, .int .u32 36, .int .u32 0, .int .u32 1198488979, .slice yg.1 512 yg.2, .slice (some ⟨qb, 0, some 0⟩) 768 768, .pointer (some ⟨qh, 0, none⟩)], own yg.1 512 yg.2 1 (u8l smallB), own (some ⟨qb, 0, some 0⟩) 768 768 1 (u8l firstB), cel qh (hC qh none 0 1048576 0 0 []), own none 0 0 2 (rows eB [])] := F.pick [4, 1, 5, 2, 3] (by decide)
   show Facts E0 σ s [cel q22 [.int .u64 0, .int .u64 0, .int .u32 196867, .int .u32 256, .int .u32 512, .int .u32 768, .int .u32 256, .int .u32 36, .int .u32 0, .int .u32 1198488979, .slice yg.1 512 yg.2, .slice (some ⟨qb, 0, some 0⟩) firstB.length 768, .pointer (some ⟨qh, 0, none⟩)], own yg.1 512 yg.2 1 (u8l smallB), own (some ⟨qb, 0, some 0⟩) firstB.length 768 1 (u8l firstB), cel qh (hC qh none 0 1048576 0 0 []), own none 0 0 2 (rows eB [])]
   rw [firstB_len]
   exact F1)

end Go.Proofs.YtocfmecenpeoiaaGreat
