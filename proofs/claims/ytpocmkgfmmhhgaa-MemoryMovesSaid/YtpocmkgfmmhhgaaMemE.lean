/- The page's example of a memory. No statement of the seat is proved in this text. -/
import Derived.Test.YtpocmkgfmmhhgaaMemU
import Derived.Test.YtpocmkgfmmhhgaaMemD
set_option linter.unusedVariables false
set_option linter.unusedSimpArgs false
set_option maxRecDepth 100000
set_option maxHeartbeats 4000000
namespace Go.Proofs.Ytpocmkgfmmhhgaa
open GAb Go

theorem num9_call {σ : AState} {x : Int} : SCall Try.prog (fun _ => False) 13 [.int .i64 x] σ (fun v s => v = .int .i64 x ∧ s = σ) := by
  refine k_fun Try.func13 rfl (m := 4) rfl fun B hD Q K => ?_
  refine k_seq (fun Q K => ?_)
  refine k_lin (fun W K => ?_)
  refine l_op 0 rfl rfl rfl rfl rfl ?_
  refine l_nil (WK.nx (by assumption) ?_)
  refine SeqK.nx (by assumption) ?_
  refine k_seq (fun Q K => ?_)
  refine k_lin (fun W K => ?_)
  refine l_op 0 rfl rfl rfl rfl rfl ?_
  refine l_op 0 rfl rfl rfl rfl rfl ?_
  refine l_nil (WK.nx (by assumption) ?_)
  refine SeqK.nx (by assumption) ?_
  refine k_ret ?_
  refine FunK.rt (by assumption) rfl ?_
  -- leaf 1
  exact ⟨rfl, rfl⟩
def b1 : List Int := putB firstB 767 (putR 7 1)
theorem be_first : be firstB 0 4 = 1198290284 := by kernel_rfl
theorem be_b1 : be (growB b1 1024) 1020 4 = 0 := by kernel_rfl
theorem b1_len : b1.length = 768 := by kernel_rfl
theorem mal1 : mallocR 1048576 0 0 [] 5 1024 = ⟨1024, true, 1024, 1280, [(1024, 5)]⟩ := by kernel_rfl
theorem fre1 : freeR 1024 1280 [(1024, 5)] 1024 = ⟨0, true, 0, 0, []⟩ := by kernel_rfl
theorem bytes_putm (v k : Int) : Bytes (putR v k) := bytesm_mem.2 fun x hx => by
  unfold putR at hx
  repeat' split at hx
  all_goals (simp only [List.mem_cons, List.not_mem_nil, or_false] at hx)
  all_goals omega
attribute [local irreducible] firstB b1 growB putB be mallocR freeR
theorem live9_call (E : Nat → Prop) {σ : AState} : SCall Try.prog E0 9 [] σ (Ret E0 σ (fun (_ : Unit) => .bool true) (fun _ => []) fun _ => True) := by
  refine k_fun Try.func9 rfl (m := 103) rfl fun B hD Q K => ?_
  have F := Facts.nil E0 σ
  refine k_seq (fun Q K => ?_)
  refine k_lin (fun W K => ?_)
  refine l_op 0 rfl rfl rfl rfl rfl ?_
  refine l_nil (WK.nx (by assumption) ?_)
  refine SeqK.nx (by assumption) ?_
  refine k_seq (fun Q K => ?_)
  refine k_lin (fun W K => ?_)
  refine l_callp F rfl rfl (by kernel_rfl) rfl rfl small_call (fun ys s F _ => ?_)
  (try dsimp only [n_1, n_2, n_3, n_4, List.append_nil, pk, n_5, n_6] at F)
  refine l_callp F rfl rfl (by kernel_rfl) rfl rfl (mnew_call (Old.pure (F.has 0 rfl))) (fun y s F _ => ?_)
  have F1 : Facts E0 σ s (mF y.1 (z0 y)) := F.pick [1, 2, 3, 4, 5] (by decide)
  clear F
  have ok0 := z0_ok y
  obtain ⟨z, hz⟩ : ∃ z, z0 y = z := ⟨_, rfl⟩
  have hb : z.bs = firstB := by rw [← hz]
  have hl : z.bl = [] := by rw [← hz]
  have hst : z.st = 0 := by rw [← hz]
  have hen : z.en = 0 := by rw [← hz]
  have hN : z.bs.length = 768 := by rw [hb]; exact firstB_len
  rw [hz] at F1 ok0
  obtain ⟨m, hm⟩ : ∃ m, y.1 = m := ⟨_, rfl⟩
  rw [hm] at F1 ⊢
  have F := F1
  clear F1
  (try dsimp only [n_1, n_2, n_3, n_4, List.append_nil, pk, n_5, n_6] at F)
  refine l_op 0 rfl rfl rfl rfl rfl ?_
  refine l_op 2 rfl rfl rfl rfl rfl ?_
  refine l_op 2 rfl rfl rfl rfl rfl ?_
  refine l_op 2 rfl rfl rfl rfl rfl ?_
  refine l_op 0 rfl rfl rfl rfl rfl ?_
  refine l_op 0 rfl rfl rfl rfl rfl ?_
  refine l_op 0 rfl rfl rfl rfl rfl ?_
  refine l_nil (WK.nx (by assumption) ?_)
  refine SeqK.nx (by assumption) ?_
  refine k_seq (fun Q K => ?_)
  refine k_seq (fun Q K => ?_)
  refine k_lin (fun W K => ?_)
  refine l_op 0 rfl rfl rfl rfl rfl ?_
  refine l_callv rfl rfl (by kernel_rfl) rfl rfl num9_call ?_
  (try dsimp only [n_1, n_2, n_3, n_4, List.append_nil, pk, n_5, n_6] at F)
  refine l_cmp rfl rfl rfl rfl ?_
  refine l_op 0 rfl rfl rfl rfl rfl ?_
  refine l_guard rfl rfl rfl (fun hc1 => ?_) (fun hc1 => ?_)
  · first | replace hc1 := bne_iff_ne.1 ((irr_eq _).symm.trans hc1) | simp only [irr_eq, bne_iff_ne, bne_eq_false_iff_eq, ne_eq, decide_eq_true_eq, decide_eq_false_iff_not, Bool.not_eq_true', Bool.not_eq_false'] at hc1
    refine l_s rfl rfl ?_
    refine l_s rfl rfl ?_
    refine l_op 2 rfl rfl rfl rfl rfl ?_
    refine l_op 0 rfl rfl rfl rfl rfl ?_
    refine l_s rfl rfl ?_
    refine l_s rfl rfl ?_
    refine l_op 2 rfl rfl rfl rfl rfl ?_
    refine l_nil (WK.nx (by assumption) ?_)
    refine SeqK.nx (by assumption) ?_
    first | refine e_cond_t rfl rfl rfl ?_ | refine e_cond_t rfl rfl (by rw [irr_eq]; first | exact beq_iff_eq.2 (by assumption) | exact decide_eq_true (by assumption) | exact bne_iff_ne.2 (by assumption)) ?_
    refine k_seq (fun Q K => ?_)
    refine k_lin (fun W K => ?_)
    refine l_op 0 rfl rfl rfl rfl rfl ?_
    refine l_nil (WK.nx (by assumption) ?_)
    refine SeqK.nx (by assumption) ?_
    refine k_ret ?_
    refine SeqK.rt (by assumption) ?_
    refine FunK.rt (by assumption) rfl ?_
    -- leaf 1
    first
    | (exfalso; omega)
    | exact absurd (by assumption : false = true) (by decide)
    | (have e : irr ((z5.bs.length : Int) == 1024) = true := by rw [irr_eq]; exact beq_iff_eq.2 (by omega)
       exact ⟨(), congrArg Value.bool e, F.pick [] (by decide), trivial⟩)
    | exact ⟨(), rfl, F.pick [] (by decide), trivial⟩
  first | replace hc1 := bne_eq_false_iff_eq.1 ((irr_eq _).symm.trans hc1) | simp only [irr_eq, bne_iff_ne, bne_eq_false_iff_eq, ne_eq, decide_eq_true_eq, decide_eq_false_iff_not, Bool.not_eq_true', Bool.not_eq_false'] at hc1
  refine l_op 0 rfl rfl rfl rfl rfl ?_
  refine l_cmp rfl rfl rfl rfl ?_
  refine l_op 2 rfl rfl rfl rfl rfl ?_
  refine l_op 0 rfl rfl rfl rfl rfl ?_
  refine l_guard rfl rfl rfl (fun hc2 => ?_) (fun hc2 => ?_)
  · first | replace hc2 := bne_iff_ne.1 ((irr_eq _).symm.trans hc2) | simp only [irr_eq, bne_iff_ne, bne_eq_false_iff_eq, ne_eq, decide_eq_true_eq, decide_eq_false_iff_not, Bool.not_eq_true', Bool.not_eq_false'] at hc2
    refine l_s rfl rfl ?_
    refine l_s rfl rfl ?_
    refine l_op 2 rfl rfl rfl rfl rfl ?_
    refine l_nil (WK.nx (by assumption) ?_)
    refine SeqK.nx (by assumption) ?_
    first | refine e_cond_t rfl rfl rfl ?_ | refine e_cond_t rfl rfl (by rw [irr_eq]; first | exact beq_iff_eq.2 (by assumption) | exact decide_eq_true (by assumption) | exact bne_iff_ne.2 (by assumption)) ?_
    refine k_seq (fun Q K => ?_)
    refine k_lin (fun W K => ?_)
    refine l_op 0 rfl rfl rfl rfl rfl ?_
    refine l_nil (WK.nx (by assumption) ?_)
    refine SeqK.nx (by assumption) ?_
    refine k_ret ?_
    refine SeqK.rt (by assumption) ?_
    refine FunK.rt (by assumption) rfl ?_
    -- leaf 2
    first
    | (exfalso; omega)
    | exact absurd (by assumption : false = true) (by decide)
    | (have e : irr ((z5.bs.length : Int) == 1024) = true := by rw [irr_eq]; exact beq_iff_eq.2 (by omega)
       exact ⟨(), congrArg Value.bool e, F.pick [] (by decide), trivial⟩)
    | exact ⟨(), rfl, F.pick [] (by decide), trivial⟩
  first | replace hc2 := bne_eq_false_iff_eq.1 ((irr_eq _).symm.trans hc2) | simp only [irr_eq, bne_iff_ne, bne_eq_false_iff_eq, ne_eq, decide_eq_true_eq, decide_eq_false_iff_not, Bool.not_eq_true', Bool.not_eq_false'] at hc2
  refine l_op 0 rfl rfl rfl rfl rfl ?_
  refine l_cmp rfl rfl rfl rfl ?_
  refine l_op 2 rfl rfl rfl rfl rfl ?_
  refine l_nil (WK.nx (by assumption) ?_)
  refine SeqK.nx (by assumption) ?_
  refine l_cond rfl rfl (fun hc3 => ?_) (fun hc3 => ?_)
  · first | replace hc3 := eq_of_beq ((irr_eq _).symm.trans hc3) | simp only [irr_eq, beq_iff_eq, beq_eq_false_iff_ne, ne_eq, decide_eq_true_eq, decide_eq_false_iff_not] at hc3
    refine k_seq (fun Q K => ?_)
    refine k_lin (fun W K => ?_)
    refine l_op 0 rfl rfl rfl rfl rfl ?_
    refine l_nil (WK.nx (by assumption) ?_)
    refine SeqK.nx (by assumption) ?_
    refine k_ret ?_
    refine SeqK.rt (by assumption) ?_
    refine FunK.rt (by assumption) rfl ?_
    -- leaf 3
    first
    | (exfalso; omega)
    | exact absurd (by assumption : false = true) (by decide)
    | (have e : irr ((z5.bs.length : Int) == 1024) = true := by rw [irr_eq]; exact beq_iff_eq.2 (by omega)
       exact ⟨(), congrArg Value.bool e, F.pick [] (by decide), trivial⟩)
    | exact ⟨(), rfl, F.pick [] (by decide), trivial⟩
  first | replace hc3 := ne_of_beq_false ((irr_eq _).symm.trans hc3) | simp only [irr_eq, beq_iff_eq, beq_eq_false_iff_ne, ne_eq, decide_eq_true_eq, decide_eq_false_iff_not] at hc3
  refine k_skip ?_
  refine SeqK.nx (by assumption) ?_
  refine k_seq (fun Q K => ?_)
  refine k_lin (fun W K => ?_)
  refine l_op 0 rfl rfl rfl rfl rfl ?_
  refine l_callp F rfl rfl (by kernel_rfl) rfl rfl (read_call (a := 0) (n := 4) (oldM_of F ok0 0 1 2 3 4 rfl rfl rfl rfl rfl) ok0 ⟨by omega, by omega⟩) (fun y30 s F h30 => ?_)
  (try dsimp only [n_1, n_2, n_3, n_4, List.append_nil, pk, n_5, n_6] at F)
  obtain rfl : y30 = (1198290284, 0) := by
    rw [h30, if_neg (by omega), if_pos (by omega), hb]
    exact congrArg (fun x => (x, (0 : Int))) be_first
  refine l_op 0 rfl rfl rfl rfl rfl ?_
  refine l_op 2 rfl rfl rfl rfl rfl ?_
  refine l_op 2 rfl rfl rfl rfl rfl ?_
  refine l_op 0 rfl rfl rfl rfl rfl ?_
  refine l_op 0 rfl rfl rfl rfl rfl ?_
  refine l_nil (WK.nx (by assumption) ?_)
  refine SeqK.nx (by assumption) ?_
  refine k_seq (fun Q K => ?_)
  refine k_lin (fun W K => ?_)
  refine l_op 0 rfl rfl rfl rfl rfl ?_
  refine l_call F [0, 1, 2, 3, 4] [] (by decide) rfl rfl (by kernel_rfl) rfl rfl (write_call (a := 255) (n := 1) (x := 7) (F.sub [0, 1, 2, 3, 4] (by decide)) ok0 ⟨by omega, by omega⟩ ⟨by omega, by omega⟩) hD (fun _ s F _ => ?_)
  have e34 : wrE z.bs.length 255 1 = 91 := by unfold wrE; rw [if_neg (by omega), if_neg (by omega)]
  have w34 : wrA z.bs 255 1 7 = z.bs := if_neg (by omega)
  rw [w34] at F
  rw [e34]
  replace F : Facts E0 σ s (mF m z) := F
  refine l_callv rfl rfl (by kernel_rfl) rfl rfl num9_call ?_
  (try dsimp only [n_1, n_2, n_3, n_4, List.append_nil, pk, n_5, n_6] at F)
  refine l_cmp rfl rfl rfl rfl ?_
  refine l_op 0 rfl rfl rfl rfl rfl ?_
  refine l_guard rfl rfl rfl (fun hc4 => ?_) (fun hc4 => ?_)
  · first | replace hc4 := eq_of_beq ((irr_eq _).symm.trans hc4) | simp only [irr_eq, beq_iff_eq, beq_eq_false_iff_ne, ne_eq, decide_eq_true_eq, decide_eq_false_iff_not] at hc4
    refine l_op 0 rfl rfl rfl rfl rfl ?_
    refine l_call F [0, 1, 2, 3, 4] [] (by decide) rfl rfl (by kernel_rfl) rfl rfl (write_call (a := 767) (n := 1) (x := 7) (F.sub [0, 1, 2, 3, 4] (by decide)) ok0 ⟨by omega, by omega⟩ ⟨by omega, by omega⟩) hD (fun _ s F _ => ?_)
    have e39 : wrE z.bs.length 767 1 = 0 := by unfold wrE; rw [if_neg (by omega), if_pos (by omega)]
    have w39 : wrA z.bs 767 1 7 = b1 := by unfold wrA b1; rw [if_pos e39, hb]; rfl
    rw [w39] at F
    rw [e39]
    have hB1 : Bytes b1 := by unfold b1; exact putB_bytes firstB_bytes (bytes_putm 7 1)
    have ok1 : MOK (z.wb b1) := ok0.wb (by rw [b1_len, hN]) hB1
    replace F : Facts E0 σ s (mF m (z.wb b1)) := F
    obtain ⟨z1, hz1⟩ : ∃ z1, z.wb b1 = z1 := ⟨_, rfl⟩
    have hb1 : z1.bs = b1 := by rw [← hz1]
    have hl1 : z1.bl = [] := by rw [← hz1]; exact hl
    have hst1 : z1.st = 0 := by rw [← hz1]; exact hst
    have hen1 : z1.en = 0 := by rw [← hz1]; exact hen
    have hN1 : z1.bs.length = 768 := by rw [hb1]; exact b1_len
    rw [hz1] at F ok1
    refine l_callv rfl rfl (by kernel_rfl) rfl rfl num9_call ?_
    (try dsimp only [n_1, n_2, n_3, n_4, List.append_nil, pk, n_5, n_6] at F)
    refine l_cmp rfl rfl rfl rfl ?_
    refine l_op 2 rfl rfl rfl rfl rfl ?_
    refine l_op 0 rfl rfl rfl rfl rfl ?_
    refine l_guard rfl rfl rfl (fun hc5 => ?_) (fun hc5 => ?_)
    · first | replace hc5 := eq_of_beq ((irr_eq _).symm.trans hc5) | simp only [irr_eq, beq_iff_eq, beq_eq_false_iff_ne, ne_eq, decide_eq_true_eq, decide_eq_false_iff_not] at hc5
      refine l_op 0 rfl rfl rfl rfl rfl ?_
      refine l_call F [0, 1, 2, 3, 4] [] (by decide) rfl rfl (by kernel_rfl) rfl rfl (write_call (a := 767) (n := 2) (x := 7) (F.sub [0, 1, 2, 3, 4] (by decide)) ok1 ⟨by omega, by omega⟩ ⟨by omega, by omega⟩) hD (fun _ s F _ => ?_)
      have e45 : wrE z1.bs.length 767 2 = 91 := by unfold wrE; rw [if_neg (by omega), if_neg (by omega)]
      have w45 : wrA z1.bs 767 2 7 = z1.bs := if_neg (by omega)
      rw [w45] at F
      rw [e45]
      replace F : Facts E0 σ s (mF m z1) := F
      refine l_callv rfl rfl (by kernel_rfl) rfl rfl num9_call ?_
      (try dsimp only [n_1, n_2, n_3, n_4, List.append_nil, pk, n_5, n_6] at F)
      refine l_cmp rfl rfl rfl rfl ?_
      refine l_op 2 rfl rfl rfl rfl rfl ?_
      refine l_op 0 rfl rfl rfl rfl rfl ?_
      refine l_guard rfl rfl rfl (fun hc6 => ?_) (fun hc6 => ?_)
      · first | replace hc6 := eq_of_beq ((irr_eq _).symm.trans hc6) | simp only [irr_eq, beq_iff_eq, beq_eq_false_iff_ne, ne_eq, decide_eq_true_eq, decide_eq_false_iff_not] at hc6
        refine l_op 0 rfl rfl rfl rfl rfl ?_
        refine l_call F [0, 1, 2, 3, 4] [] (by decide) rfl rfl (by kernel_rfl) rfl rfl (resize_call (n := 1024) (F.sub [0, 1, 2, 3, 4] (by decide)) ok1 ⟨by omega, by omega⟩) hD (fun y2 s F hy2 => ?_)
        have e51 : rszOK z1 1024 = true := decide_eq_true ⟨hl1, by omega, by omega, by omega⟩
        have w51 : rszB z1 1024 = growB b1 1024 := by unfold rszB; rw [if_pos e51, hb1]; rfl
        rw [w51] at F hy2
        rw [e51, show irr true = true from irr_eq _]
        have hgl := growB_len b1 1024
        have ok2 : MOK (z1.wg y2 (growB b1 1024)) := ok1.wg hy2 (by rw [hgl]; omega) (growB_bytes (by rw [← hb1]; exact ok1.byt) _)
        replace F : Facts E0 σ s (mF m (z1.wg y2 (growB b1 1024))) := F
        obtain ⟨z2, hz2⟩ : ∃ z2, z1.wg y2 (growB b1 1024) = z2 := ⟨_, rfl⟩
        have hb2 : z2.bs = growB b1 1024 := by rw [← hz2]
        have hl2 : z2.bl = [] := by rw [← hz2]; exact hl1
        have hst2 : z2.st = 0 := by rw [← hz2]; exact hst1
        have hen2 : z2.en = 0 := by rw [← hz2]; exact hen1
        have hN2 : z2.bs.length = 1024 := by rw [hb2]; exact hgl
        rw [hz2] at F ok2
        refine l_op 2 rfl rfl rfl rfl rfl ?_
        refine l_op 0 rfl rfl rfl rfl rfl ?_
        refine l_nil (WK.nx (by assumption) ?_)
        refine SeqK.nx (by assumption) ?_
        refine k_seq (fun Q K => ?_)
        refine k_lin (fun W K => ?_)
        refine l_op 0 rfl rfl rfl rfl rfl ?_
        refine l_callp F rfl rfl (by kernel_rfl) rfl rfl (read_call (a := 1020) (n := 4) (oldM_of F ok2 0 1 2 3 4 rfl rfl rfl rfl rfl) ok2 ⟨by omega, by omega⟩) (fun y55 s F h55 => ?_)
        (try dsimp only [n_1, n_2, n_3, n_4, List.append_nil, pk, n_5, n_6] at F)
        obtain rfl : y55 = (0, 0) := by
          rw [h55, if_neg (by omega), if_pos (by omega), hb2]
          exact congrArg (fun x => (x, (0 : Int))) be_b1
        refine l_op 0 rfl rfl rfl rfl rfl ?_
        refine l_op 2 rfl rfl rfl rfl rfl ?_
        refine l_op 2 rfl rfl rfl rfl rfl ?_
        refine l_op 0 rfl rfl rfl rfl rfl ?_
        refine l_op 0 rfl rfl rfl rfl rfl ?_
        refine l_nil (WK.nx (by assumption) ?_)
        refine SeqK.nx (by assumption) ?_
        refine k_seq (fun Q K => ?_)
        refine k_lin (fun W K => ?_)
        refine l_op 0 rfl rfl rfl rfl rfl ?_
        refine l_call F [0, 1, 2, 3, 4] [] (by decide) rfl rfl (by kernel_rfl) rfl rfl (mmalloc_call (n := 5) (F.sub [0, 1, 2, 3, 4] (by decide)) ok2 ⟨by omega, by omega⟩) hD (fun z3 s F hz3 => ?_)
        have r59 : mallocR 1048576 z2.st z2.en z2.bl 5 z2.bs.length = ⟨1024, true, 1024, 1280, [(1024, 5)]⟩ := by rw [hst2, hen2, hl2, hN2]; exact mal1
        rw [r59] at hz3 ⊢
        obtain ⟨ok3, _, _, hst3, hen3, hl3, hb3⟩ := hz3
        replace F : Facts E0 σ s (mF m z3) := F
        have hN3 : z3.bs.length = 1280 := by rw [hb3, if_pos rfl]; exact growB_len _ _
        refine l_op 0 rfl rfl rfl rfl rfl ?_
        refine l_nil (WK.nx (by assumption) ?_)
        refine SeqK.nx (by assumption) ?_
        refine k_seq (fun Q K => ?_)
        refine k_lin (fun W K => ?_)
        refine l_op 0 rfl rfl rfl rfl rfl ?_
        first
        | refine l_callp F rfl rfl (by kernel_rfl) rfl rfl (size_call (z := z5) (oldM_of F ok5 0 1 2 3 4 rfl rfl rfl rfl rfl) ok5) (fun _ s F _ => ?_)
        | refine l_callp F rfl rfl (by kernel_rfl) rfl rfl (size_call (z := z3) (oldM_of F ok3 0 1 2 3 4 rfl rfl rfl rfl rfl) ok3) (fun _ s F _ => ?_)
        (try dsimp only [n_1, n_2, n_3, n_4, List.append_nil, pk, n_5, n_6] at F)
        refine l_cmp rfl rfl rfl rfl ?_
        refine l_op 0 rfl rfl rfl rfl rfl ?_
        refine l_guard rfl rfl rfl (fun hc7 => ?_) (fun hc7 => ?_)
        · first | replace hc7 := eq_of_beq ((irr_eq _).symm.trans hc7) | simp only [irr_eq, beq_iff_eq, beq_eq_false_iff_ne, ne_eq, decide_eq_true_eq, decide_eq_false_iff_not] at hc7
          refine l_op 0 rfl rfl rfl rfl rfl ?_
          refine l_call F [0, 1, 2, 3, 4] [] (by decide) rfl rfl (by kernel_rfl) rfl rfl (resize_call (n := 768) (F.sub [0, 1, 2, 3, 4] (by decide)) ok3 ⟨by omega, by omega⟩) hD (fun y4 s F hy4 => ?_)
          have e65 : rszOK z3 768 = false := decide_eq_false (fun h => by have h1 := h.1; rw [hl3] at h1; cases h1)
          have w65 : rszB z3 768 = z3.bs := if_neg (by rw [e65]; decide)
          rw [w65] at F hy4
          rw [e65, show irr false = false from irr_eq _]
          have ok4 : MOK (z3.wg y4 z3.bs) := ok3.wg hy4 (by omega) ok3.byt
          replace F : Facts E0 σ s (mF m (z3.wg y4 z3.bs)) := F
          refine l_op 2 rfl rfl rfl rfl rfl ?_
          refine l_op 2 rfl rfl rfl rfl rfl ?_
          refine l_op 0 rfl rfl rfl rfl rfl ?_
          refine l_guard rfl rfl rfl (fun hc8 => ?_) (fun hc8 => ?_)
          · try simp only [irr_eq, beq_iff_eq, bne_iff_ne, beq_eq_false_iff_ne, bne_eq_false_iff_eq, ne_eq, decide_eq_true_eq, decide_eq_false_iff_not, Bool.not_eq_true', Bool.not_eq_false'] at hc8
            refine l_op 0 rfl rfl rfl rfl rfl ?_
            refine l_call F [0, 1, 2, 3, 4] [] (by decide) rfl rfl (by kernel_rfl) rfl rfl (mfree_call (ad := 1024) (F.sub [0, 1, 2, 3, 4] (by decide)) ok4 ⟨by omega, by omega⟩) hD (fun z5 s F hz5 => ?_)
            have r70 : freeR (z3.wg y4 z3.bs).st (z3.wg y4 z3.bs).en (z3.wg y4 z3.bs).bl 1024 = ⟨0, true, 0, 0, []⟩ := by show freeR z3.st z3.en z3.bl 1024 = _; rw [hst3, hen3, hl3]; exact fre1
            have e70 : frE (z3.wg y4 z3.bs) 1024 = 0 := by unfold frE; rw [r70]; rfl
            obtain ⟨ok5, _, _, hst5, hen5, hl5, hb5⟩ := hz5
            rw [r70] at hb5
            rw [e70]
            replace F : Facts E0 σ s (mF m z5) := F
            have hN5 : z5.bs.length = 1024 := by
              rw [hb5, if_pos ⟨rfl, rfl⟩, growB_len]
              show z3.st.toNat = 1024
              rw [hst3]; rfl
            refine l_callv rfl rfl (by kernel_rfl) rfl rfl num9_call ?_
            (try dsimp only [n_1, n_2, n_3, n_4, List.append_nil, pk, n_5, n_6] at F)
            refine l_cmp rfl rfl rfl rfl ?_
            refine l_op 2 rfl rfl rfl rfl rfl ?_
            refine l_op 0 rfl rfl rfl rfl rfl ?_
            refine l_guard rfl rfl rfl (fun hc9 => ?_) (fun hc9 => ?_)
            · first | replace hc9 := eq_of_beq ((irr_eq _).symm.trans hc9) | simp only [irr_eq, beq_iff_eq, beq_eq_false_iff_ne, ne_eq, decide_eq_true_eq, decide_eq_false_iff_not] at hc9
              refine l_op 0 rfl rfl rfl rfl rfl ?_
              first
              | refine l_callp F rfl rfl (by kernel_rfl) rfl rfl (size_call (z := z5) (oldM_of F ok5 0 1 2 3 4 rfl rfl rfl rfl rfl) ok5) (fun _ s F _ => ?_)
              | refine l_callp F rfl rfl (by kernel_rfl) rfl rfl (size_call (z := z3) (oldM_of F ok3 0 1 2 3 4 rfl rfl rfl rfl rfl) ok3) (fun _ s F _ => ?_)
              (try dsimp only [n_1, n_2, n_3, n_4, List.append_nil, pk, n_5, n_6] at F)
              refine l_cmp rfl rfl rfl rfl ?_
              refine l_op 2 rfl rfl rfl rfl rfl ?_
              refine l_op 0 rfl rfl rfl rfl rfl ?_
              refine l_nil (WK.nx (by assumption) ?_)
              refine SeqK.nx (by assumption) ?_
              refine k_seq (fun Q K => ?_)
              refine k_lin (fun W K => ?_)
              refine l_op 0 rfl rfl rfl rfl rfl ?_
              refine l_callv rfl rfl (by kernel_rfl) rfl rfl num9_call ?_
              (try dsimp only [n_1, n_2, n_3, n_4, List.append_nil, pk, n_5, n_6] at F)
              refine l_op 0 rfl rfl rfl rfl rfl ?_
              refine l_callv rfl rfl (by kernel_rfl) rfl rfl num9_call ?_
              (try dsimp only [n_1, n_2, n_3, n_4, List.append_nil, pk, n_5, n_6] at F)
              refine l_a64 rfl rfl rfl (by omega) rfl ?_
              refine l_cmp rfl rfl rfl rfl ?_
              refine l_op 0 rfl rfl rfl rfl rfl ?_
              refine l_guard rfl rfl rfl (fun hc10 => ?_) (fun hc10 => ?_)
              · first | replace hc10 := eq_of_beq ((irr_eq _).symm.trans hc10) | simp only [irr_eq, beq_iff_eq, beq_eq_false_iff_ne, ne_eq, decide_eq_true_eq, decide_eq_false_iff_not] at hc10
                refine l_op 0 rfl rfl rfl rfl rfl ?_
                refine l_cmp rfl rfl rfl rfl ?_
                refine l_op 2 rfl rfl rfl rfl rfl ?_
                refine l_op 0 rfl rfl rfl rfl rfl ?_
                refine l_guard rfl rfl rfl (fun hc11 => ?_) (fun hc11 => ?_)
                · first | replace hc11 := eq_of_beq ((irr_eq _).symm.trans hc11) | simp only [irr_eq, beq_iff_eq, beq_eq_false_iff_ne, ne_eq, decide_eq_true_eq, decide_eq_false_iff_not] at hc11
                  refine l_op 0 rfl rfl rfl rfl rfl ?_
                  refine l_op 2 rfl rfl rfl rfl rfl ?_
                  refine l_op 0 rfl rfl rfl rfl rfl ?_
                  refine l_guard rfl rfl rfl (fun hc12 => ?_) (fun hc12 => ?_)
                  · try simp only [irr_eq, beq_iff_eq, bne_iff_ne, beq_eq_false_iff_ne, bne_eq_false_iff_eq, ne_eq, decide_eq_true_eq, decide_eq_false_iff_not, Bool.not_eq_true', Bool.not_eq_false'] at hc12
                    refine l_op 0 rfl rfl rfl rfl rfl ?_
                    refine l_cmp rfl rfl rfl rfl ?_
                    refine l_op 2 rfl rfl rfl rfl rfl ?_
                    refine l_op 0 rfl rfl rfl rfl rfl ?_
                    refine l_guard rfl rfl rfl (fun hc13 => ?_) (fun hc13 => ?_)
                    · first | replace hc13 := eq_of_beq ((irr_eq _).symm.trans hc13) | simp only [irr_eq, beq_iff_eq, beq_eq_false_iff_ne, ne_eq, decide_eq_true_eq, decide_eq_false_iff_not] at hc13
                      refine l_op 0 rfl rfl rfl rfl rfl ?_
                      refine l_cmp rfl rfl rfl rfl ?_
                      refine l_op 2 rfl rfl rfl rfl rfl ?_
                      refine l_op 0 rfl rfl rfl rfl rfl ?_
                      refine l_guard rfl rfl rfl (fun hc14 => ?_) (fun hc14 => ?_)
                      · first | replace hc14 := eq_of_beq ((irr_eq _).symm.trans hc14) | simp only [irr_eq, beq_iff_eq, beq_eq_false_iff_ne, ne_eq, decide_eq_true_eq, decide_eq_false_iff_not] at hc14
                        refine l_op 0 rfl rfl rfl rfl rfl ?_
                        refine l_op 2 rfl rfl rfl rfl rfl ?_
                        refine l_op 0 rfl rfl rfl rfl rfl ?_
                        refine l_nil (WK.nx (by assumption) ?_)
                        refine SeqK.nx (by assumption) ?_
                        refine k_ret ?_
                        refine FunK.rt (by assumption) rfl ?_
                        -- leaf 4
                        first
                        | (exfalso; omega)
                        | exact absurd (by assumption : false = true) (by decide)
                        | (have e : irr ((z5.bs.length : Int) == 1024) = true := by rw [irr_eq]; exact beq_iff_eq.2 (by omega)
                           exact ⟨(), congrArg Value.bool e, F.pick [] (by decide), trivial⟩)
                        | exact ⟨(), rfl, F.pick [] (by decide), trivial⟩
                      first | replace hc14 := ne_of_beq_false ((irr_eq _).symm.trans hc14) | simp only [irr_eq, beq_iff_eq, beq_eq_false_iff_ne, ne_eq, decide_eq_true_eq, decide_eq_false_iff_not] at hc14
                      first | (exfalso; omega) | exact absurd rfl (by assumption) | exact absurd (by assumption : false = true) (by decide) | exact absurd (by assumption : true = false) (by decide)
                    first | replace hc13 := ne_of_beq_false ((irr_eq _).symm.trans hc13) | simp only [irr_eq, beq_iff_eq, beq_eq_false_iff_ne, ne_eq, decide_eq_true_eq, decide_eq_false_iff_not] at hc13
                    first | (exfalso; omega) | exact absurd rfl (by assumption) | exact absurd (by assumption : false = true) (by decide) | exact absurd (by assumption : true = false) (by decide)
                  try simp only [irr_eq, beq_iff_eq, bne_iff_ne, beq_eq_false_iff_ne, bne_eq_false_iff_eq, ne_eq, decide_eq_true_eq, decide_eq_false_iff_not, Bool.not_eq_true', Bool.not_eq_false'] at hc12
                  first | (exfalso; omega) | exact absurd rfl (by assumption) | exact absurd (by assumption : false = true) (by decide) | exact absurd (by assumption : true = false) (by decide)
                first | replace hc11 := ne_of_beq_false ((irr_eq _).symm.trans hc11) | simp only [irr_eq, beq_iff_eq, beq_eq_false_iff_ne, ne_eq, decide_eq_true_eq, decide_eq_false_iff_not] at hc11
                first | (exfalso; omega) | exact absurd rfl (by assumption) | exact absurd (by assumption : false = true) (by decide) | exact absurd (by assumption : true = false) (by decide)
              first | replace hc10 := ne_of_beq_false ((irr_eq _).symm.trans hc10) | simp only [irr_eq, beq_iff_eq, beq_eq_false_iff_ne, ne_eq, decide_eq_true_eq, decide_eq_false_iff_not] at hc10
              first | (exfalso; omega) | exact absurd rfl (by assumption) | exact absurd (by assumption : false = true) (by decide) | exact absurd (by assumption : true = false) (by decide)
            first | replace hc9 := ne_of_beq_false ((irr_eq _).symm.trans hc9) | simp only [irr_eq, beq_iff_eq, beq_eq_false_iff_ne, ne_eq, decide_eq_true_eq, decide_eq_false_iff_not] at hc9
            first | (exfalso; omega) | exact absurd rfl (by assumption) | exact absurd (by assumption : false = true) (by decide) | exact absurd (by assumption : true = false) (by decide)
          try simp only [irr_eq, beq_iff_eq, bne_iff_ne, beq_eq_false_iff_ne, bne_eq_false_iff_eq, ne_eq, decide_eq_true_eq, decide_eq_false_iff_not, Bool.not_eq_true', Bool.not_eq_false'] at hc8
          first | (exfalso; omega) | exact absurd rfl (by assumption) | exact absurd (by assumption : false = true) (by decide) | exact absurd (by assumption : true = false) (by decide)
        first | replace hc7 := ne_of_beq_false ((irr_eq _).symm.trans hc7) | simp only [irr_eq, beq_iff_eq, beq_eq_false_iff_ne, ne_eq, decide_eq_true_eq, decide_eq_false_iff_not] at hc7
        first | (exfalso; omega) | exact absurd rfl (by assumption) | exact absurd (by assumption : false = true) (by decide) | exact absurd (by assumption : true = false) (by decide)
      first | replace hc6 := ne_of_beq_false ((irr_eq _).symm.trans hc6) | simp only [irr_eq, beq_iff_eq, beq_eq_false_iff_ne, ne_eq, decide_eq_true_eq, decide_eq_false_iff_not] at hc6
      first | (exfalso; omega) | exact absurd rfl (by assumption) | exact absurd (by assumption : false = true) (by decide) | exact absurd (by assumption : true = false) (by decide)
    first | replace hc5 := ne_of_beq_false ((irr_eq _).symm.trans hc5) | simp only [irr_eq, beq_iff_eq, beq_eq_false_iff_ne, ne_eq, decide_eq_true_eq, decide_eq_false_iff_not] at hc5
    first | (exfalso; omega) | exact absurd rfl (by assumption) | exact absurd (by assumption : false = true) (by decide) | exact absurd (by assumption : true = false) (by decide)
  first | replace hc4 := ne_of_beq_false ((irr_eq _).symm.trans hc4) | simp only [irr_eq, beq_iff_eq, beq_eq_false_iff_ne, ne_eq, decide_eq_true_eq, decide_eq_false_iff_not] at hc4
  first | (exfalso; omega) | exact absurd rfl (by assumption) | exact absurd (by assumption : false = true) (by decide) | exact absurd (by assumption : true = false) (by decide)

end Go.Proofs.Ytpocmkgfmmhhgaa
