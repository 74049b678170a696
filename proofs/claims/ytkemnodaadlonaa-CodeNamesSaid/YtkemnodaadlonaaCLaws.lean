/- Laws of instructions that are laid and read. No statement of the seat is proved in this text. -/
import Derived.Test.YtkemnodaadlonaaCSame
import Derived.Test.YtkemnodaadlonaaAb25
import Derived.Test.YtkemnodaadlonaaHeadsLaw
set_option linter.unusedVariables false
set_option linter.unusedSimpArgs false
set_option maxRecDepth 100000
set_option maxHeartbeats 4000000
namespace Go.Proofs.Ytkemnodaadlonaa
open GAb Go

structure Ins where
  op : Int
  x : Option Addr
  l : Nat
  c : Nat
  zs : List (Int × Int)
abbrev eI (t : Ins) : List Value := [.int .u32 t.op, .slice t.x t.l t.c]
theorem opn_operand : Opn Try.prog 62 fun _ vs => ∃ x : Int × Int, vs = eO x ∧ U32 x.2 :=
  opn_mono (opn_struct Try.underlying62 (by kernel_rfl) (.cons (opn_int Try.underlying3) (.cons (opn_int Try.underlying25) .nil))) (fun σ vs h => by
    obtain ⟨u0, w0, rfl, ⟨n0, rfl, h0⟩, u1, w1, rfl, ⟨n1, rfl, h1⟩, rfl⟩ := h
    exact ⟨(n0, n1), rfl, bounds_u32 h1⟩) (fun _ _ _ h _ => h)
theorem opn_operands : Opn Try.prog 26 fun σ vs => ∃ x len cap zs, vs = [.slice x len cap] ∧ Row σ x len cap 2 (rows eO zs) ∧ ArgOK zs :=
  opn_mono (opn_slice (es := 2) Try.underlying26 (by kernel_rfl) (by decide) opn_operand) (fun σ vs h => by
    obtain ⟨x, len, cap, zs, rfl, hR, hE, hM⟩ := h
    obtain ⟨xs, rfl, h1, h2⟩ := els_rows (Q := fun t : Int × Int => U32 t.2) (e := eO) (es := 2) (σ := σ) hE
    exact ⟨x, len, cap, xs, rfl, hR, fun y hy => h2 y hy⟩) (fun σ σ' vs ⟨x, len, cap, zs, h1, h2, h3⟩ k => ⟨x, len, cap, zs, h1, h2.kp (Nat.le_refl _) k, h3⟩)
def InsOK (σ : AState) (t : Ins) : Prop := U32 t.op ∧ Row σ t.x t.l t.c 2 (rows eO t.zs) ∧ ArgOK t.zs
theorem opn_ins : Opn Try.prog 28 fun σ vs => ∃ t : Ins, vs = eI t ∧ InsOK σ t :=
  opn_mono (opn_struct Try.underlying28 (by kernel_rfl) (.cons (opn_int Try.underlying25) (.cons opn_operands .nil))) (fun σ vs h => by
    obtain ⟨u0, w0, rfl, ⟨n0, rfl, h0⟩, u1, w1, rfl, ⟨x, l, c, zs, rfl, h4, h5⟩, rfl⟩ := h
    exact ⟨⟨n0, x, l, c, zs⟩, rfl, bounds_u32 h0, h4, h5⟩) (fun σ σ' vs ⟨t, h1, h2, h3, h4⟩ k => ⟨t, h1, h2, h3.kp (Nat.le_refl _) k, h4⟩)
/-- An instruction that is only read. -/
structure OldI (σ : AState) (t : Ins) (ars : List (Int × Int)) : Prop where
  op : U32 t.op
  old : Old E0 σ t.x t.l t.c 2 (rows eO ars)
  ok : ArgOK ars
theorem oldI_ins {σ : AState} {t : Ins} (h : InsOK σ t) : OldI σ t (t.zs.take t.l) :=
  ⟨h.1, Old.pure ⟨_, h.2.1, by rw [rows_take eO_len]⟩, fun a ha => h.2.2 a (List.mem_of_mem_take ha)⟩

theorem bytes_mem {bs : List Int} (h : ∀ x ∈ bs, 0 ≤ x ∧ x ≤ 255) : Bytes bs := fun i hi => by
  have := h _ (List.getElem_mem hi)
  simpa [List.getD, hi] using this
theorem bytes_app {xs ys : List Int} (h1 : Bytes xs) (h2 : Bytes ys) : Bytes (xs ++ ys) := bytes_mem fun x hx => by
  have gen : ∀ zs : List Int, Bytes zs → x ∈ zs → 0 ≤ x ∧ x ≤ 255 := fun zs hz hm => by
    obtain ⟨i, hi, rfl⟩ := List.getElem_of_mem hm
    have := hz i hi
    simpa [List.getD, hi] using this
  rcases List.mem_append.1 hx with hx | hx
  · exact gen _ h1 hx
  · exact gen _ h2 hx
theorem bytes_put (v k : Int) : Bytes (putR v k) := bytes_mem fun x hx => by
  unfold putR at hx
  (repeat' split at hx) <;> simp at hx <;> omega
theorem bytes_data : ∀ ars : List (Int × Int), Bytes (dataR ars)
  | [] => fun i hi => by simp [dataR] at hi
  | a :: ars => bytes_app (bytes_put _ _) (bytes_data ars)
theorem bytes_pack : ∀ ms : List Int, (∀ m ∈ ms, 0 ≤ m ∧ m ≤ 15) → Bytes (packR ms)
  | [], _ => fun i hi => by simp [packR] at hi
  | [m], h => bytes_mem fun x hx => by
    have := h m (by simp)
    simp [packR] at hx
    omega
  | m :: n :: ms, h => by
    have h1 := h m (by simp)
    have h2 := h n (by simp)
    refine bytes_app (xs := [m + 16 * n]) (bytes_mem fun x hx => ?_) (bytes_pack ms fun z hz => h z (by simp [hz]))
    simp at hx
    omega
theorem bytes_rest {s : List Int} {ars : List (Int × Int)} (hl : s.length = ars.length) (hk : okArgs s ars = true) : Bytes (restR ars) := by
  refine bytes_app (bytes_pack _ fun m hm => ?_) (bytes_data _)
  obtain ⟨a, ha, rfl⟩ := List.mem_map.1 hm
  have := szm_cases ((okArgs_all s ars hl hk).1 a ha).1
  omega
theorem bytes_opB (op : Int) : Bytes (opB op) := by unfold opB; split <;> exact bytes_put _ _
theorem enc_len {op : Int} {ars : List (Int × Int)} {b : List Int} (h : encR sgR op ars = some b) : b.length ≤ 100 ∧ Bytes b ∧ ars.length ≤ 8 := by
  obtain ⟨s, h1, h2, h3, rfl⟩ := enc_some h
  have hs := sg_len h1
  have hd := dataR_len ars
  have hob : (opB op).length ≤ 2 := by unfold opB putR; split <;> simp
  refine ⟨?_, bytes_app (bytes_opB op) (bytes_rest h2 h3), by omega⟩
  simp only [restR, List.length_append, packR_len, List.length_map]
  omega

theorem back_law {σ : AState} {t : Ins} {ars : List (Int × Int)} (h : OldI σ t ars) {a1 a2 : Option Addr} {l1 c1 l2 c2 : Nat} {xs ys : List Int} (h1 : Old E0 σ a1 l1 c1 1 (u8l xs)) (hB1 : Bytes xs) (h2 : Old E0 σ a2 l2 c2 1 (u8l ys)) (hB2 : Bytes ys) :
    SCall Try.prog E0 9 [.agg (eI t).toArray, .slice a1 l1 c1, .slice a2 l2 c2] σ (fun v _ => v = .bool true) := by
  have hx1 := h1.len8
  have hx2 := h2.len8
  have hold := h.old
  have hal : ars.length = t.l := hold.1.len eO_len (by decide)
  refine k_fun Try.func9 rfl (m := 77) rfl fun B hD Q K => ?_
  have F := Facts.nil E0 σ
  refine k_seq (fun Q K => ?_)
  refine k_lin (fun W K => ?_)
  refine l_bx F rfl rfl rfl rfl rfl (fun q3 s F => ?_)
  (try dsimp only [List.set_cons_zero, List.set_cons_succ, List.cons_append, List.nil_append, List.append_nil, pk, List.getElem?_cons_zero, List.getElem?_cons_succ] at F)
  refine l_op 0 rfl rfl rfl rfl rfl ?_
  refine l_nil (WK.nx (by assumption) ?_)
  refine SeqK.nx (by assumption) ?_
  refine k_seq (fun Q K => ?_)
  refine k_seq (fun Q K => ?_)
  refine k_lin (fun W K => ?_)
  refine l_op 2 rfl rfl rfl rfl rfl ?_
  first | refine l_ld0 rfl rfl rfl rfl rfl (by assumption) ?_ | refine l_ldj rfl rfl rfl rfl rfl rfl (by assumption) rfl ?_ | refine l_ldc F 0 rfl rfl rfl rfl rfl rfl rfl ?_ | refine l_ldc F 1 rfl rfl rfl rfl rfl rfl rfl ?_ | refine l_ldc F 2 rfl rfl rfl rfl rfl rfl rfl ?_ | refine l_ldc F 3 rfl rfl rfl rfl rfl rfl rfl ?_ | refine l_ldc F 4 rfl rfl rfl rfl rfl rfl rfl ?_ | refine l_ldc F 5 rfl rfl rfl rfl rfl rfl rfl ?_ | refine l_ldc F 6 rfl rfl rfl rfl rfl rfl rfl ?_ | refine l_ldc F 7 rfl rfl rfl rfl rfl rfl rfl ?_ | refine l_ldc F 8 rfl rfl rfl rfl rfl rfl rfl ?_ | refine l_ldc F 9 rfl rfl rfl rfl rfl rfl rfl ?_ | refine l_lda rfl rfl rfl rfl rfl (by assumption) ?_ | refine l_ldca F 0 rfl rfl rfl rfl rfl rfl rfl ?_ | refine l_ldca F 1 rfl rfl rfl rfl rfl rfl rfl ?_ | refine l_ldca F 2 rfl rfl rfl rfl rfl rfl rfl ?_ | refine l_ldca F 3 rfl rfl rfl rfl rfl rfl rfl ?_ | refine l_ldca F 4 rfl rfl rfl rfl rfl rfl rfl ?_ | refine l_ldca F 5 rfl rfl rfl rfl rfl rfl rfl ?_ | refine l_ldca F 6 rfl rfl rfl rfl rfl rfl rfl ?_ | refine l_ldca F 7 rfl rfl rfl rfl rfl rfl rfl ?_ | refine l_ldca F 8 rfl rfl rfl rfl rfl rfl rfl ?_ | refine l_ldca F 9 rfl rfl rfl rfl rfl rfl rfl ?_ | refine l_ldo F (by assumption) rfl rfl rfl rfl rfl rfl ?_ | refine l_ldoa F (by assumption) rfl rfl rfl rfl rfl rfl ?_
  first | refine l_op 2 rfl rfl rfl rfl rfl ?_ | refine l_ln rfl rfl rfl rfl ?_
  refine l_cmp rfl rfl rfl rfl ?_
  refine l_op 0 rfl rfl rfl rfl rfl ?_
  refine l_guard rfl rfl rfl (fun hc1 => ?_) (fun hc1 => ?_)
  · replace hc1 := of_decide_eq_true ((irr_eq _).symm.trans hc1)
    refine l_s rfl rfl ?_
    refine l_s rfl rfl ?_
    refine l_s rfl rfl ?_
    refine l_op 2 rfl rfl rfl rfl rfl ?_
    refine l_op 0 rfl rfl rfl rfl rfl ?_
    refine l_s rfl rfl ?_
    refine l_s rfl rfl ?_
    refine l_s rfl rfl ?_
    refine l_op 2 rfl rfl rfl rfl rfl ?_
    refine l_nil (WK.nx (by assumption) ?_)
    refine SeqK.nx (by assumption) ?_
    refine e_cond_t rfl rfl rfl ?_
    refine k_seq (fun Q K => ?_)
    refine k_lin (fun W K => ?_)
    refine l_callv rfl rfl (by kernel_rfl) rfl rfl (live_call _ _) ?_
    (try dsimp only [List.set_cons_zero, List.set_cons_succ, List.cons_append, List.nil_append, List.append_nil, pk, List.getElem?_cons_zero, List.getElem?_cons_succ] at F)
    refine l_op 0 rfl rfl rfl rfl rfl ?_
    refine l_nil (WK.nx (by assumption) ?_)
    refine SeqK.nx (by assumption) ?_
    refine k_ret ?_
    refine SeqK.rt (by assumption) ?_
    refine FunK.rt (by assumption) rfl ?_
    -- leaf 1
    rfl
  · replace hc1 := of_decide_eq_false ((irr_eq _).symm.trans hc1)
    refine l_op 0 rfl rfl rfl rfl rfl ?_
    first | refine l_op 2 rfl rfl rfl rfl rfl ?_ | refine l_ln rfl rfl rfl rfl ?_
    refine l_cmp rfl rfl rfl rfl ?_
    refine l_op 2 rfl rfl rfl rfl rfl ?_
    refine l_op 0 rfl rfl rfl rfl rfl ?_
    refine l_guard rfl rfl rfl (fun hc2 => ?_) (fun hc2 => ?_)
    · replace hc2 := of_decide_eq_true ((irr_eq _).symm.trans hc2)
      refine l_s rfl rfl ?_
      refine l_s rfl rfl ?_
      refine l_s rfl rfl ?_
      refine l_op 2 rfl rfl rfl rfl rfl ?_
      refine l_nil (WK.nx (by assumption) ?_)
      refine SeqK.nx (by assumption) ?_
      refine e_cond_t rfl rfl rfl ?_
      refine k_seq (fun Q K => ?_)
      refine k_lin (fun W K => ?_)
      refine l_callv rfl rfl (by kernel_rfl) rfl rfl (live_call _ _) ?_
      (try dsimp only [List.set_cons_zero, List.set_cons_succ, List.cons_append, List.nil_append, List.append_nil, pk, List.getElem?_cons_zero, List.getElem?_cons_succ] at F)
      refine l_op 0 rfl rfl rfl rfl rfl ?_
      refine l_nil (WK.nx (by assumption) ?_)
      refine SeqK.nx (by assumption) ?_
      refine k_ret ?_
      refine SeqK.rt (by assumption) ?_
      refine FunK.rt (by assumption) rfl ?_
      -- leaf 2
      rfl
    · replace hc2 := of_decide_eq_false ((irr_eq _).symm.trans hc2)
      refine l_op 0 rfl rfl rfl rfl rfl ?_
      first | refine l_op 2 rfl rfl rfl rfl rfl ?_ | refine l_ln rfl rfl rfl rfl ?_
      refine l_cmp rfl rfl rfl rfl ?_
      refine l_op 2 rfl rfl rfl rfl rfl ?_
      refine l_nil (WK.nx (by assumption) ?_)
      refine SeqK.nx (by assumption) ?_
      refine l_cond rfl rfl (fun hc3 => ?_) (fun hc3 => ?_)
      · replace hc3 := of_decide_eq_true ((irr_eq _).symm.trans hc3)
        refine k_seq (fun Q K => ?_)
        refine k_lin (fun W K => ?_)
        refine l_callv rfl rfl (by kernel_rfl) rfl rfl (live_call _ _) ?_
        (try dsimp only [List.set_cons_zero, List.set_cons_succ, List.cons_append, List.nil_append, List.append_nil, pk, List.getElem?_cons_zero, List.getElem?_cons_succ] at F)
        refine l_op 0 rfl rfl rfl rfl rfl ?_
        refine l_nil (WK.nx (by assumption) ?_)
        refine SeqK.nx (by assumption) ?_
        refine k_ret ?_
        refine SeqK.rt (by assumption) ?_
        refine FunK.rt (by assumption) rfl ?_
        -- leaf 3
        rfl
      · replace hc3 := of_decide_eq_false ((irr_eq _).symm.trans hc3)
        refine k_skip ?_
        refine SeqK.nx (by assumption) ?_
        refine k_seq (fun Q K => ?_)
        refine k_lin (fun W K => ?_)
        first | refine l_ld0 rfl rfl rfl rfl rfl (by assumption) ?_ | refine l_ldj rfl rfl rfl rfl rfl rfl (by assumption) rfl ?_ | refine l_ldc F 0 rfl rfl rfl rfl rfl rfl rfl ?_ | refine l_ldc F 1 rfl rfl rfl rfl rfl rfl rfl ?_ | refine l_ldc F 2 rfl rfl rfl rfl rfl rfl rfl ?_ | refine l_ldc F 3 rfl rfl rfl rfl rfl rfl rfl ?_ | refine l_ldc F 4 rfl rfl rfl rfl rfl rfl rfl ?_ | refine l_ldc F 5 rfl rfl rfl rfl rfl rfl rfl ?_ | refine l_ldc F 6 rfl rfl rfl rfl rfl rfl rfl ?_ | refine l_ldc F 7 rfl rfl rfl rfl rfl rfl rfl ?_ | refine l_ldc F 8 rfl rfl rfl rfl rfl rfl rfl ?_ | refine l_ldc F 9 rfl rfl rfl rfl rfl rfl rfl ?_ | refine l_lda rfl rfl rfl rfl rfl (by assumption) ?_ | refine l_ldca F 0 rfl rfl rfl rfl rfl rfl rfl ?_ | refine l_ldca F 1 rfl rfl rfl rfl rfl rfl rfl ?_ | refine l_ldca F 2 rfl rfl rfl rfl rfl rfl rfl ?_ | refine l_ldca F 3 rfl rfl rfl rfl rfl rfl rfl ?_ | refine l_ldca F 4 rfl rfl rfl rfl rfl rfl rfl ?_ | refine l_ldca F 5 rfl rfl rfl rfl rfl rfl rfl ?_ | refine l_ldca F 6 rfl rfl rfl rfl rfl rfl rfl ?_ | refine l_ldca F 7 rfl rfl rfl rfl rfl rfl rfl ?_ | refine l_ldca F 8 rfl rfl rfl rfl rfl rfl rfl ?_ | refine l_ldca F 9 rfl rfl rfl rfl rfl rfl rfl ?_ | refine l_ldo F (by assumption) rfl rfl rfl rfl rfl rfl ?_ | refine l_ldoa F (by assumption) rfl rfl rfl rfl rfl rfl ?_
        refine l_callp F rfl rfl (by kernel_rfl) rfl rfl (encode_call (Old.pure (F.old hold)) h.ok h.op (by omega)) (fun y s F _ => ?_)
        generalize hr : encR sgR t.op ars = r at F ⊢
        (try dsimp only [List.set_cons_zero, List.set_cons_succ, List.cons_append, List.nil_append, List.append_nil, pk, List.getElem?_cons_zero, List.getElem?_cons_succ] at F)
        refine l_op 0 rfl rfl rfl rfl rfl ?_
        refine l_op 2 rfl rfl rfl rfl rfl ?_
        refine l_op 2 rfl rfl rfl rfl rfl ?_
        refine l_op 0 rfl rfl rfl rfl rfl ?_
        refine l_op 0 rfl rfl rfl rfl rfl ?_
        refine l_nil (WK.nx (by assumption) ?_)
        refine SeqK.nx (by assumption) ?_
        refine k_seq (fun Q K => ?_)
        refine k_seq (fun Q K => ?_)
        refine k_lin (fun W K => ?_)
        refine l_op 0 rfl rfl rfl rfl rfl ?_
        refine l_callv rfl rfl (by kernel_rfl) rfl rfl num_call ?_
        (try dsimp only [List.set_cons_zero, List.set_cons_succ, List.cons_append, List.nil_append, List.append_nil, pk, List.getElem?_cons_zero, List.getElem?_cons_succ] at F)
        refine l_cmp rfl rfl rfl rfl ?_
        refine l_nil (WK.nx (by assumption) ?_)
        refine SeqK.nx (by assumption) ?_
        refine l_cond rfl rfl (fun hc4 => ?_) (fun hc4 => ?_)
        · first | replace hc4 := bne_iff_ne.1 ((irr_eq _).symm.trans hc4) | simp only [irr_eq, bne_iff_ne, bne_eq_false_iff_eq, ne_eq, decide_eq_true_eq, decide_eq_false_iff_not, Bool.not_eq_true', Bool.not_eq_false'] at hc4
          have hn : r = none := by
            cases r with
            | none => rfl
            | some b => exact absurd rfl hc4
          subst hn
          refine k_seq (fun Q K => ?_)
          refine k_lin (fun W K => ?_)
          refine l_op 0 rfl rfl rfl rfl rfl ?_
          first | refine l_op 2 rfl rfl rfl rfl rfl ?_ | refine l_ln rfl rfl rfl rfl ?_
          refine l_cmp rfl rfl rfl rfl ?_
          refine l_op 0 rfl rfl rfl rfl rfl ?_
          refine l_guard rfl rfl rfl (fun hc5 => ?_) (fun hc5 => ?_)
          · first | replace hc5 := eq_of_beq ((irr_eq _).symm.trans hc5) | simp only [irr_eq, beq_iff_eq, beq_eq_false_iff_ne, ne_eq, decide_eq_true_eq, decide_eq_false_iff_not] at hc5
            refine l_op 0 rfl rfl rfl rfl rfl ?_
            refine l_callv rfl rfl (by kernel_rfl) rfl rfl num_call ?_
            (try dsimp only [List.set_cons_zero, List.set_cons_succ, List.cons_append, List.nil_append, List.append_nil, pk, List.getElem?_cons_zero, List.getElem?_cons_succ] at F)
            refine l_cmp rfl rfl rfl rfl ?_
            refine l_op 2 rfl rfl rfl rfl rfl ?_
            refine l_op 0 rfl rfl rfl rfl rfl ?_
            refine l_guard rfl rfl rfl (fun hc6 => ?_) (fun hc6 => ?_)
            · first | replace hc6 := eq_of_beq ((irr_eq _).symm.trans hc6) | simp only [irr_eq, beq_iff_eq, beq_eq_false_iff_ne, ne_eq, decide_eq_true_eq, decide_eq_false_iff_not] at hc6
              refine l_callv rfl rfl (by kernel_rfl) rfl rfl (live_call _ _) ?_
              (try dsimp only [List.set_cons_zero, List.set_cons_succ, List.cons_append, List.nil_append, List.append_nil, pk, List.getElem?_cons_zero, List.getElem?_cons_succ] at F)
              refine l_op 2 rfl rfl rfl rfl rfl ?_
              refine l_op 0 rfl rfl rfl rfl rfl ?_
              refine l_nil (WK.nx (by assumption) ?_)
              refine SeqK.nx (by assumption) ?_
              refine k_ret ?_
              refine SeqK.rt (by assumption) ?_
              refine FunK.rt (by assumption) rfl ?_
              -- leaf 4
              rfl
            · first | replace hc6 := ne_of_beq_false ((irr_eq _).symm.trans hc6) | simp only [irr_eq, beq_iff_eq, beq_eq_false_iff_ne, ne_eq, decide_eq_true_eq, decide_eq_false_iff_not] at hc6
              exact absurd rfl hc6
          · first | replace hc5 := ne_of_beq_false ((irr_eq _).symm.trans hc5) | simp only [irr_eq, beq_iff_eq, beq_eq_false_iff_ne, ne_eq, decide_eq_true_eq, decide_eq_false_iff_not] at hc5
            exact absurd rfl hc5
        · first | replace hc4 := bne_eq_false_iff_eq.1 ((irr_eq _).symm.trans hc4) | simp only [irr_eq, bne_iff_ne, bne_eq_false_iff_eq, ne_eq, decide_eq_true_eq, decide_eq_false_iff_not, Bool.not_eq_true', Bool.not_eq_false'] at hc4
          obtain ⟨b, rfl⟩ : ∃ b, r = some b := by
            cases r with
            | none => exact absurd hc4 (by decide)
            | some b => exact ⟨b, rfl⟩
          obtain ⟨hbl, hbb, hk8⟩ := enc_len hr
          have hback := dec_enc (A := xs) (C := ys) sg_dom h.ok hr
          refine k_skip ?_
          refine SeqK.nx (by assumption) ?_
          refine k_seq (fun Q K => ?_)
          refine k_lin (fun W K => ?_)
          refine l_lit F rfl rfl rfl rfl (fun q47 s F => ?_)
          (try dsimp only [List.set_cons_zero, List.set_cons_succ, List.cons_append, List.nil_append, List.append_nil, pk, List.getElem?_cons_zero, List.getElem?_cons_succ] at F)
          refine l_op 0 rfl rfl rfl rfl rfl ?_
          refine l_appi (xs := []) F 2 rfl rfl rfl rfl rfl rfl rfl (F.old h1) rfl (by omega) hD (fun x49 c49 s F => ?_)
          (try dsimp only [List.set_cons_zero, List.set_cons_succ, List.cons_append, List.nil_append, List.append_nil, pk, List.getElem?_cons_zero, List.getElem?_cons_succ] at F)
          refine l_op 0 rfl rfl rfl rfl rfl ?_
          refine l_appi F 2 rfl rfl rfl rfl rfl rfl rfl (ys := b) (F.has 1 rfl) rfl (by simp only [Option.getD_some]; omega) hD (fun x51 c51 s F => ?_)
          (try dsimp only [List.set_cons_zero, List.set_cons_succ, List.cons_append, List.nil_append, List.append_nil, pk, List.getElem?_cons_zero, List.getElem?_cons_succ] at F)
          refine l_op 0 rfl rfl rfl rfl rfl ?_
          refine l_appi F 2 rfl rfl rfl rfl rfl rfl rfl (F.old h2) rfl (by simp only [Option.getD_some]; omega) hD (fun x53 c53 s F => ?_)
          (try dsimp only [List.set_cons_zero, List.set_cons_succ, List.cons_append, List.nil_append, List.append_nil, pk, List.getElem?_cons_zero, List.getElem?_cons_succ] at F)
          refine l_op 0 rfl rfl rfl rfl rfl ?_
          first | refine l_op 2 rfl rfl rfl rfl rfl ?_ | refine l_ln rfl rfl rfl rfl ?_
          rw [List.append_assoc] at F
          have hdc := decode_call (σ := s) (at_ := (xs.length : Nat)) (Old.pure (F.has 2 rfl)) (bytes_app hB1 (bytes_app hbb hB2)) (by simp only [Option.getD_some]; omega) (by omega)
          rw [hback, hx1] at hdc
          refine l_callp F rfl rfl (by kernel_rfl) rfl rfl hdc (fun y2 s F _ => ?_)
          (try dsimp only [List.set_cons_zero, List.set_cons_succ, List.cons_append, List.nil_append, List.append_nil, pk, List.getElem?_cons_zero, List.getElem?_cons_succ] at F)
          refine l_op 0 rfl rfl rfl rfl rfl ?_
          refine l_op 2 rfl rfl rfl rfl rfl ?_
          refine l_op 2 rfl rfl rfl rfl rfl ?_
          refine l_op 2 rfl rfl rfl rfl rfl ?_
          refine l_al F rfl rfl rfl rfl (fun q9 s F => ?_)
          (try dsimp only [List.set_cons_zero, List.set_cons_succ, List.cons_append, List.nil_append, List.append_nil, pk, List.getElem?_cons_zero, List.getElem?_cons_succ] at F)
          first | refine l_stc F 0 rfl rfl rfl rfl rfl rfl rfl rfl rfl hD (fun s F => ?_) | refine l_stc F 1 rfl rfl rfl rfl rfl rfl rfl rfl rfl hD (fun s F => ?_) | refine l_stc F 2 rfl rfl rfl rfl rfl rfl rfl rfl rfl hD (fun s F => ?_) | refine l_stc F 3 rfl rfl rfl rfl rfl rfl rfl rfl rfl hD (fun s F => ?_) | refine l_stc F 4 rfl rfl rfl rfl rfl rfl rfl rfl rfl hD (fun s F => ?_) | refine l_stc F 5 rfl rfl rfl rfl rfl rfl rfl rfl rfl hD (fun s F => ?_) | refine l_stc F 6 rfl rfl rfl rfl rfl rfl rfl rfl rfl hD (fun s F => ?_) | refine l_stc F 7 rfl rfl rfl rfl rfl rfl rfl rfl rfl hD (fun s F => ?_) | refine l_stc F 8 rfl rfl rfl rfl rfl rfl rfl rfl rfl hD (fun s F => ?_) | refine l_stc F 9 rfl rfl rfl rfl rfl rfl rfl rfl rfl hD (fun s F => ?_) | refine l_stca F 0 rfl rfl rfl rfl rfl rfl rfl rfl rfl rfl hD rfl (fun s F => ?_) | refine l_stca F 1 rfl rfl rfl rfl rfl rfl rfl rfl rfl rfl hD rfl (fun s F => ?_) | refine l_stca F 2 rfl rfl rfl rfl rfl rfl rfl rfl rfl rfl hD rfl (fun s F => ?_) | refine l_stca F 3 rfl rfl rfl rfl rfl rfl rfl rfl rfl rfl hD rfl (fun s F => ?_) | refine l_stca F 4 rfl rfl rfl rfl rfl rfl rfl rfl rfl rfl hD rfl (fun s F => ?_) | refine l_stca F 5 rfl rfl rfl rfl rfl rfl rfl rfl rfl rfl hD rfl (fun s F => ?_) | refine l_stca F 6 rfl rfl rfl rfl rfl rfl rfl rfl rfl rfl hD rfl (fun s F => ?_) | refine l_stca F 7 rfl rfl rfl rfl rfl rfl rfl rfl rfl rfl hD rfl (fun s F => ?_) | refine l_stca F 8 rfl rfl rfl rfl rfl rfl rfl rfl rfl rfl hD rfl (fun s F => ?_) | refine l_stca F 9 rfl rfl rfl rfl rfl rfl rfl rfl rfl rfl hD rfl (fun s F => ?_) | refine l_stoi F 0 rfl rfl rfl rfl rfl rfl rfl (by omega) hD (fun s F => ?_) | refine l_stoi F 1 rfl rfl rfl rfl rfl rfl rfl (by omega) hD (fun s F => ?_) | refine l_stoi F 2 rfl rfl rfl rfl rfl rfl rfl (by omega) hD (fun s F => ?_) | refine l_stoi F 3 rfl rfl rfl rfl rfl rfl rfl (by omega) hD (fun s F => ?_) | refine l_stoi F 4 rfl rfl rfl rfl rfl rfl rfl (by omega) hD (fun s F => ?_) | refine l_stoi F 5 rfl rfl rfl rfl rfl rfl rfl (by omega) hD (fun s F => ?_) | refine l_stoi F 6 rfl rfl rfl rfl rfl rfl rfl (by omega) hD (fun s F => ?_) | refine l_stoi F 7 rfl rfl rfl rfl rfl rfl rfl (by omega) hD (fun s F => ?_) | refine l_stoi F 8 rfl rfl rfl rfl rfl rfl rfl (by omega) hD (fun s F => ?_) | refine l_stoi F 9 rfl rfl rfl rfl rfl rfl rfl (by omega) hD (fun s F => ?_)
          (try dsimp only [List.set_cons_zero, List.set_cons_succ, List.cons_append, List.nil_append, List.append_nil, pk, List.getElem?_cons_zero, List.getElem?_cons_succ] at F)
          refine l_op 0 rfl rfl rfl rfl rfl ?_
          refine l_op 0 rfl rfl rfl rfl rfl ?_
          refine l_nil (WK.nx (by assumption) ?_)
          refine SeqK.nx (by assumption) ?_
          refine k_seq (fun Q K => ?_)
          refine k_lin (fun W K => ?_)
          first | refine l_ld0 rfl rfl rfl rfl rfl (by assumption) ?_ | refine l_ldj rfl rfl rfl rfl rfl rfl (by assumption) rfl ?_ | refine l_ldc F 0 rfl rfl rfl rfl rfl rfl rfl ?_ | refine l_ldc F 1 rfl rfl rfl rfl rfl rfl rfl ?_ | refine l_ldc F 2 rfl rfl rfl rfl rfl rfl rfl ?_ | refine l_ldc F 3 rfl rfl rfl rfl rfl rfl rfl ?_ | refine l_ldc F 4 rfl rfl rfl rfl rfl rfl rfl ?_ | refine l_ldc F 5 rfl rfl rfl rfl rfl rfl rfl ?_ | refine l_ldc F 6 rfl rfl rfl rfl rfl rfl rfl ?_ | refine l_ldc F 7 rfl rfl rfl rfl rfl rfl rfl ?_ | refine l_ldc F 8 rfl rfl rfl rfl rfl rfl rfl ?_ | refine l_ldc F 9 rfl rfl rfl rfl rfl rfl rfl ?_ | refine l_lda rfl rfl rfl rfl rfl (by assumption) ?_ | refine l_ldca F 0 rfl rfl rfl rfl rfl rfl rfl ?_ | refine l_ldca F 1 rfl rfl rfl rfl rfl rfl rfl ?_ | refine l_ldca F 2 rfl rfl rfl rfl rfl rfl rfl ?_ | refine l_ldca F 3 rfl rfl rfl rfl rfl rfl rfl ?_ | refine l_ldca F 4 rfl rfl rfl rfl rfl rfl rfl ?_ | refine l_ldca F 5 rfl rfl rfl rfl rfl rfl rfl ?_ | refine l_ldca F 6 rfl rfl rfl rfl rfl rfl rfl ?_ | refine l_ldca F 7 rfl rfl rfl rfl rfl rfl rfl ?_ | refine l_ldca F 8 rfl rfl rfl rfl rfl rfl rfl ?_ | refine l_ldca F 9 rfl rfl rfl rfl rfl rfl rfl ?_ | refine l_ldo F (by assumption) rfl rfl rfl rfl rfl rfl ?_ | refine l_ldoa F (by assumption) rfl rfl rfl rfl rfl rfl ?_
          first | refine l_ld0 rfl rfl rfl rfl rfl (by assumption) ?_ | refine l_ldj rfl rfl rfl rfl rfl rfl (by assumption) rfl ?_ | refine l_ldc F 0 rfl rfl rfl rfl rfl rfl rfl ?_ | refine l_ldc F 1 rfl rfl rfl rfl rfl rfl rfl ?_ | refine l_ldc F 2 rfl rfl rfl rfl rfl rfl rfl ?_ | refine l_ldc F 3 rfl rfl rfl rfl rfl rfl rfl ?_ | refine l_ldc F 4 rfl rfl rfl rfl rfl rfl rfl ?_ | refine l_ldc F 5 rfl rfl rfl rfl rfl rfl rfl ?_ | refine l_ldc F 6 rfl rfl rfl rfl rfl rfl rfl ?_ | refine l_ldc F 7 rfl rfl rfl rfl rfl rfl rfl ?_ | refine l_ldc F 8 rfl rfl rfl rfl rfl rfl rfl ?_ | refine l_ldc F 9 rfl rfl rfl rfl rfl rfl rfl ?_ | refine l_lda rfl rfl rfl rfl rfl (by assumption) ?_ | refine l_ldca F 0 rfl rfl rfl rfl rfl rfl rfl ?_ | refine l_ldca F 1 rfl rfl rfl rfl rfl rfl rfl ?_ | refine l_ldca F 2 rfl rfl rfl rfl rfl rfl rfl ?_ | refine l_ldca F 3 rfl rfl rfl rfl rfl rfl rfl ?_ | refine l_ldca F 4 rfl rfl rfl rfl rfl rfl rfl ?_ | refine l_ldca F 5 rfl rfl rfl rfl rfl rfl rfl ?_ | refine l_ldca F 6 rfl rfl rfl rfl rfl rfl rfl ?_ | refine l_ldca F 7 rfl rfl rfl rfl rfl rfl rfl ?_ | refine l_ldca F 8 rfl rfl rfl rfl rfl rfl rfl ?_ | refine l_ldca F 9 rfl rfl rfl rfl rfl rfl rfl ?_ | refine l_ldo F (by assumption) rfl rfl rfl rfl rfl rfl ?_ | refine l_ldoa F (by assumption) rfl rfl rfl rfl rfl rfl ?_
          refine l_callp F rfl rfl (by kernel_rfl) rfl rfl (sameI_call (Old.pure (F.has 3 rfl)) (Old.pure (F.old hold)) (by omega)) (fun _ s F _ => ?_)
          (try dsimp only [List.set_cons_zero, List.set_cons_succ, List.cons_append, List.nil_append, List.append_nil, pk, List.getElem?_cons_zero, List.getElem?_cons_succ] at F)
          refine l_op 0 rfl rfl rfl rfl rfl ?_
          refine l_guard rfl rfl rfl (fun hc7 => ?_) (fun hc7 => ?_)
          · try simp only [irr_eq, beq_iff_eq, bne_iff_ne, beq_eq_false_iff_ne, bne_eq_false_iff_eq, ne_eq, decide_eq_true_eq, decide_eq_false_iff_not, Bool.not_eq_true', Bool.not_eq_false'] at hc7
            refine l_op 0 rfl rfl rfl rfl rfl ?_
            refine l_op 0 rfl rfl rfl rfl rfl ?_
            first | refine l_op 2 rfl rfl rfl rfl rfl ?_ | refine l_ln rfl rfl rfl rfl ?_
            refine l_cmp rfl rfl rfl rfl ?_
            refine l_op 2 rfl rfl rfl rfl rfl ?_
            refine l_op 0 rfl rfl rfl rfl rfl ?_
            refine l_guard rfl rfl rfl (fun hc8 => ?_) (fun hc8 => ?_)
            · first | replace hc8 := eq_of_beq ((irr_eq _).symm.trans hc8) | simp only [irr_eq, beq_iff_eq, beq_eq_false_iff_ne, ne_eq, decide_eq_true_eq, decide_eq_false_iff_not] at hc8
              refine l_op 0 rfl rfl rfl rfl rfl ?_
              refine l_callv rfl rfl (by kernel_rfl) rfl rfl num_call ?_
              (try dsimp only [List.set_cons_zero, List.set_cons_succ, List.cons_append, List.nil_append, List.append_nil, pk, List.getElem?_cons_zero, List.getElem?_cons_succ] at F)
              refine l_cmp rfl rfl rfl rfl ?_
              refine l_op 2 rfl rfl rfl rfl rfl ?_
              refine l_op 0 rfl rfl rfl rfl rfl ?_
              refine l_guard rfl rfl rfl (fun hc9 => ?_) (fun hc9 => ?_)
              · first | replace hc9 := eq_of_beq ((irr_eq _).symm.trans hc9) | simp only [irr_eq, beq_iff_eq, beq_eq_false_iff_ne, ne_eq, decide_eq_true_eq, decide_eq_false_iff_not] at hc9
                refine l_callv rfl rfl (by kernel_rfl) rfl rfl (live_call _ _) ?_
                (try dsimp only [List.set_cons_zero, List.set_cons_succ, List.cons_append, List.nil_append, List.append_nil, pk, List.getElem?_cons_zero, List.getElem?_cons_succ] at F)
                refine l_op 2 rfl rfl rfl rfl rfl ?_
                refine l_op 0 rfl rfl rfl rfl rfl ?_
                refine l_nil (WK.nx (by assumption) ?_)
                refine SeqK.nx (by assumption) ?_
                refine k_ret ?_
                refine FunK.rt (by assumption) rfl ?_
                -- leaf 5
                rfl
              · first | replace hc9 := ne_of_beq_false ((irr_eq _).symm.trans hc9) | simp only [irr_eq, beq_iff_eq, beq_eq_false_iff_ne, ne_eq, decide_eq_true_eq, decide_eq_false_iff_not] at hc9
                exact absurd rfl hc9
            · first | replace hc8 := ne_of_beq_false ((irr_eq _).symm.trans hc8) | simp only [irr_eq, beq_iff_eq, beq_eq_false_iff_ne, ne_eq, decide_eq_true_eq, decide_eq_false_iff_not] at hc8
              exact absurd rfl hc8
          · exact absurd ((irr_eq _).symm.trans hc7) (by simp)

theorem forms_law {σ : AState} {t : Ins} {ars : List (Int × Int)} (h : OldI σ t ars) :
    SCall Try.prog E0 10 [.agg (eI t).toArray] σ (fun v _ => v = .bool true) := by
  have hold := h.old
  have hal : ars.length = t.l := hold.1.len eO_len (by decide)
  refine k_fun Try.func10 rfl (m := 92) rfl fun B hD Q K => ?_
  have F := Facts.nil E0 σ
  refine k_seq (fun Q K => ?_)
  refine k_lin (fun W K => ?_)
  refine l_bx F rfl rfl rfl rfl rfl (fun q1 s F => ?_)
  (try dsimp only [List.set_cons_zero, List.set_cons_succ, List.cons_append, List.nil_append, List.append_nil, pk, List.getElem?_cons_zero, List.getElem?_cons_succ] at F)
  refine l_op 0 rfl rfl rfl rfl rfl ?_
  refine l_nil (WK.nx (by assumption) ?_)
  refine SeqK.nx (by assumption) ?_
  refine k_seq (fun Q K => ?_)
  refine k_seq (fun Q K => ?_)
  refine k_lin (fun W K => ?_)
  refine l_op 2 rfl rfl rfl rfl rfl ?_
  first | refine l_ld0 rfl rfl rfl rfl rfl (by assumption) ?_ | refine l_ldj rfl rfl rfl rfl rfl rfl (by assumption) rfl ?_ | refine l_ldc F 0 rfl rfl rfl rfl rfl rfl rfl ?_ | refine l_ldc F 1 rfl rfl rfl rfl rfl rfl rfl ?_ | refine l_ldc F 2 rfl rfl rfl rfl rfl rfl rfl ?_ | refine l_ldc F 3 rfl rfl rfl rfl rfl rfl rfl ?_ | refine l_ldc F 4 rfl rfl rfl rfl rfl rfl rfl ?_ | refine l_ldc F 5 rfl rfl rfl rfl rfl rfl rfl ?_ | refine l_ldc F 6 rfl rfl rfl rfl rfl rfl rfl ?_ | refine l_ldc F 7 rfl rfl rfl rfl rfl rfl rfl ?_ | refine l_ldc F 8 rfl rfl rfl rfl rfl rfl rfl ?_ | refine l_ldc F 9 rfl rfl rfl rfl rfl rfl rfl ?_ | refine l_lda rfl rfl rfl rfl rfl (by assumption) ?_ | refine l_ldca F 0 rfl rfl rfl rfl rfl rfl rfl ?_ | refine l_ldca F 1 rfl rfl rfl rfl rfl rfl rfl ?_ | refine l_ldca F 2 rfl rfl rfl rfl rfl rfl rfl ?_ | refine l_ldca F 3 rfl rfl rfl rfl rfl rfl rfl ?_ | refine l_ldca F 4 rfl rfl rfl rfl rfl rfl rfl ?_ | refine l_ldca F 5 rfl rfl rfl rfl rfl rfl rfl ?_ | refine l_ldca F 6 rfl rfl rfl rfl rfl rfl rfl ?_ | refine l_ldca F 7 rfl rfl rfl rfl rfl rfl rfl ?_ | refine l_ldca F 8 rfl rfl rfl rfl rfl rfl rfl ?_ | refine l_ldca F 9 rfl rfl rfl rfl rfl rfl rfl ?_ | refine l_ldo F (by assumption) rfl rfl rfl rfl rfl rfl ?_ | refine l_ldoa F (by assumption) rfl rfl rfl rfl rfl rfl ?_
  first | refine l_op 2 rfl rfl rfl rfl rfl ?_ | refine l_ln rfl rfl rfl rfl ?_
  refine l_cmp rfl rfl rfl rfl ?_
  refine l_nil (WK.nx (by assumption) ?_)
  refine SeqK.nx (by assumption) ?_
  refine l_cond rfl rfl (fun hc1 => ?_) (fun hc1 => ?_)
  · replace hc1 := of_decide_eq_true ((irr_eq _).symm.trans hc1)
    refine k_seq (fun Q K => ?_)
    refine k_lin (fun W K => ?_)
    refine l_callv rfl rfl (by kernel_rfl) rfl rfl (live_call _ _) ?_
    (try dsimp only [List.set_cons_zero, List.set_cons_succ, List.cons_append, List.nil_append, List.append_nil, pk, List.getElem?_cons_zero, List.getElem?_cons_succ] at F)
    refine l_op 0 rfl rfl rfl rfl rfl ?_
    refine l_nil (WK.nx (by assumption) ?_)
    refine SeqK.nx (by assumption) ?_
    refine k_ret ?_
    refine SeqK.rt (by assumption) ?_
    refine FunK.rt (by assumption) rfl ?_
    -- leaf 1
    rfl
  · replace hc1 := of_decide_eq_false ((irr_eq _).symm.trans hc1)
    refine k_skip ?_
    refine SeqK.nx (by assumption) ?_
    refine k_seq (fun Q K => ?_)
    refine k_lin (fun W K => ?_)
    first | refine l_ld0 rfl rfl rfl rfl rfl (by assumption) ?_ | refine l_ldj rfl rfl rfl rfl rfl rfl (by assumption) rfl ?_ | refine l_ldc F 0 rfl rfl rfl rfl rfl rfl rfl ?_ | refine l_ldc F 1 rfl rfl rfl rfl rfl rfl rfl ?_ | refine l_ldc F 2 rfl rfl rfl rfl rfl rfl rfl ?_ | refine l_ldc F 3 rfl rfl rfl rfl rfl rfl rfl ?_ | refine l_ldc F 4 rfl rfl rfl rfl rfl rfl rfl ?_ | refine l_ldc F 5 rfl rfl rfl rfl rfl rfl rfl ?_ | refine l_ldc F 6 rfl rfl rfl rfl rfl rfl rfl ?_ | refine l_ldc F 7 rfl rfl rfl rfl rfl rfl rfl ?_ | refine l_ldc F 8 rfl rfl rfl rfl rfl rfl rfl ?_ | refine l_ldc F 9 rfl rfl rfl rfl rfl rfl rfl ?_ | refine l_lda rfl rfl rfl rfl rfl (by assumption) ?_ | refine l_ldca F 0 rfl rfl rfl rfl rfl rfl rfl ?_ | refine l_ldca F 1 rfl rfl rfl rfl rfl rfl rfl ?_ | refine l_ldca F 2 rfl rfl rfl rfl rfl rfl rfl ?_ | refine l_ldca F 3 rfl rfl rfl rfl rfl rfl rfl ?_ | refine l_ldca F 4 rfl rfl rfl rfl rfl rfl rfl ?_ | refine l_ldca F 5 rfl rfl rfl rfl rfl rfl rfl ?_ | refine l_ldca F 6 rfl rfl rfl rfl rfl rfl rfl ?_ | refine l_ldca F 7 rfl rfl rfl rfl rfl rfl rfl ?_ | refine l_ldca F 8 rfl rfl rfl rfl rfl rfl rfl ?_ | refine l_ldca F 9 rfl rfl rfl rfl rfl rfl rfl ?_ | refine l_ldo F (by assumption) rfl rfl rfl rfl rfl rfl ?_ | refine l_ldoa F (by assumption) rfl rfl rfl rfl rfl rfl ?_
    refine l_callp F rfl rfl (by kernel_rfl) rfl rfl (encode_call (Old.pure (F.old hold)) h.ok h.op (by omega)) (fun y s F _ => ?_)
    generalize hr : encR sgR t.op ars = r at F ⊢
    (try dsimp only [List.set_cons_zero, List.set_cons_succ, List.cons_append, List.nil_append, List.append_nil, pk, List.getElem?_cons_zero, List.getElem?_cons_succ] at F)
    refine l_op 0 rfl rfl rfl rfl rfl ?_
    refine l_op 2 rfl rfl rfl rfl rfl ?_
    refine l_op 2 rfl rfl rfl rfl rfl ?_
    refine l_op 0 rfl rfl rfl rfl rfl ?_
    refine l_op 0 rfl rfl rfl rfl rfl ?_
    refine l_nil (WK.nx (by assumption) ?_)
    refine SeqK.nx (by assumption) ?_
    refine k_seq (fun Q K => ?_)
    refine k_seq (fun Q K => ?_)
    refine k_lin (fun W K => ?_)
    refine l_op 0 rfl rfl rfl rfl rfl ?_
    refine l_callv rfl rfl (by kernel_rfl) rfl rfl num_call ?_
    (try dsimp only [List.set_cons_zero, List.set_cons_succ, List.cons_append, List.nil_append, List.append_nil, pk, List.getElem?_cons_zero, List.getElem?_cons_succ] at F)
    refine l_cmp rfl rfl rfl rfl ?_
    refine l_nil (WK.nx (by assumption) ?_)
    refine SeqK.nx (by assumption) ?_
    refine l_cond rfl rfl (fun hc2 => ?_) (fun hc2 => ?_)
    · first | replace hc2 := bne_iff_ne.1 ((irr_eq _).symm.trans hc2) | simp only [irr_eq, bne_iff_ne, bne_eq_false_iff_eq, ne_eq, decide_eq_true_eq, decide_eq_false_iff_not, Bool.not_eq_true', Bool.not_eq_false'] at hc2
      refine k_seq (fun Q K => ?_)
      refine k_lin (fun W K => ?_)
      refine l_callv rfl rfl (by kernel_rfl) rfl rfl (live_call _ _) ?_
      (try dsimp only [List.set_cons_zero, List.set_cons_succ, List.cons_append, List.nil_append, List.append_nil, pk, List.getElem?_cons_zero, List.getElem?_cons_succ] at F)
      refine l_op 0 rfl rfl rfl rfl rfl ?_
      refine l_nil (WK.nx (by assumption) ?_)
      refine SeqK.nx (by assumption) ?_
      refine k_ret ?_
      refine SeqK.rt (by assumption) ?_
      refine FunK.rt (by assumption) rfl ?_
      -- leaf 2
      rfl
    · first | replace hc2 := bne_eq_false_iff_eq.1 ((irr_eq _).symm.trans hc2) | simp only [irr_eq, bne_iff_ne, bne_eq_false_iff_eq, ne_eq, decide_eq_true_eq, decide_eq_false_iff_not, Bool.not_eq_true', Bool.not_eq_false'] at hc2
      obtain ⟨b, rfl⟩ : ∃ b, r = some b := by
        cases r with
        | none => exact absurd hc2 (by decide)
        | some b => exact ⟨b, rfl⟩
      obtain ⟨hbl, hbb, hk8⟩ := enc_len hr
      obtain ⟨sg, g1, g2, g3, g4⟩ := enc_some hr
      have hdom := sg_dom t.op (by rw [g1]; simp)
      have f2 := dec_form (A := []) (C := []) g1 g2 g3 h.ok (num_two (A := []) (C := restR ars ++ []) hdom)
      have f4 := dec_form (A := []) (C := []) g1 g2 g3 h.ok (num_four (A := []) (C := restR ars ++ []) (op := t.op) ⟨hdom.1, by omega⟩)
      simp only [List.nil_append, List.append_nil, List.length_nil] at f2 f4
      have hrb := bytes_rest g2 g3
      have hp2 : (putR (t.op + 32768) 2).length = 2 := rfl
      have hp4 : (putR (t.op + 3221225472) 4).length = 4 := rfl
      have hb0 : ((some b : Option (List Int)).getD []) = b := rfl
      refine k_skip ?_
      refine SeqK.nx (by assumption) ?_
      refine k_seq (fun Q K => ?_)
      refine k_lin (fun W K => ?_)
      refine l_op 0 rfl rfl rfl rfl rfl ?_
      refine l_nil (WK.nx (by assumption) ?_)
      refine SeqK.nx (by assumption) ?_
      refine k_seq (fun Q K => ?_)
      refine k_seq (fun Q K => ?_)
      refine k_lin (fun W K => ?_)
      refine l_op 2 rfl rfl rfl rfl rfl ?_
      first | refine l_ld0 rfl rfl rfl rfl rfl (by assumption) ?_ | refine l_ldj rfl rfl rfl rfl rfl rfl (by assumption) rfl ?_ | refine l_ldc F 0 rfl rfl rfl rfl rfl rfl rfl ?_ | refine l_ldc F 1 rfl rfl rfl rfl rfl rfl rfl ?_ | refine l_ldc F 2 rfl rfl rfl rfl rfl rfl rfl ?_ | refine l_ldc F 3 rfl rfl rfl rfl rfl rfl rfl ?_ | refine l_ldc F 4 rfl rfl rfl rfl rfl rfl rfl ?_ | refine l_ldc F 5 rfl rfl rfl rfl rfl rfl rfl ?_ | refine l_ldc F 6 rfl rfl rfl rfl rfl rfl rfl ?_ | refine l_ldc F 7 rfl rfl rfl rfl rfl rfl rfl ?_ | refine l_ldc F 8 rfl rfl rfl rfl rfl rfl rfl ?_ | refine l_ldc F 9 rfl rfl rfl rfl rfl rfl rfl ?_ | refine l_lda rfl rfl rfl rfl rfl (by assumption) ?_ | refine l_ldca F 0 rfl rfl rfl rfl rfl rfl rfl ?_ | refine l_ldca F 1 rfl rfl rfl rfl rfl rfl rfl ?_ | refine l_ldca F 2 rfl rfl rfl rfl rfl rfl rfl ?_ | refine l_ldca F 3 rfl rfl rfl rfl rfl rfl rfl ?_ | refine l_ldca F 4 rfl rfl rfl rfl rfl rfl rfl ?_ | refine l_ldca F 5 rfl rfl rfl rfl rfl rfl rfl ?_ | refine l_ldca F 6 rfl rfl rfl rfl rfl rfl rfl ?_ | refine l_ldca F 7 rfl rfl rfl rfl rfl rfl rfl ?_ | refine l_ldca F 8 rfl rfl rfl rfl rfl rfl rfl ?_ | refine l_ldca F 9 rfl rfl rfl rfl rfl rfl rfl ?_ | refine l_ldo F (by assumption) rfl rfl rfl rfl rfl rfl ?_ | refine l_ldoa F (by assumption) rfl rfl rfl rfl rfl rfl ?_
      refine l_cmp rfl rfl rfl rfl ?_
      refine l_nil (WK.nx (by assumption) ?_)
      refine SeqK.nx (by assumption) ?_
      refine l_cond rfl rfl (fun hc3 => ?_) (fun hc3 => ?_)
      · replace hc3 := of_decide_eq_true ((irr_eq _).symm.trans hc3)
        have hob : (opB t.op).length = 2 := by unfold opB; rw [if_neg (by omega)]; rfl
        have hgl : b.length = 2 + (restR ars).length := by rw [g4, List.length_append, hob]
        have hdr : b.drop 2 = restR ars := by rw [g4, ← hob, List.drop_left]
        refine k_lin (fun W K => ?_)
        refine l_op 0 rfl rfl rfl rfl rfl ?_
        refine l_nil (WK.nx (by assumption) ?_)
        refine SeqK.nx (by assumption) ?_
        refine k_seq (fun Q K => ?_)
        refine k_seq (fun Q K => ?_)
        refine k_lin (fun W K => ?_)
        refine l_op 0 rfl rfl rfl rfl rfl ?_
        first | refine l_op 2 rfl rfl rfl rfl rfl ?_ | refine l_ln rfl rfl rfl rfl ?_
        refine l_op 0 rfl rfl rfl rfl rfl ?_
        refine l_cmp rfl rfl rfl rfl ?_
        refine l_nil (WK.nx (by assumption) ?_)
        refine SeqK.nx (by assumption) ?_
        refine l_cond rfl rfl (fun hc4 => ?_) (fun hc4 => ?_)
        · replace hc4 := of_decide_eq_true ((irr_eq _).symm.trans hc4)
          rw [hb0] at hc4; omega
        · replace hc4 := of_decide_eq_false ((irr_eq _).symm.trans hc4)
          refine k_skip ?_
          refine SeqK.nx (by assumption) ?_
          refine k_seq (fun Q K => ?_)
          refine k_lin (fun W K => ?_)
          refine l_op 0 rfl rfl rfl rfl rfl ?_
          refine l_op 0 rfl rfl rfl rfl rfl ?_
          first
            | (refine l_sl (es := 1) (lo := .tmp 35) (l := 2) rfl rfl rfl rfl rfl rfl rfl rfl rfl (F.has 1 rfl) (by rw [hb0]; omega) ?_
               obtain ⟨xr, hxr⟩ : ∃ xr, shift y.1 (2 * 1) = xr := ⟨_, rfl⟩
               obtain ⟨cr, hcr⟩ : ∃ cr, y.2 - 2 = cr := ⟨_, rfl⟩
               have hlr : ((some b : Option (List Int)).getD []).length - 2 = (restR ars).length := by rw [hb0]; omega
               have hrest : ∀ (s : AState) (c0 : Fact) (L : List Fact), Facts E0 σ s (c0 :: own y.1 ((some b : Option (List Int)).getD []).length y.2 1 (u8l ((some b : Option (List Int)).getD [])) :: L) → Has s xr (restR ars).length cr 1 (u8l (restR ars)) := fun s c0 L F => by
                 have := (F.has 1 rfl).from8 (lo := 2) (by rw [hb0]; omega)
                 rw [hlr, hxr, hcr, hb0, hdr] at this
                 exact this
               rw [hlr, hxr, hcr])
            | (refine l_sl (es := 1) (lo := .tmp 35) (l := 1) rfl rfl rfl rfl rfl rfl rfl rfl rfl (F.has 1 rfl) (by rw [hb0]; omega) ?_
               obtain ⟨xr, hxr⟩ : ∃ xr, shift y.1 (1 * 1) = xr := ⟨_, rfl⟩
               obtain ⟨cr, hcr⟩ : ∃ cr, y.2 - 1 = cr := ⟨_, rfl⟩
               have hlr : ((some b : Option (List Int)).getD []).length - 1 = (restR ars).length := by rw [hb0]; omega
               have hrest : ∀ (s : AState) (c0 : Fact) (L : List Fact), Facts E0 σ s (c0 :: own y.1 ((some b : Option (List Int)).getD []).length y.2 1 (u8l ((some b : Option (List Int)).getD [])) :: L) → Has s xr (restR ars).length cr 1 (u8l (restR ars)) := fun s c0 L F => by
                 have := (F.has 1 rfl).from8 (lo := 1) (by rw [hb0]; omega)
                 rw [hlr, hxr, hcr, hb0, hdr] at this
                 exact this
               rw [hlr, hxr, hcr])
          refine l_op 0 rfl rfl rfl rfl rfl ?_
          refine l_nil (WK.nx (by assumption) ?_)
          refine SeqK.nx (by assumption) ?_
          refine k_seq (fun Q K => ?_)
          refine k_lin (fun W K => ?_)
          refine l_op 2 rfl rfl rfl rfl rfl ?_
          first | refine l_ld0 rfl rfl rfl rfl rfl (by assumption) ?_ | refine l_ldj rfl rfl rfl rfl rfl rfl (by assumption) rfl ?_ | refine l_ldc F 0 rfl rfl rfl rfl rfl rfl rfl ?_ | refine l_ldc F 1 rfl rfl rfl rfl rfl rfl rfl ?_ | refine l_ldc F 2 rfl rfl rfl rfl rfl rfl rfl ?_ | refine l_ldc F 3 rfl rfl rfl rfl rfl rfl rfl ?_ | refine l_ldc F 4 rfl rfl rfl rfl rfl rfl rfl ?_ | refine l_ldc F 5 rfl rfl rfl rfl rfl rfl rfl ?_ | refine l_ldc F 6 rfl rfl rfl rfl rfl rfl rfl ?_ | refine l_ldc F 7 rfl rfl rfl rfl rfl rfl rfl ?_ | refine l_ldc F 8 rfl rfl rfl rfl rfl rfl rfl ?_ | refine l_ldc F 9 rfl rfl rfl rfl rfl rfl rfl ?_ | refine l_lda rfl rfl rfl rfl rfl (by assumption) ?_ | refine l_ldca F 0 rfl rfl rfl rfl rfl rfl rfl ?_ | refine l_ldca F 1 rfl rfl rfl rfl rfl rfl rfl ?_ | refine l_ldca F 2 rfl rfl rfl rfl rfl rfl rfl ?_ | refine l_ldca F 3 rfl rfl rfl rfl rfl rfl rfl ?_ | refine l_ldca F 4 rfl rfl rfl rfl rfl rfl rfl ?_ | refine l_ldca F 5 rfl rfl rfl rfl rfl rfl rfl ?_ | refine l_ldca F 6 rfl rfl rfl rfl rfl rfl rfl ?_ | refine l_ldca F 7 rfl rfl rfl rfl rfl rfl rfl ?_ | refine l_ldca F 8 rfl rfl rfl rfl rfl rfl rfl ?_ | refine l_ldca F 9 rfl rfl rfl rfl rfl rfl rfl ?_ | refine l_ldo F (by assumption) rfl rfl rfl rfl rfl rfl ?_ | refine l_ldoa F (by assumption) rfl rfl rfl rfl rfl rfl ?_
          first | refine l_a64 rfl rfl rfl (by omega) rfl ?_ | refine l_a32 rfl rfl rfl (by omega) rfl ?_ | refine l_a8 rfl rfl rfl (by omega) rfl ?_ | refine l_au64 rfl rfl rfl (by omega) rfl ?_ | refine l_op 1 rfl rfl rfl rfl rfl ?_
          refine l_callp F rfl rfl (by kernel_rfl) rfl rfl (rput_call (x := t.op + 32768) (n := 2) ⟨by omega, by omega⟩) (fun y2 s F _ => ?_)
          (try dsimp only [List.set_cons_zero, List.set_cons_succ, List.cons_append, List.nil_append, List.append_nil, pk, List.getElem?_cons_zero, List.getElem?_cons_succ] at F)
          refine l_op 0 rfl rfl rfl rfl rfl ?_
          refine l_appi F 2 rfl rfl rfl rfl rfl rfl rfl (hrest _ _ _ F) rfl (by omega) hD (fun x43 c43 s F => ?_)
          (try dsimp only [List.set_cons_zero, List.set_cons_succ, List.cons_append, List.nil_append, List.append_nil, pk, List.getElem?_cons_zero, List.getElem?_cons_succ] at F)
          have hdc := decode_call (σ := s) (at_ := 0) (Old.pure (F.has 2 rfl)) (bytes_app (bytes_put _ _) hrb) (by omega) (by omega)
          rw [show (0 : Int) = ((0 : Nat) : Int) from rfl, f2] at hdc
          refine l_callp F rfl rfl (by kernel_rfl) rfl rfl hdc (fun y3 s F _ => ?_)
          (try dsimp only [List.set_cons_zero, List.set_cons_succ, List.cons_append, List.nil_append, List.append_nil, pk, List.getElem?_cons_zero, List.getElem?_cons_succ] at F)
          refine l_op 0 rfl rfl rfl rfl rfl ?_
          refine l_op 2 rfl rfl rfl rfl rfl ?_
          refine l_op 2 rfl rfl rfl rfl rfl ?_
          refine l_op 2 rfl rfl rfl rfl rfl ?_
          refine l_al F rfl rfl rfl rfl (fun q7 s F => ?_)
          (try dsimp only [List.set_cons_zero, List.set_cons_succ, List.cons_append, List.nil_append, List.append_nil, pk, List.getElem?_cons_zero, List.getElem?_cons_succ] at F)
          first | refine l_stc F 0 rfl rfl rfl rfl rfl rfl rfl rfl rfl hD (fun s F => ?_) | refine l_stc F 1 rfl rfl rfl rfl rfl rfl rfl rfl rfl hD (fun s F => ?_) | refine l_stc F 2 rfl rfl rfl rfl rfl rfl rfl rfl rfl hD (fun s F => ?_) | refine l_stc F 3 rfl rfl rfl rfl rfl rfl rfl rfl rfl hD (fun s F => ?_) | refine l_stc F 4 rfl rfl rfl rfl rfl rfl rfl rfl rfl hD (fun s F => ?_) | refine l_stc F 5 rfl rfl rfl rfl rfl rfl rfl rfl rfl hD (fun s F => ?_) | refine l_stc F 6 rfl rfl rfl rfl rfl rfl rfl rfl rfl hD (fun s F => ?_) | refine l_stc F 7 rfl rfl rfl rfl rfl rfl rfl rfl rfl hD (fun s F => ?_) | refine l_stc F 8 rfl rfl rfl rfl rfl rfl rfl rfl rfl hD (fun s F => ?_) | refine l_stc F 9 rfl rfl rfl rfl rfl rfl rfl rfl rfl hD (fun s F => ?_) | refine l_stca F 0 rfl rfl rfl rfl rfl rfl rfl rfl rfl rfl hD rfl (fun s F => ?_) | refine l_stca F 1 rfl rfl rfl rfl rfl rfl rfl rfl rfl rfl hD rfl (fun s F => ?_) | refine l_stca F 2 rfl rfl rfl rfl rfl rfl rfl rfl rfl rfl hD rfl (fun s F => ?_) | refine l_stca F 3 rfl rfl rfl rfl rfl rfl rfl rfl rfl rfl hD rfl (fun s F => ?_) | refine l_stca F 4 rfl rfl rfl rfl rfl rfl rfl rfl rfl rfl hD rfl (fun s F => ?_) | refine l_stca F 5 rfl rfl rfl rfl rfl rfl rfl rfl rfl rfl hD rfl (fun s F => ?_) | refine l_stca F 6 rfl rfl rfl rfl rfl rfl rfl rfl rfl rfl hD rfl (fun s F => ?_) | refine l_stca F 7 rfl rfl rfl rfl rfl rfl rfl rfl rfl rfl hD rfl (fun s F => ?_) | refine l_stca F 8 rfl rfl rfl rfl rfl rfl rfl rfl rfl rfl hD rfl (fun s F => ?_) | refine l_stca F 9 rfl rfl rfl rfl rfl rfl rfl rfl rfl rfl hD rfl (fun s F => ?_) | refine l_stoi F 0 rfl rfl rfl rfl rfl rfl rfl (by omega) hD (fun s F => ?_) | refine l_stoi F 1 rfl rfl rfl rfl rfl rfl rfl (by omega) hD (fun s F => ?_) | refine l_stoi F 2 rfl rfl rfl rfl rfl rfl rfl (by omega) hD (fun s F => ?_) | refine l_stoi F 3 rfl rfl rfl rfl rfl rfl rfl (by omega) hD (fun s F => ?_) | refine l_stoi F 4 rfl rfl rfl rfl rfl rfl rfl (by omega) hD (fun s F => ?_) | refine l_stoi F 5 rfl rfl rfl rfl rfl rfl rfl (by omega) hD (fun s F => ?_) | refine l_stoi F 6 rfl rfl rfl rfl rfl rfl rfl (by omega) hD (fun s F => ?_) | refine l_stoi F 7 rfl rfl rfl rfl rfl rfl rfl (by omega) hD (fun s F => ?_) | refine l_stoi F 8 rfl rfl rfl rfl rfl rfl rfl (by omega) hD (fun s F => ?_) | refine l_stoi F 9 rfl rfl rfl rfl rfl rfl rfl (by omega) hD (fun s F => ?_)
          (try dsimp only [List.set_cons_zero, List.set_cons_succ, List.cons_append, List.nil_append, List.append_nil, pk, List.getElem?_cons_zero, List.getElem?_cons_succ] at F)
          refine l_op 0 rfl rfl rfl rfl rfl ?_
          refine l_op 0 rfl rfl rfl rfl rfl ?_
          refine l_nil (WK.nx (by assumption) ?_)
          refine SeqK.nx (by assumption) ?_
          refine k_seq (fun Q K => ?_)
          refine k_lin (fun W K => ?_)
          refine l_op 2 rfl rfl rfl rfl rfl ?_
          first | refine l_ld0 rfl rfl rfl rfl rfl (by assumption) ?_ | refine l_ldj rfl rfl rfl rfl rfl rfl (by assumption) rfl ?_ | refine l_ldc F 0 rfl rfl rfl rfl rfl rfl rfl ?_ | refine l_ldc F 1 rfl rfl rfl rfl rfl rfl rfl ?_ | refine l_ldc F 2 rfl rfl rfl rfl rfl rfl rfl ?_ | refine l_ldc F 3 rfl rfl rfl rfl rfl rfl rfl ?_ | refine l_ldc F 4 rfl rfl rfl rfl rfl rfl rfl ?_ | refine l_ldc F 5 rfl rfl rfl rfl rfl rfl rfl ?_ | refine l_ldc F 6 rfl rfl rfl rfl rfl rfl rfl ?_ | refine l_ldc F 7 rfl rfl rfl rfl rfl rfl rfl ?_ | refine l_ldc F 8 rfl rfl rfl rfl rfl rfl rfl ?_ | refine l_ldc F 9 rfl rfl rfl rfl rfl rfl rfl ?_ | refine l_lda rfl rfl rfl rfl rfl (by assumption) ?_ | refine l_ldca F 0 rfl rfl rfl rfl rfl rfl rfl ?_ | refine l_ldca F 1 rfl rfl rfl rfl rfl rfl rfl ?_ | refine l_ldca F 2 rfl rfl rfl rfl rfl rfl rfl ?_ | refine l_ldca F 3 rfl rfl rfl rfl rfl rfl rfl ?_ | refine l_ldca F 4 rfl rfl rfl rfl rfl rfl rfl ?_ | refine l_ldca F 5 rfl rfl rfl rfl rfl rfl rfl ?_ | refine l_ldca F 6 rfl rfl rfl rfl rfl rfl rfl ?_ | refine l_ldca F 7 rfl rfl rfl rfl rfl rfl rfl ?_ | refine l_ldca F 8 rfl rfl rfl rfl rfl rfl rfl ?_ | refine l_ldca F 9 rfl rfl rfl rfl rfl rfl rfl ?_ | refine l_ldo F (by assumption) rfl rfl rfl rfl rfl rfl ?_ | refine l_ldoa F (by assumption) rfl rfl rfl rfl rfl rfl ?_
          first | refine l_a64 rfl rfl rfl (by omega) rfl ?_ | refine l_a32 rfl rfl rfl (by omega) rfl ?_ | refine l_a8 rfl rfl rfl (by omega) rfl ?_ | refine l_au64 rfl rfl rfl (by omega) rfl ?_ | refine l_op 1 rfl rfl rfl rfl rfl ?_
          refine l_callp F rfl rfl (by kernel_rfl) rfl rfl (rput_call (x := t.op + 3221225472) (n := 4) ⟨by omega, by omega⟩) (fun y4 s F _ => ?_)
          (try dsimp only [List.set_cons_zero, List.set_cons_succ, List.cons_append, List.nil_append, List.append_nil, pk, List.getElem?_cons_zero, List.getElem?_cons_succ] at F)
          refine l_op 0 rfl rfl rfl rfl rfl ?_
          refine l_appi F 5 rfl rfl rfl rfl rfl rfl rfl (hrest _ _ _ F) rfl (by omega) hD (fun x54 c54 s F => ?_)
          (try dsimp only [List.set_cons_zero, List.set_cons_succ, List.cons_append, List.nil_append, List.append_nil, pk, List.getElem?_cons_zero, List.getElem?_cons_succ] at F)
          have hdc := decode_call (σ := s) (at_ := 0) (Old.pure (F.has 5 rfl)) (bytes_app (bytes_put _ _) hrb) (by omega) (by omega)
          rw [show (0 : Int) = ((0 : Nat) : Int) from rfl, f4] at hdc
          refine l_callp F rfl rfl (by kernel_rfl) rfl rfl hdc (fun y5 s F _ => ?_)
          (try dsimp only [List.set_cons_zero, List.set_cons_succ, List.cons_append, List.nil_append, List.append_nil, pk, List.getElem?_cons_zero, List.getElem?_cons_succ] at F)
          refine l_op 0 rfl rfl rfl rfl rfl ?_
          refine l_op 2 rfl rfl rfl rfl rfl ?_
          refine l_op 2 rfl rfl rfl rfl rfl ?_
          refine l_op 2 rfl rfl rfl rfl rfl ?_
          refine l_al F rfl rfl rfl rfl (fun q10 s F => ?_)
          (try dsimp only [List.set_cons_zero, List.set_cons_succ, List.cons_append, List.nil_append, List.append_nil, pk, List.getElem?_cons_zero, List.getElem?_cons_succ] at F)
          first | refine l_stc F 0 rfl rfl rfl rfl rfl rfl rfl rfl rfl hD (fun s F => ?_) | refine l_stc F 1 rfl rfl rfl rfl rfl rfl rfl rfl rfl hD (fun s F => ?_) | refine l_stc F 2 rfl rfl rfl rfl rfl rfl rfl rfl rfl hD (fun s F => ?_) | refine l_stc F 3 rfl rfl rfl rfl rfl rfl rfl rfl rfl hD (fun s F => ?_) | refine l_stc F 4 rfl rfl rfl rfl rfl rfl rfl rfl rfl hD (fun s F => ?_) | refine l_stc F 5 rfl rfl rfl rfl rfl rfl rfl rfl rfl hD (fun s F => ?_) | refine l_stc F 6 rfl rfl rfl rfl rfl rfl rfl rfl rfl hD (fun s F => ?_) | refine l_stc F 7 rfl rfl rfl rfl rfl rfl rfl rfl rfl hD (fun s F => ?_) | refine l_stc F 8 rfl rfl rfl rfl rfl rfl rfl rfl rfl hD (fun s F => ?_) | refine l_stc F 9 rfl rfl rfl rfl rfl rfl rfl rfl rfl hD (fun s F => ?_) | refine l_stca F 0 rfl rfl rfl rfl rfl rfl rfl rfl rfl rfl hD rfl (fun s F => ?_) | refine l_stca F 1 rfl rfl rfl rfl rfl rfl rfl rfl rfl rfl hD rfl (fun s F => ?_) | refine l_stca F 2 rfl rfl rfl rfl rfl rfl rfl rfl rfl rfl hD rfl (fun s F => ?_) | refine l_stca F 3 rfl rfl rfl rfl rfl rfl rfl rfl rfl rfl hD rfl (fun s F => ?_) | refine l_stca F 4 rfl rfl rfl rfl rfl rfl rfl rfl rfl rfl hD rfl (fun s F => ?_) | refine l_stca F 5 rfl rfl rfl rfl rfl rfl rfl rfl rfl rfl hD rfl (fun s F => ?_) | refine l_stca F 6 rfl rfl rfl rfl rfl rfl rfl rfl rfl rfl hD rfl (fun s F => ?_) | refine l_stca F 7 rfl rfl rfl rfl rfl rfl rfl rfl rfl rfl hD rfl (fun s F => ?_) | refine l_stca F 8 rfl rfl rfl rfl rfl rfl rfl rfl rfl rfl hD rfl (fun s F => ?_) | refine l_stca F 9 rfl rfl rfl rfl rfl rfl rfl rfl rfl rfl hD rfl (fun s F => ?_) | refine l_stoi F 0 rfl rfl rfl rfl rfl rfl rfl (by omega) hD (fun s F => ?_) | refine l_stoi F 1 rfl rfl rfl rfl rfl rfl rfl (by omega) hD (fun s F => ?_) | refine l_stoi F 2 rfl rfl rfl rfl rfl rfl rfl (by omega) hD (fun s F => ?_) | refine l_stoi F 3 rfl rfl rfl rfl rfl rfl rfl (by omega) hD (fun s F => ?_) | refine l_stoi F 4 rfl rfl rfl rfl rfl rfl rfl (by omega) hD (fun s F => ?_) | refine l_stoi F 5 rfl rfl rfl rfl rfl rfl rfl (by omega) hD (fun s F => ?_) | refine l_stoi F 6 rfl rfl rfl rfl rfl rfl rfl (by omega) hD (fun s F => ?_) | refine l_stoi F 7 rfl rfl rfl rfl rfl rfl rfl (by omega) hD (fun s F => ?_) | refine l_stoi F 8 rfl rfl rfl rfl rfl rfl rfl (by omega) hD (fun s F => ?_) | refine l_stoi F 9 rfl rfl rfl rfl rfl rfl rfl (by omega) hD (fun s F => ?_)
          (try dsimp only [List.set_cons_zero, List.set_cons_succ, List.cons_append, List.nil_append, List.append_nil, pk, List.getElem?_cons_zero, List.getElem?_cons_succ] at F)
          refine l_op 0 rfl rfl rfl rfl rfl ?_
          refine l_op 0 rfl rfl rfl rfl rfl ?_
          refine l_nil (WK.nx (by assumption) ?_)
          refine SeqK.nx (by assumption) ?_
          refine k_seq (fun Q K => ?_)
          refine k_lin (fun W K => ?_)
          first | refine l_ld0 rfl rfl rfl rfl rfl (by assumption) ?_ | refine l_ldj rfl rfl rfl rfl rfl rfl (by assumption) rfl ?_ | refine l_ldc F 0 rfl rfl rfl rfl rfl rfl rfl ?_ | refine l_ldc F 1 rfl rfl rfl rfl rfl rfl rfl ?_ | refine l_ldc F 2 rfl rfl rfl rfl rfl rfl rfl ?_ | refine l_ldc F 3 rfl rfl rfl rfl rfl rfl rfl ?_ | refine l_ldc F 4 rfl rfl rfl rfl rfl rfl rfl ?_ | refine l_ldc F 5 rfl rfl rfl rfl rfl rfl rfl ?_ | refine l_ldc F 6 rfl rfl rfl rfl rfl rfl rfl ?_ | refine l_ldc F 7 rfl rfl rfl rfl rfl rfl rfl ?_ | refine l_ldc F 8 rfl rfl rfl rfl rfl rfl rfl ?_ | refine l_ldc F 9 rfl rfl rfl rfl rfl rfl rfl ?_ | refine l_lda rfl rfl rfl rfl rfl (by assumption) ?_ | refine l_ldca F 0 rfl rfl rfl rfl rfl rfl rfl ?_ | refine l_ldca F 1 rfl rfl rfl rfl rfl rfl rfl ?_ | refine l_ldca F 2 rfl rfl rfl rfl rfl rfl rfl ?_ | refine l_ldca F 3 rfl rfl rfl rfl rfl rfl rfl ?_ | refine l_ldca F 4 rfl rfl rfl rfl rfl rfl rfl ?_ | refine l_ldca F 5 rfl rfl rfl rfl rfl rfl rfl ?_ | refine l_ldca F 6 rfl rfl rfl rfl rfl rfl rfl ?_ | refine l_ldca F 7 rfl rfl rfl rfl rfl rfl rfl ?_ | refine l_ldca F 8 rfl rfl rfl rfl rfl rfl rfl ?_ | refine l_ldca F 9 rfl rfl rfl rfl rfl rfl rfl ?_ | refine l_ldo F (by assumption) rfl rfl rfl rfl rfl rfl ?_ | refine l_ldoa F (by assumption) rfl rfl rfl rfl rfl rfl ?_
          first | refine l_ld0 rfl rfl rfl rfl rfl (by assumption) ?_ | refine l_ldj rfl rfl rfl rfl rfl rfl (by assumption) rfl ?_ | refine l_ldc F 0 rfl rfl rfl rfl rfl rfl rfl ?_ | refine l_ldc F 1 rfl rfl rfl rfl rfl rfl rfl ?_ | refine l_ldc F 2 rfl rfl rfl rfl rfl rfl rfl ?_ | refine l_ldc F 3 rfl rfl rfl rfl rfl rfl rfl ?_ | refine l_ldc F 4 rfl rfl rfl rfl rfl rfl rfl ?_ | refine l_ldc F 5 rfl rfl rfl rfl rfl rfl rfl ?_ | refine l_ldc F 6 rfl rfl rfl rfl rfl rfl rfl ?_ | refine l_ldc F 7 rfl rfl rfl rfl rfl rfl rfl ?_ | refine l_ldc F 8 rfl rfl rfl rfl rfl rfl rfl ?_ | refine l_ldc F 9 rfl rfl rfl rfl rfl rfl rfl ?_ | refine l_lda rfl rfl rfl rfl rfl (by assumption) ?_ | refine l_ldca F 0 rfl rfl rfl rfl rfl rfl rfl ?_ | refine l_ldca F 1 rfl rfl rfl rfl rfl rfl rfl ?_ | refine l_ldca F 2 rfl rfl rfl rfl rfl rfl rfl ?_ | refine l_ldca F 3 rfl rfl rfl rfl rfl rfl rfl ?_ | refine l_ldca F 4 rfl rfl rfl rfl rfl rfl rfl ?_ | refine l_ldca F 5 rfl rfl rfl rfl rfl rfl rfl ?_ | refine l_ldca F 6 rfl rfl rfl rfl rfl rfl rfl ?_ | refine l_ldca F 7 rfl rfl rfl rfl rfl rfl rfl ?_ | refine l_ldca F 8 rfl rfl rfl rfl rfl rfl rfl ?_ | refine l_ldca F 9 rfl rfl rfl rfl rfl rfl rfl ?_ | refine l_ldo F (by assumption) rfl rfl rfl rfl rfl rfl ?_ | refine l_ldoa F (by assumption) rfl rfl rfl rfl rfl rfl ?_
          refine l_callp F rfl rfl (by kernel_rfl) rfl rfl (sameI_call (Old.pure (F.has 3 rfl)) (Old.pure (F.old hold)) (by omega)) (fun _ s F _ => ?_)
          (try dsimp only [List.set_cons_zero, List.set_cons_succ, List.cons_append, List.nil_append, List.append_nil, pk, List.getElem?_cons_zero, List.getElem?_cons_succ] at F)
          refine l_op 0 rfl rfl rfl rfl rfl ?_
          refine l_guard rfl rfl rfl (fun hc5 => ?_) (fun hc5 => ?_)
          · try simp only [irr_eq, beq_iff_eq, bne_iff_ne, beq_eq_false_iff_ne, bne_eq_false_iff_eq, ne_eq, decide_eq_true_eq, decide_eq_false_iff_not, Bool.not_eq_true', Bool.not_eq_false'] at hc5
            first | refine l_ld0 rfl rfl rfl rfl rfl (by assumption) ?_ | refine l_ldj rfl rfl rfl rfl rfl rfl (by assumption) rfl ?_ | refine l_ldc F 0 rfl rfl rfl rfl rfl rfl rfl ?_ | refine l_ldc F 1 rfl rfl rfl rfl rfl rfl rfl ?_ | refine l_ldc F 2 rfl rfl rfl rfl rfl rfl rfl ?_ | refine l_ldc F 3 rfl rfl rfl rfl rfl rfl rfl ?_ | refine l_ldc F 4 rfl rfl rfl rfl rfl rfl rfl ?_ | refine l_ldc F 5 rfl rfl rfl rfl rfl rfl rfl ?_ | refine l_ldc F 6 rfl rfl rfl rfl rfl rfl rfl ?_ | refine l_ldc F 7 rfl rfl rfl rfl rfl rfl rfl ?_ | refine l_ldc F 8 rfl rfl rfl rfl rfl rfl rfl ?_ | refine l_ldc F 9 rfl rfl rfl rfl rfl rfl rfl ?_ | refine l_lda rfl rfl rfl rfl rfl (by assumption) ?_ | refine l_ldca F 0 rfl rfl rfl rfl rfl rfl rfl ?_ | refine l_ldca F 1 rfl rfl rfl rfl rfl rfl rfl ?_ | refine l_ldca F 2 rfl rfl rfl rfl rfl rfl rfl ?_ | refine l_ldca F 3 rfl rfl rfl rfl rfl rfl rfl ?_ | refine l_ldca F 4 rfl rfl rfl rfl rfl rfl rfl ?_ | refine l_ldca F 5 rfl rfl rfl rfl rfl rfl rfl ?_ | refine l_ldca F 6 rfl rfl rfl rfl rfl rfl rfl ?_ | refine l_ldca F 7 rfl rfl rfl rfl rfl rfl rfl ?_ | refine l_ldca F 8 rfl rfl rfl rfl rfl rfl rfl ?_ | refine l_ldca F 9 rfl rfl rfl rfl rfl rfl rfl ?_ | refine l_ldo F (by assumption) rfl rfl rfl rfl rfl rfl ?_ | refine l_ldoa F (by assumption) rfl rfl rfl rfl rfl rfl ?_
            first | refine l_ld0 rfl rfl rfl rfl rfl (by assumption) ?_ | refine l_ldj rfl rfl rfl rfl rfl rfl (by assumption) rfl ?_ | refine l_ldc F 0 rfl rfl rfl rfl rfl rfl rfl ?_ | refine l_ldc F 1 rfl rfl rfl rfl rfl rfl rfl ?_ | refine l_ldc F 2 rfl rfl rfl rfl rfl rfl rfl ?_ | refine l_ldc F 3 rfl rfl rfl rfl rfl rfl rfl ?_ | refine l_ldc F 4 rfl rfl rfl rfl rfl rfl rfl ?_ | refine l_ldc F 5 rfl rfl rfl rfl rfl rfl rfl ?_ | refine l_ldc F 6 rfl rfl rfl rfl rfl rfl rfl ?_ | refine l_ldc F 7 rfl rfl rfl rfl rfl rfl rfl ?_ | refine l_ldc F 8 rfl rfl rfl rfl rfl rfl rfl ?_ | refine l_ldc F 9 rfl rfl rfl rfl rfl rfl rfl ?_ | refine l_lda rfl rfl rfl rfl rfl (by assumption) ?_ | refine l_ldca F 0 rfl rfl rfl rfl rfl rfl rfl ?_ | refine l_ldca F 1 rfl rfl rfl rfl rfl rfl rfl ?_ | refine l_ldca F 2 rfl rfl rfl rfl rfl rfl rfl ?_ | refine l_ldca F 3 rfl rfl rfl rfl rfl rfl rfl ?_ | refine l_ldca F 4 rfl rfl rfl rfl rfl rfl rfl ?_ | refine l_ldca F 5 rfl rfl rfl rfl rfl rfl rfl ?_ | refine l_ldca F 6 rfl rfl rfl rfl rfl rfl rfl ?_ | refine l_ldca F 7 rfl rfl rfl rfl rfl rfl rfl ?_ | refine l_ldca F 8 rfl rfl rfl rfl rfl rfl rfl ?_ | refine l_ldca F 9 rfl rfl rfl rfl rfl rfl rfl ?_ | refine l_ldo F (by assumption) rfl rfl rfl rfl rfl rfl ?_ | refine l_ldoa F (by assumption) rfl rfl rfl rfl rfl rfl ?_
            refine l_callp F rfl rfl (by kernel_rfl) rfl rfl (sameI_call (Old.pure (F.has 6 rfl)) (Old.pure (F.old hold)) (by omega)) (fun _ s F _ => ?_)
            (try dsimp only [List.set_cons_zero, List.set_cons_succ, List.cons_append, List.nil_append, List.append_nil, pk, List.getElem?_cons_zero, List.getElem?_cons_succ] at F)
            refine l_op 2 rfl rfl rfl rfl rfl ?_
            refine l_op 0 rfl rfl rfl rfl rfl ?_
            refine l_guard rfl rfl rfl (fun hc6 => ?_) (fun hc6 => ?_)
            · try simp only [irr_eq, beq_iff_eq, bne_iff_ne, beq_eq_false_iff_ne, bne_eq_false_iff_eq, ne_eq, decide_eq_true_eq, decide_eq_false_iff_not, Bool.not_eq_true', Bool.not_eq_false'] at hc6
              refine l_op 0 rfl rfl rfl rfl rfl ?_
              refine l_op 0 rfl rfl rfl rfl rfl ?_
              first | refine l_op 2 rfl rfl rfl rfl rfl ?_ | refine l_ln rfl rfl rfl rfl ?_
              first | refine l_a64 rfl rfl rfl (by omega) rfl ?_ | refine l_a32 rfl rfl rfl (by omega) rfl ?_ | refine l_a8 rfl rfl rfl (by omega) rfl ?_ | refine l_au64 rfl rfl rfl (by omega) rfl ?_ | refine l_op 1 rfl rfl rfl rfl rfl ?_
              refine l_cmp rfl rfl rfl rfl ?_
              refine l_op 2 rfl rfl rfl rfl rfl ?_
              refine l_op 0 rfl rfl rfl rfl rfl ?_
              refine l_guard rfl rfl rfl (fun hc7 => ?_) (fun hc7 => ?_)
              · first | replace hc7 := eq_of_beq ((irr_eq _).symm.trans hc7) | simp only [irr_eq, beq_iff_eq, beq_eq_false_iff_ne, ne_eq, decide_eq_true_eq, decide_eq_false_iff_not] at hc7
                refine l_op 0 rfl rfl rfl rfl rfl ?_
                refine l_op 0 rfl rfl rfl rfl rfl ?_
                first | refine l_op 2 rfl rfl rfl rfl rfl ?_ | refine l_ln rfl rfl rfl rfl ?_
                first | refine l_a64 rfl rfl rfl (by omega) rfl ?_ | refine l_a32 rfl rfl rfl (by omega) rfl ?_ | refine l_a8 rfl rfl rfl (by omega) rfl ?_ | refine l_au64 rfl rfl rfl (by omega) rfl ?_ | refine l_op 1 rfl rfl rfl rfl rfl ?_
                refine l_cmp rfl rfl rfl rfl ?_
                refine l_op 2 rfl rfl rfl rfl rfl ?_
                refine l_op 0 rfl rfl rfl rfl rfl ?_
                refine l_guard rfl rfl rfl (fun hc8 => ?_) (fun hc8 => ?_)
                · first | replace hc8 := eq_of_beq ((irr_eq _).symm.trans hc8) | simp only [irr_eq, beq_iff_eq, beq_eq_false_iff_ne, ne_eq, decide_eq_true_eq, decide_eq_false_iff_not] at hc8
                  refine l_op 0 rfl rfl rfl rfl rfl ?_
                  refine l_callv rfl rfl (by kernel_rfl) rfl rfl num_call ?_
                  (try dsimp only [List.set_cons_zero, List.set_cons_succ, List.cons_append, List.nil_append, List.append_nil, pk, List.getElem?_cons_zero, List.getElem?_cons_succ] at F)
                  refine l_op 0 rfl rfl rfl rfl rfl ?_
                  refine l_callv rfl rfl (by kernel_rfl) rfl rfl num_call ?_
                  (try dsimp only [List.set_cons_zero, List.set_cons_succ, List.cons_append, List.nil_append, List.append_nil, pk, List.getElem?_cons_zero, List.getElem?_cons_succ] at F)
                  first | refine l_a64 rfl rfl rfl (by omega) rfl ?_ | refine l_a32 rfl rfl rfl (by omega) rfl ?_ | refine l_a8 rfl rfl rfl (by omega) rfl ?_ | refine l_au64 rfl rfl rfl (by omega) rfl ?_ | refine l_op 1 rfl rfl rfl rfl rfl ?_
                  refine l_cmp rfl rfl rfl rfl ?_
                  refine l_op 2 rfl rfl rfl rfl rfl ?_
                  refine l_op 0 rfl rfl rfl rfl rfl ?_
                  refine l_guard rfl rfl rfl (fun hc9 => ?_) (fun hc9 => ?_)
                  · first | replace hc9 := eq_of_beq ((irr_eq _).symm.trans hc9) | simp only [irr_eq, beq_iff_eq, beq_eq_false_iff_ne, ne_eq, decide_eq_true_eq, decide_eq_false_iff_not] at hc9
                    refine l_callv rfl rfl (by kernel_rfl) rfl rfl (live_call _ _) ?_
                    (try dsimp only [List.set_cons_zero, List.set_cons_succ, List.cons_append, List.nil_append, List.append_nil, pk, List.getElem?_cons_zero, List.getElem?_cons_succ] at F)
                    refine l_op 2 rfl rfl rfl rfl rfl ?_
                    refine l_op 0 rfl rfl rfl rfl rfl ?_
                    refine l_nil (WK.nx (by assumption) ?_)
                    refine SeqK.nx (by assumption) ?_
                    refine k_ret ?_
                    refine FunK.rt (by assumption) rfl ?_
                    -- leaf 3
                    rfl
                  · first | replace hc9 := ne_of_beq_false ((irr_eq _).symm.trans hc9) | simp only [irr_eq, beq_iff_eq, beq_eq_false_iff_ne, ne_eq, decide_eq_true_eq, decide_eq_false_iff_not] at hc9
                    exact absurd rfl hc9
                · first | replace hc8 := ne_of_beq_false ((irr_eq _).symm.trans hc8) | simp only [irr_eq, beq_iff_eq, beq_eq_false_iff_ne, ne_eq, decide_eq_true_eq, decide_eq_false_iff_not] at hc8
                  exfalso; dsimp only at hc8; (try simp only [Option.getD_some] at hc8); omega
              · first | replace hc7 := ne_of_beq_false ((irr_eq _).symm.trans hc7) | simp only [irr_eq, beq_iff_eq, beq_eq_false_iff_ne, ne_eq, decide_eq_true_eq, decide_eq_false_iff_not] at hc7
                exfalso; dsimp only at hc7; (try simp only [Option.getD_some] at hc7); omega
            · exact absurd ((irr_eq _).symm.trans hc6) (by simp)
          · exact absurd ((irr_eq _).symm.trans hc5) (by simp)
      · replace hc3 := of_decide_eq_false ((irr_eq _).symm.trans hc3)
        have hob : (opB t.op).length = 1 := by unfold opB; rw [if_pos (by omega)]; rfl
        have hgl : b.length = 1 + (restR ars).length := by rw [g4, List.length_append, hob]
        have hdr : b.drop 1 = restR ars := by rw [g4, ← hob, List.drop_left]
        refine k_skip ?_
        refine SeqK.nx (by assumption) ?_
        refine k_seq (fun Q K => ?_)
        refine k_seq (fun Q K => ?_)
        refine k_lin (fun W K => ?_)
        refine l_op 0 rfl rfl rfl rfl rfl ?_
        first | refine l_op 2 rfl rfl rfl rfl rfl ?_ | refine l_ln rfl rfl rfl rfl ?_
        refine l_op 0 rfl rfl rfl rfl rfl ?_
        refine l_cmp rfl rfl rfl rfl ?_
        refine l_nil (WK.nx (by assumption) ?_)
        refine SeqK.nx (by assumption) ?_
        refine l_cond rfl rfl (fun hc10 => ?_) (fun hc10 => ?_)
        · replace hc10 := of_decide_eq_true ((irr_eq _).symm.trans hc10)
          rw [hb0] at hc10; omega
        · replace hc10 := of_decide_eq_false ((irr_eq _).symm.trans hc10)
          refine k_skip ?_
          refine SeqK.nx (by assumption) ?_
          refine k_seq (fun Q K => ?_)
          refine k_lin (fun W K => ?_)
          refine l_op 0 rfl rfl rfl rfl rfl ?_
          refine l_op 0 rfl rfl rfl rfl rfl ?_
          first
            | (refine l_sl (es := 1) (lo := .tmp 35) (l := 2) rfl rfl rfl rfl rfl rfl rfl rfl rfl (F.has 1 rfl) (by rw [hb0]; omega) ?_
               obtain ⟨xr, hxr⟩ : ∃ xr, shift y.1 (2 * 1) = xr := ⟨_, rfl⟩
               obtain ⟨cr, hcr⟩ : ∃ cr, y.2 - 2 = cr := ⟨_, rfl⟩
               have hlr : ((some b : Option (List Int)).getD []).length - 2 = (restR ars).length := by rw [hb0]; omega
               have hrest : ∀ (s : AState) (c0 : Fact) (L : List Fact), Facts E0 σ s (c0 :: own y.1 ((some b : Option (List Int)).getD []).length y.2 1 (u8l ((some b : Option (List Int)).getD [])) :: L) → Has s xr (restR ars).length cr 1 (u8l (restR ars)) := fun s c0 L F => by
                 have := (F.has 1 rfl).from8 (lo := 2) (by rw [hb0]; omega)
                 rw [hlr, hxr, hcr, hb0, hdr] at this
                 exact this
               rw [hlr, hxr, hcr])
            | (refine l_sl (es := 1) (lo := .tmp 35) (l := 1) rfl rfl rfl rfl rfl rfl rfl rfl rfl (F.has 1 rfl) (by rw [hb0]; omega) ?_
               obtain ⟨xr, hxr⟩ : ∃ xr, shift y.1 (1 * 1) = xr := ⟨_, rfl⟩
               obtain ⟨cr, hcr⟩ : ∃ cr, y.2 - 1 = cr := ⟨_, rfl⟩
               have hlr : ((some b : Option (List Int)).getD []).length - 1 = (restR ars).length := by rw [hb0]; omega
               have hrest : ∀ (s : AState) (c0 : Fact) (L : List Fact), Facts E0 σ s (c0 :: own y.1 ((some b : Option (List Int)).getD []).length y.2 1 (u8l ((some b : Option (List Int)).getD [])) :: L) → Has s xr (restR ars).length cr 1 (u8l (restR ars)) := fun s c0 L F => by
                 have := (F.has 1 rfl).from8 (lo := 1) (by rw [hb0]; omega)
                 rw [hlr, hxr, hcr, hb0, hdr] at this
                 exact this
               rw [hlr, hxr, hcr])
          refine l_op 0 rfl rfl rfl rfl rfl ?_
          refine l_nil (WK.nx (by assumption) ?_)
          refine SeqK.nx (by assumption) ?_
          refine k_seq (fun Q K => ?_)
          refine k_lin (fun W K => ?_)
          refine l_op 2 rfl rfl rfl rfl rfl ?_
          first | refine l_ld0 rfl rfl rfl rfl rfl (by assumption) ?_ | refine l_ldj rfl rfl rfl rfl rfl rfl (by assumption) rfl ?_ | refine l_ldc F 0 rfl rfl rfl rfl rfl rfl rfl ?_ | refine l_ldc F 1 rfl rfl rfl rfl rfl rfl rfl ?_ | refine l_ldc F 2 rfl rfl rfl rfl rfl rfl rfl ?_ | refine l_ldc F 3 rfl rfl rfl rfl rfl rfl rfl ?_ | refine l_ldc F 4 rfl rfl rfl rfl rfl rfl rfl ?_ | refine l_ldc F 5 rfl rfl rfl rfl rfl rfl rfl ?_ | refine l_ldc F 6 rfl rfl rfl rfl rfl rfl rfl ?_ | refine l_ldc F 7 rfl rfl rfl rfl rfl rfl rfl ?_ | refine l_ldc F 8 rfl rfl rfl rfl rfl rfl rfl ?_ | refine l_ldc F 9 rfl rfl rfl rfl rfl rfl rfl ?_ | refine l_lda rfl rfl rfl rfl rfl (by assumption) ?_ | refine l_ldca F 0 rfl rfl rfl rfl rfl rfl rfl ?_ | refine l_ldca F 1 rfl rfl rfl rfl rfl rfl rfl ?_ | refine l_ldca F 2 rfl rfl rfl rfl rfl rfl rfl ?_ | refine l_ldca F 3 rfl rfl rfl rfl rfl rfl rfl ?_ | refine l_ldca F 4 rfl rfl rfl rfl rfl rfl rfl ?_ | refine l_ldca F 5 rfl rfl rfl rfl rfl rfl rfl ?_ | refine l_ldca F 6 rfl rfl rfl rfl rfl rfl rfl ?_ | refine l_ldca F 7 rfl rfl rfl rfl rfl rfl rfl ?_ | refine l_ldca F 8 rfl rfl rfl rfl rfl rfl rfl ?_ | refine l_ldca F 9 rfl rfl rfl rfl rfl rfl rfl ?_ | refine l_ldo F (by assumption) rfl rfl rfl rfl rfl rfl ?_ | refine l_ldoa F (by assumption) rfl rfl rfl rfl rfl rfl ?_
          first | refine l_a64 rfl rfl rfl (by omega) rfl ?_ | refine l_a32 rfl rfl rfl (by omega) rfl ?_ | refine l_a8 rfl rfl rfl (by omega) rfl ?_ | refine l_au64 rfl rfl rfl (by omega) rfl ?_ | refine l_op 1 rfl rfl rfl rfl rfl ?_
          refine l_callp F rfl rfl (by kernel_rfl) rfl rfl (rput_call (x := t.op + 32768) (n := 2) ⟨by omega, by omega⟩) (fun y2 s F _ => ?_)
          (try dsimp only [List.set_cons_zero, List.set_cons_succ, List.cons_append, List.nil_append, List.append_nil, pk, List.getElem?_cons_zero, List.getElem?_cons_succ] at F)
          refine l_op 0 rfl rfl rfl rfl rfl ?_
          refine l_appi F 2 rfl rfl rfl rfl rfl rfl rfl (hrest _ _ _ F) rfl (by omega) hD (fun x43 c43 s F => ?_)
          (try dsimp only [List.set_cons_zero, List.set_cons_succ, List.cons_append, List.nil_append, List.append_nil, pk, List.getElem?_cons_zero, List.getElem?_cons_succ] at F)
          have hdc := decode_call (σ := s) (at_ := 0) (Old.pure (F.has 2 rfl)) (bytes_app (bytes_put _ _) hrb) (by omega) (by omega)
          rw [show (0 : Int) = ((0 : Nat) : Int) from rfl, f2] at hdc
          refine l_callp F rfl rfl (by kernel_rfl) rfl rfl hdc (fun y3 s F _ => ?_)
          (try dsimp only [List.set_cons_zero, List.set_cons_succ, List.cons_append, List.nil_append, List.append_nil, pk, List.getElem?_cons_zero, List.getElem?_cons_succ] at F)
          refine l_op 0 rfl rfl rfl rfl rfl ?_
          refine l_op 2 rfl rfl rfl rfl rfl ?_
          refine l_op 2 rfl rfl rfl rfl rfl ?_
          refine l_op 2 rfl rfl rfl rfl rfl ?_
          refine l_al F rfl rfl rfl rfl (fun q7 s F => ?_)
          (try dsimp only [List.set_cons_zero, List.set_cons_succ, List.cons_append, List.nil_append, List.append_nil, pk, List.getElem?_cons_zero, List.getElem?_cons_succ] at F)
          first | refine l_stc F 0 rfl rfl rfl rfl rfl rfl rfl rfl rfl hD (fun s F => ?_) | refine l_stc F 1 rfl rfl rfl rfl rfl rfl rfl rfl rfl hD (fun s F => ?_) | refine l_stc F 2 rfl rfl rfl rfl rfl rfl rfl rfl rfl hD (fun s F => ?_) | refine l_stc F 3 rfl rfl rfl rfl rfl rfl rfl rfl rfl hD (fun s F => ?_) | refine l_stc F 4 rfl rfl rfl rfl rfl rfl rfl rfl rfl hD (fun s F => ?_) | refine l_stc F 5 rfl rfl rfl rfl rfl rfl rfl rfl rfl hD (fun s F => ?_) | refine l_stc F 6 rfl rfl rfl rfl rfl rfl rfl rfl rfl hD (fun s F => ?_) | refine l_stc F 7 rfl rfl rfl rfl rfl rfl rfl rfl rfl hD (fun s F => ?_) | refine l_stc F 8 rfl rfl rfl rfl rfl rfl rfl rfl rfl hD (fun s F => ?_) | refine l_stc F 9 rfl rfl rfl rfl rfl rfl rfl rfl rfl hD (fun s F => ?_) | refine l_stca F 0 rfl rfl rfl rfl rfl rfl rfl rfl rfl rfl hD rfl (fun s F => ?_) | refine l_stca F 1 rfl rfl rfl rfl rfl rfl rfl rfl rfl rfl hD rfl (fun s F => ?_) | refine l_stca F 2 rfl rfl rfl rfl rfl rfl rfl rfl rfl rfl hD rfl (fun s F => ?_) | refine l_stca F 3 rfl rfl rfl rfl rfl rfl rfl rfl rfl rfl hD rfl (fun s F => ?_) | refine l_stca F 4 rfl rfl rfl rfl rfl rfl rfl rfl rfl rfl hD rfl (fun s F => ?_) | refine l_stca F 5 rfl rfl rfl rfl rfl rfl rfl rfl rfl rfl hD rfl (fun s F => ?_) | refine l_stca F 6 rfl rfl rfl rfl rfl rfl rfl rfl rfl rfl hD rfl (fun s F => ?_) | refine l_stca F 7 rfl rfl rfl rfl rfl rfl rfl rfl rfl rfl hD rfl (fun s F => ?_) | refine l_stca F 8 rfl rfl rfl rfl rfl rfl rfl rfl rfl rfl hD rfl (fun s F => ?_) | refine l_stca F 9 rfl rfl rfl rfl rfl rfl rfl rfl rfl rfl hD rfl (fun s F => ?_) | refine l_stoi F 0 rfl rfl rfl rfl rfl rfl rfl (by omega) hD (fun s F => ?_) | refine l_stoi F 1 rfl rfl rfl rfl rfl rfl rfl (by omega) hD (fun s F => ?_) | refine l_stoi F 2 rfl rfl rfl rfl rfl rfl rfl (by omega) hD (fun s F => ?_) | refine l_stoi F 3 rfl rfl rfl rfl rfl rfl rfl (by omega) hD (fun s F => ?_) | refine l_stoi F 4 rfl rfl rfl rfl rfl rfl rfl (by omega) hD (fun s F => ?_) | refine l_stoi F 5 rfl rfl rfl rfl rfl rfl rfl (by omega) hD (fun s F => ?_) | refine l_stoi F 6 rfl rfl rfl rfl rfl rfl rfl (by omega) hD (fun s F => ?_) | refine l_stoi F 7 rfl rfl rfl rfl rfl rfl rfl (by omega) hD (fun s F => ?_) | refine l_stoi F 8 rfl rfl rfl rfl rfl rfl rfl (by omega) hD (fun s F => ?_) | refine l_stoi F 9 rfl rfl rfl rfl rfl rfl rfl (by omega) hD (fun s F => ?_)
          (try dsimp only [List.set_cons_zero, List.set_cons_succ, List.cons_append, List.nil_append, List.append_nil, pk, List.getElem?_cons_zero, List.getElem?_cons_succ] at F)
          refine l_op 0 rfl rfl rfl rfl rfl ?_
          refine l_op 0 rfl rfl rfl rfl rfl ?_
          refine l_nil (WK.nx (by assumption) ?_)
          refine SeqK.nx (by assumption) ?_
          refine k_seq (fun Q K => ?_)
          refine k_lin (fun W K => ?_)
          refine l_op 2 rfl rfl rfl rfl rfl ?_
          first | refine l_ld0 rfl rfl rfl rfl rfl (by assumption) ?_ | refine l_ldj rfl rfl rfl rfl rfl rfl (by assumption) rfl ?_ | refine l_ldc F 0 rfl rfl rfl rfl rfl rfl rfl ?_ | refine l_ldc F 1 rfl rfl rfl rfl rfl rfl rfl ?_ | refine l_ldc F 2 rfl rfl rfl rfl rfl rfl rfl ?_ | refine l_ldc F 3 rfl rfl rfl rfl rfl rfl rfl ?_ | refine l_ldc F 4 rfl rfl rfl rfl rfl rfl rfl ?_ | refine l_ldc F 5 rfl rfl rfl rfl rfl rfl rfl ?_ | refine l_ldc F 6 rfl rfl rfl rfl rfl rfl rfl ?_ | refine l_ldc F 7 rfl rfl rfl rfl rfl rfl rfl ?_ | refine l_ldc F 8 rfl rfl rfl rfl rfl rfl rfl ?_ | refine l_ldc F 9 rfl rfl rfl rfl rfl rfl rfl ?_ | refine l_lda rfl rfl rfl rfl rfl (by assumption) ?_ | refine l_ldca F 0 rfl rfl rfl rfl rfl rfl rfl ?_ | refine l_ldca F 1 rfl rfl rfl rfl rfl rfl rfl ?_ | refine l_ldca F 2 rfl rfl rfl rfl rfl rfl rfl ?_ | refine l_ldca F 3 rfl rfl rfl rfl rfl rfl rfl ?_ | refine l_ldca F 4 rfl rfl rfl rfl rfl rfl rfl ?_ | refine l_ldca F 5 rfl rfl rfl rfl rfl rfl rfl ?_ | refine l_ldca F 6 rfl rfl rfl rfl rfl rfl rfl ?_ | refine l_ldca F 7 rfl rfl rfl rfl rfl rfl rfl ?_ | refine l_ldca F 8 rfl rfl rfl rfl rfl rfl rfl ?_ | refine l_ldca F 9 rfl rfl rfl rfl rfl rfl rfl ?_ | refine l_ldo F (by assumption) rfl rfl rfl rfl rfl rfl ?_ | refine l_ldoa F (by assumption) rfl rfl rfl rfl rfl rfl ?_
          first | refine l_a64 rfl rfl rfl (by omega) rfl ?_ | refine l_a32 rfl rfl rfl (by omega) rfl ?_ | refine l_a8 rfl rfl rfl (by omega) rfl ?_ | refine l_au64 rfl rfl rfl (by omega) rfl ?_ | refine l_op 1 rfl rfl rfl rfl rfl ?_
          refine l_callp F rfl rfl (by kernel_rfl) rfl rfl (rput_call (x := t.op + 3221225472) (n := 4) ⟨by omega, by omega⟩) (fun y4 s F _ => ?_)
          (try dsimp only [List.set_cons_zero, List.set_cons_succ, List.cons_append, List.nil_append, List.append_nil, pk, List.getElem?_cons_zero, List.getElem?_cons_succ] at F)
          refine l_op 0 rfl rfl rfl rfl rfl ?_
          refine l_appi F 5 rfl rfl rfl rfl rfl rfl rfl (hrest _ _ _ F) rfl (by omega) hD (fun x54 c54 s F => ?_)
          (try dsimp only [List.set_cons_zero, List.set_cons_succ, List.cons_append, List.nil_append, List.append_nil, pk, List.getElem?_cons_zero, List.getElem?_cons_succ] at F)
          have hdc := decode_call (σ := s) (at_ := 0) (Old.pure (F.has 5 rfl)) (bytes_app (bytes_put _ _) hrb) (by omega) (by omega)
          rw [show (0 : Int) = ((0 : Nat) : Int) from rfl, f4] at hdc
          refine l_callp F rfl rfl (by kernel_rfl) rfl rfl hdc (fun y5 s F _ => ?_)
          (try dsimp only [List.set_cons_zero, List.set_cons_succ, List.cons_append, List.nil_append, List.append_nil, pk, List.getElem?_cons_zero, List.getElem?_cons_succ] at F)
          refine l_op 0 rfl rfl rfl rfl rfl ?_
          refine l_op 2 rfl rfl rfl rfl rfl ?_
          refine l_op 2 rfl rfl rfl rfl rfl ?_
          refine l_op 2 rfl rfl rfl rfl rfl ?_
          refine l_al F rfl rfl rfl rfl (fun q10 s F => ?_)
          (try dsimp only [List.set_cons_zero, List.set_cons_succ, List.cons_append, List.nil_append, List.append_nil, pk, List.getElem?_cons_zero, List.getElem?_cons_succ] at F)
          first | refine l_stc F 0 rfl rfl rfl rfl rfl rfl rfl rfl rfl hD (fun s F => ?_) | refine l_stc F 1 rfl rfl rfl rfl rfl rfl rfl rfl rfl hD (fun s F => ?_) | refine l_stc F 2 rfl rfl rfl rfl rfl rfl rfl rfl rfl hD (fun s F => ?_) | refine l_stc F 3 rfl rfl rfl rfl rfl rfl rfl rfl rfl hD (fun s F => ?_) | refine l_stc F 4 rfl rfl rfl rfl rfl rfl rfl rfl rfl hD (fun s F => ?_) | refine l_stc F 5 rfl rfl rfl rfl rfl rfl rfl rfl rfl hD (fun s F => ?_) | refine l_stc F 6 rfl rfl rfl rfl rfl rfl rfl rfl rfl hD (fun s F => ?_) | refine l_stc F 7 rfl rfl rfl rfl rfl rfl rfl rfl rfl hD (fun s F => ?_) | refine l_stc F 8 rfl rfl rfl rfl rfl rfl rfl rfl rfl hD (fun s F => ?_) | refine l_stc F 9 rfl rfl rfl rfl rfl rfl rfl rfl rfl hD (fun s F => ?_) | refine l_stca F 0 rfl rfl rfl rfl rfl rfl rfl rfl rfl rfl hD rfl (fun s F => ?_) | refine l_stca F 1 rfl rfl rfl rfl rfl rfl rfl rfl rfl rfl hD rfl (fun s F => ?_) | refine l_stca F 2 rfl rfl rfl rfl rfl rfl rfl rfl rfl rfl hD rfl (fun s F => ?_) | refine l_stca F 3 rfl rfl rfl rfl rfl rfl rfl rfl rfl rfl hD rfl (fun s F => ?_) | refine l_stca F 4 rfl rfl rfl rfl rfl rfl rfl rfl rfl rfl hD rfl (fun s F => ?_) | refine l_stca F 5 rfl rfl rfl rfl rfl rfl rfl rfl rfl rfl hD rfl (fun s F => ?_) | refine l_stca F 6 rfl rfl rfl rfl rfl rfl rfl rfl rfl rfl hD rfl (fun s F => ?_) | refine l_stca F 7 rfl rfl rfl rfl rfl rfl rfl rfl rfl rfl hD rfl (fun s F => ?_) | refine l_stca F 8 rfl rfl rfl rfl rfl rfl rfl rfl rfl rfl hD rfl (fun s F => ?_) | refine l_stca F 9 rfl rfl rfl rfl rfl rfl rfl rfl rfl rfl hD rfl (fun s F => ?_) | refine l_stoi F 0 rfl rfl rfl rfl rfl rfl rfl (by omega) hD (fun s F => ?_) | refine l_stoi F 1 rfl rfl rfl rfl rfl rfl rfl (by omega) hD (fun s F => ?_) | refine l_stoi F 2 rfl rfl rfl rfl rfl rfl rfl (by omega) hD (fun s F => ?_) | refine l_stoi F 3 rfl rfl rfl rfl rfl rfl rfl (by omega) hD (fun s F => ?_) | refine l_stoi F 4 rfl rfl rfl rfl rfl rfl rfl (by omega) hD (fun s F => ?_) | refine l_stoi F 5 rfl rfl rfl rfl rfl rfl rfl (by omega) hD (fun s F => ?_) | refine l_stoi F 6 rfl rfl rfl rfl rfl rfl rfl (by omega) hD (fun s F => ?_) | refine l_stoi F 7 rfl rfl rfl rfl rfl rfl rfl (by omega) hD (fun s F => ?_) | refine l_stoi F 8 rfl rfl rfl rfl rfl rfl rfl (by omega) hD (fun s F => ?_) | refine l_stoi F 9 rfl rfl rfl rfl rfl rfl rfl (by omega) hD (fun s F => ?_)
          (try dsimp only [List.set_cons_zero, List.set_cons_succ, List.cons_append, List.nil_append, List.append_nil, pk, List.getElem?_cons_zero, List.getElem?_cons_succ] at F)
          refine l_op 0 rfl rfl rfl rfl rfl ?_
          refine l_op 0 rfl rfl rfl rfl rfl ?_
          refine l_nil (WK.nx (by assumption) ?_)
          refine SeqK.nx (by assumption) ?_
          refine k_seq (fun Q K => ?_)
          refine k_lin (fun W K => ?_)
          first | refine l_ld0 rfl rfl rfl rfl rfl (by assumption) ?_ | refine l_ldj rfl rfl rfl rfl rfl rfl (by assumption) rfl ?_ | refine l_ldc F 0 rfl rfl rfl rfl rfl rfl rfl ?_ | refine l_ldc F 1 rfl rfl rfl rfl rfl rfl rfl ?_ | refine l_ldc F 2 rfl rfl rfl rfl rfl rfl rfl ?_ | refine l_ldc F 3 rfl rfl rfl rfl rfl rfl rfl ?_ | refine l_ldc F 4 rfl rfl rfl rfl rfl rfl rfl ?_ | refine l_ldc F 5 rfl rfl rfl rfl rfl rfl rfl ?_ | refine l_ldc F 6 rfl rfl rfl rfl rfl rfl rfl ?_ | refine l_ldc F 7 rfl rfl rfl rfl rfl rfl rfl ?_ | refine l_ldc F 8 rfl rfl rfl rfl rfl rfl rfl ?_ | refine l_ldc F 9 rfl rfl rfl rfl rfl rfl rfl ?_ | refine l_lda rfl rfl rfl rfl rfl (by assumption) ?_ | refine l_ldca F 0 rfl rfl rfl rfl rfl rfl rfl ?_ | refine l_ldca F 1 rfl rfl rfl rfl rfl rfl rfl ?_ | refine l_ldca F 2 rfl rfl rfl rfl rfl rfl rfl ?_ | refine l_ldca F 3 rfl rfl rfl rfl rfl rfl rfl ?_ | refine l_ldca F 4 rfl rfl rfl rfl rfl rfl rfl ?_ | refine l_ldca F 5 rfl rfl rfl rfl rfl rfl rfl ?_ | refine l_ldca F 6 rfl rfl rfl rfl rfl rfl rfl ?_ | refine l_ldca F 7 rfl rfl rfl rfl rfl rfl rfl ?_ | refine l_ldca F 8 rfl rfl rfl rfl rfl rfl rfl ?_ | refine l_ldca F 9 rfl rfl rfl rfl rfl rfl rfl ?_ | refine l_ldo F (by assumption) rfl rfl rfl rfl rfl rfl ?_ | refine l_ldoa F (by assumption) rfl rfl rfl rfl rfl rfl ?_
          first | refine l_ld0 rfl rfl rfl rfl rfl (by assumption) ?_ | refine l_ldj rfl rfl rfl rfl rfl rfl (by assumption) rfl ?_ | refine l_ldc F 0 rfl rfl rfl rfl rfl rfl rfl ?_ | refine l_ldc F 1 rfl rfl rfl rfl rfl rfl rfl ?_ | refine l_ldc F 2 rfl rfl rfl rfl rfl rfl rfl ?_ | refine l_ldc F 3 rfl rfl rfl rfl rfl rfl rfl ?_ | refine l_ldc F 4 rfl rfl rfl rfl rfl rfl rfl ?_ | refine l_ldc F 5 rfl rfl rfl rfl rfl rfl rfl ?_ | refine l_ldc F 6 rfl rfl rfl rfl rfl rfl rfl ?_ | refine l_ldc F 7 rfl rfl rfl rfl rfl rfl rfl ?_ | refine l_ldc F 8 rfl rfl rfl rfl rfl rfl rfl ?_ | refine l_ldc F 9 rfl rfl rfl rfl rfl rfl rfl ?_ | refine l_lda rfl rfl rfl rfl rfl (by assumption) ?_ | refine l_ldca F 0 rfl rfl rfl rfl rfl rfl rfl ?_ | refine l_ldca F 1 rfl rfl rfl rfl rfl rfl rfl ?_ | refine l_ldca F 2 rfl rfl rfl rfl rfl rfl rfl ?_ | refine l_ldca F 3 rfl rfl rfl rfl rfl rfl rfl ?_ | refine l_ldca F 4 rfl rfl rfl rfl rfl rfl rfl ?_ | refine l_ldca F 5 rfl rfl rfl rfl rfl rfl rfl ?_ | refine l_ldca F 6 rfl rfl rfl rfl rfl rfl rfl ?_ | refine l_ldca F 7 rfl rfl rfl rfl rfl rfl rfl ?_ | refine l_ldca F 8 rfl rfl rfl rfl rfl rfl rfl ?_ | refine l_ldca F 9 rfl rfl rfl rfl rfl rfl rfl ?_ | refine l_ldo F (by assumption) rfl rfl rfl rfl rfl rfl ?_ | refine l_ldoa F (by assumption) rfl rfl rfl rfl rfl rfl ?_
          refine l_callp F rfl rfl (by kernel_rfl) rfl rfl (sameI_call (Old.pure (F.has 3 rfl)) (Old.pure (F.old hold)) (by omega)) (fun _ s F _ => ?_)
          (try dsimp only [List.set_cons_zero, List.set_cons_succ, List.cons_append, List.nil_append, List.append_nil, pk, List.getElem?_cons_zero, List.getElem?_cons_succ] at F)
          refine l_op 0 rfl rfl rfl rfl rfl ?_
          refine l_guard rfl rfl rfl (fun hc11 => ?_) (fun hc11 => ?_)
          · try simp only [irr_eq, beq_iff_eq, bne_iff_ne, beq_eq_false_iff_ne, bne_eq_false_iff_eq, ne_eq, decide_eq_true_eq, decide_eq_false_iff_not, Bool.not_eq_true', Bool.not_eq_false'] at hc11
            first | refine l_ld0 rfl rfl rfl rfl rfl (by assumption) ?_ | refine l_ldj rfl rfl rfl rfl rfl rfl (by assumption) rfl ?_ | refine l_ldc F 0 rfl rfl rfl rfl rfl rfl rfl ?_ | refine l_ldc F 1 rfl rfl rfl rfl rfl rfl rfl ?_ | refine l_ldc F 2 rfl rfl rfl rfl rfl rfl rfl ?_ | refine l_ldc F 3 rfl rfl rfl rfl rfl rfl rfl ?_ | refine l_ldc F 4 rfl rfl rfl rfl rfl rfl rfl ?_ | refine l_ldc F 5 rfl rfl rfl rfl rfl rfl rfl ?_ | refine l_ldc F 6 rfl rfl rfl rfl rfl rfl rfl ?_ | refine l_ldc F 7 rfl rfl rfl rfl rfl rfl rfl ?_ | refine l_ldc F 8 rfl rfl rfl rfl rfl rfl rfl ?_ | refine l_ldc F 9 rfl rfl rfl rfl rfl rfl rfl ?_ | refine l_lda rfl rfl rfl rfl rfl (by assumption) ?_ | refine l_ldca F 0 rfl rfl rfl rfl rfl rfl rfl ?_ | refine l_ldca F 1 rfl rfl rfl rfl rfl rfl rfl ?_ | refine l_ldca F 2 rfl rfl rfl rfl rfl rfl rfl ?_ | refine l_ldca F 3 rfl rfl rfl rfl rfl rfl rfl ?_ | refine l_ldca F 4 rfl rfl rfl rfl rfl rfl rfl ?_ | refine l_ldca F 5 rfl rfl rfl rfl rfl rfl rfl ?_ | refine l_ldca F 6 rfl rfl rfl rfl rfl rfl rfl ?_ | refine l_ldca F 7 rfl rfl rfl rfl rfl rfl rfl ?_ | refine l_ldca F 8 rfl rfl rfl rfl rfl rfl rfl ?_ | refine l_ldca F 9 rfl rfl rfl rfl rfl rfl rfl ?_ | refine l_ldo F (by assumption) rfl rfl rfl rfl rfl rfl ?_ | refine l_ldoa F (by assumption) rfl rfl rfl rfl rfl rfl ?_
            first | refine l_ld0 rfl rfl rfl rfl rfl (by assumption) ?_ | refine l_ldj rfl rfl rfl rfl rfl rfl (by assumption) rfl ?_ | refine l_ldc F 0 rfl rfl rfl rfl rfl rfl rfl ?_ | refine l_ldc F 1 rfl rfl rfl rfl rfl rfl rfl ?_ | refine l_ldc F 2 rfl rfl rfl rfl rfl rfl rfl ?_ | refine l_ldc F 3 rfl rfl rfl rfl rfl rfl rfl ?_ | refine l_ldc F 4 rfl rfl rfl rfl rfl rfl rfl ?_ | refine l_ldc F 5 rfl rfl rfl rfl rfl rfl rfl ?_ | refine l_ldc F 6 rfl rfl rfl rfl rfl rfl rfl ?_ | refine l_ldc F 7 rfl rfl rfl rfl rfl rfl rfl ?_ | refine l_ldc F 8 rfl rfl rfl rfl rfl rfl rfl ?_ | refine l_ldc F 9 rfl rfl rfl rfl rfl rfl rfl ?_ | refine l_lda rfl rfl rfl rfl rfl (by assumption) ?_ | refine l_ldca F 0 rfl rfl rfl rfl rfl rfl rfl ?_ | refine l_ldca F 1 rfl rfl rfl rfl rfl rfl rfl ?_ | refine l_ldca F 2 rfl rfl rfl rfl rfl rfl rfl ?_ | refine l_ldca F 3 rfl rfl rfl rfl rfl rfl rfl ?_ | refine l_ldca F 4 rfl rfl rfl rfl rfl rfl rfl ?_ | refine l_ldca F 5 rfl rfl rfl rfl rfl rfl rfl ?_ | refine l_ldca F 6 rfl rfl rfl rfl rfl rfl rfl ?_ | refine l_ldca F 7 rfl rfl rfl rfl rfl rfl rfl ?_ | refine l_ldca F 8 rfl rfl rfl rfl rfl rfl rfl ?_ | refine l_ldca F 9 rfl rfl rfl rfl rfl rfl rfl ?_ | refine l_ldo F (by assumption) rfl rfl rfl rfl rfl rfl ?_ | refine l_ldoa F (by assumption) rfl rfl rfl rfl rfl rfl ?_
            refine l_callp F rfl rfl (by kernel_rfl) rfl rfl (sameI_call (Old.pure (F.has 6 rfl)) (Old.pure (F.old hold)) (by omega)) (fun _ s F _ => ?_)
            (try dsimp only [List.set_cons_zero, List.set_cons_succ, List.cons_append, List.nil_append, List.append_nil, pk, List.getElem?_cons_zero, List.getElem?_cons_succ] at F)
            refine l_op 2 rfl rfl rfl rfl rfl ?_
            refine l_op 0 rfl rfl rfl rfl rfl ?_
            refine l_guard rfl rfl rfl (fun hc12 => ?_) (fun hc12 => ?_)
            · try simp only [irr_eq, beq_iff_eq, bne_iff_ne, beq_eq_false_iff_ne, bne_eq_false_iff_eq, ne_eq, decide_eq_true_eq, decide_eq_false_iff_not, Bool.not_eq_true', Bool.not_eq_false'] at hc12
              refine l_op 0 rfl rfl rfl rfl rfl ?_
              refine l_op 0 rfl rfl rfl rfl rfl ?_
              first | refine l_op 2 rfl rfl rfl rfl rfl ?_ | refine l_ln rfl rfl rfl rfl ?_
              first | refine l_a64 rfl rfl rfl (by omega) rfl ?_ | refine l_a32 rfl rfl rfl (by omega) rfl ?_ | refine l_a8 rfl rfl rfl (by omega) rfl ?_ | refine l_au64 rfl rfl rfl (by omega) rfl ?_ | refine l_op 1 rfl rfl rfl rfl rfl ?_
              refine l_cmp rfl rfl rfl rfl ?_
              refine l_op 2 rfl rfl rfl rfl rfl ?_
              refine l_op 0 rfl rfl rfl rfl rfl ?_
              refine l_guard rfl rfl rfl (fun hc13 => ?_) (fun hc13 => ?_)
              · first | replace hc13 := eq_of_beq ((irr_eq _).symm.trans hc13) | simp only [irr_eq, beq_iff_eq, beq_eq_false_iff_ne, ne_eq, decide_eq_true_eq, decide_eq_false_iff_not] at hc13
                refine l_op 0 rfl rfl rfl rfl rfl ?_
                refine l_op 0 rfl rfl rfl rfl rfl ?_
                first | refine l_op 2 rfl rfl rfl rfl rfl ?_ | refine l_ln rfl rfl rfl rfl ?_
                first | refine l_a64 rfl rfl rfl (by omega) rfl ?_ | refine l_a32 rfl rfl rfl (by omega) rfl ?_ | refine l_a8 rfl rfl rfl (by omega) rfl ?_ | refine l_au64 rfl rfl rfl (by omega) rfl ?_ | refine l_op 1 rfl rfl rfl rfl rfl ?_
                refine l_cmp rfl rfl rfl rfl ?_
                refine l_op 2 rfl rfl rfl rfl rfl ?_
                refine l_op 0 rfl rfl rfl rfl rfl ?_
                refine l_guard rfl rfl rfl (fun hc14 => ?_) (fun hc14 => ?_)
                · first | replace hc14 := eq_of_beq ((irr_eq _).symm.trans hc14) | simp only [irr_eq, beq_iff_eq, beq_eq_false_iff_ne, ne_eq, decide_eq_true_eq, decide_eq_false_iff_not] at hc14
                  refine l_op 0 rfl rfl rfl rfl rfl ?_
                  refine l_callv rfl rfl (by kernel_rfl) rfl rfl num_call ?_
                  (try dsimp only [List.set_cons_zero, List.set_cons_succ, List.cons_append, List.nil_append, List.append_nil, pk, List.getElem?_cons_zero, List.getElem?_cons_succ] at F)
                  refine l_op 0 rfl rfl rfl rfl rfl ?_
                  refine l_callv rfl rfl (by kernel_rfl) rfl rfl num_call ?_
                  (try dsimp only [List.set_cons_zero, List.set_cons_succ, List.cons_append, List.nil_append, List.append_nil, pk, List.getElem?_cons_zero, List.getElem?_cons_succ] at F)
                  first | refine l_a64 rfl rfl rfl (by omega) rfl ?_ | refine l_a32 rfl rfl rfl (by omega) rfl ?_ | refine l_a8 rfl rfl rfl (by omega) rfl ?_ | refine l_au64 rfl rfl rfl (by omega) rfl ?_ | refine l_op 1 rfl rfl rfl rfl rfl ?_
                  refine l_cmp rfl rfl rfl rfl ?_
                  refine l_op 2 rfl rfl rfl rfl rfl ?_
                  refine l_op 0 rfl rfl rfl rfl rfl ?_
                  refine l_guard rfl rfl rfl (fun hc15 => ?_) (fun hc15 => ?_)
                  · first | replace hc15 := eq_of_beq ((irr_eq _).symm.trans hc15) | simp only [irr_eq, beq_iff_eq, beq_eq_false_iff_ne, ne_eq, decide_eq_true_eq, decide_eq_false_iff_not] at hc15
                    refine l_callv rfl rfl (by kernel_rfl) rfl rfl (live_call _ _) ?_
                    (try dsimp only [List.set_cons_zero, List.set_cons_succ, List.cons_append, List.nil_append, List.append_nil, pk, List.getElem?_cons_zero, List.getElem?_cons_succ] at F)
                    refine l_op 2 rfl rfl rfl rfl rfl ?_
                    refine l_op 0 rfl rfl rfl rfl rfl ?_
                    refine l_nil (WK.nx (by assumption) ?_)
                    refine SeqK.nx (by assumption) ?_
                    refine k_ret ?_
                    refine FunK.rt (by assumption) rfl ?_
                    -- leaf 4
                    rfl
                  · first | replace hc15 := ne_of_beq_false ((irr_eq _).symm.trans hc15) | simp only [irr_eq, beq_iff_eq, beq_eq_false_iff_ne, ne_eq, decide_eq_true_eq, decide_eq_false_iff_not] at hc15
                    exact absurd rfl hc15
                · first | replace hc14 := ne_of_beq_false ((irr_eq _).symm.trans hc14) | simp only [irr_eq, beq_iff_eq, beq_eq_false_iff_ne, ne_eq, decide_eq_true_eq, decide_eq_false_iff_not] at hc14
                  exfalso; dsimp only at hc14; (try simp only [Option.getD_some] at hc14); omega
              · first | replace hc13 := ne_of_beq_false ((irr_eq _).symm.trans hc13) | simp only [irr_eq, beq_iff_eq, beq_eq_false_iff_ne, ne_eq, decide_eq_true_eq, decide_eq_false_iff_not] at hc13
                exfalso; dsimp only at hc13; (try simp only [Option.getD_some] at hc13); omega
            · exact absurd ((irr_eq _).symm.trans hc12) (by simp)
          · exact absurd ((irr_eq _).symm.trans hc11) (by simp)

theorem cuts_law {σ : AState} {t : Ins} {ars : List (Int × Int)} (h : OldI σ t ars) {cut : Int} :
    SCall Try.prog E0 11 [.agg (eI t).toArray, .int .i64 cut] σ (fun v _ => v = .bool true) := by
  have hold := h.old
  have hal : ars.length = t.l := hold.1.len eO_len (by decide)
  refine k_fun Try.func11 rfl (m := 57) rfl fun B hD Q K => ?_
  have F := Facts.nil E0 σ
  refine k_seq (fun Q K => ?_)
  refine k_lin (fun W K => ?_)
  refine l_bx F rfl rfl rfl rfl rfl (fun q2 s F => ?_)
  (try dsimp only [List.set_cons_zero, List.set_cons_succ, List.cons_append, List.nil_append, List.append_nil, pk, List.getElem?_cons_zero, List.getElem?_cons_succ] at F)
  refine l_op 0 rfl rfl rfl rfl rfl ?_
  refine l_nil (WK.nx (by assumption) ?_)
  refine SeqK.nx (by assumption) ?_
  refine k_seq (fun Q K => ?_)
  refine k_seq (fun Q K => ?_)
  refine k_lin (fun W K => ?_)
  refine l_op 2 rfl rfl rfl rfl rfl ?_
  first | refine l_ld0 rfl rfl rfl rfl rfl (by assumption) ?_ | refine l_ldj rfl rfl rfl rfl rfl rfl (by assumption) rfl ?_ | refine l_ldc F 0 rfl rfl rfl rfl rfl rfl rfl ?_ | refine l_ldc F 1 rfl rfl rfl rfl rfl rfl rfl ?_ | refine l_ldc F 2 rfl rfl rfl rfl rfl rfl rfl ?_ | refine l_ldc F 3 rfl rfl rfl rfl rfl rfl rfl ?_ | refine l_ldc F 4 rfl rfl rfl rfl rfl rfl rfl ?_ | refine l_ldc F 5 rfl rfl rfl rfl rfl rfl rfl ?_ | refine l_ldc F 6 rfl rfl rfl rfl rfl rfl rfl ?_ | refine l_ldc F 7 rfl rfl rfl rfl rfl rfl rfl ?_ | refine l_ldc F 8 rfl rfl rfl rfl rfl rfl rfl ?_ | refine l_ldc F 9 rfl rfl rfl rfl rfl rfl rfl ?_ | refine l_lda rfl rfl rfl rfl rfl (by assumption) ?_ | refine l_ldca F 0 rfl rfl rfl rfl rfl rfl rfl ?_ | refine l_ldca F 1 rfl rfl rfl rfl rfl rfl rfl ?_ | refine l_ldca F 2 rfl rfl rfl rfl rfl rfl rfl ?_ | refine l_ldca F 3 rfl rfl rfl rfl rfl rfl rfl ?_ | refine l_ldca F 4 rfl rfl rfl rfl rfl rfl rfl ?_ | refine l_ldca F 5 rfl rfl rfl rfl rfl rfl rfl ?_ | refine l_ldca F 6 rfl rfl rfl rfl rfl rfl rfl ?_ | refine l_ldca F 7 rfl rfl rfl rfl rfl rfl rfl ?_ | refine l_ldca F 8 rfl rfl rfl rfl rfl rfl rfl ?_ | refine l_ldca F 9 rfl rfl rfl rfl rfl rfl rfl ?_ | refine l_ldo F (by assumption) rfl rfl rfl rfl rfl rfl ?_ | refine l_ldoa F (by assumption) rfl rfl rfl rfl rfl rfl ?_
  first | refine l_op 2 rfl rfl rfl rfl rfl ?_ | refine l_ln rfl rfl rfl rfl ?_
  refine l_cmp rfl rfl rfl rfl ?_
  refine l_nil (WK.nx (by assumption) ?_)
  refine SeqK.nx (by assumption) ?_
  refine l_cond rfl rfl (fun hc1 => ?_) (fun hc1 => ?_)
  · replace hc1 := of_decide_eq_true ((irr_eq _).symm.trans hc1)
    refine k_seq (fun Q K => ?_)
    refine k_lin (fun W K => ?_)
    refine l_callv rfl rfl (by kernel_rfl) rfl rfl (live_call _ _) ?_
    (try dsimp only [List.set_cons_zero, List.set_cons_succ, List.cons_append, List.nil_append, List.append_nil, pk, List.getElem?_cons_zero, List.getElem?_cons_succ] at F)
    refine l_op 0 rfl rfl rfl rfl rfl ?_
    refine l_nil (WK.nx (by assumption) ?_)
    refine SeqK.nx (by assumption) ?_
    refine k_ret ?_
    refine SeqK.rt (by assumption) ?_
    refine FunK.rt (by assumption) rfl ?_
    -- leaf 1
    rfl
  · replace hc1 := of_decide_eq_false ((irr_eq _).symm.trans hc1)
    refine k_skip ?_
    refine SeqK.nx (by assumption) ?_
    refine k_seq (fun Q K => ?_)
    refine k_lin (fun W K => ?_)
    first | refine l_ld0 rfl rfl rfl rfl rfl (by assumption) ?_ | refine l_ldj rfl rfl rfl rfl rfl rfl (by assumption) rfl ?_ | refine l_ldc F 0 rfl rfl rfl rfl rfl rfl rfl ?_ | refine l_ldc F 1 rfl rfl rfl rfl rfl rfl rfl ?_ | refine l_ldc F 2 rfl rfl rfl rfl rfl rfl rfl ?_ | refine l_ldc F 3 rfl rfl rfl rfl rfl rfl rfl ?_ | refine l_ldc F 4 rfl rfl rfl rfl rfl rfl rfl ?_ | refine l_ldc F 5 rfl rfl rfl rfl rfl rfl rfl ?_ | refine l_ldc F 6 rfl rfl rfl rfl rfl rfl rfl ?_ | refine l_ldc F 7 rfl rfl rfl rfl rfl rfl rfl ?_ | refine l_ldc F 8 rfl rfl rfl rfl rfl rfl rfl ?_ | refine l_ldc F 9 rfl rfl rfl rfl rfl rfl rfl ?_ | refine l_lda rfl rfl rfl rfl rfl (by assumption) ?_ | refine l_ldca F 0 rfl rfl rfl rfl rfl rfl rfl ?_ | refine l_ldca F 1 rfl rfl rfl rfl rfl rfl rfl ?_ | refine l_ldca F 2 rfl rfl rfl rfl rfl rfl rfl ?_ | refine l_ldca F 3 rfl rfl rfl rfl rfl rfl rfl ?_ | refine l_ldca F 4 rfl rfl rfl rfl rfl rfl rfl ?_ | refine l_ldca F 5 rfl rfl rfl rfl rfl rfl rfl ?_ | refine l_ldca F 6 rfl rfl rfl rfl rfl rfl rfl ?_ | refine l_ldca F 7 rfl rfl rfl rfl rfl rfl rfl ?_ | refine l_ldca F 8 rfl rfl rfl rfl rfl rfl rfl ?_ | refine l_ldca F 9 rfl rfl rfl rfl rfl rfl rfl ?_ | refine l_ldo F (by assumption) rfl rfl rfl rfl rfl rfl ?_ | refine l_ldoa F (by assumption) rfl rfl rfl rfl rfl rfl ?_
    refine l_callp F rfl rfl (by kernel_rfl) rfl rfl (encode_call (Old.pure (F.old hold)) h.ok h.op (by omega)) (fun y s F _ => ?_)
    generalize hr : encR sgR t.op ars = r at F ⊢
    (try dsimp only [List.set_cons_zero, List.set_cons_succ, List.cons_append, List.nil_append, List.append_nil, pk, List.getElem?_cons_zero, List.getElem?_cons_succ] at F)
    refine l_op 0 rfl rfl rfl rfl rfl ?_
    refine l_op 2 rfl rfl rfl rfl rfl ?_
    refine l_op 2 rfl rfl rfl rfl rfl ?_
    refine l_op 0 rfl rfl rfl rfl rfl ?_
    refine l_op 0 rfl rfl rfl rfl rfl ?_
    refine l_nil (WK.nx (by assumption) ?_)
    refine SeqK.nx (by assumption) ?_
    refine k_seq (fun Q K => ?_)
    refine k_seq (fun Q K => ?_)
    refine k_lin (fun W K => ?_)
    refine l_op 0 rfl rfl rfl rfl rfl ?_
    refine l_callv rfl rfl (by kernel_rfl) rfl rfl num_call ?_
    (try dsimp only [List.set_cons_zero, List.set_cons_succ, List.cons_append, List.nil_append, List.append_nil, pk, List.getElem?_cons_zero, List.getElem?_cons_succ] at F)
    refine l_cmp rfl rfl rfl rfl ?_
    refine l_op 0 rfl rfl rfl rfl rfl ?_
    refine l_guard rfl rfl rfl (fun hc2 => ?_) (fun hc2 => ?_)
    · first | replace hc2 := bne_iff_ne.1 ((irr_eq _).symm.trans hc2) | simp only [irr_eq, bne_iff_ne, bne_eq_false_iff_eq, ne_eq, decide_eq_true_eq, decide_eq_false_iff_not, Bool.not_eq_true', Bool.not_eq_false'] at hc2
      refine l_s rfl rfl ?_
      refine l_s rfl rfl ?_
      refine l_op 2 rfl rfl rfl rfl rfl ?_
      refine l_op 0 rfl rfl rfl rfl rfl ?_
      refine l_s rfl rfl ?_
      refine l_s rfl rfl ?_
      refine l_s rfl rfl ?_
      refine l_s rfl rfl ?_
      refine l_op 2 rfl rfl rfl rfl rfl ?_
      refine l_nil (WK.nx (by assumption) ?_)
      refine SeqK.nx (by assumption) ?_
      refine e_cond_t rfl rfl rfl ?_
      refine k_seq (fun Q K => ?_)
      refine k_lin (fun W K => ?_)
      refine l_callv rfl rfl (by kernel_rfl) rfl rfl (live_call _ _) ?_
      (try dsimp only [List.set_cons_zero, List.set_cons_succ, List.cons_append, List.nil_append, List.append_nil, pk, List.getElem?_cons_zero, List.getElem?_cons_succ] at F)
      refine l_op 0 rfl rfl rfl rfl rfl ?_
      refine l_nil (WK.nx (by assumption) ?_)
      refine SeqK.nx (by assumption) ?_
      refine k_ret ?_
      refine SeqK.rt (by assumption) ?_
      refine FunK.rt (by assumption) rfl ?_
      -- leaf 2
      rfl
    · first | replace hc2 := bne_eq_false_iff_eq.1 ((irr_eq _).symm.trans hc2) | simp only [irr_eq, bne_iff_ne, bne_eq_false_iff_eq, ne_eq, decide_eq_true_eq, decide_eq_false_iff_not, Bool.not_eq_true', Bool.not_eq_false'] at hc2
      refine l_op 0 rfl rfl rfl rfl rfl ?_
      refine l_cmp rfl rfl rfl rfl ?_
      refine l_op 2 rfl rfl rfl rfl rfl ?_
      refine l_op 0 rfl rfl rfl rfl rfl ?_
      refine l_guard rfl rfl rfl (fun hc3 => ?_) (fun hc3 => ?_)
      · replace hc3 := of_decide_eq_true ((irr_eq _).symm.trans hc3)
        refine l_s rfl rfl ?_
        refine l_s rfl rfl ?_
        refine l_s rfl rfl ?_
        refine l_s rfl rfl ?_
        refine l_op 2 rfl rfl rfl rfl rfl ?_
        refine l_nil (WK.nx (by assumption) ?_)
        refine SeqK.nx (by assumption) ?_
        refine e_cond_t rfl rfl rfl ?_
        refine k_seq (fun Q K => ?_)
        refine k_lin (fun W K => ?_)
        refine l_callv rfl rfl (by kernel_rfl) rfl rfl (live_call _ _) ?_
        (try dsimp only [List.set_cons_zero, List.set_cons_succ, List.cons_append, List.nil_append, List.append_nil, pk, List.getElem?_cons_zero, List.getElem?_cons_succ] at F)
        refine l_op 0 rfl rfl rfl rfl rfl ?_
        refine l_nil (WK.nx (by assumption) ?_)
        refine SeqK.nx (by assumption) ?_
        refine k_ret ?_
        refine SeqK.rt (by assumption) ?_
        refine FunK.rt (by assumption) rfl ?_
        -- leaf 3
        rfl
      · replace hc3 := of_decide_eq_false ((irr_eq _).symm.trans hc3)
        refine l_op 0 rfl rfl rfl rfl rfl ?_
        refine l_op 0 rfl rfl rfl rfl rfl ?_
        first | refine l_op 2 rfl rfl rfl rfl rfl ?_ | refine l_ln rfl rfl rfl rfl ?_
        refine l_cmp rfl rfl rfl rfl ?_
        refine l_op 2 rfl rfl rfl rfl rfl ?_
        refine l_nil (WK.nx (by assumption) ?_)
        refine SeqK.nx (by assumption) ?_
        refine l_cond rfl rfl (fun hc4 => ?_) (fun hc4 => ?_)
        · replace hc4 := of_decide_eq_true ((irr_eq _).symm.trans hc4)
          refine k_seq (fun Q K => ?_)
          refine k_lin (fun W K => ?_)
          refine l_callv rfl rfl (by kernel_rfl) rfl rfl (live_call _ _) ?_
          (try dsimp only [List.set_cons_zero, List.set_cons_succ, List.cons_append, List.nil_append, List.append_nil, pk, List.getElem?_cons_zero, List.getElem?_cons_succ] at F)
          refine l_op 0 rfl rfl rfl rfl rfl ?_
          refine l_nil (WK.nx (by assumption) ?_)
          refine SeqK.nx (by assumption) ?_
          refine k_ret ?_
          refine SeqK.rt (by assumption) ?_
          refine FunK.rt (by assumption) rfl ?_
          -- leaf 4
          rfl
        · replace hc4 := of_decide_eq_false ((irr_eq _).symm.trans hc4)
          obtain ⟨b, rfl⟩ : ∃ b, r = some b := by
            cases r with
            | none => exact absurd (by assumption : (if (none : Option (List Int)).isSome = true then (0 : Int) else 1) = 0) (by decide)
            | some b => exact ⟨b, rfl⟩
          have hb0 : ((some b : Option (List Int)).getD []) = b := rfl
          rw [hb0] at hc4
          obtain ⟨hbl, hbb, hk8⟩ := enc_len hr
          have hc := dec_cut (cut := cut.toNat) sg_dom hr (by omega)
          refine k_skip ?_
          refine SeqK.nx (by assumption) ?_
          refine k_seq (fun Q K => ?_)
          refine k_lin (fun W K => ?_)
          refine l_op 0 rfl rfl rfl rfl rfl ?_
          refine l_op 0 rfl rfl rfl rfl rfl ?_
          refine l_slh (es := 1) rfl rfl rfl rfl rfl ⟨rfl, _, _, rfl, by omega, rfl⟩ (F.has 1 rfl) (by simp only [Option.getD_some]; omega) ?_
          have hdc := decode_call (σ := s) (at_ := 0) (Old.pure ((F.has 1 rfl).upto8 (hi := cut.toNat) (by rw [hb0]; omega))) (hbb.take _) (by omega) (by omega)
          rw [hb0, hc] at hdc
          refine l_callp F rfl rfl (by kernel_rfl) rfl rfl hdc (fun y2 s F _ => ?_)
          (try dsimp only [List.set_cons_zero, List.set_cons_succ, List.cons_append, List.nil_append, List.append_nil, pk, List.getElem?_cons_zero, List.getElem?_cons_succ] at F)
          refine l_op 0 rfl rfl rfl rfl rfl ?_
          refine l_op 2 rfl rfl rfl rfl rfl ?_
          refine l_op 2 rfl rfl rfl rfl rfl ?_
          refine l_op 2 rfl rfl rfl rfl rfl ?_
          refine l_al F rfl rfl rfl rfl (fun q7 s F => ?_)
          (try dsimp only [List.set_cons_zero, List.set_cons_succ, List.cons_append, List.nil_append, List.append_nil, pk, List.getElem?_cons_zero, List.getElem?_cons_succ] at F)
          first | refine l_stc F 0 rfl rfl rfl rfl rfl rfl rfl rfl rfl hD (fun s F => ?_) | refine l_stc F 1 rfl rfl rfl rfl rfl rfl rfl rfl rfl hD (fun s F => ?_) | refine l_stc F 2 rfl rfl rfl rfl rfl rfl rfl rfl rfl hD (fun s F => ?_) | refine l_stc F 3 rfl rfl rfl rfl rfl rfl rfl rfl rfl hD (fun s F => ?_) | refine l_stc F 4 rfl rfl rfl rfl rfl rfl rfl rfl rfl hD (fun s F => ?_) | refine l_stc F 5 rfl rfl rfl rfl rfl rfl rfl rfl rfl hD (fun s F => ?_) | refine l_stc F 6 rfl rfl rfl rfl rfl rfl rfl rfl rfl hD (fun s F => ?_) | refine l_stc F 7 rfl rfl rfl rfl rfl rfl rfl rfl rfl hD (fun s F => ?_) | refine l_stc F 8 rfl rfl rfl rfl rfl rfl rfl rfl rfl hD (fun s F => ?_) | refine l_stc F 9 rfl rfl rfl rfl rfl rfl rfl rfl rfl hD (fun s F => ?_) | refine l_stca F 0 rfl rfl rfl rfl rfl rfl rfl rfl rfl rfl hD rfl (fun s F => ?_) | refine l_stca F 1 rfl rfl rfl rfl rfl rfl rfl rfl rfl rfl hD rfl (fun s F => ?_) | refine l_stca F 2 rfl rfl rfl rfl rfl rfl rfl rfl rfl rfl hD rfl (fun s F => ?_) | refine l_stca F 3 rfl rfl rfl rfl rfl rfl rfl rfl rfl rfl hD rfl (fun s F => ?_) | refine l_stca F 4 rfl rfl rfl rfl rfl rfl rfl rfl rfl rfl hD rfl (fun s F => ?_) | refine l_stca F 5 rfl rfl rfl rfl rfl rfl rfl rfl rfl rfl hD rfl (fun s F => ?_) | refine l_stca F 6 rfl rfl rfl rfl rfl rfl rfl rfl rfl rfl hD rfl (fun s F => ?_) | refine l_stca F 7 rfl rfl rfl rfl rfl rfl rfl rfl rfl rfl hD rfl (fun s F => ?_) | refine l_stca F 8 rfl rfl rfl rfl rfl rfl rfl rfl rfl rfl hD rfl (fun s F => ?_) | refine l_stca F 9 rfl rfl rfl rfl rfl rfl rfl rfl rfl rfl hD rfl (fun s F => ?_) | refine l_stoi F 0 rfl rfl rfl rfl rfl rfl rfl (by omega) hD (fun s F => ?_) | refine l_stoi F 1 rfl rfl rfl rfl rfl rfl rfl (by omega) hD (fun s F => ?_) | refine l_stoi F 2 rfl rfl rfl rfl rfl rfl rfl (by omega) hD (fun s F => ?_) | refine l_stoi F 3 rfl rfl rfl rfl rfl rfl rfl (by omega) hD (fun s F => ?_) | refine l_stoi F 4 rfl rfl rfl rfl rfl rfl rfl (by omega) hD (fun s F => ?_) | refine l_stoi F 5 rfl rfl rfl rfl rfl rfl rfl (by omega) hD (fun s F => ?_) | refine l_stoi F 6 rfl rfl rfl rfl rfl rfl rfl (by omega) hD (fun s F => ?_) | refine l_stoi F 7 rfl rfl rfl rfl rfl rfl rfl (by omega) hD (fun s F => ?_) | refine l_stoi F 8 rfl rfl rfl rfl rfl rfl rfl (by omega) hD (fun s F => ?_) | refine l_stoi F 9 rfl rfl rfl rfl rfl rfl rfl (by omega) hD (fun s F => ?_)
          (try dsimp only [List.set_cons_zero, List.set_cons_succ, List.cons_append, List.nil_append, List.append_nil, pk, List.getElem?_cons_zero, List.getElem?_cons_succ] at F)
          refine l_op 0 rfl rfl rfl rfl rfl ?_
          refine l_op 0 rfl rfl rfl rfl rfl ?_
          refine l_nil (WK.nx (by assumption) ?_)
          refine SeqK.nx (by assumption) ?_
          refine k_seq (fun Q K => ?_)
          refine k_lin (fun W K => ?_)
          first | refine l_ld0 rfl rfl rfl rfl rfl (by assumption) ?_ | refine l_ldj rfl rfl rfl rfl rfl rfl (by assumption) rfl ?_ | refine l_ldc F 0 rfl rfl rfl rfl rfl rfl rfl ?_ | refine l_ldc F 1 rfl rfl rfl rfl rfl rfl rfl ?_ | refine l_ldc F 2 rfl rfl rfl rfl rfl rfl rfl ?_ | refine l_ldc F 3 rfl rfl rfl rfl rfl rfl rfl ?_ | refine l_ldc F 4 rfl rfl rfl rfl rfl rfl rfl ?_ | refine l_ldc F 5 rfl rfl rfl rfl rfl rfl rfl ?_ | refine l_ldc F 6 rfl rfl rfl rfl rfl rfl rfl ?_ | refine l_ldc F 7 rfl rfl rfl rfl rfl rfl rfl ?_ | refine l_ldc F 8 rfl rfl rfl rfl rfl rfl rfl ?_ | refine l_ldc F 9 rfl rfl rfl rfl rfl rfl rfl ?_ | refine l_lda rfl rfl rfl rfl rfl (by assumption) ?_ | refine l_ldca F 0 rfl rfl rfl rfl rfl rfl rfl ?_ | refine l_ldca F 1 rfl rfl rfl rfl rfl rfl rfl ?_ | refine l_ldca F 2 rfl rfl rfl rfl rfl rfl rfl ?_ | refine l_ldca F 3 rfl rfl rfl rfl rfl rfl rfl ?_ | refine l_ldca F 4 rfl rfl rfl rfl rfl rfl rfl ?_ | refine l_ldca F 5 rfl rfl rfl rfl rfl rfl rfl ?_ | refine l_ldca F 6 rfl rfl rfl rfl rfl rfl rfl ?_ | refine l_ldca F 7 rfl rfl rfl rfl rfl rfl rfl ?_ | refine l_ldca F 8 rfl rfl rfl rfl rfl rfl rfl ?_ | refine l_ldca F 9 rfl rfl rfl rfl rfl rfl rfl ?_ | refine l_ldo F (by assumption) rfl rfl rfl rfl rfl rfl ?_ | refine l_ldoa F (by assumption) rfl rfl rfl rfl rfl rfl ?_
          refine l_bld rfl rfl rfl rfl ?_
          have F := F.nilrow 2
          refine l_callp F rfl rfl (by kernel_rfl) rfl rfl (sameI_call (xs := []) (ys := []) (Old.pure (F.has 2 rfl)) (Old.pure (F.has 4 rfl)) (by decide)) (fun _ s F _ => ?_)
          (try dsimp only [List.set_cons_zero, List.set_cons_succ, List.cons_append, List.nil_append, List.append_nil, pk, List.getElem?_cons_zero, List.getElem?_cons_succ] at F)
          refine l_op 0 rfl rfl rfl rfl rfl ?_
          refine l_guard rfl rfl rfl (fun hc5 => ?_) (fun hc5 => ?_)
          · try simp only [irr_eq, beq_iff_eq, bne_iff_ne, beq_eq_false_iff_ne, bne_eq_false_iff_eq, ne_eq, decide_eq_true_eq, decide_eq_false_iff_not, Bool.not_eq_true', Bool.not_eq_false'] at hc5
            refine l_op 0 rfl rfl rfl rfl rfl ?_
            refine l_cmp rfl rfl rfl rfl ?_
            refine l_op 2 rfl rfl rfl rfl rfl ?_
            refine l_op 0 rfl rfl rfl rfl rfl ?_
            refine l_guard rfl rfl rfl (fun hc6 => ?_) (fun hc6 => ?_)
            · first | replace hc6 := eq_of_beq ((irr_eq _).symm.trans hc6) | simp only [irr_eq, beq_iff_eq, beq_eq_false_iff_ne, ne_eq, decide_eq_true_eq, decide_eq_false_iff_not] at hc6
              refine l_op 0 rfl rfl rfl rfl rfl ?_
              refine l_callv rfl rfl (by kernel_rfl) rfl rfl num_call ?_
              (try dsimp only [List.set_cons_zero, List.set_cons_succ, List.cons_append, List.nil_append, List.append_nil, pk, List.getElem?_cons_zero, List.getElem?_cons_succ] at F)
              refine l_cmp rfl rfl rfl rfl ?_
              refine l_op 2 rfl rfl rfl rfl rfl ?_
              refine l_op 0 rfl rfl rfl rfl rfl ?_
              refine l_guard rfl rfl rfl (fun hc7 => ?_) (fun hc7 => ?_)
              · first | replace hc7 := eq_of_beq ((irr_eq _).symm.trans hc7) | simp only [irr_eq, beq_iff_eq, beq_eq_false_iff_ne, ne_eq, decide_eq_true_eq, decide_eq_false_iff_not] at hc7
                refine l_callv rfl rfl (by kernel_rfl) rfl rfl (live_call _ _) ?_
                (try dsimp only [List.set_cons_zero, List.set_cons_succ, List.cons_append, List.nil_append, List.append_nil, pk, List.getElem?_cons_zero, List.getElem?_cons_succ] at F)
                refine l_op 2 rfl rfl rfl rfl rfl ?_
                refine l_op 0 rfl rfl rfl rfl rfl ?_
                refine l_nil (WK.nx (by assumption) ?_)
                refine SeqK.nx (by assumption) ?_
                refine k_ret ?_
                refine FunK.rt (by assumption) rfl ?_
                -- leaf 5
                rfl
              · first | replace hc7 := ne_of_beq_false ((irr_eq _).symm.trans hc7) | simp only [irr_eq, beq_iff_eq, beq_eq_false_iff_ne, ne_eq, decide_eq_true_eq, decide_eq_false_iff_not] at hc7
                exact absurd rfl hc7
            · first | replace hc6 := ne_of_beq_false ((irr_eq _).symm.trans hc6) | simp only [irr_eq, beq_iff_eq, beq_eq_false_iff_ne, ne_eq, decide_eq_true_eq, decide_eq_false_iff_not] at hc6
              exact absurd rfl hc6
          · exact absurd ((irr_eq _).symm.trans hc5) (by simp)

end Go.Proofs.Ytkemnodaadlonaa
