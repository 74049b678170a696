/- Steps as they come in. No statement of the seat is proved in this text. -/
import Derived.Test.YtddenboepgfbgaaUnD
set_option linter.unusedVariables false
set_option linter.unusedSimpArgs false
set_option maxRecDepth 100000
set_option maxHeartbeats 4000000
namespace Go.Proofs.Ytddenboepgfbgaa
open GAb Go

theorem bytes_mem {bs : List Int} : Bytes bs ↔ ∀ x ∈ bs, 0 ≤ x ∧ x ≤ 255 := by
  constructor
  · intro h x hx
    obtain ⟨i, hi, rfl⟩ := List.mem_iff_getElem.1 hx
    have := h i hi
    simpa [List.getD, hi] using this
  · intro h i hi
    simpa [List.getD, hi] using h _ (List.getElem_mem hi)
theorem opn_data17 : Opn Try.prog 22 fun σ vs => ∃ x len cap zs, vs = [.slice x len cap] ∧ Row σ x len cap 1 (u8l zs) ∧ (∀ z ∈ zs, 0 ≤ z ∧ z ≤ 255) ∧ cap ≤ 140737488351232 :=
  opn_mono (opn_slice (es := 1) Try.underlying22 (by kernel_rfl) (by decide) (opn_int Try.underlying5)) (fun σ vs h => by
    obtain ⟨x, len, cap, zs, rfl, hR, hE, hM⟩ := h
    obtain ⟨xs, rfl, h1, h2⟩ := els_rows (Q := fun z => (Lit.int .u8 z).wf = true) (e := fun z => [Value.int .u8 z]) (es := 1) (σ := σ) hE
    have e : rows (fun z => [Value.int .u8 z]) xs = u8l xs := by
      unfold rows; exact (List.map_eq_flatMap ..).symm
    have hb : Try.prog.bytesOf 5 = 1 := by kernel_rfl
    rw [hb] at hM
    rw [e] at hR
    exact ⟨x, len, cap, xs, rfl, hR, fun z hz => bounds_u8 (h2 z hz), by unfold reachBytes at hM; omega⟩) (fun σ σ' vs ⟨x, len, cap, zs, h1, h2, h3⟩ k => ⟨x, len, cap, zs, h1, h2.kp (Nat.le_refl _) k, h3⟩)
theorem opn_block17 : Opn Try.prog 65 fun _ vs => ∃ x : Int × Int, vs = eB x ∧ True :=
  opn_mono (opn_struct Try.underlying65 (by kernel_rfl) (.cons (opn_int Try.underlying35) (.cons (opn_int Try.underlying35) .nil))) (fun σ vs h => by
    obtain ⟨u0, w0, rfl, ⟨n0, rfl, h0⟩, u1, w1, rfl, ⟨n1, rfl, h1⟩, rfl⟩ := h
    exact ⟨(n0, n1), rfl, trivial⟩) (fun _ _ _ h _ => h)
theorem opn_blocks17 : Opn Try.prog 36 fun σ vs => ∃ x len cap zs, vs = [.slice x len cap] ∧ Row σ x len cap 2 (rows eB zs) ∧ cap ≤ 17592186044416 :=
  opn_mono (opn_slice (es := 2) Try.underlying36 (by kernel_rfl) (by decide) opn_block17) (fun σ vs h => by
    obtain ⟨x, len, cap, zs, rfl, hR, hE, hM⟩ := h
    obtain ⟨xs, rfl, h1, h2⟩ := els_rows (Q := fun _ => True) (e := eB) (es := 2) (σ := σ) hE
    have hb : Try.prog.bytesOf 65 = 8 := by kernel_rfl
    rw [hb] at hM
    exact ⟨x, len, cap, xs, rfl, hR, by unfold reachBytes at hM; omega⟩) (fun σ σ' vs ⟨x, len, cap, zs, h1, h2, h3⟩ k => ⟨x, len, cap, zs, h1, h2.kp (Nat.le_refl _) k, h3⟩)
def StOK (σ : AState) (t : SS) : Prop := ∃ zm zb zs, (Row σ t.mx t.ml t.mc 1 (u8l zm) ∧ t.m = zm.take t.ml ∧ ∀ z ∈ zm, 0 ≤ z ∧ z ≤ 255) ∧ (Row σ t.bx t.bl t.bc 2 (rows eB zb) ∧ t.b = zb.take t.bl) ∧ (Row σ t.sx t.sl t.sc 1 (u8l zs) ∧ t.s = zs.take t.sl ∧ ∀ z ∈ zs, 0 ≤ z ∧ z ≤ 255) ∧ t.mc ≤ 140737488351232 ∧ t.bc ≤ 140737488351232 ∧ t.sc ≤ 140737488351232
theorem StOK.kp {n0 : Nat} {σ σ' : AState} {t : SS} (hn : σ.next ≤ n0) (h : StOK σ t) (k : Kp n0 σ σ') : StOK σ' t := by
  obtain ⟨zm, zb, zs, ⟨a1, a2⟩, ⟨b1, b2⟩, ⟨c1, c2⟩, d⟩ := h
  exact ⟨zm, zb, zs, ⟨a1.kp hn k, a2⟩, ⟨b1.kp hn k, b2⟩, ⟨c1.kp hn k, c2⟩, d⟩
theorem opn_state : Opn Try.prog 38 fun σ vs => ∃ t : SS, vs = eS t ∧ StOK σ t :=
  opn_mono (opn_struct Try.underlying38 (by kernel_rfl) (.cons opn_data17 (.cons (opn_int Try.underlying35) (.cons opn_blocks17 (.cons opn_data17 .nil))))) (fun σ vs h => by
    obtain ⟨u0, w0, rfl, ⟨x, l, c, zs, rfl, h4, h5, h6⟩, u1, w1, rfl, ⟨n, rfl, hn⟩, u2, w2, rfl, ⟨x2, l2, c2, bs, rfl, b4, b5⟩, u3, w3, rfl, ⟨x3, l3, c3, ss, rfl, s4, s5, s6⟩, rfl⟩ := h
    exact ⟨⟨x, l, c, zs.take l, n, x2, l2, c2, bs.take l2, x3, l3, c3, ss.take l3⟩, rfl, zs, bs, ss, ⟨h4, rfl, h5⟩, ⟨b4, rfl⟩, ⟨s4, rfl, s5⟩, h6, by show c2 ≤ _; omega, s6⟩) (fun σ σ' vs ⟨t, h1, h2⟩ k => ⟨t, h1, h2.kp (Nat.le_refl _) k⟩)
theorem opn_step : Opn Try.prog 40 fun σ vs => ∃ p : ST, vs = eP p ∧ StOK σ p.2 :=
  opn_mono (opn_struct Try.underlying40 (by kernel_rfl) (.cons (opn_bool Try.underlying4) (.cons opn_state .nil))) (fun σ vs h => by
    obtain ⟨u0, w0, rfl, ⟨b, rfl⟩, u1, w1, rfl, ⟨t, rfl, ht⟩, rfl⟩ := h
    exact ⟨(b, t), by show [Value.bool b] ++ (eS t ++ []) = _; rw [List.append_nil]; show Value.bool b :: eS t = Value.bool (irr b) :: eS t; rw [irr_eq], ht⟩) (fun σ σ' vs ⟨t, h1, h2⟩ k => ⟨t, h1, h2.kp (Nat.le_refl _) k⟩)
theorem opn_steps : Opn Try.prog 34 fun σ vs => ∃ x len cap zs, vs = [.slice x len cap] ∧ Row σ x len cap 5 (rows eP zs) ∧ ∀ p ∈ zs, StOK σ p.2 :=
  opn_mono (opn_slice (es := 5) Try.underlying34 (by kernel_rfl) (by decide) opn_step) (fun σ vs h => by
    obtain ⟨x, len, cap, zs, rfl, hR, hE, hM⟩ := h
    obtain ⟨xs, rfl, h1, h2⟩ := els_rows (Q := fun p => StOK σ p.2) (e := eP) (es := 5) (σ := σ) hE
    exact ⟨x, len, cap, xs, rfl, hR, fun y hy => h2 y hy⟩) (fun σ σ' vs ⟨x, len, cap, zs, h1, h2, h3⟩ k => ⟨x, len, cap, zs, h1, h2.kp (Nat.le_refl _) k, fun p hp => (h3 p hp).kp (Nat.le_refl _) k⟩)
theorem oldL_row {σ : AState} {a : Option Addr} {l c : Nat} {zs : List ST} (h : Row σ a l c 5 (rows eP zs) ∧ ∀ p ∈ zs, StOK σ p.2) : OldL E0 σ a l c (zs.take l) := by
  refine ⟨Old.pure ⟨_, h.1, by rw [rows_take eP_len]⟩, fun p hp => ?_, fun p hp => ?_, fun p hp => ?_, fun p hp => ?_, fun p hp => ?_⟩ <;> obtain ⟨zm, zb, zs', ⟨a1, a2, a3⟩, ⟨b1, b2⟩, ⟨c1, c2, c3⟩, d1, d2, d3⟩ := h.2 p (List.mem_of_mem_take hp)
  · exact Old.pure ⟨_, a1, by rw [a2, Nat.mul_one]; exact List.map_take.symm⟩
  · exact Old.pure ⟨_, b1, by rw [b2, rows_take eB_len]⟩
  · exact Old.pure ⟨_, c1, by rw [c2, Nat.mul_one]; exact List.map_take.symm⟩
  · rw [a2, c2]; exact ⟨bytes_mem.2 fun x hx => a3 x (List.mem_of_mem_take hx), bytes_mem.2 fun x hx => c3 x (List.mem_of_mem_take hx)⟩
  · have e1 := a1.size.2
    have e2 := b1.size.2
    have e3 := c1.size.2
    omega

end Go.Proofs.Ytddenboepgfbgaa
