/- Frames and their chain stay where what they stand in stays. No statement of the seat is proved in this text. -/
import Derived.Test.YtocfmecenpeoiaaGreatStF
set_option linter.unusedVariables false
set_option linter.unusedSimpArgs false
set_option maxRecDepth 100000
set_option maxHeartbeats 4000000
namespace Go.Proofs.YtocfmecenpeoiaaGreat.Stk
open GAb Go

theorem at4_cut {bs : List Int} {k : Nat} {p : Int} (h0 : 0 ≤ p) (h1 : p + 4 ≤ k) (h2 : k ≤ bs.length) : at4 (bs.take k) p = at4 bs p := by
  have hl : (bs.take k).length = k := by rw [List.length_take]; omega
  unfold at4 beR
  rw [if_neg (by omega), if_neg (by omega), if_neg (by omega), if_neg (by omega)]
  have g : ∀ j : Nat, j < 4 → (bs.take k).getD (p.toNat + j) 0 = bs.getD (p.toNat + j) 0 := fun j hj => by
    simp [List.getD, List.getElem?_take, show p.toNat + j < k by omega]
  show be (bs.take k) p.toNat 4 = be bs p.toNat 4
  simp only [be, g 0 (by omega), g 1 (by omega), g 2 (by omega), g 3 (by omega)]
theorem at4_pre {bs bs' : List Int} {q : Nat} {p : Int} (h : bs'.take q = bs.take q) (h1 : q ≤ bs.length) (h2 : q ≤ bs'.length) (h0 : 0 ≤ p) (h3 : p + 4 ≤ q) : at4 bs' p = at4 bs p := by
  rw [← at4_cut h0 h3 h2, h, at4_cut h0 h3 h1]
theorem take_less {bs bs' : List Int} {q r : Nat} (h : bs'.take q = bs.take q) (hr : r ≤ q) : bs'.take r = bs.take r := by
  have e : ∀ l : List Int, l.take r = (l.take q).take r := fun l => by rw [List.take_take, Nat.min_eq_left hr]
  rw [e, h, ← e]
theorem pr_add (ys : List Int) : ∀ (k i : Nat) (xs : List Int), xs.length ≤ k → pr i xs ≠ 0 → pr i (xs ++ ys) = pr i xs := by
  intro k
  induction k with
  | zero =>
    intro i xs h hp
    obtain rfl : xs = [] := List.eq_nil_of_length_eq_zero (by omega)
    exact (hp rfl).elim
  | succ k ih =>
    intro i xs h hp
    match xs, h, hp with
    | [], _, hp => exact (hp rfl).elim
    | [_], _, hp => exact (hp rfl).elim
    | x :: y :: r, h, hp =>
      show pr i (x :: y :: (r ++ ys)) = _
      unfold pr at hp ⊢
      split
      · rfl
      · split
        · rfl
        · rename_i h1 h2
          rw [if_neg h1, if_neg h2] at hp
          exact ih _ _ (by simp at h; omega) hp
theorem pr_ge : ∀ (k i : Nat) (xs : List Int), xs.length ≤ k → pr i xs ≠ 0 → (i : Int) + 2 ≤ pr i xs := by
  intro k
  induction k with
  | zero =>
    intro i xs h hp
    obtain rfl : xs = [] := List.eq_nil_of_length_eq_zero (by omega)
    exact (hp rfl).elim
  | succ k ih =>
    intro i xs h hp
    match xs, h, hp with
    | [], _, hp => exact (hp rfl).elim
    | [_], _, hp => exact (hp rfl).elim
    | x :: y :: r, h, hp =>
      unfold pr at hp ⊢
      split
      · omega
      · split
        · rename_i h1 h2
          rw [if_neg h1, if_pos h2] at hp
          exact (hp rfl).elim
        · rename_i h1 h2
          rw [if_neg h1, if_neg h2] at hp
          have := ih (i + 2) r (by simp at h; omega) hp
          omega
theorem pr_cut (ys : List Int) : ∀ (k i : Nat) (xs : List Int), xs.length ≤ k → pr i (xs ++ ys) ≠ 0 → pr i (xs ++ ys) ≤ i + xs.length → pr i xs = pr i (xs ++ ys) := by
  intro k
  induction k with
  | zero =>
    intro i xs h hp hl
    have := pr_ge _ i (xs ++ ys) (Nat.le_refl _) hp
    omega
  | succ k ih =>
    intro i xs h hp hl
    match xs, h, hp, hl with
    | [], _, hp, hl => have := pr_ge _ i ([] ++ ys) (Nat.le_refl _) hp; simp only [List.length_nil] at hl; omega
    | [a], _, hp, hl => have := pr_ge _ i ([a] ++ ys) (Nat.le_refl _) hp; simp only [List.length_cons, List.length_nil] at hl; omega
    | x :: y :: r, h, hp, hl =>
      have e : x :: y :: r ++ ys = x :: y :: (r ++ ys) := rfl
      rw [e] at hp hl ⊢
      unfold pr at hp hl ⊢
      split
      · rfl
      · split
        · rfl
        · rename_i h1 h2
          rw [if_neg h1, if_neg h2] at hp hl
          exact ih (i + 2) r (by simp at h; omega) hp (by simp only [List.length_cons] at hl; omega)

theorem fmt_len {bs : List Int} {f t : Int} (h0 : 0 ≤ f) : ((fmtF bs f t).length : Int) = fmtN bs f t ∧ fmtF bs f t = (fmtB bs f t).take (fmtN bs f t).toNat := by
  obtain ⟨b1, b2, b3⟩ := fmtN_bd bs f t
  unfold fmtF fmtB
  constructor
  · rw [List.length_take, List.length_drop]; omega
  · rw [List.take_take]; congr 1; omega
theorem fmt_pos {bs : List Int} {f t : Int} (h0 : 0 ≤ f) (h : fmtN bs f t ≠ 0) : fmtP bs f t = 8 + (fmtN bs f t + 3) / 4 * 4 := by
  obtain ⟨e1, e2⟩ := fmt_len (bs := bs) (t := t) h0
  have hb := pr_bd (fmtB bs f t)
  have e3 : fmtB bs f t = fmtF bs f t ++ (fmtB bs f t).drop (fmtN bs f t).toNat := by rw [e2, List.take_append_drop]
  have e4 : pr 0 (fmtF bs f t) = fmtN bs f t := by
    have h1 : pr 0 (fmtF bs f t ++ (fmtB bs f t).drop (fmtN bs f t).toNat) = fmtN bs f t := by rw [← e3]; rfl
    rw [← h1]
    exact pr_cut _ _ 0 _ (Nat.le_refl _) (by rw [h1]; exact h) (by rw [h1]; omega)
  have hl : (locR (fmtF bs f t)).1 = 8 + (((fmtF bs f t).length : Int) + 3) / 4 * 4 := by
    unfold locR
    rw [if_neg (by omega)]
  unfold fmtP
  rw [hl, e1]
/-- A frame's own bytes are as they were. -/
theorem frame_loc {bs bs' : List Int} {f t t' : Int} {q : Nat} (h : FrameOK bs f t) (h0 : 0 ≤ f) (ht : t ≤ bs.length) (hS : 0 ≤ fmtS bs f t) (hq : f + at4 bs (f + 4) ≤ q) (e : bs'.take q = bs.take q) (h1 : q ≤ bs.length) (h2 : q ≤ bs'.length) (h3 : f + at4 bs f ≤ t') (h4 : t' ≤ bs'.length) :
    FrameOK bs' f t' ∧ at4 bs' f = at4 bs f ∧ at4 bs' (f + 4) = at4 bs (f + 4) := by
  obtain ⟨a1, a2, a3, a4, a5, a6⟩ := h
  have hP := fmt_pos h0 a3
  have hN := fmtN_bd bs f t
  have g1 : at4 bs' f = at4 bs f := at4_pre e h1 h2 h0 (by omega)
  have g2 : at4 bs' (f + 4) = at4 bs (f + 4) := at4_pre e h1 h2 (by omega) (by omega)
  obtain ⟨r, hr⟩ : ∃ r : Nat, (r : Int) = f + fmtP bs f t := ⟨(f + fmtP bs f t).toNat, by omega⟩
  have e' := take_less (r := r) e (by omega)
  have part : ∀ (l : List Int) (u : Int), (r : Int) ≤ u → fmtB l f u = ((l.take r).drop (f + 8).toNat) ++ (fmtB l f u).drop (r - (f + 8).toNat) := fun l u hu => by
    have k1 : (l.take r).drop (f + 8).toNat = (fmtB l f u).take (r - (f + 8).toNat) := by
      unfold fmtB
      rw [List.drop_take, List.take_take, Nat.min_eq_left (by omega)]
    rw [k1, List.take_append_drop]
  have p1 := part bs t (by omega)
  have p2 := part bs' t' (by omega)
  rw [e'] at p2
  have hW : ((bs.take r).drop (f + 8).toNat).length = r - (f + 8).toNat := by rw [List.length_drop, List.length_take]; omega
  generalize hw : (bs.take r).drop (f + 8).toNat = W at p1 p2 hW
  have n1 : fmtN bs f t = pr 0 (W ++ (fmtB bs f t).drop (r - (f + 8).toNat)) := by rw [← p1]; rfl
  have n2 : pr 0 W = fmtN bs f t := by
    rw [n1]
    exact pr_cut _ _ 0 _ (Nat.le_refl _) (by rw [← n1]; exact a3) (by rw [← n1, hW]; omega)
  have n3 : fmtN bs' f t' = fmtN bs f t := by
    show pr 0 (fmtB bs' f t') = _
    rw [p2, pr_add _ _ 0 _ (Nat.le_refl _) (by rw [n2]; exact a3), n2]
  have eF : fmtF bs' f t' = fmtF bs f t := by
    rw [(fmt_len h0).2, (fmt_len h0).2, n3, p1, p2, List.take_append_of_le_length (by omega), List.take_append_of_le_length (by omega)]
  have eP : fmtP bs' f t' = fmtP bs f t := by unfold fmtP; rw [eF]
  have eS : fmtS bs' f t' = fmtS bs f t := by unfold fmtS; rw [eF]
  exact ⟨⟨a1, by omega, by rw [n3]; exact a3, by rw [g1, eP, eS]; exact a4, by rw [g2, eP]; exact a5, by rw [eP, eS]; omega⟩, g1, g2⟩
theorem chain_nn {bs : List Int} {f t : Int} (h : Chain bs f t) : 0 ≤ f := by have := h.ge; omega
/-- Chains stay where all below them stays. -/
theorem chain_pre {bs bs' : List Int} {q : Nat} (hB : Bytes bs) (hlen : bs.length ≤ 100000) (e : bs'.take q = bs.take q) (h1 : q ≤ bs.length) (h2 : q ≤ bs'.length) {f t : Int} (h : Chain bs f t) : t ≤ q → Chain bs' f t := by
  induction h with
  | @base t hf =>
    intro ht
    obtain ⟨b1, b2, b3, b4, b5, b6⟩ := fmt_bd hB hlen 0 t
    have h6 := hf.2.2.2.2.2
    have h5 := hf.2.2.2.2.1
    have h4 := hf.2.2.2.1
    exact .base (frame_loc hf (Int.le_refl _) (by omega) b3 (by omega) e h1 h2 (by omega) (by omega)).1
  | @step f t hf n0 g0 _ ih =>
    intro ht
    obtain ⟨b1, b2, b3, b4, b5, b6⟩ := fmt_bd hB hlen f t
    have h6 := hf.2.2.2.2.2
    have h5 := hf.2.2.2.2.1
    have h4 := hf.2.2.2.1
    have hn := hf.2.1
    refine .step (frame_loc hf (by omega) (by omega) b3 (by omega) e h1 h2 (by omega) (by omega)).1 n0 g0 ?_
    rw [at4_pre e h1 h2 (by omega) (by omega)]
    exact ih (by omega)
/-- The last frame stays where its beginning and all below it stay. -/
theorem chain_keep {bs bs' : List Int} {q : Nat} {f t t' : Int} (hB : Bytes bs) (hlen : bs.length ≤ 100000) (h : Chain bs f t) (ht : t ≤ bs.length) (hq : f + at4 bs (f + 4) ≤ q) (e : bs'.take q = bs.take q) (h1 : q ≤ bs.length) (h2 : q ≤ bs'.length) (h3 : f + at4 bs f ≤ t') (h4 : t' ≤ bs'.length) :
    Chain bs' f t' ∧ at4 bs' f = at4 bs f ∧ at4 bs' (f + 4) = at4 bs (f + 4) := by
  obtain ⟨b1, b2, b3, b4, b5, b6⟩ := fmt_bd hB hlen f t
  have hf := h.frame
  have h0 := chain_nn h
  have hP := fmt_pos h0 hf.2.2.1
  have h5 := hf.2.2.2.2.1
  have hN := fmtN_bd bs f t
  obtain ⟨g1, g2, g3⟩ := frame_loc hf h0 ht b3 hq e h1 h2 h3 h4
  refine ⟨?_, g2, g3⟩
  by_cases hz : f = 0
  · subst hz; exact .base g1
  · obtain ⟨k1, k2⟩ := h.prev hz
    refine .step g1 hz k1 ?_
    rw [at4_pre e h1 h2 (by omega) (by omega)]
    exact chain_pre hB hlen e h1 h2 k2 (by omega)
theorem chain_bd {bs : List Int} {f t : Int} (hB : Bytes bs) (hlen : bs.length ≤ 100000) (h : Chain bs f t) : 0 ≤ f ∧ f + at4 bs f ≤ t ∧ 12 ≤ at4 bs (f + 4) ∧ at4 bs (f + 4) ≤ at4 bs f ∧ f % 4 = 0 ∧ at4 bs f % 4 = 0 ∧ at4 bs (f + 4) % 4 = 0 ∧ at4 bs f - at4 bs (f + 4) = fmtS bs f t := by
  obtain ⟨b1, b2, b3, b4, b5, b6⟩ := fmt_bd hB hlen f t
  have hf := h.frame
  have h0 := chain_nn h
  have hP := fmt_pos h0 hf.2.2.1
  have hN := fmtN_bd bs f t
  obtain ⟨a1, a2, a3, a4, a5, a6⟩ := hf
  omega
/-- A stack as it may be. -/
structure SOK (size : Int) (bs : List Int) (n : Nat) (fp : Int) (on : Bool) : Prop where
  len : bs.length = n
  byt : Bytes bs
  fit : (n : Int) ≤ size ∧ size ≤ 20000
  al : n % 4 = 0
  ch : on = true → Chain bs fp n
  off : on = false → fp = 0 ∧ (n = 0 ∨ 16 ≤ n ∧ Chain bs (at4 bs (n - 4)) (n - 16))
theorem SOK.fp {size : Int} {bs : List Int} {n : Nat} {fp : Int} {on : Bool} (h : SOK size bs n fp on) : 0 ≤ fp ∧ fp ≤ 4294967295 := by
  have := h.fit
  cases on
  · have := (h.off rfl).1; omega
  · have := (h.ch rfl).frame.2.1; have := chain_nn (h.ch rfl); omega
theorem SOK.hon {size : Int} {bs : List Int} {n : Nat} {fp : Int} {on : Bool} (h : SOK size bs n fp on) : on = true → fp + at4 bs fp ≤ n := fun ho => by
  have h1 := h.len
  have h2 := h.fit
  exact (chain_bd h.byt (by omega) (h.ch ho)).2.1
theorem SOK.hoff {size : Int} {bs : List Int} {n : Nat} {fp : Int} {on : Bool} (h : SOK size bs n fp on) : on = false → n = 0 ∨ 16 ≤ n := fun ho => by
  rcases (h.off ho).2 with h1 | h1
  · exact .inl h1
  · exact .inr h1.1
theorem SOK.bd {size : Int} {bs : List Int} {n : Nat} {fp : Int} (h : SOK size bs n fp true) : 0 ≤ fp ∧ fp + at4 bs fp ≤ n ∧ 12 ≤ at4 bs (fp + 4) ∧ at4 bs (fp + 4) ≤ at4 bs fp ∧ fp % 4 = 0 ∧ at4 bs fp % 4 = 0 ∧ at4 bs (fp + 4) % 4 = 0 := by
  have h1 := h.len
  have h2 := h.fit
  have := chain_bd h.byt (by omega) (h.ch rfl)
  omega
/-- Values, or locals, are others. -/
theorem SOK.keep {size : Int} {bs bs' : List Int} {n n' q : Nat} {fp : Int} (h : SOK size bs n fp true) (hl : bs'.length = n') (hB : Bytes bs') (hn : (n' : Int) ≤ size) (hal : n' % 4 = 0) (hq : fp + at4 bs (fp + 4) ≤ q) (e : bs'.take q = bs.take q) (h1 : q ≤ n) (h2 : q ≤ n') (h3 : fp + at4 bs fp ≤ n') : SOK size bs' n' fp true := by
  have k1 := h.len
  have k2 := h.fit
  exact ⟨hl, hB, ⟨hn, k2.2⟩, hal, fun _ => (chain_keep h.byt (by omega) (h.ch rfl) (by omega) hq e (by omega) (by omega) h3 (by omega)).1, fun k => (by cases k)⟩
/-- More on top. -/
theorem SOK.put {size : Int} {bs C : List Int} {n n' : Nat} {fp : Int} (h : SOK size bs n fp true) (hl : n' = n + C.length) (hB : Bytes C) (hn : (n' : Int) ≤ size) (hal : C.length % 4 = 0) : SOK size (bs ++ C) n' fp true := by
  have k1 := h.len
  have k2 := h.al
  have k3 := h.bd
  refine h.keep (q := n) (by rw [List.length_append]; omega) ?_ hn (by omega) (by omega) (by rw [← k1, List.take_append_of_le_length (Nat.le_refl _)]) (Nat.le_refl _) (by omega) (by omega)
  intro i hi
  by_cases hlt : i < bs.length
  · have := h.byt.at i
    simpa [List.getD, List.getElem?_append_left hlt] using this
  · have := hB.at (i - bs.length)
    simpa [List.getD, List.getElem?_append_right (by omega : bs.length ≤ i)] using this
theorem SOK.cut {size : Int} {bs : List Int} {n n' : Nat} {fp : Int} (h : SOK size bs n fp true) (h1 : n' ≤ n) (h3 : fp + at4 bs fp ≤ n') (hal : n' % 4 = 0) : SOK size (bs.take n') n' fp true := by
  have k1 := h.len
  have k2 := h.fit
  have k3 := h.bd
  exact h.keep (q := n') (by rw [List.length_take]; omega) (h.byt.take _) (by omega) hal (by omega) (by rw [List.take_take, Nat.min_self]) h1 (Nat.le_refl _) h3
theorem SOK.leave {size : Int} {bs : List Int} {n : Nat} {fp : Int} (h : SOK size bs n fp true) : SOK size (bs.take fp.toNat) fp.toNat 0 false := by
  have k1 := h.len
  have k2 := h.fit
  have k3 := h.bd
  refine ⟨by rw [List.length_take]; omega, h.byt.take _, by omega, by omega, fun k => (by cases k), fun _ => ⟨rfl, ?_⟩⟩
  by_cases hz : fp = 0
  · left; omega
  · obtain ⟨g1, g2⟩ := (h.ch rfl).prev hz
    right
    refine ⟨by omega, ?_⟩
    have e : (bs.take fp.toNat).take fp.toNat = bs.take fp.toNat := by rw [List.take_take, Nat.min_self]
    rw [show ((fp.toNat : Nat) : Int) - 4 = fp - 4 by omega, show ((fp.toNat : Nat) : Int) - 16 = fp - 16 by omega, at4_cut (by omega) (by omega) (by omega)]
    exact chain_pre h.byt (by omega) e (by omega) (by rw [List.length_take]; omega) g2 (by omega)
theorem SOK.unstub {size : Int} {bs : List Int} {n : Nat} (h : SOK size bs n 0 false) (hn : 16 ≤ n) : SOK size (bs.take (n - 16)) (n - 16) (at4 bs (n - 4)) true := by
  have k1 := h.len
  have k2 := h.fit
  have k4 := h.al
  rcases (h.off rfl).2 with h0 | ⟨_, g⟩
  · omega
  · refine ⟨by rw [List.length_take]; omega, h.byt.take _, by omega, by omega, fun _ => ?_, fun k => (by cases k)⟩
    have e : (bs.take (n - 16)).take (n - 16) = bs.take (n - 16) := by rw [List.take_take, Nat.min_self]
    rw [show (((n - 16 : Nat)) : Int) = (n : Int) - 16 by omega]
    exact chain_pre h.byt (by omega) e (by omega) (by rw [List.length_take]; omega) g (by omega)
theorem chain_up {bs : List Int} {f t t' : Int} (hB : Bytes bs) (hlen : bs.length ≤ 100000) (h : Chain bs f t) (h1 : t ≤ t') (h2 : t' ≤ bs.length) : Chain bs f t' := by
  have h3 := chain_bd hB hlen h
  exact (chain_keep (q := bs.length) hB hlen h (by omega) (by omega) rfl (Nat.le_refl _) (Nat.le_refl _) (by omega) h2).1

end Go.Proofs.YtocfmecenpeoiaaGreat.Stk
