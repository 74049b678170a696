/- The law of a game between other resources, and of a bare one. No statement of the seat is proved in this text. -/
import Derived.Test.YtkmkbpnlccomnaaBlQ
set_option linter.unusedVariables false
set_option linter.unusedSimpArgs false
set_option maxRecDepth 100000
set_option maxHeartbeats 8000000
namespace Go.Proofs.Ytkmkbpnlccomnaa
open GAb Go

abbrev gmR (x : Option Addr) (l c : Nat) (d : List Int) : RS := ⟨exBA, 0, glBA, x, l, c, d⟩
theorem game_raw (xs : List Int) : gameR ([71, 108, 117, 108] ++ xs) = (0, (([71, 108, 117, 108] ++ xs).length : Int), [71, 108, 117, 108] ++ xs) := by
  unfold gameR
  rw [if_neg (by simp only [List.length_append, List.length_cons, List.length_nil]; omega), if_pos (by rfl)]
/-- One game alone can be laid. -/
theorem lay_one {x : Option Addr} {l c : Nat} {xs : List Int} {e : Int} {n : Nat} {bs : List Int} (h : LayP [gmR x l c xs] e n bs) (hl : l ≤ 65536) : e = 0 := by
  have h1 : IdsR [gmR x l c xs] := fun t ht => by
    rw [List.mem_singleton.1 ht]
    exact ⟨(by decide : idR (ltr exBA) = true), (by decide : idR (ltr glBA) = true)⟩
  have hi : IdsOK (cksR [gmR x l c xs]) := fun t ht => by
    rcases List.mem_cons.1 ht with rfl | ht
    · show idR (ltr ridxBA) = true
      decide
    · obtain ⟨r, hr, rfl⟩ := List.mem_map.1 ht
      exact (h1 r hr).2
  have hz : sizeK (cksR [gmR x l c xs]) ≤ 100000 := by
    have h2 := sizeK_bd (cksR [gmR x l c xs])
    have h3 := idxD_len h1
    unfold cksR at h2 ⊢
    simp only [List.map_cons, List.map_nil, sumK, List.length_cons, List.length_nil] at h2 h3 ⊢
    have e1 : ridxBA.size = 4 := rfl
    have e2 : glBA.size = 4 := rfl
    omega
  rcases h with ⟨_, _, q⟩ | ⟨_, ⟨_, _, q⟩ | ⟨_, ⟨_, _, ⟨i, j, q1, q2, _⟩⟩ | ⟨_, h4⟩⟩⟩
  · exact absurd h1 q
  · simp only [List.length_cons, List.length_nil] at q; omega
  · simp only [List.length_cons, List.length_nil] at q2; omega
  · rcases h4 with ⟨_, _, q⟩ | ⟨_, _, ⟨_, _, q⟩ | ⟨_, ⟨_, _, q⟩ | ⟨q, _⟩⟩⟩
    · exact absurd ⟨by decide, hi⟩ q
    · unfold cksR at q; simp only [List.map_cons, List.map_nil, List.length_cons, List.length_nil] at q; omega
    · omega
    · exact q
theorem OldR.app3 {σ s : AState} {L : List Fact} {a x b : Option Addr} {l c l2 c2 k e : Nat} {rs ts us : List RS} {g : RS} (h : OldR E0 σ a l c ts) (h2 : OldR E0 σ b l2 c2 us) (F : Facts E0 σ s L) (i j : Nat) (hi : L[i]? = some (many (rs.map dR))) (hj : L[j]? = some (own x k e 4 (rows eR (rs ++ [g] ++ us)))) (he : rs.map er = ts.map er)
    (hg : Old E0 s g.x g.l g.c 1 (u8l g.d)) (hgb : Bytes g.d) (hgn : U32 g.nm) (hgl : (g.l : Int) ≤ 140737488351232 ∧ (g.id.size : Int) ≤ 140737488351232 ∧ (g.us.size : Int) ≤ 140737488351232) : OldR E0 s x k e (rs ++ [g] ++ us) := by
  have hmem : ∀ {P : RS → Prop}, (∀ r ∈ rs, P r) → P g → (∀ u ∈ us, P u) → ∀ r ∈ rs ++ [g] ++ us, P r := fun p1 p2 p3 r hr => by
    rcases List.mem_append.1 hr with hr | hr
    · rcases List.mem_append.1 hr with hr | hr
      · exact p1 r hr
      · rw [List.mem_singleton.1 hr]; exact p2
    · exact p3 r hr
  have hu := h2.to F
  have key : ∀ r ∈ rs, Bytes r.d ∧ U32 r.nm ∧ (r.l : Int) ≤ 140737488351232 ∧ (r.id.size : Int) ≤ 140737488351232 ∧ (r.us.size : Int) ≤ 140737488351232 := fun r hr => by
    obtain ⟨t, ht, q⟩ := er_mem he hr
    have q0 := h.byt t ht
    have q1 := h.nmb t ht
    have q2 := h.bd t ht
    have z : (er t).d = (er r).d ∧ (er t).nm = (er r).nm ∧ (er t).l = (er r).l ∧ (er t).id = (er r).id ∧ (er t).us = (er r).us := by rw [q]; exact ⟨rfl, rfl, rfl, rfl, rfl⟩
    obtain ⟨z1, z2, z3, z4, z5⟩ := z
    dsimp only [er] at z1 z2 z3 z4 z5
    rw [← z1, ← z2, ← z3, ← z4, ← z5]
    exact ⟨q0, q1, q2⟩
  exact ⟨Old.pure (F.has j hj), hmem (fun r hr => Old.pure (F.hasM i hi (List.mem_map_of_mem hr))) hg hu.dat, hmem (fun r hr => (key r hr).1) hgb hu.byt, hmem (fun r hr => (key r hr).2.1) hgn hu.nmb, hmem (fun r hr => (key r hr).2.2) hgl hu.bd⟩
theorem sumR_app : ∀ ps bs : List RS, sumR (ps ++ bs) = sumR ps + sumR bs
  | [], bs => by simp [sumR]
  | a :: ps, bs => by have := sumR_app ps bs; simp only [List.cons_append, sumR, this]; omega

theorem rowsR_one (ts : List RS) : (rows eR ts).all Value.oneCell' = true := by
  rw [List.all_eq_true]
  intro v hv
  obtain ⟨t, _, hv⟩ := List.mem_flatMap.1 hv
  rcases List.mem_cons.1 hv with rfl | hv
  · rfl
  rcases List.mem_cons.1 hv with rfl | hv
  · rfl
  rcases List.mem_cons.1 hv with rfl | hv
  · rfl
  rw [List.mem_singleton.1 hv]; rfl
theorem raw6_law {σ : AState} {a b a2 : Option Addr} {l c n d l2 c2 : Nat} {ts us : List RS} {xs : List Int} (h : OldR E0 σ a l c ts) (hx : Old E0 σ b n d 1 (u8l xs)) (hB : Bytes xs) (h2 : OldR E0 σ a2 l2 c2 us) :
    SCall Try.prog E0 7 [.slice a l c, .slice b n d, .slice a2 l2 c2] σ (fun v _ => v = .bool true) := by
  have htl := h.len
  have hul := h2.len
  have hxl := hx.len8
  refine k_fun Try.func7 rfl (m := 99) rfl fun B hD Q K => ?_
  have F := Facts.nil E0 σ
  refine k_seq (fun Q K => ?_)
  refine k_lin (fun W K => ?_)
  refine l_op 0 rfl rfl rfl rfl rfl ?_
  refine l_nil (WK.nx (by assumption) ?_)
  refine SeqK.nx (by assumption) ?_
  refine k_seq (fun Q K => ?_)
  refine k_seq (fun Q K => ?_)
  refine k_lin (fun W K => ?_)
  refine l_op 0 rfl rfl rfl rfl rfl ?_
  refine l_callp F rfl rfl (by kernel_rfl) rfl rfl (huge6_call h (by omega)) (fun hu s F hhu => ?_)
  refine l_op 0 rfl rfl rfl rfl rfl ?_
  refine l_guard rfl rfl rfl (fun hc1 => ?_) (fun hc1 => ?_)
  · try simp only [irr_eq, beq_iff_eq, bne_iff_ne, beq_eq_false_iff_ne, bne_eq_false_iff_eq, ne_eq, decide_eq_true_eq, decide_eq_false_iff_not, Bool.not_eq_true', Bool.not_eq_false'] at hc1
    refine l_s rfl rfl ?_
    refine l_s rfl rfl ?_
    refine l_op 2 rfl rfl rfl rfl rfl ?_
    refine l_op 0 rfl rfl rfl rfl rfl ?_
    refine l_s rfl rfl ?_
    refine l_s rfl rfl ?_
    refine l_s rfl rfl ?_
    refine l_op 2 rfl rfl rfl rfl rfl ?_
    refine l_nil (WK.nx (by assumption) ?_)
    refine SeqK.nx (by assumption) ?_
    first | refine e_cond_t rfl rfl rfl ?_ | refine e_cond_t rfl rfl (by rw [irr_eq]; first | exact beq_iff_eq.2 (by assumption) | exact decide_eq_true (by assumption) | exact bne_iff_ne.2 (by assumption)) ?_
    refine k_seq (fun Q K => ?_)
    refine k_lin (fun W K => ?_)
    refine l_callp F rfl rfl (by kernel_rfl) rfl rfl live6_call (fun _ s F _ => ?_)
    (try dsimp only [n_1, n_2, n_3, n_4, List.append_nil, pk, n_5, n_6] at F)
    refine l_op 0 rfl rfl rfl rfl rfl ?_
    refine l_nil (WK.nx (by assumption) ?_)
    refine SeqK.nx (by assumption) ?_
    refine k_ret ?_
    refine SeqK.rt (by assumption) ?_
    refine FunK.rt (by assumption) rfl ?_
    -- leaf 1
    first
    | rfl
    | (simp_all [eqS_self]; done)
    | (exact absurd (eqS_self _) (by assumption))
  try simp only [irr_eq, beq_iff_eq, bne_iff_ne, beq_eq_false_iff_ne, bne_eq_false_iff_eq, ne_eq, decide_eq_true_eq, decide_eq_false_iff_not, Bool.not_eq_true', Bool.not_eq_false'] at hc1
  refine l_op 0 rfl rfl rfl rfl rfl ?_
  refine l_callp F rfl rfl (by kernel_rfl) rfl rfl (huge6_call (h2.to F) (by omega)) (fun hu2 s F hhu2 => ?_)
  refine l_op 2 rfl rfl rfl rfl rfl ?_
  refine l_op 0 rfl rfl rfl rfl rfl ?_
  refine l_guard rfl rfl rfl (fun hc2 => ?_) (fun hc2 => ?_)
  · try simp only [irr_eq, beq_iff_eq, bne_iff_ne, beq_eq_false_iff_ne, bne_eq_false_iff_eq, ne_eq, decide_eq_true_eq, decide_eq_false_iff_not, Bool.not_eq_true', Bool.not_eq_false'] at hc2
    refine l_s rfl rfl ?_
    refine l_s rfl rfl ?_
    refine l_s rfl rfl ?_
    refine l_op 2 rfl rfl rfl rfl rfl ?_
    refine l_nil (WK.nx (by assumption) ?_)
    refine SeqK.nx (by assumption) ?_
    first | refine e_cond_t rfl rfl rfl ?_ | refine e_cond_t rfl rfl (by rw [irr_eq]; first | exact beq_iff_eq.2 (by assumption) | exact decide_eq_true (by assumption) | exact bne_iff_ne.2 (by assumption)) ?_
    refine k_seq (fun Q K => ?_)
    refine k_lin (fun W K => ?_)
    refine l_callp F rfl rfl (by kernel_rfl) rfl rfl live6_call (fun _ s F _ => ?_)
    (try dsimp only [n_1, n_2, n_3, n_4, List.append_nil, pk, n_5, n_6] at F)
    refine l_op 0 rfl rfl rfl rfl rfl ?_
    refine l_nil (WK.nx (by assumption) ?_)
    refine SeqK.nx (by assumption) ?_
    refine k_ret ?_
    refine SeqK.rt (by assumption) ?_
    refine FunK.rt (by assumption) rfl ?_
    -- leaf 2
    first
    | rfl
    | (simp_all [eqS_self]; done)
    | (exact absurd (eqS_self _) (by assumption))
  try simp only [irr_eq, beq_iff_eq, bne_iff_ne, beq_eq_false_iff_ne, bne_eq_false_iff_eq, ne_eq, decide_eq_true_eq, decide_eq_false_iff_not, Bool.not_eq_true', Bool.not_eq_false'] at hc2
  refine l_op 0 rfl rfl rfl rfl rfl ?_
  first | refine l_op 2 rfl rfl rfl rfl rfl ?_ | refine l_ln rfl rfl rfl rfl ?_
  refine l_cmp rfl rfl rfl rfl ?_
  refine l_op 2 rfl rfl rfl rfl rfl ?_
  refine l_nil (WK.nx (by assumption) ?_)
  refine SeqK.nx (by assumption) ?_
  refine l_cond rfl rfl (fun hc3 => ?_) (fun hc3 => ?_)
  · replace hc3 := of_decide_eq_true ((irr_eq _).symm.trans hc3)
    refine k_seq (fun Q K => ?_)
    refine k_lin (fun W K => ?_)
    refine l_callp F rfl rfl (by kernel_rfl) rfl rfl live6_call (fun _ s F _ => ?_)
    (try dsimp only [n_1, n_2, n_3, n_4, List.append_nil, pk, n_5, n_6] at F)
    refine l_op 0 rfl rfl rfl rfl rfl ?_
    refine l_nil (WK.nx (by assumption) ?_)
    refine SeqK.nx (by assumption) ?_
    refine k_ret ?_
    refine SeqK.rt (by assumption) ?_
    refine FunK.rt (by assumption) rfl ?_
    -- leaf 3
    first
    | rfl
    | (simp_all [eqS_self]; done)
    | (exact absurd (eqS_self _) (by assumption))
  replace hc3 := of_decide_eq_false ((irr_eq _).symm.trans hc3)
  obtain ⟨hb1, hb2⟩ := hhu (by assumption)
  obtain ⟨hb3, hb4⟩ := hhu2 (by assumption)
  refine k_skip ?_
  refine SeqK.nx (by assumption) ?_
  refine k_seq (fun Q K => ?_)
  refine k_lin (fun W K => ?_)
  refine l_op 0 rfl rfl rfl rfl rfl ?_
  refine l_callp F rfl rfl (by kernel_rfl) rfl rfl (copy_call (h.to F) (by omega) (by omega)) (fun y s F hy => ?_)
  (try dsimp only [n_1, n_2, n_3, n_4, List.append_nil, pk, n_5, n_6] at F)
  obtain ⟨x, m, e, rs⟩ := y
  dsimp only [reaF] at F hy ⊢
  have hrl : rs.length = m := (F.has 1 rfl).len eR_len (by decide)
  have hre := congrArg List.length hy
  rw [List.length_map, List.length_map] at hre
  have hsum : sumR rs = sumR ts := by rw [← er_sum rs, hy, er_sum]
  refine l_op 0 rfl rfl rfl rfl rfl ?_
  refine l_bld rfl rfl rfl rfl ?_
  refine l_lit F rfl rfl rfl rfl (fun q33 s F => ?_)
  (try dsimp only [n_1, n_2, n_3, n_4, List.append_nil, pk, n_5, n_6] at F)
  refine l_app (es := 4) F 1 rfl rfl rfl rfl rfl rfl rfl (F.has 2 rfl) rfl rfl (by omega) hD (fun x2 k2 s F => ?_)
  (try dsimp only [n_1, n_2, n_3, n_4, List.append_nil, pk, n_5, n_6] at F)
  refine l_op 0 rfl rfl rfl rfl rfl ?_
  refine l_app (es := 4) F 1 rfl rfl rfl rfl rfl rfl rfl (F.old h2.old) (rowsR_one us) rfl (by omega) hD (fun x3 k3 s F => ?_)
  replace F : Facts E0 σ s [many (rs.map dR), own x3 (m + 1 + l2) k3 4 (rows eR (rs ++ [gmR b n d xs] ++ us))] := by
    rw [rows_append, rows_append]
    exact F.pick [0, 1] (by decide)
  have hold := OldR.app3 h h2 F 0 1 rfl rfl hy (Old.pure (F.old hx)) hB ⟨Int.le_refl 0, (by decide : (0 : Int) ≤ 4294967295)⟩ ⟨by show (n : Int) ≤ _; omega, (by decide : (glBA.size : Int) ≤ 140737488351232), (by decide : (exBA.size : Int) ≤ 140737488351232)⟩
  have hso : sumR (rs ++ [gmR b n d xs] ++ us) = sumR rs + (n + 8) + sumR us := by
    rw [sumR_app, sumR_app]
    have e1 : exBA.size = 4 := rfl
    have e2 : glBA.size = 4 := rfl
    simp only [sumR, e1, e2]; omega
  have hlo : (rs ++ [gmR b n d xs] ++ us).length = m + 1 + l2 := by simp only [List.length_append, List.length_cons, List.length_nil]; omega
  refine l_op 0 rfl rfl rfl rfl rfl ?_
  refine l_nil (WK.nx (by assumption) ?_)
  refine SeqK.nx (by assumption) ?_
  refine k_seq (fun Q K => ?_)
  refine k_lin (fun W K => ?_)
  refine l_op 0 rfl rfl rfl rfl rfl ?_
  refine l_callp F rfl rfl (by kernel_rfl) rfl rfl (lay_call hold (by omega) (by omega)) (fun y s F hy1 => ?_)
  (try dsimp only [n_1, n_2, n_3, n_4, List.append_nil, pk, n_5, n_6] at F)
  obtain ⟨e1, x1, n1, d1, b1⟩ := y
  dsimp only at F hy1 ⊢
  have hD2 : ∀ t ∈ rs ++ [gmR b n d xs] ++ us, t.d.length = t.l := fun t ht => (hold.dat t ht).len8
  have htold := lay_told hy1 hD2 (by omega) hold.nmb
  have hn1 := F.len8 2 rfl
  refine l_op 0 rfl rfl rfl rfl rfl ?_
  refine l_op 2 rfl rfl rfl rfl rfl ?_
  refine l_op 2 rfl rfl rfl rfl rfl ?_
  refine l_op 0 rfl rfl rfl rfl rfl ?_
  refine l_op 0 rfl rfl rfl rfl rfl ?_
  refine l_nil (WK.nx (by assumption) ?_)
  refine SeqK.nx (by assumption) ?_
  refine k_seq (fun Q K => ?_)
  refine k_seq (fun Q K => ?_)
  refine k_lin (fun W K => ?_)
  refine l_op 0 rfl rfl rfl rfl rfl ?_
  refine l_callv rfl rfl (by kernel_rfl) rfl rfl num6_call ?_
  (try dsimp only [n_1, n_2, n_3, n_4, List.append_nil, pk, n_5, n_6] at F)
  refine l_cmp rfl rfl rfl rfl ?_
  refine l_nil (WK.nx (by assumption) ?_)
  refine SeqK.nx (by assumption) ?_
  refine l_cond rfl rfl (fun hc4 => ?_) (fun hc4 => ?_)
  · first | replace hc4 := eq_of_beq ((irr_eq _).symm.trans hc4) | simp only [irr_eq, beq_iff_eq, beq_eq_false_iff_ne, ne_eq, decide_eq_true_eq, decide_eq_false_iff_not] at hc4
    obtain ⟨g, hbs⟩ : Good (rs ++ [gmR b n d xs] ++ us) ∧ b1 = layB (rs ++ [gmR b n d xs] ++ us) := by
      rcases htold with ⟨q, _⟩ | ⟨_, q⟩
      · exact absurd (by omega) q
      · exact q
    have h0 := lay_small g
    have hL := lay_len g
    have hcap : n1 ≤ d1 := by obtain ⟨_, hR, _⟩ := F.has 2 rfl; exact hR.size.2
    have hget : (rs ++ [gmR b n d xs] ++ us).getD rs.length default = gmR b n d xs := by simp [List.getD]
    have hgm := lay_game g (i := rs.length) (by omega) (by rw [hget]) (by rw [hget]) (by rw [hget])
    rw [hget] at hgm
    rw [← hbs] at hgm hL
    refine k_seq (fun Q K => ?_)
    refine k_lin (fun W K => ?_)
    refine l_op 0 rfl rfl rfl rfl rfl ?_
    refine l_callp F rfl rfl (by kernel_rfl) rfl rfl (game_call (bs := b1) (Old.pure (F.has 2 rfl)) (by rw [hbs]; exact bytes_layB hold.byt) (by omega) (.inr (by omega))) (fun y s F hy2 => ?_)
    (try dsimp only [n_1, n_2, n_3, n_4, List.append_nil, pk, n_5, n_6] at F)
    obtain ⟨x4, n4, d4, g4⟩ := y
    dsimp only [gamV, gamF, GamP] at F hy2 ⊢
    rw [hgm] at hy2 ⊢
    dsimp only at hy2 ⊢
    obtain rfl : xs = g4 := hy2.1.symm
    have hn4 := hy2.2
    refine l_op 0 rfl rfl rfl rfl rfl ?_
    refine l_op 2 rfl rfl rfl rfl rfl ?_
    refine l_op 2 rfl rfl rfl rfl rfl ?_
    refine l_op 2 rfl rfl rfl rfl rfl ?_
    refine l_op 0 rfl rfl rfl rfl rfl ?_
    refine l_op 0 rfl rfl rfl rfl rfl ?_
    refine l_op 0 rfl rfl rfl rfl rfl ?_
    refine l_nil (WK.nx (by assumption) ?_)
    refine SeqK.nx (by assumption) ?_
    refine k_seq (fun Q K => ?_)
    refine k_lin (fun W K => ?_)
    refine l_op 0 rfl rfl rfl rfl rfl ?_
    refine l_callv rfl rfl (by kernel_rfl) rfl rfl num6_call ?_
    (try dsimp only [n_1, n_2, n_3, n_4, List.append_nil, pk, n_5, n_6] at F)
    refine l_cmp rfl rfl rfl rfl ?_
    refine l_op 0 rfl rfl rfl rfl rfl ?_
    refine l_guard rfl rfl rfl (fun hc5 => ?_) (fun hc5 => ?_)
    · first | replace hc5 := bne_iff_ne.1 ((irr_eq _).symm.trans hc5) | simp only [irr_eq, bne_iff_ne, bne_eq_false_iff_eq, ne_eq, decide_eq_true_eq, decide_eq_false_iff_not, Bool.not_eq_true', Bool.not_eq_false'] at hc5
      refine l_s rfl rfl ?_
      refine l_s rfl rfl ?_
      refine l_s rfl rfl ?_
      refine l_s rfl rfl ?_
      refine l_op 2 rfl rfl rfl rfl rfl ?_
      refine l_op 0 rfl rfl rfl rfl rfl ?_
      refine l_s rfl rfl ?_
      refine l_s rfl rfl ?_
      refine l_s rfl rfl ?_
      refine l_s rfl rfl ?_
      refine l_op 2 rfl rfl rfl rfl rfl ?_
      refine l_nil (WK.nx (by assumption) ?_)
      refine SeqK.nx (by assumption) ?_
      first | refine e_cond_t rfl rfl rfl ?_ | refine e_cond_t rfl rfl (by rw [irr_eq]; first | exact beq_iff_eq.2 (by assumption) | exact decide_eq_true (by assumption) | exact bne_iff_ne.2 (by assumption)) ?_
      refine k_seq (fun Q K => ?_)
      refine k_lin (fun W K => ?_)
      refine l_op 0 rfl rfl rfl rfl rfl ?_
      refine l_nil (WK.nx (by assumption) ?_)
      refine SeqK.nx (by assumption) ?_
      refine k_ret ?_
      refine SeqK.rt (by assumption) ?_
      refine FunK.rt (by assumption) rfl ?_
      -- leaf 4
      first
      | rfl
      | (simp_all [eqS_self]; done)
      | (exact absurd (eqS_self _) (by assumption))
    first | replace hc5 := bne_eq_false_iff_eq.1 ((irr_eq _).symm.trans hc5) | simp only [irr_eq, bne_iff_ne, bne_eq_false_iff_eq, ne_eq, decide_eq_true_eq, decide_eq_false_iff_not, Bool.not_eq_true', Bool.not_eq_false'] at hc5
    refine l_op 0 rfl rfl rfl rfl rfl ?_
    refine l_op 0 rfl rfl rfl rfl rfl ?_
    refine l_callp F rfl rfl (by kernel_rfl) rfl rfl (same_call (Old.pure (F.has 3 rfl)) (Old.pure (F.old hx))) (fun _ s F _ => ?_)
    refine l_op 2 rfl rfl rfl rfl rfl ?_
    refine l_op 2 rfl rfl rfl rfl rfl ?_
    refine l_op 0 rfl rfl rfl rfl rfl ?_
    refine l_guard rfl rfl rfl (fun hc6 => ?_) (fun hc6 => ?_)
    · try simp only [irr_eq, beq_iff_eq, bne_iff_ne, beq_eq_false_iff_ne, bne_eq_false_iff_eq, ne_eq, decide_eq_true_eq, decide_eq_false_iff_not, Bool.not_eq_true', Bool.not_eq_false'] at hc6
      refine l_s rfl rfl ?_
      refine l_s rfl rfl ?_
      refine l_s rfl rfl ?_
      refine l_s rfl rfl ?_
      refine l_op 2 rfl rfl rfl rfl rfl ?_
      refine l_nil (WK.nx (by assumption) ?_)
      refine SeqK.nx (by assumption) ?_
      first | refine e_cond_t rfl rfl rfl ?_ | refine e_cond_t rfl rfl (by rw [irr_eq]; first | exact beq_iff_eq.2 (by assumption) | exact decide_eq_true (by assumption) | exact bne_iff_ne.2 (by assumption)) ?_
      refine k_seq (fun Q K => ?_)
      refine k_lin (fun W K => ?_)
      refine l_op 0 rfl rfl rfl rfl rfl ?_
      refine l_nil (WK.nx (by assumption) ?_)
      refine SeqK.nx (by assumption) ?_
      refine k_ret ?_
      refine SeqK.rt (by assumption) ?_
      refine FunK.rt (by assumption) rfl ?_
      -- leaf 5
      first
      | rfl
      | (simp_all [eqS_self]; done)
      | (exact absurd (eqS_self _) (by assumption))
    try simp only [irr_eq, beq_iff_eq, bne_iff_ne, beq_eq_false_iff_ne, bne_eq_false_iff_eq, ne_eq, decide_eq_true_eq, decide_eq_false_iff_not, Bool.not_eq_true', Bool.not_eq_false'] at hc6
    refine l_op 0 rfl rfl rfl rfl rfl ?_
    refine l_op 0 rfl rfl rfl rfl rfl ?_
    first | refine l_op 2 rfl rfl rfl rfl rfl ?_ | refine l_ln rfl rfl rfl rfl ?_
    refine l_cmp rfl rfl rfl rfl ?_
    refine l_op 2 rfl rfl rfl rfl rfl ?_
    refine l_nil (WK.nx (by assumption) ?_)
    refine SeqK.nx (by assumption) ?_
    refine l_cond rfl rfl (fun hc7 => ?_) (fun hc7 => ?_)
    · first | replace hc7 := bne_iff_ne.1 ((irr_eq _).symm.trans hc7) | simp only [irr_eq, bne_iff_ne, bne_eq_false_iff_eq, ne_eq, decide_eq_true_eq, decide_eq_false_iff_not, Bool.not_eq_true', Bool.not_eq_false'] at hc7
      refine k_seq (fun Q K => ?_)
      refine k_lin (fun W K => ?_)
      refine l_op 0 rfl rfl rfl rfl rfl ?_
      refine l_nil (WK.nx (by assumption) ?_)
      refine SeqK.nx (by assumption) ?_
      refine k_ret ?_
      refine SeqK.rt (by assumption) ?_
      refine FunK.rt (by assumption) rfl ?_
      -- leaf 6
      first
      | rfl
      | (simp_all [eqS_self]; done)
      | (exact absurd (eqS_self _) (by assumption))
    first | replace hc7 := bne_eq_false_iff_eq.1 ((irr_eq _).symm.trans hc7) | simp only [irr_eq, bne_iff_ne, bne_eq_false_iff_eq, ne_eq, decide_eq_true_eq, decide_eq_false_iff_not, Bool.not_eq_true', Bool.not_eq_false'] at hc7
    refine k_skip ?_
    refine SeqK.nx (by assumption) ?_
    refine k_seq (fun Q K => ?_)
    refine k_lin (fun W K => ?_)
    replace F := F.pick [] (by decide)
    refine l_lit F rfl rfl rfl rfl (fun q72 s F => ?_)
    (try dsimp only [n_1, n_2, n_3, n_4, List.append_nil, pk, n_5, n_6] at F)
    replace F : Facts E0 σ s [own (some ⟨q72, 0, some 0⟩) 4 4 1 (u8l [71, 108, 117, 108])] := F
    refine l_cvs F 0 rfl rfl rfl rfl rfl hD ?_
    refine l_op 0 rfl rfl rfl rfl rfl ?_
    refine l_appi (kk := .u8) (xs := [71, 108, 117, 108]) F 0 rfl rfl rfl rfl rfl rfl rfl (F.old hx) rfl (by omega) hD (fun x5 k5 s F => ?_)
    (try dsimp only [n_1, n_2, n_3, n_4, List.append_nil, pk, n_5, n_6] at F)
    replace F : Facts E0 σ s [own x5 (n + 4) k5 1 (u8l ([71, 108, 117, 108] ++ xs))] := by rw [show n + 4 = 3 + 1 + n by omega]; exact F
    rw [show 3 + 1 + n = n + 4 by omega]
    refine l_op 0 rfl rfl rfl rfl rfl ?_
    refine l_nil (WK.nx (by assumption) ?_)
    refine SeqK.nx (by assumption) ?_
    refine k_seq (fun Q K => ?_)
    refine k_lin (fun W K => ?_)
    refine l_op 0 rfl rfl rfl rfl rfl ?_
    have hcap5 : n + 4 ≤ k5 := by obtain ⟨_, hR, _⟩ := F.has 0 rfl; exact hR.size.2
    refine l_callp F rfl rfl (by kernel_rfl) rfl rfl (game_call (bs := [71, 108, 117, 108] ++ xs) (Old.pure (F.has 0 rfl)) (Bytes.app (bytes_mem.2 fun x hx => by simp at hx; omega) hB) (by omega) (.inr (by omega))) (fun y s F hy5 => ?_)
    (try dsimp only [n_1, n_2, n_3, n_4, List.append_nil, pk, n_5, n_6] at F)
    obtain ⟨x6, n6, d6, g6⟩ := y
    dsimp only [gamV, gamF, GamP] at F hy5 ⊢
    have hlr : (([71, 108, 117, 108] ++ xs).length : Int) = n + 4 := by simp only [List.length_append, List.length_cons, List.length_nil]; omega
    rw [game_raw, hlr] at hy5 ⊢
    dsimp only at hy5 ⊢
    obtain rfl : [71, 108, 117, 108] ++ xs = g6 := hy5.1.symm
    refine l_op 0 rfl rfl rfl rfl rfl ?_
    refine l_op 2 rfl rfl rfl rfl rfl ?_
    refine l_op 2 rfl rfl rfl rfl rfl ?_
    refine l_op 2 rfl rfl rfl rfl rfl ?_
    refine l_op 0 rfl rfl rfl rfl rfl ?_
    refine l_op 0 rfl rfl rfl rfl rfl ?_
    refine l_op 0 rfl rfl rfl rfl rfl ?_
    refine l_nil (WK.nx (by assumption) ?_)
    refine SeqK.nx (by assumption) ?_
    refine k_seq (fun Q K => ?_)
    refine k_lin (fun W K => ?_)
    refine l_op 0 rfl rfl rfl rfl rfl ?_
    refine l_callv rfl rfl (by kernel_rfl) rfl rfl num6_call ?_
    (try dsimp only [n_1, n_2, n_3, n_4, List.append_nil, pk, n_5, n_6] at F)
    refine l_cmp rfl rfl rfl rfl ?_
    refine l_op 0 rfl rfl rfl rfl rfl ?_
    refine l_guard rfl rfl rfl (fun hc8 => ?_) (fun hc8 => ?_)
    · first | replace hc8 := eq_of_beq ((irr_eq _).symm.trans hc8) | simp only [irr_eq, beq_iff_eq, beq_eq_false_iff_ne, ne_eq, decide_eq_true_eq, decide_eq_false_iff_not] at hc8
      refine l_op 0 rfl rfl rfl rfl rfl ?_
      refine l_op 0 rfl rfl rfl rfl rfl ?_
      refine l_callp F rfl rfl (by kernel_rfl) rfl rfl (same_call (Old.pure (F.has 1 rfl)) (Old.pure (F.has 0 rfl))) (fun _ s F _ => ?_)
      refine l_op 2 rfl rfl rfl rfl rfl ?_
      refine l_op 0 rfl rfl rfl rfl rfl ?_
      refine l_guard rfl rfl rfl (fun hc9 => ?_) (fun hc9 => ?_)
      · try simp only [irr_eq, beq_iff_eq, bne_iff_ne, beq_eq_false_iff_ne, bne_eq_false_iff_eq, ne_eq, decide_eq_true_eq, decide_eq_false_iff_not, Bool.not_eq_true', Bool.not_eq_false'] at hc9
        refine l_op 0 rfl rfl rfl rfl rfl ?_
        refine l_op 0 rfl rfl rfl rfl rfl ?_
        first | refine l_op 2 rfl rfl rfl rfl rfl ?_ | refine l_ln rfl rfl rfl rfl ?_
        refine l_cmp rfl rfl rfl rfl ?_
        refine l_op 2 rfl rfl rfl rfl rfl ?_
        refine l_op 0 rfl rfl rfl rfl rfl ?_
        refine l_guard rfl rfl rfl (fun hc10 => ?_) (fun hc10 => ?_)
        · first | replace hc10 := eq_of_beq ((irr_eq _).symm.trans hc10) | simp only [irr_eq, beq_iff_eq, beq_eq_false_iff_ne, ne_eq, decide_eq_true_eq, decide_eq_false_iff_not] at hc10
          refine l_callp F rfl rfl (by kernel_rfl) rfl rfl live6_call (fun _ s F _ => ?_)
          (try dsimp only [n_1, n_2, n_3, n_4, List.append_nil, pk, n_5, n_6] at F)
          refine l_op 2 rfl rfl rfl rfl rfl ?_
          refine l_op 0 rfl rfl rfl rfl rfl ?_
          refine l_nil (WK.nx (by assumption) ?_)
          refine SeqK.nx (by assumption) ?_
          refine k_ret ?_
          refine FunK.rt (by assumption) rfl ?_
          -- leaf 7
          first
          | rfl
          | (simp_all [eqS_self]; done)
          | (exact absurd (eqS_self _) (by assumption))
        first | replace hc10 := ne_of_beq_false ((irr_eq _).symm.trans hc10) | simp only [irr_eq, beq_iff_eq, beq_eq_false_iff_ne, ne_eq, decide_eq_true_eq, decide_eq_false_iff_not] at hc10
        refine l_s rfl rfl ?_
        refine l_op 2 rfl rfl rfl rfl rfl ?_
        refine l_op 0 rfl rfl rfl rfl rfl ?_
        refine l_nil (WK.nx (by assumption) ?_)
        refine SeqK.nx (by assumption) ?_
        refine k_ret ?_
        refine FunK.rt (by assumption) rfl ?_
        -- leaf 8
        first
        | rfl
        | (simp_all [eqS_self]; done)
        | (exact absurd (eqS_self _) (by assumption))
      try simp only [irr_eq, beq_iff_eq, bne_iff_ne, beq_eq_false_iff_ne, bne_eq_false_iff_eq, ne_eq, decide_eq_true_eq, decide_eq_false_iff_not, Bool.not_eq_true', Bool.not_eq_false'] at hc9
      refine l_s rfl rfl ?_
      refine l_s rfl rfl ?_
      refine l_s rfl rfl ?_
      refine l_s rfl rfl ?_
      refine l_op 2 rfl rfl rfl rfl rfl ?_
      refine l_op 0 rfl rfl rfl rfl rfl ?_
      refine l_s rfl rfl ?_
      refine l_op 2 rfl rfl rfl rfl rfl ?_
      refine l_op 0 rfl rfl rfl rfl rfl ?_
      refine l_nil (WK.nx (by assumption) ?_)
      refine SeqK.nx (by assumption) ?_
      refine k_ret ?_
      refine FunK.rt (by assumption) rfl ?_
      -- leaf 9
      first
      | rfl
      | (simp_all [eqS_self]; done)
      | (exact absurd (eqS_self _) (by assumption))
    first | replace hc8 := ne_of_beq_false ((irr_eq _).symm.trans hc8) | simp only [irr_eq, beq_iff_eq, beq_eq_false_iff_ne, ne_eq, decide_eq_true_eq, decide_eq_false_iff_not] at hc8
    refine l_s rfl rfl ?_
    refine l_s rfl rfl ?_
    refine l_s rfl rfl ?_
    refine l_op 2 rfl rfl rfl rfl rfl ?_
    refine l_op 0 rfl rfl rfl rfl rfl ?_
    refine l_s rfl rfl ?_
    refine l_s rfl rfl ?_
    refine l_s rfl rfl ?_
    refine l_s rfl rfl ?_
    refine l_op 2 rfl rfl rfl rfl rfl ?_
    refine l_op 0 rfl rfl rfl rfl rfl ?_
    refine l_s rfl rfl ?_
    refine l_op 2 rfl rfl rfl rfl rfl ?_
    refine l_op 0 rfl rfl rfl rfl rfl ?_
    refine l_nil (WK.nx (by assumption) ?_)
    refine SeqK.nx (by assumption) ?_
    refine k_ret ?_
    refine FunK.rt (by assumption) rfl ?_
    -- leaf 10
    first
    | rfl
    | (simp_all [eqS_self]; done)
    | (exact absurd (eqS_self _) (by assumption))
  first | replace hc4 := ne_of_beq_false ((irr_eq _).symm.trans hc4) | simp only [irr_eq, beq_iff_eq, beq_eq_false_iff_ne, ne_eq, decide_eq_true_eq, decide_eq_false_iff_not] at hc4
  have hone : l = 0 → l2 = 0 → False := fun q1 q2 => by
    have e1 : rs = [] := List.eq_nil_of_length_eq_zero (by omega)
    have e2 : us = [] := List.eq_nil_of_length_eq_zero (by omega)
    subst e1; subst e2
    exact hc4 (lay_one hy1 (by omega))
  refine k_seq (fun Q K => ?_)
  refine k_lin (fun W K => ?_)
  refine l_op 0 rfl rfl rfl rfl rfl ?_
  first | refine l_op 2 rfl rfl rfl rfl rfl ?_ | refine l_ln rfl rfl rfl rfl ?_
  refine l_op 0 rfl rfl rfl rfl rfl ?_
  first | refine l_op 2 rfl rfl rfl rfl rfl ?_ | refine l_ln rfl rfl rfl rfl ?_
  refine l_a64 rfl rfl rfl (by omega) rfl ?_
  refine l_cmp rfl rfl rfl rfl ?_
  refine l_nil (WK.nx (by assumption) ?_)
  refine SeqK.nx (by assumption) ?_
  refine l_cond rfl rfl (fun hc11 => ?_) (fun hc11 => ?_)
  · first | replace hc11 := eq_of_beq ((irr_eq _).symm.trans hc11) | simp only [irr_eq, beq_iff_eq, beq_eq_false_iff_ne, ne_eq, decide_eq_true_eq, decide_eq_false_iff_not] at hc11
    exact (hone (by omega) (by omega)).elim
  first | replace hc11 := ne_of_beq_false ((irr_eq _).symm.trans hc11) | simp only [irr_eq, beq_iff_eq, beq_eq_false_iff_ne, ne_eq, decide_eq_true_eq, decide_eq_false_iff_not] at hc11
  refine k_skip ?_
  refine SeqK.nx (by assumption) ?_
  refine k_seq (fun Q K => ?_)
  refine k_lin (fun W K => ?_)
  replace F := F.pick [] (by decide)
  refine l_lit F rfl rfl rfl rfl (fun q72 s F => ?_)
  (try dsimp only [n_1, n_2, n_3, n_4, List.append_nil, pk, n_5, n_6] at F)
  replace F : Facts E0 σ s [own (some ⟨q72, 0, some 0⟩) 4 4 1 (u8l [71, 108, 117, 108])] := F
  refine l_cvs F 0 rfl rfl rfl rfl rfl hD ?_
  refine l_op 0 rfl rfl rfl rfl rfl ?_
  refine l_appi (kk := .u8) (xs := [71, 108, 117, 108]) F 0 rfl rfl rfl rfl rfl rfl rfl (F.old hx) rfl (by omega) hD (fun x5 k5 s F => ?_)
  (try dsimp only [n_1, n_2, n_3, n_4, List.append_nil, pk, n_5, n_6] at F)
  replace F : Facts E0 σ s [own x5 (n + 4) k5 1 (u8l ([71, 108, 117, 108] ++ xs))] := by rw [show n + 4 = 3 + 1 + n by omega]; exact F
  rw [show 3 + 1 + n = n + 4 by omega]
  refine l_op 0 rfl rfl rfl rfl rfl ?_
  refine l_nil (WK.nx (by assumption) ?_)
  refine SeqK.nx (by assumption) ?_
  refine k_seq (fun Q K => ?_)
  refine k_lin (fun W K => ?_)
  refine l_op 0 rfl rfl rfl rfl rfl ?_
  have hcap5 : n + 4 ≤ k5 := by obtain ⟨_, hR, _⟩ := F.has 0 rfl; exact hR.size.2
  refine l_callp F rfl rfl (by kernel_rfl) rfl rfl (game_call (bs := [71, 108, 117, 108] ++ xs) (Old.pure (F.has 0 rfl)) (Bytes.app (bytes_mem.2 fun x hx => by simp at hx; omega) hB) (by omega) (.inr (by omega))) (fun y s F hy5 => ?_)
  (try dsimp only [n_1, n_2, n_3, n_4, List.append_nil, pk, n_5, n_6] at F)
  obtain ⟨x6, n6, d6, g6⟩ := y
  dsimp only [gamV, gamF, GamP] at F hy5 ⊢
  have hlr : (([71, 108, 117, 108] ++ xs).length : Int) = n + 4 := by simp only [List.length_append, List.length_cons, List.length_nil]; omega
  rw [game_raw, hlr] at hy5 ⊢
  dsimp only at hy5 ⊢
  obtain rfl : [71, 108, 117, 108] ++ xs = g6 := hy5.1.symm
  refine l_op 0 rfl rfl rfl rfl rfl ?_
  refine l_op 2 rfl rfl rfl rfl rfl ?_
  refine l_op 2 rfl rfl rfl rfl rfl ?_
  refine l_op 2 rfl rfl rfl rfl rfl ?_
  refine l_op 0 rfl rfl rfl rfl rfl ?_
  refine l_op 0 rfl rfl rfl rfl rfl ?_
  refine l_op 0 rfl rfl rfl rfl rfl ?_
  refine l_nil (WK.nx (by assumption) ?_)
  refine SeqK.nx (by assumption) ?_
  refine k_seq (fun Q K => ?_)
  refine k_lin (fun W K => ?_)
  refine l_op 0 rfl rfl rfl rfl rfl ?_
  refine l_callv rfl rfl (by kernel_rfl) rfl rfl num6_call ?_
  (try dsimp only [n_1, n_2, n_3, n_4, List.append_nil, pk, n_5, n_6] at F)
  refine l_cmp rfl rfl rfl rfl ?_
  refine l_op 0 rfl rfl rfl rfl rfl ?_
  refine l_guard rfl rfl rfl (fun hc12 => ?_) (fun hc12 => ?_)
  · first | replace hc12 := eq_of_beq ((irr_eq _).symm.trans hc12) | simp only [irr_eq, beq_iff_eq, beq_eq_false_iff_ne, ne_eq, decide_eq_true_eq, decide_eq_false_iff_not] at hc12
    refine l_op 0 rfl rfl rfl rfl rfl ?_
    refine l_op 0 rfl rfl rfl rfl rfl ?_
    refine l_callp F rfl rfl (by kernel_rfl) rfl rfl (same_call (Old.pure (F.has 1 rfl)) (Old.pure (F.has 0 rfl))) (fun _ s F _ => ?_)
    refine l_op 2 rfl rfl rfl rfl rfl ?_
    refine l_op 0 rfl rfl rfl rfl rfl ?_
    refine l_guard rfl rfl rfl (fun hc13 => ?_) (fun hc13 => ?_)
    · try simp only [irr_eq, beq_iff_eq, bne_iff_ne, beq_eq_false_iff_ne, bne_eq_false_iff_eq, ne_eq, decide_eq_true_eq, decide_eq_false_iff_not, Bool.not_eq_true', Bool.not_eq_false'] at hc13
      refine l_op 0 rfl rfl rfl rfl rfl ?_
      refine l_op 0 rfl rfl rfl rfl rfl ?_
      first | refine l_op 2 rfl rfl rfl rfl rfl ?_ | refine l_ln rfl rfl rfl rfl ?_
      refine l_cmp rfl rfl rfl rfl ?_
      refine l_op 2 rfl rfl rfl rfl rfl ?_
      refine l_op 0 rfl rfl rfl rfl rfl ?_
      refine l_guard rfl rfl rfl (fun hc14 => ?_) (fun hc14 => ?_)
      · first | replace hc14 := eq_of_beq ((irr_eq _).symm.trans hc14) | simp only [irr_eq, beq_iff_eq, beq_eq_false_iff_ne, ne_eq, decide_eq_true_eq, decide_eq_false_iff_not] at hc14
        refine l_callp F rfl rfl (by kernel_rfl) rfl rfl live6_call (fun _ s F _ => ?_)
        (try dsimp only [n_1, n_2, n_3, n_4, List.append_nil, pk, n_5, n_6] at F)
        refine l_op 2 rfl rfl rfl rfl rfl ?_
        refine l_op 0 rfl rfl rfl rfl rfl ?_
        refine l_nil (WK.nx (by assumption) ?_)
        refine SeqK.nx (by assumption) ?_
        refine k_ret ?_
        refine FunK.rt (by assumption) rfl ?_
        -- leaf 11
        first
        | rfl
        | (simp_all [eqS_self]; done)
        | (exact absurd (eqS_self _) (by assumption))
      first | replace hc14 := ne_of_beq_false ((irr_eq _).symm.trans hc14) | simp only [irr_eq, beq_iff_eq, beq_eq_false_iff_ne, ne_eq, decide_eq_true_eq, decide_eq_false_iff_not] at hc14
      refine l_s rfl rfl ?_
      refine l_op 2 rfl rfl rfl rfl rfl ?_
      refine l_op 0 rfl rfl rfl rfl rfl ?_
      refine l_nil (WK.nx (by assumption) ?_)
      refine SeqK.nx (by assumption) ?_
      refine k_ret ?_
      refine FunK.rt (by assumption) rfl ?_
      -- leaf 12
      first
      | rfl
      | (simp_all [eqS_self]; done)
      | (exact absurd (eqS_self _) (by assumption))
    try simp only [irr_eq, beq_iff_eq, bne_iff_ne, beq_eq_false_iff_ne, bne_eq_false_iff_eq, ne_eq, decide_eq_true_eq, decide_eq_false_iff_not, Bool.not_eq_true', Bool.not_eq_false'] at hc13
    refine l_s rfl rfl ?_
    refine l_s rfl rfl ?_
    refine l_s rfl rfl ?_
    refine l_s rfl rfl ?_
    refine l_op 2 rfl rfl rfl rfl rfl ?_
    refine l_op 0 rfl rfl rfl rfl rfl ?_
    refine l_s rfl rfl ?_
    refine l_op 2 rfl rfl rfl rfl rfl ?_
    refine l_op 0 rfl rfl rfl rfl rfl ?_
    refine l_nil (WK.nx (by assumption) ?_)
    refine SeqK.nx (by assumption) ?_
    refine k_ret ?_
    refine FunK.rt (by assumption) rfl ?_
    -- leaf 13
    first
    | rfl
    | (simp_all [eqS_self]; done)
    | (exact absurd (eqS_self _) (by assumption))
  first | replace hc12 := ne_of_beq_false ((irr_eq _).symm.trans hc12) | simp only [irr_eq, beq_iff_eq, beq_eq_false_iff_ne, ne_eq, decide_eq_true_eq, decide_eq_false_iff_not] at hc12
  refine l_s rfl rfl ?_
  refine l_s rfl rfl ?_
  refine l_s rfl rfl ?_
  refine l_op 2 rfl rfl rfl rfl rfl ?_
  refine l_op 0 rfl rfl rfl rfl rfl ?_
  refine l_s rfl rfl ?_
  refine l_s rfl rfl ?_
  refine l_s rfl rfl ?_
  refine l_s rfl rfl ?_
  refine l_op 2 rfl rfl rfl rfl rfl ?_
  refine l_op 0 rfl rfl rfl rfl rfl ?_
  refine l_s rfl rfl ?_
  refine l_op 2 rfl rfl rfl rfl rfl ?_
  refine l_op 0 rfl rfl rfl rfl rfl ?_
  refine l_nil (WK.nx (by assumption) ?_)
  refine SeqK.nx (by assumption) ?_
  refine k_ret ?_
  refine FunK.rt (by assumption) rfl ?_
  -- leaf 14
  first
  | rfl
  | (simp_all [eqS_self]; done)
  | (exact absurd (eqS_self _) (by assumption))

end Go.Proofs.Ytkmkbpnlccomnaa
