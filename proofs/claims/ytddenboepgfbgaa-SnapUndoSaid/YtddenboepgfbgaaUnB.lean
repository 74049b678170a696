/- The ring of states. No statement of the seat is proved in this text. -/
import Derived.Test.YtddenboepgfbgaaUnA
set_option linter.unusedVariables false
set_option linter.unusedSimpArgs false
set_option maxRecDepth 100000
set_option maxHeartbeats 4000000
namespace Go.Proofs.Ytddenboepgfbgaa
open GAb Go

theorem sdel_call {O : Nat → Prop} {σ : AState} {m c n : Nat} {bl : List SS} (hbl : bl.length = n + 1) (F : Facts O σ σ [own (some ⟨m, 0, some 0⟩) (n + 1) c 4 (rows eS bl)]) (hn : n ≤ 100000) :
    SCall Try.prog O 41 [.slice (some ⟨m, 0, some 0⟩) (n + 1) c, .int .i64 0, .int .i64 1] σ (Ret O σ (fun (_ : Unit) => .slice (some ⟨m, 0, some 0⟩) n c) (fun _ => [own (some ⟨m, 0, some 0⟩) n c 4 (rows eS (bl.eraseIdx 0))]) fun _ => True) := by
  have h := delete_call (O := O) (σ := σ) (m := m) (c := c) (i := 0) (bl := bl) (by rw [hbl]; exact F) (by omega) (by omega)
  rw [hbl] at h
  exact h
/-- What is kept behind a push. -/
def pushR (most : Int) (L : List SS) (t : SS) : List SS := if (L.length : Int) + 1 > most then (L ++ [t]).eraseIdx 0 else L ++ [t]
abbrev rF (m : Nat) (most : Int) (a : Option Addr) (c : Nat) (L : List SS) : List Fact := [cel m [.slice a L.length c, .int .i64 most], own a L.length c 4 (rows eS L)]
theorem rpush_call {O : Nat → Prop} {σ : AState} {m c : Nat} {a : Option Addr} {most : Int} {L : List SS} {t : SS} (F : Facts O σ σ (rF m most a c L)) (hEx : Ex a) (hn : L.length ≤ 1000) :
    SCall Try.prog O 30 [.pointer (some ⟨m, 0, none⟩), .agg (eS t).toArray] σ (Ret O σ (fun (y : Option Addr × Nat) => .tuple #[]) (fun y => rF m most y.1 y.2 (pushR most L t)) fun y => Ex y.1) := by
  refine k_fun Try.func30 rfl (m := 32) rfl fun B hD Q K => ?_
  refine k_seq (fun Q K => ?_)
  refine k_lin (fun W K => ?_)
  refine l_bx F rfl rfl rfl rfl rfl (fun q3 s F => ?_)
  (try dsimp only [n_1, n_2, n_3, n_4, List.append_nil, pk, n_5, n_6] at F)
  refine l_nil (WK.nx (by assumption) ?_)
  refine SeqK.nx (by assumption) ?_
  refine k_seq (fun Q K => ?_)
  refine k_linr mixed (by kernel_rfl) (fun W K => ?_)
  try have hpS := F.pns
  refine l_op 0 rfl rfl rfl rfl rfl ?_
  refine l_op 0 rfl rfl rfl rfl rfl ?_
  refine l_op 2 rfl rfl rfl rfl rfl ?_
  refine l_op 2 rfl rfl rfl rfl rfl ?_
  (first | refine l_ld0 rfl rfl rfl rfl rfl (by assumption) ?_ | refine l_ldj rfl rfl rfl rfl rfl rfl (by assumption) rfl ?_ | refine l_ldc F 0 rfl rfl rfl rfl rfl rfl rfl ?_ | refine l_ldc F 1 rfl rfl rfl rfl rfl rfl rfl ?_ | refine l_ldc F 2 rfl rfl rfl rfl rfl rfl rfl ?_ | refine l_ldc F 3 rfl rfl rfl rfl rfl rfl rfl ?_ | refine l_ldc F 4 rfl rfl rfl rfl rfl rfl rfl ?_ | refine l_ldc F 5 rfl rfl rfl rfl rfl rfl rfl ?_ | refine l_ldc F 6 rfl rfl rfl rfl rfl rfl rfl ?_ | refine l_ldc F 7 rfl rfl rfl rfl rfl rfl rfl ?_ | refine l_ldc F 8 rfl rfl rfl rfl rfl rfl rfl ?_ | refine l_ldc F 9 rfl rfl rfl rfl rfl rfl rfl ?_ | refine l_lda rfl rfl rfl rfl rfl (by assumption) ?_ | refine l_ldca F 0 rfl rfl rfl rfl rfl rfl rfl ?_ | refine l_ldca F 1 rfl rfl rfl rfl rfl rfl rfl ?_ | refine l_ldca F 2 rfl rfl rfl rfl rfl rfl rfl ?_ | refine l_ldca F 3 rfl rfl rfl rfl rfl rfl rfl ?_ | refine l_ldca F 4 rfl rfl rfl rfl rfl rfl rfl ?_ | refine l_ldca F 5 rfl rfl rfl rfl rfl rfl rfl ?_ | refine l_ldca F 6 rfl rfl rfl rfl rfl rfl rfl ?_ | refine l_ldca F 7 rfl rfl rfl rfl rfl rfl rfl ?_ | refine l_ldca F 8 rfl rfl rfl rfl rfl rfl rfl ?_ | refine l_ldca F 9 rfl rfl rfl rfl rfl rfl rfl ?_ | refine l_ldo F (by assumption) rfl rfl rfl rfl rfl rfl ?_ | refine l_ldoa F (by assumption) rfl rfl rfl rfl rfl rfl ?_)
  first | have hpS := PnS.add hpS hS6 | have hpS := PnS.add hpS (OldC.sf (by assumption)) | skip
  (first | refine l_ld0 rfl rfl rfl rfl rfl (by assumption) ?_ | refine l_ldj rfl rfl rfl rfl rfl rfl (by assumption) rfl ?_ | refine l_ldc F 0 rfl rfl rfl rfl rfl rfl rfl ?_ | refine l_ldc F 1 rfl rfl rfl rfl rfl rfl rfl ?_ | refine l_ldc F 2 rfl rfl rfl rfl rfl rfl rfl ?_ | refine l_ldc F 3 rfl rfl rfl rfl rfl rfl rfl ?_ | refine l_ldc F 4 rfl rfl rfl rfl rfl rfl rfl ?_ | refine l_ldc F 5 rfl rfl rfl rfl rfl rfl rfl ?_ | refine l_ldc F 6 rfl rfl rfl rfl rfl rfl rfl ?_ | refine l_ldc F 7 rfl rfl rfl rfl rfl rfl rfl ?_ | refine l_ldc F 8 rfl rfl rfl rfl rfl rfl rfl ?_ | refine l_ldc F 9 rfl rfl rfl rfl rfl rfl rfl ?_ | refine l_lda rfl rfl rfl rfl rfl (by assumption) ?_ | refine l_ldca F 0 rfl rfl rfl rfl rfl rfl rfl ?_ | refine l_ldca F 1 rfl rfl rfl rfl rfl rfl rfl ?_ | refine l_ldca F 2 rfl rfl rfl rfl rfl rfl rfl ?_ | refine l_ldca F 3 rfl rfl rfl rfl rfl rfl rfl ?_ | refine l_ldca F 4 rfl rfl rfl rfl rfl rfl rfl ?_ | refine l_ldca F 5 rfl rfl rfl rfl rfl rfl rfl ?_ | refine l_ldca F 6 rfl rfl rfl rfl rfl rfl rfl ?_ | refine l_ldca F 7 rfl rfl rfl rfl rfl rfl rfl ?_ | refine l_ldca F 8 rfl rfl rfl rfl rfl rfl rfl ?_ | refine l_ldca F 9 rfl rfl rfl rfl rfl rfl rfl ?_ | refine l_ldo F (by assumption) rfl rfl rfl rfl rfl rfl ?_ | refine l_ldoa F (by assumption) rfl rfl rfl rfl rfl rfl ?_)
  first | have hpS := PnS.add hpS hS3 | have hpS := PnS.add hpS (OldC.sf (by assumption)) | skip
  refine l_lit F rfl rfl rfl rfl (fun q10 s F => ?_) (.inl (PnA.cel F 2 rfl (PnA.cel F 0 rfl pna_nil)))
  (try dsimp only [n_1, n_2, n_3, n_4, List.append_nil, pk, n_5, n_6] at F)
  refine l_appx (es := 4) F 1 rfl rfl rfl rfl rfl rfl rfl hEx rfl rfl (F.has 3 rfl) rfl rfl (by omega) hD (fun x2 c2 s hx2 F => ?_) (.inl (PnA.celE F 2 1 rfl rfl (by decide) (PnA.celE F 0 1 rfl rfl (by decide) pna_nil)))
  (try dsimp only [n_1, n_2, n_3, n_4, List.append_nil, pk, n_5, n_6] at F)
  refine l_op 2 rfl rfl rfl rfl rfl ?_
  refine l_op 2 rfl rfl rfl rfl rfl ?_
  refine l_rs (by kernel_rfl) ?_
  (first | refine l_stc F 0 rfl rfl rfl rfl rfl rfl rfl rfl rfl hD (fun s F => ?_) | refine l_stc F 1 rfl rfl rfl rfl rfl rfl rfl rfl rfl hD (fun s F => ?_) | refine l_stc F 2 rfl rfl rfl rfl rfl rfl rfl rfl rfl hD (fun s F => ?_) | refine l_stc F 3 rfl rfl rfl rfl rfl rfl rfl rfl rfl hD (fun s F => ?_) | refine l_stc F 4 rfl rfl rfl rfl rfl rfl rfl rfl rfl hD (fun s F => ?_) | refine l_stc F 5 rfl rfl rfl rfl rfl rfl rfl rfl rfl hD (fun s F => ?_) | refine l_stc F 6 rfl rfl rfl rfl rfl rfl rfl rfl rfl hD (fun s F => ?_) | refine l_stc F 7 rfl rfl rfl rfl rfl rfl rfl rfl rfl hD (fun s F => ?_) | refine l_stc F 8 rfl rfl rfl rfl rfl rfl rfl rfl rfl hD (fun s F => ?_) | refine l_stc F 9 rfl rfl rfl rfl rfl rfl rfl rfl rfl hD (fun s F => ?_) | refine l_stca F 0 rfl rfl rfl rfl rfl rfl rfl rfl rfl rfl hD rfl (fun s F => ?_) | refine l_stca F 1 rfl rfl rfl rfl rfl rfl rfl rfl rfl rfl hD rfl (fun s F => ?_) | refine l_stca F 2 rfl rfl rfl rfl rfl rfl rfl rfl rfl rfl hD rfl (fun s F => ?_) | refine l_stca F 3 rfl rfl rfl rfl rfl rfl rfl rfl rfl rfl hD rfl (fun s F => ?_) | refine l_stca F 4 rfl rfl rfl rfl rfl rfl rfl rfl rfl rfl hD rfl (fun s F => ?_) | refine l_stca F 5 rfl rfl rfl rfl rfl rfl rfl rfl rfl rfl hD rfl (fun s F => ?_) | refine l_stca F 6 rfl rfl rfl rfl rfl rfl rfl rfl rfl rfl hD rfl (fun s F => ?_) | refine l_stca F 7 rfl rfl rfl rfl rfl rfl rfl rfl rfl rfl hD rfl (fun s F => ?_) | refine l_stca F 8 rfl rfl rfl rfl rfl rfl rfl rfl rfl rfl hD rfl (fun s F => ?_) | refine l_stca F 9 rfl rfl rfl rfl rfl rfl rfl rfl rfl rfl hD rfl (fun s F => ?_) | refine l_stoi F 0 rfl rfl rfl rfl rfl rfl rfl (by omega) hD (fun s F => ?_) | refine l_stoi F 1 rfl rfl rfl rfl rfl rfl rfl (by omega) hD (fun s F => ?_) | refine l_stoi F 2 rfl rfl rfl rfl rfl rfl rfl (by omega) hD (fun s F => ?_) | refine l_stoi F 3 rfl rfl rfl rfl rfl rfl rfl (by omega) hD (fun s F => ?_) | refine l_stoi F 4 rfl rfl rfl rfl rfl rfl rfl (by omega) hD (fun s F => ?_) | refine l_stoi F 5 rfl rfl rfl rfl rfl rfl rfl (by omega) hD (fun s F => ?_) | refine l_stoi F 6 rfl rfl rfl rfl rfl rfl rfl (by omega) hD (fun s F => ?_) | refine l_stoi F 7 rfl rfl rfl rfl rfl rfl rfl (by omega) hD (fun s F => ?_) | refine l_stoi F 8 rfl rfl rfl rfl rfl rfl rfl (by omega) hD (fun s F => ?_) | refine l_stoi F 9 rfl rfl rfl rfl rfl rfl rfl (by omega) hD (fun s F => ?_))
  (try dsimp only [n_1, n_2, n_3, n_4, List.append_nil, pk, n_5, n_6] at F)
  have F0 : Facts O σ s [cel m [.slice x2 (L.length + 1) c2, .int .i64 most], own x2 (L.length + 1) c2 4 (rows eS (L ++ [t]))] := by
    rw [rows_append]; exact F.pick [0, 1] (by decide)
  clear F
  have F := F0
  clear F0
  have hl1 : (L ++ [t]).length = L.length + 1 := by simp
  refine l_nil (WK.nx (by assumption) ?_)
  refine SeqK.nx (by assumption) ?_
  refine k_seq (fun Q K => ?_)
  refine k_linm [0, 1, 2, 5, 6, 7, 3, 4, 8, 9] mixed (by kernel_rfl) (fun W K => ?_)
  try have hpS := F.pns
  refine l_op 0 rfl rfl rfl rfl rfl ?_
  refine l_op 2 rfl rfl rfl rfl rfl ?_
  refine l_op 2 rfl rfl rfl rfl rfl ?_
  refine l_op 0 rfl rfl rfl rfl rfl ?_
  refine l_op 2 rfl rfl rfl rfl rfl ?_
  refine l_op 2 rfl rfl rfl rfl rfl ?_
  (first | refine l_ld0 rfl rfl rfl rfl rfl (by assumption) ?_ | refine l_ldj rfl rfl rfl rfl rfl rfl (by assumption) rfl ?_ | refine l_ldc F 0 rfl rfl rfl rfl rfl rfl rfl ?_ | refine l_ldc F 1 rfl rfl rfl rfl rfl rfl rfl ?_ | refine l_ldc F 2 rfl rfl rfl rfl rfl rfl rfl ?_ | refine l_ldc F 3 rfl rfl rfl rfl rfl rfl rfl ?_ | refine l_ldc F 4 rfl rfl rfl rfl rfl rfl rfl ?_ | refine l_ldc F 5 rfl rfl rfl rfl rfl rfl rfl ?_ | refine l_ldc F 6 rfl rfl rfl rfl rfl rfl rfl ?_ | refine l_ldc F 7 rfl rfl rfl rfl rfl rfl rfl ?_ | refine l_ldc F 8 rfl rfl rfl rfl rfl rfl rfl ?_ | refine l_ldc F 9 rfl rfl rfl rfl rfl rfl rfl ?_ | refine l_lda rfl rfl rfl rfl rfl (by assumption) ?_ | refine l_ldca F 0 rfl rfl rfl rfl rfl rfl rfl ?_ | refine l_ldca F 1 rfl rfl rfl rfl rfl rfl rfl ?_ | refine l_ldca F 2 rfl rfl rfl rfl rfl rfl rfl ?_ | refine l_ldca F 3 rfl rfl rfl rfl rfl rfl rfl ?_ | refine l_ldca F 4 rfl rfl rfl rfl rfl rfl rfl ?_ | refine l_ldca F 5 rfl rfl rfl rfl rfl rfl rfl ?_ | refine l_ldca F 6 rfl rfl rfl rfl rfl rfl rfl ?_ | refine l_ldca F 7 rfl rfl rfl rfl rfl rfl rfl ?_ | refine l_ldca F 8 rfl rfl rfl rfl rfl rfl rfl ?_ | refine l_ldca F 9 rfl rfl rfl rfl rfl rfl rfl ?_ | refine l_ldo F (by assumption) rfl rfl rfl rfl rfl rfl ?_ | refine l_ldoa F (by assumption) rfl rfl rfl rfl rfl rfl ?_)
  first | have hpS := PnS.add hpS hS15 | have hpS := PnS.add hpS (OldC.sf (by assumption)) | skip
  first | refine l_op 2 rfl rfl rfl rfl rfl ?_ | refine l_ln rfl rfl rfl rfl ?_
  (first | refine l_ld0 rfl rfl rfl rfl rfl (by assumption) ?_ | refine l_ldj rfl rfl rfl rfl rfl rfl (by assumption) rfl ?_ | refine l_ldc F 0 rfl rfl rfl rfl rfl rfl rfl ?_ | refine l_ldc F 1 rfl rfl rfl rfl rfl rfl rfl ?_ | refine l_ldc F 2 rfl rfl rfl rfl rfl rfl rfl ?_ | refine l_ldc F 3 rfl rfl rfl rfl rfl rfl rfl ?_ | refine l_ldc F 4 rfl rfl rfl rfl rfl rfl rfl ?_ | refine l_ldc F 5 rfl rfl rfl rfl rfl rfl rfl ?_ | refine l_ldc F 6 rfl rfl rfl rfl rfl rfl rfl ?_ | refine l_ldc F 7 rfl rfl rfl rfl rfl rfl rfl ?_ | refine l_ldc F 8 rfl rfl rfl rfl rfl rfl rfl ?_ | refine l_ldc F 9 rfl rfl rfl rfl rfl rfl rfl ?_ | refine l_lda rfl rfl rfl rfl rfl (by assumption) ?_ | refine l_ldca F 0 rfl rfl rfl rfl rfl rfl rfl ?_ | refine l_ldca F 1 rfl rfl rfl rfl rfl rfl rfl ?_ | refine l_ldca F 2 rfl rfl rfl rfl rfl rfl rfl ?_ | refine l_ldca F 3 rfl rfl rfl rfl rfl rfl rfl ?_ | refine l_ldca F 4 rfl rfl rfl rfl rfl rfl rfl ?_ | refine l_ldca F 5 rfl rfl rfl rfl rfl rfl rfl ?_ | refine l_ldca F 6 rfl rfl rfl rfl rfl rfl rfl ?_ | refine l_ldca F 7 rfl rfl rfl rfl rfl rfl rfl ?_ | refine l_ldca F 8 rfl rfl rfl rfl rfl rfl rfl ?_ | refine l_ldca F 9 rfl rfl rfl rfl rfl rfl rfl ?_ | refine l_ldo F (by assumption) rfl rfl rfl rfl rfl rfl ?_ | refine l_ldoa F (by assumption) rfl rfl rfl rfl rfl rfl ?_)
  first | have hpS := PnS.add hpS hS20 | have hpS := PnS.add hpS (OldC.sf (by assumption)) | skip
  refine l_cmp rfl rfl rfl rfl ?_
  refine l_nil (WK.nx (by assumption) ?_)
  refine SeqK.nx (by assumption) ?_
  refine l_cond rfl rfl (fun hc1 => ?_) (fun hc1 => ?_)
  · replace hc1 := of_decide_eq_true ((irr_eq _).symm.trans hc1)
    refine k_lin (fun W K => ?_)
    refine l_op 0 rfl rfl rfl rfl rfl ?_
    refine l_op 0 rfl rfl rfl rfl rfl ?_
    refine l_op 2 rfl rfl rfl rfl rfl ?_
    refine l_op 2 rfl rfl rfl rfl rfl ?_
    (first | refine l_ld0 rfl rfl rfl rfl rfl (by assumption) ?_ | refine l_ldj rfl rfl rfl rfl rfl rfl (by assumption) rfl ?_ | refine l_ldc F 0 rfl rfl rfl rfl rfl rfl rfl ?_ | refine l_ldc F 1 rfl rfl rfl rfl rfl rfl rfl ?_ | refine l_ldc F 2 rfl rfl rfl rfl rfl rfl rfl ?_ | refine l_ldc F 3 rfl rfl rfl rfl rfl rfl rfl ?_ | refine l_ldc F 4 rfl rfl rfl rfl rfl rfl rfl ?_ | refine l_ldc F 5 rfl rfl rfl rfl rfl rfl rfl ?_ | refine l_ldc F 6 rfl rfl rfl rfl rfl rfl rfl ?_ | refine l_ldc F 7 rfl rfl rfl rfl rfl rfl rfl ?_ | refine l_ldc F 8 rfl rfl rfl rfl rfl rfl rfl ?_ | refine l_ldc F 9 rfl rfl rfl rfl rfl rfl rfl ?_ | refine l_lda rfl rfl rfl rfl rfl (by assumption) ?_ | refine l_ldca F 0 rfl rfl rfl rfl rfl rfl rfl ?_ | refine l_ldca F 1 rfl rfl rfl rfl rfl rfl rfl ?_ | refine l_ldca F 2 rfl rfl rfl rfl rfl rfl rfl ?_ | refine l_ldca F 3 rfl rfl rfl rfl rfl rfl rfl ?_ | refine l_ldca F 4 rfl rfl rfl rfl rfl rfl rfl ?_ | refine l_ldca F 5 rfl rfl rfl rfl rfl rfl rfl ?_ | refine l_ldca F 6 rfl rfl rfl rfl rfl rfl rfl ?_ | refine l_ldca F 7 rfl rfl rfl rfl rfl rfl rfl ?_ | refine l_ldca F 8 rfl rfl rfl rfl rfl rfl rfl ?_ | refine l_ldca F 9 rfl rfl rfl rfl rfl rfl rfl ?_ | refine l_ldo F (by assumption) rfl rfl rfl rfl rfl rfl ?_ | refine l_ldoa F (by assumption) rfl rfl rfl rfl rfl rfl ?_)
    obtain ⟨m2, rfl⟩ : ∃ m2, x2 = some ⟨m2, 0, some 0⟩ := by
      rcases hx2 with rfl | h
      · have := (Has.none (F.has 1 rfl)).1; omega
      · exact h
    refine l_call F [1] [0] (by decide) rfl rfl (by kernel_rfl) rfl rfl (sdel_call hl1 (F.sub [1] (by decide)) (by omega)) hD (fun y s F hy => ?_)
    (try dsimp only [n_1, n_2, n_3, n_4, List.append_nil, pk, n_5, n_6] at F)
    (try dsimp only [n_1, n_2, n_3, n_4, List.append_nil, pk, n_5, n_6] at F)
    refine l_op 2 rfl rfl rfl rfl rfl ?_
    refine l_op 2 rfl rfl rfl rfl rfl ?_
    (first | refine l_stc F 0 rfl rfl rfl rfl rfl rfl rfl rfl rfl hD (fun s F => ?_) | refine l_stc F 1 rfl rfl rfl rfl rfl rfl rfl rfl rfl hD (fun s F => ?_) | refine l_stc F 2 rfl rfl rfl rfl rfl rfl rfl rfl rfl hD (fun s F => ?_) | refine l_stc F 3 rfl rfl rfl rfl rfl rfl rfl rfl rfl hD (fun s F => ?_) | refine l_stc F 4 rfl rfl rfl rfl rfl rfl rfl rfl rfl hD (fun s F => ?_) | refine l_stc F 5 rfl rfl rfl rfl rfl rfl rfl rfl rfl hD (fun s F => ?_) | refine l_stc F 6 rfl rfl rfl rfl rfl rfl rfl rfl rfl hD (fun s F => ?_) | refine l_stc F 7 rfl rfl rfl rfl rfl rfl rfl rfl rfl hD (fun s F => ?_) | refine l_stc F 8 rfl rfl rfl rfl rfl rfl rfl rfl rfl hD (fun s F => ?_) | refine l_stc F 9 rfl rfl rfl rfl rfl rfl rfl rfl rfl hD (fun s F => ?_) | refine l_stca F 0 rfl rfl rfl rfl rfl rfl rfl rfl rfl rfl hD rfl (fun s F => ?_) | refine l_stca F 1 rfl rfl rfl rfl rfl rfl rfl rfl rfl rfl hD rfl (fun s F => ?_) | refine l_stca F 2 rfl rfl rfl rfl rfl rfl rfl rfl rfl rfl hD rfl (fun s F => ?_) | refine l_stca F 3 rfl rfl rfl rfl rfl rfl rfl rfl rfl rfl hD rfl (fun s F => ?_) | refine l_stca F 4 rfl rfl rfl rfl rfl rfl rfl rfl rfl rfl hD rfl (fun s F => ?_) | refine l_stca F 5 rfl rfl rfl rfl rfl rfl rfl rfl rfl rfl hD rfl (fun s F => ?_) | refine l_stca F 6 rfl rfl rfl rfl rfl rfl rfl rfl rfl rfl hD rfl (fun s F => ?_) | refine l_stca F 7 rfl rfl rfl rfl rfl rfl rfl rfl rfl rfl hD rfl (fun s F => ?_) | refine l_stca F 8 rfl rfl rfl rfl rfl rfl rfl rfl rfl rfl hD rfl (fun s F => ?_) | refine l_stca F 9 rfl rfl rfl rfl rfl rfl rfl rfl rfl rfl hD rfl (fun s F => ?_) | refine l_stoi F 0 rfl rfl rfl rfl rfl rfl rfl (by omega) hD (fun s F => ?_) | refine l_stoi F 1 rfl rfl rfl rfl rfl rfl rfl (by omega) hD (fun s F => ?_) | refine l_stoi F 2 rfl rfl rfl rfl rfl rfl rfl (by omega) hD (fun s F => ?_) | refine l_stoi F 3 rfl rfl rfl rfl rfl rfl rfl (by omega) hD (fun s F => ?_) | refine l_stoi F 4 rfl rfl rfl rfl rfl rfl rfl (by omega) hD (fun s F => ?_) | refine l_stoi F 5 rfl rfl rfl rfl rfl rfl rfl (by omega) hD (fun s F => ?_) | refine l_stoi F 6 rfl rfl rfl rfl rfl rfl rfl (by omega) hD (fun s F => ?_) | refine l_stoi F 7 rfl rfl rfl rfl rfl rfl rfl (by omega) hD (fun s F => ?_) | refine l_stoi F 8 rfl rfl rfl rfl rfl rfl rfl (by omega) hD (fun s F => ?_) | refine l_stoi F 9 rfl rfl rfl rfl rfl rfl rfl (by omega) hD (fun s F => ?_))
    (try dsimp only [n_1, n_2, n_3, n_4, List.append_nil, pk, n_5, n_6] at F)
    refine l_nil (WK.nx (by assumption) ?_)
    refine FunK.nx (by assumption) rfl ?_
    -- leaf 1
    first
    | (have e : pushR most L t = L ++ [t] := if_neg (by omega)
       rw [e]
       refine ⟨(x2, c2), rfl, ?_, hx2⟩
       unfold rF; rw [hl1]; exact F)
    | (have e : pushR most L t = (L ++ [t]).eraseIdx 0 := if_pos (by omega)
       rw [e]
       refine ⟨(some ⟨m2, 0, some 0⟩, c2), rfl, ?_, .inr ⟨m2, rfl⟩⟩
       unfold rF; rw [List.length_eraseIdx_of_lt (by omega), hl1]; exact F.pick [0, 1] (by decide))
  replace hc1 := of_decide_eq_false ((irr_eq _).symm.trans hc1)
  refine k_skip ?_
  refine FunK.nx (by assumption) rfl ?_
  -- leaf 2
  first
  | (have e : pushR most L t = L ++ [t] := if_neg (by omega)
     rw [e]
     refine ⟨(x2, c2), rfl, ?_, hx2⟩
     unfold rF; rw [hl1]; exact F)
  | (have e : pushR most L t = (L ++ [t]).eraseIdx 0 := if_pos (by omega)
     rw [e]
     refine ⟨(some ⟨m2, 0, some 0⟩, c2), rfl, ?_, .inr ⟨m2, rfl⟩⟩
     unfold rF; rw [List.length_eraseIdx_of_lt (by omega), hl1]; exact F.pick [0, 1] (by decide))

/-- A state's rows, only read. -/
structure OldS (O : Nat → Prop) (σ : AState) (t : SS) : Prop where
  m : Old O σ t.mx t.ml t.mc 1 (u8l t.m)
  b : Old O σ t.bx t.bl t.bc 2 (rows eB t.b)
  s : Old O σ t.sx t.sl t.sc 1 (u8l t.s)
  bd : t.ml ≤ 1000000 ∧ t.bl ≤ 1000000 ∧ t.sl ≤ 1000000
/-- All pieces of the states that are kept. -/
def InS (L : List SS) (D : List Fact) : Prop := ∀ t ∈ L, ∀ f ∈ dS t, f ∈ D
abbrev uF (m : Nat) (most : Int) (a : Option Addr) (c : Nat) (L : List SS) (D : List Fact) : List Fact := [cel m [.slice a L.length c, .int .i64 most], own a L.length c 4 (rows eS L), many D]
abbrev UY := Option Addr × Nat × SS
theorem upush_call {O : Nat → Prop} {σ : AState} {m c : Nat} {a : Option Addr} {most : Int} {L : List SS} {D : List Fact} {t : SS} (F : Facts O σ σ (uF m most a c L D)) (hEx : Ex a) (hn : L.length ≤ 1000) (ht : OldS O σ t) :
    SCall Try.prog O 18 [.pointer (some ⟨m, 0, none⟩), .agg (eS t).toArray] σ (Ret O σ (fun (y : UY) => .tuple #[]) (fun y => uF m most y.1 y.2.1 (pushR most L y.2.2) (D ++ dS y.2.2)) fun y => Ex y.1 ∧ plS y.2.2 = plS t ∧ y.2.2.ml = t.ml ∧ y.2.2.bl = t.bl ∧ y.2.2.sl = t.sl) := by
  obtain ⟨hm1, hb1, hs1⟩ := ht.bd
  refine k_fun Try.func18 rfl (m := 22) rfl fun B hD Q K => ?_
  refine k_seq (fun Q K => ?_)
  refine k_lin (fun W K => ?_)
  refine l_bx F rfl rfl rfl rfl rfl (fun q3 s F => ?_)
  (try dsimp only [n_1, n_2, n_3, n_4, List.append_nil, pk, n_5, n_6] at F)
  refine l_nil (WK.nx (by assumption) ?_)
  refine SeqK.nx (by assumption) ?_
  refine k_seq (fun Q K => ?_)
  refine k_lin (fun W K => ?_)
  refine l_op 0 rfl rfl rfl rfl rfl ?_
  refine l_cmp rfl rfl rfl rfl ?_
  refine l_nil (WK.nx (by assumption) ?_)
  refine SeqK.nx (by assumption) ?_
  refine l_cond rfl rfl (fun hc1 => ?_) (fun hc1 => ?_)
  · first | replace hc1 := bne_iff_ne.1 ((irr_eq _).symm.trans hc1) | simp only [irr_eq, bne_iff_ne, bne_eq_false_iff_eq, ne_eq, decide_eq_true_eq, decide_eq_false_iff_not, Bool.not_eq_true', Bool.not_eq_false'] at hc1
    refine k_linm [0, 1, 2, 3, 6, 8, 11, 4, 7, 9, 12, 5, 10, 13, 14, 15] mixed (by kernel_rfl) (fun W K => ?_)
    try have hpS := F.pns
    refine l_op 0 rfl rfl rfl rfl rfl ?_
    refine l_op 2 rfl rfl rfl rfl rfl ?_
    refine l_op 2 rfl rfl rfl rfl rfl ?_
    refine l_op 2 rfl rfl rfl rfl rfl ?_
    refine l_op 2 rfl rfl rfl rfl rfl ?_
    refine l_op 2 rfl rfl rfl rfl rfl ?_
    refine l_op 2 rfl rfl rfl rfl rfl ?_
    (first | refine l_ld0 rfl rfl rfl rfl rfl (by assumption) ?_ | refine l_ldj rfl rfl rfl rfl rfl rfl (by assumption) rfl ?_ | refine l_ldc F 0 rfl rfl rfl rfl rfl rfl rfl ?_ | refine l_ldc F 1 rfl rfl rfl rfl rfl rfl rfl ?_ | refine l_ldc F 2 rfl rfl rfl rfl rfl rfl rfl ?_ | refine l_ldc F 3 rfl rfl rfl rfl rfl rfl rfl ?_ | refine l_ldc F 4 rfl rfl rfl rfl rfl rfl rfl ?_ | refine l_ldc F 5 rfl rfl rfl rfl rfl rfl rfl ?_ | refine l_ldc F 6 rfl rfl rfl rfl rfl rfl rfl ?_ | refine l_ldc F 7 rfl rfl rfl rfl rfl rfl rfl ?_ | refine l_ldc F 8 rfl rfl rfl rfl rfl rfl rfl ?_ | refine l_ldc F 9 rfl rfl rfl rfl rfl rfl rfl ?_ | refine l_lda rfl rfl rfl rfl rfl (by assumption) ?_ | refine l_ldca F 0 rfl rfl rfl rfl rfl rfl rfl ?_ | refine l_ldca F 1 rfl rfl rfl rfl rfl rfl rfl ?_ | refine l_ldca F 2 rfl rfl rfl rfl rfl rfl rfl ?_ | refine l_ldca F 3 rfl rfl rfl rfl rfl rfl rfl ?_ | refine l_ldca F 4 rfl rfl rfl rfl rfl rfl rfl ?_ | refine l_ldca F 5 rfl rfl rfl rfl rfl rfl rfl ?_ | refine l_ldca F 6 rfl rfl rfl rfl rfl rfl rfl ?_ | refine l_ldca F 7 rfl rfl rfl rfl rfl rfl rfl ?_ | refine l_ldca F 8 rfl rfl rfl rfl rfl rfl rfl ?_ | refine l_ldca F 9 rfl rfl rfl rfl rfl rfl rfl ?_ | refine l_ldo F (by assumption) rfl rfl rfl rfl rfl rfl ?_ | refine l_ldoa F (by assumption) rfl rfl rfl rfl rfl rfl ?_)
    first | have hpS := PnS.add hpS hS3 | have hpS := PnS.add hpS (OldC.sf (by assumption)) | skip
    (first | refine l_ld0 rfl rfl rfl rfl rfl (by assumption) ?_ | refine l_ldj rfl rfl rfl rfl rfl rfl (by assumption) rfl ?_ | refine l_ldc F 0 rfl rfl rfl rfl rfl rfl rfl ?_ | refine l_ldc F 1 rfl rfl rfl rfl rfl rfl rfl ?_ | refine l_ldc F 2 rfl rfl rfl rfl rfl rfl rfl ?_ | refine l_ldc F 3 rfl rfl rfl rfl rfl rfl rfl ?_ | refine l_ldc F 4 rfl rfl rfl rfl rfl rfl rfl ?_ | refine l_ldc F 5 rfl rfl rfl rfl rfl rfl rfl ?_ | refine l_ldc F 6 rfl rfl rfl rfl rfl rfl rfl ?_ | refine l_ldc F 7 rfl rfl rfl rfl rfl rfl rfl ?_ | refine l_ldc F 8 rfl rfl rfl rfl rfl rfl rfl ?_ | refine l_ldc F 9 rfl rfl rfl rfl rfl rfl rfl ?_ | refine l_lda rfl rfl rfl rfl rfl (by assumption) ?_ | refine l_ldca F 0 rfl rfl rfl rfl rfl rfl rfl ?_ | refine l_ldca F 1 rfl rfl rfl rfl rfl rfl rfl ?_ | refine l_ldca F 2 rfl rfl rfl rfl rfl rfl rfl ?_ | refine l_ldca F 3 rfl rfl rfl rfl rfl rfl rfl ?_ | refine l_ldca F 4 rfl rfl rfl rfl rfl rfl rfl ?_ | refine l_ldca F 5 rfl rfl rfl rfl rfl rfl rfl ?_ | refine l_ldca F 6 rfl rfl rfl rfl rfl rfl rfl ?_ | refine l_ldca F 7 rfl rfl rfl rfl rfl rfl rfl ?_ | refine l_ldca F 8 rfl rfl rfl rfl rfl rfl rfl ?_ | refine l_ldca F 9 rfl rfl rfl rfl rfl rfl rfl ?_ | refine l_ldo F (by assumption) rfl rfl rfl rfl rfl rfl ?_ | refine l_ldoa F (by assumption) rfl rfl rfl rfl rfl rfl ?_)
    first | have hpS := PnS.add hpS hS3 | have hpS := PnS.add hpS (OldC.sf (by assumption)) | skip
    (first | refine l_ld0 rfl rfl rfl rfl rfl (by assumption) ?_ | refine l_ldj rfl rfl rfl rfl rfl rfl (by assumption) rfl ?_ | refine l_ldc F 0 rfl rfl rfl rfl rfl rfl rfl ?_ | refine l_ldc F 1 rfl rfl rfl rfl rfl rfl rfl ?_ | refine l_ldc F 2 rfl rfl rfl rfl rfl rfl rfl ?_ | refine l_ldc F 3 rfl rfl rfl rfl rfl rfl rfl ?_ | refine l_ldc F 4 rfl rfl rfl rfl rfl rfl rfl ?_ | refine l_ldc F 5 rfl rfl rfl rfl rfl rfl rfl ?_ | refine l_ldc F 6 rfl rfl rfl rfl rfl rfl rfl ?_ | refine l_ldc F 7 rfl rfl rfl rfl rfl rfl rfl ?_ | refine l_ldc F 8 rfl rfl rfl rfl rfl rfl rfl ?_ | refine l_ldc F 9 rfl rfl rfl rfl rfl rfl rfl ?_ | refine l_lda rfl rfl rfl rfl rfl (by assumption) ?_ | refine l_ldca F 0 rfl rfl rfl rfl rfl rfl rfl ?_ | refine l_ldca F 1 rfl rfl rfl rfl rfl rfl rfl ?_ | refine l_ldca F 2 rfl rfl rfl rfl rfl rfl rfl ?_ | refine l_ldca F 3 rfl rfl rfl rfl rfl rfl rfl ?_ | refine l_ldca F 4 rfl rfl rfl rfl rfl rfl rfl ?_ | refine l_ldca F 5 rfl rfl rfl rfl rfl rfl rfl ?_ | refine l_ldca F 6 rfl rfl rfl rfl rfl rfl rfl ?_ | refine l_ldca F 7 rfl rfl rfl rfl rfl rfl rfl ?_ | refine l_ldca F 8 rfl rfl rfl rfl rfl rfl rfl ?_ | refine l_ldca F 9 rfl rfl rfl rfl rfl rfl rfl ?_ | refine l_ldo F (by assumption) rfl rfl rfl rfl rfl rfl ?_ | refine l_ldoa F (by assumption) rfl rfl rfl rfl rfl rfl ?_)
    first | have hpS := PnS.add hpS hS3 | have hpS := PnS.add hpS (OldC.sf (by assumption)) | skip
    (first | refine l_ld0 rfl rfl rfl rfl rfl (by assumption) ?_ | refine l_ldj rfl rfl rfl rfl rfl rfl (by assumption) rfl ?_ | refine l_ldc F 0 rfl rfl rfl rfl rfl rfl rfl ?_ | refine l_ldc F 1 rfl rfl rfl rfl rfl rfl rfl ?_ | refine l_ldc F 2 rfl rfl rfl rfl rfl rfl rfl ?_ | refine l_ldc F 3 rfl rfl rfl rfl rfl rfl rfl ?_ | refine l_ldc F 4 rfl rfl rfl rfl rfl rfl rfl ?_ | refine l_ldc F 5 rfl rfl rfl rfl rfl rfl rfl ?_ | refine l_ldc F 6 rfl rfl rfl rfl rfl rfl rfl ?_ | refine l_ldc F 7 rfl rfl rfl rfl rfl rfl rfl ?_ | refine l_ldc F 8 rfl rfl rfl rfl rfl rfl rfl ?_ | refine l_ldc F 9 rfl rfl rfl rfl rfl rfl rfl ?_ | refine l_lda rfl rfl rfl rfl rfl (by assumption) ?_ | refine l_ldca F 0 rfl rfl rfl rfl rfl rfl rfl ?_ | refine l_ldca F 1 rfl rfl rfl rfl rfl rfl rfl ?_ | refine l_ldca F 2 rfl rfl rfl rfl rfl rfl rfl ?_ | refine l_ldca F 3 rfl rfl rfl rfl rfl rfl rfl ?_ | refine l_ldca F 4 rfl rfl rfl rfl rfl rfl rfl ?_ | refine l_ldca F 5 rfl rfl rfl rfl rfl rfl rfl ?_ | refine l_ldca F 6 rfl rfl rfl rfl rfl rfl rfl ?_ | refine l_ldca F 7 rfl rfl rfl rfl rfl rfl rfl ?_ | refine l_ldca F 8 rfl rfl rfl rfl rfl rfl rfl ?_ | refine l_ldca F 9 rfl rfl rfl rfl rfl rfl rfl ?_ | refine l_ldo F (by assumption) rfl rfl rfl rfl rfl rfl ?_ | refine l_ldoa F (by assumption) rfl rfl rfl rfl rfl rfl ?_)
    first | have hpS := PnS.add hpS hS3 | have hpS := PnS.add hpS (OldC.sf (by assumption)) | skip
    refine l_callp F rfl rfl (by kernel_rfl) rfl rfl (bclone_call (Old.pure (F.old ht.m)) (by omega)) (fun y1 s F _ => ?_) (.inl (PnA.cel F 3 rfl (PnA.cel F 3 rfl (PnA.cel F 3 rfl (PnA.cel F 3 rfl pna_nil)))))
    (try dsimp only [n_1, n_2, n_3, n_4, List.append_nil, pk, n_5, n_6] at F)
    refine l_callp F rfl rfl (by kernel_rfl) rfl rfl (blclone_call (Old.pure (F.old ht.b)) (by omega)) (fun y2 s F _ => ?_) (.inl (PnA.cel F 3 rfl (PnA.cel F 3 rfl (PnA.cel F 3 rfl (PnA.cel F 3 rfl pna_nil)))))
    (try dsimp only [n_1, n_2, n_3, n_4, List.append_nil, pk, n_5, n_6] at F)
    refine l_callp F rfl rfl (by kernel_rfl) rfl rfl (bclone_call (Old.pure (F.old ht.s)) (by omega)) (fun y3 s F _ => ?_) (.inl (PnA.cel F 3 rfl (PnA.cel F 3 rfl (PnA.cel F 3 rfl (PnA.cel F 3 rfl pna_nil)))))
    (try dsimp only [n_1, n_2, n_3, n_4, List.append_nil, pk, n_5, n_6] at F)
    refine l_bld rfl rfl rfl rfl ?_
    have hpA : PnA (pnAdd (pnAdd (pnAdd (pnAdd (some []) (some q3)) (some q3)) (some q3)) (some q3)) (fpOf (pk _ [0, 1])) s := PnA.celP F 3 rfl [0, 1] (by decide) (PnA.celP F 3 rfl [0, 1] (by decide) (PnA.celP F 3 rfl [0, 1] (by decide) (PnA.celP F 3 rfl [0, 1] (by decide) pna_nil)))
    refine l_call F [0, 1] [2, 4, 5, 6] (by decide) rfl rfl (by kernel_rfl) rfl rfl (rpush_call (t := ⟨y1.1, t.ml, y1.2, t.m, t.rt, y2.1, t.bl, y2.2, t.b, y3.1, t.sl, y3.2, t.s⟩) (F.sub [0, 1] (by decide)) hEx hn) hD (fun y s F hy => ?_) (.inl hpA)
    (try dsimp only [n_1, n_2, n_3, n_4, List.append_nil, pk, n_5, n_6] at F)
    refine l_nil (WK.nx (by assumption) ?_)
    refine FunK.nx (by assumption) rfl ?_
    -- leaf 1
    have F1 : Facts O σ s [many D, own y1.1 t.ml y1.2 1 (u8l t.m), own y2.1 t.bl y2.2 2 (rows eB t.b), own y3.1 t.sl y3.2 1 (u8l t.s), cel m [.slice y.1 (pushR most L _).length y.2, .int .i64 most], own y.1 (pushR most L _).length y.2 4 (rows eS (pushR most L _))] := F
    have F2 := F1.join.join.join
    have F3 := F2.pick [1, 2, 0] (by decide)
    refine ⟨(y.1, y.2, ⟨y1.1, t.ml, y1.2, t.m, t.rt, y2.1, t.bl, y2.2, t.b, y3.1, t.sl, y3.2, t.s⟩), rfl, ?_, hy, rfl, rfl, rfl, rfl⟩
    have e : D ++ dS ⟨y1.1, t.ml, y1.2, t.m, t.rt, y2.1, t.bl, y2.2, t.b, y3.1, t.sl, y3.2, t.s⟩ = D ++ [own y1.1 t.ml y1.2 1 (u8l t.m)] ++ [own y2.1 t.bl y2.2 2 (rows eB t.b)] ++ [own y3.1 t.sl y3.2 1 (u8l t.s)] := by simp [dS]
    show Facts O σ s (uF m most y.1 y.2 _ (D ++ dS ⟨y1.1, t.ml, y1.2, t.m, t.rt, y2.1, t.bl, y2.2, t.b, y3.1, t.sl, y3.2, t.s⟩))
    rw [e]
    exact F3
  exact absurd ((irr_eq _).symm.trans hc1) (by decide)

/-- No state. -/
abbrev zS : SS := ⟨none, 0, 0, [], 0, none, 0, 0, [], none, 0, 0, []⟩
def popT (L : List SS) : SS := if L.length = 0 then zS else L.getD (L.length - 1) default
abbrev popV (L : List SS) : Value := .tuple #[.agg (eS (popT L)).toArray, .bool (irr (decide (L.length ≠ 0)))]
theorem rpop_call {O : Nat → Prop} {σ : AState} {m c : Nat} {a : Option Addr} {most : Int} {L : List SS} (F : Facts O σ σ (rF m most a c L)) (hn : L.length ≤ 1000) :
    SCall Try.prog O 33 [.pointer (some ⟨m, 0, none⟩)] σ (Ret O σ (fun (_ : Unit) => popV L) (fun _ => rF m most a c L.dropLast) fun _ => True) := by
  refine k_fun Try.func33 rfl (m := 32) rfl fun B hD Q K => ?_
  refine k_seq (fun Q K => ?_)
  refine k_lin (fun W K => ?_)
  refine l_al F rfl rfl rfl rfl (fun q2 s F => ?_)
  (try dsimp only [n_1, n_2, n_3, n_4, List.append_nil, pk, n_5, n_6] at F)
  refine l_op 0 rfl rfl rfl rfl rfl ?_
  refine l_nil (WK.nx (by assumption) ?_)
  refine SeqK.nx (by assumption) ?_
  refine k_seq (fun Q K => ?_)
  refine k_lin (fun W K => ?_)
  refine l_op 0 rfl rfl rfl rfl rfl ?_
  refine l_op 2 rfl rfl rfl rfl rfl ?_
  refine l_op 2 rfl rfl rfl rfl rfl ?_
  (first | refine l_ld0 rfl rfl rfl rfl rfl (by assumption) ?_ | refine l_ldj rfl rfl rfl rfl rfl rfl (by assumption) rfl ?_ | refine l_ldc F 0 rfl rfl rfl rfl rfl rfl rfl ?_ | refine l_ldc F 1 rfl rfl rfl rfl rfl rfl rfl ?_ | refine l_ldc F 2 rfl rfl rfl rfl rfl rfl rfl ?_ | refine l_ldc F 3 rfl rfl rfl rfl rfl rfl rfl ?_ | refine l_ldc F 4 rfl rfl rfl rfl rfl rfl rfl ?_ | refine l_ldc F 5 rfl rfl rfl rfl rfl rfl rfl ?_ | refine l_ldc F 6 rfl rfl rfl rfl rfl rfl rfl ?_ | refine l_ldc F 7 rfl rfl rfl rfl rfl rfl rfl ?_ | refine l_ldc F 8 rfl rfl rfl rfl rfl rfl rfl ?_ | refine l_ldc F 9 rfl rfl rfl rfl rfl rfl rfl ?_ | refine l_lda rfl rfl rfl rfl rfl (by assumption) ?_ | refine l_ldca F 0 rfl rfl rfl rfl rfl rfl rfl ?_ | refine l_ldca F 1 rfl rfl rfl rfl rfl rfl rfl ?_ | refine l_ldca F 2 rfl rfl rfl rfl rfl rfl rfl ?_ | refine l_ldca F 3 rfl rfl rfl rfl rfl rfl rfl ?_ | refine l_ldca F 4 rfl rfl rfl rfl rfl rfl rfl ?_ | refine l_ldca F 5 rfl rfl rfl rfl rfl rfl rfl ?_ | refine l_ldca F 6 rfl rfl rfl rfl rfl rfl rfl ?_ | refine l_ldca F 7 rfl rfl rfl rfl rfl rfl rfl ?_ | refine l_ldca F 8 rfl rfl rfl rfl rfl rfl rfl ?_ | refine l_ldca F 9 rfl rfl rfl rfl rfl rfl rfl ?_ | refine l_ldo F (by assumption) rfl rfl rfl rfl rfl rfl ?_ | refine l_ldoa F (by assumption) rfl rfl rfl rfl rfl rfl ?_)
  first | refine l_op 2 rfl rfl rfl rfl rfl ?_ | refine l_ln rfl rfl rfl rfl ?_
  refine l_op 0 rfl rfl rfl rfl rfl ?_
  refine l_nil (WK.nx (by assumption) ?_)
  refine SeqK.nx (by assumption) ?_
  refine k_seq (fun Q K => ?_)
  refine k_seq (fun Q K => ?_)
  refine k_lin (fun W K => ?_)
  refine l_op 0 rfl rfl rfl rfl rfl ?_
  refine l_cmp rfl rfl rfl rfl ?_
  refine l_nil (WK.nx (by assumption) ?_)
  refine SeqK.nx (by assumption) ?_
  refine l_cond rfl rfl (fun hc1 => ?_) (fun hc1 => ?_)
  · first | replace hc1 := eq_of_beq ((irr_eq _).symm.trans hc1) | simp only [irr_eq, beq_iff_eq, beq_eq_false_iff_ne, ne_eq, decide_eq_true_eq, decide_eq_false_iff_not] at hc1
    refine k_seq (fun Q K => ?_)
    refine k_lin (fun W K => ?_)
    (first | refine l_ld0 rfl rfl rfl rfl rfl (by assumption) ?_ | refine l_ldj rfl rfl rfl rfl rfl rfl (by assumption) rfl ?_ | refine l_ldc F 0 rfl rfl rfl rfl rfl rfl rfl ?_ | refine l_ldc F 1 rfl rfl rfl rfl rfl rfl rfl ?_ | refine l_ldc F 2 rfl rfl rfl rfl rfl rfl rfl ?_ | refine l_ldc F 3 rfl rfl rfl rfl rfl rfl rfl ?_ | refine l_ldc F 4 rfl rfl rfl rfl rfl rfl rfl ?_ | refine l_ldc F 5 rfl rfl rfl rfl rfl rfl rfl ?_ | refine l_ldc F 6 rfl rfl rfl rfl rfl rfl rfl ?_ | refine l_ldc F 7 rfl rfl rfl rfl rfl rfl rfl ?_ | refine l_ldc F 8 rfl rfl rfl rfl rfl rfl rfl ?_ | refine l_ldc F 9 rfl rfl rfl rfl rfl rfl rfl ?_ | refine l_lda rfl rfl rfl rfl rfl (by assumption) ?_ | refine l_ldca F 0 rfl rfl rfl rfl rfl rfl rfl ?_ | refine l_ldca F 1 rfl rfl rfl rfl rfl rfl rfl ?_ | refine l_ldca F 2 rfl rfl rfl rfl rfl rfl rfl ?_ | refine l_ldca F 3 rfl rfl rfl rfl rfl rfl rfl ?_ | refine l_ldca F 4 rfl rfl rfl rfl rfl rfl rfl ?_ | refine l_ldca F 5 rfl rfl rfl rfl rfl rfl rfl ?_ | refine l_ldca F 6 rfl rfl rfl rfl rfl rfl rfl ?_ | refine l_ldca F 7 rfl rfl rfl rfl rfl rfl rfl ?_ | refine l_ldca F 8 rfl rfl rfl rfl rfl rfl rfl ?_ | refine l_ldca F 9 rfl rfl rfl rfl rfl rfl rfl ?_ | refine l_ldo F (by assumption) rfl rfl rfl rfl rfl rfl ?_ | refine l_ldoa F (by assumption) rfl rfl rfl rfl rfl rfl ?_)
    (first | refine l_stc F 0 rfl rfl rfl rfl rfl rfl rfl rfl rfl hD (fun s F => ?_) | refine l_stc F 1 rfl rfl rfl rfl rfl rfl rfl rfl rfl hD (fun s F => ?_) | refine l_stc F 2 rfl rfl rfl rfl rfl rfl rfl rfl rfl hD (fun s F => ?_) | refine l_stc F 3 rfl rfl rfl rfl rfl rfl rfl rfl rfl hD (fun s F => ?_) | refine l_stc F 4 rfl rfl rfl rfl rfl rfl rfl rfl rfl hD (fun s F => ?_) | refine l_stc F 5 rfl rfl rfl rfl rfl rfl rfl rfl rfl hD (fun s F => ?_) | refine l_stc F 6 rfl rfl rfl rfl rfl rfl rfl rfl rfl hD (fun s F => ?_) | refine l_stc F 7 rfl rfl rfl rfl rfl rfl rfl rfl rfl hD (fun s F => ?_) | refine l_stc F 8 rfl rfl rfl rfl rfl rfl rfl rfl rfl hD (fun s F => ?_) | refine l_stc F 9 rfl rfl rfl rfl rfl rfl rfl rfl rfl hD (fun s F => ?_) | refine l_stca F 0 rfl rfl rfl rfl rfl rfl rfl rfl rfl rfl hD rfl (fun s F => ?_) | refine l_stca F 1 rfl rfl rfl rfl rfl rfl rfl rfl rfl rfl hD rfl (fun s F => ?_) | refine l_stca F 2 rfl rfl rfl rfl rfl rfl rfl rfl rfl rfl hD rfl (fun s F => ?_) | refine l_stca F 3 rfl rfl rfl rfl rfl rfl rfl rfl rfl rfl hD rfl (fun s F => ?_) | refine l_stca F 4 rfl rfl rfl rfl rfl rfl rfl rfl rfl rfl hD rfl (fun s F => ?_) | refine l_stca F 5 rfl rfl rfl rfl rfl rfl rfl rfl rfl rfl hD rfl (fun s F => ?_) | refine l_stca F 6 rfl rfl rfl rfl rfl rfl rfl rfl rfl rfl hD rfl (fun s F => ?_) | refine l_stca F 7 rfl rfl rfl rfl rfl rfl rfl rfl rfl rfl hD rfl (fun s F => ?_) | refine l_stca F 8 rfl rfl rfl rfl rfl rfl rfl rfl rfl rfl hD rfl (fun s F => ?_) | refine l_stca F 9 rfl rfl rfl rfl rfl rfl rfl rfl rfl rfl hD rfl (fun s F => ?_) | refine l_stoi F 0 rfl rfl rfl rfl rfl rfl rfl (by omega) hD (fun s F => ?_) | refine l_stoi F 1 rfl rfl rfl rfl rfl rfl rfl (by omega) hD (fun s F => ?_) | refine l_stoi F 2 rfl rfl rfl rfl rfl rfl rfl (by omega) hD (fun s F => ?_) | refine l_stoi F 3 rfl rfl rfl rfl rfl rfl rfl (by omega) hD (fun s F => ?_) | refine l_stoi F 4 rfl rfl rfl rfl rfl rfl rfl (by omega) hD (fun s F => ?_) | refine l_stoi F 5 rfl rfl rfl rfl rfl rfl rfl (by omega) hD (fun s F => ?_) | refine l_stoi F 6 rfl rfl rfl rfl rfl rfl rfl (by omega) hD (fun s F => ?_) | refine l_stoi F 7 rfl rfl rfl rfl rfl rfl rfl (by omega) hD (fun s F => ?_) | refine l_stoi F 8 rfl rfl rfl rfl rfl rfl rfl (by omega) hD (fun s F => ?_) | refine l_stoi F 9 rfl rfl rfl rfl rfl rfl rfl (by omega) hD (fun s F => ?_))
    (try dsimp only [n_1, n_2, n_3, n_4, List.append_nil, pk, n_5, n_6] at F)
    refine l_op 0 rfl rfl rfl rfl rfl ?_
    refine l_nil (WK.nx (by assumption) ?_)
    refine SeqK.nx (by assumption) ?_
    refine k_ret ?_
    refine SeqK.rt (by assumption) ?_
    first | refine FunK.rtc (by assumption) (res_cell F 0 rfl rfl (by kernel_rfl) (resE_rsv rfl)) ?_ | refine FunK.rtc (by assumption) (res_cell F 1 rfl rfl (by kernel_rfl) (resE_rsv rfl)) ?_ | refine FunK.rtc (by assumption) (res_cell F 2 rfl rfl (by kernel_rfl) (resE_rsv rfl)) ?_ | refine FunK.rtc (by assumption) (res_cell F 3 rfl rfl (by kernel_rfl) (resE_rsv rfl)) ?_ | refine FunK.rtc (by assumption) (res_cell F 4 rfl rfl (by kernel_rfl) (resE_rsv rfl)) ?_ | refine FunK.rtc (by assumption) (res_cell F 5 rfl rfl (by kernel_rfl) (resE_rsv rfl)) ?_ | refine FunK.rtc (by assumption) (res_cell F 6 rfl rfl (by kernel_rfl) (resE_rsv rfl)) ?_ | refine FunK.rtc (by assumption) (res_cell F 7 rfl rfl (by kernel_rfl) (resE_rsv rfl)) ?_
    -- leaf 1
    first
    | (obtain rfl : L = [] := List.eq_nil_of_length_eq_zero (by omega)
       exact ⟨(), by rw [popV, irr_eq]; rfl, F.pick [0, 1] (by decide), trivial⟩)
    | (have e1 : ((L.length : Int) - 1).toNat = L.length - 1 := by omega
       have e2 : L.dropLast.length = L.length - 1 := List.length_dropLast ..
       have e3 : (rows eS L).take ((L.length - 1) * 4) = rows eS L.dropLast := by rw [rows_take eS_len, List.dropLast_eq_take]
       have ep : popV L = .tuple #[.agg (eS (L.getD (L.length - 1) default)).toArray, .bool true] := by
         unfold popV popT
         rw [if_neg (by omega), irr_eq, decide_eq_true (by omega)]
       have F2 := F.upto 1 rfl (h := L.length - 1) (by omega)
       have F3 := F2.pick [0, 1] (by decide)
       rw [e1] at F3 ⊢
       refine ⟨(), ?_, ?_, trivial⟩
       · rw [ep]; rfl
       · show Facts O σ s (rF m most a c L.dropLast)
         unfold rF
         rw [e2, ← e3]
         exact F3)
  first | replace hc1 := ne_of_beq_false ((irr_eq _).symm.trans hc1) | simp only [irr_eq, beq_iff_eq, beq_eq_false_iff_ne, ne_eq, decide_eq_true_eq, decide_eq_false_iff_not] at hc1
  refine k_skip ?_
  refine SeqK.nx (by assumption) ?_
  refine k_seq (fun Q K => ?_)
  refine k_lin (fun W K => ?_)
  refine l_op 0 rfl rfl rfl rfl rfl ?_
  refine l_op 2 rfl rfl rfl rfl rfl ?_
  refine l_op 2 rfl rfl rfl rfl rfl ?_
  (first | refine l_ld0 rfl rfl rfl rfl rfl (by assumption) ?_ | refine l_ldj rfl rfl rfl rfl rfl rfl (by assumption) rfl ?_ | refine l_ldc F 0 rfl rfl rfl rfl rfl rfl rfl ?_ | refine l_ldc F 1 rfl rfl rfl rfl rfl rfl rfl ?_ | refine l_ldc F 2 rfl rfl rfl rfl rfl rfl rfl ?_ | refine l_ldc F 3 rfl rfl rfl rfl rfl rfl rfl ?_ | refine l_ldc F 4 rfl rfl rfl rfl rfl rfl rfl ?_ | refine l_ldc F 5 rfl rfl rfl rfl rfl rfl rfl ?_ | refine l_ldc F 6 rfl rfl rfl rfl rfl rfl rfl ?_ | refine l_ldc F 7 rfl rfl rfl rfl rfl rfl rfl ?_ | refine l_ldc F 8 rfl rfl rfl rfl rfl rfl rfl ?_ | refine l_ldc F 9 rfl rfl rfl rfl rfl rfl rfl ?_ | refine l_lda rfl rfl rfl rfl rfl (by assumption) ?_ | refine l_ldca F 0 rfl rfl rfl rfl rfl rfl rfl ?_ | refine l_ldca F 1 rfl rfl rfl rfl rfl rfl rfl ?_ | refine l_ldca F 2 rfl rfl rfl rfl rfl rfl rfl ?_ | refine l_ldca F 3 rfl rfl rfl rfl rfl rfl rfl ?_ | refine l_ldca F 4 rfl rfl rfl rfl rfl rfl rfl ?_ | refine l_ldca F 5 rfl rfl rfl rfl rfl rfl rfl ?_ | refine l_ldca F 6 rfl rfl rfl rfl rfl rfl rfl ?_ | refine l_ldca F 7 rfl rfl rfl rfl rfl rfl rfl ?_ | refine l_ldca F 8 rfl rfl rfl rfl rfl rfl rfl ?_ | refine l_ldca F 9 rfl rfl rfl rfl rfl rfl rfl ?_ | refine l_ldo F (by assumption) rfl rfl rfl rfl rfl rfl ?_ | refine l_ldoa F (by assumption) rfl rfl rfl rfl rfl rfl ?_)
  refine l_op 0 rfl rfl rfl rfl rfl ?_
  (first | refine l_a64 rfl rfl rfl (by omega) rfl ?_ | refine l_a32 rfl rfl rfl (by omega) rfl ?_ | refine l_a8 rfl rfl rfl (by omega) rfl ?_ | refine l_au64 rfl rfl rfl (by omega) rfl ?_ | refine l_op 1 rfl rfl rfl rfl rfl ?_)
  refine l_ixr (e := eS) rfl rfl rfl rfl rfl rfl (F.has 1 rfl) ⟨eS_len, by decide⟩ (by omega) (fun m19 b19 hA19 => ?_)
  (first | refine l_ld0 rfl rfl rfl rfl rfl (by assumption) ?_ | refine l_ldj rfl rfl rfl rfl rfl rfl (by assumption) rfl ?_ | refine l_ldc F 0 rfl rfl rfl rfl rfl rfl rfl ?_ | refine l_ldc F 1 rfl rfl rfl rfl rfl rfl rfl ?_ | refine l_ldc F 2 rfl rfl rfl rfl rfl rfl rfl ?_ | refine l_ldc F 3 rfl rfl rfl rfl rfl rfl rfl ?_ | refine l_ldc F 4 rfl rfl rfl rfl rfl rfl rfl ?_ | refine l_ldc F 5 rfl rfl rfl rfl rfl rfl rfl ?_ | refine l_ldc F 6 rfl rfl rfl rfl rfl rfl rfl ?_ | refine l_ldc F 7 rfl rfl rfl rfl rfl rfl rfl ?_ | refine l_ldc F 8 rfl rfl rfl rfl rfl rfl rfl ?_ | refine l_ldc F 9 rfl rfl rfl rfl rfl rfl rfl ?_ | refine l_lda rfl rfl rfl rfl rfl (by assumption) ?_ | refine l_ldca F 0 rfl rfl rfl rfl rfl rfl rfl ?_ | refine l_ldca F 1 rfl rfl rfl rfl rfl rfl rfl ?_ | refine l_ldca F 2 rfl rfl rfl rfl rfl rfl rfl ?_ | refine l_ldca F 3 rfl rfl rfl rfl rfl rfl rfl ?_ | refine l_ldca F 4 rfl rfl rfl rfl rfl rfl rfl ?_ | refine l_ldca F 5 rfl rfl rfl rfl rfl rfl rfl ?_ | refine l_ldca F 6 rfl rfl rfl rfl rfl rfl rfl ?_ | refine l_ldca F 7 rfl rfl rfl rfl rfl rfl rfl ?_ | refine l_ldca F 8 rfl rfl rfl rfl rfl rfl rfl ?_ | refine l_ldca F 9 rfl rfl rfl rfl rfl rfl rfl ?_ | refine l_ldo F (by assumption) rfl rfl rfl rfl rfl rfl ?_ | refine l_ldoa F (by assumption) rfl rfl rfl rfl rfl rfl ?_)
  (first | refine l_stc F 0 rfl rfl rfl rfl rfl rfl rfl rfl rfl hD (fun s F => ?_) | refine l_stc F 1 rfl rfl rfl rfl rfl rfl rfl rfl rfl hD (fun s F => ?_) | refine l_stc F 2 rfl rfl rfl rfl rfl rfl rfl rfl rfl hD (fun s F => ?_) | refine l_stc F 3 rfl rfl rfl rfl rfl rfl rfl rfl rfl hD (fun s F => ?_) | refine l_stc F 4 rfl rfl rfl rfl rfl rfl rfl rfl rfl hD (fun s F => ?_) | refine l_stc F 5 rfl rfl rfl rfl rfl rfl rfl rfl rfl hD (fun s F => ?_) | refine l_stc F 6 rfl rfl rfl rfl rfl rfl rfl rfl rfl hD (fun s F => ?_) | refine l_stc F 7 rfl rfl rfl rfl rfl rfl rfl rfl rfl hD (fun s F => ?_) | refine l_stc F 8 rfl rfl rfl rfl rfl rfl rfl rfl rfl hD (fun s F => ?_) | refine l_stc F 9 rfl rfl rfl rfl rfl rfl rfl rfl rfl hD (fun s F => ?_) | refine l_stca F 0 rfl rfl rfl rfl rfl rfl rfl rfl rfl rfl hD rfl (fun s F => ?_) | refine l_stca F 1 rfl rfl rfl rfl rfl rfl rfl rfl rfl rfl hD rfl (fun s F => ?_) | refine l_stca F 2 rfl rfl rfl rfl rfl rfl rfl rfl rfl rfl hD rfl (fun s F => ?_) | refine l_stca F 3 rfl rfl rfl rfl rfl rfl rfl rfl rfl rfl hD rfl (fun s F => ?_) | refine l_stca F 4 rfl rfl rfl rfl rfl rfl rfl rfl rfl rfl hD rfl (fun s F => ?_) | refine l_stca F 5 rfl rfl rfl rfl rfl rfl rfl rfl rfl rfl hD rfl (fun s F => ?_) | refine l_stca F 6 rfl rfl rfl rfl rfl rfl rfl rfl rfl rfl hD rfl (fun s F => ?_) | refine l_stca F 7 rfl rfl rfl rfl rfl rfl rfl rfl rfl rfl hD rfl (fun s F => ?_) | refine l_stca F 8 rfl rfl rfl rfl rfl rfl rfl rfl rfl rfl hD rfl (fun s F => ?_) | refine l_stca F 9 rfl rfl rfl rfl rfl rfl rfl rfl rfl rfl hD rfl (fun s F => ?_) | refine l_stoi F 0 rfl rfl rfl rfl rfl rfl rfl (by omega) hD (fun s F => ?_) | refine l_stoi F 1 rfl rfl rfl rfl rfl rfl rfl (by omega) hD (fun s F => ?_) | refine l_stoi F 2 rfl rfl rfl rfl rfl rfl rfl (by omega) hD (fun s F => ?_) | refine l_stoi F 3 rfl rfl rfl rfl rfl rfl rfl (by omega) hD (fun s F => ?_) | refine l_stoi F 4 rfl rfl rfl rfl rfl rfl rfl (by omega) hD (fun s F => ?_) | refine l_stoi F 5 rfl rfl rfl rfl rfl rfl rfl (by omega) hD (fun s F => ?_) | refine l_stoi F 6 rfl rfl rfl rfl rfl rfl rfl (by omega) hD (fun s F => ?_) | refine l_stoi F 7 rfl rfl rfl rfl rfl rfl rfl (by omega) hD (fun s F => ?_) | refine l_stoi F 8 rfl rfl rfl rfl rfl rfl rfl (by omega) hD (fun s F => ?_) | refine l_stoi F 9 rfl rfl rfl rfl rfl rfl rfl (by omega) hD (fun s F => ?_))
  (try dsimp only [n_1, n_2, n_3, n_4, List.append_nil, pk, n_5, n_6] at F)
  refine l_nil (WK.nx (by assumption) ?_)
  refine SeqK.nx (by assumption) ?_
  refine k_seq (fun Q K => ?_)
  refine k_lin (fun W K => ?_)
  refine l_op 0 rfl rfl rfl rfl rfl ?_
  refine l_op 0 rfl rfl rfl rfl rfl ?_
  refine l_op 2 rfl rfl rfl rfl rfl ?_
  refine l_op 2 rfl rfl rfl rfl rfl ?_
  (first | refine l_ld0 rfl rfl rfl rfl rfl (by assumption) ?_ | refine l_ldj rfl rfl rfl rfl rfl rfl (by assumption) rfl ?_ | refine l_ldc F 0 rfl rfl rfl rfl rfl rfl rfl ?_ | refine l_ldc F 1 rfl rfl rfl rfl rfl rfl rfl ?_ | refine l_ldc F 2 rfl rfl rfl rfl rfl rfl rfl ?_ | refine l_ldc F 3 rfl rfl rfl rfl rfl rfl rfl ?_ | refine l_ldc F 4 rfl rfl rfl rfl rfl rfl rfl ?_ | refine l_ldc F 5 rfl rfl rfl rfl rfl rfl rfl ?_ | refine l_ldc F 6 rfl rfl rfl rfl rfl rfl rfl ?_ | refine l_ldc F 7 rfl rfl rfl rfl rfl rfl rfl ?_ | refine l_ldc F 8 rfl rfl rfl rfl rfl rfl rfl ?_ | refine l_ldc F 9 rfl rfl rfl rfl rfl rfl rfl ?_ | refine l_lda rfl rfl rfl rfl rfl (by assumption) ?_ | refine l_ldca F 0 rfl rfl rfl rfl rfl rfl rfl ?_ | refine l_ldca F 1 rfl rfl rfl rfl rfl rfl rfl ?_ | refine l_ldca F 2 rfl rfl rfl rfl rfl rfl rfl ?_ | refine l_ldca F 3 rfl rfl rfl rfl rfl rfl rfl ?_ | refine l_ldca F 4 rfl rfl rfl rfl rfl rfl rfl ?_ | refine l_ldca F 5 rfl rfl rfl rfl rfl rfl rfl ?_ | refine l_ldca F 6 rfl rfl rfl rfl rfl rfl rfl ?_ | refine l_ldca F 7 rfl rfl rfl rfl rfl rfl rfl ?_ | refine l_ldca F 8 rfl rfl rfl rfl rfl rfl rfl ?_ | refine l_ldca F 9 rfl rfl rfl rfl rfl rfl rfl ?_ | refine l_ldo F (by assumption) rfl rfl rfl rfl rfl rfl ?_ | refine l_ldoa F (by assumption) rfl rfl rfl rfl rfl rfl ?_)
  refine l_op 0 rfl rfl rfl rfl rfl ?_
  (first | refine l_a64 rfl rfl rfl (by omega) rfl ?_ | refine l_a32 rfl rfl rfl (by omega) rfl ?_ | refine l_a8 rfl rfl rfl (by omega) rfl ?_ | refine l_au64 rfl rfl rfl (by omega) rfl ?_ | refine l_op 1 rfl rfl rfl rfl rfl ?_)
  first | refine l_slh rfl rfl rfl rfl rfl ⟨rfl, _, _, rfl, by omega, rfl⟩ (F.old (by assumption)) (by omega) ?_ | refine l_slh rfl rfl rfl rfl rfl ⟨rfl, _, _, rfl, by omega, rfl⟩ (F.has 0 rfl) (by omega) ?_ | refine l_slh rfl rfl rfl rfl rfl ⟨rfl, _, _, rfl, by omega, rfl⟩ (F.has 1 rfl) (by omega) ?_ | refine l_slh rfl rfl rfl rfl rfl ⟨rfl, _, _, rfl, by omega, rfl⟩ (F.has 2 rfl) (by omega) ?_ | refine l_slh rfl rfl rfl rfl rfl ⟨rfl, _, _, rfl, by omega, rfl⟩ (F.has 3 rfl) (by omega) ?_
  refine l_op 2 rfl rfl rfl rfl rfl ?_
  refine l_op 2 rfl rfl rfl rfl rfl ?_
  (first | refine l_stc F 0 rfl rfl rfl rfl rfl rfl rfl rfl rfl hD (fun s F => ?_) | refine l_stc F 1 rfl rfl rfl rfl rfl rfl rfl rfl rfl hD (fun s F => ?_) | refine l_stc F 2 rfl rfl rfl rfl rfl rfl rfl rfl rfl hD (fun s F => ?_) | refine l_stc F 3 rfl rfl rfl rfl rfl rfl rfl rfl rfl hD (fun s F => ?_) | refine l_stc F 4 rfl rfl rfl rfl rfl rfl rfl rfl rfl hD (fun s F => ?_) | refine l_stc F 5 rfl rfl rfl rfl rfl rfl rfl rfl rfl hD (fun s F => ?_) | refine l_stc F 6 rfl rfl rfl rfl rfl rfl rfl rfl rfl hD (fun s F => ?_) | refine l_stc F 7 rfl rfl rfl rfl rfl rfl rfl rfl rfl hD (fun s F => ?_) | refine l_stc F 8 rfl rfl rfl rfl rfl rfl rfl rfl rfl hD (fun s F => ?_) | refine l_stc F 9 rfl rfl rfl rfl rfl rfl rfl rfl rfl hD (fun s F => ?_) | refine l_stca F 0 rfl rfl rfl rfl rfl rfl rfl rfl rfl rfl hD rfl (fun s F => ?_) | refine l_stca F 1 rfl rfl rfl rfl rfl rfl rfl rfl rfl rfl hD rfl (fun s F => ?_) | refine l_stca F 2 rfl rfl rfl rfl rfl rfl rfl rfl rfl rfl hD rfl (fun s F => ?_) | refine l_stca F 3 rfl rfl rfl rfl rfl rfl rfl rfl rfl rfl hD rfl (fun s F => ?_) | refine l_stca F 4 rfl rfl rfl rfl rfl rfl rfl rfl rfl rfl hD rfl (fun s F => ?_) | refine l_stca F 5 rfl rfl rfl rfl rfl rfl rfl rfl rfl rfl hD rfl (fun s F => ?_) | refine l_stca F 6 rfl rfl rfl rfl rfl rfl rfl rfl rfl rfl hD rfl (fun s F => ?_) | refine l_stca F 7 rfl rfl rfl rfl rfl rfl rfl rfl rfl rfl hD rfl (fun s F => ?_) | refine l_stca F 8 rfl rfl rfl rfl rfl rfl rfl rfl rfl rfl hD rfl (fun s F => ?_) | refine l_stca F 9 rfl rfl rfl rfl rfl rfl rfl rfl rfl rfl hD rfl (fun s F => ?_) | refine l_stoi F 0 rfl rfl rfl rfl rfl rfl rfl (by omega) hD (fun s F => ?_) | refine l_stoi F 1 rfl rfl rfl rfl rfl rfl rfl (by omega) hD (fun s F => ?_) | refine l_stoi F 2 rfl rfl rfl rfl rfl rfl rfl (by omega) hD (fun s F => ?_) | refine l_stoi F 3 rfl rfl rfl rfl rfl rfl rfl (by omega) hD (fun s F => ?_) | refine l_stoi F 4 rfl rfl rfl rfl rfl rfl rfl (by omega) hD (fun s F => ?_) | refine l_stoi F 5 rfl rfl rfl rfl rfl rfl rfl (by omega) hD (fun s F => ?_) | refine l_stoi F 6 rfl rfl rfl rfl rfl rfl rfl (by omega) hD (fun s F => ?_) | refine l_stoi F 7 rfl rfl rfl rfl rfl rfl rfl (by omega) hD (fun s F => ?_) | refine l_stoi F 8 rfl rfl rfl rfl rfl rfl rfl (by omega) hD (fun s F => ?_) | refine l_stoi F 9 rfl rfl rfl rfl rfl rfl rfl (by omega) hD (fun s F => ?_))
  (try dsimp only [n_1, n_2, n_3, n_4, List.append_nil, pk, n_5, n_6] at F)
  refine l_nil (WK.nx (by assumption) ?_)
  refine SeqK.nx (by assumption) ?_
  refine k_seq (fun Q K => ?_)
  refine k_lin (fun W K => ?_)
  (first | refine l_ld0 rfl rfl rfl rfl rfl (by assumption) ?_ | refine l_ldj rfl rfl rfl rfl rfl rfl (by assumption) rfl ?_ | refine l_ldc F 0 rfl rfl rfl rfl rfl rfl rfl ?_ | refine l_ldc F 1 rfl rfl rfl rfl rfl rfl rfl ?_ | refine l_ldc F 2 rfl rfl rfl rfl rfl rfl rfl ?_ | refine l_ldc F 3 rfl rfl rfl rfl rfl rfl rfl ?_ | refine l_ldc F 4 rfl rfl rfl rfl rfl rfl rfl ?_ | refine l_ldc F 5 rfl rfl rfl rfl rfl rfl rfl ?_ | refine l_ldc F 6 rfl rfl rfl rfl rfl rfl rfl ?_ | refine l_ldc F 7 rfl rfl rfl rfl rfl rfl rfl ?_ | refine l_ldc F 8 rfl rfl rfl rfl rfl rfl rfl ?_ | refine l_ldc F 9 rfl rfl rfl rfl rfl rfl rfl ?_ | refine l_lda rfl rfl rfl rfl rfl (by assumption) ?_ | refine l_ldca F 0 rfl rfl rfl rfl rfl rfl rfl ?_ | refine l_ldca F 1 rfl rfl rfl rfl rfl rfl rfl ?_ | refine l_ldca F 2 rfl rfl rfl rfl rfl rfl rfl ?_ | refine l_ldca F 3 rfl rfl rfl rfl rfl rfl rfl ?_ | refine l_ldca F 4 rfl rfl rfl rfl rfl rfl rfl ?_ | refine l_ldca F 5 rfl rfl rfl rfl rfl rfl rfl ?_ | refine l_ldca F 6 rfl rfl rfl rfl rfl rfl rfl ?_ | refine l_ldca F 7 rfl rfl rfl rfl rfl rfl rfl ?_ | refine l_ldca F 8 rfl rfl rfl rfl rfl rfl rfl ?_ | refine l_ldca F 9 rfl rfl rfl rfl rfl rfl rfl ?_ | refine l_ldo F (by assumption) rfl rfl rfl rfl rfl rfl ?_ | refine l_ldoa F (by assumption) rfl rfl rfl rfl rfl rfl ?_)
  (first | refine l_stc F 0 rfl rfl rfl rfl rfl rfl rfl rfl rfl hD (fun s F => ?_) | refine l_stc F 1 rfl rfl rfl rfl rfl rfl rfl rfl rfl hD (fun s F => ?_) | refine l_stc F 2 rfl rfl rfl rfl rfl rfl rfl rfl rfl hD (fun s F => ?_) | refine l_stc F 3 rfl rfl rfl rfl rfl rfl rfl rfl rfl hD (fun s F => ?_) | refine l_stc F 4 rfl rfl rfl rfl rfl rfl rfl rfl rfl hD (fun s F => ?_) | refine l_stc F 5 rfl rfl rfl rfl rfl rfl rfl rfl rfl hD (fun s F => ?_) | refine l_stc F 6 rfl rfl rfl rfl rfl rfl rfl rfl rfl hD (fun s F => ?_) | refine l_stc F 7 rfl rfl rfl rfl rfl rfl rfl rfl rfl hD (fun s F => ?_) | refine l_stc F 8 rfl rfl rfl rfl rfl rfl rfl rfl rfl hD (fun s F => ?_) | refine l_stc F 9 rfl rfl rfl rfl rfl rfl rfl rfl rfl hD (fun s F => ?_) | refine l_stca F 0 rfl rfl rfl rfl rfl rfl rfl rfl rfl rfl hD rfl (fun s F => ?_) | refine l_stca F 1 rfl rfl rfl rfl rfl rfl rfl rfl rfl rfl hD rfl (fun s F => ?_) | refine l_stca F 2 rfl rfl rfl rfl rfl rfl rfl rfl rfl rfl hD rfl (fun s F => ?_) | refine l_stca F 3 rfl rfl rfl rfl rfl rfl rfl rfl rfl rfl hD rfl (fun s F => ?_) | refine l_stca F 4 rfl rfl rfl rfl rfl rfl rfl rfl rfl rfl hD rfl (fun s F => ?_) | refine l_stca F 5 rfl rfl rfl rfl rfl rfl rfl rfl rfl rfl hD rfl (fun s F => ?_) | refine l_stca F 6 rfl rfl rfl rfl rfl rfl rfl rfl rfl rfl hD rfl (fun s F => ?_) | refine l_stca F 7 rfl rfl rfl rfl rfl rfl rfl rfl rfl rfl hD rfl (fun s F => ?_) | refine l_stca F 8 rfl rfl rfl rfl rfl rfl rfl rfl rfl rfl hD rfl (fun s F => ?_) | refine l_stca F 9 rfl rfl rfl rfl rfl rfl rfl rfl rfl rfl hD rfl (fun s F => ?_) | refine l_stoi F 0 rfl rfl rfl rfl rfl rfl rfl (by omega) hD (fun s F => ?_) | refine l_stoi F 1 rfl rfl rfl rfl rfl rfl rfl (by omega) hD (fun s F => ?_) | refine l_stoi F 2 rfl rfl rfl rfl rfl rfl rfl (by omega) hD (fun s F => ?_) | refine l_stoi F 3 rfl rfl rfl rfl rfl rfl rfl (by omega) hD (fun s F => ?_) | refine l_stoi F 4 rfl rfl rfl rfl rfl rfl rfl (by omega) hD (fun s F => ?_) | refine l_stoi F 5 rfl rfl rfl rfl rfl rfl rfl (by omega) hD (fun s F => ?_) | refine l_stoi F 6 rfl rfl rfl rfl rfl rfl rfl (by omega) hD (fun s F => ?_) | refine l_stoi F 7 rfl rfl rfl rfl rfl rfl rfl (by omega) hD (fun s F => ?_) | refine l_stoi F 8 rfl rfl rfl rfl rfl rfl rfl (by omega) hD (fun s F => ?_) | refine l_stoi F 9 rfl rfl rfl rfl rfl rfl rfl (by omega) hD (fun s F => ?_))
  (try dsimp only [n_1, n_2, n_3, n_4, List.append_nil, pk, n_5, n_6] at F)
  refine l_op 0 rfl rfl rfl rfl rfl ?_
  refine l_nil (WK.nx (by assumption) ?_)
  refine SeqK.nx (by assumption) ?_
  refine k_ret ?_
  first | refine FunK.rtc (by assumption) (res_cell F 0 rfl rfl (by kernel_rfl) (resE_rsv rfl)) ?_ | refine FunK.rtc (by assumption) (res_cell F 1 rfl rfl (by kernel_rfl) (resE_rsv rfl)) ?_ | refine FunK.rtc (by assumption) (res_cell F 2 rfl rfl (by kernel_rfl) (resE_rsv rfl)) ?_ | refine FunK.rtc (by assumption) (res_cell F 3 rfl rfl (by kernel_rfl) (resE_rsv rfl)) ?_ | refine FunK.rtc (by assumption) (res_cell F 4 rfl rfl (by kernel_rfl) (resE_rsv rfl)) ?_ | refine FunK.rtc (by assumption) (res_cell F 5 rfl rfl (by kernel_rfl) (resE_rsv rfl)) ?_ | refine FunK.rtc (by assumption) (res_cell F 6 rfl rfl (by kernel_rfl) (resE_rsv rfl)) ?_ | refine FunK.rtc (by assumption) (res_cell F 7 rfl rfl (by kernel_rfl) (resE_rsv rfl)) ?_
  -- leaf 2
  first
  | (obtain rfl : L = [] := List.eq_nil_of_length_eq_zero (by omega)
     exact ⟨(), by rw [popV, irr_eq]; rfl, F.pick [0, 1] (by decide), trivial⟩)
  | (have e1 : ((L.length : Int) - 1).toNat = L.length - 1 := by omega
     have e2 : L.dropLast.length = L.length - 1 := List.length_dropLast ..
     have e3 : (rows eS L).take ((L.length - 1) * 4) = rows eS L.dropLast := by rw [rows_take eS_len, List.dropLast_eq_take]
     have ep : popV L = .tuple #[.agg (eS (L.getD (L.length - 1) default)).toArray, .bool true] := by
       unfold popV popT
       rw [if_neg (by omega), irr_eq, decide_eq_true (by omega)]
     have F2 := F.upto 1 rfl (h := L.length - 1) (by omega)
     have F3 := F2.pick [0, 1] (by decide)
     rw [e1] at F3 ⊢
     refine ⟨(), ?_, ?_, trivial⟩
     · rw [ep]; rfl
     · show Facts O σ s (rF m most a c L.dropLast)
       unfold rF
       rw [e2, ← e3]
       exact F3)
theorem upop_call {O : Nat → Prop} {σ : AState} {m c : Nat} {a : Option Addr} {most : Int} {L : List SS} (F : Facts O σ σ (rF m most a c L)) (hn : L.length ≤ 1000) :
    SCall Try.prog O 20 [.pointer (some ⟨m, 0, none⟩)] σ (Ret O σ (fun (_ : Unit) => popV L) (fun _ => rF m most a c L.dropLast) fun _ => True) := by
  refine k_fun Try.func20 rfl (m := 13) rfl fun B hD Q K => ?_
  refine k_seq (fun Q K => ?_)
  refine k_lin (fun W K => ?_)
  refine l_al F rfl rfl rfl rfl (fun q2 s F => ?_)
  (try dsimp only [n_1, n_2, n_3, n_4, List.append_nil, pk, n_5, n_6] at F)
  refine l_op 0 rfl rfl rfl rfl rfl ?_
  refine l_nil (WK.nx (by assumption) ?_)
  refine SeqK.nx (by assumption) ?_
  refine k_seq (fun Q K => ?_)
  refine k_seq (fun Q K => ?_)
  refine k_lin (fun W K => ?_)
  refine l_op 0 rfl rfl rfl rfl rfl ?_
  refine l_cmp rfl rfl rfl rfl ?_
  refine l_nil (WK.nx (by assumption) ?_)
  refine SeqK.nx (by assumption) ?_
  refine l_cond rfl rfl (fun hc1 => ?_) (fun hc1 => ?_)
  · exact absurd ((irr_eq _).symm.trans hc1) (by decide)
  first | replace hc1 := ne_of_beq_false ((irr_eq _).symm.trans hc1) | simp only [irr_eq, beq_iff_eq, beq_eq_false_iff_ne, ne_eq, decide_eq_true_eq, decide_eq_false_iff_not] at hc1
  refine k_skip ?_
  refine SeqK.nx (by assumption) ?_
  refine k_seq (fun Q K => ?_)
  refine k_lin (fun W K => ?_)
  refine l_op 0 rfl rfl rfl rfl rfl ?_
  refine l_op 2 rfl rfl rfl rfl rfl ?_
  refine l_op 2 rfl rfl rfl rfl rfl ?_
  refine l_call F [0, 1] [2] (by decide) rfl rfl (by kernel_rfl) rfl rfl (rpop_call (F.sub [0, 1] (by decide)) hn) hD (fun y s F _ => ?_)
  (try dsimp only [n_1, n_2, n_3, n_4, List.append_nil, pk, n_5, n_6] at F)
  refine l_op 2 rfl rfl rfl rfl rfl ?_
  refine l_op 2 rfl rfl rfl rfl rfl ?_
  (first | refine l_stc F 0 rfl rfl rfl rfl rfl rfl rfl rfl rfl hD (fun s F => ?_) | refine l_stc F 1 rfl rfl rfl rfl rfl rfl rfl rfl rfl hD (fun s F => ?_) | refine l_stc F 2 rfl rfl rfl rfl rfl rfl rfl rfl rfl hD (fun s F => ?_) | refine l_stc F 3 rfl rfl rfl rfl rfl rfl rfl rfl rfl hD (fun s F => ?_) | refine l_stc F 4 rfl rfl rfl rfl rfl rfl rfl rfl rfl hD (fun s F => ?_) | refine l_stc F 5 rfl rfl rfl rfl rfl rfl rfl rfl rfl hD (fun s F => ?_) | refine l_stc F 6 rfl rfl rfl rfl rfl rfl rfl rfl rfl hD (fun s F => ?_) | refine l_stc F 7 rfl rfl rfl rfl rfl rfl rfl rfl rfl hD (fun s F => ?_) | refine l_stc F 8 rfl rfl rfl rfl rfl rfl rfl rfl rfl hD (fun s F => ?_) | refine l_stc F 9 rfl rfl rfl rfl rfl rfl rfl rfl rfl hD (fun s F => ?_) | refine l_stca F 0 rfl rfl rfl rfl rfl rfl rfl rfl rfl rfl hD rfl (fun s F => ?_) | refine l_stca F 1 rfl rfl rfl rfl rfl rfl rfl rfl rfl rfl hD rfl (fun s F => ?_) | refine l_stca F 2 rfl rfl rfl rfl rfl rfl rfl rfl rfl rfl hD rfl (fun s F => ?_) | refine l_stca F 3 rfl rfl rfl rfl rfl rfl rfl rfl rfl rfl hD rfl (fun s F => ?_) | refine l_stca F 4 rfl rfl rfl rfl rfl rfl rfl rfl rfl rfl hD rfl (fun s F => ?_) | refine l_stca F 5 rfl rfl rfl rfl rfl rfl rfl rfl rfl rfl hD rfl (fun s F => ?_) | refine l_stca F 6 rfl rfl rfl rfl rfl rfl rfl rfl rfl rfl hD rfl (fun s F => ?_) | refine l_stca F 7 rfl rfl rfl rfl rfl rfl rfl rfl rfl rfl hD rfl (fun s F => ?_) | refine l_stca F 8 rfl rfl rfl rfl rfl rfl rfl rfl rfl rfl hD rfl (fun s F => ?_) | refine l_stca F 9 rfl rfl rfl rfl rfl rfl rfl rfl rfl rfl hD rfl (fun s F => ?_) | refine l_stoi F 0 rfl rfl rfl rfl rfl rfl rfl (by omega) hD (fun s F => ?_) | refine l_stoi F 1 rfl rfl rfl rfl rfl rfl rfl (by omega) hD (fun s F => ?_) | refine l_stoi F 2 rfl rfl rfl rfl rfl rfl rfl (by omega) hD (fun s F => ?_) | refine l_stoi F 3 rfl rfl rfl rfl rfl rfl rfl (by omega) hD (fun s F => ?_) | refine l_stoi F 4 rfl rfl rfl rfl rfl rfl rfl (by omega) hD (fun s F => ?_) | refine l_stoi F 5 rfl rfl rfl rfl rfl rfl rfl (by omega) hD (fun s F => ?_) | refine l_stoi F 6 rfl rfl rfl rfl rfl rfl rfl (by omega) hD (fun s F => ?_) | refine l_stoi F 7 rfl rfl rfl rfl rfl rfl rfl (by omega) hD (fun s F => ?_) | refine l_stoi F 8 rfl rfl rfl rfl rfl rfl rfl (by omega) hD (fun s F => ?_) | refine l_stoi F 9 rfl rfl rfl rfl rfl rfl rfl (by omega) hD (fun s F => ?_))
  (try dsimp only [n_1, n_2, n_3, n_4, List.append_nil, pk, n_5, n_6] at F)
  refine l_op 0 rfl rfl rfl rfl rfl ?_
  refine l_nil (WK.nx (by assumption) ?_)
  refine SeqK.nx (by assumption) ?_
  refine k_ret ?_
  first | refine FunK.rtc (by assumption) (res_cell F 0 rfl rfl (by kernel_rfl) (resE_rsv rfl)) ?_ | refine FunK.rtc (by assumption) (res_cell F 1 rfl rfl (by kernel_rfl) (resE_rsv rfl)) ?_ | refine FunK.rtc (by assumption) (res_cell F 2 rfl rfl (by kernel_rfl) (resE_rsv rfl)) ?_ | refine FunK.rtc (by assumption) (res_cell F 3 rfl rfl (by kernel_rfl) (resE_rsv rfl)) ?_ | refine FunK.rtc (by assumption) (res_cell F 4 rfl rfl (by kernel_rfl) (resE_rsv rfl)) ?_ | refine FunK.rtc (by assumption) (res_cell F 5 rfl rfl (by kernel_rfl) (resE_rsv rfl)) ?_ | refine FunK.rtc (by assumption) (res_cell F 6 rfl rfl (by kernel_rfl) (resE_rsv rfl)) ?_ | refine FunK.rtc (by assumption) (res_cell F 7 rfl rfl (by kernel_rfl) (resE_rsv rfl)) ?_
  -- leaf 1
  exact ⟨(), rfl, F.pick [1, 2] (by decide), trivial⟩
theorem ulen_call {σ : AState} {m c n : Nat} {a : Option Addr} {most : Int} (h : OldC E0 σ m [.slice a n c, .int .i64 most]) :
    SCall Try.prog E0 22 [.pointer (some ⟨m, 0, none⟩)] σ (Ret E0 σ (fun (_ : Unit) => .int .i64 n) (fun _ => []) fun _ => True) := by
  refine k_fun Try.func22 rfl (m := 11) rfl fun B hD Q K => ?_
  have F := Facts.nil E0 σ
  refine k_seq (fun Q K => ?_)
  refine k_lin (fun W K => ?_)
  refine l_op 0 rfl rfl rfl rfl rfl ?_
  refine l_nil (WK.nx (by assumption) ?_)
  refine SeqK.nx (by assumption) ?_
  refine k_seq (fun Q K => ?_)
  refine k_seq (fun Q K => ?_)
  refine k_lin (fun W K => ?_)
  refine l_op 0 rfl rfl rfl rfl rfl ?_
  refine l_cmp rfl rfl rfl rfl ?_
  refine l_nil (WK.nx (by assumption) ?_)
  refine SeqK.nx (by assumption) ?_
  refine l_cond rfl rfl (fun hc1 => ?_) (fun hc1 => ?_)
  · exact absurd ((irr_eq _).symm.trans hc1) (by decide)
  first | replace hc1 := ne_of_beq_false ((irr_eq _).symm.trans hc1) | simp only [irr_eq, beq_iff_eq, beq_eq_false_iff_ne, ne_eq, decide_eq_true_eq, decide_eq_false_iff_not] at hc1
  refine k_skip ?_
  refine SeqK.nx (by assumption) ?_
  refine k_seq (fun Q K => ?_)
  refine k_lin (fun W K => ?_)
  refine l_op 0 rfl rfl rfl rfl rfl ?_
  refine l_op 2 rfl rfl rfl rfl rfl ?_
  refine l_op 2 rfl rfl rfl rfl rfl ?_
  refine l_op 2 rfl rfl rfl rfl rfl ?_
  (first | refine l_ld0 rfl rfl rfl rfl rfl (by assumption) ?_ | refine l_ldj rfl rfl rfl rfl rfl rfl (by assumption) rfl ?_ | refine l_ldc F 0 rfl rfl rfl rfl rfl rfl rfl ?_ | refine l_ldc F 1 rfl rfl rfl rfl rfl rfl rfl ?_ | refine l_ldc F 2 rfl rfl rfl rfl rfl rfl rfl ?_ | refine l_ldc F 3 rfl rfl rfl rfl rfl rfl rfl ?_ | refine l_ldc F 4 rfl rfl rfl rfl rfl rfl rfl ?_ | refine l_ldc F 5 rfl rfl rfl rfl rfl rfl rfl ?_ | refine l_ldc F 6 rfl rfl rfl rfl rfl rfl rfl ?_ | refine l_ldc F 7 rfl rfl rfl rfl rfl rfl rfl ?_ | refine l_ldc F 8 rfl rfl rfl rfl rfl rfl rfl ?_ | refine l_ldc F 9 rfl rfl rfl rfl rfl rfl rfl ?_ | refine l_lda rfl rfl rfl rfl rfl (by assumption) ?_ | refine l_ldca F 0 rfl rfl rfl rfl rfl rfl rfl ?_ | refine l_ldca F 1 rfl rfl rfl rfl rfl rfl rfl ?_ | refine l_ldca F 2 rfl rfl rfl rfl rfl rfl rfl ?_ | refine l_ldca F 3 rfl rfl rfl rfl rfl rfl rfl ?_ | refine l_ldca F 4 rfl rfl rfl rfl rfl rfl rfl ?_ | refine l_ldca F 5 rfl rfl rfl rfl rfl rfl rfl ?_ | refine l_ldca F 6 rfl rfl rfl rfl rfl rfl rfl ?_ | refine l_ldca F 7 rfl rfl rfl rfl rfl rfl rfl ?_ | refine l_ldca F 8 rfl rfl rfl rfl rfl rfl rfl ?_ | refine l_ldca F 9 rfl rfl rfl rfl rfl rfl rfl ?_ | refine l_ldo F (by assumption) rfl rfl rfl rfl rfl rfl ?_ | refine l_ldoa F (by assumption) rfl rfl rfl rfl rfl rfl ?_)
  first | refine l_op 2 rfl rfl rfl rfl rfl ?_ | refine l_ln rfl rfl rfl rfl ?_
  refine l_op 0 rfl rfl rfl rfl rfl ?_
  refine l_nil (WK.nx (by assumption) ?_)
  refine SeqK.nx (by assumption) ?_
  refine k_ret ?_
  refine FunK.rt (by assumption) rfl ?_
  -- leaf 1
  exact ⟨(), rfl, F, trivial⟩
theorem unew_call {σ : AState} {most : Int} (h : 0 ≤ most ∧ most ≤ 64) :
    SCall Try.prog E0 17 [.int .i64 most] σ (Ret E0 σ (fun (m : Nat) => .tuple #[.pointer (some ⟨m, 0, none⟩), .int .i64 0]) (fun m => rF m most none 0 []) fun _ => True) := by
  refine k_fun Try.func17 rfl (m := 14) rfl fun B hD Q K => ?_
  have F := Facts.nil E0 σ
  refine k_seq (fun Q K => ?_)
  refine k_lin (fun W K => ?_)
  refine l_op 0 rfl rfl rfl rfl rfl ?_
  refine l_op 0 rfl rfl rfl rfl rfl ?_
  refine l_nil (WK.nx (by assumption) ?_)
  refine SeqK.nx (by assumption) ?_
  refine k_seq (fun Q K => ?_)
  refine k_seq (fun Q K => ?_)
  refine k_lin (fun W K => ?_)
  refine l_op 0 rfl rfl rfl rfl rfl ?_
  refine l_cmp rfl rfl rfl rfl ?_
  refine l_op 0 rfl rfl rfl rfl rfl ?_
  refine l_guard rfl rfl rfl (fun hc1 => ?_) (fun hc1 => ?_)
  · replace hc1 := of_decide_eq_true ((irr_eq _).symm.trans hc1)
    refine l_s rfl rfl ?_
    refine l_s rfl rfl ?_
    refine l_op 2 rfl rfl rfl rfl rfl ?_
    refine l_nil (WK.nx (by assumption) ?_)
    refine SeqK.nx (by assumption) ?_
    first | refine e_cond_t rfl rfl rfl ?_ | refine e_cond_t rfl rfl (by rw [irr_eq]; first | exact beq_iff_eq.2 (by assumption) | exact decide_eq_true (by assumption) | exact bne_iff_ne.2 (by assumption)) ?_
    refine k_seq (fun Q K => ?_)
    refine k_lin (fun W K => ?_)
    refine l_op 0 rfl rfl rfl rfl rfl ?_
    refine l_op 0 rfl rfl rfl rfl rfl ?_
    refine l_nil (WK.nx (by assumption) ?_)
    refine SeqK.nx (by assumption) ?_
    refine k_ret ?_
    refine SeqK.rt (by assumption) ?_
    refine FunK.rt (by assumption) rfl ?_
    -- leaf 1
    first
    | (exfalso; omega)
    | exact ⟨q13, rfl, F.nilrow 4, trivial⟩
  replace hc1 := of_decide_eq_false ((irr_eq _).symm.trans hc1)
  refine l_op 0 rfl rfl rfl rfl rfl ?_
  refine l_cmp rfl rfl rfl rfl ?_
  refine l_op 2 rfl rfl rfl rfl rfl ?_
  refine l_nil (WK.nx (by assumption) ?_)
  refine SeqK.nx (by assumption) ?_
  refine l_cond rfl rfl (fun hc2 => ?_) (fun hc2 => ?_)
  · replace hc2 := of_decide_eq_true ((irr_eq _).symm.trans hc2)
    omega
  replace hc2 := of_decide_eq_false ((irr_eq _).symm.trans hc2)
  refine k_skip ?_
  refine SeqK.nx (by assumption) ?_
  refine k_seq (fun Q K => ?_)
  refine k_lin (fun W K => ?_)
  refine l_op 0 rfl rfl rfl rfl rfl ?_
  refine l_bld rfl rfl rfl rfl ?_
  refine l_bld rfl rfl rfl rfl ?_
  refine l_bx F rfl rfl rfl rfl rfl (fun q13 s F => ?_)
  (try dsimp only [n_1, n_2, n_3, n_4, List.append_nil, pk, n_5, n_6] at F)
  refine l_op 0 rfl rfl rfl rfl rfl ?_
  refine l_op 0 rfl rfl rfl rfl rfl ?_
  refine l_nil (WK.nx (by assumption) ?_)
  refine SeqK.nx (by assumption) ?_
  refine k_ret ?_
  refine FunK.rt (by assumption) rfl ?_
  -- leaf 2
  first
  | (exfalso; omega)
  | exact ⟨q13, rfl, F.nilrow 4, trivial⟩
theorem unewbad_call {σ : AState} {most : Int} (h : most < 0 ∨ most > 64) (hw : -9223372036854775808 ≤ most ∧ most ≤ 9223372036854775807) :
    SCall Try.prog E0 17 [.int .i64 most] σ (Ret E0 σ (fun (_ : Unit) => .tuple #[.pointer none, .int .i64 1]) (fun _ => []) fun _ => True) := by
  refine k_fun Try.func17 rfl (m := 14) rfl fun B hD Q K => ?_
  have F := Facts.nil E0 σ
  refine k_seq (fun Q K => ?_)
  refine k_lin (fun W K => ?_)
  refine l_op 0 rfl rfl rfl rfl rfl ?_
  refine l_op 0 rfl rfl rfl rfl rfl ?_
  refine l_nil (WK.nx (by assumption) ?_)
  refine SeqK.nx (by assumption) ?_
  refine k_seq (fun Q K => ?_)
  refine k_seq (fun Q K => ?_)
  refine k_lin (fun W K => ?_)
  refine l_op 0 rfl rfl rfl rfl rfl ?_
  refine l_cmp rfl rfl rfl rfl ?_
  refine l_op 0 rfl rfl rfl rfl rfl ?_
  refine l_guard rfl rfl rfl (fun hc1 => ?_) (fun hc1 => ?_)
  · replace hc1 := of_decide_eq_true ((irr_eq _).symm.trans hc1)
    refine l_s rfl rfl ?_
    refine l_s rfl rfl ?_
    refine l_op 2 rfl rfl rfl rfl rfl ?_
    refine l_nil (WK.nx (by assumption) ?_)
    refine SeqK.nx (by assumption) ?_
    first | refine e_cond_t rfl rfl rfl ?_ | refine e_cond_t rfl rfl (by rw [irr_eq]; first | exact beq_iff_eq.2 (by assumption) | exact decide_eq_true (by assumption) | exact bne_iff_ne.2 (by assumption)) ?_
    refine k_seq (fun Q K => ?_)
    refine k_lin (fun W K => ?_)
    refine l_op 0 rfl rfl rfl rfl rfl ?_
    refine l_op 0 rfl rfl rfl rfl rfl ?_
    refine l_nil (WK.nx (by assumption) ?_)
    refine SeqK.nx (by assumption) ?_
    refine k_ret ?_
    refine SeqK.rt (by assumption) ?_
    refine FunK.rt (by assumption) rfl ?_
    -- leaf 1
    first
    | exact ⟨(), rfl, F, trivial⟩
    | (exfalso; omega)
  replace hc1 := of_decide_eq_false ((irr_eq _).symm.trans hc1)
  refine l_op 0 rfl rfl rfl rfl rfl ?_
  refine l_cmp rfl rfl rfl rfl ?_
  refine l_op 2 rfl rfl rfl rfl rfl ?_
  refine l_nil (WK.nx (by assumption) ?_)
  refine SeqK.nx (by assumption) ?_
  refine l_cond rfl rfl (fun hc2 => ?_) (fun hc2 => ?_)
  · replace hc2 := of_decide_eq_true ((irr_eq _).symm.trans hc2)
    refine k_seq (fun Q K => ?_)
    refine k_lin (fun W K => ?_)
    refine l_op 0 rfl rfl rfl rfl rfl ?_
    refine l_op 0 rfl rfl rfl rfl rfl ?_
    refine l_nil (WK.nx (by assumption) ?_)
    refine SeqK.nx (by assumption) ?_
    refine k_ret ?_
    refine SeqK.rt (by assumption) ?_
    refine FunK.rt (by assumption) rfl ?_
    -- leaf 2
    first
    | exact ⟨(), rfl, F, trivial⟩
    | (exfalso; omega)
  replace hc2 := of_decide_eq_false ((irr_eq _).symm.trans hc2)
  omega
theorem eqS17 {xs ys : List Int} (hx : Bytes xs) (hy : Bytes ys) : eqS xs ys = true ↔ xs = ys := sbeq_str hx hy
theorem same17_call {σ : AState} {t u : SS} (h1 : OldS E0 σ t) (h2 : OldS E0 σ u) (b1 : Bytes t.m ∧ Bytes t.s) (b2 : Bytes u.m ∧ Bytes u.s) :
    SCall Try.prog E0 21 [.agg (eS t).toArray, .agg (eS u).toArray] σ (Ret E0 σ (fun (y : Bool) => .bool (irr y)) (fun _ => []) fun y => y = true ↔ plS t = plS u) := by
  have hbl : t.b.length = t.bl := h1.b.1.len eB_len (by decide)
  have hbd := h1.bd
  have hno : (t.m ≠ u.m ∨ t.rt ≠ u.rt ∨ t.b ≠ u.b ∨ t.s ≠ u.s) → ¬ plS t = plS u := fun h q => by
    have q1 : t.m = u.m := congrArg (fun z : List Int × Int × List (Int × Int) × List Int => z.1) q
    have q2 : t.rt = u.rt := congrArg (fun z : List Int × Int × List (Int × Int) × List Int => z.2.1) q
    have q3 : t.b = u.b := congrArg (fun z : List Int × Int × List (Int × Int) × List Int => z.2.2.1) q
    have q4 : t.s = u.s := congrArg (fun z : List Int × Int × List (Int × Int) × List Int => z.2.2.2) q
    rcases h with h | h | h | h
    · exact h q1
    · exact h q2
    · exact h q3
    · exact h q4
  refine k_fun Try.func21 rfl (m := 31) rfl fun B hD Q K => ?_
  have F := Facts.nil E0 σ
  refine k_seq (fun Q K => ?_)
  refine k_lin (fun W K => ?_)
  refine l_bx F rfl rfl rfl rfl rfl (fun q2 s F => ?_)
  (try dsimp only [n_1, n_2, n_3, n_4, List.append_nil, pk, n_5, n_6] at F)
  refine l_bx F rfl rfl rfl rfl rfl (fun q3 s F => ?_)
  (try dsimp only [n_1, n_2, n_3, n_4, List.append_nil, pk, n_5, n_6] at F)
  refine l_op 0 rfl rfl rfl rfl rfl ?_
  refine l_nil (WK.nx (by assumption) ?_)
  refine SeqK.nx (by assumption) ?_
  refine k_seq (fun Q K => ?_)
  refine k_lin (fun W K => ?_)
  refine l_op 2 rfl rfl rfl rfl rfl ?_
  (first | refine l_ld0 rfl rfl rfl rfl rfl (by assumption) ?_ | refine l_ldj rfl rfl rfl rfl rfl rfl (by assumption) rfl ?_ | refine l_ldc F 0 rfl rfl rfl rfl rfl rfl rfl ?_ | refine l_ldc F 1 rfl rfl rfl rfl rfl rfl rfl ?_ | refine l_ldc F 2 rfl rfl rfl rfl rfl rfl rfl ?_ | refine l_ldc F 3 rfl rfl rfl rfl rfl rfl rfl ?_ | refine l_ldc F 4 rfl rfl rfl rfl rfl rfl rfl ?_ | refine l_ldc F 5 rfl rfl rfl rfl rfl rfl rfl ?_ | refine l_ldc F 6 rfl rfl rfl rfl rfl rfl rfl ?_ | refine l_ldc F 7 rfl rfl rfl rfl rfl rfl rfl ?_ | refine l_ldc F 8 rfl rfl rfl rfl rfl rfl rfl ?_ | refine l_ldc F 9 rfl rfl rfl rfl rfl rfl rfl ?_ | refine l_lda rfl rfl rfl rfl rfl (by assumption) ?_ | refine l_ldca F 0 rfl rfl rfl rfl rfl rfl rfl ?_ | refine l_ldca F 1 rfl rfl rfl rfl rfl rfl rfl ?_ | refine l_ldca F 2 rfl rfl rfl rfl rfl rfl rfl ?_ | refine l_ldca F 3 rfl rfl rfl rfl rfl rfl rfl ?_ | refine l_ldca F 4 rfl rfl rfl rfl rfl rfl rfl ?_ | refine l_ldca F 5 rfl rfl rfl rfl rfl rfl rfl ?_ | refine l_ldca F 6 rfl rfl rfl rfl rfl rfl rfl ?_ | refine l_ldca F 7 rfl rfl rfl rfl rfl rfl rfl ?_ | refine l_ldca F 8 rfl rfl rfl rfl rfl rfl rfl ?_ | refine l_ldca F 9 rfl rfl rfl rfl rfl rfl rfl ?_ | refine l_ldo F (by assumption) rfl rfl rfl rfl rfl rfl ?_ | refine l_ldoa F (by assumption) rfl rfl rfl rfl rfl rfl ?_)
  refine l_op 2 rfl rfl rfl rfl rfl ?_
  (first | refine l_ld0 rfl rfl rfl rfl rfl (by assumption) ?_ | refine l_ldj rfl rfl rfl rfl rfl rfl (by assumption) rfl ?_ | refine l_ldc F 0 rfl rfl rfl rfl rfl rfl rfl ?_ | refine l_ldc F 1 rfl rfl rfl rfl rfl rfl rfl ?_ | refine l_ldc F 2 rfl rfl rfl rfl rfl rfl rfl ?_ | refine l_ldc F 3 rfl rfl rfl rfl rfl rfl rfl ?_ | refine l_ldc F 4 rfl rfl rfl rfl rfl rfl rfl ?_ | refine l_ldc F 5 rfl rfl rfl rfl rfl rfl rfl ?_ | refine l_ldc F 6 rfl rfl rfl rfl rfl rfl rfl ?_ | refine l_ldc F 7 rfl rfl rfl rfl rfl rfl rfl ?_ | refine l_ldc F 8 rfl rfl rfl rfl rfl rfl rfl ?_ | refine l_ldc F 9 rfl rfl rfl rfl rfl rfl rfl ?_ | refine l_lda rfl rfl rfl rfl rfl (by assumption) ?_ | refine l_ldca F 0 rfl rfl rfl rfl rfl rfl rfl ?_ | refine l_ldca F 1 rfl rfl rfl rfl rfl rfl rfl ?_ | refine l_ldca F 2 rfl rfl rfl rfl rfl rfl rfl ?_ | refine l_ldca F 3 rfl rfl rfl rfl rfl rfl rfl ?_ | refine l_ldca F 4 rfl rfl rfl rfl rfl rfl rfl ?_ | refine l_ldca F 5 rfl rfl rfl rfl rfl rfl rfl ?_ | refine l_ldca F 6 rfl rfl rfl rfl rfl rfl rfl ?_ | refine l_ldca F 7 rfl rfl rfl rfl rfl rfl rfl ?_ | refine l_ldca F 8 rfl rfl rfl rfl rfl rfl rfl ?_ | refine l_ldca F 9 rfl rfl rfl rfl rfl rfl rfl ?_ | refine l_ldo F (by assumption) rfl rfl rfl rfl rfl rfl ?_ | refine l_ldoa F (by assumption) rfl rfl rfl rfl rfl rfl ?_)
  refine l_callp F rfl rfl (by kernel_rfl) rfl rfl (same_call (Old.pure (F.old h1.m)) (Old.pure (F.old h2.m))) (fun _ s F _ => ?_)
  (try dsimp only [n_1, n_2, n_3, n_4, List.append_nil, pk, n_5, n_6] at F)
  refine l_op 0 rfl rfl rfl rfl rfl ?_
  refine l_guard rfl rfl rfl (fun hc1 => ?_) (fun hc1 => ?_)
  · try simp only [irr_eq, beq_iff_eq, bne_iff_ne, beq_eq_false_iff_ne, bne_eq_false_iff_eq, ne_eq, decide_eq_true_eq, decide_eq_false_iff_not, Bool.not_eq_true', Bool.not_eq_false'] at hc1
    refine l_op 2 rfl rfl rfl rfl rfl ?_
    (first | refine l_ld0 rfl rfl rfl rfl rfl (by assumption) ?_ | refine l_ldj rfl rfl rfl rfl rfl rfl (by assumption) rfl ?_ | refine l_ldc F 0 rfl rfl rfl rfl rfl rfl rfl ?_ | refine l_ldc F 1 rfl rfl rfl rfl rfl rfl rfl ?_ | refine l_ldc F 2 rfl rfl rfl rfl rfl rfl rfl ?_ | refine l_ldc F 3 rfl rfl rfl rfl rfl rfl rfl ?_ | refine l_ldc F 4 rfl rfl rfl rfl rfl rfl rfl ?_ | refine l_ldc F 5 rfl rfl rfl rfl rfl rfl rfl ?_ | refine l_ldc F 6 rfl rfl rfl rfl rfl rfl rfl ?_ | refine l_ldc F 7 rfl rfl rfl rfl rfl rfl rfl ?_ | refine l_ldc F 8 rfl rfl rfl rfl rfl rfl rfl ?_ | refine l_ldc F 9 rfl rfl rfl rfl rfl rfl rfl ?_ | refine l_lda rfl rfl rfl rfl rfl (by assumption) ?_ | refine l_ldca F 0 rfl rfl rfl rfl rfl rfl rfl ?_ | refine l_ldca F 1 rfl rfl rfl rfl rfl rfl rfl ?_ | refine l_ldca F 2 rfl rfl rfl rfl rfl rfl rfl ?_ | refine l_ldca F 3 rfl rfl rfl rfl rfl rfl rfl ?_ | refine l_ldca F 4 rfl rfl rfl rfl rfl rfl rfl ?_ | refine l_ldca F 5 rfl rfl rfl rfl rfl rfl rfl ?_ | refine l_ldca F 6 rfl rfl rfl rfl rfl rfl rfl ?_ | refine l_ldca F 7 rfl rfl rfl rfl rfl rfl rfl ?_ | refine l_ldca F 8 rfl rfl rfl rfl rfl rfl rfl ?_ | refine l_ldca F 9 rfl rfl rfl rfl rfl rfl rfl ?_ | refine l_ldo F (by assumption) rfl rfl rfl rfl rfl rfl ?_ | refine l_ldoa F (by assumption) rfl rfl rfl rfl rfl rfl ?_)
    refine l_op 2 rfl rfl rfl rfl rfl ?_
    (first | refine l_ld0 rfl rfl rfl rfl rfl (by assumption) ?_ | refine l_ldj rfl rfl rfl rfl rfl rfl (by assumption) rfl ?_ | refine l_ldc F 0 rfl rfl rfl rfl rfl rfl rfl ?_ | refine l_ldc F 1 rfl rfl rfl rfl rfl rfl rfl ?_ | refine l_ldc F 2 rfl rfl rfl rfl rfl rfl rfl ?_ | refine l_ldc F 3 rfl rfl rfl rfl rfl rfl rfl ?_ | refine l_ldc F 4 rfl rfl rfl rfl rfl rfl rfl ?_ | refine l_ldc F 5 rfl rfl rfl rfl rfl rfl rfl ?_ | refine l_ldc F 6 rfl rfl rfl rfl rfl rfl rfl ?_ | refine l_ldc F 7 rfl rfl rfl rfl rfl rfl rfl ?_ | refine l_ldc F 8 rfl rfl rfl rfl rfl rfl rfl ?_ | refine l_ldc F 9 rfl rfl rfl rfl rfl rfl rfl ?_ | refine l_lda rfl rfl rfl rfl rfl (by assumption) ?_ | refine l_ldca F 0 rfl rfl rfl rfl rfl rfl rfl ?_ | refine l_ldca F 1 rfl rfl rfl rfl rfl rfl rfl ?_ | refine l_ldca F 2 rfl rfl rfl rfl rfl rfl rfl ?_ | refine l_ldca F 3 rfl rfl rfl rfl rfl rfl rfl ?_ | refine l_ldca F 4 rfl rfl rfl rfl rfl rfl rfl ?_ | refine l_ldca F 5 rfl rfl rfl rfl rfl rfl rfl ?_ | refine l_ldca F 6 rfl rfl rfl rfl rfl rfl rfl ?_ | refine l_ldca F 7 rfl rfl rfl rfl rfl rfl rfl ?_ | refine l_ldca F 8 rfl rfl rfl rfl rfl rfl rfl ?_ | refine l_ldca F 9 rfl rfl rfl rfl rfl rfl rfl ?_ | refine l_ldo F (by assumption) rfl rfl rfl rfl rfl rfl ?_ | refine l_ldoa F (by assumption) rfl rfl rfl rfl rfl rfl ?_)
    refine l_cmp rfl rfl rfl rfl ?_
    refine l_op 2 rfl rfl rfl rfl rfl ?_
    refine l_op 0 rfl rfl rfl rfl rfl ?_
    refine l_guard rfl rfl rfl (fun hc2 => ?_) (fun hc2 => ?_)
    · first | replace hc2 := eq_of_beq ((irr_eq _).symm.trans hc2) | simp only [irr_eq, beq_iff_eq, beq_eq_false_iff_ne, ne_eq, decide_eq_true_eq, decide_eq_false_iff_not] at hc2
      refine l_op 2 rfl rfl rfl rfl rfl ?_
      (first | refine l_ld0 rfl rfl rfl rfl rfl (by assumption) ?_ | refine l_ldj rfl rfl rfl rfl rfl rfl (by assumption) rfl ?_ | refine l_ldc F 0 rfl rfl rfl rfl rfl rfl rfl ?_ | refine l_ldc F 1 rfl rfl rfl rfl rfl rfl rfl ?_ | refine l_ldc F 2 rfl rfl rfl rfl rfl rfl rfl ?_ | refine l_ldc F 3 rfl rfl rfl rfl rfl rfl rfl ?_ | refine l_ldc F 4 rfl rfl rfl rfl rfl rfl rfl ?_ | refine l_ldc F 5 rfl rfl rfl rfl rfl rfl rfl ?_ | refine l_ldc F 6 rfl rfl rfl rfl rfl rfl rfl ?_ | refine l_ldc F 7 rfl rfl rfl rfl rfl rfl rfl ?_ | refine l_ldc F 8 rfl rfl rfl rfl rfl rfl rfl ?_ | refine l_ldc F 9 rfl rfl rfl rfl rfl rfl rfl ?_ | refine l_lda rfl rfl rfl rfl rfl (by assumption) ?_ | refine l_ldca F 0 rfl rfl rfl rfl rfl rfl rfl ?_ | refine l_ldca F 1 rfl rfl rfl rfl rfl rfl rfl ?_ | refine l_ldca F 2 rfl rfl rfl rfl rfl rfl rfl ?_ | refine l_ldca F 3 rfl rfl rfl rfl rfl rfl rfl ?_ | refine l_ldca F 4 rfl rfl rfl rfl rfl rfl rfl ?_ | refine l_ldca F 5 rfl rfl rfl rfl rfl rfl rfl ?_ | refine l_ldca F 6 rfl rfl rfl rfl rfl rfl rfl ?_ | refine l_ldca F 7 rfl rfl rfl rfl rfl rfl rfl ?_ | refine l_ldca F 8 rfl rfl rfl rfl rfl rfl rfl ?_ | refine l_ldca F 9 rfl rfl rfl rfl rfl rfl rfl ?_ | refine l_ldo F (by assumption) rfl rfl rfl rfl rfl rfl ?_ | refine l_ldoa F (by assumption) rfl rfl rfl rfl rfl rfl ?_)
      refine l_op 2 rfl rfl rfl rfl rfl ?_
      (first | refine l_ld0 rfl rfl rfl rfl rfl (by assumption) ?_ | refine l_ldj rfl rfl rfl rfl rfl rfl (by assumption) rfl ?_ | refine l_ldc F 0 rfl rfl rfl rfl rfl rfl rfl ?_ | refine l_ldc F 1 rfl rfl rfl rfl rfl rfl rfl ?_ | refine l_ldc F 2 rfl rfl rfl rfl rfl rfl rfl ?_ | refine l_ldc F 3 rfl rfl rfl rfl rfl rfl rfl ?_ | refine l_ldc F 4 rfl rfl rfl rfl rfl rfl rfl ?_ | refine l_ldc F 5 rfl rfl rfl rfl rfl rfl rfl ?_ | refine l_ldc F 6 rfl rfl rfl rfl rfl rfl rfl ?_ | refine l_ldc F 7 rfl rfl rfl rfl rfl rfl rfl ?_ | refine l_ldc F 8 rfl rfl rfl rfl rfl rfl rfl ?_ | refine l_ldc F 9 rfl rfl rfl rfl rfl rfl rfl ?_ | refine l_lda rfl rfl rfl rfl rfl (by assumption) ?_ | refine l_ldca F 0 rfl rfl rfl rfl rfl rfl rfl ?_ | refine l_ldca F 1 rfl rfl rfl rfl rfl rfl rfl ?_ | refine l_ldca F 2 rfl rfl rfl rfl rfl rfl rfl ?_ | refine l_ldca F 3 rfl rfl rfl rfl rfl rfl rfl ?_ | refine l_ldca F 4 rfl rfl rfl rfl rfl rfl rfl ?_ | refine l_ldca F 5 rfl rfl rfl rfl rfl rfl rfl ?_ | refine l_ldca F 6 rfl rfl rfl rfl rfl rfl rfl ?_ | refine l_ldca F 7 rfl rfl rfl rfl rfl rfl rfl ?_ | refine l_ldca F 8 rfl rfl rfl rfl rfl rfl rfl ?_ | refine l_ldca F 9 rfl rfl rfl rfl rfl rfl rfl ?_ | refine l_ldo F (by assumption) rfl rfl rfl rfl rfl rfl ?_ | refine l_ldoa F (by assumption) rfl rfl rfl rfl rfl rfl ?_)
      refine l_callp F rfl rfl (by kernel_rfl) rfl rfl (same8_call (Old.pure (F.old h1.b)) (Old.pure (F.old h2.b)) (by omega)) (fun _ s F _ => ?_)
      (try dsimp only [n_1, n_2, n_3, n_4, List.append_nil, pk, n_5, n_6] at F)
      refine l_op 2 rfl rfl rfl rfl rfl ?_
      refine l_op 0 rfl rfl rfl rfl rfl ?_
      refine l_guard rfl rfl rfl (fun hc3 => ?_) (fun hc3 => ?_)
      · try simp only [irr_eq, beq_iff_eq, bne_iff_ne, beq_eq_false_iff_ne, bne_eq_false_iff_eq, ne_eq, decide_eq_true_eq, decide_eq_false_iff_not, Bool.not_eq_true', Bool.not_eq_false'] at hc3
        refine l_op 2 rfl rfl rfl rfl rfl ?_
        (first | refine l_ld0 rfl rfl rfl rfl rfl (by assumption) ?_ | refine l_ldj rfl rfl rfl rfl rfl rfl (by assumption) rfl ?_ | refine l_ldc F 0 rfl rfl rfl rfl rfl rfl rfl ?_ | refine l_ldc F 1 rfl rfl rfl rfl rfl rfl rfl ?_ | refine l_ldc F 2 rfl rfl rfl rfl rfl rfl rfl ?_ | refine l_ldc F 3 rfl rfl rfl rfl rfl rfl rfl ?_ | refine l_ldc F 4 rfl rfl rfl rfl rfl rfl rfl ?_ | refine l_ldc F 5 rfl rfl rfl rfl rfl rfl rfl ?_ | refine l_ldc F 6 rfl rfl rfl rfl rfl rfl rfl ?_ | refine l_ldc F 7 rfl rfl rfl rfl rfl rfl rfl ?_ | refine l_ldc F 8 rfl rfl rfl rfl rfl rfl rfl ?_ | refine l_ldc F 9 rfl rfl rfl rfl rfl rfl rfl ?_ | refine l_lda rfl rfl rfl rfl rfl (by assumption) ?_ | refine l_ldca F 0 rfl rfl rfl rfl rfl rfl rfl ?_ | refine l_ldca F 1 rfl rfl rfl rfl rfl rfl rfl ?_ | refine l_ldca F 2 rfl rfl rfl rfl rfl rfl rfl ?_ | refine l_ldca F 3 rfl rfl rfl rfl rfl rfl rfl ?_ | refine l_ldca F 4 rfl rfl rfl rfl rfl rfl rfl ?_ | refine l_ldca F 5 rfl rfl rfl rfl rfl rfl rfl ?_ | refine l_ldca F 6 rfl rfl rfl rfl rfl rfl rfl ?_ | refine l_ldca F 7 rfl rfl rfl rfl rfl rfl rfl ?_ | refine l_ldca F 8 rfl rfl rfl rfl rfl rfl rfl ?_ | refine l_ldca F 9 rfl rfl rfl rfl rfl rfl rfl ?_ | refine l_ldo F (by assumption) rfl rfl rfl rfl rfl rfl ?_ | refine l_ldoa F (by assumption) rfl rfl rfl rfl rfl rfl ?_)
        refine l_op 2 rfl rfl rfl rfl rfl ?_
        (first | refine l_ld0 rfl rfl rfl rfl rfl (by assumption) ?_ | refine l_ldj rfl rfl rfl rfl rfl rfl (by assumption) rfl ?_ | refine l_ldc F 0 rfl rfl rfl rfl rfl rfl rfl ?_ | refine l_ldc F 1 rfl rfl rfl rfl rfl rfl rfl ?_ | refine l_ldc F 2 rfl rfl rfl rfl rfl rfl rfl ?_ | refine l_ldc F 3 rfl rfl rfl rfl rfl rfl rfl ?_ | refine l_ldc F 4 rfl rfl rfl rfl rfl rfl rfl ?_ | refine l_ldc F 5 rfl rfl rfl rfl rfl rfl rfl ?_ | refine l_ldc F 6 rfl rfl rfl rfl rfl rfl rfl ?_ | refine l_ldc F 7 rfl rfl rfl rfl rfl rfl rfl ?_ | refine l_ldc F 8 rfl rfl rfl rfl rfl rfl rfl ?_ | refine l_ldc F 9 rfl rfl rfl rfl rfl rfl rfl ?_ | refine l_lda rfl rfl rfl rfl rfl (by assumption) ?_ | refine l_ldca F 0 rfl rfl rfl rfl rfl rfl rfl ?_ | refine l_ldca F 1 rfl rfl rfl rfl rfl rfl rfl ?_ | refine l_ldca F 2 rfl rfl rfl rfl rfl rfl rfl ?_ | refine l_ldca F 3 rfl rfl rfl rfl rfl rfl rfl ?_ | refine l_ldca F 4 rfl rfl rfl rfl rfl rfl rfl ?_ | refine l_ldca F 5 rfl rfl rfl rfl rfl rfl rfl ?_ | refine l_ldca F 6 rfl rfl rfl rfl rfl rfl rfl ?_ | refine l_ldca F 7 rfl rfl rfl rfl rfl rfl rfl ?_ | refine l_ldca F 8 rfl rfl rfl rfl rfl rfl rfl ?_ | refine l_ldca F 9 rfl rfl rfl rfl rfl rfl rfl ?_ | refine l_ldo F (by assumption) rfl rfl rfl rfl rfl rfl ?_ | refine l_ldoa F (by assumption) rfl rfl rfl rfl rfl rfl ?_)
        refine l_callp F rfl rfl (by kernel_rfl) rfl rfl (same_call (Old.pure (F.old h1.s)) (Old.pure (F.old h2.s))) (fun _ s F _ => ?_)
        (try dsimp only [n_1, n_2, n_3, n_4, List.append_nil, pk, n_5, n_6] at F)
        refine l_op 2 rfl rfl rfl rfl rfl ?_
        refine l_op 0 rfl rfl rfl rfl rfl ?_
        refine l_nil (WK.nx (by assumption) ?_)
        refine SeqK.nx (by assumption) ?_
        refine k_ret ?_
        refine FunK.rt (by assumption) rfl ?_
        -- leaf 1
        first
        | (refine ⟨eqS t.s u.s, rfl, F.pick [] (by decide), ⟨fun q => ?_, fun q => ?_⟩⟩
           · have e1 := (eqS17 b1.1 b2.1).1 hc1
             have e4 := (eqS17 b1.2 b2.2).1 q
             show (_, _, _, _) = (_, _, _, _)
             rw [e1, hc2, hc3, e4]
           · by_cases e : eqS t.s u.s = true
             · exact e
             · exact absurd q (hno (.inr (.inr (.inr fun k => e ((eqS17 b1.2 b2.2).2 k))))))
        | exact ⟨false, irr_f, F.pick [] (by decide), ⟨(fun q => absurd q (by decide)), fun q => absurd q (hno (.inr (.inr (.inl hc3))))⟩⟩
        | exact ⟨false, irr_f, F.pick [] (by decide), ⟨(fun q => absurd q (by decide)), fun q => absurd q (hno (.inr (.inl hc2)))⟩⟩
        | (refine ⟨false, irr_f, F.pick [] (by decide), ⟨(fun q => absurd q (by decide)), fun q => absurd q (hno (.inl fun k => ?_))⟩⟩
           rw [(eqS17 b1.1 b2.1).2 k] at hc1
           cases hc1)
      try simp only [irr_eq, beq_iff_eq, bne_iff_ne, beq_eq_false_iff_ne, bne_eq_false_iff_eq, ne_eq, decide_eq_true_eq, decide_eq_false_iff_not, Bool.not_eq_true', Bool.not_eq_false'] at hc3
      refine l_s rfl rfl ?_
      refine l_s rfl rfl ?_
      refine l_s rfl rfl ?_
      refine l_s rfl rfl ?_
      refine l_s rfl rfl ?_
      refine l_op 2 rfl rfl rfl rfl rfl ?_
      refine l_op 0 rfl rfl rfl rfl rfl ?_
      refine l_nil (WK.nx (by assumption) ?_)
      refine SeqK.nx (by assumption) ?_
      refine k_ret ?_
      refine FunK.rt (by assumption) rfl ?_
      -- leaf 2
      first
      | (refine ⟨eqS t.s u.s, rfl, F.pick [] (by decide), ⟨fun q => ?_, fun q => ?_⟩⟩
         · have e1 := (eqS17 b1.1 b2.1).1 hc1
           have e4 := (eqS17 b1.2 b2.2).1 q
           show (_, _, _, _) = (_, _, _, _)
           rw [e1, hc2, hc3, e4]
         · by_cases e : eqS t.s u.s = true
           · exact e
           · exact absurd q (hno (.inr (.inr (.inr fun k => e ((eqS17 b1.2 b2.2).2 k))))))
      | exact ⟨false, irr_f, F.pick [] (by decide), ⟨(fun q => absurd q (by decide)), fun q => absurd q (hno (.inr (.inr (.inl hc3))))⟩⟩
      | exact ⟨false, irr_f, F.pick [] (by decide), ⟨(fun q => absurd q (by decide)), fun q => absurd q (hno (.inr (.inl hc2)))⟩⟩
      | (refine ⟨false, irr_f, F.pick [] (by decide), ⟨(fun q => absurd q (by decide)), fun q => absurd q (hno (.inl fun k => ?_))⟩⟩
         rw [(eqS17 b1.1 b2.1).2 k] at hc1
         cases hc1)
    first | replace hc2 := ne_of_beq_false ((irr_eq _).symm.trans hc2) | simp only [irr_eq, beq_iff_eq, beq_eq_false_iff_ne, ne_eq, decide_eq_true_eq, decide_eq_false_iff_not] at hc2
    refine l_s rfl rfl ?_
    refine l_s rfl rfl ?_
    refine l_s rfl rfl ?_
    refine l_s rfl rfl ?_
    refine l_s rfl rfl ?_
    refine l_op 2 rfl rfl rfl rfl rfl ?_
    refine l_op 0 rfl rfl rfl rfl rfl ?_
    refine l_s rfl rfl ?_
    refine l_s rfl rfl ?_
    refine l_s rfl rfl ?_
    refine l_s rfl rfl ?_
    refine l_s rfl rfl ?_
    refine l_op 2 rfl rfl rfl rfl rfl ?_
    refine l_op 0 rfl rfl rfl rfl rfl ?_
    refine l_nil (WK.nx (by assumption) ?_)
    refine SeqK.nx (by assumption) ?_
    refine k_ret ?_
    refine FunK.rt (by assumption) rfl ?_
    -- leaf 3
    first
    | (refine ⟨eqS t.s u.s, rfl, F.pick [] (by decide), ⟨fun q => ?_, fun q => ?_⟩⟩
       · have e1 := (eqS17 b1.1 b2.1).1 hc1
         have e4 := (eqS17 b1.2 b2.2).1 q
         show (_, _, _, _) = (_, _, _, _)
         rw [e1, hc2, hc3, e4]
       · by_cases e : eqS t.s u.s = true
         · exact e
         · exact absurd q (hno (.inr (.inr (.inr fun k => e ((eqS17 b1.2 b2.2).2 k))))))
    | exact ⟨false, irr_f, F.pick [] (by decide), ⟨(fun q => absurd q (by decide)), fun q => absurd q (hno (.inr (.inr (.inl hc3))))⟩⟩
    | exact ⟨false, irr_f, F.pick [] (by decide), ⟨(fun q => absurd q (by decide)), fun q => absurd q (hno (.inr (.inl hc2)))⟩⟩
    | (refine ⟨false, irr_f, F.pick [] (by decide), ⟨(fun q => absurd q (by decide)), fun q => absurd q (hno (.inl fun k => ?_))⟩⟩
       rw [(eqS17 b1.1 b2.1).2 k] at hc1
       cases hc1)
  try simp only [irr_eq, beq_iff_eq, bne_iff_ne, beq_eq_false_iff_ne, bne_eq_false_iff_eq, ne_eq, decide_eq_true_eq, decide_eq_false_iff_not, Bool.not_eq_true', Bool.not_eq_false'] at hc1
  refine l_s rfl rfl ?_
  refine l_s rfl rfl ?_
  refine l_s rfl rfl ?_
  refine l_s rfl rfl ?_
  refine l_s rfl rfl ?_
  refine l_op 2 rfl rfl rfl rfl rfl ?_
  refine l_op 0 rfl rfl rfl rfl rfl ?_
  refine l_s rfl rfl ?_
  refine l_s rfl rfl ?_
  refine l_s rfl rfl ?_
  refine l_s rfl rfl ?_
  refine l_s rfl rfl ?_
  refine l_op 2 rfl rfl rfl rfl rfl ?_
  refine l_op 0 rfl rfl rfl rfl rfl ?_
  refine l_s rfl rfl ?_
  refine l_s rfl rfl ?_
  refine l_s rfl rfl ?_
  refine l_s rfl rfl ?_
  refine l_s rfl rfl ?_
  refine l_op 2 rfl rfl rfl rfl rfl ?_
  refine l_op 0 rfl rfl rfl rfl rfl ?_
  refine l_nil (WK.nx (by assumption) ?_)
  refine SeqK.nx (by assumption) ?_
  refine k_ret ?_
  refine FunK.rt (by assumption) rfl ?_
  -- leaf 4
  first
  | (refine ⟨eqS t.s u.s, rfl, F.pick [] (by decide), ⟨fun q => ?_, fun q => ?_⟩⟩
     · have e1 := (eqS17 b1.1 b2.1).1 hc1
       have e4 := (eqS17 b1.2 b2.2).1 q
       show (_, _, _, _) = (_, _, _, _)
       rw [e1, hc2, hc3, e4]
     · by_cases e : eqS t.s u.s = true
       · exact e
       · exact absurd q (hno (.inr (.inr (.inr fun k => e ((eqS17 b1.2 b2.2).2 k))))))
  | exact ⟨false, irr_f, F.pick [] (by decide), ⟨(fun q => absurd q (by decide)), fun q => absurd q (hno (.inr (.inr (.inl hc3))))⟩⟩
  | exact ⟨false, irr_f, F.pick [] (by decide), ⟨(fun q => absurd q (by decide)), fun q => absurd q (hno (.inr (.inl hc2)))⟩⟩
  | (refine ⟨false, irr_f, F.pick [] (by decide), ⟨(fun q => absurd q (by decide)), fun q => absurd q (hno (.inl fun k => ?_))⟩⟩
     rw [(eqS17 b1.1 b2.1).2 k] at hc1
     cases hc1)

end Go.Proofs.Ytddenboepgfbgaa
