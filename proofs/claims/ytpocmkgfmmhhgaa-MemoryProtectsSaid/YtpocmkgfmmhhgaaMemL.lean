/- Behind a restart protected bytes are as they were. No statement of the seat is proved in this text. -/
import Derived.Test.YtpocmkgfmmhhgaaMemI
set_option linter.unusedVariables false
set_option linter.unusedSimpArgs false
set_option maxRecDepth 100000
set_option maxHeartbeats 8000000
namespace GAb
open Go
theorem l_azo {P : Program} {B : Base} {n : Nat} {all : Array Oper} {W : Pn → Env → AState → Prop} {pn : Pn} {env : Env} {σ σ0 : AState} {o : Oper} {rest : List Oper} {d : Option Nat} {O : Nat → Prop} {L : List Fact} {x y : Operand} {elem : TypeId} {es by_ len cap : Nat} {a : Option Addr} {vs zs : List Value} {ik : IntKind} {l : Int} (F : Facts O σ0 σ L) (k : Nat) (hk : opk o = 12) (hs : azE P o = some (x, y, elem, es, by_, zs)) (hw : wantedE all n o env = true) (hd : dsto o = some d)
    (hx : look n env x = .slice a len cap) (hL : L[k]? = some (own a len cap es vs)) (hy : look n env y = .int ik l) (h0 : 0 ≤ l) (hby : Nat.ble by_ 1024 = true) (hbd : len + l.toNat ≤ 137438953472) (hD : ∀ k, O k ∨ σ0.next ≤ k → B.D k)
    (h : ∀ a' cap' σ', Facts O σ0 σ' (L.set k (own a' (len + l.toNat) cap' es (vs ++ zrow zs l.toNat))) → Lin P B all W n pn rest (upd env d (.slice a' (len + l.toNat) cap')) σ') (hp : PnA pn (Nm a) σ ∨ PnS pn O σ0 := by first | exact .inl pna_none | exact .inl pna_nil | exact .inr (by assumption) | exact .inl (by assumption)) : Lin P B all W n pn (o :: rest) env σ := by
  have hp := hp.elim id fun h => h.pna F (fun m hm => F.fo _ (List.mem_of_getElem? hL) m hm)
  have hm := List.mem_of_getElem? hL
  unfold azE at hs
  split at hs
  · rename_i c ho
    split at hs
    · rename_i x' y' st xt hc1 hc2 hc3 hc4
      split at hs
      · rename_i elem' ik' k1 k2 hu1 hu2
        split at hs
        · rename_i k' z b' t1 t2 t3
          split at hs
          · rename_i zs' z1 z2 z3
            injection hs with hs
            injection hs with e1 hs
            injection hs with e2 hs
            injection hs with e3 hs
            injection hs with e4 hs
            injection hs with e5 e6
            subst e1; subst e2; subst e3; subst e4; subst e5; subst e6
            have hz := fvs_eq z3
            have hsz : z.cells.size = k' := Nat.eq_of_beq_eq_true z2
            have hzl : zs'.length = k' := by rw [← hz]; simpa using hsz
            have hall : (zrow zs' l.toNat).all Value.oneCell' = true := by
              have := zrow_flat (z := zs') (by rw [← hz]; exact z1) l.toNat
              rw [List.all_eq_true] at this ⊢
              exact fun v hv => flat_one (this v hv)
            have hbm := bd_mul hby hbd
            obtain ⟨x2, cap2, σ', wn, j1, j2, j3⟩ := aTail_f (n := l.toNat) (F.ho _ hm) t2 hsz t3 (ns := zrow zs' l.toNat) (by rw [zrow_length, hzl]) hall hbm
            refine l_w hw hd (v := _) (σ' := σ') (wn := wn) ?_ (by unfold rbE; rw [ho]) j2 (fun k hk => hD _ (F.fo _ hm _ hk)) j3 hp (h _ _ _ (F.set hL j3))
            rw [← j1]
            unfold aop
            simp only [ho, hc1]
            unfold aBuiltin
            simp only [hc2, look_aval k1, look_aval k2, hx, hy]
            unfold aAppend
            simp only [hc3, hc4, hu1, hu2, t1, t2, t3, isInt, if_true]
            rw [if_pos ⟨h0, by omega, by
              have : l * (b' : Int) = ((l.toNat * b' : Nat) : Int) := by rw [Int.natCast_mul, Int.toNat_of_nonneg h0]
              rw [this]
              have := Nat.mul_le_mul_right b' (Nat.le_add_left l.toNat len)
              omega, z1, hsz⟩, hz]
          · cases hs
        · cases hs
      · cases hs
    · cases hs
  · cases hs
end GAb
namespace Go.Proofs.Ytpocmkgfmmhhgaa
open GAb Go

theorem mixB_at {f t : Int} {old b : List Int} {i : Nat} (h : i < b.length) : (mixB f t old b).getD i 0 = if f ≤ i ∧ (i : Int) < t ∧ i < old.length then old.getD i 0 else b.getD i 0 := by
  simp [mixB, List.getD, h]
theorem protects_law {σ : AState} {q : Option Addr} {l c : Nat} {ts : List Act9} {a n : Int} (h : OldA9 E0 σ q l c ts) (ha : U32 a) (hn : U32 n) :
    SCall Try.prog E0 5 [.slice q l c, .int .u32 a, .int .u32 n] σ (fun v _ => v = .bool true) := by
  have ha' := ha
  have hn' := hn
  obtain ⟨a0, a1⟩ := ha
  obtain ⟨n0, n1⟩ := hn
  have hfl := firstB_len
  refine k_fun Try.func5 rfl (m := 95) rfl fun B hD Q K => ?_
  have F := Facts.nil E0 σ
  refine k_seq (fun Q K => ?_)
  refine k_lin (fun W K => ?_)
  refine l_op 0 rfl rfl rfl rfl rfl ?_
  refine l_nil (WK.nx (by assumption) ?_)
  refine SeqK.nx (by assumption) ?_
  refine k_seq (fun Q K => ?_)
  refine k_seq (fun Q K => ?_)
  refine k_lin (fun W K => ?_)
  refine l_op 0 rfl rfl rfl rfl rfl ?_
  refine l_callp F rfl rfl (by kernel_rfl) rfl rfl (huge9_call h) (fun hg s F hhg => ?_)
  (try dsimp only [n_1, n_2, n_3, n_4, List.append_nil, pk, n_5, n_6] at F)
  refine l_nil (WK.nx (by assumption) ?_)
  refine SeqK.nx (by assumption) ?_
  refine l_cond rfl rfl (fun hc1 => ?_) (fun hc1 => ?_)
  · try simp only [irr_eq, beq_iff_eq, bne_iff_ne, beq_eq_false_iff_ne, bne_eq_false_iff_eq, ne_eq, decide_eq_true_eq, decide_eq_false_iff_not, Bool.not_eq_true', Bool.not_eq_false'] at hc1
    refine k_seq (fun Q K => ?_)
    refine k_lin (fun W K => ?_)
    refine l_callp F rfl rfl (by kernel_rfl) rfl rfl (live9_call E0) (fun _ s F _ => ?_)
    (try dsimp only [n_1, n_2, n_3, n_4, List.append_nil, pk, n_5, n_6] at F)
    refine l_op 0 rfl rfl rfl rfl rfl ?_
    refine l_nil (WK.nx (by assumption) ?_)
    refine SeqK.nx (by assumption) ?_
    refine k_ret ?_
    refine SeqK.rt (by assumption) ?_
    refine FunK.rt (by assumption) rfl ?_
    -- leaf 1
    first
    | rfl
    | (exfalso; omega)
  try simp only [irr_eq, beq_iff_eq, bne_iff_ne, beq_eq_false_iff_ne, bne_eq_false_iff_eq, ne_eq, decide_eq_true_eq, decide_eq_false_iff_not, Bool.not_eq_true', Bool.not_eq_false'] at hc1
  have hg2 := hhg (by assumption)
  refine k_skip ?_
  refine SeqK.nx (by assumption) ?_
  refine k_seq (fun Q K => ?_)
  refine k_lin (fun W K => ?_)
  refine l_op 0 rfl rfl rfl rfl rfl ?_
  refine l_callp F rfl rfl (by kernel_rfl) rfl rfl (begin9_call (h.to F) hg2.1 hg2.2) (fun y s F ok => ?_)
  obtain ⟨m, z⟩ := y
  replace F : Facts E0 σ s (mF m z) := F
  replace ok : MOK z := ok
  have hr := ok.room
  have hz := ok.size
  (try dsimp only [n_1, n_2, n_3, n_4, List.append_nil, pk, n_5, n_6] at F)
  refine l_op 0 rfl rfl rfl rfl rfl ?_
  refine l_nil (WK.nx (by assumption) ?_)
  refine SeqK.nx (by assumption) ?_
  refine k_seq (fun Q K => ?_)
  refine k_seq (fun Q K => ?_)
  refine k_lin (fun W K => ?_)
  refine l_op 0 rfl rfl rfl rfl rfl ?_
  refine l_cmp rfl rfl rfl rfl ?_
  refine l_nil (WK.nx (by assumption) ?_)
  refine SeqK.nx (by assumption) ?_
  refine l_cond rfl rfl (fun hc2 => ?_) (fun hc2 => ?_)
  · first | replace hc2 := eq_of_beq ((irr_eq _).symm.trans hc2) | simp only [irr_eq, beq_iff_eq, beq_eq_false_iff_ne, ne_eq, decide_eq_true_eq, decide_eq_false_iff_not] at hc2
    cases hc2
  first | replace hc2 := ne_of_beq_false ((irr_eq _).symm.trans hc2) | simp only [irr_eq, beq_iff_eq, beq_eq_false_iff_ne, ne_eq, decide_eq_true_eq, decide_eq_false_iff_not] at hc2
  refine k_skip ?_
  refine SeqK.nx (by assumption) ?_
  refine k_seq (fun Q K => ?_)
  refine k_lin (fun W K => ?_)
  refine l_op 0 rfl rfl rfl rfl rfl ?_
  first
  | refine l_callp F rfl rfl (by kernel_rfl) rfl rfl (mbytes_call (oldM_of F ok 0 1 2 3 4 rfl rfl rfl rfl rfl) ok) (fun y1 s F _ => ?_)
  | refine l_callp F rfl rfl (by kernel_rfl) rfl rfl (mbytes_call (oldM_of F hR.ok 1 2 3 4 5 rfl rfl rfl rfl rfl) hR.ok) (fun y2 s F _ => ?_)
  (try dsimp only [n_1, n_2, n_3, n_4, List.append_nil, pk, n_5, n_6] at F)
  refine l_op 0 rfl rfl rfl rfl rfl ?_
  refine l_nil (WK.nx (by assumption) ?_)
  refine SeqK.nx (by assumption) ?_
  refine k_seq (fun Q K => ?_)
  refine k_lin (fun W K => ?_)
  refine l_op 0 rfl rfl rfl rfl rfl ?_
  refine l_op 0 rfl rfl rfl rfl rfl ?_
  refine l_op 0 rfl rfl rfl rfl rfl ?_
  refine l_call F [0, 1, 2, 3, 4] [5] (by decide) rfl rfl (by kernel_rfl) rfl rfl (protect_call (F.sub [0, 1, 2, 3, 4] (by decide)) ha' hn') hD (fun _ s F _ => ?_)
  (try dsimp only [n_1, n_2, n_3, n_4, List.append_nil, pk, n_5, n_6] at F)
  refine l_nil (WK.nx (by assumption) ?_)
  refine SeqK.nx (by assumption) ?_
  refine k_seq (fun Q K => ?_)
  refine k_lin (fun W K => ?_)
  refine l_op 0 rfl rfl rfl rfl rfl ?_
  refine l_call F [1, 2, 3, 4, 5] [0] (by decide) rfl rfl (by kernel_rfl) rfl rfl (restart_call (F.sub [1, 2, 3, 4, 5] (by decide)) (ok.wp ha' hn')) hD (fun z' s F hR => ?_)
  have hbs : z'.bs = mixB a (a + n) z.bs firstB := hR.bs
  have hbl : z'.bs.length = 768 := by rw [hbs, mixB_len]; exact firstB_len
  (try dsimp only [n_1, n_2, n_3, n_4, List.append_nil, pk, n_5, n_6] at F)
  refine l_nil (WK.nx (by assumption) ?_)
  refine SeqK.nx (by assumption) ?_
  refine k_seq (fun Q K => ?_)
  refine k_lin (fun W K => ?_)
  refine l_op 0 rfl rfl rfl rfl rfl ?_
  first
  | refine l_callp F rfl rfl (by kernel_rfl) rfl rfl (mbytes_call (oldM_of F ok 0 1 2 3 4 rfl rfl rfl rfl rfl) ok) (fun y1 s F _ => ?_)
  | refine l_callp F rfl rfl (by kernel_rfl) rfl rfl (mbytes_call (oldM_of F hR.ok 1 2 3 4 5 rfl rfl rfl rfl rfl) hR.ok) (fun y2 s F _ => ?_)
  (try dsimp only [n_1, n_2, n_3, n_4, List.append_nil, pk, n_5, n_6] at F)
  refine l_op 0 rfl rfl rfl rfl rfl ?_
  refine l_nil (WK.nx (by assumption) ?_)
  refine SeqK.nx (by assumption) ?_
  refine k_seq (fun Q K => ?_)
  refine k_lin (fun W K => ?_)
  refine l_callp F rfl rfl (by kernel_rfl) rfl rfl small_call (fun ys s F _ => ?_)
  (try dsimp only [n_1, n_2, n_3, n_4, List.append_nil, pk, n_5, n_6] at F)
  refine l_azo (es := 1) F 7 rfl rfl rfl rfl rfl rfl rfl (by decide) rfl (by omega) hD (fun x3 c3 s F => ?_)
  (try dsimp only [n_1, n_2, n_3, n_4, List.append_nil, pk, n_5, n_6] at F)
  have e3 : u8l smallB ++ zrow [Value.int IntKind.u8 0] (Int.toNat 256) = u8l firstB := by
    rw [zrow_one]
    show _ = List.map _ (smallB ++ List.replicate 256 0)
    rw [List.map_append, List.map_replicate]
    rfl
  rw [e3] at F
  refine l_op 0 rfl rfl rfl rfl rfl ?_
  refine l_nil (WK.nx (by assumption) ?_)
  refine SeqK.nx (by assumption) ?_
  refine k_seq (fun Q K => ?_)
  refine k_seq (fun Q K => ?_)
  refine k_lin (fun W K => ?_)
  refine l_op 0 rfl rfl rfl rfl rfl ?_
  first | refine l_op 2 rfl rfl rfl rfl rfl ?_ | refine l_ln rfl rfl rfl rfl ?_
  refine l_op 0 rfl rfl rfl rfl rfl ?_
  first | refine l_op 2 rfl rfl rfl rfl rfl ?_ | refine l_ln rfl rfl rfl rfl ?_
  refine l_cmp rfl rfl rfl rfl ?_
  refine l_nil (WK.nx (by assumption) ?_)
  refine SeqK.nx (by assumption) ?_
  refine l_cond rfl rfl (fun hc3 => ?_) (fun hc3 => ?_)
  · first | replace hc3 := bne_iff_ne.1 ((irr_eq _).symm.trans hc3) | simp only [irr_eq, bne_iff_ne, bne_eq_false_iff_eq, ne_eq, decide_eq_true_eq, decide_eq_false_iff_not, Bool.not_eq_true', Bool.not_eq_false'] at hc3
    refine k_seq (fun Q K => ?_)
    refine k_lin (fun W K => ?_)
    refine l_op 0 rfl rfl rfl rfl rfl ?_
    refine l_nil (WK.nx (by assumption) ?_)
    refine SeqK.nx (by assumption) ?_
    refine k_ret ?_
    refine SeqK.rt (by assumption) ?_
    refine FunK.rt (by assumption) rfl ?_
    -- leaf 2
    first
    | rfl
    | (exfalso; omega)
  first | replace hc3 := bne_eq_false_iff_eq.1 ((irr_eq _).symm.trans hc3) | simp only [irr_eq, bne_iff_ne, bne_eq_false_iff_eq, ne_eq, decide_eq_true_eq, decide_eq_false_iff_not, Bool.not_eq_true', Bool.not_eq_false'] at hc3
  refine k_skip ?_
  refine SeqK.nx (by assumption) ?_
  refine k_seq (fun Q K => ?_)
  refine k_seq (fun Q K => ?_)
  refine k_lin (fun W K => ?_)
  refine l_op 0 rfl rfl rfl rfl rfl ?_
  refine l_nil (WK.nx (by assumption) ?_)
  refine SeqK.nx (by assumption) ?_
  refine k_block (fun Q K => ?_)
  refine k_loop (α := Nat) (fun i s => Facts E0 σ s [own y1.1 z.bs.length y1.2 1 (u8l z.bs), cel m (mC z'), own z'.ga 512 z'.gc 1 (u8l smallB), own (some ⟨z'.q, 0, some 0⟩) z'.bs.length z'.c 1 (u8l z'.bs), cel z'.h (hC z'.h z'.la z'.lc 1048576 z'.st z'.en z'.bl), own z'.la z'.bl.length z'.lc 2 (rows eB z'.bl), own y2.1 z'.bs.length y2.2 1 (u8l z'.bs), own x3 768 c3 1 (u8l firstB)] ∧ i ≤ 768) (fun i => [(1, .int .u32 a), (2, .int .u32 n), (7, .pointer (some ⟨m, 0, none⟩)), (8, .slice y1.1 z.bs.length y1.2), (9, .slice y2.1 z'.bs.length y2.2), (10, .slice x3 768 c3), (11, .int .i64 i)]) (fun i => 768 - i) 0 ⟨F, by omega⟩ (by repeat (first | exact trivial | refine And.intro rfl ?_)) ?_
  clear F
  rintro i env s Q K0 ⟨F, i1⟩
  refine k_seq (fun Q K => ?_)
  refine k_seq (fun Q K => ?_)
  refine k_lin (fun W K => ?_)
  refine l_op 0 rfl rfl rfl rfl rfl ?_
  refine l_op 0 rfl rfl rfl rfl rfl ?_
  first | refine l_op 2 rfl rfl rfl rfl rfl ?_ | refine l_ln rfl rfl rfl rfl ?_
  refine l_cmp rfl rfl rfl rfl ?_
  refine l_nil (WK.nx (by assumption) ?_)
  refine SeqK.nx (by assumption) ?_
  refine l_cond rfl rfl (fun hc4 => ?_) (fun hc4 => ?_)
  · replace hc4 := of_decide_eq_true ((irr_eq _).symm.trans hc4)
    refine k_skip ?_
    refine SeqK.nx (by assumption) ?_
    refine k_seq (fun Q K => ?_)
    refine k_block (fun Q K => ?_)
    refine k_seq (fun Q K => ?_)
    refine k_lin (fun W K => ?_)
    refine l_op 0 rfl rfl rfl rfl rfl ?_
    refine l_op 0 rfl rfl rfl rfl rfl ?_
    refine l_ixi rfl rfl rfl rfl rfl rfl (F.has 7 rfl) (by omega) (fun m47 b47 hA47 => ?_)
    refine l_ld0 rfl rfl rfl rfl rfl (by assumption) ?_
    refine l_op 0 rfl rfl rfl rfl rfl ?_
    refine l_nil (WK.nx (by assumption) ?_)
    refine SeqK.nx (by assumption) ?_
    refine k_seq (fun Q K => ?_)
    refine k_seq (fun Q K => ?_)
    refine k_lin (fun W K => ?_)
    refine l_op 0 rfl rfl rfl rfl rfl ?_
    refine l_op 0 rfl rfl rfl rfl rfl ?_
    first | refine l_op 2 rfl rfl rfl rfl rfl ?_ | refine l_ln rfl rfl rfl rfl ?_
    refine l_cmp rfl rfl rfl rfl ?_
    refine l_op 0 rfl rfl rfl rfl rfl ?_
    refine l_guard rfl rfl rfl (fun hc5 => ?_) (fun hc5 => ?_)
    · replace hc5 := of_decide_eq_true ((irr_eq _).symm.trans hc5)
      refine l_op 0 rfl rfl rfl rfl rfl ?_
      refine l_cu64 rfl rfl rfl (by omega) rfl ?_
      refine l_op 0 rfl rfl rfl rfl rfl ?_
      refine l_cu64 rfl rfl rfl (by omega) rfl ?_
      refine l_cmp rfl rfl rfl rfl ?_
      refine l_op 2 rfl rfl rfl rfl rfl ?_
      refine l_op 0 rfl rfl rfl rfl rfl ?_
      refine l_guard rfl rfl rfl (fun hc6 => ?_) (fun hc6 => ?_)
      · replace hc6 := of_decide_eq_true ((irr_eq _).symm.trans hc6)
        refine l_op 0 rfl rfl rfl rfl rfl ?_
        refine l_cu64 rfl rfl rfl (by omega) rfl ?_
        refine l_op 0 rfl rfl rfl rfl rfl ?_
        refine l_cu64 rfl rfl rfl (by omega) rfl ?_
        refine l_op 0 rfl rfl rfl rfl rfl ?_
        refine l_cu64 rfl rfl rfl (by omega) rfl ?_
        refine l_au64 rfl rfl rfl (by omega) rfl ?_
        refine l_cmp rfl rfl rfl rfl ?_
        refine l_op 2 rfl rfl rfl rfl rfl ?_
        refine l_nil (WK.nx (by assumption) ?_)
        refine SeqK.nx (by assumption) ?_
        refine l_cond rfl rfl (fun hc7 => ?_) (fun hc7 => ?_)
        · replace hc7 := of_decide_eq_true ((irr_eq _).symm.trans hc7)
          refine k_lin (fun W K => ?_)
          refine l_op 0 rfl rfl rfl rfl rfl ?_
          refine l_op 0 rfl rfl rfl rfl rfl ?_
          refine l_ixi rfl rfl rfl rfl rfl rfl (F.has 0 rfl) (by omega) (fun m72 b72 hA72 => ?_)
          refine l_ld0 rfl rfl rfl rfl rfl (by assumption) ?_
          refine l_op 0 rfl rfl rfl rfl rfl ?_
          refine l_nil (WK.nx (by assumption) ?_)
          refine SeqK.nx (by assumption) ?_
          refine k_seq (fun Q K => ?_)
          refine k_lin (fun W K => ?_)
          refine l_op 0 rfl rfl rfl rfl rfl ?_
          refine l_op 0 rfl rfl rfl rfl rfl ?_
          refine l_ixi rfl rfl rfl rfl rfl rfl (F.has 6 rfl) (by omega) (fun m76 b76 hA76 => ?_)
          refine l_ld0 rfl rfl rfl rfl rfl (by assumption) ?_
          refine l_op 0 rfl rfl rfl rfl rfl ?_
          refine l_cmp rfl rfl rfl rfl ?_
          refine l_nil (WK.nx (by assumption) ?_)
          refine SeqK.nx (by assumption) ?_
          refine l_cond rfl rfl (fun hc8 => ?_) (fun hc8 => ?_)
          · first | replace hc8 := bne_iff_ne.1 ((irr_eq _).symm.trans hc8) | simp only [irr_eq, bne_iff_ne, bne_eq_false_iff_eq, ne_eq, decide_eq_true_eq, decide_eq_false_iff_not, Bool.not_eq_true', Bool.not_eq_false'] at hc8
            exfalso
            rw [hbs, mixB_at (by omega)] at hc8
            split at hc8 <;> first | exact absurd rfl hc8 | omega
          first | replace hc8 := bne_eq_false_iff_eq.1 ((irr_eq _).symm.trans hc8) | simp only [irr_eq, bne_iff_ne, bne_eq_false_iff_eq, ne_eq, decide_eq_true_eq, decide_eq_false_iff_not, Bool.not_eq_true', Bool.not_eq_false'] at hc8
          refine k_skip ?_
          refine BlkK.nx (by assumption) ?_
          refine SeqK.nx (by assumption) ?_
          refine k_lin (fun W K => ?_)
          refine l_op 0 rfl rfl rfl rfl rfl ?_
          refine l_a64 rfl rfl rfl (by omega) rfl ?_
          refine l_op 0 rfl rfl rfl rfl rfl ?_
          refine l_nil (WK.nx (by assumption) ?_)
          have e : (i : Int) + 1 = ((i + 1 : Nat) : Int) := by omega
          rw [e]
          exact K0.nx (i + 1) (by repeat (first | exact trivial | refine And.intro rfl ?_)) ⟨F, by omega⟩ (by first | omega | (simp only; omega))
        replace hc7 := of_decide_eq_false ((irr_eq _).symm.trans hc7)
        refine k_skip ?_
        refine SeqK.nx (by assumption) ?_
        refine k_seq (fun Q K => ?_)
        refine k_lin (fun W K => ?_)
        refine l_op 0 rfl rfl rfl rfl rfl ?_
        refine l_op 0 rfl rfl rfl rfl rfl ?_
        refine l_ixi rfl rfl rfl rfl rfl rfl (F.has 6 rfl) (by omega) (fun m76 b76 hA76 => ?_)
        refine l_ld0 rfl rfl rfl rfl rfl (by assumption) ?_
        refine l_op 0 rfl rfl rfl rfl rfl ?_
        refine l_cmp rfl rfl rfl rfl ?_
        refine l_nil (WK.nx (by assumption) ?_)
        refine SeqK.nx (by assumption) ?_
        refine l_cond rfl rfl (fun hc9 => ?_) (fun hc9 => ?_)
        · first | replace hc9 := bne_iff_ne.1 ((irr_eq _).symm.trans hc9) | simp only [irr_eq, bne_iff_ne, bne_eq_false_iff_eq, ne_eq, decide_eq_true_eq, decide_eq_false_iff_not, Bool.not_eq_true', Bool.not_eq_false'] at hc9
          exfalso
          rw [hbs, mixB_at (by omega)] at hc9
          split at hc9 <;> first | exact absurd rfl hc9 | omega
        first | replace hc9 := bne_eq_false_iff_eq.1 ((irr_eq _).symm.trans hc9) | simp only [irr_eq, bne_iff_ne, bne_eq_false_iff_eq, ne_eq, decide_eq_true_eq, decide_eq_false_iff_not, Bool.not_eq_true', Bool.not_eq_false'] at hc9
        refine k_skip ?_
        refine BlkK.nx (by assumption) ?_
        refine SeqK.nx (by assumption) ?_
        refine k_lin (fun W K => ?_)
        refine l_op 0 rfl rfl rfl rfl rfl ?_
        refine l_a64 rfl rfl rfl (by omega) rfl ?_
        refine l_op 0 rfl rfl rfl rfl rfl ?_
        refine l_nil (WK.nx (by assumption) ?_)
        have e : (i : Int) + 1 = ((i + 1 : Nat) : Int) := by omega
        rw [e]
        exact K0.nx (i + 1) (by repeat (first | exact trivial | refine And.intro rfl ?_)) ⟨F, by omega⟩ (by first | omega | (simp only; omega))
      replace hc6 := of_decide_eq_false ((irr_eq _).symm.trans hc6)
      refine l_s rfl rfl ?_
      refine l_s rfl rfl ?_
      refine l_s rfl rfl ?_
      refine l_s rfl rfl ?_
      refine l_s rfl rfl ?_
      refine l_s rfl rfl ?_
      refine l_s rfl rfl ?_
      refine l_s rfl rfl ?_
      refine l_op 2 rfl rfl rfl rfl rfl ?_
      refine l_nil (WK.nx (by assumption) ?_)
      refine SeqK.nx (by assumption) ?_
      first | refine e_cond_f rfl rfl rfl ?_ | refine e_cond_f rfl rfl (by rw [irr_eq]; first | exact beq_eq_false_iff_ne.2 (by assumption) | exact decide_eq_false (by assumption) | exact bne_eq_false_iff_eq.2 (by assumption)) ?_
      refine k_skip ?_
      refine SeqK.nx (by assumption) ?_
      refine k_seq (fun Q K => ?_)
      refine k_lin (fun W K => ?_)
      refine l_op 0 rfl rfl rfl rfl rfl ?_
      refine l_op 0 rfl rfl rfl rfl rfl ?_
      refine l_ixi rfl rfl rfl rfl rfl rfl (F.has 6 rfl) (by omega) (fun m76 b76 hA76 => ?_)
      refine l_ld0 rfl rfl rfl rfl rfl (by assumption) ?_
      refine l_op 0 rfl rfl rfl rfl rfl ?_
      refine l_cmp rfl rfl rfl rfl ?_
      refine l_nil (WK.nx (by assumption) ?_)
      refine SeqK.nx (by assumption) ?_
      refine l_cond rfl rfl (fun hc10 => ?_) (fun hc10 => ?_)
      · first | replace hc10 := bne_iff_ne.1 ((irr_eq _).symm.trans hc10) | simp only [irr_eq, bne_iff_ne, bne_eq_false_iff_eq, ne_eq, decide_eq_true_eq, decide_eq_false_iff_not, Bool.not_eq_true', Bool.not_eq_false'] at hc10
        exfalso
        rw [hbs, mixB_at (by omega)] at hc10
        split at hc10 <;> first | exact absurd rfl hc10 | omega
      first | replace hc10 := bne_eq_false_iff_eq.1 ((irr_eq _).symm.trans hc10) | simp only [irr_eq, bne_iff_ne, bne_eq_false_iff_eq, ne_eq, decide_eq_true_eq, decide_eq_false_iff_not, Bool.not_eq_true', Bool.not_eq_false'] at hc10
      refine k_skip ?_
      refine BlkK.nx (by assumption) ?_
      refine SeqK.nx (by assumption) ?_
      refine k_lin (fun W K => ?_)
      refine l_op 0 rfl rfl rfl rfl rfl ?_
      refine l_a64 rfl rfl rfl (by omega) rfl ?_
      refine l_op 0 rfl rfl rfl rfl rfl ?_
      refine l_nil (WK.nx (by assumption) ?_)
      have e : (i : Int) + 1 = ((i + 1 : Nat) : Int) := by omega
      rw [e]
      exact K0.nx (i + 1) (by repeat (first | exact trivial | refine And.intro rfl ?_)) ⟨F, by omega⟩ (by first | omega | (simp only; omega))
    replace hc5 := of_decide_eq_false ((irr_eq _).symm.trans hc5)
    refine l_s rfl rfl ?_
    refine l_s rfl rfl ?_
    refine l_s rfl rfl ?_
    refine l_s rfl rfl ?_
    refine l_s rfl rfl ?_
    refine l_op 2 rfl rfl rfl rfl rfl ?_
    refine l_op 0 rfl rfl rfl rfl rfl ?_
    refine l_s rfl rfl ?_
    refine l_s rfl rfl ?_
    refine l_s rfl rfl ?_
    refine l_s rfl rfl ?_
    refine l_s rfl rfl ?_
    refine l_s rfl rfl ?_
    refine l_s rfl rfl ?_
    refine l_s rfl rfl ?_
    refine l_op 2 rfl rfl rfl rfl rfl ?_
    refine l_nil (WK.nx (by assumption) ?_)
    refine SeqK.nx (by assumption) ?_
    first | refine e_cond_f rfl rfl rfl ?_ | refine e_cond_f rfl rfl (by rw [irr_eq]; first | exact beq_eq_false_iff_ne.2 (by assumption) | exact decide_eq_false (by assumption) | exact bne_eq_false_iff_eq.2 (by assumption)) ?_
    refine k_skip ?_
    refine SeqK.nx (by assumption) ?_
    refine k_seq (fun Q K => ?_)
    refine k_lin (fun W K => ?_)
    refine l_op 0 rfl rfl rfl rfl rfl ?_
    refine l_op 0 rfl rfl rfl rfl rfl ?_
    refine l_ixi rfl rfl rfl rfl rfl rfl (F.has 6 rfl) (by omega) (fun m76 b76 hA76 => ?_)
    refine l_ld0 rfl rfl rfl rfl rfl (by assumption) ?_
    refine l_op 0 rfl rfl rfl rfl rfl ?_
    refine l_cmp rfl rfl rfl rfl ?_
    refine l_nil (WK.nx (by assumption) ?_)
    refine SeqK.nx (by assumption) ?_
    refine l_cond rfl rfl (fun hc11 => ?_) (fun hc11 => ?_)
    · first | replace hc11 := bne_iff_ne.1 ((irr_eq _).symm.trans hc11) | simp only [irr_eq, bne_iff_ne, bne_eq_false_iff_eq, ne_eq, decide_eq_true_eq, decide_eq_false_iff_not, Bool.not_eq_true', Bool.not_eq_false'] at hc11
      exfalso
      rw [hbs, mixB_at (by omega)] at hc11
      split at hc11 <;> first | exact absurd rfl hc11 | omega
    first | replace hc11 := bne_eq_false_iff_eq.1 ((irr_eq _).symm.trans hc11) | simp only [irr_eq, bne_iff_ne, bne_eq_false_iff_eq, ne_eq, decide_eq_true_eq, decide_eq_false_iff_not, Bool.not_eq_true', Bool.not_eq_false'] at hc11
    refine k_skip ?_
    refine BlkK.nx (by assumption) ?_
    refine SeqK.nx (by assumption) ?_
    refine k_lin (fun W K => ?_)
    refine l_op 0 rfl rfl rfl rfl rfl ?_
    refine l_a64 rfl rfl rfl (by omega) rfl ?_
    refine l_op 0 rfl rfl rfl rfl rfl ?_
    refine l_nil (WK.nx (by assumption) ?_)
    have e : (i : Int) + 1 = ((i + 1 : Nat) : Int) := by omega
    rw [e]
    exact K0.nx (i + 1) (by repeat (first | exact trivial | refine And.intro rfl ?_)) ⟨F, by omega⟩ (by first | omega | (simp only; omega))
  replace hc4 := of_decide_eq_false ((irr_eq _).symm.trans hc4)
  refine k_exit ?_
  refine SeqK.et (by assumption) ?_
  refine LoopK.et (by assumption) ?_
  refine BlkK.et (by assumption) ?_
  refine SeqK.nx (by assumption) ?_
  refine k_seq (fun Q K => ?_)
  refine k_lin (fun W K => ?_)
  refine l_op 0 rfl rfl rfl rfl rfl ?_
  refine l_callp F rfl rfl (by kernel_rfl) rfl rfl (mheap_call (oldM_of F hR.ok 1 2 3 4 5 rfl rfl rfl rfl rfl) hR.ok) (fun yh s F _ => ?_)
  have hst := hR.st
  have hbe : z'.bl.length = 0 := by rw [hR.bl]; rfl
  (try dsimp only [n_1, n_2, n_3, n_4, List.append_nil, pk, n_5, n_6] at F)
  refine l_op 0 rfl rfl rfl rfl rfl ?_
  refine l_op 2 rfl rfl rfl rfl rfl ?_
  refine l_op 2 rfl rfl rfl rfl rfl ?_
  refine l_op 0 rfl rfl rfl rfl rfl ?_
  refine l_op 0 rfl rfl rfl rfl rfl ?_
  refine l_nil (WK.nx (by assumption) ?_)
  refine SeqK.nx (by assumption) ?_
  refine k_seq (fun Q K => ?_)
  refine k_lin (fun W K => ?_)
  refine l_op 0 rfl rfl rfl rfl rfl ?_
  refine l_cmp rfl rfl rfl rfl ?_
  refine l_op 0 rfl rfl rfl rfl rfl ?_
  refine l_guard rfl rfl rfl (fun hc12 => ?_) (fun hc12 => ?_)
  · first | replace hc12 := eq_of_beq ((irr_eq _).symm.trans hc12) | simp only [irr_eq, beq_iff_eq, beq_eq_false_iff_ne, ne_eq, decide_eq_true_eq, decide_eq_false_iff_not] at hc12
    refine l_op 0 rfl rfl rfl rfl rfl ?_
    first | refine l_op 2 rfl rfl rfl rfl rfl ?_ | refine l_ln rfl rfl rfl rfl ?_
    refine l_cmp rfl rfl rfl rfl ?_
    refine l_op 2 rfl rfl rfl rfl rfl ?_
    refine l_op 0 rfl rfl rfl rfl rfl ?_
    refine l_guard rfl rfl rfl (fun hc13 => ?_) (fun hc13 => ?_)
    · first | replace hc13 := eq_of_beq ((irr_eq _).symm.trans hc13) | simp only [irr_eq, beq_iff_eq, beq_eq_false_iff_ne, ne_eq, decide_eq_true_eq, decide_eq_false_iff_not] at hc13
      refine l_callp F rfl rfl (by kernel_rfl) rfl rfl (live9_call E0) (fun _ s F _ => ?_)
      (try dsimp only [n_1, n_2, n_3, n_4, List.append_nil, pk, n_5, n_6] at F)
      refine l_op 2 rfl rfl rfl rfl rfl ?_
      refine l_op 0 rfl rfl rfl rfl rfl ?_
      refine l_nil (WK.nx (by assumption) ?_)
      refine SeqK.nx (by assumption) ?_
      refine k_ret ?_
      refine FunK.rt (by assumption) rfl ?_
      -- leaf 3
      first
      | rfl
      | (exfalso; omega)
    first | replace hc13 := ne_of_beq_false ((irr_eq _).symm.trans hc13) | simp only [irr_eq, beq_iff_eq, beq_eq_false_iff_ne, ne_eq, decide_eq_true_eq, decide_eq_false_iff_not] at hc13
    refine l_s rfl rfl ?_
    refine l_op 2 rfl rfl rfl rfl rfl ?_
    refine l_op 0 rfl rfl rfl rfl rfl ?_
    refine l_nil (WK.nx (by assumption) ?_)
    refine SeqK.nx (by assumption) ?_
    refine k_ret ?_
    refine FunK.rt (by assumption) rfl ?_
    -- leaf 4
    first
    | rfl
    | (exfalso; omega)
  first | replace hc12 := ne_of_beq_false ((irr_eq _).symm.trans hc12) | simp only [irr_eq, beq_iff_eq, beq_eq_false_iff_ne, ne_eq, decide_eq_true_eq, decide_eq_false_iff_not] at hc12
  refine l_s rfl rfl ?_
  refine l_s rfl rfl ?_
  refine l_s rfl rfl ?_
  refine l_op 2 rfl rfl rfl rfl rfl ?_
  refine l_op 0 rfl rfl rfl rfl rfl ?_
  refine l_s rfl rfl ?_
  refine l_op 2 rfl rfl rfl rfl rfl ?_
  refine l_op 0 rfl rfl rfl rfl rfl ?_
  refine l_nil (WK.nx (by assumption) ?_)
  refine SeqK.nx (by assumption) ?_
  refine k_ret ?_
  refine FunK.rt (by assumption) rfl ?_
  -- leaf 5
  first
  | rfl
  | (exfalso; omega)

end Go.Proofs.Ytpocmkgfmmhhgaa
