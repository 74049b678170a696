/- A frame is put on a stack, by the program. No statement of the seat is proved in this text. -/
import Derived.Test.YtocfmecenpeoiaaGreatStE
set_option linter.unusedVariables false
set_option linter.unusedSimpArgs false
set_option maxRecDepth 100000
set_option maxHeartbeats 4000000
namespace GAb
open Go
/-- So many zeros behind a row of one's own. -/
theorem l_azo {P : Program} {B : Base} {n : Nat} {all : Array Oper} {W : Pn → Env → AState → Prop} {pn : Pn} {env : Env} {σ σ0 : AState} {o : Oper} {rest : List Oper} {d : Option Nat} {O : Nat → Prop} {L : List Fact} {x y : Operand} {elem : TypeId} {es by_ len cap : Nat} {a : Option Addr} {vs zs : List Value} {ik : IntKind} {l : Int} (F : Facts O σ0 σ L) (k : Nat) (hk : opk o = 12) (hs : azE P o = some (x, y, elem, es, by_, zs)) (hw : wantedE all n o env = true) (hd : dsto o = some d)
    (hx : look n env x = .slice a len cap) (hL : L[k]? = some (own a len cap es vs)) (hy : look n env y = .int ik l) (h0 : 0 ≤ l) (hby : Nat.ble by_ 1024 = true) (hbd : len + l.toNat ≤ 137438953472) (hD : ∀ k, O k ∨ σ0.next ≤ k → B.D k)
    (h : ∀ a' cap' σ', Facts O σ0 σ' (L.set k (own a' (len + l.toNat) cap' es (vs ++ zrow zs l.toNat))) → Lin P B all W n pn rest (upd env d (.slice a' (len + l.toNat) cap')) σ') (hp : PnA pn (Nm a) σ ∨ PnS pn O σ0 := by first | exact .inl pna_none | exact .inl pna_nil | exact .inr (by assumption) | exact .inl (by assumption)) : Lin P B all W n pn (o :: rest) env σ := by
  have hp := hp.elim id fun h => h.pna F (fun m hm => F.fo _ (List.mem_of_getElem? hL) m hm)
  have hm := List.mem_of_getElem? hL
  unfold azE at hs
  split at hs
  · rename_i c ho
    split at hs
    · rename_i x' y' st xt hc1 hc2 hc3 hc4
      split at hs
      · rename_i elem' ik' k1 k2 hu1 hu2
        split at hs
        · rename_i k' z b' t1 t2 t3
          split at hs
          · rename_i zs' z1 z2 z3
            injection hs with hs
            injection hs with e1 hs
            injection hs with e2 hs
            injection hs with e3 hs
            injection hs with e4 hs
            injection hs with e5 e6
            subst e1; subst e2; subst e3; subst e4; subst e5; subst e6
            have hz := fvs_eq z3
            have hsz : z.cells.size = k' := Nat.eq_of_beq_eq_true z2
            have hzl : zs'.length = k' := by rw [← hz]; simpa using hsz
            have hall : (zrow zs' l.toNat).all Value.oneCell' = true := by
              have := zrow_flat (z := zs') (by rw [← hz]; exact z1) l.toNat
              rw [List.all_eq_true] at this ⊢
              exact fun v hv => flat_one (this v hv)
            have hbm := bd_mul hby hbd
            obtain ⟨x2, cap2, σ', wn, j1, j2, j3⟩ := aTail_f (n := l.toNat) (F.ho _ hm) t2 hsz t3 (ns := zrow zs' l.toNat) (by rw [zrow_length, hzl]) hall hbm
            refine l_w hw hd (v := _) (σ' := σ') (wn := wn) ?_ (by unfold rbE; rw [ho]) j2 (fun k hk => hD _ (F.fo _ hm _ hk)) j3 hp (h _ _ _ (F.set hL j3))
            rw [← j1]
            unfold aop
            simp only [ho, hc1]
            unfold aBuiltin
            simp only [hc2, look_aval k1, look_aval k2, hx, hy]
            unfold aAppend
            simp only [hc3, hc4, hu1, hu2, t1, t2, t3, isInt, if_true]
            rw [if_pos ⟨h0, by omega, by
              have : l * (b' : Int) = ((l.toNat * b' : Nat) : Int) := by rw [Int.natCast_mul, Int.toNat_of_nonneg h0]
              rw [this]
              have := Nat.mul_le_mul_right b' (Nat.le_add_left l.toNat len)
              omega, z1, hsz⟩, hz]
          · cases hs
        · cases hs
      · cases hs
    · cases hs
  · cases hs
end GAb
namespace Go.Proofs.YtocfmecenpeoiaaGreat.Stk
open GAb Go

/-- What is put on top for a frame. -/
def entB (p : List Int) : List Int := putR ((locR p).1 + (locR p).2.1) 4 ++ putR (locR p).1 4 ++ p ++ List.replicate ((locR p).1 - 8 - p.length + (locR p).2.1).toNat 0
def entE (on : Bool) (bs : List Int) (n : Nat) (fp size : Int) (p : List Int) : Int :=
  if (locR p).2.2 ≠ 0 then (locR p).2.2 else if on = true ∧ (countR on bs n fp < 4 ∨ at4 bs (n - 4) ≠ fp) then 102 else if n + (locR p).1 + (locR p).2.1 > size then 100 else 0
structure StZ where
  a : Option Addr
  n : Nat
  c : Nat
  fp : Int
  on : Bool
  bs : List Int
abbrev zF (m : Nat) (size : Int) (z : StZ) : List Fact := [cel m (sC z.a z.n z.c size z.fp z.on), own z.a z.n z.c 1 (u8l z.bs)]
structure EntR (on : Bool) (bs : List Int) (n : Nat) (fp size : Int) (p : List Int) (z : StZ) : Prop where
  bad : entE on bs n fp size p ≠ 0 → z.n = n ∧ z.fp = fp ∧ z.on = on ∧ z.bs = bs
  ok : entE on bs n fp size p = 0 → z.n = (bs ++ entB p).length ∧ z.fp = n ∧ z.on = true ∧ z.bs = bs ++ entB p
theorem words1 {x : Int} (hx : U32 x) : Words [x] := fun i hi => by
  obtain rfl : i = 0 := (by simpa using hi)
  exact hx
theorem words2 {x y : Int} (hx : U32 x) (hy : U32 y) : Words [x, y] := fun i hi => by
  have h2 : i = 0 ∨ i = 1 := (by simp at hi; omega)
  rcases h2 with rfl | rfl
  · exact hx
  · exact hy
theorem locR_ok {p : List Int} (h : (locR p).2.2 = 0) : (locR p).1 = 8 + ((p.length : Int) + 3) / 4 * 4 := by
  unfold locR at h ⊢
  split at h
  · cases h
  · rename_i hn; rw [if_neg hn]
theorem entB_len {p : List Int} (h : (locR p).2.2 = 0) (hB : Bytes p) (hl : p.length ≤ 100000) : ((entB p).length : Int) = (locR p).1 + (locR p).2.1 := by
  have h1 := locR_ok h
  obtain ⟨b1, b2, b3, b4, b5, b6⟩ := locR_bd hB hl
  unfold entB
  have e1 : (putR ((locR p).1 + (locR p).2.1) 4).length = 4 := rfl
  have e2 : (putR (locR p).1 4).length = 4 := rfl
  rw [List.length_append, List.length_append, List.length_append, e1, e2, List.length_replicate]
  omega
theorem enter_call {O : Nat → Prop} {σ : AState} {m n c l d : Nat} {a x : Option Addr} {size fp : Int} {on : Bool} {bs p : List Int} (F : Facts O σ σ [cel m (sC a n c size fp on), own a n c 1 (u8l bs)]) (hx : Old O σ x l d 1 (u8l p)) (hB : Bytes bs) (hBp : Bytes p) (hn : n ≤ 100000) (hs : size ≤ 65536) (hl : l ≤ 20000) (hf : 0 ≤ fp ∧ fp ≤ 4294967295) (hon : on = true → fp + at4 bs fp ≤ n) :
    SCall Tryz.prog O 48 [.pointer (some ⟨m, 0, none⟩), .slice x l d] σ (Ret O σ (fun (z : StZ) => .int .i64 (entE on bs n fp size p)) (fun z => zF m size z) fun z => EntR on bs n fp size p z) := by
  have hbl := F.len8 1 rfl
  have hpl : p.length = l := by simpa using hx.1.size
  obtain ⟨b1, b2, b3, b4, b5, b6⟩ := locR_bd hBp (by omega)
  have hb := at4_bd hB ((n : Int) - 4)
  refine k_fun Tryz.func48 rfl (m := 101) rfl fun B hD Q K => ?_
  refine k_seq fun Q K => k_lin fun W K => ?_
  refine l_op 0 rfl rfl rfl rfl rfl ?_
  refine l_nil (WK.nx ‹_› (SeqK.nx ‹_› ?_))
  refine k_seq fun Q K => k_seq fun Q K => k_lin fun W K => ?_
  refine l_op 0 rfl rfl rfl rfl rfl ?_
  refine l_cmp rfl rfl rfl rfl ?_
  refine l_nil (WK.nx ‹_› (SeqK.nx ‹_› ?_))
  refine l_cond rfl rfl (fun hc1 => ?_) (fun hc1 => ?_)
  · exact absurd ((irr_eq _).symm.trans hc1) (by decide)
  simp only [irr_eq, beq_iff_eq, beq_eq_false_iff_ne, ne_eq, decide_eq_true_eq, decide_eq_false_iff_not] at hc1
  refine k_skip (SeqK.nx ‹_› ?_)
  refine k_seq fun Q K => k_lin fun W K => ?_
  refine l_op 0 rfl rfl rfl rfl rfl ?_
  refine l_callp F rfl rfl (by kernel_rfl) rfl rfl (locals_call (Old.pure (F.old hx)) hBp (by omega)) (fun y s F _ => ?_)
  (try dsimp only [n_1, n_2, n_3, n_4, List.append_nil, pk, n_5, n_6] at F)
  refine l_op 0 rfl rfl rfl rfl rfl ?_
  iterate 3 refine l_op 2 rfl rfl rfl rfl rfl ?_
  iterate 3 refine l_op 0 rfl rfl rfl rfl rfl ?_
  refine l_nil (WK.nx ‹_› (SeqK.nx ‹_› ?_))
  refine k_seq fun Q K => k_seq fun Q K => k_lin fun W K => ?_
  refine l_op 0 rfl rfl rfl rfl rfl ?_
  refine l_cmp rfl rfl rfl rfl ?_
  refine l_nil (WK.nx ‹_› (SeqK.nx ‹_› ?_))
  refine l_cond rfl rfl (fun hc2 => ?_) (fun hc2 => ?_)
  · replace hc2 := bne_iff_ne.1 ((irr_eq _).symm.trans hc2)
    refine k_seq fun Q K => k_lin fun W K => ?_
    iterate 2 refine l_op 0 rfl rfl rfl rfl rfl ?_
    refine l_nil (WK.nx ‹_› (SeqK.nx ‹_› (k_ret (SeqK.rt ‹_› ?_))))
    refine FunK.rt (by assumption) rfl ?_
    -- leaf 1
    (have he : entE on bs n fp size p = (locR p).2.2 := if_pos (by assumption)
     exact ⟨⟨a, n, c, fp, on, bs⟩, congrArg (Value.int .i64) he.symm, F, ⟨fun _ => ⟨rfl, rfl, rfl, rfl⟩, fun h0 => by omega⟩⟩)
  replace hc2 := bne_eq_false_iff_eq.1 ((irr_eq _).symm.trans hc2)
  refine k_skip (SeqK.nx ‹_› ?_)
  refine k_seq fun Q K => k_seq fun Q K => ?_
  refine k_linm [0, 1, 2, 3, 4, 5, 6, 7, 8, 9, 10, 11, 12, 17, 18, 19, 13, 14, 15, 20, 16, 21, 22, 23] mixed (by kernel_rfl) (fun W K => ?_)
  try have hpS := F.pns
  refine l_op 0 rfl rfl rfl rfl rfl ?_
  iterate 2 refine l_op 2 rfl rfl rfl rfl rfl ?_
  refine l_ldc F 0 rfl rfl rfl rfl rfl rfl rfl ?_
  skip
  refine l_op 0 rfl rfl rfl rfl rfl ?_
  refine l_guard rfl rfl rfl (fun hc3 => ?_) (fun hc3 => ?_)
  · try simp only [i_1, i_2, i_3, i_4, i_5, ne_eq, i_6, i_7, i_8, i_9] at hc3
    refine l_op 0 rfl rfl rfl rfl rfl ?_
    have hpA := PnA.cel F 0 rfl pna_nil
    refine l_callp F rfl rfl (by kernel_rfl) rfl rfl (count_call (F.cel0 0 rfl) (Old.pure (F.has 1 rfl)) hB (by omega) hf hon) (fun _ s F _ => ?_)
    (try dsimp only [n_1, n_2, n_3, n_4, List.append_nil, pk, n_5, n_6] at F)
    refine l_cmp rfl rfl rfl rfl ?_
    refine l_op 0 rfl rfl rfl rfl rfl ?_
    refine l_guard rfl rfl rfl (fun hc4 => ?_) (fun hc4 => ?_)
    · replace hc4 := of_decide_eq_true ((irr_eq _).symm.trans hc4)
      iterate 13 refine l_s rfl rfl ?_
      iterate 2 refine l_op 2 rfl rfl rfl rfl rfl ?_
      refine l_nil (WK.nx ‹_› (SeqK.nx ‹_› ?_))
      refine e_cond_t rfl rfl rfl ?_
      refine k_seq fun Q K => k_lin fun W K => ?_
      refine l_op 0 rfl rfl rfl rfl rfl ?_
      refine l_nil (WK.nx ‹_› (SeqK.nx ‹_› (k_ret (SeqK.rt ‹_› ?_))))
      refine FunK.rt (by assumption) rfl ?_
      -- leaf 2
      (have he : entE on bs n fp size p = 102 := by
         unfold entE
         rw [if_neg (by omega), if_pos ⟨by assumption, by omega⟩]
       exact ⟨⟨a, n, c, fp, on, bs⟩, congrArg (Value.int .i64) he.symm, F, ⟨fun _ => ⟨rfl, rfl, rfl, rfl⟩, fun h0 => by omega⟩⟩)
    replace hc4 := of_decide_eq_false ((irr_eq _).symm.trans hc4)
    iterate 2 refine l_op 0 rfl rfl rfl rfl rfl ?_
    iterate 2 refine l_op 2 rfl rfl rfl rfl rfl ?_
    refine l_op 0 rfl rfl rfl rfl rfl ?_
    iterate 2 refine l_op 2 rfl rfl rfl rfl rfl ?_
    refine l_ldc F 0 rfl rfl rfl rfl rfl rfl rfl ?_
    skip
    refine l_op 2 rfl rfl rfl rfl rfl ?_
    refine l_a64 rfl rfl rfl (by omega) rfl ?_
    refine l_ldc F 0 rfl rfl rfl rfl rfl rfl rfl ?_
    skip
    have hpA := PnA.cel F 0 rfl (PnA.cel F 0 rfl (PnA.cel F 0 rfl pna_nil))
    refine l_callp F rfl rfl (by kernel_rfl) rfl rfl (at_call (F.cel0 0 rfl) (Old.pure (F.has 1 rfl)) hB (by omega)) (fun _ s F _ => ?_)
    (try dsimp only [n_1, n_2, n_3, n_4, List.append_nil, pk, n_5, n_6] at F)
    refine l_cmp rfl rfl rfl rfl ?_
    iterate 2 refine l_op 2 rfl rfl rfl rfl rfl ?_
    refine l_nil (WK.nx ‹_› (SeqK.nx ‹_› ?_))
    refine l_cond rfl rfl (fun hc5 => ?_) (fun hc5 => ?_)
    · replace hc5 := bne_iff_ne.1 ((irr_eq _).symm.trans hc5)
      refine k_seq fun Q K => k_lin fun W K => ?_
      refine l_op 0 rfl rfl rfl rfl rfl ?_
      refine l_nil (WK.nx ‹_› (SeqK.nx ‹_› (k_ret (SeqK.rt ‹_› ?_))))
      refine FunK.rt (by assumption) rfl ?_
      -- leaf 3
      (have he : entE on bs n fp size p = 102 := by
         unfold entE
         rw [if_neg (by omega), if_pos ⟨by assumption, by omega⟩]
       exact ⟨⟨a, n, c, fp, on, bs⟩, congrArg (Value.int .i64) he.symm, F, ⟨fun _ => ⟨rfl, rfl, rfl, rfl⟩, fun h0 => by omega⟩⟩)
    replace hc5 := bne_eq_false_iff_eq.1 ((irr_eq _).symm.trans hc5)
    refine k_skip (SeqK.nx ‹_› ?_)
    refine k_seq fun Q K => k_seq fun Q K => ?_
    refine k_linm [0, 1, 2, 5, 7, 9, 10, 11, 3, 4, 6, 8, 12, 13] mixed (by kernel_rfl) (fun W K => ?_)
    try have hpS := F.pns
    refine l_op 0 rfl rfl rfl rfl rfl ?_
    iterate 2 refine l_op 2 rfl rfl rfl rfl rfl ?_
    iterate 3 refine l_op 0 rfl rfl rfl rfl rfl ?_
    iterate 2 refine l_op 2 rfl rfl rfl rfl rfl ?_
    refine l_ldc F 0 rfl rfl rfl rfl rfl rfl rfl ?_
    skip
    refine l_op 2 rfl rfl rfl rfl rfl ?_
    iterate 2 refine l_a64 rfl rfl rfl (by omega) rfl ?_
    refine l_ldc F 0 rfl rfl rfl rfl rfl rfl rfl ?_
    skip
    refine l_cmp rfl rfl rfl rfl ?_
    refine l_nil (WK.nx ‹_› (SeqK.nx ‹_› ?_))
    refine l_cond rfl rfl (fun hc6 => ?_) (fun hc6 => ?_)
    · replace hc6 := of_decide_eq_true ((irr_eq _).symm.trans hc6)
      refine k_seq fun Q K => k_lin fun W K => ?_
      refine l_op 0 rfl rfl rfl rfl rfl ?_
      refine l_nil (WK.nx ‹_› (SeqK.nx ‹_› (k_ret (SeqK.rt ‹_› ?_))))
      refine FunK.rt (by assumption) rfl ?_
      -- leaf 4
      (have hne : ¬ (on = true ∧ (countR on bs n fp < 4 ∨ at4 bs (n - 4) ≠ fp)) := by rintro ⟨h1, h2⟩; first | omega | (rw [hc3] at h1; cases h1)
       have he : entE on bs n fp size p = 100 := by
         unfold entE
         rw [if_neg (by omega), if_neg hne, if_pos (by omega)]
       exact ⟨⟨a, n, c, fp, on, bs⟩, congrArg (Value.int .i64) he.symm, F, ⟨fun _ => ⟨rfl, rfl, rfl, rfl⟩, fun h0 => by omega⟩⟩)
    replace hc6 := of_decide_eq_false ((irr_eq _).symm.trans hc6)
    refine k_skip (SeqK.nx ‹_› ?_)
    refine k_seq fun Q K => k_lin fun W K => ?_
    iterate 3 refine l_op 0 rfl rfl rfl rfl rfl ?_
    iterate 2 refine l_op 2 rfl rfl rfl rfl rfl ?_
    refine l_ldc F 0 rfl rfl rfl rfl rfl rfl rfl ?_
    iterate 3 refine l_op 2 rfl rfl rfl rfl rfl ?_
    refine l_stc F 0 rfl rfl rfl rfl rfl rfl rfl rfl rfl hD (fun s F => ?_)
    (try dsimp only [n_1, n_2, n_3, n_4, List.append_nil, pk, n_5, n_6] at F)
    iterate 2 refine l_op 2 rfl rfl rfl rfl rfl ?_
    refine l_stc F 0 rfl rfl rfl rfl rfl rfl rfl rfl rfl hD (fun s F => ?_)
    (try dsimp only [n_1, n_2, n_3, n_4, List.append_nil, pk, n_5, n_6] at F)
    refine l_nil (WK.nx ‹_› (SeqK.nx ‹_› ?_))
    refine k_seq fun Q K => k_lin fun W K => ?_
    iterate 3 refine l_op 0 rfl rfl rfl rfl rfl ?_
    refine l_a64 rfl rfl rfl (by omega) rfl ?_
    refine l_c32 rfl rfl rfl (by omega) rfl ?_
    refine l_op 0 rfl rfl rfl rfl rfl ?_
    refine l_c32 rfl rfl rfl (by omega) rfl ?_
    refine l_lit F rfl rfl rfl rfl (fun q75 s F => ?_)
    (try dsimp only [n_1, n_2, n_3, n_4, List.append_nil, pk, n_5, n_6] at F)
    have hlo := locR_ok (p := p) (by omega)
    refine l_call F [0, 1] [2] (by decide) rfl rfl (by kernel_rfl) rfl rfl (put_call (vs := [(locR p).1 + (locR p).2.1, (locR p).1]) (F.sub [0, 1] (by decide)) (F.oldK [0, 1] 2 rfl (by decide)) (words2 ⟨by omega, by omega⟩ ⟨by omega, by omega⟩) (by omega)) hD (fun y s F _ => ?_)
    (try dsimp only [n_1, n_2, n_3, n_4, List.append_nil, pk, n_5, n_6] at F)
    (try dsimp only [n_1, n_2, n_3, n_4, List.append_nil, pk, n_5, n_6] at F)
    refine l_nil (WK.nx ‹_› (SeqK.nx ‹_› ?_))
    refine k_seq fun Q K => k_lin fun W K => ?_
    iterate 2 refine l_op 0 rfl rfl rfl rfl rfl ?_
    iterate 2 refine l_op 2 rfl rfl rfl rfl rfl ?_
    refine l_ldc F 1 rfl rfl rfl rfl rfl rfl rfl ?_
    refine l_op 0 rfl rfl rfl rfl rfl ?_
    refine l_app (es := 1) F 2 rfl rfl rfl rfl rfl rfl rfl (F.old hx) (ints_one _) rfl (by omega) hD (fun x2 c2 s F => ?_)
    (try dsimp only [n_1, n_2, n_3, n_4, List.append_nil, pk, n_5, n_6] at F)
    iterate 2 refine l_op 2 rfl rfl rfl rfl rfl ?_
    refine l_stc F 1 rfl rfl rfl rfl rfl rfl rfl rfl rfl hD (fun s F => ?_)
    (try dsimp only [n_1, n_2, n_3, n_4, List.append_nil, pk, n_5, n_6] at F)
    refine l_nil (WK.nx ‹_› (SeqK.nx ‹_› ?_))
    refine k_seq fun Q K => k_lin fun W K => ?_
    iterate 2 refine l_op 0 rfl rfl rfl rfl rfl ?_
    iterate 2 refine l_op 2 rfl rfl rfl rfl rfl ?_
    refine l_ldc F 1 rfl rfl rfl rfl rfl rfl rfl ?_
    refine l_op 0 rfl rfl rfl rfl rfl ?_
    refine l_a64 rfl rfl rfl (by omega) rfl ?_
    refine l_op 0 rfl rfl rfl rfl rfl ?_
    refine l_op 2 rfl rfl rfl rfl rfl ?_
    refine l_a64 rfl rfl rfl (by omega) rfl ?_
    refine l_op 0 rfl rfl rfl rfl rfl ?_
    refine l_a64 rfl rfl rfl (by omega) rfl ?_
    refine l_azo (es := 1) F 2 rfl rfl rfl rfl rfl rfl rfl (by omega) rfl (by omega) hD (fun x3 c3 s F => ?_)
    (try dsimp only [n_1, n_2, n_3, n_4, List.append_nil, pk, n_5, n_6] at F)
    iterate 2 refine l_op 2 rfl rfl rfl rfl rfl ?_
    refine l_stc F 1 rfl rfl rfl rfl rfl rfl rfl rfl rfl hD (fun s F => ?_)
    (try dsimp only [n_1, n_2, n_3, n_4, List.append_nil, pk, n_5, n_6] at F)
    refine l_nil (WK.nx ‹_› (SeqK.nx ‹_› ?_))
    refine k_seq fun Q K => k_lin fun W K => ?_
    refine l_op 0 rfl rfl rfl rfl rfl ?_
    refine l_nil (WK.nx ‹_› (SeqK.nx ‹_› (k_ret ?_)))
    refine FunK.rt (by assumption) rfl ?_
    -- leaf 5
    (have hne : ¬ (on = true ∧ (countR on bs n fp < 4 ∨ at4 bs (n - 4) ≠ fp)) := by rintro ⟨h1, h2⟩; first | omega | (rw [hc3] at h1; cases h1)
     have he : entE on bs n fp size p = 0 := by
       unfold entE
       rw [if_neg (by omega), if_neg hne, if_neg (by omega)]
     have hlo := locR_ok (p := p) (by omega)
     have hel := entB_len (p := p) (by omega) hBp (by omega)
     have e1 : u8l (bs ++ putsR [(locR p).1 + (locR p).2.1, (locR p).1]) ++ u8l p ++ zrow [Value.int IntKind.u8 0] ((locR p).1 - 8 - ↑l + (locR p).2.1).toNat = u8l (bs ++ entB p) := by
       rw [zrow_one, hpl.symm]
       simp only [entB, putsR, List.flatMap_cons, List.flatMap_nil, List.append_nil, List.map_append, List.map_replicate, List.append_assoc]
     have e2 : n + 4 * 2 + l + ((locR p).1 - 8 - ↑l + (locR p).2.1).toNat = (bs ++ entB p).length := by
       rw [List.length_append]; omega
     rw [e1, e2] at F
     exact ⟨⟨x3, (bs ++ entB p).length, c3, n, true, bs ++ entB p⟩, congrArg (Value.int .i64) he.symm, F.pick [1, 2] (by decide), ⟨fun h0 => (h0 he).elim, fun _ => ⟨rfl, rfl, rfl, rfl⟩⟩⟩)
  try simp only [i_1, i_2, i_3, i_4, i_5, ne_eq, i_6, i_7, i_8, i_9] at hc3
  iterate 18 refine l_s rfl rfl ?_
  refine l_op 2 rfl rfl rfl rfl rfl ?_
  refine l_nil (WK.nx ‹_› (SeqK.nx ‹_› ?_))
  refine e_cond_f rfl rfl rfl ?_
  refine k_skip (SeqK.nx ‹_› ?_)
  refine k_seq fun Q K => k_seq fun Q K => ?_
  refine k_linm [0, 1, 2, 5, 7, 9, 10, 11, 3, 4, 6, 8, 12, 13] mixed (by kernel_rfl) (fun W K => ?_)
  try have hpS := F.pns
  refine l_op 0 rfl rfl rfl rfl rfl ?_
  iterate 2 refine l_op 2 rfl rfl rfl rfl rfl ?_
  iterate 3 refine l_op 0 rfl rfl rfl rfl rfl ?_
  iterate 2 refine l_op 2 rfl rfl rfl rfl rfl ?_
  refine l_ldc F 0 rfl rfl rfl rfl rfl rfl rfl ?_
  skip
  refine l_op 2 rfl rfl rfl rfl rfl ?_
  iterate 2 refine l_a64 rfl rfl rfl (by omega) rfl ?_
  refine l_ldc F 0 rfl rfl rfl rfl rfl rfl rfl ?_
  skip
  refine l_cmp rfl rfl rfl rfl ?_
  refine l_nil (WK.nx ‹_› (SeqK.nx ‹_› ?_))
  refine l_cond rfl rfl (fun hc7 => ?_) (fun hc7 => ?_)
  · replace hc7 := of_decide_eq_true ((irr_eq _).symm.trans hc7)
    refine k_seq fun Q K => k_lin fun W K => ?_
    refine l_op 0 rfl rfl rfl rfl rfl ?_
    refine l_nil (WK.nx ‹_› (SeqK.nx ‹_› (k_ret (SeqK.rt ‹_› ?_))))
    refine FunK.rt (by assumption) rfl ?_
    -- leaf 6
    (have hne : ¬ (on = true ∧ (countR on bs n fp < 4 ∨ at4 bs (n - 4) ≠ fp)) := by rintro ⟨h1, h2⟩; first | omega | (rw [hc3] at h1; cases h1)
     have he : entE on bs n fp size p = 100 := by
       unfold entE
       rw [if_neg (by omega), if_neg hne, if_pos (by omega)]
     exact ⟨⟨a, n, c, fp, on, bs⟩, congrArg (Value.int .i64) he.symm, F, ⟨fun _ => ⟨rfl, rfl, rfl, rfl⟩, fun h0 => by omega⟩⟩)
  replace hc7 := of_decide_eq_false ((irr_eq _).symm.trans hc7)
  refine k_skip (SeqK.nx ‹_› ?_)
  refine k_seq fun Q K => k_lin fun W K => ?_
  iterate 3 refine l_op 0 rfl rfl rfl rfl rfl ?_
  iterate 2 refine l_op 2 rfl rfl rfl rfl rfl ?_
  refine l_ldc F 0 rfl rfl rfl rfl rfl rfl rfl ?_
  iterate 3 refine l_op 2 rfl rfl rfl rfl rfl ?_
  refine l_stc F 0 rfl rfl rfl rfl rfl rfl rfl rfl rfl hD (fun s F => ?_)
  (try dsimp only [n_1, n_2, n_3, n_4, List.append_nil, pk, n_5, n_6] at F)
  iterate 2 refine l_op 2 rfl rfl rfl rfl rfl ?_
  refine l_stc F 0 rfl rfl rfl rfl rfl rfl rfl rfl rfl hD (fun s F => ?_)
  (try dsimp only [n_1, n_2, n_3, n_4, List.append_nil, pk, n_5, n_6] at F)
  refine l_nil (WK.nx ‹_› (SeqK.nx ‹_› ?_))
  refine k_seq fun Q K => k_lin fun W K => ?_
  iterate 3 refine l_op 0 rfl rfl rfl rfl rfl ?_
  refine l_a64 rfl rfl rfl (by omega) rfl ?_
  refine l_c32 rfl rfl rfl (by omega) rfl ?_
  refine l_op 0 rfl rfl rfl rfl rfl ?_
  refine l_c32 rfl rfl rfl (by omega) rfl ?_
  refine l_lit F rfl rfl rfl rfl (fun q75 s F => ?_)
  (try dsimp only [n_1, n_2, n_3, n_4, List.append_nil, pk, n_5, n_6] at F)
  have hlo := locR_ok (p := p) (by omega)
  refine l_call F [0, 1] [2] (by decide) rfl rfl (by kernel_rfl) rfl rfl (put_call (vs := [(locR p).1 + (locR p).2.1, (locR p).1]) (F.sub [0, 1] (by decide)) (F.oldK [0, 1] 2 rfl (by decide)) (words2 ⟨by omega, by omega⟩ ⟨by omega, by omega⟩) (by omega)) hD (fun y s F _ => ?_)
  (try dsimp only [n_1, n_2, n_3, n_4, List.append_nil, pk, n_5, n_6] at F)
  (try dsimp only [n_1, n_2, n_3, n_4, List.append_nil, pk, n_5, n_6] at F)
  refine l_nil (WK.nx ‹_› (SeqK.nx ‹_› ?_))
  refine k_seq fun Q K => k_lin fun W K => ?_
  iterate 2 refine l_op 0 rfl rfl rfl rfl rfl ?_
  iterate 2 refine l_op 2 rfl rfl rfl rfl rfl ?_
  refine l_ldc F 1 rfl rfl rfl rfl rfl rfl rfl ?_
  refine l_op 0 rfl rfl rfl rfl rfl ?_
  refine l_app (es := 1) F 2 rfl rfl rfl rfl rfl rfl rfl (F.old hx) (ints_one _) rfl (by omega) hD (fun x2 c2 s F => ?_)
  (try dsimp only [n_1, n_2, n_3, n_4, List.append_nil, pk, n_5, n_6] at F)
  iterate 2 refine l_op 2 rfl rfl rfl rfl rfl ?_
  refine l_stc F 1 rfl rfl rfl rfl rfl rfl rfl rfl rfl hD (fun s F => ?_)
  (try dsimp only [n_1, n_2, n_3, n_4, List.append_nil, pk, n_5, n_6] at F)
  refine l_nil (WK.nx ‹_› (SeqK.nx ‹_› ?_))
  refine k_seq fun Q K => k_lin fun W K => ?_
  iterate 2 refine l_op 0 rfl rfl rfl rfl rfl ?_
  iterate 2 refine l_op 2 rfl rfl rfl rfl rfl ?_
  refine l_ldc F 1 rfl rfl rfl rfl rfl rfl rfl ?_
  refine l_op 0 rfl rfl rfl rfl rfl ?_
  refine l_a64 rfl rfl rfl (by omega) rfl ?_
  refine l_op 0 rfl rfl rfl rfl rfl ?_
  refine l_op 2 rfl rfl rfl rfl rfl ?_
  refine l_a64 rfl rfl rfl (by omega) rfl ?_
  refine l_op 0 rfl rfl rfl rfl rfl ?_
  refine l_a64 rfl rfl rfl (by omega) rfl ?_
  refine l_azo (es := 1) F 2 rfl rfl rfl rfl rfl rfl rfl (by omega) rfl (by omega) hD (fun x3 c3 s F => ?_)
  (try dsimp only [n_1, n_2, n_3, n_4, List.append_nil, pk, n_5, n_6] at F)
  iterate 2 refine l_op 2 rfl rfl rfl rfl rfl ?_
  refine l_stc F 1 rfl rfl rfl rfl rfl rfl rfl rfl rfl hD (fun s F => ?_)
  (try dsimp only [n_1, n_2, n_3, n_4, List.append_nil, pk, n_5, n_6] at F)
  refine l_nil (WK.nx ‹_› (SeqK.nx ‹_› ?_))
  refine k_seq fun Q K => k_lin fun W K => ?_
  refine l_op 0 rfl rfl rfl rfl rfl ?_
  refine l_nil (WK.nx ‹_› (SeqK.nx ‹_› (k_ret ?_)))
  refine FunK.rt (by assumption) rfl ?_
  -- leaf 7
  (have hne : ¬ (on = true ∧ (countR on bs n fp < 4 ∨ at4 bs (n - 4) ≠ fp)) := by rintro ⟨h1, h2⟩; first | omega | (rw [hc3] at h1; cases h1)
   have he : entE on bs n fp size p = 0 := by
     unfold entE
     rw [if_neg (by omega), if_neg hne, if_neg (by omega)]
   have hlo := locR_ok (p := p) (by omega)
   have hel := entB_len (p := p) (by omega) hBp (by omega)
   have e1 : u8l (bs ++ putsR [(locR p).1 + (locR p).2.1, (locR p).1]) ++ u8l p ++ zrow [Value.int IntKind.u8 0] ((locR p).1 - 8 - ↑l + (locR p).2.1).toNat = u8l (bs ++ entB p) := by
     rw [zrow_one, hpl.symm]
     simp only [entB, putsR, List.flatMap_cons, List.flatMap_nil, List.append_nil, List.map_append, List.map_replicate, List.append_assoc]
   have e2 : n + 4 * 2 + l + ((locR p).1 - 8 - ↑l + (locR p).2.1).toNat = (bs ++ entB p).length := by
     rw [List.length_append]; omega
   rw [e1, e2] at F
   exact ⟨⟨x3, (bs ++ entB p).length, c3, n, true, bs ++ entB p⟩, congrArg (Value.int .i64) he.symm, F.pick [1, 2] (by decide), ⟨fun h0 => (h0 he).elim, fun _ => ⟨rfl, rfl, rfl, rfl⟩⟩⟩)

end Go.Proofs.YtocfmecenpeoiaaGreat.Stk
