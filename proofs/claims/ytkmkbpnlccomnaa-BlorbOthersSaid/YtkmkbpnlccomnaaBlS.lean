/- An index of any entries is read as it was: in plain numbers. No statement of the seat is proved in this text. -/
import Derived.Test.YtkmkbpnlccomnaaBlR
set_option linter.unusedVariables false
set_option linter.unusedSimpArgs false
set_option maxRecDepth 100000
set_option maxHeartbeats 8000000
namespace Go.Proofs.Ytkmkbpnlccomnaa
open GAb Go

/-- An entry: a usage, a number, which of the chunks behind the index. -/
structure EE where
  us : ByteArray
  nm : Int
  k : Nat
  deriving Inhabited
def eBy (K : List CK) (D : Int) (e : EE) : List Int := ltr e.us ++ (putR e.nm 4 ++ putR (20 + D + sizeK (K.take e.k)) 4)
def eBs (K : List CK) (D : Int) (es : List EE) : List Int := es.flatMap (eBy K D)
def gIdx (K : List CK) (es : List EE) : List Int := putR es.length 4 ++ eBs K (4 + 12 * es.length) es
abbrev ixK (d : List Int) : CK := ⟨ridxBA, none, d.length, 0, d⟩
abbrev gCk (K : List CK) (es : List EE) : List CK := ixK (gIdx K es) :: K
abbrev eVal (K : List CK) (e : EE) : List Int × Int × List Int × List Int := (ltr e.us, e.nm, ltr (K.getD e.k default).id, (K.getD e.k default).d)
structure GoodG (K : List CK) (es : List EE) : Prop where
  ids : ∀ e ∈ es, idR (ltr e.us) = true
  len : es.length ≤ 512
  dup : ∀ i j : Nat, i < j → j < es.length → ¬ ((es.getD i default).us = (es.getD j default).us ∧ (es.getD i default).nm = (es.getD j default).nm)
  ks : ∀ t ∈ K, GoodC t
  kl : K.length ≤ 1000
  nm : ∀ e ∈ es, U32 e.nm
  sz : 12 + sizeK (gCk K es) ≤ 4194304
  at_ : ∀ e ∈ es, e.k < K.length
theorem eBy_len {K : List CK} {D : Int} {e : EE} (h : idR (ltr e.us) = true) : (eBy K D e).length = 12 := by
  unfold eBy; simp only [List.length_append, put4_len, (idR_iff.1 h).1]
theorem eBs_len {K : List CK} {D : Int} : ∀ {es : List EE}, (∀ e ∈ es, idR (ltr e.us) = true) → (eBs K D es).length = 12 * es.length
  | [], _ => rfl
  | e :: es, h => by
    have h1 := eBs_len (K := K) (D := D) (es := es) fun x hx => h x (List.mem_cons_of_mem _ hx)
    have h2 := eBy_len (K := K) (D := D) (h e (List.mem_cons_self ..))
    unfold eBs at h1 ⊢
    rw [List.flatMap_cons, List.length_append, h1, h2, List.length_cons]; omega
theorem memE {es : List EE} {i : Nat} (hi : i < es.length) : es.getD i default ∈ es := by
  simp only [List.getD, List.getElem?_eq_getElem hi, Option.getD_some]; exact List.getElem_mem hi
theorem eBs_at {K : List CK} {D : Int} {es : List EE} {i : Nat} (hi : i < es.length) : eBs K D es = eBs K D (es.take i) ++ (eBy K D (es.getD i default) ++ eBs K D (es.drop (i + 1))) := by
  have e : es = es.take i ++ (es.getD i default :: es.drop (i + 1)) := by
    have : es.getD i default = es[i] := by simp [List.getD, hi]
    rw [this, ← List.drop_eq_getElem_cons hi, List.take_append_drop]
  unfold eBs
  conv => lhs; rw [e, List.flatMap_append, List.flatMap_cons]
theorem g_len {K : List CK} {es : List EE} (h : ∀ e ∈ es, idR (ltr e.us) = true) : (gIdx K es).length = 4 + 12 * es.length := by
  unfold gIdx; rw [List.length_append, put4_len, eBs_len h]
theorem g_at {K : List CK} {es : List EE} (g : GoodG K es) {i : Nat} (hi : i < es.length) : ∃ A Z, bldR kindBA (gCk K es) = A ++ (eBy K (4 + 12 * es.length) (es.getD i default) ++ Z) ∧ A.length = 24 + 12 * i := by
  have hlen : (eBs K (4 + 12 * es.length) (es.take i)).length = 12 * i := by
    rw [eBs_len fun e he => g.ids e (List.mem_of_mem_take he), List.length_take]; omega
  refine ⟨[70, 79, 82, 77] ++ putR (sizeK (gCk K es) + 4) 4 ++ ltr kindBA ++ ltr ridxBA ++ putR (gIdx K es).length 4 ++ putR es.length 4 ++ eBs K (4 + 12 * es.length) (es.take i), eBs K (4 + 12 * es.length) (es.drop (i + 1)) ++ ((if ((gIdx K es).length : Int) % 2 = 1 then [0] else []) ++ K.flatMap bldC), ?_, ?_⟩
  · have h2 : gIdx K es = putR es.length 4 ++ (eBs K (4 + 12 * es.length) (es.take i) ++ (eBy K (4 + 12 * es.length) (es.getD i default) ++ eBs K (4 + 12 * es.length) (es.drop (i + 1)))) := by
      conv => lhs; unfold gIdx
      rw [eBs_at hi]
    have h3 : (gCk K es).flatMap bldC = ltr ridxBA ++ (putR (gIdx K es).length 4 ++ (gIdx K es ++ (if ((gIdx K es).length : Int) % 2 = 1 then [0] else []))) ++ K.flatMap bldC := by
      rw [List.flatMap_cons]; rfl
    unfold bldR
    rw [h3]
    generalize (if ((gIdx K es).length : Int) % 2 = 1 then [0] else [] : List Int) = pad
    generalize putR (((gIdx K es).length : Nat) : Int) 4 = q
    generalize putR (sizeK (gCk K es) + 4) 4 = q2
    rw [h2]
    simp only [List.append_assoc]
  · simp only [List.length_append, put4_len, hlen, kindBA_l, ridxBA_l]
    simp only [kindB, ridxB, List.length_cons, List.length_nil]
    try omega
theorem eBy_three {A Z : List Int} {K : List CK} {D : Int} {e : EE} (h : idR (ltr e.us) = true) (hn : U32 e.nm) (hp : 0 ≤ 20 + D + sizeK (K.take e.k) ∧ 20 + D + sizeK (K.take e.k) ≤ 4294967295) : cutB (A ++ (eBy K D e ++ Z)) A.length 4 = ltr e.us ∧ be (A ++ (eBy K D e ++ Z)) (A.length + 4) 4 = e.nm ∧ be (A ++ (eBy K D e ++ Z)) (A.length + 8) 4 = 20 + D + sizeK (K.take e.k) := by
  have h4 := (idR_iff.1 h).1
  obtain ⟨n0, n1⟩ := hn
  have hA : A ++ (eBy K D e ++ Z) = A ++ (ltr e.us ++ (putR e.nm 4 ++ (putR (20 + D + sizeK (K.take e.k)) 4 ++ Z))) := by unfold eBy; simp only [List.append_assoc]
  have e1 : A.length + 4 = (A ++ ltr e.us).length := by rw [List.length_append]; omega
  have e2 : A.length + 8 = (A ++ ltr e.us ++ putR e.nm 4).length := by rw [List.length_append, List.length_append, put4_len]; omega
  rw [hA]
  refine ⟨?_, ?_, ?_⟩
  · conv => lhs; arg 3; rw [← h4]
    exact cut_mid ..
  · rw [e1, ← List.append_assoc, show (4 : Nat) = (4 : Int).toNat from rfl, be_put _ _ _ 4 (by decide)]
    exact Int.emod_eq_of_lt (by omega) (by show e.nm < 256 ^ 4; omega)
  · rw [e2, ← List.append_assoc, ← List.append_assoc, show (4 : Nat) = (4 : Int).toNat from rfl, be_put _ _ _ 4 (by decide)]
    exact Int.emod_eq_of_lt (by omega) (by show 20 + D + sizeK (K.take e.k) < 256 ^ 4; omega)
theorem sizeK_le (K : List CK) (i : Nat) : sizeK (K.take i) ≤ sizeK K := by
  induction K generalizing i with
  | nil => simp [sizeK]
  | cons t ts ih =>
    cases i with
    | zero => have := (sizeK_bd (t :: ts)).1; simpa [sizeK] using this
    | succ i => have := ih i; simp only [List.take_succ_cons, sizeK]; omega
theorem g_ent {K : List CK} {es : List EE} (g : GoodG K es) {i : Nat} (hi : i < es.length) : entU (bldR kindBA (gCk K es)) i = ltr (es.getD i default).us ∧ entX (bldR kindBA (gCk K es)) i = (es.getD i default).nm ∧ be (bldR kindBA (gCk K es)) (24 + 12 * (i : Int) + 8).toNat 4 = 20 + (4 + 12 * es.length) + sizeK (K.take (es.getD i default).k) := by
  obtain ⟨A, Z, hA, hl⟩ := g_at g hi
  have hmem := memE hi
  have h1 := (sizeK_bd (K.take (es.getD i default).k)).1
  have h2 := sizeK_le K (es.getD i default).k
  have h3 : sizeK K ≤ sizeK (gCk K es) := by
    have := (sizeK_bd K).1
    simp only [sizeK]; omega
  have hs := g.sz
  have hn := g.len
  obtain ⟨k1, k2, k3⟩ := eBy_three (A := A) (Z := Z) (K := K) (D := 4 + 12 * es.length) (e := es.getD i default) (g.ids _ hmem) (g.nm _ hmem) ⟨by omega, by omega⟩
  have e0 : (24 + 12 * (i : Int)).toNat = A.length := by omega
  have e1 : (24 + 12 * (i : Int) + 4).toNat = A.length + 4 := by omega
  have e2 : (24 + 12 * (i : Int) + 8).toNat = A.length + 8 := by omega
  show cutB _ (24 + 12 * (i : Int)).toNat 4 = _ ∧ be _ (24 + 12 * (i : Int) + 4).toNat 4 = _ ∧ _
  rw [e0, e1, e2, hA]
  exact ⟨k1, k2, k3⟩
theorem g_good {K : List CK} {es : List EE} (g : GoodG K es) : ∀ t ∈ gCk K es, GoodC t := by
  intro t ht
  rcases List.mem_cons.1 ht with rfl | ht
  · exact ⟨(show idR (ltr ridxBA) = true by decide), rfl, by have := g_len (K := K) g.ids; have := g.len; show (gIdx K es).length ≤ _; omega⟩
  · exact g.ks t ht
theorem g_parse {K : List CK} {es : List EE} (g : GoodG K es) : parseR (bldR kindBA (gCk K es)) = (0, ((bldR kindBA (gCk K es)).length : Int), kindB, (gCk K es).map plK) := by
  have := back (kind := kindBA) (ts := gCk K es) (by decide) (g_good g) (by rw [List.length_cons]; have := g.kl; omega) g.sz
  rw [kindBA_l] at this
  exact this
theorem g_idx {K : List CK} {es : List EE} (g : GoodG K es) : idxR ((gCk K es).map plK) = ((es.length : Int), 0) := by
  have h0 : ((gCk K es).map plK).getD 0 default = (ltr ridxBA, gIdx K es) := rfl
  have hl := g_len (K := K) g.ids
  have hn := g.len
  have hb : be (gIdx K es) 0 4 = es.length := by
    have := be_put [] (eBs K (4 + 12 * es.length) es) (es.length : Int) 4 (by decide)
    exact this.trans (Int.emod_eq_of_lt (by omega) (by show (es.length : Int) < 256 ^ 4; omega))
  unfold idxR
  rw [h0]
  rw [if_neg, if_neg, hb, if_neg]
  · omega
  · show ¬ (((gIdx K es).length : Int) < 4 ∨ ((gIdx K es).length : Int) ≠ 4 + 12 * be (gIdx K es) 0 4)
    rw [hb]; omega
  · rintro (q | q)
    · simp at q
    · exact q ridxBA_l
theorem take_oneE {es : List EE} {i : Nat} (hi : i < es.length) : es.take (i + 1) = es.take i ++ [es.getD i default] := by
  rw [List.take_succ_eq_append_getElem hi]; simp [List.getD, hi]
theorem g_go {K : List CK} {es : List EE} (g : GoodG K es) : ∀ {k i : Nat}, i ≤ es.length → es.length < k + i → goE (bldR kindBA (gCk K es)) ((gCk K es).map plK) es.length k i ((es.take i).map (eVal K)) = (0, ((bldR kindBA (gCk K es)).length : Int), es.map (eVal K))
  | 0, i, h1, h2 => by omega
  | k + 1, i, h1, h2 => by
    by_cases hi : i < es.length
    · obtain ⟨u1, u2, u3⟩ := g_ent g hi
      have hmem := memE hi
      have hat := g.at_ _ hmem
      have hgl := g_len (K := K) g.ids
      have hpl : plcP ((gCk K es).map plK) ((es.getD i default).k + 1) = 20 + (4 + 12 * es.length) + sizeK (K.take (es.getD i default).k) := by
        have e : sizeK (K.take (es.getD i default).k) = lenP ((K.map plK).take (es.getD i default).k) := by
          rw [sizeK_lenP (ts := K.take (es.getD i default).k) fun t ht => (g.ks t (List.mem_of_mem_take ht)).2.1, List.map_take]
        unfold plcP
        rw [List.map_cons, List.take_succ_cons, e]
        simp only [lenP]
        show 12 + (8 + ((gIdx K es).length : Int) + ((gIdx K es).length : Int) % 2 + _) = _
        rw [hgl]; omega
      have hlen : ((gCk K es).map plK).length = K.length + 1 := by simp
      have hC : entC (bldR kindBA (gCk K es)) ((gCk K es).map plK) i = (((es.getD i default).k + 1 : Nat) : Int) := by
        show findC _ _ (be _ _ 4) = _
        rw [u3, ← hpl]
        exact findC_at (by omega) (Nat.le_refl _)
      have hget : ((gCk K es).map plK).getD ((es.getD i default).k + 1) default = (ltr (K.getD (es.getD i default).k default).id, (K.getD (es.getD i default).k default).d) := by
        generalize (es.getD i default).k = z at hat
        simp [List.getD, hat]
      have hV : entV (bldR kindBA (gCk K es)) ((gCk K es).map plK) i = eVal K (es.getD i default) := by
        unfold entV
        rw [u1, u2, hC, show (((es.getD i default).k + 1 : Nat) : Int).toNat = (es.getD i default).k + 1 by omega, hget]
      rw [goE_eq (by omega), if_pos (by omega), if_neg (by rw [u1, g.ids _ hmem]; decide), if_neg, if_neg (by rw [hC]; omega), hV]
      · have := g_go g (k := k) (i := i + 1) hi (by omega)
        rw [take_oneE hi, List.map_append] at this
        exact this
      · rw [u1, u2]
        rintro ⟨r, hr, z1, z2⟩
        obtain ⟨t, ht, rfl⟩ := List.mem_map.1 hr
        obtain ⟨j, hj, rfl⟩ := List.mem_iff_getElem.1 ht
        rw [List.length_take] at hj
        have e : (es.take i)[j] = es.getD j default := by simp [List.getD, show j < es.length by omega]
        rw [e] at z1 z2
        exact g.dup j i (by omega) hi ⟨ltr_inj z1, z2⟩
    · rw [goE_eq (by omega), if_neg (by omega), List.take_of_length_le (by omega)]
theorem g_read {K : List CK} {es : List EE} (g : GoodG K es) : readR (bldR kindBA (gCk K es)) = (0, ((bldR kindBA (gCk K es)).length : Int), es.map (eVal K)) := by
  have hn := g.len
  have := g_go g (k := 600) (i := 0) (Nat.zero_le _) (by omega)
  unfold readR
  rw [g_parse g, if_neg (not_not_intro rfl), if_neg (not_not_intro rfl), g_idx g, if_neg (not_not_intro rfl)]
  exact this

end Go.Proofs.Ytkmkbpnlccomnaa
namespace Go.Proofs.Ytkmkbpnlccomnaa
open GAb Go

theorem rplaces_call {σ : AState} {a : Option Addr} {l c : Nat} {ts : List CK} (h : OldK E0 σ a l c ts) (hb : ∀ t ∈ ts, t.l ≤ 2000000) (hn : l ≤ 2000) :
    SCall Try.prog E0 26 [.slice a l c] σ (Ret E0 σ (fun (y : Option Addr × Nat) => .slice y.1 l y.2) (fun y => [own y.1 l y.2 1 ((plcL (ts.map plK) l).map (.int .i64))]) fun _ => True) := by
  have htl := h.len
  have ho := h.old
  have hml : (ts.map plK).length = l := by rw [List.length_map]; exact htl
  refine k_fun Try.func26 rfl (m := 20) rfl fun B hD Q K => ?_
  have F := (Facts.nil E0 σ).nilrow 1
  refine k_seq (fun Q K => ?_)
  refine k_lin (fun W K => ?_)
  refine l_op 0 rfl rfl rfl rfl rfl ?_
  refine l_nil (WK.nx (by assumption) ?_)
  refine SeqK.nx (by assumption) ?_
  refine k_seq (fun Q K => ?_)
  refine k_lin (fun W K => ?_)
  refine l_op 0 rfl rfl rfl rfl rfl ?_
  refine l_nil (WK.nx (by assumption) ?_)
  refine SeqK.nx (by assumption) ?_
  refine k_seq (fun Q K => ?_)
  refine k_seq (fun Q K => ?_)
  refine k_lin (fun W K => ?_)
  refine l_op 0 rfl rfl rfl rfl rfl ?_
  refine l_nil (WK.nx (by assumption) ?_)
  refine SeqK.nx (by assumption) ?_
  refine k_block (fun Q K => ?_)
  refine k_loop (α := Int × Option Addr × Nat × Nat) (fun ⟨i, x, n, d⟩ s => Facts E0 σ s [own x n d 1 ((plcL (ts.map plK) i.toNat).map (.int .i64))] ∧ 0 ≤ i ∧ i ≤ l ∧ (n : Int) = i) (fun ⟨i, x, n, d⟩ => [(0, .slice a l c), (3, .slice x n d), (4, .int .i64 i)]) (fun ⟨i, _⟩ => (l - i).toNat) (0, none, 0, 0) ⟨F, by omega, by omega, by omega⟩ (by repeat (first | exact trivial | refine And.intro rfl ?_)) ?_
  clear F
  rintro ⟨i, x, n, d⟩ env s Q K0 ⟨F, i0, i1, hni⟩
  refine k_seq (fun Q K => ?_)
  refine k_seq (fun Q K => ?_)
  refine k_lin (fun W K => ?_)
  refine l_op 0 rfl rfl rfl rfl rfl ?_
  refine l_op 0 rfl rfl rfl rfl rfl ?_
  first | refine l_op 2 rfl rfl rfl rfl rfl ?_ | refine l_ln rfl rfl rfl rfl ?_
  refine l_cmp rfl rfl rfl rfl ?_
  refine l_nil (WK.nx (by assumption) ?_)
  refine SeqK.nx (by assumption) ?_
  refine l_cond rfl rfl (fun hc1 => ?_) (fun hc1 => ?_)
  · replace hc1 := of_decide_eq_true ((irr_eq _).symm.trans hc1)
    have hpart : OldK E0 σ a i.toNat c (ts.take i.toNat) := by
      have := OldK.part (lo := 0) (hi := i.toNat) h (by omega) (by omega)
      rw [List.drop_zero, Nat.sub_zero, Nat.sub_zero, Nat.zero_mul] at this
      have e : shift a 0 = a := by cases a <;> rfl
      rw [e] at this
      exact this
    have hlen : lenP ((ts.take i.toNat).map plK) = lenP ((ts.map plK).take i.toNat) := by rw [List.map_take]
    have hpb : ∀ t ∈ ts.take i.toNat, t.l ≤ 2000000 := fun t ht => hb t (List.mem_of_mem_take ht)
    have hle : 0 ≤ lenP ((ts.map plK).take i.toNat) ∧ lenP ((ts.map plK).take i.toNat) ≤ lenP (ts.map plK) := ⟨lenP_nn _, lenP_le _ _⟩
    have hbig : lenP (ts.map plK) ≤ 3000000 * l := by
      have e := sizeK_lenP (ts := ts) fun t ht => (h.dat t ht).len8
      have hz : ∀ us : List CK, (∀ t ∈ us, t.l ≤ 2000000) → sizeK us ≤ 3000000 * us.length := fun us => by
        induction us with
        | nil => intro _; simp [sizeK]
        | cons t us ih =>
          intro hu
          have h1 := hu t (List.mem_cons_self ..)
          have h2 := ih fun x hx => hu x (List.mem_cons_of_mem _ hx)
          simp only [sizeK, List.length_cons]; omega
      have := hz ts hb
      rw [← e]; omega
    refine k_skip ?_
    refine SeqK.nx (by assumption) ?_
    refine k_seq (fun Q K => ?_)
    refine k_block (fun Q K => ?_)
    refine k_lin (fun W K => ?_)
    refine l_op 0 rfl rfl rfl rfl rfl ?_
    refine l_op 0 rfl rfl rfl rfl rfl ?_
    refine l_op 0 rfl rfl rfl rfl rfl ?_
    first | refine l_slh rfl rfl rfl rfl rfl ⟨rfl, _, _, rfl, by omega, rfl⟩ (F.old (by assumption)) (by omega) ?_ | refine l_slh rfl rfl rfl rfl rfl ⟨rfl, _, _, rfl, by omega, rfl⟩ (F.has 0 rfl) (by omega) ?_ | refine l_slh rfl rfl rfl rfl rfl ⟨rfl, _, _, rfl, by omega, rfl⟩ (F.has 1 rfl) (by omega) ?_ | refine l_slh rfl rfl rfl rfl rfl ⟨rfl, _, _, rfl, by omega, rfl⟩ (F.has 2 rfl) (by omega) ?_ | refine l_slh rfl rfl rfl rfl rfl ⟨rfl, _, _, rfl, by omega, rfl⟩ (F.has 3 rfl) (by omega) ?_
    refine l_callp F rfl rfl (by kernel_rfl) rfl rfl (rlength_call (hpart.to F) hpb (by omega)) (fun _ s F _ => ?_)
    (try dsimp only [n_1, n_2, n_3, n_4, List.append_nil, pk, n_5, n_6] at F)
    rw [hlen]
    (try dsimp only [n_1, n_2, n_3, n_4, List.append_nil, pk, n_5, n_6] at F)
    refine l_a64 rfl rfl rfl (by omega) rfl ?_
    refine l_lit F rfl rfl rfl rfl (fun q17 s F => ?_)
    (try dsimp only [n_1, n_2, n_3, n_4, List.append_nil, pk, n_5, n_6] at F)
    refine l_appi (xs := plcL (ts.map plK) i.toNat) F 0 rfl rfl rfl rfl rfl rfl rfl (ys := [12 + lenP ((ts.map plK).take i.toNat)]) (F.has 1 rfl) rfl (by omega) hD (fun x2 c2 s F => ?_)
    (try dsimp only [n_1, n_2, n_3, n_4, List.append_nil, pk, n_5, n_6] at F)
    refine l_op 0 rfl rfl rfl rfl rfl ?_
    refine l_nil (WK.nx (by assumption) ?_)
    refine BlkK.nx (by assumption) ?_
    refine SeqK.nx (by assumption) ?_
    refine k_lin (fun W K => ?_)
    refine l_op 0 rfl rfl rfl rfl rfl ?_
    refine l_a64 rfl rfl rfl (by omega) rfl ?_
    refine l_op 0 rfl rfl rfl rfl rfl ?_
    refine l_nil (WK.nx (by assumption) ?_)
    have F9 := F.pick [0] (by decide)
    have e1 : (i + 1).toNat = i.toNat + 1 := by omega
    refine K0.nx (i + 1, x2, n + 1, c2) (by repeat (first | exact trivial | refine And.intro rfl ?_)) ⟨?_, by omega, by omega, by omega⟩ (by first | omega | (simp only; omega))
    rw [e1, plcL_succ]; exact F9
  replace hc1 := of_decide_eq_false ((irr_eq _).symm.trans hc1)
  refine k_exit ?_
  refine SeqK.et (by assumption) ?_
  refine LoopK.et (by assumption) ?_
  refine BlkK.et (by assumption) ?_
  refine SeqK.nx (by assumption) ?_
  refine k_seq (fun Q K => ?_)
  refine k_lin (fun W K => ?_)
  refine l_op 0 rfl rfl rfl rfl rfl ?_
  refine l_op 0 rfl rfl rfl rfl rfl ?_
  refine l_nil (WK.nx (by assumption) ?_)
  refine SeqK.nx (by assumption) ?_
  refine k_ret ?_
  refine FunK.rt (by assumption) rfl ?_
  -- leaf 1
  refine ⟨(x, d), ?_, ?_, trivial⟩
  · exact congrArg (fun k => Value.slice x k d) (by omega)
  · rw [show i.toNat = l by omega, show n = l by omega] at F; exact F

abbrev zzBA : ByteArray := { data := #[122, 122, 122, 122] }
def esR (ts : List RS) (n : Nat) : List EE := (List.range n).map fun i => ⟨(ts.getD i default).us, (ts.getD i default).nm, i⟩
def esO (ts : List RS) (number : Int) : List EE := esR ts ts.length ++ [⟨zzBA, number, 0⟩]
/-- The index while it grows. -/
def dAt (K : List CK) (D : Int) (es : List EE) (i : Nat) : List Int := putR es.length 4 ++ (eBs K (D + 12) (es.take i) ++ eBs K D (es.drop i))
theorem esO_len (ts : List RS) (number : Int) : (esO ts number).length = ts.length + 1 := by unfold esO esR; simp
theorem entsD_eBs {K : List CK} {ts : List RS} (hK : ∀ i, i < ts.length → sizeK (K.take i) = sizeK ((ts.map toK).take i)) : ∀ {n : Nat}, n ≤ ts.length → entsD ts n = eBs K (4 + 12 * ts.length) (esR ts n)
  | 0, _ => rfl
  | n + 1, h => by
    have e : esR ts (n + 1) = esR ts n ++ [⟨(ts.getD n default).us, (ts.getD n default).nm, n⟩] := by unfold esR; rw [List.range_succ, List.map_append]; rfl
    rw [entsD_succ, entsD_eBs hK (by omega), e]
    unfold eBs
    rw [List.flatMap_append, List.flatMap_cons, List.flatMap_nil, List.append_nil]
    congr 1
    unfold entD eBy plcR
    rw [hK n (by omega), show 20 + (4 + 12 * (ts.length : Int)) = 24 + 12 * ts.length by omega, List.append_assoc]
theorem dAt_zero {K : List CK} {ts : List RS} {number : Int} (hK : ∀ i, i < ts.length → sizeK (K.take i) = sizeK ((ts.map toK).take i)) (hn : 0 < ts.length) : dAt K (4 + 12 * ts.length) (esO ts number) 0 = putR (ts.length + 1 : Int) 4 ++ (entsD ts ts.length ++ (ltr zzBA ++ (putR number 4 ++ putR (plcR ts 0) 4))) := by
  unfold dAt
  rw [esO_len, entsD_eBs hK (Nat.le_refl _), List.take_zero, List.drop_zero]
  have e : eBs K (4 + 12 * ts.length + 12) [] = [] := rfl
  rw [e, List.nil_append]
  unfold esO eBs
  rw [List.flatMap_append, List.flatMap_cons, List.flatMap_nil, List.append_nil]
  have e2 : eBy K (4 + 12 * ts.length) ⟨zzBA, number, 0⟩ = ltr zzBA ++ (putR number 4 ++ putR (plcR ts 0) 4) := by
    unfold eBy plcR
    rw [List.take_zero, List.take_zero, show 20 + (4 + 12 * (ts.length : Int)) = 24 + 12 * ts.length by omega]
  rw [e2]
  rfl
theorem dAt_end {K : List CK} {D : Int} {es : List EE} (h : D + 12 = 4 + 12 * es.length) : dAt K D es es.length = gIdx K es := by
  unfold dAt gIdx
  rw [List.take_length, List.drop_length, h]
  show _ ++ (_ ++ []) = _
  rw [List.append_nil]
/-- One entry's place on. -/
theorem dAt_at {K : List CK} {D : Int} {es : List EE} {i : Nat} (hi : i < es.length) (hid : ∀ e ∈ es, idR (ltr e.us) = true) : ∃ A Z, A.length = 12 + 12 * i ∧ dAt K D es i = A ++ (putR (20 + D + sizeK (K.take (es.getD i default).k)) 4 ++ Z) ∧ dAt K D es (i + 1) = A ++ (putR (20 + D + sizeK (K.take (es.getD i default).k) + 12) 4 ++ Z) := by
  have h4 := (idR_iff.1 (hid _ (memE hi))).1
  have hl : (eBs K (D + 12) (es.take i)).length = 12 * i := by rw [eBs_len fun e he => hid e (List.mem_of_mem_take he), List.length_take]; omega
  have hd : es.drop i = es.getD i default :: es.drop (i + 1) := by
    have : es.getD i default = es[i] := by simp [List.getD, hi]
    rw [this, ← List.drop_eq_getElem_cons hi]
  refine ⟨putR es.length 4 ++ (eBs K (D + 12) (es.take i) ++ (ltr (es.getD i default).us ++ putR (es.getD i default).nm 4)), eBs K D (es.drop (i + 1)), ?_, ?_, ?_⟩
  · simp only [List.length_append, put4_len, hl, h4]; omega
  · unfold dAt
    rw [hd]
    unfold eBs
    rw [List.flatMap_cons]
    conv => lhs; rhs; rhs; unfold eBy
    simp only [List.append_assoc]
    rfl
  · unfold dAt
    rw [take_oneE hi]
    unfold eBs
    rw [List.flatMap_append, List.flatMap_cons, List.flatMap_nil, List.append_nil]
    rw [show 20 + D + sizeK (K.take (es.getD i default).k) + 12 = 20 + (D + 12) + sizeK (K.take (es.getD i default).k) by omega]
    conv => lhs; rhs; lhs; rhs; unfold eBy
    simp only [List.append_assoc]
theorem splice_mid {A B C Z : List Int} (h : B.length = C.length) : splice (u8l (A ++ (B ++ Z))) A.length (u8l C) = u8l (A ++ (C ++ Z)) := by
  unfold splice u8l
  simp only [List.map_append, List.length_map]
  rw [List.take_append_of_le_length (by simp), List.take_of_length_le (by simp), ← h]
  congr 1
  congr 1
  rw [← List.append_assoc, List.drop_append_of_le_length (by simp)]
  simp

abbrev moBA : ByteArray := { data := #[109, 111, 114, 101] }
theorem plK_getD {us : List CK} {ts : List RS} (w : us.map plK = (ts.map toK).map plK) {i : Nat} (hi : i < ts.length) : plK (us.getD i default) = plK (toK (ts.getD i default)) := by
  have hl := congrArg List.length w
  simp only [List.length_map] at hl
  have := congrArg (fun z : CL => z[i]?) w
  simp only [List.getElem?_map, List.getElem?_eq_getElem hi, List.getElem?_eq_getElem (show i < us.length by omega), Option.map_some] at this
  have e1 : us.getD i default = us[i]'(by omega) := by simp [List.getD, show i < us.length by omega]
  have e2 : ts.getD i default = ts[i] := by simp [List.getD, hi]
  rw [e1, e2]
  exact Option.some.inj this
theorem sizeK_two {us : List CK} {ts : List RS} (w : us.map plK = (ts.map toK).map plK) (h1 : ∀ t ∈ us, t.d.length = t.l) (h2 : ∀ t ∈ ts, t.d.length = t.l) (i : Nat) : sizeK (us.take i) = sizeK ((ts.map toK).take i) := by
  rw [sizeK_lenP (ts := us.take i) fun t ht => h1 t (List.mem_of_mem_take ht), sizeK_lenP (ts := (ts.map toK).take i) fun t ht => by
    obtain ⟨r, hr, rfl⟩ := List.mem_map.1 (List.mem_of_mem_take ht)
    exact h2 r hr, List.map_take, List.map_take, w]
theorem sumK_sizeK : ∀ {us : List CK}, (∀ t ∈ us, t.id.size = 4) → sumK us ≤ sizeK us
  | [], _ => by simp [sumK, sizeK]
  | t :: us, h => by
    have h1 := h t (List.mem_cons_self ..)
    have h2 := sumK_sizeK (us := us) fun x hx => h x (List.mem_cons_of_mem _ hx)
    simp only [sumK, sizeK]; omega
theorem sizeK_app : ∀ ps qs : List CK, sizeK (ps ++ qs) = sizeK ps + sizeK qs
  | [], qs => by simp [sizeK]
  | p :: ps, qs => by have := sizeK_app ps qs; simp only [List.cons_append, sizeK, this]; omega
theorem sumK_app : ∀ ps qs : List CK, sumK (ps ++ qs) = sumK ps + sumK qs
  | [], qs => by simp [sumK]
  | p :: ps, qs => by have := sumK_app ps qs; simp only [List.cons_append, sumK, this]; omega
/-- What the law's container is made of. -/
structure Oth (ts : List RS) (us : List CK) (m : CK) (num : Int) : Prop where
  g : Good ts
  pos : 0 < ts.length
  few : ts.length ≤ 200
  sm : sumR ts ≤ 65536
  w : us.map plK = (ts.map toK).map plK
  dl : ∀ t ∈ us, t.d.length = t.l
  bk : BdK us
  mi : m.id = moBA
  ml : m.d.length = m.l
  mb : m.l ≤ 65536
  num : U32 num
  zz : ∀ t ∈ ts, t.us ≠ zzBA
theorem Oth.len {ts : List RS} {us : List CK} {m : CK} {num : Int} (o : Oth ts us m num) : us.length = ts.length := by
  have := congrArg List.length o.w
  simpa using this
theorem Oth.size {ts : List RS} {us : List CK} {m : CK} {num : Int} (o : Oth ts us m num) {i : Nat} (hi : i < ts.length) : sizeK ((us ++ [m]).take i) = sizeK ((ts.map toK).take i) := by
  rw [List.take_append_of_le_length (by have := o.len; omega)]
  exact sizeK_two o.w o.dl o.g.dl i
theorem Oth.all {ts : List RS} {us : List CK} {m : CK} {num : Int} (o : Oth ts us m num) : 0 ≤ sizeK (us ++ [m]) ∧ sizeK (us ++ [m]) ≤ 140000 ∧ sumK (us ++ [m]) ≤ 140000 := by
  have h1 := sizeK_two o.w o.dl o.g.dl us.length
  rw [List.take_length, List.take_of_length_le (by rw [List.length_map]; have := o.len; omega)] at h1
  have h2 := sizeK_bd (ts.map toK)
  have h3 := sumK_toK ts
  have h4 := sumK_sizeK fun t ht => (o.bk t ht).2.2
  have h5 := o.few
  have h6 := o.sm
  have h7 := o.mb
  rw [List.length_map] at h2
  have e : m.id.size = 4 := by rw [o.mi]; rfl
  rw [sizeK_app, sumK_app]
  simp only [sizeK, sumK]
  omega
theorem esO_mem {ts : List RS} {num : Int} {e : EE} (h : e ∈ esO ts num) : (∃ i, i < ts.length ∧ e = ⟨(ts.getD i default).us, (ts.getD i default).nm, i⟩) ∨ e = ⟨zzBA, num, 0⟩ := by
  unfold esO at h
  rcases List.mem_append.1 h with h | h
  · unfold esR at h
    obtain ⟨i, hi, rfl⟩ := List.mem_map.1 h
    exact .inl ⟨i, by simpa using hi, rfl⟩
  · exact .inr (List.mem_singleton.1 h)
theorem esO_at {ts : List RS} {num : Int} {i : Nat} (hi : i < ts.length) : (esO ts num).getD i default = ⟨(ts.getD i default).us, (ts.getD i default).nm, i⟩ := by
  unfold esO esR
  simp [List.getD, List.getElem?_append, hi]
theorem esO_last {ts : List RS} {num : Int} : (esO ts num).getD ts.length default = ⟨zzBA, num, 0⟩ := by
  unfold esO esR
  simp [List.getD, List.getElem?_append]
theorem Oth.ids {ts : List RS} {us : List CK} {m : CK} {num : Int} (o : Oth ts us m num) : ∀ e ∈ esO ts num, idR (ltr e.us) = true := by
  intro e he
  rcases esO_mem he with ⟨i, hi, rfl⟩ | rfl
  · exact (o.g.ids _ (memR hi)).1
  · show idR (ltr zzBA) = true
    decide
theorem Oth.good {ts : List RS} {us : List CK} {m : CK} {num : Int} (o : Oth ts us m num) : GoodG (us ++ [m]) (esO ts num) := by
  have hl := o.len
  have hf := o.few
  have hp := o.pos
  have hml := o.ml
  have hmb := o.mb
  refine ⟨o.ids, by rw [esO_len]; omega, fun i j hij hj => ?_, fun t ht => ?_, by rw [List.length_append, List.length_singleton]; omega, fun e he => ?_, ?_, fun e he => ?_⟩
  · rw [esO_len] at hj
    rw [esO_at (by omega)]
    by_cases e : j = ts.length
    · subst e
      rw [esO_last]
      exact fun q => o.zz _ (memR (by omega)) q.1
    · rw [esO_at (by omega)]
      exact fun q => o.g.dup ⟨i, j, hij, by omega, q.1, q.2⟩
  · rcases List.mem_append.1 ht with ht | ht
    · obtain ⟨i, hi, rfl⟩ := List.mem_iff_getElem.1 ht
      have e1 : us.getD i default = us[i] := by simp [List.getD, hi]
      have hw := plK_getD o.w (i := i) (by omega)
      rw [e1] at hw
      have hid : ltr us[i].id = ltr (ts.getD i default).id := congrArg (fun z : List Int × List Int => z.1) hw
      refine ⟨?_, o.dl _ ht, by have := (o.bk _ ht).2.1; omega⟩
      rw [hid]
      exact (o.g.ids _ (memR (by omega))).2
    · rw [List.mem_singleton.1 ht]
      refine ⟨?_, o.ml, by omega⟩
      rw [o.mi]
      decide
  · rcases esO_mem he with ⟨i, hi, rfl⟩ | rfl
    · exact o.g.nm _ (memR hi)
    · exact o.num
  · have h1 := o.all
    have h2 := g_len (K := us ++ [m]) o.ids
    rw [esO_len] at h2
    simp only [sizeK]
    omega
  · rw [List.length_append, List.length_singleton]
    rcases esO_mem he with ⟨i, hi, rfl⟩ | rfl
    · show i < _
      omega
    · show 0 < _
      omega
theorem Oth.vals {ts : List RS} {us : List CK} {m : CK} {num : Int} (o : Oth ts us m num) : (esO ts num).map (eVal (us ++ [m])) = ts.map plR ++ [(ltr zzBA, num, ltr (ts.getD 0 default).id, (ts.getD 0 default).d)] := by
  have hl := o.len
  have hp := o.pos
  have key : ∀ i, i < ts.length → plK ((us ++ [m]).getD i default) = plK (toK (ts.getD i default)) := fun i hi => by
    rw [← plK_getD o.w hi]
    congr 1
    simp [List.getD, List.getElem?_append, show i < us.length by omega]
  have fst : ∀ i, i < ts.length → ltr ((us ++ [m]).getD i default).id = ltr (ts.getD i default).id ∧ ((us ++ [m]).getD i default).d = (ts.getD i default).d := fun i hi =>
    ⟨congrArg (fun z : List Int × List Int => z.1) (key i hi), congrArg (fun z : List Int × List Int => z.2) (key i hi)⟩
  have e1 : (esR ts ts.length).map (eVal (us ++ [m])) = ts.map plR := by
    refine List.ext_getElem? fun j => ?_
    by_cases hj : j < ts.length
    · rw [getPR hj]
      unfold esR
      rw [List.map_map, List.getElem?_map, List.getElem?_range hj]
      obtain ⟨k1, k2⟩ := fst j hj
      show some (ltr (ts.getD j default).us, (ts.getD j default).nm, ltr ((us ++ [m]).getD j default).id, ((us ++ [m]).getD j default).d) = _
      rw [k1, k2]
    · rw [List.getElem?_eq_none (by unfold esR; simp only [List.length_map, List.length_range]; omega), List.getElem?_eq_none (by rw [List.length_map]; omega)]
  unfold esO
  rw [List.map_append, e1]
  obtain ⟨k1, k2⟩ := fst 0 hp
  show _ ++ [(ltr zzBA, num, ltr ((us ++ [m]).getD 0 default).id, ((us ++ [m]).getD 0 default).d)] = _
  rw [k1, k2]
theorem bld_told {K : List CK} {es : List EE} (g : GoodG K es) {e : Int} {n : Nat} {bs : List Int} (h : BldP kindBA (gCk K es) e n bs) : e = 0 ∧ bs = bldR kindBA (gCk K es) := by
  have hi : IdsOK (gCk K es) := fun t ht => (g_good g t ht).1
  have hl : (gCk K es).length = K.length + 1 := by simp
  have hk := g.kl
  have hs := g.sz
  rcases h with ⟨_, _, q⟩ | ⟨_, _, ⟨_, _, q⟩ | ⟨_, ⟨_, _, q⟩ | ⟨q1, _, q2⟩⟩⟩
  · exact absurd ⟨by decide, hi⟩ q
  · omega
  · omega
  · exact ⟨q1, q2⟩
theorem bytes_eBs {K : List CK} {D : Int} : ∀ es : List EE, Bytes (eBs K D es)
  | [] => bytes_mem.2 fun x hx => by cases hx
  | e :: es => by
    have := bytes_eBs (K := K) (D := D) es
    unfold eBs at this ⊢
    rw [List.flatMap_cons]
    exact Bytes.app (Bytes.app (ltr_bytes _) (Bytes.app (bytes_put _ _) (bytes_put _ _))) this
theorem bytes_dAt (K : List CK) (D : Int) (es : List EE) (i : Nat) : Bytes (dAt K D es i) := Bytes.app (bytes_put _ _) (Bytes.app (bytes_eBs _) (bytes_eBs _))
theorem bytes_gIdx (K : List CK) (es : List EE) : Bytes (gIdx K es) := Bytes.app (bytes_put _ _) (bytes_eBs _)
theorem own_some {O : Nat → Prop} {σ0 σ : AState} {L : List Fact} (F : Facts O σ0 σ L) (k : Nat) {a : Option Addr} {l c es : Nat} {vs : List Value} (hL : L[k]? = some (own a l c es vs)) (hl : 0 < l * es) : ∃ m e, a = some ⟨m, 0, e⟩ := by
  have hO : Own 0 σ a l c es vs := F.ho _ (List.mem_of_getElem? hL)
  obtain ⟨hH, ⟨h, h2⟩ | ⟨n', e2, cs, h, _⟩⟩ := hO
  · exfalso
    have hz := (F.has k hL).size
    subst h
    simp_all
  · exact ⟨_, _, h⟩

end Go.Proofs.Ytkmkbpnlccomnaa
namespace Go.Proofs.Ytkmkbpnlccomnaa
open GAb Go

theorem others6_law {σ : AState} {a b : Option Addr} {l c n d : Nat} {ts : List RS} {xs : List Int} {num : Int} (h : OldR E0 σ a l c ts) (hx : Old E0 σ b n d 1 (u8l xs)) (hB : Bytes xs) (hnum : U32 num) :
    SCall Try.prog E0 9 [.slice a l c, .slice b n d, .int .u32 num] σ (fun v _ => v = .bool true) := by
  have htl := h.len
  have hxl := hx.len8
  have ho := h.old
  refine k_fun Try.func9 rfl (m := 171) rfl fun B hD Q K => ?_
  have F := Facts.nil E0 σ
  refine k_seq (fun Q K => ?_)
  refine k_lin (fun W K => ?_)
  refine l_op 0 rfl rfl rfl rfl rfl ?_
  refine l_nil (WK.nx (by assumption) ?_)
  refine SeqK.nx (by assumption) ?_
  refine k_seq (fun Q K => ?_)
  refine k_seq (fun Q K => ?_)
  refine k_lin (fun W K => ?_)
  refine l_op 0 rfl rfl rfl rfl rfl ?_
  refine l_callp F rfl rfl (by kernel_rfl) rfl rfl (huge6_call h (by omega)) (fun hu s F hhu => ?_)
  refine l_op 0 rfl rfl rfl rfl rfl ?_
  refine l_guard rfl rfl rfl (fun hc1 => ?_) (fun hc1 => ?_)
  · try simp only [irr_eq, beq_iff_eq, bne_iff_ne, beq_eq_false_iff_ne, bne_eq_false_iff_eq, ne_eq, decide_eq_true_eq, decide_eq_false_iff_not, Bool.not_eq_true', Bool.not_eq_false'] at hc1
    refine l_s rfl rfl ?_
    refine l_s rfl rfl ?_
    refine l_s rfl rfl ?_
    refine l_op 2 rfl rfl rfl rfl rfl ?_
    refine l_op 0 rfl rfl rfl rfl rfl ?_
    refine l_s rfl rfl ?_
    refine l_s rfl rfl ?_
    refine l_s rfl rfl ?_
    refine l_op 2 rfl rfl rfl rfl rfl ?_
    refine l_nil (WK.nx (by assumption) ?_)
    refine SeqK.nx (by assumption) ?_
    first | refine e_cond_t rfl rfl rfl ?_ | refine e_cond_t rfl rfl (by rw [irr_eq]; first | exact beq_iff_eq.2 (by assumption) | exact decide_eq_true (by assumption) | exact bne_iff_ne.2 (by assumption)) ?_
    refine k_seq (fun Q K => ?_)
    refine k_lin (fun W K => ?_)
    refine l_callp F rfl rfl (by kernel_rfl) rfl rfl live6_call (fun _ s F _ => ?_)
    (try dsimp only [n_1, n_2, n_3, n_4, List.append_nil, pk, n_5, n_6] at F)
    refine l_op 0 rfl rfl rfl rfl rfl ?_
    refine l_nil (WK.nx (by assumption) ?_)
    refine SeqK.nx (by assumption) ?_
    refine k_ret ?_
    refine SeqK.rt (by assumption) ?_
    refine FunK.rt (by assumption) rfl ?_
    -- leaf 1
    first
    | rfl
    | (simp_all; done)
  try simp only [irr_eq, beq_iff_eq, bne_iff_ne, beq_eq_false_iff_ne, bne_eq_false_iff_eq, ne_eq, decide_eq_true_eq, decide_eq_false_iff_not, Bool.not_eq_true', Bool.not_eq_false'] at hc1
  refine l_op 0 rfl rfl rfl rfl rfl ?_
  first | refine l_op 2 rfl rfl rfl rfl rfl ?_ | refine l_ln rfl rfl rfl rfl ?_
  refine l_cmp rfl rfl rfl rfl ?_
  refine l_op 2 rfl rfl rfl rfl rfl ?_
  refine l_op 0 rfl rfl rfl rfl rfl ?_
  refine l_guard rfl rfl rfl (fun hc2 => ?_) (fun hc2 => ?_)
  · replace hc2 := of_decide_eq_true ((irr_eq _).symm.trans hc2)
    refine l_s rfl rfl ?_
    refine l_s rfl rfl ?_
    refine l_s rfl rfl ?_
    refine l_op 2 rfl rfl rfl rfl rfl ?_
    refine l_nil (WK.nx (by assumption) ?_)
    refine SeqK.nx (by assumption) ?_
    first | refine e_cond_t rfl rfl rfl ?_ | refine e_cond_t rfl rfl (by rw [irr_eq]; first | exact beq_iff_eq.2 (by assumption) | exact decide_eq_true (by assumption) | exact bne_iff_ne.2 (by assumption)) ?_
    refine k_seq (fun Q K => ?_)
    refine k_lin (fun W K => ?_)
    refine l_callp F rfl rfl (by kernel_rfl) rfl rfl live6_call (fun _ s F _ => ?_)
    (try dsimp only [n_1, n_2, n_3, n_4, List.append_nil, pk, n_5, n_6] at F)
    refine l_op 0 rfl rfl rfl rfl rfl ?_
    refine l_nil (WK.nx (by assumption) ?_)
    refine SeqK.nx (by assumption) ?_
    refine k_ret ?_
    refine SeqK.rt (by assumption) ?_
    refine FunK.rt (by assumption) rfl ?_
    -- leaf 2
    first
    | rfl
    | (simp_all; done)
  replace hc2 := of_decide_eq_false ((irr_eq _).symm.trans hc2)
  refine l_op 0 rfl rfl rfl rfl rfl ?_
  first | refine l_op 2 rfl rfl rfl rfl rfl ?_ | refine l_ln rfl rfl rfl rfl ?_
  refine l_cmp rfl rfl rfl rfl ?_
  refine l_op 2 rfl rfl rfl rfl rfl ?_
  refine l_nil (WK.nx (by assumption) ?_)
  refine SeqK.nx (by assumption) ?_
  refine l_cond rfl rfl (fun hc3 => ?_) (fun hc3 => ?_)
  · first | replace hc3 := eq_of_beq ((irr_eq _).symm.trans hc3) | simp only [irr_eq, beq_iff_eq, beq_eq_false_iff_ne, ne_eq, decide_eq_true_eq, decide_eq_false_iff_not] at hc3
    refine k_seq (fun Q K => ?_)
    refine k_lin (fun W K => ?_)
    refine l_callp F rfl rfl (by kernel_rfl) rfl rfl live6_call (fun _ s F _ => ?_)
    (try dsimp only [n_1, n_2, n_3, n_4, List.append_nil, pk, n_5, n_6] at F)
    refine l_op 0 rfl rfl rfl rfl rfl ?_
    refine l_nil (WK.nx (by assumption) ?_)
    refine SeqK.nx (by assumption) ?_
    refine k_ret ?_
    refine SeqK.rt (by assumption) ?_
    refine FunK.rt (by assumption) rfl ?_
    -- leaf 3
    first
    | rfl
    | (simp_all; done)
  first | replace hc3 := ne_of_beq_false ((irr_eq _).symm.trans hc3) | simp only [irr_eq, beq_iff_eq, beq_eq_false_iff_ne, ne_eq, decide_eq_true_eq, decide_eq_false_iff_not] at hc3
  obtain ⟨hb1, hb2⟩ := hhu (by assumption)
  replace F := F.pick [] (by decide)
  refine k_skip ?_
  refine SeqK.nx (by assumption) ?_
  refine k_seq (fun Q K => ?_)
  refine k_seq (fun Q K => ?_)
  refine k_lin (fun W K => ?_)
  refine l_op 0 rfl rfl rfl rfl rfl ?_
  refine l_nil (WK.nx (by assumption) ?_)
  refine SeqK.nx (by assumption) ?_
  refine k_block (fun Q K => ?_)
  refine k_loop (α := Int) (fun i s => Facts E0 σ s [] ∧ 0 ≤ i ∧ i ≤ l ∧ ∀ j : Nat, (j : Int) < i → (ts.getD j default).us ≠ zzBA) (fun i => [(0, .slice a l c), (1, .slice b n d), (2, .int .u32 num), (7, .int .i64 i)]) (fun i => (l - i).toNat) 0 ⟨F, by omega, by omega, fun j hj => by omega⟩ (by repeat (first | exact trivial | refine And.intro rfl ?_)) ?_
  clear F
  rintro i env s Q K0 ⟨F, i0, i1, hj⟩
  refine k_seq (fun Q K => ?_)
  refine k_seq (fun Q K => ?_)
  refine k_lin (fun W K => ?_)
  refine l_op 0 rfl rfl rfl rfl rfl ?_
  refine l_op 0 rfl rfl rfl rfl rfl ?_
  first | refine l_op 2 rfl rfl rfl rfl rfl ?_ | refine l_ln rfl rfl rfl rfl ?_
  refine l_cmp rfl rfl rfl rfl ?_
  refine l_nil (WK.nx (by assumption) ?_)
  refine SeqK.nx (by assumption) ?_
  refine l_cond rfl rfl (fun hc4 => ?_) (fun hc4 => ?_)
  · replace hc4 := of_decide_eq_true ((irr_eq _).symm.trans hc4)
    refine k_skip ?_
    refine SeqK.nx (by assumption) ?_
    refine k_seq (fun Q K => ?_)
    refine k_block (fun Q K => ?_)
    refine k_seq (fun Q K => ?_)
    refine k_lin (fun W K => ?_)
    refine l_op 0 rfl rfl rfl rfl rfl ?_
    refine l_op 0 rfl rfl rfl rfl rfl ?_
    refine l_ixr (e := eR) rfl rfl rfl rfl rfl rfl (F.old ho) ⟨eR_len, by decide⟩ (by omega) (fun m48 b48 hA48 => ?_)
    refine l_op 2 rfl rfl rfl rfl rfl ?_
    refine l_ld0 rfl rfl rfl rfl rfl (by assumption) ?_
    refine l_cmp rfl rfl rfl rfl ?_
    refine l_nil (WK.nx (by assumption) ?_)
    refine SeqK.nx (by assumption) ?_
    refine l_cond rfl rfl (fun hc5 => ?_) (fun hc5 => ?_)
    · first | replace hc5 := eq_of_beq ((irr_eq _).symm.trans hc5) | simp only [irr_eq, beq_iff_eq, beq_eq_false_iff_ne, ne_eq, decide_eq_true_eq, decide_eq_false_iff_not] at hc5
      refine k_seq (fun Q K => ?_)
      refine k_lin (fun W K => ?_)
      refine l_callp F rfl rfl (by kernel_rfl) rfl rfl live6_call (fun _ s F _ => ?_)
      (try dsimp only [n_1, n_2, n_3, n_4, List.append_nil, pk, n_5, n_6] at F)
      refine l_op 0 rfl rfl rfl rfl rfl ?_
      refine l_nil (WK.nx (by assumption) ?_)
      refine SeqK.nx (by assumption) ?_
      refine k_ret ?_
      refine BlkK.rt (by assumption) ?_
      refine SeqK.rt (by assumption) ?_
      refine LoopK.rt (by assumption) ?_
      refine BlkK.rt (by assumption) ?_
      refine SeqK.rt (by assumption) ?_
      refine FunK.rt (by assumption) rfl ?_
      -- leaf 4
      first
      | rfl
      | (simp_all; done)
    first | replace hc5 := ne_of_beq_false ((irr_eq _).symm.trans hc5) | simp only [irr_eq, beq_iff_eq, beq_eq_false_iff_ne, ne_eq, decide_eq_true_eq, decide_eq_false_iff_not] at hc5
    refine k_skip ?_
    refine BlkK.nx (by assumption) ?_
    refine SeqK.nx (by assumption) ?_
    refine k_lin (fun W K => ?_)
    refine l_op 0 rfl rfl rfl rfl rfl ?_
    refine l_a64 rfl rfl rfl (by omega) rfl ?_
    refine l_op 0 rfl rfl rfl rfl rfl ?_
    refine l_nil (WK.nx (by assumption) ?_)
    refine K0.nx (i + 1) (by repeat (first | exact trivial | refine And.intro rfl ?_)) ⟨F, by omega, by omega, fun j hji => ?_⟩ (by first | omega | (simp only; omega))
    have hne : (ts.getD i.toNat default).us.toList ≠ zzBA.toList := by assumption
    by_cases e : (j : Int) = i
    · rw [show j = i.toNat by omega]
      exact fun q => hne (by rw [q])
    · exact hj j (by omega)
  replace hc4 := of_decide_eq_false ((irr_eq _).symm.trans hc4)
  have hzz : ∀ t ∈ ts, t.us ≠ zzBA := fun t ht => by
    obtain ⟨j, hjl, rfl⟩ := List.mem_iff_getElem.1 ht
    have := hj j (by omega)
    simpa [List.getD, hjl] using this
  refine k_exit ?_
  refine SeqK.et (by assumption) ?_
  refine LoopK.et (by assumption) ?_
  refine BlkK.et (by assumption) ?_
  refine SeqK.nx (by assumption) ?_
  refine k_seq (fun Q K => ?_)
  refine k_lin (fun W K => ?_)
  refine l_op 0 rfl rfl rfl rfl rfl ?_
  refine l_callp F rfl rfl (by kernel_rfl) rfl rfl (rlay_call (h.to F) (by omega) (by omega)) (fun y s F hy1 => ?_)
  (try dsimp only [n_1, n_2, n_3, n_4, List.append_nil, pk, n_5, n_6] at F)
  obtain ⟨e1, x1, n1, d1, b1⟩ := y
  dsimp only at F hy1 ⊢
  have htold := lay_told hy1 (fun t ht => (h.dat t ht).len8) (by omega) h.nmb
  have hn1 := F.len8 0 rfl
  refine l_op 0 rfl rfl rfl rfl rfl ?_
  refine l_op 2 rfl rfl rfl rfl rfl ?_
  refine l_op 2 rfl rfl rfl rfl rfl ?_
  refine l_op 0 rfl rfl rfl rfl rfl ?_
  refine l_op 0 rfl rfl rfl rfl rfl ?_
  refine l_nil (WK.nx (by assumption) ?_)
  refine SeqK.nx (by assumption) ?_
  refine k_seq (fun Q K => ?_)
  refine k_seq (fun Q K => ?_)
  refine k_lin (fun W K => ?_)
  refine l_op 0 rfl rfl rfl rfl rfl ?_
  refine l_cmp rfl rfl rfl rfl ?_
  refine l_nil (WK.nx (by assumption) ?_)
  refine SeqK.nx (by assumption) ?_
  refine l_cond rfl rfl (fun hc6 => ?_) (fun hc6 => ?_)
  · first | replace hc6 := bne_iff_ne.1 ((irr_eq _).symm.trans hc6) | simp only [irr_eq, bne_iff_ne, bne_eq_false_iff_eq, ne_eq, decide_eq_true_eq, decide_eq_false_iff_not, Bool.not_eq_true', Bool.not_eq_false'] at hc6
    refine k_seq (fun Q K => ?_)
    refine k_lin (fun W K => ?_)
    refine l_callp F rfl rfl (by kernel_rfl) rfl rfl live6_call (fun _ s F _ => ?_)
    (try dsimp only [n_1, n_2, n_3, n_4, List.append_nil, pk, n_5, n_6] at F)
    refine l_op 0 rfl rfl rfl rfl rfl ?_
    refine l_nil (WK.nx (by assumption) ?_)
    refine SeqK.nx (by assumption) ?_
    refine k_ret ?_
    refine SeqK.rt (by assumption) ?_
    refine FunK.rt (by assumption) rfl ?_
    -- leaf 5
    first
    | rfl
    | (simp_all; done)
  first | replace hc6 := bne_eq_false_iff_eq.1 ((irr_eq _).symm.trans hc6) | simp only [irr_eq, bne_iff_ne, bne_eq_false_iff_eq, ne_eq, decide_eq_true_eq, decide_eq_false_iff_not, Bool.not_eq_true', Bool.not_eq_false'] at hc6
  obtain ⟨g, hbs⟩ : Good ts ∧ b1 = layB ts := by
    rcases htold with ⟨q, _⟩ | ⟨_, q⟩
    · exact absurd (by omega) q
    · exact q
  have h0 := lay_small g
  have hL := lay_len g
  have hcap : n1 ≤ d1 := by obtain ⟨_, hR, _⟩ := F.has 0 rfl; exact hR.size.2
  have hpr := lay_parse g
  rw [← hbs] at hpr hL
  have hB1 : Bytes b1 := by rw [hbs]; exact bytes_layB h.byt
  refine k_skip ?_
  refine SeqK.nx (by assumption) ?_
  refine k_seq (fun Q K => ?_)
  refine k_lin (fun W K => ?_)
  refine l_op 0 rfl rfl rfl rfl rfl ?_
  refine l_callp F rfl rfl (by kernel_rfl) rfl rfl (rparse_call (bs := b1) (Old.pure (F.has 0 rfl)) hB1 (by omega)) (fun y s F hy2 => ?_)
  (try dsimp only [n_1, n_2, n_3, n_4, List.append_nil, pk, n_5, n_6] at F)
  obtain ⟨kd, x2, n2, d2, us⟩ := y
  obtain ⟨_, w1, w2⟩ := hy2
  dsimp only [parV, parF] at F w1 w2 ⊢
  rw [hpr] at w1
  dsimp only at w1
  have hul : us.length = n2 := (F.has 2 rfl).len eK_len (by decide)
  have hul2 : us.length = ts.length + 1 := by
    have := congrArg List.length w1
    unfold cksR at this
    simpa using this
  refine l_op 0 rfl rfl rfl rfl rfl ?_
  refine l_op 2 rfl rfl rfl rfl rfl ?_
  refine l_op 2 rfl rfl rfl rfl rfl ?_
  refine l_op 2 rfl rfl rfl rfl rfl ?_
  refine l_op 2 rfl rfl rfl rfl rfl ?_
  refine l_op 0 rfl rfl rfl rfl rfl ?_
  refine l_op 0 rfl rfl rfl rfl rfl ?_
  refine l_op 0 rfl rfl rfl rfl rfl ?_
  refine l_op 0 rfl rfl rfl rfl rfl ?_
  refine l_nil (WK.nx (by assumption) ?_)
  refine SeqK.nx (by assumption) ?_
  refine k_seq (fun Q K => ?_)
  refine k_lin (fun W K => ?_)
  refine l_op 0 rfl rfl rfl rfl rfl ?_
  refine l_callp F rfl rfl (by kernel_rfl) rfl rfl (rplaces_call (Facts.oldK F 1 2 rfl rfl w2) (fun t ht => (w2 t ht).2.1) (by omega)) (fun yp s F _ => ?_)
  (try dsimp only [n_1, n_2, n_3, n_4, List.append_nil, pk, n_5, n_6] at F)
  obtain ⟨xp, dp⟩ := yp
  dsimp only at F ⊢
  obtain ⟨u0, us', rfl⟩ : ∃ u0 us', us = u0 :: us' := by
    cases us with
    | nil => simp at hul2
    | cons u us => exact ⟨_, _, rfl⟩
  have w3 : us'.map plK = (ts.map toK).map plK := by
    unfold cksR at w1
    rw [List.map_cons, List.map_cons] at w1
    exact (List.cons.inj w1).2
  have w4 : plK u0 = (ltr ridxBA, idxD ts) := by
    unfold cksR at w1
    rw [List.map_cons, List.map_cons] at w1
    exact (List.cons.inj w1).1
  have w5 : ltr u0.id = ltr ridxBA := congrArg (fun z : List Int × List Int => z.1) w4
  have w6 : u0.d = idxD ts := congrArg (fun z : List Int × List Int => z.2) w4
  have hu0 := (Facts.hasM F 1 rfl (List.mem_map_of_mem (List.mem_cons_self ..) : dK u0 ∈ (u0 :: us').map dK))
  have hxl0 := idxD_len g.ids
  have w7 : u0.l = 4 + 12 * ts.length := by
    have := (Old.pure hu0).len8
    rw [w6, hxl0] at this
    exact this.symm
  have hdl : ∀ t ∈ us', t.d.length = t.l := fun t ht => (Old.pure (Facts.hasM F 1 rfl (List.mem_map_of_mem (List.mem_cons_of_mem _ ht) : dK t ∈ (u0 :: us').map dK))).len8
  refine l_op 0 rfl rfl rfl rfl rfl ?_
  refine l_nil (WK.nx (by assumption) ?_)
  refine SeqK.nx (by assumption) ?_
  refine k_seq (fun Q K => ?_)
  refine k_lin (fun W K => ?_)
  refine l_lit F rfl rfl rfl rfl (fun q70 s F => ?_)
  (try dsimp only [n_1, n_2, n_3, n_4, List.append_nil, pk, n_5, n_6] at F)
  refine l_op 0 rfl rfl rfl rfl rfl ?_
  refine l_ixr (e := eK) rfl rfl rfl rfl rfl rfl (F.has 2 rfl) ⟨eK_len, by decide⟩ (by omega) (fun m72 b72 hA72 => ?_)
  refine l_op 2 rfl rfl rfl rfl rfl ?_
  refine l_ldj rfl rfl rfl rfl rfl rfl (by assumption) rfl ?_
  refine l_appi (kk := .u8) (xs := []) F 4 rfl rfl rfl rfl rfl rfl rfl (F.hasM 1 rfl (List.mem_map_of_mem (List.mem_cons_self ..) : dK u0 ∈ (u0 :: us').map dK)) rfl (by show 0 + u0.l ≤ _; omega) hD (fun x15 c15 s F => ?_)
  replace F := F.pick [1, 2, 3, 4] (by decide)
  (try dsimp only [n_1, n_2, n_3, n_4, List.append_nil, pk, n_5, n_6] at F)
  have e75 : 0 + ((u0 :: us').getD (Int.toNat 0) default).l = 4 + 12 * ts.length := by show 0 + u0.l = _; omega
  have F0 : Facts E0 σ s [many ((u0 :: us').map dK), own x2 n2 d2 2 (rows eK (u0 :: us')), own xp n2 dp 1 ((plcL ((u0 :: us').map plK) n2).map (.int .i64)), own x15 (4 + 12 * ts.length) c15 1 (u8l (idxD ts))] := by
    rw [← w6, ← w7]
    have : 0 + ((u0 :: us').getD (Int.toNat 0) default).l = u0.l := by show 0 + u0.l = _; omega
    rw [← this]
    exact F
  clear F
  have F := F0
  clear F0
  rw [e75]
  have hp1 : (plcL ((u0 :: us').map plK) n2).getD (Int.toNat 1) 0 = plcR ts 0 := by
    rw [show Int.toNat 1 = 1 from rfl, plcL_at (by omega), w1]
    exact plc_at (i := 0) g.dl (by show ((idxD ts).length : Int) = _; omega)
  have hpb := plcR_bd (ts := ts) 0 (by omega) (by omega)
  have e77 : 4 + 12 * ts.length + zzBA.size = 8 + 12 * ts.length := by have : zzBA.size = 4 := rfl; omega
  have e81 : 8 + 12 * ts.length + (putR num 4).length = 12 + 12 * ts.length := by rw [put4_len]; omega
  have e88 : 12 + 12 * ts.length + (putR (plcR ts 0) 4).length = 16 + 12 * ts.length := by rw [put4_len]; omega
  refine l_op 0 rfl rfl rfl rfl rfl ?_
  refine l_nil (WK.nx (by assumption) ?_)
  refine SeqK.nx (by assumption) ?_
  refine k_seq (fun Q K => ?_)
  refine k_lin (fun W K => ?_)
  refine l_op 0 rfl rfl rfl rfl rfl ?_
  refine l_apps (xs := idxD ts) F 3 rfl rfl rfl rfl rfl rfl rfl rfl (by rw [e77]; omega) hD (fun x16 c16 s F => ?_)
  (try dsimp only [n_1, n_2, n_3, n_4, List.append_nil, pk, n_5, n_6] at F)
  rw [e77] at F ⊢
  refine l_op 0 rfl rfl rfl rfl rfl ?_
  refine l_nil (WK.nx (by assumption) ?_)
  refine SeqK.nx (by assumption) ?_
  refine k_seq (fun Q K => ?_)
  refine k_lin (fun W K => ?_)
  refine l_op 0 rfl rfl rfl rfl rfl ?_
  refine l_op 0 rfl rfl rfl rfl rfl ?_
  refine l_callp F rfl rfl (by kernel_rfl) rfl rfl (rput_call (x := num) (n := 4) hnum) (fun y s F _ => ?_)
  (try dsimp only [n_1, n_2, n_3, n_4, List.append_nil, pk, n_5, n_6] at F)
  refine l_appi (xs := idxD ts ++ ltr zzBA) F 3 rfl rfl rfl rfl rfl rfl rfl (ys := putR num 4) (F.has 4 rfl) rfl (by rw [e81]; omega) hD (fun x17 c17 s F => ?_)
  replace F := F.pick [0, 1, 2, 3] (by decide)
  (try dsimp only [n_1, n_2, n_3, n_4, List.append_nil, pk, n_5, n_6] at F)
  rw [e81] at F ⊢
  refine l_op 0 rfl rfl rfl rfl rfl ?_
  refine l_nil (WK.nx (by assumption) ?_)
  refine SeqK.nx (by assumption) ?_
  refine k_seq (fun Q K => ?_)
  refine k_lin (fun W K => ?_)
  refine l_op 0 rfl rfl rfl rfl rfl ?_
  refine l_op 0 rfl rfl rfl rfl rfl ?_
  refine l_ixi rfl rfl rfl rfl rfl rfl (F.has 2 rfl) (by omega) (fun m84 b84 hA84 => ?_)
  rw [hp1] at hA84
  refine l_ld0 rfl rfl rfl rfl rfl (by assumption) ?_
  refine l_c32 rfl rfl rfl (by omega) rfl ?_
  refine l_callp F rfl rfl (by kernel_rfl) rfl rfl (rput_call (x := plcR ts 0) (n := 4) ⟨by omega, by omega⟩) (fun y s F _ => ?_)
  (try dsimp only [n_1, n_2, n_3, n_4, List.append_nil, pk, n_5, n_6] at F)
  refine l_appi (xs := idxD ts ++ ltr zzBA ++ putR num 4) F 3 rfl rfl rfl rfl rfl rfl rfl (ys := putR (plcR ts 0) 4) (F.has 4 rfl) rfl (by rw [e88]; omega) hD (fun x18 c18 s F => ?_)
  replace F := F.pick [0, 1, 3] (by decide)
  (try dsimp only [n_1, n_2, n_3, n_4, List.append_nil, pk, n_5, n_6] at F)
  rw [e88] at F ⊢
  have oth : Oth ts us' ⟨moBA, b, n, d, xs⟩ num := ⟨g, by omega, by omega, hb2, w3, hdl, fun t ht => w2 t (List.mem_cons_of_mem _ ht), rfl, hxl, by show n ≤ _; omega, hnum, hzz⟩
  have hd0 : idxD ts ++ ltr zzBA ++ putR num 4 ++ putR (plcR ts 0) 4 = [] ++ (putR ts.length 4 ++ (entsD ts ts.length ++ (ltr zzBA ++ (putR num 4 ++ putR (plcR ts 0) 4)))) := by
    unfold idxD; simp only [List.append_assoc, List.nil_append]
  rw [hd0] at F
  generalize hA0 : entsD ts ts.length ++ (ltr zzBA ++ (putR num 4 ++ putR (plcR ts 0) 4)) = A0 at F
  have hz0 : dAt (us' ++ [⟨moBA, b, n, d, xs⟩]) (4 + 12 * ts.length) (esO ts num) 0 = [] ++ (putR (ts.length + 1 : Int) 4 ++ A0) := by
    rw [dAt_zero (fun i hi => oth.size hi) oth.pos, hA0]; rfl
  have hBA : Bytes A0 := by rw [← hA0]; exact Bytes.app (bytes_entsD ts _) (Bytes.app (ltr_bytes _) (Bytes.app (bytes_put _ _) (bytes_put _ _)))
  have hbe0 : beV ([] ++ (putR ts.length 4 ++ A0)) 0 4 = .tuple #[.int .u32 ts.length, .int .i64 0] := by
    have hb := be_put [] A0 (ts.length : Int) 4 (by decide)
    have hb2 : be ([] ++ (putR ts.length 4 ++ A0)) 0 4 = ts.length := hb.trans (Int.emod_eq_of_lt (by omega) (by show (ts.length : Int) < 256 ^ 4; omega))
    have : beR ([] ++ (putR ts.length 4 ++ A0)) 0 4 = ((ts.length : Int), 0) := by
      unfold beR
      rw [if_neg (by omega), if_neg (by simp only [List.length_append, put4_len, List.length_nil]; omega)]
      exact congrArg (fun z => (z, (0 : Int))) hb2
    show Value.tuple #[.int .u32 (beR _ 0 4).1, .int .i64 (beR _ 0 4).2] = _
    rw [this]
  refine l_op 0 rfl rfl rfl rfl rfl ?_
  refine l_nil (WK.nx (by assumption) ?_)
  refine SeqK.nx (by assumption) ?_
  refine k_seq (fun Q K => ?_)
  refine k_lin (fun W K => ?_)
  refine l_op 0 rfl rfl rfl rfl rfl ?_
  refine l_callp F rfl rfl (by kernel_rfl) rfl rfl (rbe_call (bs := [] ++ (putR ts.length 4 ++ A0)) (at_ := 0) (n := 4) (Old.pure (F.has 2 rfl)) (show Bytes (putR ts.length 4 ++ A0) from Bytes.app (bytes_put _ _) hBA) (by omega)) (fun _ s F _ => ?_)
  (try dsimp only [n_1, n_2, n_3, n_4, List.append_nil, pk, n_5, n_6] at F)
  rw [hbe0]
  refine l_op 0 rfl rfl rfl rfl rfl ?_
  refine l_op 2 rfl rfl rfl rfl rfl ?_
  refine l_op 2 rfl rfl rfl rfl rfl ?_
  refine l_op 0 rfl rfl rfl rfl rfl ?_
  refine l_op 0 rfl rfl rfl rfl rfl ?_
  refine l_nil (WK.nx (by assumption) ?_)
  refine SeqK.nx (by assumption) ?_
  refine k_seq (fun Q K => ?_)
  refine k_lin (fun W K => ?_)
  refine l_op 0 rfl rfl rfl rfl rfl ?_
  refine l_op 0 rfl rfl rfl rfl rfl ?_
  refine l_a32 rfl rfl rfl (by omega) rfl ?_
  refine l_callp F rfl rfl (by kernel_rfl) rfl rfl (rput_call (x := (ts.length : Int) + 1) (n := 4) ⟨by omega, by omega⟩) (fun y s F _ => ?_)
  (try dsimp only [n_1, n_2, n_3, n_4, List.append_nil, pk, n_5, n_6] at F)
  refine l_cp (es := 1) F 2 rfl rfl rfl rfl rfl rfl rfl (F.has 3 rfl) (ints_one _) hD (fun s F => ?_)
  (try dsimp only [n_1, n_2, n_3, n_4, List.append_nil, pk, n_5, n_6] at F)
  refine l_nil (WK.nx (by assumption) ?_)
  refine SeqK.nx (by assumption) ?_
  refine k_seq (fun Q K => ?_)
  refine k_seq (fun Q K => ?_)
  refine k_lin (fun W K => ?_)
  refine l_op 0 rfl rfl rfl rfl rfl ?_
  refine l_nil (WK.nx (by assumption) ?_)
  refine SeqK.nx (by assumption) ?_
  refine k_block (fun Q K => ?_)
  obtain ⟨KK, hKK⟩ : ∃ KK, us' ++ [⟨moBA, b, n, d, xs⟩] = KK := ⟨_, rfl⟩
  have og := oth.good
  have ov := oth.vals
  have oa := oth.all
  have oi := oth.ids
  rw [hKK] at og ov oa hz0
  have hel := esO_len ts num
  have hsp : splice (u8l ([] ++ (putR ts.length 4 ++ A0))) 0 ((u8l (putR ((ts.length : Int) + 1) 4)).take (min (putR ((ts.length : Int) + 1) 4).length (16 + 12 * ts.length) * 1)) = u8l (dAt KK (4 + 12 * ts.length) (esO ts num) 0) := by
    have e : min (putR ((ts.length : Int) + 1) 4).length (16 + 12 * ts.length) * 1 = 4 := by rw [put4_len]; omega
    rw [e, List.take_of_length_le (by rw [List.length_map, put4_len]; omega), hz0]
    exact splice_mid (A := []) rfl
  have F0 : Facts E0 σ s [many ((u0 :: us').map dK), own x2 n2 d2 2 (rows eK (u0 :: us')), own x18 (16 + 12 * ts.length) c18 1 (u8l (dAt KK (4 + 12 * ts.length) (esO ts num) 0))] := by
    rw [← hsp]
    exact F.pick [0, 1, 2] (by decide)
  clear F
  have F := F0
  clear F0
  obtain ⟨m18, e18, rfl⟩ := own_some F 2 rfl (by omega)
  refine k_loop (α := Int) (fun i s => Facts E0 σ s [many ((u0 :: us').map dK), own x2 n2 d2 2 (rows eK (u0 :: us')), own (some ⟨m18, 0, e18⟩) (16 + 12 * ts.length) c18 1 (u8l (dAt KK (4 + 12 * ts.length) (esO ts num) i.toNat))] ∧ 0 ≤ i ∧ i ≤ (l : Int) + 1) (fun i => [(0, .slice a l c), (1, .slice b n d), (2, .int .u32 num), (11, .slice x2 n2 d2), (15, .slice (some ⟨m18, 0, e18⟩) (16 + 12 * ts.length) c18), (18, .int .i64 i)]) (fun i => (l + 1 - i).toNat) 0 ⟨F, by omega, by omega⟩ (by repeat (first | exact trivial | refine And.intro rfl ?_)) ?_
  clear F
  rintro i env s Q K0 ⟨F, i0, i1⟩
  refine k_seq (fun Q K => ?_)
  refine k_seq (fun Q K => ?_)
  refine k_lin (fun W K => ?_)
  refine l_op 0 rfl rfl rfl rfl rfl ?_
  refine l_op 0 rfl rfl rfl rfl rfl ?_
  first | refine l_op 2 rfl rfl rfl rfl rfl ?_ | refine l_ln rfl rfl rfl rfl ?_
  refine l_a64 rfl rfl rfl (by omega) rfl ?_
  refine l_cmp rfl rfl rfl rfl ?_
  refine l_nil (WK.nx (by assumption) ?_)
  refine SeqK.nx (by assumption) ?_
  refine l_cond rfl rfl (fun hc7 => ?_) (fun hc7 => ?_)
  · replace hc7 := of_decide_eq_true ((irr_eq _).symm.trans hc7)
    obtain ⟨A, Z, hAl, hda, hdb⟩ := dAt_at (K := KK) (D := 4 + 12 * ts.length) (es := esO ts num) (i := i.toNat) (by omega) oi
    have hsz0 := (sizeK_bd (KK.take ((esO ts num).getD i.toNat default).k)).1
    have hsz1 := sizeK_le KK ((esO ts num).getD i.toNat default).k
    generalize hv : 20 + (4 + 12 * (ts.length : Int)) + sizeK (KK.take ((esO ts num).getD i.toNat default).k) = v at hda hdb
    have hdl2 : (dAt KK (4 + 12 * ts.length) (esO ts num) i.toNat).length = 16 + 12 * ts.length := F.len8 2 rfl
    have hbev : beV (dAt KK (4 + 12 * ts.length) (esO ts num) i.toNat) (12 + 12 * i) 4 = .tuple #[.int .u32 v, .int .i64 0] := by
      have hb := be_put A Z v 4 (by decide)
      have hb2 : be (A ++ (putR v 4 ++ Z)) A.length 4 = v := hb.trans (Int.emod_eq_of_lt (by omega) (by show v < 256 ^ 4; omega))
      have e0 : (12 + 12 * i).toNat = A.length := by omega
      have : beR (dAt KK (4 + 12 * ts.length) (esO ts num) i.toNat) (12 + 12 * i) 4 = (v, 0) := by
        unfold beR
        rw [if_neg (by omega), if_neg (by omega), e0, hda]
        exact congrArg (fun z => (z, (0 : Int))) hb2
      show Value.tuple #[.int .u32 (beR _ (12 + 12 * i) 4).1, .int .i64 (beR _ (12 + 12 * i) 4).2] = _
      rw [this]
    refine k_skip ?_
    refine SeqK.nx (by assumption) ?_
    refine k_seq (fun Q K => ?_)
    refine k_block (fun Q K => ?_)
    refine k_seq (fun Q K => ?_)
    refine k_lin (fun W K => ?_)
    refine l_op 0 rfl rfl rfl rfl rfl ?_
    refine l_op 0 rfl rfl rfl rfl rfl ?_
    refine l_a64 rfl rfl rfl (by omega) rfl ?_
    refine l_a64 rfl rfl rfl (by omega) rfl ?_
    refine l_callp F rfl rfl (by kernel_rfl) rfl rfl (rbe_call (at_ := 12 + 12 * i) (n := 4) (Old.pure (F.has 2 rfl)) (bytes_dAt _ _ _ _) (by omega)) (fun _ s F _ => ?_)
    (try dsimp only [n_1, n_2, n_3, n_4, List.append_nil, pk, n_5, n_6] at F)
    rw [hbev]
    refine l_op 0 rfl rfl rfl rfl rfl ?_
    refine l_op 2 rfl rfl rfl rfl rfl ?_
    refine l_op 2 rfl rfl rfl rfl rfl ?_
    refine l_op 0 rfl rfl rfl rfl rfl ?_
    refine l_op 0 rfl rfl rfl rfl rfl ?_
    refine l_nil (WK.nx (by assumption) ?_)
    refine SeqK.nx (by assumption) ?_
    refine k_linr mixed (by kernel_rfl) (fun W K => ?_)
    try have hpS := F.pns
    refine l_op 0 rfl rfl rfl rfl rfl ?_
    refine l_op 0 rfl rfl rfl rfl rfl ?_
    refine l_a64 rfl rfl rfl (by omega) rfl ?_
    refine l_a64 rfl rfl rfl (by omega) rfl ?_
    first | refine l_sl rfl rfl rfl rfl rfl rfl rfl rfl rfl (F.old (by assumption)) (by omega) ?_ | refine l_sl rfl rfl rfl rfl rfl rfl rfl rfl rfl (F.has 0 rfl) (by omega) ?_ | refine l_sl rfl rfl rfl rfl rfl rfl rfl rfl rfl (F.has 1 rfl) (by omega) ?_ | refine l_sl rfl rfl rfl rfl rfl rfl rfl rfl rfl (F.has 2 rfl) (by omega) ?_ | refine l_sl rfl rfl rfl rfl rfl rfl rfl rfl rfl (F.has 3 rfl) (by omega) ?_
    refine l_op 0 rfl rfl rfl rfl rfl ?_
    refine l_a32 rfl rfl rfl (by omega) rfl ?_
    refine l_callp F rfl rfl (by kernel_rfl) rfl rfl (rput_call (x := v + 12) (n := 4) ⟨by omega, by omega⟩) (fun y s F _ => ?_)
    (try dsimp only [n_1, n_2, n_3, n_4, List.append_nil, pk, n_5, n_6] at F)
    refine l_cpo (es := 1) (j := 0 + (12 + 12 * i).toNat * 1) F 2 rfl rfl rfl rfl rfl rfl rfl (F.has 3 rfl) (by rw [List.all_eq_true]; exact fun v hv => List.all_eq_true.1 (ints_one _) v (List.mem_of_mem_take hv)) (by rw [put4_len]; omega) hD (fun s F => ?_)
    (try dsimp only [n_1, n_2, n_3, n_4, List.append_nil, pk, n_5, n_6] at F)
    refine l_nil (WK.nx (by assumption) ?_)
    refine BlkK.nx (by assumption) ?_
    refine SeqK.nx (by assumption) ?_
    refine k_lin (fun W K => ?_)
    refine l_op 0 rfl rfl rfl rfl rfl ?_
    refine l_a64 rfl rfl rfl (by omega) rfl ?_
    refine l_op 0 rfl rfl rfl rfl rfl ?_
    refine l_nil (WK.nx (by assumption) ?_)
    have hj2 : 0 + (12 + 12 * i).toNat * 1 = A.length := by omega
    have htk : (u8l (putR (v + 12) 4)).take (min (putR (v + 12) 4).length (16 + 12 * ts.length - (12 + 12 * i).toNat) * 1) = u8l (putR (v + 12) 4) := List.take_of_length_le (by rw [List.length_map, put4_len]; omega)
    have F9 := F.pick [0, 1, 2] (by decide)
    refine K0.nx (i + 1) (by repeat (first | exact trivial | refine And.intro rfl ?_)) ⟨?_, by omega, by omega⟩ (by first | omega | (simp only; omega))
    rw [show (i + 1).toNat = i.toNat + 1 by omega, hdb, ← splice_mid (A := A) (B := putR v 4) (C := putR (v + 12) 4) (Z := Z) rfl, ← hda, ← hj2, ← htk]
    exact F9
  replace hc7 := of_decide_eq_false ((irr_eq _).symm.trans hc7)
  have hin : i.toNat = (esO ts num).length := by omega
  rw [hin, dAt_end (by rw [hel]; omega)] at F
  refine k_exit ?_
  refine SeqK.et (by assumption) ?_
  refine LoopK.et (by assumption) ?_
  refine BlkK.et (by assumption) ?_
  refine SeqK.nx (by assumption) ?_
  refine k_seq (fun Q K => ?_)
  refine k_lin (fun W K => ?_)
  refine l_op 0 rfl rfl rfl rfl rfl ?_
  refine l_op 0 rfl rfl rfl rfl rfl ?_
  refine l_ixor (e := eK) F 1 rfl ⟨eK_len, by decide⟩ rfl rfl rfl rfl rfl rfl (by omega) (fun m125 e125 ha125 hA125 => ?_)
  subst ha125
  refine l_op 2 rfl rfl rfl rfl rfl ?_
  refine l_sto (j := 1) F 1 rfl rfl rfl rfl rfl rfl rfl rfl (by omega) hD (fun s F => ?_)
  have F0 : Facts E0 σ s [many ((u0 :: us').map dK), own (some ⟨m125, 0, e125⟩) n2 d2 2 (rows eK (⟨u0.id, some ⟨m18, 0, e18⟩, 16 + 12 * ts.length, c18, gIdx KK (esO ts num)⟩ :: us')), own (some ⟨m18, 0, e18⟩) (16 + 12 * ts.length) c18 1 (u8l (gIdx KK (esO ts num)))] := F
  clear F
  have F := F0
  clear F0
  refine l_nil (WK.nx (by assumption) ?_)
  refine SeqK.nx (by assumption) ?_
  refine k_seq (fun Q K => ?_)
  refine k_lin (fun W K => ?_)
  refine l_op 0 rfl rfl rfl rfl rfl ?_
  refine l_op 0 rfl rfl rfl rfl rfl ?_
  refine l_bld rfl rfl rfl rfl ?_
  refine l_lit F rfl rfl rfl rfl (fun q131 s F => ?_)
  (try dsimp only [n_1, n_2, n_3, n_4, List.append_nil, pk, n_5, n_6] at F)
  refine l_app (es := 2) F 1 rfl rfl rfl rfl rfl rfl rfl (F.has 3 rfl) rfl rfl (by omega) hD (fun x32 c32 s F => ?_)
  (try dsimp only [n_1, n_2, n_3, n_4, List.append_nil, pk, n_5, n_6] at F)
  have hid : u0.id = ridxBA := ltr_inj w5
  have hgl := g_len (K := KK) oi
  have hl16 : 16 + 12 * ts.length = (gIdx KK (esO ts num)).length := by omega
  have F0 : Facts E0 σ s [many ((u0 :: us').map dK), own x32 (n2 + 1) c32 2 (rows eK (⟨u0.id, some ⟨m18, 0, e18⟩, 16 + 12 * ts.length, c18, gIdx KK (esO ts num)⟩ :: KK)), own (some ⟨m18, 0, e18⟩) (16 + 12 * ts.length) c18 1 (u8l (gIdx KK (esO ts num)))] := by
    have e9 : rows eK (⟨u0.id, some ⟨m18, 0, e18⟩, 16 + 12 * ts.length, c18, gIdx KK (esO ts num)⟩ :: (us' ++ [⟨moBA, b, n, d, xs⟩])) = rows eK (⟨u0.id, some ⟨m18, 0, e18⟩, 16 + 12 * ts.length, c18, gIdx KK (esO ts num)⟩ :: us') ++ [.string moBA, .slice b n d] := by
      rw [← List.cons_append, rows_append]; rfl
    have F1 := F.pick [0, 1, 2] (by decide)
    have e10 : rows eK (⟨u0.id, some ⟨m18, 0, e18⟩, 16 + 12 * ts.length, c18, gIdx KK (esO ts num)⟩ :: KK) = rows eK (⟨u0.id, some ⟨m18, 0, e18⟩, 16 + 12 * ts.length, c18, gIdx KK (esO ts num)⟩ :: us') ++ [.string moBA, .slice b n d] := by
      rw [← e9, hKK]
    rw [e10]
    exact F1
  clear F
  have F := F0
  clear F0
  have hmem : ∀ {P : CK → Prop}, (∀ t ∈ us', P t) → P ⟨moBA, b, n, d, xs⟩ → ∀ t ∈ KK, P t := fun p1 p2 t ht => by
    rw [← hKK] at ht
    rcases List.mem_append.1 ht with ht | ht
    · exact p1 t ht
    · rw [List.mem_singleton.1 ht]; exact p2
  have hcons : ∀ {P : CK → Prop} {u : CK}, P u → (∀ t ∈ KK, P t) → ∀ t ∈ u :: KK, P t := fun p1 p2 t ht => by
    rcases List.mem_cons.1 ht with rfl | ht
    · exact p1
    · exact p2 t ht
  have hid0 : u0.id.size = 4 := (w2 u0 (List.mem_cons_self ..)).2.2
  have hK : OldK E0 s x32 (n2 + 1) c32 (⟨u0.id, some ⟨m18, 0, e18⟩, 16 + 12 * ts.length, c18, gIdx KK (esO ts num)⟩ :: KK) := ⟨Old.pure (F.has 1 rfl),
    hcons (Old.pure (F.has 2 rfl)) (hmem (fun t ht => Old.pure (Facts.hasM F 0 rfl (List.mem_map_of_mem (List.mem_cons_of_mem _ ht) : dK t ∈ (u0 :: us').map dK))) (Old.pure (F.old hx))),
    hcons (bytes_gIdx _ _) (hmem (fun t ht => (w2 t (List.mem_cons_of_mem _ ht)).1) hB),
    hcons ⟨by show ((16 + 12 * ts.length : Nat) : Int) ≤ _; omega, by show (u0.id.size : Int) ≤ _; omega⟩ (hmem (fun t ht => by have := w2 t (List.mem_cons_of_mem _ ht); omega) ⟨by show (n : Int) ≤ _; omega, (by decide : (moBA.size : Int) ≤ 140737488351232)⟩)⟩
  refine l_callp F rfl rfl (by kernel_rfl) rfl rfl (rbuild_call (kind := kindBA) hK (by omega) (by simp only [sumK]; omega) (by decide)) (fun y s F hy3 => ?_)
  (try dsimp only [n_1, n_2, n_3, n_4, List.append_nil, pk, n_5, n_6] at F)
  obtain ⟨e3, x3, n3, d3, b3⟩ := y
  dsimp only at F hy3 ⊢
  have hn3 := F.len8 3 rfl
  rw [hid] at hy3
  have hy4 := bldP_head (y := none) (c' := 0) hy3
  rw [hl16] at hy4
  obtain ⟨he3, hb3⟩ := bld_told og hy4
  have hrd := g_read og
  have hln := bldR_len (kind := kindBA) (by decide) (g_good og)
  have hsg : sizeK (gCk KK (esO ts num)) ≤ 200000 := by simp only [sizeK]; omega
  have hsg0 := (sizeK_bd (gCk KK (esO ts num))).1
  rw [← hb3] at hrd hln
  have hcap3 : n3 ≤ d3 := by obtain ⟨_, hR, _⟩ := F.has 3 rfl; exact hR.size.2
  have hB3 : Bytes b3 := by rw [hb3]; exact bytes_bldR (hcons (bytes_gIdx _ _) (fun t ht => hK.byt t (List.mem_cons_of_mem _ ht)))
  refine l_op 0 rfl rfl rfl rfl rfl ?_
  refine l_op 2 rfl rfl rfl rfl rfl ?_
  refine l_op 2 rfl rfl rfl rfl rfl ?_
  refine l_op 0 rfl rfl rfl rfl rfl ?_
  refine l_op 0 rfl rfl rfl rfl rfl ?_
  refine l_nil (WK.nx (by assumption) ?_)
  refine SeqK.nx (by assumption) ?_
  refine k_seq (fun Q K => ?_)
  refine k_lin (fun W K => ?_)
  refine l_op 0 rfl rfl rfl rfl rfl ?_
  refine l_callp F rfl rfl (by kernel_rfl) rfl rfl (read_call (bs := b3) (Old.pure (F.has 3 rfl)) hB3 (by omega) (.inr (by omega))) (fun y s F hy5 => ?_)
  (try dsimp only [n_1, n_2, n_3, n_4, List.append_nil, pk, n_5, n_6] at F)
  obtain ⟨x4, n4, d4, rs⟩ := y
  obtain ⟨v1, v2⟩ := hy5
  dsimp only [reaV, reaF] at F v1 v2 ⊢
  rw [hrd] at v1 ⊢
  dsimp only at v1 ⊢
  rw [ov] at v1
  have hrl : rs.length = n4 := (F.has 5 rfl).len eR_len (by decide)
  have hrl2 := congrArg List.length v1
  rw [List.length_append, List.length_map, List.length_map, List.length_singleton] at hrl2
  replace F := F.pick [4, 5] (by decide)
  (try dsimp only [n_1, n_2, n_3, n_4, List.append_nil, pk, n_5, n_6] at F)
  refine l_op 0 rfl rfl rfl rfl rfl ?_
  refine l_op 2 rfl rfl rfl rfl rfl ?_
  refine l_op 2 rfl rfl rfl rfl rfl ?_
  refine l_op 2 rfl rfl rfl rfl rfl ?_
  refine l_op 0 rfl rfl rfl rfl rfl ?_
  refine l_op 0 rfl rfl rfl rfl rfl ?_
  refine l_op 0 rfl rfl rfl rfl rfl ?_
  refine l_nil (WK.nx (by assumption) ?_)
  refine SeqK.nx (by assumption) ?_
  refine k_seq (fun Q K => ?_)
  refine k_lalt [0, 2, 3, 4, 5, 6, 7, 8, 9, 10, 11] [(1, [12, 13, 14]), (12, [1, 13, 14])] mixed (by kernel_rfl) (fun W K => ?_)
  try have hpS := F.pns
  refine l_op 0 rfl rfl rfl rfl rfl ?_
  refine l_op 0 rfl rfl rfl rfl rfl ?_
  refine l_op 0 rfl rfl rfl rfl rfl ?_
  refine l_ixrs (e := eR) F ho ⟨eR_len, by decide⟩ rfl rfl rfl rfl rfl rfl (by omega) (fun m146 b146 hA146 hS146 => ?_)
  refine l_op 2 rfl rfl rfl rfl rfl ?_
  refine l_ldj rfl rfl rfl rfl rfl rfl (by assumption) rfl ?_
  first | have hpS := PnS.add hpS hS146 | have hpS := PnS.add hpS (OldC.sf (by assumption)) | skip
  refine l_op 0 rfl rfl rfl rfl rfl ?_
  refine l_ixrs (e := eR) F ho ⟨eR_len, by decide⟩ rfl rfl rfl rfl rfl rfl (by omega) (fun m150 b150 hA150 hS150 => ?_)
  refine l_op 2 rfl rfl rfl rfl rfl ?_
  refine l_ldj rfl rfl rfl rfl rfl rfl (by assumption) rfl ?_
  first | have hpS := PnS.add hpS hS150 | have hpS := PnS.add hpS (OldC.sf (by assumption)) | skip
  refine l_bld rfl rfl rfl rfl ?_
  refine l_nil (alt_two ?_ ?_)
  · refine l_callp F rfl rfl (by kernel_rfl) rfl rfl (copy_call (h.to F) (by omega) (by omega)) (fun y s F hy6 => ?_)
    (try dsimp only [n_1, n_2, n_3, n_4, List.append_nil, pk, n_5, n_6] at F)
    obtain ⟨x7, n7, d7, ws⟩ := y
    dsimp only [reaF] at F hy6 ⊢
    refine l_lit F rfl rfl rfl rfl (fun q154 s F => ?_)
    (try dsimp only [n_1, n_2, n_3, n_4, List.append_nil, pk, n_5, n_6] at F)
    have hwl : ws.length = n7 := (F.has 3 rfl).len eR_len (by decide)
    have hwl2 := congrArg List.length hy6
    rw [List.length_map, List.length_map] at hwl2
    refine l_app (es := 4) F 3 rfl rfl rfl rfl rfl rfl rfl (F.has 4 rfl) rfl rfl (by omega) hD (fun x8 c8 s F => ?_)
    (try dsimp only [n_1, n_2, n_3, n_4, List.append_nil, pk, n_5, n_6] at F)
    have F0 : Facts E0 σ s [many (rs.map dR), own x4 n4 d4 4 (rows eR rs), many (ws.map dR), own x8 (n7 + 1) c8 4 (rows eR (ws ++ [⟨zzBA, num, (ts.getD 0 default).id, (ts.getD 0 default).x, (ts.getD 0 default).l, (ts.getD 0 default).c, (ts.getD 0 default).d⟩] ++ []))] := by
      rw [List.append_nil, rows_append]
      exact F.pick [0, 1, 2, 3] (by decide)
    clear F
    have F := F0
    clear F0
    refine l_op 0 rfl rfl rfl rfl rfl ?_
    refine l_nil (WK.nx (by assumption) ?_)
    refine SeqK.nx (by assumption) ?_
    refine k_seq (fun Q K => ?_)
    refine k_lin (fun W K => ?_)
    refine l_op 0 rfl rfl rfl rfl rfl ?_
    refine l_cmp rfl rfl rfl rfl ?_
    refine l_op 0 rfl rfl rfl rfl rfl ?_
    refine l_guard rfl rfl rfl (fun hc8 => ?_) (fun hc8 => ?_)
    · first | replace hc8 := eq_of_beq ((irr_eq _).symm.trans hc8) | simp only [irr_eq, beq_iff_eq, beq_eq_false_iff_ne, ne_eq, decide_eq_true_eq, decide_eq_false_iff_not] at hc8
      refine l_op 0 rfl rfl rfl rfl rfl ?_
      refine l_callv rfl rfl (by kernel_rfl) rfl rfl num6_call ?_
      (try dsimp only [n_1, n_2, n_3, n_4, List.append_nil, pk, n_5, n_6] at F)
      refine l_cmp rfl rfl rfl rfl ?_
      refine l_op 2 rfl rfl rfl rfl rfl ?_
      refine l_op 0 rfl rfl rfl rfl rfl ?_
      refine l_guard rfl rfl rfl (fun hc9 => ?_) (fun hc9 => ?_)
      · first | replace hc9 := eq_of_beq ((irr_eq _).symm.trans hc9) | simp only [irr_eq, beq_iff_eq, beq_eq_false_iff_ne, ne_eq, decide_eq_true_eq, decide_eq_false_iff_not] at hc9
        refine l_op 0 rfl rfl rfl rfl rfl ?_
        refine l_op 0 rfl rfl rfl rfl rfl ?_
        have hl0 := memR (ts := ts) (i := 0) oth.pos
        have hld := h.dat _ hl0
        have hlb := h.byt _ hl0
        have hle := h.bd _ hl0
        have hnil : OldR E0 σ none 0 0 ([] : List RS) := Facts.oldR ((Facts.nil E0 σ).nilrow 4).nomany 0 1 rfl rfl (fun t ht => by cases ht)
        have hwant := OldR.app3 h hnil F 2 3 rfl rfl hy6 (Old.pure (F.old hld)) hlb hnum ⟨hle.1, hle.2.1, (by decide : (zzBA.size : Int) ≤ 140737488351232)⟩
        refine l_callp F rfl rfl (by kernel_rfl) rfl rfl (same6_call (Facts.oldR F 0 1 rfl rfl v2) hwant (by omega)) (fun z s F hz => ?_)
        obtain rfl : z = true := hz.2 (by
          rw [List.append_nil, List.map_append, er_pl hy6, v1]
          rfl)
        refine l_op 2 rfl rfl rfl rfl rfl ?_
        refine l_op 0 rfl rfl rfl rfl rfl ?_
        refine l_guard rfl rfl rfl (fun hc10 => ?_) (fun hc10 => ?_)
        · try simp only [irr_eq, beq_iff_eq, bne_iff_ne, beq_eq_false_iff_ne, bne_eq_false_iff_eq, ne_eq, decide_eq_true_eq, decide_eq_false_iff_not, Bool.not_eq_true', Bool.not_eq_false'] at hc10
          refine l_callp F rfl rfl (by kernel_rfl) rfl rfl live6_call (fun _ s F _ => ?_)
          (try dsimp only [n_1, n_2, n_3, n_4, List.append_nil, pk, n_5, n_6] at F)
          refine l_op 2 rfl rfl rfl rfl rfl ?_
          refine l_op 0 rfl rfl rfl rfl rfl ?_
          refine l_nil (WK.nx (by assumption) ?_)
          refine SeqK.nx (by assumption) ?_
          refine k_ret ?_
          refine FunK.rt (by assumption) rfl ?_
          -- leaf 6
          first
          | rfl
          | (simp_all; done)
        try simp only [irr_eq, beq_iff_eq, bne_iff_ne, beq_eq_false_iff_ne, bne_eq_false_iff_eq, ne_eq, decide_eq_true_eq, decide_eq_false_iff_not, Bool.not_eq_true', Bool.not_eq_false'] at hc10
        refine l_s rfl rfl ?_
        refine l_op 2 rfl rfl rfl rfl rfl ?_
        refine l_op 0 rfl rfl rfl rfl rfl ?_
        refine l_nil (WK.nx (by assumption) ?_)
        refine SeqK.nx (by assumption) ?_
        refine k_ret ?_
        refine FunK.rt (by assumption) rfl ?_
        -- leaf 7
        first
        | rfl
        | (simp_all; done)
      first | replace hc9 := ne_of_beq_false ((irr_eq _).symm.trans hc9) | simp only [irr_eq, beq_iff_eq, beq_eq_false_iff_ne, ne_eq, decide_eq_true_eq, decide_eq_false_iff_not] at hc9
      refine l_s rfl rfl ?_
      refine l_s rfl rfl ?_
      refine l_s rfl rfl ?_
      refine l_op 2 rfl rfl rfl rfl rfl ?_
      refine l_op 0 rfl rfl rfl rfl rfl ?_
      refine l_s rfl rfl ?_
      refine l_op 2 rfl rfl rfl rfl rfl ?_
      refine l_op 0 rfl rfl rfl rfl rfl ?_
      refine l_nil (WK.nx (by assumption) ?_)
      refine SeqK.nx (by assumption) ?_
      refine k_ret ?_
      refine FunK.rt (by assumption) rfl ?_
      -- leaf 8
      first
      | rfl
      | (simp_all; done)
    first | replace hc8 := ne_of_beq_false ((irr_eq _).symm.trans hc8) | simp only [irr_eq, beq_iff_eq, beq_eq_false_iff_ne, ne_eq, decide_eq_true_eq, decide_eq_false_iff_not] at hc8
    refine l_s rfl rfl ?_
    refine l_s rfl rfl ?_
    refine l_s rfl rfl ?_
    refine l_op 2 rfl rfl rfl rfl rfl ?_
    refine l_op 0 rfl rfl rfl rfl rfl ?_
    refine l_s rfl rfl ?_
    refine l_s rfl rfl ?_
    refine l_s rfl rfl ?_
    refine l_op 2 rfl rfl rfl rfl rfl ?_
    refine l_op 0 rfl rfl rfl rfl rfl ?_
    refine l_s rfl rfl ?_
    refine l_op 2 rfl rfl rfl rfl rfl ?_
    refine l_op 0 rfl rfl rfl rfl rfl ?_
    refine l_nil (WK.nx (by assumption) ?_)
    refine SeqK.nx (by assumption) ?_
    refine k_ret ?_
    refine FunK.rt (by assumption) rfl ?_
    -- leaf 9
    first
    | rfl
    | (simp_all; done)
  refine l_lit F rfl rfl rfl rfl (fun q154 s F => ?_)
  (try dsimp only [n_1, n_2, n_3, n_4, List.append_nil, pk, n_5, n_6] at F)
  refine l_callp F rfl rfl (by kernel_rfl) rfl rfl (copy_call (h.to F) (by omega) (by omega)) (fun y s F hy6 => ?_)
  (try dsimp only [n_1, n_2, n_3, n_4, List.append_nil, pk, n_5, n_6] at F)
  obtain ⟨x7, n7, d7, ws⟩ := y
  dsimp only [reaF] at F hy6 ⊢
  have hwl : ws.length = n7 := (F.has 4 rfl).len eR_len (by decide)
  have hwl2 := congrArg List.length hy6
  rw [List.length_map, List.length_map] at hwl2
  refine l_app (es := 4) F 4 rfl rfl rfl rfl rfl rfl rfl (F.has 2 rfl) rfl rfl (by omega) hD (fun x8 c8 s F => ?_)
  (try dsimp only [n_1, n_2, n_3, n_4, List.append_nil, pk, n_5, n_6] at F)
  have F0 : Facts E0 σ s [many (rs.map dR), own x4 n4 d4 4 (rows eR rs), many (ws.map dR), own x8 (n7 + 1) c8 4 (rows eR (ws ++ [⟨zzBA, num, (ts.getD 0 default).id, (ts.getD 0 default).x, (ts.getD 0 default).l, (ts.getD 0 default).c, (ts.getD 0 default).d⟩] ++ []))] := by
    rw [List.append_nil, rows_append]
    exact F.pick [0, 1, 3, 4] (by decide)
  clear F
  have F := F0
  clear F0
  refine l_op 0 rfl rfl rfl rfl rfl ?_
  refine l_nil (WK.nx (by assumption) ?_)
  refine SeqK.nx (by assumption) ?_
  refine k_seq (fun Q K => ?_)
  refine k_lin (fun W K => ?_)
  refine l_op 0 rfl rfl rfl rfl rfl ?_
  refine l_cmp rfl rfl rfl rfl ?_
  refine l_op 0 rfl rfl rfl rfl rfl ?_
  refine l_guard rfl rfl rfl (fun hc11 => ?_) (fun hc11 => ?_)
  · first | replace hc11 := eq_of_beq ((irr_eq _).symm.trans hc11) | simp only [irr_eq, beq_iff_eq, beq_eq_false_iff_ne, ne_eq, decide_eq_true_eq, decide_eq_false_iff_not] at hc11
    refine l_op 0 rfl rfl rfl rfl rfl ?_
    refine l_callv rfl rfl (by kernel_rfl) rfl rfl num6_call ?_
    (try dsimp only [n_1, n_2, n_3, n_4, List.append_nil, pk, n_5, n_6] at F)
    refine l_cmp rfl rfl rfl rfl ?_
    refine l_op 2 rfl rfl rfl rfl rfl ?_
    refine l_op 0 rfl rfl rfl rfl rfl ?_
    refine l_guard rfl rfl rfl (fun hc12 => ?_) (fun hc12 => ?_)
    · first | replace hc12 := eq_of_beq ((irr_eq _).symm.trans hc12) | simp only [irr_eq, beq_iff_eq, beq_eq_false_iff_ne, ne_eq, decide_eq_true_eq, decide_eq_false_iff_not] at hc12
      refine l_op 0 rfl rfl rfl rfl rfl ?_
      refine l_op 0 rfl rfl rfl rfl rfl ?_
      have hl0 := memR (ts := ts) (i := 0) oth.pos
      have hld := h.dat _ hl0
      have hlb := h.byt _ hl0
      have hle := h.bd _ hl0
      have hnil : OldR E0 σ none 0 0 ([] : List RS) := Facts.oldR ((Facts.nil E0 σ).nilrow 4).nomany 0 1 rfl rfl (fun t ht => by cases ht)
      have hwant := OldR.app3 h hnil F 2 3 rfl rfl hy6 (Old.pure (F.old hld)) hlb hnum ⟨hle.1, hle.2.1, (by decide : (zzBA.size : Int) ≤ 140737488351232)⟩
      refine l_callp F rfl rfl (by kernel_rfl) rfl rfl (same6_call (Facts.oldR F 0 1 rfl rfl v2) hwant (by omega)) (fun z s F hz => ?_)
      obtain rfl : z = true := hz.2 (by
        rw [List.append_nil, List.map_append, er_pl hy6, v1]
        rfl)
      refine l_op 2 rfl rfl rfl rfl rfl ?_
      refine l_op 0 rfl rfl rfl rfl rfl ?_
      refine l_guard rfl rfl rfl (fun hc13 => ?_) (fun hc13 => ?_)
      · try simp only [irr_eq, beq_iff_eq, bne_iff_ne, beq_eq_false_iff_ne, bne_eq_false_iff_eq, ne_eq, decide_eq_true_eq, decide_eq_false_iff_not, Bool.not_eq_true', Bool.not_eq_false'] at hc13
        refine l_callp F rfl rfl (by kernel_rfl) rfl rfl live6_call (fun _ s F _ => ?_)
        (try dsimp only [n_1, n_2, n_3, n_4, List.append_nil, pk, n_5, n_6] at F)
        refine l_op 2 rfl rfl rfl rfl rfl ?_
        refine l_op 0 rfl rfl rfl rfl rfl ?_
        refine l_nil (WK.nx (by assumption) ?_)
        refine SeqK.nx (by assumption) ?_
        refine k_ret ?_
        refine FunK.rt (by assumption) rfl ?_
        -- leaf 10
        first
        | rfl
        | (simp_all; done)
      try simp only [irr_eq, beq_iff_eq, bne_iff_ne, beq_eq_false_iff_ne, bne_eq_false_iff_eq, ne_eq, decide_eq_true_eq, decide_eq_false_iff_not, Bool.not_eq_true', Bool.not_eq_false'] at hc13
      refine l_s rfl rfl ?_
      refine l_op 2 rfl rfl rfl rfl rfl ?_
      refine l_op 0 rfl rfl rfl rfl rfl ?_
      refine l_nil (WK.nx (by assumption) ?_)
      refine SeqK.nx (by assumption) ?_
      refine k_ret ?_
      refine FunK.rt (by assumption) rfl ?_
      -- leaf 11
      first
      | rfl
      | (simp_all; done)
    first | replace hc12 := ne_of_beq_false ((irr_eq _).symm.trans hc12) | simp only [irr_eq, beq_iff_eq, beq_eq_false_iff_ne, ne_eq, decide_eq_true_eq, decide_eq_false_iff_not] at hc12
    refine l_s rfl rfl ?_
    refine l_s rfl rfl ?_
    refine l_s rfl rfl ?_
    refine l_op 2 rfl rfl rfl rfl rfl ?_
    refine l_op 0 rfl rfl rfl rfl rfl ?_
    refine l_s rfl rfl ?_
    refine l_op 2 rfl rfl rfl rfl rfl ?_
    refine l_op 0 rfl rfl rfl rfl rfl ?_
    refine l_nil (WK.nx (by assumption) ?_)
    refine SeqK.nx (by assumption) ?_
    refine k_ret ?_
    refine FunK.rt (by assumption) rfl ?_
    -- leaf 12
    first
    | rfl
    | (simp_all; done)
  first | replace hc11 := ne_of_beq_false ((irr_eq _).symm.trans hc11) | simp only [irr_eq, beq_iff_eq, beq_eq_false_iff_ne, ne_eq, decide_eq_true_eq, decide_eq_false_iff_not] at hc11
  refine l_s rfl rfl ?_
  refine l_s rfl rfl ?_
  refine l_s rfl rfl ?_
  refine l_op 2 rfl rfl rfl rfl rfl ?_
  refine l_op 0 rfl rfl rfl rfl rfl ?_
  refine l_s rfl rfl ?_
  refine l_s rfl rfl ?_
  refine l_s rfl rfl ?_
  refine l_op 2 rfl rfl rfl rfl rfl ?_
  refine l_op 0 rfl rfl rfl rfl rfl ?_
  refine l_s rfl rfl ?_
  refine l_op 2 rfl rfl rfl rfl rfl ?_
  refine l_op 0 rfl rfl rfl rfl rfl ?_
  refine l_nil (WK.nx (by assumption) ?_)
  refine SeqK.nx (by assumption) ?_
  refine k_ret ?_
  refine FunK.rt (by assumption) rfl ?_
  -- leaf 13
  first
  | rfl
  | (simp_all; done)

end Go.Proofs.Ytkmkbpnlccomnaa
