/- Frame, facts and contracts for CloseChecks. -/
import Derived.Test.YtjbfmocbophmlaaGreatCCloseChecksB
/- What the document's functions of layers 1 and 2 answer. -/
set_option linter.unusedVariables false
set_option linter.unusedSimpArgs false
set_option exponentiation.threshold 70
set_option maxRecDepth 20000
set_option maxHeartbeats 1000000
namespace Fw
open Go Go.Proofs
theorem c_ref01_Norm (l : List Nat) : Fn Tryz.prog 158 [kN.is l] (kN.is (limbs (nval l))) := by
 refine Con.enter Tryz.func158 rfl rfl fun m w => ST.fact (i := 0) rfl sl_len fun hB => ST.fact (i := 0) rfl kN_lims fun hL => Cr (Wa rfl (Wr (Wm rfl (Ws (O.lenS rfl U27) (Wa rfl (Wn (CW.seq (CW.block (CW.loop (fun (i : Nat) => i ≤ l.length ∧ nval (l.take i) = nval l) (fun (i : Nat) => [(0, kN.is l), (3, kN6.is (i : Int))]) (fun (i : Nat) => []) (fun (i : Nat) => i) l.length ⟨Nat.le_refl _, by rw [List.take_length]⟩ (Imp.cons rfl (Imp.consLe rfl (is_eq (y := ((l.length : Nat) : Int)) (by omega)) Imp.nil)) (OImp.refl _) ?_)))))))))
 intro i ⟨hi, hr⟩
 refine CW.seq (Cr (Wm rfl (Ws (O.gt rfl rfl) (Wm rfl ?_))))
 refine WP.splitD 10 rfl (fun h_t10 => ?_) (fun h_t10 => ?_)
 ·
  have h_t10' : 0 < i := by omega
  refine WP.s (.g rfl rfl) (O.mv rfl) (WP.s (.g rfl rfl) (O.mv rfl) (WP.s (.g rfl rfl) (O.sub rfl rfl (c := ((i : Int) - 1)) (w64 (by omega))) (WP.s (.g rfl rfl) (O.ix (i - 1) rfl rfl U27 ty93 (by omega) (v := (l.getD (i - 1) 0)) (gd 0 (by omega))) (WP.s (.g rfl rfl) (OpOk.le (O.ldP rfl ty93) (limb_le _)) (WP.s (.g rfl rfl) (O.eq rfl rfl) (Ws (O.pickT rfl rfl) (Wn ?_)))))))
  refine CW.condD rfl (fun h_t17 => ?_) (fun h_t17 => ?_)
  ·
   refine CW.skip (QE.next (CW.block (CW.region (Wm rfl (Ws (O.sub rfl rfl (c := ((i : Int) - 1)) (w64 (by omega))) (Wa rfl (WP.nil (QE.blkN ?_))))))))
   exact QE.round (i - 1) (by omega) ⟨by omega, (trim_down hi h_t10' (by rw [getD_take (by omega)]; exact h_t17)).trans hr⟩ (Imp.cons rfl (Imp.consLe rfl (is_eq (y := (((i - 1) : Nat) : Int)) (by omega)) Imp.nil)) (OImp.refl _)
  ·
   refine CW.exit (QE.thenE (QE.thenE (QE.blkH (QE.next (Cr (Wa rfl (Wn (CW.seq (Cr (Wa rfl (Wn (CW.block ?_))))))))))))
   have hlim : l.take i = limbs (nval l) := trim_stop hL hi h_t10' (by rw [getD_take (by omega)]; exact h_t17) hr
   refine ST.nilrow 93 kLimb (CW.loop2 (fun (j : Nat) (v : Value) => j ≤ i) (fun (j : Nat) (v : Value) => [(0, kN.is l), (3, kN6.is (i : Int)), (4, VP.ex v), (5, kN6.is (j : Int))]) (fun (j : Nat) (v : Value) => [OB.row v 93 kLimb (l.take j)]) (fun (j : Nat) (v : Value) => i - j) 0 (.slice none 0 0) (by omega) (Imp.cons rfl (Imp.cons rfl (Imp.cons rfl (Imp.consLe rfl (is_eq (y := (0 : Int)) (by omega)) Imp.nil)))) (OImp.os (OS.keepLe (OB.row_eq (by simp)) OS.nil)) ?_)
   intro j v hj
   have hx := getD_lt hL j
   have htl : (l.take j).length = j := by simp; omega
   refine CW.seq (Cr (Wm rfl (Wm rfl (Ws (O.lt rfl rfl) (Wn ?_)))))
   refine CW.condD rfl (fun h_t22 => ?_) (fun h_t22 => ?_)
   ·
    refine CW.skip (QE.next (CW.seq (CW.block (CW.region (Wm rfl (Wm rfl (Wm rfl (Ws (O.ix j rfl rfl U27 ty93 rfl (v := (l.getD j 0)) (gd 0 (by omega))) (Ws (OpOk.le (O.ldP rfl ty93) (limb_le _)) (Ws (O.bs U27 el93_limb (evl.l rfl (u32_limb (x := (l.getD j 0)) (by omega)) evl.n) rfl (by decide)) (WP.ap 0 .n rfl rfl rfl Lr U27 el93_limb (by simp; omega) fun v1 => Wa rfl (WP.nil (QE.blkN (QE.next (CW.region (Wm rfl (Ws (O.add rfl rfl (c := ((j : Int) + 1)) (w64 (by omega))) (Wa rfl (WP.nil (ST.obtold 0 rfl (OB.row_eq (ys := (l.take (j + 1))) (take_app1 (by omega))) ?_))))))))))))))))))))
    exact QE.round2 (j + 1) v1 (by omega) (by omega) (Imp.cons rfl (Imp.cons rfl (Imp.cons rfl (Imp.consLe rfl (is_eq (y := (((j + 1) : Nat) : Int)) (by omega)) Imp.nil)))) (OImp.refl _)
   ·
    refine CW.exit (QE.thenE (QE.thenE (QE.blkH (QE.next (Cr (Wm rfl (Wa rfl (Wn (CW.ret (ST.freeze 0 rfl (kp 0 rfl (.hit (i := 2) rfl (kp 3 rfl (.hit (i := 4) rfl (kp 5 rfl (kp 20 rfl (kp 21 rfl (kp 22 rfl (.hit (i := 32) rfl .nil))))))))) (ST.told 2 rfl (is_eq (y := (limbs (nval l))) (by rw [← hlim, show j = i from by omega])) ?_)))))))))))
    exact QE.done (.inl rfl) rfl (ResOk.t rfl ResOk.nil) (OImp.sub (List.nil_sublist _)) ⟨rfl, rfl⟩
 ·
  refine WP.k (b := false) rfl rfl (WP.k (b := false) rfl rfl (WP.k (b := false) rfl rfl (WP.k (b := false) rfl rfl (WP.k (b := false) rfl rfl (WP.k (b := false) rfl rfl (Ws (O.pickF rfl rfl) (Wn (CW.condF rfl (CW.exit (QE.thenE (QE.thenE (QE.blkH (QE.next (Cr (Wa rfl (Wn (CW.seq (Cr (Wa rfl ?_)))))))))))))))))))
  refine Wn (CW.block ?_)
  have hlim : l.take i = limbs (nval l) := trim_stop0 hr (by omega)
  refine ST.nilrow 93 kLimb (CW.loop2 (fun (j : Nat) (v : Value) => j ≤ i) (fun (j : Nat) (v : Value) => [(0, kN.is l), (3, kN6.is (i : Int)), (4, VP.ex v), (5, kN6.is (j : Int))]) (fun (j : Nat) (v : Value) => [OB.row v 93 kLimb (l.take j)]) (fun (j : Nat) (v : Value) => i - j) 0 (.slice none 0 0) (by omega) (Imp.cons rfl (Imp.cons rfl (Imp.cons rfl (Imp.consLe rfl (is_eq (y := (0 : Int)) (by omega)) Imp.nil)))) (OImp.os (OS.keepLe (OB.row_eq (by simp)) OS.nil)) ?_)
  intro j v hj
  have hx := getD_lt hL j
  have htl : (l.take j).length = j := by simp; omega
  refine CW.seq (Cr (Wm rfl (Wm rfl (Ws (O.lt rfl rfl) (Wn ?_)))))
  refine CW.condD rfl (fun h_t22 => ?_) (fun h_t22 => ?_)
  ·
   refine CW.skip (QE.next (CW.seq (CW.block (CW.region (Wm rfl (Wm rfl (Wm rfl (Ws (O.ix j rfl rfl U27 ty93 rfl (v := (l.getD j 0)) (gd 0 (by omega))) (Ws (OpOk.le (O.ldP rfl ty93) (limb_le _)) (Ws (O.bs U27 el93_limb (evl.l rfl (u32_limb (x := (l.getD j 0)) (by omega)) evl.n) rfl (by decide)) (WP.ap 0 .n rfl rfl rfl Lr U27 el93_limb (by simp; omega) fun v2 => Wa rfl (WP.nil (QE.blkN (QE.next (CW.region (Wm rfl (Ws (O.add rfl rfl (c := ((j : Int) + 1)) (w64 (by omega))) (Wa rfl (WP.nil (ST.obtold 0 rfl (OB.row_eq (ys := (l.take (j + 1))) (take_app1 (by omega))) ?_))))))))))))))))))))
   exact QE.round2 (j + 1) v2 (by omega) (by omega) (Imp.cons rfl (Imp.cons rfl (Imp.cons rfl (Imp.consLe rfl (is_eq (y := (((j + 1) : Nat) : Int)) (by omega)) Imp.nil)))) (OImp.refl _)
  ·
   refine CW.exit (QE.thenE (QE.thenE (QE.blkH (QE.next (Cr (Wm rfl (Wa rfl (Wn (CW.ret (ST.freeze 0 rfl (kp 0 rfl (.hit (i := 2) rfl (kp 3 rfl (.hit (i := 4) rfl (kp 5 rfl (kp 20 rfl (kp 21 rfl (kp 22 rfl (.hit (i := 32) rfl .nil))))))))) (ST.told 2 rfl (is_eq (y := (limbs (nval l))) (by rw [← hlim, show j = i from by omega])) ?_)))))))))))
   exact QE.done (.inl rfl) rfl (ResOk.t rfl ResOk.nil) (OImp.sub (List.nil_sublist _)) ⟨rfl, rfl⟩
theorem c_ref01_limb (l : List Nat) (i : Nat) : Fn Tryz.prog 246 [kN.is l, kN6.is (i : Int)] ((kInt .u64).is (l.getD i 0 : Int)) := by
 refine Con.enter Tryz.func246 rfl rfl fun m w => ST.fact (i := 0) rfl kN_lims fun hL => ?_
 have hx := getD_lt hL i
 refine Cr (Wa rfl (Wn (CW.seq (Cr (Wm rfl (Wm rfl (Ws (O.lenS rfl U27) (Ws (O.lt rfl rfl) (Wn ?_)))))))))
 refine CW.condD rfl (fun h_t8 => ?_) (fun h_t8 => ?_)
 ·
  refine Cr (Wm rfl (Wm rfl (Ws (O.ix i rfl rfl U27 ty93 rfl (v := (l.getD i 0)) (gd 0 (by omega))) (Ws (OpOk.le (O.ldP rfl ty93) (limb_le _)) (Ws (O.cvt rfl U93 U178 (c := ((l.getD i 0) : Int)) (wu64 (by omega))) (Wa rfl (Wn (CW.ret (QE.thenR ?_)))))))))
  exact QE.done (.inl rfl) rfl (ResOk.tl rfl (is_eq (y := (l.getD i 0 : Int)) (by omega)) ResOk.nil) (OImp.sub (List.nil_sublist _)) ⟨rfl, rfl⟩
 ·
  refine CW.skip (QE.next (Cr (Wa rfl (Wn (CW.ret ?_)))))
  exact QE.done (.inl rfl) rfl (ResOk.tl rfl (is_eq (y := (l.getD i 0 : Int)) (by rw [getD_out (by omega)]; rfl)) ResOk.nil) (OImp.sub (List.nil_sublist _)) ⟨rfl, rfl⟩
theorem c_ref01_most (a b : Int) : Fn Tryz.prog 245 [kN6.is a, kN6.is b] (kN6.is (max a b)) := by
 refine Con.enter Tryz.func245 rfl rfl fun m w => Cr (Wa rfl (Wn (CW.seq (Cr (Wm rfl (Wm rfl (Ws (O.gt rfl rfl) (Wn ?_))))))))
 refine CW.condD rfl (fun h_t7 => ?_) (fun h_t7 => ?_)
 ·
  refine Cr (Wm rfl (Wa rfl (Wn (CW.ret (QE.thenR ?_)))))
  exact QE.done (.inl rfl) rfl (ResOk.tl rfl (is_eq (y := max a b) (by omega)) ResOk.nil) (OImp.sub (List.nil_sublist _)) ⟨rfl, rfl⟩
 ·
  refine CW.skip (QE.next (Cr (Wm rfl (Wa rfl (Wn (CW.ret ?_))))))
  exact QE.done (.inl rfl) rfl (ResOk.tl rfl (is_eq (y := max a b) (by omega)) ResOk.nil) (OImp.sub (List.nil_sublist _)) ⟨rfl, rfl⟩
theorem c_ref01_Cmp (a b : List Nat) : Fn Tryz.prog 197 [kN.is a, kN.is b] (kN6.is (cmpI (nval a) (nval b))) := by
 refine Con.enter Tryz.func197 rfl rfl fun m w => ST.fact (i := 0) rfl sl_len fun hA => ST.fact (i := 1) rfl sl_len fun hB => ST.fact (i := 0) rfl kN_lims fun lA => ST.fact (i := 1) rfl kN_lims fun lB => Cr (Wa rfl (Wn (CW.seq (Cr (Wm rfl (Ws (O.lenS rfl U27) (Wm rfl (Ws (O.lenS rfl U27) (Ws (O.fn fn245 (evs.c rfl (evs.c rfl evs.nil)) (c_ref01_most (a.length : Int) (b.length : Int))) (Ws (O.sub rfl rfl (c := ((max (a.length : Int) (b.length : Int)) - 1)) (w64 (by omega))) (Wa rfl (Wn (CW.block (CW.loop (fun (i : Nat) => i ≤ max a.length b.length ∧ nval (a.drop i) = nval (b.drop i)) (fun (i : Nat) => [(0, kN.is a), (1, kN.is b), (5, kN6.is ((i : Int) - 1))]) (fun (i : Nat) => []) (fun (i : Nat) => i) (max a.length b.length) ⟨Nat.le_refl _, drop_max rfl⟩ (Imp.cons rfl (Imp.cons rfl (Imp.consLe rfl (is_eq (y := (((max a.length b.length) : Nat) : Int) - 1) (by omega)) Imp.nil))) (OImp.refl _) ?_))))))))))))))
 intro i ⟨hi, hd⟩
 refine CW.seq (Cr (Wm rfl (Ws (O.ge rfl rfl) (Wn ?_))))
 refine CW.condD rfl (fun h_t15 => ?_) (fun h_t15 => ?_)
 ·
  refine CW.skip (QE.next (CW.seq (CW.block (Cr (Wm rfl (Wm rfl (Ws (O.fn fn246 (evs.c rfl (evs.l rfl (is_eq (y := (((i - 1) : Nat) : Int)) (by omega)) evs.nil)) (c_ref01_limb a (i - 1))) (Wa rfl (Wr (Wm rfl (Wm rfl (Ws (O.fn fn246 (evs.c rfl (evs.l rfl (is_eq (y := (((i - 1) : Nat) : Int)) (by omega)) evs.nil)) (c_ref01_limb b (i - 1))) (Wa rfl (Wn (CW.seq (Cr (Wm rfl ?_)))))))))))))))))
  refine Wm rfl (Ws (O.lt rfl rfl) (Wn ?_))
  refine CW.condD rfl (fun h_t26 => ?_) (fun h_t26 => ?_)
  ·
   refine Cr (Wa rfl (Wn (CW.ret (QE.thenR (QE.blkR (QE.thenR (QE.thenR (QE.blkR (QE.thenR (ST.told 4 rfl (is_eq (y := (cmpI (nval a) (nval b))) (rcmp_lt (i := i) (by omega) hd lA (by omega))) ?_))))))))))
   exact QE.done (.inl rfl) rfl (ResOk.t rfl ResOk.nil) (OImp.sub (List.nil_sublist _)) ⟨rfl, rfl⟩
  ·
   refine CW.skip (QE.next (Cr (Wm rfl (Wm rfl (Ws (O.gt rfl rfl) (Wn ?_))))))
   refine CW.condD rfl (fun h_t29 => ?_) (fun h_t29 => ?_)
   ·
    refine Cr (Wa rfl (Wn (CW.ret (QE.blkR (QE.thenR (QE.thenR (QE.blkR (QE.thenR (ST.told 4 rfl (is_eq (y := (cmpI (nval a) (nval b))) (rcmp_gt (i := i) (by omega) hd lB (by omega))) ?_)))))))))
    exact QE.done (.inl rfl) rfl (ResOk.t rfl ResOk.nil) (OImp.sub (List.nil_sublist _)) ⟨rfl, rfl⟩
   ·
    refine CW.skip (QE.blkN (QE.next (CW.region (Wm rfl (Ws (O.sub rfl rfl (c := (((i : Int) - 1) - 1)) (w64 (by omega))) (Wa rfl (WP.nil ?_)))))))
    exact QE.round (i - 1) (by omega) ⟨by omega, rcmp_down (by omega) hd (by omega)⟩ (Imp.cons rfl (Imp.cons rfl (Imp.consLe rfl (is_eq (y := (((i - 1) : Nat) : Int) - 1) (by omega)) Imp.nil))) (OImp.refl _)
 ·
  refine CW.exit (QE.thenE (QE.thenE (QE.blkH (QE.next (Cr (Wa rfl (Wn (CW.ret (ST.told 4 rfl (is_eq (y := (cmpI (nval a) (nval b))) (rcmp_eq (i := i) (by omega) hd)) ?_)))))))))
  exact QE.done (.inl rfl) rfl (ResOk.t rfl ResOk.nil) (OImp.sub (List.nil_sublist _)) ⟨rfl, rfl⟩
theorem c_ref01_Bits (l : List Nat) : Fn Tryz.prog 125 [kN.is l] (kN6.is (bitlen (nval l) : Int)) := by
 refine Con.enter Tryz.func125 rfl rfl fun m w => ST.fact (i := 0) rfl sl_len fun hA => ST.fact (i := 0) rfl kN_lims fun hL => Cr (Wa rfl (Wn (CW.seq (Cr (Wm rfl (Ws (O.lenS rfl U27) (Ws (O.sub rfl rfl (c := ((l.length : Int) - 1)) (w64 (by omega))) (Wa rfl (Wn (CW.block (CW.loop (fun (i : Nat) => i ≤ l.length ∧ nval (l.drop i) = 0) (fun (i : Nat) => [(0, kN.is l), (3, kN6.is ((i : Int) - 1))]) (fun (i : Nat) => []) (fun (i : Nat) => i) l.length ⟨Nat.le_refl _, by rw [List.drop_length]; rfl⟩ (Imp.cons rfl (Imp.consLe rfl (is_eq (y := ((l.length : Nat) : Int) - 1) (by omega)) Imp.nil)) (OImp.refl _) ?_)))))))))))
 intro i ⟨hi, hd⟩
 refine CW.seq (Cr (Wm rfl (Ws (O.ge rfl rfl) (Wn ?_))))
 refine CW.condD rfl (fun h_t10 => ?_) (fun h_t10 => ?_)
 ·
  refine CW.skip (QE.next (CW.seq (CW.block (CW.seq ?_))))
  have hx := getD_lt hL (i - 1)
  have hbl := @bitlen_le (l.getD (i - 1) 0) 32 hx
  refine CW.region (Wm rfl (Wm rfl (Ws (O.ix (i - 1) rfl rfl U27 ty93 (by omega) (v := (l.getD (i - 1) 0)) (gd 0 (by omega))) (Ws (OpOk.le (O.ldP rfl ty93) (limb_le _)) (Ws (O.ne rfl rfl) (Wn ?_))))))
  refine CW.condD rfl (fun h_t17 => ?_) (fun h_t17 => ?_)
  ·
   refine Cr (Wm rfl (Ws (O.mul rfl rfl (c := (32 * ((i : Int) - 1))) (w64 (by omega))) (Wa rfl (Wn (CW.seq (Cr (Wm rfl (Wm rfl (Ws (O.ix (i - 1) rfl rfl U27 ty93 (by omega) (v := (l.getD (i - 1) 0)) (gd 0 (by omega))) (Ws (OpOk.le (O.ldP rfl ty93) (limb_le _)) (Wa rfl (Wn (CW.block (CW.loop2 (fun (n : Nat) (w : Nat) => n + bitlen w = 32 * (i - 1) + bitlen (l.getD (i - 1) 0) ∧ w < 4294967296) (fun (n : Nat) (w : Nat) => [(4, kN6.is (n : Int)), (5, (kInt .u32).is (w : Int))]) (fun (n : Nat) (w : Nat) => []) (fun (n : Nat) (w : Nat) => w) (32 * (i - 1)) (l.getD (i - 1) 0) ⟨rfl, hx⟩ (Imp.consLe rfl (is_eq (y := (((32 * (i - 1)) : Nat) : Int)) (by omega)) (Imp.consLe rfl (is_eq (y := (((l.getD (i - 1) 0) : Nat) : Int)) (by omega)) Imp.nil)) (OImp.refl _) ?_))))))))))))))
   intro n w ⟨hn, hw⟩
   refine CW.seq (Cr (Wm rfl (Ws (O.gt rfl rfl) (Wn ?_))))
   refine CW.condD rfl (fun h_t25 => ?_) (fun h_t25 => ?_)
   ·
    refine CW.skip (QE.next (CW.seq (CW.block (CW.region (Wm rfl (Ws (O.add rfl rfl (c := ((n : Int) + 1)) (w64 (by omega))) (Wa rfl (WP.nil (QE.blkN (QE.next (CW.region (Wm rfl (Ws (O.quo rfl rfl (by omega) (c := ((w / 2 : Nat) : Int)) (quoN32 2 rfl rfl hw)) (Wa rfl (WP.nil ?_)))))))))))))))
    exact QE.round2 (n + 1) (w / 2) (by omega) ⟨by have := @bitlen_half w (by omega); omega, by omega⟩ (Imp.consLe rfl (is_eq (y := (((n + 1) : Nat) : Int)) (by omega)) (Imp.consLe rfl (is_eq (y := (((w / 2) : Nat) : Int)) (by omega)) Imp.nil)) (OImp.refl _)
   ·
    refine CW.exit (QE.thenE (QE.thenE (QE.blkH (QE.next (Cr (Wm rfl (Wa rfl (Wn (CW.ret (QE.blkR (QE.thenR (QE.thenR (QE.blkR (QE.thenR ?_))))))))))))))
    have hw0 : bitlen w = 0 := bitlen_0.2 (by omega)
    refine ST.told 2 rfl (is_eq (y := (bitlen (nval l) : Int)) (by have := rbits_end hL (i := i) (by omega) hd (by omega); omega)) ?_
    exact QE.done (.inl rfl) rfl (ResOk.t rfl ResOk.nil) (OImp.sub (List.nil_sublist _)) ⟨rfl, rfl⟩
  ·
   refine CW.skip (QE.blkN (QE.next (CW.region (Wm rfl (Ws (O.sub rfl rfl (c := (((i : Int) - 1) - 1)) (w64 (by omega))) (Wa rfl (WP.nil ?_)))))))
   exact QE.round (i - 1) (by omega) ⟨by omega, rbits_down (by omega) hd (by omega)⟩ (Imp.cons rfl (Imp.consLe rfl (is_eq (y := (((i - 1) : Nat) : Int) - 1) (by omega)) Imp.nil)) (OImp.refl _)
 ·
  refine CW.exit (QE.thenE (QE.thenE (QE.blkH (QE.next (Cr (Wa rfl (Wn (CW.ret (ST.told 2 rfl (is_eq (y := (bitlen (nval l) : Int)) (rbits_0 (i := i) (by omega) hd)) ?_)))))))))
  exact QE.done (.inl rfl) rfl (ResOk.t rfl ResOk.nil) (OImp.sub (List.nil_sublist _)) ⟨rfl, rfl⟩
theorem c_ref01_Add (a b : List Nat) (hA : a.length < 1099511627776) (hB : b.length < 1099511627776) : Fn Tryz.prog 196 [kN.is a, kN.is b] (kN.is (limbs (nval a + nval b))) := by
 refine Con.enter Tryz.func196 rfl rfl fun m w => ST.fact (i := 0) rfl kN_lims fun lA => ST.fact (i := 1) rfl kN_lims fun lB => Cr (Wa rfl (Wr (Wa rfl (Wr (Wa rfl (Wn (CW.seq (Cr (Wa rfl (Wn ?_))))))))))
 refine CW.block (ST.nilrow 93 kLimb (CW.loop3 (fun (r : List Nat) (c : Nat) (v : Value) => r.length ≤ max a.length b.length ∧ AddR a b r c) (fun (r : List Nat) (c : Nat) (v : Value) => [(0, kN.is a), (1, kN.is b), (5, VP.ex v), (6, (kInt .u64).is (c : Int)), (7, kN6.is (r.length : Int))]) (fun (r : List Nat) (c : Nat) (v : Value) => [OB.row v 93 kLimb r]) (fun (r : List Nat) (c : Nat) (v : Value) => max a.length b.length - r.length) [] 0 (.slice none 0 0) ⟨Nat.zero_le _, addR_0 a b⟩ (Imp.cons rfl (Imp.cons rfl (Imp.cons rfl (Imp.consLe rfl (is_eq (y := (0 : Int)) (by omega)) (Imp.consLe rfl (is_eq (y := ([].length : Int)) (by simp)) Imp.nil))))) (OImp.refl _) ?_))
 intro r c v ⟨hr, hS⟩
 have hc := hS.2.1
 have hx := getD_lt lA r.length
 have hy := getD_lt lB r.length
 refine CW.seq (Cr (Wm rfl (Wm rfl (Ws (O.lenS rfl U27) (Wm rfl (Ws (O.lenS rfl U27) (Ws (O.fn fn245 (evs.c rfl (evs.c rfl evs.nil)) (c_ref01_most (a.length : Int) (b.length : Int))) (Ws (O.lt rfl rfl) (Wn ?_)))))))))
 refine CW.condD rfl (fun h_t14 => ?_) (fun h_t14 => ?_)
 ·
  refine CW.skip (QE.next (CW.seq (CW.block (Cr (Wm rfl (Wm rfl (Wm rfl (Ws (O.fn fn246 (evs.c rfl (evs.l rfl (is_eq (y := ((r.length : Nat) : Int)) (by omega)) evs.nil)) (c_ref01_limb a r.length)) (Ws (O.add rfl rfl (c := ((c : Int) + (a.getD r.length 0 : Int))) (wu64 (by omega))) (Wm rfl (Wm rfl (Ws (O.fn fn246 (evs.c rfl (evs.l rfl (is_eq (y := ((r.length : Nat) : Int)) (by omega)) evs.nil)) (c_ref01_limb b r.length)) (Ws (O.add rfl rfl (c := (((c : Int) + (a.getD r.length 0 : Int)) + (b.getD r.length 0 : Int))) (wu64 (by omega))) (Wa rfl (Wr (Wm rfl (Wm rfl (Ws (O.rem rfl rfl (by omega) (c := (((c + a.getD r.length 0 + b.getD r.length 0) % 4294967296 : Nat) : Int)) (tmodN 4294967296 (by omega) rfl)) (Ws (O.cvt rfl U178 U93 (c := (((c + a.getD r.length 0 + b.getD r.length 0) % 4294967296 : Nat) : Int)) (wrs32 (by omega))) ?_)))))))))))))))))))
  refine Ws (O.bs U27 el93_limb (evl.l rfl (u32_limb (x := ((c + a.getD r.length 0 + b.getD r.length 0) % 4294967296 : Nat)) (by omega)) evl.n) rfl (by decide)) (WP.ap 0 .n rfl rfl rfl Lr U27 el93_limb (by simp; omega) fun v1 => Wa rfl (Wn (CW.region (Wm rfl (Ws (O.quo rfl rfl (by omega) (c := (((c + a.getD r.length 0 + b.getD r.length 0) / 4294967296 : Nat) : Int)) (quoN 4294967296 (by omega) rfl (by omega))) (Wa rfl (WP.nil (QE.blkN (QE.next (CW.region (Wm rfl (Ws (O.add rfl rfl (c := ((r.length : Int) + 1)) (w64 (by omega))) (Wa rfl (WP.nil ?_))))))))))))))
  exact QE.round3 (r ++ [(c + a.getD r.length 0 + b.getD r.length 0) % 4294967296]) ((c + a.getD r.length 0 + b.getD r.length 0) / 4294967296) v1 (by simp; omega) ⟨by simp; omega, addR_s lA lB hS⟩ (Imp.cons rfl (Imp.cons rfl (Imp.cons rfl (Imp.consLe rfl (is_eq (y := ((((c + a.getD r.length 0 + b.getD r.length 0) / 4294967296) : Nat) : Int)) (by omega)) (Imp.consLe rfl (is_eq (y := ((r ++ [(c + a.getD r.length 0 + b.getD r.length 0) % 4294967296]).length : Int)) (by simp)) Imp.nil))))) (OImp.os (OS.keepLe (OB.row_eq (by simp)) OS.nil))
 ·
  refine CW.exit (QE.thenE (QE.thenE (QE.blkH (QE.next (Cr (Wm rfl (Wm rfl (Ws (O.cvt rfl U178 U93 (c := (c : Int)) (wrs32 (by omega))) (Ws (O.bs U27 el93_limb (evl.l rfl (u32_limb (x := c) (by omega)) evl.n) rfl (by decide)) (WP.ap 0 .n rfl rfl rfl Lr U27 el93_limb (by simp; omega) fun v2 => Wa rfl (Wr (Wm rfl (ST.freeze 0 rfl (kp 0 rfl (kp 1 rfl (.hit (i := 5) rfl (kp 6 rfl (kp 7 rfl (kp 8 rfl (kp 9 rfl (kp 10 rfl (kp 11 rfl (kp 12 rfl (kp 13 rfl (kp 14 rfl (kp 34 rfl (kp 35 rfl (kp 36 rfl (kp 37 rfl (.hit (i := 38) rfl (.hit (i := 39) rfl .nil)))))))))))))))))) (Ws (O.fn fn158 (evs.c rfl evs.nil) (c_ref01_Norm (r ++ [c]))) (Wa rfl (Wn (CW.ret ?_)))))))))))))))))
  refine ST.told 4 rfl (is_eq (y := (limbs (nval a + nval b))) (by rw [nval_concat, hS.2.2, List.take_of_length_le (by omega), List.take_of_length_le (by omega)])) ?_
  exact QE.done (.inl rfl) rfl (ResOk.t rfl ResOk.nil) (OImp.sub (List.nil_sublist _)) ⟨rfl, rfl⟩
theorem c_ref01_less (x y : List Nat) (hle : nval y ≤ nval x) : Fn Tryz.prog 247 [kN.is x, kN.is y] (kN.is (limbs (nval x - nval y))) := by
 refine Con.enter Tryz.func247 rfl rfl fun m w => ST.fact (i := 0) rfl kN_lims fun l1 => ST.fact (i := 1) rfl kN_lims fun l2 => ST.fact (i := 0) rfl sl_len fun hB => Cr (Wa rfl (Wr (Wa rfl (Wr (Wa rfl (Wn (CW.seq (Cr (Wa rfl (WP.nil ?_))))))))))
 refine QE.next (CW.block (ST.nilrow 93 kLimb (CW.loop3 (fun (r : List Nat) (c : Nat) (v : Value) => r.length ≤ x.length ∧ LessR x y r c) (fun (r : List Nat) (c : Nat) (v : Value) => [(0, kN.is x), (1, kN.is y), (5, VP.ex v), (6, (kInt .u64).is (c : Int)), (7, kN6.is (r.length : Int))]) (fun (r : List Nat) (c : Nat) (v : Value) => [OB.row v 93 kLimb r]) (fun (r : List Nat) (c : Nat) (v : Value) => x.length - r.length) [] 0 (.slice none 0 0) ⟨Nat.zero_le _, lessR_0 x y⟩ (Imp.cons rfl (Imp.cons rfl (Imp.cons rfl (Imp.consLe rfl (is_eq (y := (0 : Int)) (by omega)) (Imp.consLe rfl (is_eq (y := ([].length : Int)) (by simp)) Imp.nil))))) (OImp.refl _) ?_)))
 intro r c v ⟨hr, hS⟩
 have hc := hS.2.1
 have hx := getD_lt l1 r.length
 have hy := getD_lt l2 r.length
 refine CW.seq (Cr (Wm rfl (Wm rfl (Ws (O.lenS rfl U27) (Ws (O.lt rfl rfl) (Wn ?_))))))
 refine CW.condD rfl (fun h_t13 => ?_) (fun h_t13 => ?_)
 ·
  refine CW.skip (QE.next (CW.seq (CW.block (Cr (Wm rfl (Wm rfl (Ws (O.fn fn246 (evs.c rfl (evs.l rfl (is_eq (y := ((r.length : Nat) : Int)) (by omega)) evs.nil)) (c_ref01_limb x r.length)) (Wa rfl (Wr (Wm rfl (Wm rfl (Ws (O.fn fn246 (evs.c rfl (evs.l rfl (is_eq (y := ((r.length : Nat) : Int)) (by omega)) evs.nil)) (c_ref01_limb y r.length)) (Wm rfl (Ws (O.add rfl rfl (c := ((y.getD r.length 0 : Int) + (c : Int))) (wu64 (by omega))) (Wa rfl (Wr ?_))))))))))))))))
  refine Wa rfl (Wn (CW.seq (Cr (Wm rfl (Wm rfl (Ws (O.lt rfl rfl) (Wn ?_)))))))
  refine CW.condD rfl (fun h_t26 => ?_) (fun h_t26 => ?_)
  ·
   refine Cr (Wm rfl (Ws (O.add rfl rfl (c := ((x.getD r.length 0 : Int) + 4294967296)) (wu64 (by omega))) (Wa rfl (Wn (CW.region (Wa rfl (Wn (CW.region (Wm rfl (Wm rfl (Wm rfl (Ws (O.sub rfl rfl (c := (((x.getD r.length 0 : Int) + 4294967296) - ((y.getD r.length 0 : Int) + (c : Int)))) (wu64 (by omega))) (Ws (O.cvt rfl U178 U93 (c := ((x.getD r.length 0 + 4294967296 - (c + y.getD r.length 0) : Nat) : Int)) (wrs32 (by omega))) (Ws (O.bs U27 el93_limb (evl.l rfl (u32_limb (x := (x.getD r.length 0 + 4294967296 - (c + y.getD r.length 0) : Nat)) (by omega)) evl.n) rfl (by decide)) (WP.ap 0 .n rfl rfl rfl Lr U27 el93_limb (by simp; omega) fun v1 => Wa rfl (WP.nil (QE.blkN (QE.next (CW.region ?_)))))))))))))))))))
   refine Wm rfl (Ws (O.add rfl rfl (c := ((r.length : Int) + 1)) (w64 (by omega))) (Wa rfl (WP.nil ?_)))
   exact QE.round3 (r ++ [x.getD r.length 0 + 4294967296 - (c + y.getD r.length 0)]) 1 v1 (by simp; omega) ⟨by simp; omega, lessR_g hS (by omega) (by omega) (by omega)⟩ (Imp.cons rfl (Imp.cons rfl (Imp.cons rfl (Imp.consLe rfl (is_eq (y := (1 : Int)) (by omega)) (Imp.consLe rfl (is_eq (y := ((r ++ [x.getD r.length 0 + 4294967296 - (c + y.getD r.length 0)]).length : Int)) (by simp)) Imp.nil))))) (OImp.os (OS.keepLe (OB.row_eq (by simp)) OS.nil))
  ·
   refine CW.skip (QE.next (CW.region (Wm rfl (Wm rfl (Wm rfl (Ws (O.sub rfl rfl (c := ((x.getD r.length 0 : Int) - ((y.getD r.length 0 : Int) + (c : Int)))) (wu64 (by omega))) (Ws (O.cvt rfl U178 U93 (c := ((x.getD r.length 0 - (c + y.getD r.length 0) : Nat) : Int)) (wrs32 (by omega))) (Ws (O.bs U27 el93_limb (evl.l rfl (u32_limb (x := (x.getD r.length 0 - (c + y.getD r.length 0) : Nat)) (by omega)) evl.n) rfl (by decide)) (WP.ap 0 .n rfl rfl rfl Lr U27 el93_limb (by simp; omega) fun v2 => Wa rfl (WP.nil (QE.blkN (QE.next (CW.region (Wm rfl (Ws (O.add rfl rfl (c := ((r.length : Int) + 1)) (w64 (by omega))) (Wa rfl (WP.nil ?_)))))))))))))))))
   exact QE.round3 (r ++ [x.getD r.length 0 - (c + y.getD r.length 0)]) 0 v2 (by simp; omega) ⟨by simp; omega, lessR_g hS (by omega) (by omega) (by omega)⟩ (Imp.cons rfl (Imp.cons rfl (Imp.cons rfl (Imp.consLe rfl (is_eq (y := (0 : Int)) (by omega)) (Imp.consLe rfl (is_eq (y := ((r ++ [x.getD r.length 0 - (c + y.getD r.length 0)]).length : Int)) (by simp)) Imp.nil))))) (OImp.os (OS.keepLe (OB.row_eq (by simp)) OS.nil))
 ·
  refine CW.exit (QE.thenE (QE.thenE (QE.blkH (QE.next (Cr (Wm rfl (ST.freeze 0 rfl (kp 0 rfl (kp 1 rfl (.hit (i := 5) rfl (kp 6 rfl (kp 7 rfl (kp 10 rfl (kp 11 rfl (kp 12 rfl (kp 13 rfl (.hit (i := 36) rfl .nil)))))))))) (Ws (O.fn fn158 (evs.c rfl evs.nil) (c_ref01_Norm r)) (Wa rfl (Wn (CW.ret ?_)))))))))))
  have hrx : r.length = x.length := by omega
  refine ST.told 4 rfl (is_eq (y := (limbs (nval x - nval y))) (by rw [lessR_end' hS hrx l1 l2 hle])) ?_
  exact QE.done (.inl rfl) rfl (ResOk.t rfl ResOk.nil) (OImp.sub (List.nil_sublist _)) ⟨rfl, rfl⟩
theorem c_ref01_Sub (a b : List Nat) : Fn Tryz.prog 198 [kN.is a, kN.is b] (VP.tup [kN.is (if nval a < nval b then [] else limbs (nval a - nval b)), kN6.is (if nval a < nval b then 10 else 0)]) := by
 refine Con.enter Tryz.func198 rfl rfl fun m w => Cr (Wa rfl (Wa rfl (Wn (CW.seq (Cr (Wm rfl (Wm rfl (Ws (O.fn fn197 (evs.c rfl (evs.c rfl evs.nil)) (c_ref01_Cmp a b)) (Ws (O.lt rfl rfl) (Wn ?_))))))))))
 refine CW.condD rfl (fun h_t9 => ?_) (fun h_t9 => ?_)
 ·
  refine Cr (Wa rfl (Wa rfl (Wn (CW.ret (QE.thenR (ST.told (q := kN.is ([] : List Nat)) 4 rfl (nil_le _) (ST.told 4 rfl (is_eq (y := (if nval a < nval b then [] else limbs (nval a - nval b))) (by rw [if_pos (cmpI_lt h_t9)])) (ST.told 5 rfl (is_eq (y := (if nval a < nval b then 10 else 0)) (by rw [if_pos (cmpI_lt h_t9)])) ?_))))))))
  exact QE.done (.inl rfl) rfl (ResOk.t rfl (ResOk.t rfl ResOk.nil)) (OImp.sub (List.nil_sublist _)) ⟨rfl, rfl⟩
 ·
  refine CW.skip (QE.next (Cr (Wm rfl (Wm rfl (Ws (O.fn fn247 (evs.c rfl (evs.c rfl evs.nil)) (c_ref01_less a b (cmpI_ge h_t9))) (Wa rfl (Wa rfl (Wn (CW.ret (ST.told 4 rfl (is_eq (y := (if nval a < nval b then [] else limbs (nval a - nval b))) (by rw [if_neg (Nat.not_lt.2 (cmpI_ge h_t9))])) (ST.told 5 rfl (is_eq (y := (if nval a < nval b then 10 else 0)) (by rw [if_neg (Nat.not_lt.2 (cmpI_ge h_t9))])) ?_)))))))))))
  exact QE.done (.inl rfl) rfl (ResOk.t rfl (ResOk.t rfl ResOk.nil)) (OImp.sub (List.nil_sublist _)) ⟨rfl, rfl⟩
theorem c_ref02_made (b : Bool) (l : List Nat) : Fn Tryz.prog 139 [kBool.is b, kN.is l] (kC.is (ival (b, l))) := by
 refine Con.enter Tryz.func139 rfl rfl fun m w => Cr (WP.al .n z29_C fun b1 => Wr (Wm rfl (Ws (O.fn fn158 (evs.c rfl evs.nil) (c_ref01_Norm l)) (Wa rfl (Wr (Wm rfl (Wm rfl ?_)))))))
 refine WP.split 9 rfl (fun h_t9 => ?_) (fun h_t9 => ?_)
 ·
  refine WP.s (.g rfl rfl) (O.mv rfl) (WP.s (.g rfl rfl) (O.lenS rfl U27) (WP.s (.g rfl rfl) (O.gt rfl rfl) (Ws (O.pickT rfl rfl) (Wm rfl (Ws (O.bld lit29_I rfl (evp.c rfl (evp.c rfl evp.n)) (.cons rfl (Lens.fst Li) (.cons rfl (Lens.snd Li) (.nil _)))) (WP.t .n (O.stW (l := kI) (u := (decide (0 < ((limbs (nval l)).length : Int)), limbs (nval l))) 0 rfl rfl rfl ty29 rfl Lr) (Wn (CW.ret (ST.obtold (b' := OB.box b1 29 kC (ival (b, l))) 0 rfl (OB.I_C (by have := @canon_of' b l; simp_all)) ?_)))))))))
  exact QE.done (.inl rfl) rfl (ResOk.c rfl (mem_at 0 rfl) ty29 ResOk.nil) (OImp.sub (List.nil_sublist _)) ⟨rfl, rfl⟩
 ·
  refine WP.k (b := false) rfl rfl (WP.k (b := false) rfl rfl (WP.k (b := false) rfl rfl (Ws (O.pickF rfl rfl) (Wm rfl (Ws (O.bld lit29_I rfl (evp.c rfl (evp.c rfl evp.n)) (.cons rfl (Lens.fst Li) (.cons rfl (Lens.snd Li) (.nil _)))) (WP.t .n (O.stW (l := kI) (u := (false, limbs (nval l))) 0 rfl rfl rfl ty29 rfl Lr) (Wn (CW.ret (ST.obtold (b' := OB.box b1 29 kC (ival (b, l))) 0 rfl (OB.I_C (by have := @canon_of' b l; simp_all)) ?_)))))))))
  exact QE.done (.inl rfl) rfl (ResOk.c rfl (mem_at 0 rfl) ty29 ResOk.nil) (OImp.sub (List.nil_sublist _)) ⟨rfl, rfl⟩
theorem c_ref02_Of (n : Int) : Fn Tryz.prog 77 [kI64.is n] (kC.is n) := by
 refine Con.enter Tryz.func77 rfl rfl fun m w => ST.fact (i := 0) rfl int_rng fun hn => ST.told (q := kN6.is n) 0 rfl (i64_le _) (Cr (WP.al .n z29_C fun b1 => Wr (Wm rfl (Ws (O.cvt rfl U2 U178 rfl) (Wa rfl (Wn (CW.seq (Cr (Wm rfl (Ws (O.lt rfl rfl) (Wn ?_)))))))))))
 refine CW.condD rfl (fun h_t7 => ?_) (fun h_t7 => ?_)
 ·
  refine CW.region (Wm rfl (Ws (O.neg rfl (c := ((n.natAbs : Nat) : Int)) (of_neg h_t7 hn.1)) (Wa rfl (Wr (Wm rfl (Ws (O.lt rfl rfl) (Wm rfl (Ws (O.cvt rfl U178 U93 (c := ((n.natAbs % 4294967296 : Nat) : Int)) (wr32 rfl)) (Wm rfl (Ws (O.shr rfl rfl (by omega) (c := ((n.natAbs / 2 ^ 32 : Nat) : Int)) (shrN 32 rfl rfl (by decide))) (Ws (O.cvt rfl U178 U93 (c := ((n.natAbs / 2 ^ 32 : Nat) : Int)) (wrs32 (by omega))) (Ws (O.bs U27 el93_limb (evl.l rfl (u32_limb (x := (n.natAbs % 4294967296 : Nat)) (by omega)) (evl.l rfl (u32_limb (x := (n.natAbs / 2 ^ 32 : Nat)) (by omega)) evl.n)) rfl (by decide)) (Ws (O.fn fn139 (evs.c rfl (evs.c rfl evs.nil)) (c_ref02_made (decide (n < 0)) [(n.natAbs % 4294967296 : Nat), (n.natAbs / 2 ^ 32 : Nat)])) (WP.t .n (O.stW (l := kC) (u := ival ((decide (n < 0)), [(n.natAbs % 4294967296 : Nat), (n.natAbs / 2 ^ 32 : Nat)])) 0 rfl rfl rfl ty29 rfl Lr) (Wn (CW.ret (ST.obtold 0 rfl (OB.box_eq (y := n) of_val) ?_)))))))))))))))))
  exact QE.done (.inl rfl) rfl (ResOk.c rfl (mem_at 0 rfl) ty29 ResOk.nil) (OImp.sub (List.nil_sublist _)) ⟨rfl, rfl⟩
 ·
  refine ST.told 3 rfl (is_eq (y := ((n.natAbs : Nat) : Int)) (of_pos h_t7 hn.2)) (CW.skip (QE.next (Cr (Wm rfl (Ws (O.lt rfl rfl) (Wm rfl (Ws (O.cvt rfl U178 U93 (c := ((n.natAbs % 4294967296 : Nat) : Int)) (wr32 rfl)) (Wm rfl (Ws (O.shr rfl rfl (by omega) (c := ((n.natAbs / 2 ^ 32 : Nat) : Int)) (shrN 32 rfl rfl (by decide))) (Ws (O.cvt rfl U178 U93 (c := ((n.natAbs / 2 ^ 32 : Nat) : Int)) (wrs32 (by omega))) (Ws (O.bs U27 el93_limb (evl.l rfl (u32_limb (x := (n.natAbs % 4294967296 : Nat)) (by omega)) (evl.l rfl (u32_limb (x := (n.natAbs / 2 ^ 32 : Nat)) (by omega)) evl.n)) rfl (by decide)) (Ws (O.fn fn139 (evs.c rfl (evs.c rfl evs.nil)) (c_ref02_made (decide (n < 0)) [(n.natAbs % 4294967296 : Nat), (n.natAbs / 2 ^ 32 : Nat)])) (WP.t .n (O.stW (l := kC) (u := ival ((decide (n < 0)), [(n.natAbs % 4294967296 : Nat), (n.natAbs / 2 ^ 32 : Nat)])) 0 rfl rfl rfl ty29 rfl Lr) (Wn (CW.ret (ST.obtold 0 rfl (OB.box_eq (y := n) of_val) ?_))))))))))))))))
  exact QE.done (.inl rfl) rfl (ResOk.c rfl (mem_at 0 rfl) ty29 ResOk.nil) (OImp.sub (List.nil_sublist _)) ⟨rfl, rfl⟩
theorem c_ref02_Sign (z : Int) : Fn Tryz.prog 88 [kZ.is z] (kN6.is z.sign) := by
 refine Con.enter Tryz.func88 rfl rfl fun m w => ST.z 0 rfl fun y y_v y_n y_l => Cr (WP.bx .n rfl fun b1 => Wa rfl (Wr (Ws (O.fa rfl fld29_1 rfl) (Ws (O.ld rfl (mem_at 0 rfl) (Lens.snd Li) ty27 rfl) (Ws (O.fn fn158 (evs.c rfl evs.nil) (c_ref01_Norm y.2)) (Wa rfl (Wn (CW.seq (CW.block (Cr (Wm rfl (Ws (O.lenS rfl U27) (Ws (O.eq rfl rfl) (Wa rfl ?_))))))))))))))
 refine Wn ?_
 refine CW.condD rfl (fun h_t7 => ?_) (fun h_t7 => ?_)
 ·
  refine Cr (Wa rfl (Wn (CW.ret (QE.blkR (QE.thenR (ST.told 2 rfl (is_eq (y := z.sign) (by rw [← y_v, ival0 (limbs0 (by omega))]; rfl)) ?_))))))
  exact QE.done (.inl rfl) rfl (ResOk.t rfl ResOk.nil) (OImp.sub (List.nil_sublist _)) ⟨rfl, rfl⟩
 ·
  refine Cr (Ws (O.fa rfl fld29_0 rfl) (Ws (O.ld rfl (mem_at 0 rfl) (Lens.fst Li) ty4 rfl) (Wa rfl (Wn ?_))))
  refine CW.cond rfl (fun h_t11 => ?_) (fun h_t11 => ?_)
  ·
   refine Cr (Wa rfl (Wn (CW.ret (QE.blkR (QE.thenR (ST.told 2 rfl (is_eq (y := z.sign) (by rw [← y_v]; exact rsign_neg (by omega) h_t11)) ?_))))))
   exact QE.done (.inl rfl) rfl (ResOk.t rfl ResOk.nil) (OImp.sub (List.nil_sublist _)) ⟨rfl, rfl⟩
  ·
   refine CW.skip (QE.blkN (QE.next (Cr (Wa rfl (Wn (CW.ret (ST.told 2 rfl (is_eq (y := z.sign) (by rw [← y_v]; exact rsign_pos (by omega) h_t11)) ?_)))))))
   exact QE.done (.inl rfl) rfl (ResOk.t rfl ResOk.nil) (OImp.sub (List.nil_sublist _)) ⟨rfl, rfl⟩
theorem c_ref02_Bits (z : Int) : Fn Tryz.prog 61 [kZ.is z] (kN6.is (bitlen z.natAbs : Int)) := by
 refine Con.enter Tryz.func61 rfl rfl fun m w => ST.z 0 rfl fun y y_v y_n y_l => Cr (WP.bx .n rfl fun b1 => Wa rfl (Wr (Ws (O.fa rfl fld29_1 rfl) (Ws (O.ld rfl (mem_at 0 rfl) (Lens.snd Li) ty27 rfl) (Ws (O.fn fn125 (evs.c rfl evs.nil) (c_ref01_Bits y.2)) (Wa rfl (Wn (CW.ret (ST.told 2 rfl (is_eq (y := (bitlen z.natAbs : Int)) (by rw [← y_v, ival_abs])) ?_)))))))))
 exact QE.done (.inl rfl) rfl (ResOk.t rfl ResOk.nil) (OImp.sub (List.nil_sublist _)) ⟨rfl, rfl⟩
theorem c_ref02_Add (x y : Int) : Fn Tryz.prog 127 [kZ.is x, kZ.is y] (kC.is (x + y)) := by
 refine Con.enter Tryz.func127 rfl rfl fun m w => ST.z 0 rfl fun p p_v p_n p_l => ST.z 1 rfl fun q q_v q_n q_l => Cr (WP.bx .n rfl fun b1 => WP.bx .n rfl fun b2 => WP.al .n z29_C fun b3 => Wn (CW.seq (Cr (Ws (O.fa rfl fld29_0 rfl) (Ws (O.ld rfl (mem_at 2 rfl) (Lens.fst Li) ty4 rfl) (Ws (O.fa rfl fld29_0 rfl) (Ws (O.ld rfl (mem_at 1 rfl) (Lens.fst Li) ty4 rfl) (Ws (O.eqB rfl rfl U4) (Wn ?_)))))))))
 refine CW.condD rfl (fun h_t13 => ?_) (fun h_t13 => ?_)
 ·
  refine CW.seq ?_
  refine CW.drawM (Γ := [.fr (VP.pt b1 0), .fr (kBool.is p.1), .fr (VP.pt b1 1), .fr (kN.is p.2), .fr (VP.pt b2 1), .fr (kN.is q.2), .fr (kN.is (limbs (nval p.2 + nval q.2))), .fr (kC.is (ival (p.1, (limbs (nval p.2 + nval q.2)))))]) (of_ rfl (fun N => O.fa rfl fld29_0 rfl) (of_ rfl (fun N => O.ld rfl (mem_app N (mem_at 2 rfl)) (Lens.fst Li) ty4 rfl) (of_ rfl (fun N => O.fa rfl fld29_1 rfl) (of_ rfl (fun N => O.ld rfl (mem_app N (mem_at 2 rfl)) (Lens.snd Li) ty27 rfl) (of_ rfl (fun N => O.fa rfl fld29_1 rfl) (of_ rfl (fun N => O.ld rfl (mem_app N (mem_at 1 rfl)) (Lens.snd Li) ty27 rfl) (of_ rfl (fun N => O.fn fn196 (evs.c rfl (evs.c rfl evs.nil)) (c_ref01_Add p.2 q.2 (by omega) (by omega))) (of_ rfl (fun N => O.fn fn139 (evs.c rfl (evs.c rfl evs.nil)) (c_ref02_made p.1 (limbs (nval p.2 + nval q.2)))) oz)))))))) (fun σ => ?_)
  refine WP.t .n (O.stW (l := kC) (u := ival (p.1, (limbs (nval p.2 + nval q.2)))) 0 rfl rfl rfl ty29 rfl Lr) (Wn (CW.ret (QE.thenR ?_)))
  exact QE.done (.inl rfl) rfl (ResOk.cl rfl (mem_at 0 rfl) ty29 (is_eq (y := x + y) (by rw [← p_v, ← q_v]; first | exact add_same h_t13 | exact radd_ge h_t13 h_t27 | exact radd_lt h_t13 h_t27)) ResOk.nil) (OImp.sub (List.nil_sublist _)) ⟨rfl, rfl⟩
 ·
  refine CW.skip (QE.next (CW.seq (Cr (Ws (O.fa rfl fld29_1 rfl) (Ws (O.ld rfl (mem_at 2 rfl) (Lens.snd Li) ty27 rfl) (Ws (O.fa rfl fld29_1 rfl) (Ws (O.ld rfl (mem_at 1 rfl) (Lens.snd Li) ty27 rfl) (Ws (O.fn fn197 (evs.c rfl (evs.c rfl evs.nil)) (c_ref01_Cmp p.2 q.2)) (Ws (O.ge rfl rfl) (Wn ?_))))))))))
  refine CW.condD rfl (fun h_t27 => ?_) (fun h_t27 => ?_)
  ·
   refine Cr (Ws (O.fa rfl fld29_1 rfl) (Ws (O.ld rfl (mem_at 2 rfl) (Lens.snd Li) ty27 rfl) (Ws (O.fa rfl fld29_1 rfl) (Ws (O.ld rfl (mem_at 1 rfl) (Lens.snd Li) ty27 rfl) (Ws (O.fn fn198 (evs.c rfl (evs.c rfl evs.nil)) (c_ref01_Sub p.2 q.2)) (Wm rfl (Ws (O.ext rfl rfl) (Ws (O.ext rfl rfl) (Wa rfl (Wa rfl (Wr (Ws (O.fa rfl fld29_0 rfl) (Ws (O.ld rfl (mem_at 2 rfl) (Lens.fst Li) ty4 rfl) (Wm rfl (Ws (O.fn fn139 (evs.c rfl (evs.c rfl evs.nil)) (c_ref02_made p.1 (if nval p.2 < nval q.2 then [] else limbs (nval p.2 - nval q.2)))) (WP.t .n (O.stW (l := kC) (u := ival (p.1, (if nval p.2 < nval q.2 then [] else limbs (nval p.2 - nval q.2)))) 0 rfl rfl rfl ty29 rfl Lr) (Wn (CW.ret ?_))))))))))))))))))
   refine QE.thenR ?_
   exact QE.done (.inl rfl) rfl (ResOk.cl rfl (mem_at 0 rfl) ty29 (is_eq (y := x + y) (by rw [← p_v, ← q_v]; first | exact add_same h_t13 | exact radd_ge h_t13 h_t27 | exact radd_lt h_t13 h_t27)) ResOk.nil) (OImp.sub (List.nil_sublist _)) ⟨rfl, rfl⟩
  ·
   refine CW.skip (QE.next (Cr (Ws (O.fa rfl fld29_1 rfl) (Ws (O.ld rfl (mem_at 1 rfl) (Lens.snd Li) ty27 rfl) (Ws (O.fa rfl fld29_1 rfl) (Ws (O.ld rfl (mem_at 2 rfl) (Lens.snd Li) ty27 rfl) (Ws (O.fn fn198 (evs.c rfl (evs.c rfl evs.nil)) (c_ref01_Sub q.2 p.2)) (Wm rfl (Ws (O.ext rfl rfl) (Ws (O.ext rfl rfl) (Wa rfl (Wa rfl (Wr (Ws (O.fa rfl fld29_0 rfl) (Ws (O.ld rfl (mem_at 1 rfl) (Lens.fst Li) ty4 rfl) (Wm rfl (Ws (O.fn fn139 (evs.c rfl (evs.c rfl evs.nil)) (c_ref02_made q.1 (if nval q.2 < nval p.2 then [] else limbs (nval q.2 - nval p.2)))) (WP.t .n (O.stW (l := kC) (u := ival (q.1, (if nval q.2 < nval p.2 then [] else limbs (nval q.2 - nval p.2)))) 0 rfl rfl rfl ty29 rfl Lr) (WP.nil ?_)))))))))))))))))))
   refine QE.next (CW.ret ?_)
   exact QE.done (.inl rfl) rfl (ResOk.cl rfl (mem_at 0 rfl) ty29 (is_eq (y := x + y) (by rw [← p_v, ← q_v]; first | exact add_same h_t13 | exact radd_ge h_t13 h_t27 | exact radd_lt h_t13 h_t27)) ResOk.nil) (OImp.sub (List.nil_sublist _)) ⟨rfl, rfl⟩
end Fw
/- What the helpers of the statements on layer 24 answer. -/
set_option linter.unusedVariables false
set_option linter.unusedSimpArgs false
set_option exponentiation.threshold 70
namespace Fw
open Go Go.Proofs
end Fw
/- Which weights may be; the sum of a block. -/
set_option linter.unusedVariables false
set_option linter.unusedSimpArgs false
set_option exponentiation.threshold 70
namespace Fw
open Go Go.Proofs
end Fw
/- Plain facts on limbs: products, quotients by one limb, shifts. -/
set_option linter.unusedVariables false
set_option linter.unusedSimpArgs false
set_option exponentiation.threshold 70
namespace Fw
open Go (IntKind)
theorem nval_set {l : List Nat} {k d : Nat} (h : k < l.length) : nval (l.set k d) + 4294967296 ^ k * l.getD k 0 = nval l + 4294967296 ^ k * d := by
  have h1 := split_at (l := l) (i := k + 1) (by omega) (by omega)
  have h2 := split_at (l := l.set k d) (i := k + 1) (by simp; omega) (by omega)
  simp only [Nat.add_sub_cancel] at h1 h2
  rw [List.take_set_of_le (by omega), List.drop_set_of_lt (by omega)] at h2
  have h3 : (l.set k d).getD k 0 = d := by
    rw [List.getD_eq_getElem?_getD, List.getElem?_set_self h]; rfl
  rw [h3] at h2
  rw [h1, h2, Nat.mul_add, Nat.mul_add]
  omega
theorem getD_set_ne' {l : List Nat} {k j d : Nat} (h : k ≠ j) : (l.set k d).getD j 0 = l.getD j 0 := by
  rw [List.getD_eq_getElem?_getD, List.getElem?_set_ne h, ← List.getD_eq_getElem?_getD]
theorem Lims.set {l : List Nat} {k d : Nat} (h : Lims l) (hd : d < 4294967296) : Lims (l.set k d) := fun x hx => by
  rcases List.mem_or_eq_of_mem_set hx with hx | rfl
  · exact h x hx
  · exact hd
theorem mul_bd {a b : Nat} (ha : a < 4294967296) (hb : b < 4294967296) : a * b ≤ 18446744065119617025 := by
  have : a * b ≤ 4294967295 * 4294967295 := Nat.mul_le_mul (by omega) (by omega)
  omega
def MulO (A B row : List Nat) (i : Nat) : Prop := Lims row ∧ row.length = A.length + B.length ∧ nval row = nval (A.take i) * nval B ∧ ∀ p, i + B.length ≤ p → row.getD p 0 = 0
def MulI (A B row : List Nat) (i j c : Nat) : Prop := Lims row ∧ row.length = A.length + B.length ∧ c < 4294967296 ∧ nval row + 4294967296 ^ (i + j) * c = nval (A.take i) * nval B + 4294967296 ^ i * (A.getD i 0 * nval (B.take j)) ∧ ∀ p, i + B.length ≤ p → row.getD p 0 = 0
theorem mulO_0 (A B : List Nat) : MulO A B (List.replicate (A.length + B.length) 0) 0 := by
  refine ⟨fun x hx => ?_, by simp, by simp [nval_replicate0, nval], fun p hp => ?_⟩
  · have := (List.mem_replicate.1 hx).2; omega
  · rw [List.getD_eq_getElem?_getD, List.getElem?_replicate]; split <;> rfl
theorem mulI_0 {A B row : List Nat} {i : Nat} (h : MulO A B row i) : MulI A B row i 0 0 := by
  obtain ⟨h1, h2, h3, h4⟩ := h
  exact ⟨h1, h2, by omega, by simp [nval, h3], h4⟩
theorem mulI_s {A B row : List Nat} {i j c : Nat} (lA : Lims A) (lB : Lims B) (hi : i < A.length) (hj : j < B.length) (h : MulI A B row i j c) : MulI A B (row.set (i + j) ((c + (A.getD i 0 * B.getD j 0 + row.getD (i + j) 0)) % 4294967296)) i (j + 1) ((c + (A.getD i 0 * B.getD j 0 + row.getD (i + j) 0)) / 2 ^ 32) := by
  obtain ⟨h1, h2, h3, h4, h5⟩ := h
  have a1 := getD_lt h1 (i + j)
  have a2 := mul_bd (getD_lt lA i) (getD_lt lB j)
  generalize hs : c + (A.getD i 0 * B.getD j 0 + row.getD (i + j) 0) = s
  have hset := nval_set (l := row) (k := i + j) (d := s % 4294967296) (by omega)
  refine ⟨h1.set (by omega), by simpa using h2, by omega, ?_, fun p hp => ?_⟩
  · rw [nval_take_succ, ← Nat.add_assoc, Nat.pow_succ, Nat.mul_assoc]
    have e1 : 4294967296 ^ (i + j) * (4294967296 * (s / 2 ^ 32)) + 4294967296 ^ (i + j) * (s % 4294967296) = 4294967296 ^ (i + j) * s := by
      rw [← Nat.mul_add]; congr 1; omega
    have e2 : 4294967296 ^ (i + j) * s = 4294967296 ^ (i + j) * c + (4294967296 ^ (i + j) * (A.getD i 0 * B.getD j 0) + 4294967296 ^ (i + j) * row.getD (i + j) 0) := by
      rw [← hs, Nat.mul_add, Nat.mul_add]
    have e3 : 4294967296 ^ i * (A.getD i 0 * (nval (B.take j) + 4294967296 ^ j * B.getD j 0)) = 4294967296 ^ i * (A.getD i 0 * nval (B.take j)) + 4294967296 ^ (i + j) * (A.getD i 0 * B.getD j 0) := by
      rw [Nat.mul_add, Nat.mul_add, Nat.pow_add]
      congr 1
      rw [Nat.mul_assoc]
      congr 1
      rw [← Nat.mul_assoc, ← Nat.mul_assoc, Nat.mul_comm (A.getD i 0)]
    rw [e3]
    omega
  · rw [getD_set_ne' (by omega)]; exact h5 p hp
theorem mulI_end {A B row : List Nat} {i c : Nat} (hi : i < A.length) (h : MulI A B row i B.length c) : MulO A B (row.set (i + B.length) c) (i + 1) := by
  obtain ⟨h1, h2, h3, h4, h5⟩ := h
  have hset := nval_set (l := row) (k := i + B.length) (d := c) (by omega)
  rw [h5 _ (Nat.le_refl _), Nat.mul_zero, Nat.add_zero, h4, List.take_length] at hset
  refine ⟨h1.set h3, by simpa using h2, ?_, fun p hp => ?_⟩
  · rw [hset, nval_take_succ, Nat.add_mul, Nat.mul_assoc]
  · rw [getD_set_ne' (by omega)]; exact h5 p (by omega)
theorem mulO_end {A B row : List Nat} {i : Nat} (hi : i = A.length) (h : MulO A B row i) : nval row = nval A * nval B := by
  obtain ⟨h1, h2, h3, h4⟩ := h
  rw [h3, hi, List.take_length]
def ShortR (l row : List Nat) (d i r : Nat) : Prop := Lims row ∧ row.length = l.length ∧ r < d ∧ nval (l.drop i) = nval (row.drop i) * d + r
theorem drop_set {l : List Nat} {i d : Nat} (h : i < l.length) : (l.set i d).drop i = d :: l.drop (i + 1) := by
  rw [List.drop_eq_getElem_cons (by simpa using h), List.getElem_set_self, List.drop_set_of_lt (by omega)]
theorem shortR_0 {l : List Nat} {d : Nat} (hd : d ≠ 0) : ShortR l (List.replicate l.length 0) d l.length 0 := by
  refine ⟨fun x hx => ?_, by simp, by omega, ?_⟩
  · have := (List.mem_replicate.1 hx).2; omega
  · rw [List.drop_length, List.drop_of_length_le (by simp)]; simp [nval]
theorem shortR_s {l row : List Nat} {d i r : Nat} (lL : Lims l) (hd : d < 4294967296) (hi : i ≤ l.length) (h0 : 0 < i) (h : ShortR l row d i r) : ShortR l (row.set (i - 1) ((r * 2 ^ 32 + l.getD (i - 1) 0) / d)) d (i - 1) ((r * 2 ^ 32 + l.getD (i - 1) 0) % d) := by
  obtain ⟨h1, h2, h3, h4⟩ := h
  have hx := getD_lt lL (i - 1)
  generalize hs : r * 2 ^ 32 + l.getD (i - 1) 0 = s
  have hq : s / d < 4294967296 := by
    rw [Nat.div_lt_iff_lt_mul (by omega)]
    have : (r + 1) * 4294967296 ≤ d * 4294967296 := Nat.mul_le_mul_right _ h3
    rw [Nat.mul_comm 4294967296 d]
    omega
  refine ⟨h1.set hq, by simpa using h2, Nat.mod_lt _ (by omega), ?_⟩
  rw [nval_drop, show i - 1 + 1 = i from by omega, h4, drop_set (by omega), nval, show i - 1 + 1 = i from by omega]
  have e1 := Nat.div_add_mod s d
  have e2 : (s / d + 4294967296 * nval (row.drop i)) * d = d * (s / d) + 4294967296 * (nval (row.drop i) * d) := by
    rw [Nat.add_mul, Nat.mul_comm (s / d), Nat.mul_assoc]
  rw [e2]
  omega
theorem short_q {r x d : Nat} (h3 : r < d) (hx : x < 4294967296) : (r * 2 ^ 32 + x) / d < 4294967296 := by
  rw [Nat.div_lt_iff_lt_mul (by omega)]
  have : (r + 1) * 4294967296 ≤ d * 4294967296 := Nat.mul_le_mul_right _ h3
  rw [Nat.mul_comm 4294967296 d]
  omega
theorem shortR_end {l row : List Nat} {d i r : Nat} (hi : i = 0) (h : ShortR l row d i r) : nval row = nval l / d ∧ r = nval l % d := by
  obtain ⟨h1, h2, h3, h4⟩ := h
  subst hi
  simp only [List.drop_zero] at h4
  rw [h4]
  constructor
  · rw [Nat.mul_comm, Nat.mul_add_div (by omega), Nat.div_eq_of_lt h3, Nat.add_zero]
  · rw [Nat.mul_comm, Nat.mul_add_mod, Nat.mod_eq_of_lt h3]
end Fw
/- What more of the document's functions of layers 1 and 2 answer. -/
set_option linter.unusedVariables false
set_option linter.unusedSimpArgs false
set_option exponentiation.threshold 70
set_option maxRecDepth 20000
set_option maxHeartbeats 1000000
namespace Fw
open Go Go.Proofs
theorem c_ref01_Mul (a b : List Nat) (hAB : a.length + b.length ≤ 1099511627776) : Fn Tryz.prog 199 [kN.is a, kN.is b] (kN.is (limbs (nval a * nval b))) := by
 refine Con.enter Tryz.func199 rfl rfl fun m w => ST.fact (i := 0) rfl kN_lims fun la => ST.fact (i := 1) rfl kN_lims fun lb => Cr (Wa rfl (Wr (Wm rfl (Ws (O.lenS rfl U27) (Wm rfl (Ws (O.lenS rfl U27) (Ws (O.add rfl rfl (c := ((a.length : Int) + (b.length : Int))) (w64 (by omega))) (WP.mk ((((a.length : Int) + (b.length : Int))).toNat) .n rfl rfl (by omega) (by omega) U27 el93_limb z93_limb fun v1 => Wa rfl (Wn (CW.seq (Cr (Wa rfl (WP.nil ?_)))))))))))))
 refine QE.next (CW.block (CW.loop2 (fun (row : List Nat) (i : Nat) => i ≤ a.length ∧ MulO a b row i) (fun (row : List Nat) (i : Nat) => [(0, kN.is a), (1, kN.is b), (5, VP.ex v1), (6, kN6.is (i : Int))]) (fun (row : List Nat) (i : Nat) => [OB.row v1 93 kLimb row]) (fun (row : List Nat) (i : Nat) => a.length - i) (List.replicate (a.length + b.length) 0) 0 ⟨Nat.zero_le _, mulO_0 _ _⟩ (Imp.cons rfl (Imp.cons rfl (Imp.cons rfl (Imp.consLe rfl (is_eq (y := (0 : Int)) (by omega)) Imp.nil)))) (OImp.os (OS.keepLe (OB.row_eq (by rfl)) OS.nil)) ?_))
 intro row i ⟨hi, hO⟩
 have hrl := hO.2.1
 refine CW.seq (Cr (Wm rfl (Wm rfl (Ws (O.lenS rfl U27) (Ws (O.lt rfl rfl) (Wn ?_))))))
 refine CW.condD rfl (fun h_t18 => ?_) (fun h_t18 => ?_)
 ·
  refine CW.skip (QE.next (CW.seq (CW.block (Cr (Wa rfl (Wn (CW.seq (Cr (Wa rfl (Wn (CW.block (CW.loop3 (fun (row : List Nat) (j : Nat) (c : Nat) => j ≤ b.length ∧ MulI a b row i j c) (fun (row : List Nat) (j : Nat) (c : Nat) => [(0, kN.is a), (1, kN.is b), (5, VP.ex v1), (6, kN6.is (i : Int)), (7, (kInt .u64).is (c : Int)), (8, kN6.is (j : Int))]) (fun (row : List Nat) (j : Nat) (c : Nat) => [OB.row v1 93 kLimb row]) (fun (row : List Nat) (j : Nat) (c : Nat) => b.length - j) row 0 0 ⟨Nat.zero_le _, mulI_0 hO⟩ (Imp.c4 rfl rfl rfl rfl (Imp.consLe rfl (is_eq (y := (0 : Int)) (by omega)) (Imp.consLe rfl (is_eq (y := (0 : Int)) (by omega)) Imp.nil))) (OImp.refl _) ?_))))))))))))
  intro row j c ⟨hj, hI⟩
  have hrl := hI.2.1
  have hc := hI.2.2.1
  have hx := getD_lt la i
  have hy := getD_lt lb j
  have hz := getD_lt hI.1 (i + j)
  have hxy := mul_bd hx hy
  refine CW.seq (Cr (Wm rfl (Wm rfl (Ws (O.lenS rfl U27) (Ws (O.lt rfl rfl) (Wn ?_))))))
  refine CW.condD rfl (fun h_t24 => ?_) (fun h_t24 => ?_)
  ·
   refine CW.skip (QE.next (CW.seq (CW.block (CW.seq ?_))))
   refine CW.drawM (Γ := [.fr ((kInt .u64).is (c : Int)), .fr (VP.ex v1), .fr (kN6.is (i : Int)), .fr (kN6.is (j : Int)), .fr (kN6.is ((i : Int) + (j : Int))), .fr (VP.pel v1 ((i + j) * 1)), .fr ((kInt .u32).is ((row.getD (i + j) 0) : Int)), .fr ((kInt .u64).is ((row.getD (i + j) 0) : Int)), .fr ((kInt .u64).is ((c : Int) + ((row.getD (i + j) 0) : Int))), .fr (kN.is a), .fr (kN6.is (i : Int)), .fr (VP.pim kLimb (a.getD i 0)), .fr ((kInt .u32).is ((a.getD i 0) : Int)), .fr ((kInt .u64).is ((a.getD i 0) : Int)), .fr (kN.is b), .fr (kN6.is (j : Int)), .fr (VP.pim kLimb (b.getD j 0)), .fr ((kInt .u32).is ((b.getD j 0) : Int)), .fr ((kInt .u64).is ((b.getD j 0) : Int)), .fr ((kInt .u64).is ((a.getD i 0 * b.getD j 0 : Nat) : Int)), .fr ((kInt .u64).is ((c + (a.getD i 0 * b.getD j 0 + row.getD (i + j) 0) : Nat) : Int))]) (om rfl rfl (om rfl rfl (om rfl rfl (om rfl rfl (of_ rfl (fun N => O.add rfl rfl (c := ((i : Int) + (j : Int))) (w64 (by omega))) (of_ rfl (fun N => O.ixR (k := kLimb) (xs := row) (n := ((i : Int) + (j : Int))) (i + j) rfl rfl (mem_app N (mem_at 0 rfl)) U27 ty93 (by omega) (by omega)) (of_ rfl (fun N => OpOk.le (O.ldR (i + j) rfl (mem_app N (mem_at 0 rfl)) Li rfl (y := (row.getD (i + j) 0)) (gd 0 (by omega)) ty93 rfl) (limb_le _)) (of_ rfl (fun N => O.cvt rfl U93 U178 (c := ((row.getD (i + j) 0) : Int)) (wu64 (by omega))) (of_ rfl (fun N => O.add rfl rfl (c := ((c : Int) + ((row.getD (i + j) 0) : Int))) (wu64 (by omega))) (om rfl rfl (om rfl rfl (of_ rfl (fun N => O.ix i rfl rfl U27 ty93 rfl (v := (a.getD i 0)) (gd 0 (by omega))) (of_ rfl (fun N => OpOk.le (O.ldP rfl ty93) (limb_le _)) (of_ rfl (fun N => O.cvt rfl U93 U178 (c := ((a.getD i 0) : Int)) (wu64 (by omega))) (om rfl rfl (om rfl rfl (of_ rfl (fun N => O.ix j rfl rfl U27 ty93 rfl (v := (b.getD j 0)) (gd 0 (by omega))) (of_ rfl (fun N => OpOk.le (O.ldP rfl ty93) (limb_le _)) (of_ rfl (fun N => O.cvt rfl U93 U178 (c := ((b.getD j 0) : Int)) (wu64 (by omega))) (of_ rfl (fun N => O.mul rfl rfl (c := ((a.getD i 0 * b.getD j 0 : Nat) : Int)) (wu64 ⟨by norm_cast, by omega, by omega⟩)) (of_ rfl (fun N => O.add rfl rfl (c := ((c + (a.getD i 0 * b.getD j 0 + row.getD (i + j) 0) : Nat) : Int)) (wu64 (by omega))) oz))))))))))))))))))))) (fun σ => ?_)
   refine Wa rfl (Wr (Wm rfl (Wm rfl (Wm rfl (Ws (O.add rfl rfl (c := ((i : Int) + (j : Int))) (w64 (by omega))) (Wm rfl (Ws (O.rem rfl rfl (by omega) (c := (((c + (a.getD i 0 * b.getD j 0 + row.getD (i + j) 0)) % 4294967296 : Nat) : Int)) (tmodN 4294967296 rfl rfl)) (Ws (O.cvt rfl U178 U93 (c := (((c + (a.getD i 0 * b.getD j 0 + row.getD (i + j) 0)) % 4294967296 : Nat) : Int)) (wrs32 (by omega))) (Ws (O.ixR (k := kLimb) (xs := row) (n := ((i : Int) + (j : Int))) (i + j) rfl rfl (mem_at 0 rfl) U27 ty93 (by omega) (by omega)) (WP.t .n (O.stR 0 (i + j) rfl rfl Li rfl (y0 := (row.getD (i + j) 0)) (gd 0 (by omega)) ty93 rfl (u32_limb (x := ((c + (a.getD i 0 * b.getD j 0 + row.getD (i + j) 0)) % 4294967296 : Nat)) (by omega))) (Wn (CW.region (Wm rfl (Ws (O.quo rfl rfl (by omega) (c := (((c + (a.getD i 0 * b.getD j 0 + row.getD (i + j) 0)) / 2 ^ 32 : Nat) : Int)) (quoN (2 ^ 32) rfl rfl (by omega))) (Wa rfl (WP.nil (QE.blkN (QE.next (CW.region ?_)))))))))))))))))))
   refine Wm rfl (Ws (O.add rfl rfl (c := ((j : Int) + 1)) (w64 (by omega))) (Wa rfl (WP.nil ?_)))
   exact QE.round3 (row.set (i + j) ((c + (a.getD i 0 * b.getD j 0 + row.getD (i + j) 0)) % 4294967296)) (j + 1) ((c + (a.getD i 0 * b.getD j 0 + row.getD (i + j) 0)) / 2 ^ 32) (by omega) ⟨by omega, mulI_s la lb (by omega) (by omega) hI⟩ (Imp.c4 rfl rfl rfl rfl (Imp.consLe rfl (is_eq (y := ((((c + (a.getD i 0 * b.getD j 0 + row.getD (i + j) 0)) / 2 ^ 32) : Nat) : Int)) (by omega)) (Imp.consLe rfl (is_eq (y := (((j + 1) : Nat) : Int)) (by omega)) Imp.nil))) (OImp.os (OS.keepLe (OB.row_eq (by rfl)) OS.nil))
  ·
   refine CW.exit (QE.thenE (QE.thenE (QE.blkH (QE.next (CW.region (Wm rfl (Wm rfl (Wm rfl (Ws (O.lenS rfl U27) (Ws (O.add rfl rfl (c := ((i : Int) + (b.length : Int))) (w64 (by omega))) (Wm rfl (Ws (O.cvt rfl U178 U93 (c := (c : Int)) (wrs32 (by omega))) (Ws (O.ixR (k := kLimb) (xs := row) (n := ((i : Int) + (b.length : Int))) (i + b.length) rfl rfl (mem_at 0 rfl) U27 ty93 (by omega) (by omega)) (WP.t .n (O.stR 0 (i + b.length) rfl rfl Li rfl (y0 := (row.getD (i + b.length) 0)) (gd 0 (by omega)) ty93 rfl (u32_limb (x := c) (by omega))) (WP.nil (QE.blkN (QE.next (CW.region (Wm rfl (Ws (O.add rfl rfl (c := ((i : Int) + 1)) (w64 (by omega))) (Wa rfl (WP.nil ?_))))))))))))))))))))))
   have hjb : j = b.length := by omega
   exact QE.round2 (row.set (i + b.length) c) (i + 1) (by omega) ⟨by omega, mulI_end (by omega) (hjb ▸ hI)⟩ (Imp.cons rfl (Imp.cons rfl (Imp.cons rfl (Imp.consLe rfl (is_eq (y := (((i + 1) : Nat) : Int)) (by omega)) Imp.nil)))) (OImp.refl _)
 ·
  refine CW.exit (QE.thenE (QE.thenE (QE.blkH (QE.next (Cr (Wm rfl (ST.freeze 0 rfl (kp 0 rfl (kp 1 rfl (.hit (i := 5) rfl (kp 6 rfl (kp 15 rfl (kp 16 rfl (kp 17 rfl (kp 18 rfl (.hit (i := 66) rfl .nil))))))))) (Ws (O.fn fn158 (evs.c rfl evs.nil) (c_ref01_Norm row)) (Wa rfl (Wn (CW.ret (ST.told 4 rfl (is_eq (y := (limbs (nval a * nval b))) (by rw [mulO_end (by omega) hO])) ?_))))))))))))
  exact QE.done (.inl rfl) rfl (ResOk.t rfl ResOk.nil) (OImp.sub (List.nil_sublist _)) ⟨rfl, rfl⟩
theorem c_ref02_Neg (z : Int) : Fn Tryz.prog 209 [kZ.is z] (kC.is (-z)) := by
 refine Con.enter Tryz.func209 rfl rfl fun m w => ST.z 0 rfl fun y y_v y_n y_l => Cr (WP.bx .n rfl fun b1 => WP.al .n z29_C fun b2 => Wr (Ws (O.fa rfl fld29_0 rfl) (Ws (O.ld rfl (mem_at 1 rfl) (Lens.fst Li) ty4 rfl) (Ws (O.not rfl) (Ws (O.fa rfl fld29_1 rfl) (Ws (O.ld rfl (mem_at 1 rfl) (Lens.snd Li) ty27 rfl) (Ws (O.fn fn139 (evs.c rfl (evs.c rfl evs.nil)) (c_ref02_made (!y.1) y.2)) (WP.t .n (O.stW (l := kC) (u := ival ((!y.1), y.2)) 0 rfl rfl rfl ty29 rfl Lr) (Wn (CW.ret (ST.obtold 0 rfl (OB.box_eq (y := (-z)) (by rw [← y_v]; exact ival_not)) ?_)))))))))))
 exact QE.done (.inl rfl) rfl (ResOk.c rfl (mem_at 0 rfl) ty29 ResOk.nil) (OImp.sub (List.nil_sublist _)) ⟨rfl, rfl⟩
theorem c_ref02_Norm (z : Int) : Fn Tryz.prog 113 [kZ.is z] (kC.is z) := by
 refine Con.enter Tryz.func113 rfl rfl fun m w => ST.z 0 rfl fun y y_v y_n y_l => Cr (WP.bx .n rfl fun b1 => WP.al .n z29_C fun b2 => Wr (Ws (O.fa rfl fld29_0 rfl) (Ws (O.ld rfl (mem_at 1 rfl) (Lens.fst Li) ty4 rfl) (Ws (O.fa rfl fld29_1 rfl) (Ws (O.ld rfl (mem_at 1 rfl) (Lens.snd Li) ty27 rfl) (Ws (O.fn fn139 (evs.c rfl (evs.c rfl evs.nil)) (c_ref02_made y.1 y.2)) (WP.t .n (O.stW (l := kC) (u := ival (y.1, y.2)) 0 rfl rfl rfl ty29 rfl Lr) (Wn (CW.ret (ST.obtold 0 rfl (OB.box_eq (y := z) y_v) ?_))))))))))
 exact QE.done (.inl rfl) rfl (ResOk.c rfl (mem_at 0 rfl) ty29 ResOk.nil) (OImp.sub (List.nil_sublist _)) ⟨rfl, rfl⟩
theorem c_ref02_Sub (x y : Int) : Fn Tryz.prog 161 [kZ.is x, kZ.is y] (kC.is (x - y)) := by
 refine Con.enter Tryz.func161 rfl rfl fun m w => ST.fact (i := 1) rfl kZ_sm fun hsy => Cr (WP.bx .n rfl fun b1 => WP.bx .n rfl fun b2 => WP.al .n z29_C fun b3 => Wn (CW.seq ?_))
 refine CW.drawM (Γ := [.fr (kZ.is x), .fr (kZ.is y), .fr (kC.is (-y)), .fr (kC.is (x + (-y)))]) (of_ rfl (fun N => O.ld rfl (mem_app N (mem_at 2 rfl)) Li ty29 rfl) (of_ rfl (fun N => O.ld rfl (mem_app N (mem_at 1 rfl)) Li ty29 rfl) (of_ rfl (fun N => O.fn fn209 (evs.c rfl evs.nil) (c_ref02_Neg y)) (of_ rfl (fun N => O.fn fn127 (evs.c rfl (evs.l rfl (kC_Z (Sm_neg (by assumption))) evs.nil)) (c_ref02_Add x (-y))) oz)))) (fun σ => ?_)
 refine WP.t .n (O.stW (l := kC) (u := x + (-y)) 0 rfl rfl rfl ty29 rfl Lr) (Wn (CW.ret (ST.obtold 0 rfl (OB.box_eq (y := (x - y)) (Int.sub_eq_add_neg).symm) ?_)))
 exact QE.done (.inl rfl) rfl (ResOk.c rfl (mem_at 0 rfl) ty29 ResOk.nil) (OImp.sub (List.nil_sublist _)) ⟨rfl, rfl⟩
theorem c_ref02_Mul (x y : Int) : Fn Tryz.prog 128 [kZ.is x, kZ.is y] (kC.is (x * y)) := by
 refine Con.enter Tryz.func128 rfl rfl fun m w => ST.z 0 rfl fun p p_v p_n p_l => ST.z 1 rfl fun q q_v q_n q_l => Cr (WP.bx .n rfl fun b1 => WP.bx .n rfl fun b2 => WP.al .n z29_C fun b3 => Wn (CW.seq ?_))
 refine CW.drawM (Γ := [.fr (VP.pt b1 0), .fr (kBool.is p.1), .fr (VP.pt b2 0), .fr (kBool.is q.1), .fr (kBool.is (decide (p.1 ≠ q.1))), .fr (VP.pt b1 1), .fr (kN.is p.2), .fr (VP.pt b2 1), .fr (kN.is q.2), .fr (kN.is (limbs (nval p.2 * nval q.2))), .fr (kC.is (ival ((decide (p.1 ≠ q.1)), (limbs (nval p.2 * nval q.2)))))]) (of_ rfl (fun N => O.fa rfl fld29_0 rfl) (of_ rfl (fun N => O.ld rfl (mem_app N (mem_at 2 rfl)) (Lens.fst Li) ty4 rfl) (of_ rfl (fun N => O.fa rfl fld29_0 rfl) (of_ rfl (fun N => O.ld rfl (mem_app N (mem_at 1 rfl)) (Lens.fst Li) ty4 rfl) (of_ rfl (fun N => O.neB rfl rfl U4) (of_ rfl (fun N => O.fa rfl fld29_1 rfl) (of_ rfl (fun N => O.ld rfl (mem_app N (mem_at 2 rfl)) (Lens.snd Li) ty27 rfl) (of_ rfl (fun N => O.fa rfl fld29_1 rfl) (of_ rfl (fun N => O.ld rfl (mem_app N (mem_at 1 rfl)) (Lens.snd Li) ty27 rfl) (of_ rfl (fun N => O.fn fn199 (evs.c rfl (evs.c rfl evs.nil)) (c_ref01_Mul p.2 q.2 (by omega))) (of_ rfl (fun N => O.fn fn139 (evs.c rfl (evs.c rfl evs.nil)) (c_ref02_made (decide (p.1 ≠ q.1)) (limbs (nval p.2 * nval q.2)))) oz))))))))))) (fun σ => ?_)
 refine WP.t .n (O.stW (l := kC) (u := ival ((decide (p.1 ≠ q.1)), (limbs (nval p.2 * nval q.2)))) 0 rfl rfl rfl ty29 rfl Lr) (Wn (CW.ret (ST.obtold 0 rfl (OB.box_eq (y := (x * y)) (by rw [← p_v, ← q_v]; exact ival_mul)) ?_)))
 exact QE.done (.inl rfl) rfl (ResOk.c rfl (mem_at 0 rfl) ty29 ResOk.nil) (OImp.sub (List.nil_sublist _)) ⟨rfl, rfl⟩
theorem c_ref02_Cmp (x y : Int) (hS : Sm (x - y)) : Fn Tryz.prog 129 [kZ.is x, kZ.is y] (kN6.is ((x - y).sign)) := by
 refine Con.enter Tryz.func129 rfl rfl fun m w => Cr (WP.bx .n rfl fun b1 => WP.bx .n rfl fun b2 => Wa rfl (Wr (Ws (O.ld rfl (mem_at 1 rfl) Li ty29 rfl) (Ws (O.ld rfl (mem_at 0 rfl) Li ty29 rfl) (Ws (O.fn fn161 (evs.c rfl (evs.c rfl evs.nil)) (c_ref02_Sub x y)) (Ws (O.fn fn88 (evs.l rfl (kC_Z (by assumption)) evs.nil) (c_ref02_Sign (x - y))) (Wa rfl (Wn (CW.ret ?_)))))))))
 exact QE.done (.inl rfl) rfl (ResOk.t rfl ResOk.nil) (OImp.sub (List.nil_sublist _)) ⟨rfl, rfl⟩
end Fw
/- What Mul and short of layer 1 answer. -/
set_option linter.unusedVariables false
set_option linter.unusedSimpArgs false
set_option exponentiation.threshold 70
set_option maxRecDepth 20000
set_option maxHeartbeats 1000000
namespace Fw
open Go Go.Proofs
theorem c_nat_Mul (a b : List Nat) (hAB : a.length + b.length ≤ 1099511627776) : Fn Tryz.prog 193 [kN.is a, kN.is b] (kN.is (limbs (nval a * nval b))) := by
 refine Con.enter Tryz.func193 rfl rfl fun m w => ST.fact (i := 0) rfl kN_lims fun la => ST.fact (i := 1) rfl kN_lims fun lb => ?_
 have hla := limbs_len_le la
 have hlb := limbs_len_le lb
 refine Cr (Wa rfl (Wr (Wm rfl (Ws (O.fn fn191 (evs.c rfl evs.nil) (c_nat_trim a)) (Wm rfl (Ws (O.fn fn191 (evs.c rfl evs.nil) (c_nat_trim b)) (Wa rfl (Wa rfl (Wr (Wm rfl (Ws (O.lenS rfl U27) (Wm rfl (Ws (O.lenS rfl U27) (Ws (O.add rfl rfl (c := (((limbs (nval a)).length : Int) + ((limbs (nval b)).length : Int))) (w64 (by omega))) (WP.mk (((((limbs (nval a)).length : Int) + ((limbs (nval b)).length : Int))).toNat) .n rfl rfl (by omega) (by omega) U27 el93_limb z93_limb fun v1 => Wa rfl ?_)))))))))))))))
 refine Wn (CW.seq (Cr (Wm rfl (Ws (O.lenS rfl U27) (Wm rfl (Wn (CW.block (CW.loop3 (fun (row : List Nat) (i : Nat) (v : Value) => i ≤ (limbs (nval a)).length ∧ MulO (limbs (nval a)) (limbs (nval b)) row i) (fun (row : List Nat) (i : Nat) (v : Value) => [(0, kN.is (limbs (nval a))), (1, kN.is (limbs (nval b))), (5, VP.ex v), (20, kN6.is ((limbs (nval a)).length : Int)), (21, kN6.is (i : Int))]) (fun (row : List Nat) (i : Nat) (v : Value) => [OB.row v 93 kLimb row]) (fun (row : List Nat) (i : Nat) (v : Value) => (limbs (nval a)).length - i) (List.replicate ((limbs (nval a)).length + (limbs (nval b)).length) 0) 0 v1 ⟨Nat.zero_le _, mulO_0 _ _⟩ (Imp.c4 rfl rfl rfl rfl (Imp.consLe rfl (is_eq (y := (0 : Int)) (by omega)) Imp.nil)) (OImp.os (OS.keepLe (OB.row_eq (by rfl)) OS.nil)) ?_))))))))
 intro row i v ⟨hi, hO⟩
 have hrl := hO.2.1
 refine Cr (Ws (O.lt rfl rfl) (Wn (CW.seq ?_)))
 refine CW.condD rfl (fun h_t22 => ?_) (fun h_t22 => ?_)
 ·
  refine CW.skip (QE.next (CW.seq (CW.block (Cr (Wm rfl (Wa rfl (Wr (Wa rfl (Wn (CW.seq (Cr (Wm rfl (Ws (O.lenS rfl U27) (Wm rfl (Wn (CW.block ?_))))))))))))))))
  refine CW.loop3 (fun (row : List Nat) (j : Nat) (c : Nat) => j ≤ (limbs (nval b)).length ∧ MulI (limbs (nval a)) (limbs (nval b)) row i j c) (fun (row : List Nat) (j : Nat) (c : Nat) => [(0, kN.is (limbs (nval a))), (1, kN.is (limbs (nval b))), (5, VP.ex v), (6, kN6.is (i : Int)), (7, (kInt .u64).is (c : Int)), (20, kN6.is ((limbs (nval a)).length : Int)), (21, kN6.is (i : Int)), (25, kN6.is ((limbs (nval b)).length : Int)), (26, kN6.is (j : Int))]) (fun (row : List Nat) (j : Nat) (c : Nat) => [OB.row v 93 kLimb row]) (fun (row : List Nat) (j : Nat) (c : Nat) => (limbs (nval b)).length - j) row 0 0 ⟨Nat.zero_le _, mulI_0 hO⟩ (Imp.c4 rfl rfl rfl rfl (Imp.consLe rfl (is_eq (y := (0 : Int)) (by omega)) (Imp.cons rfl (Imp.cons rfl (Imp.cons rfl (Imp.consLe rfl (is_eq (y := (0 : Int)) (by omega)) Imp.nil)))))) (OImp.refl _) ?_
  intro row j c ⟨hj, hI⟩
  have hrl := hI.2.1
  have hc := hI.2.2.1
  have hx := getD_lt (limbs_lims (nval a)) i
  have hy := getD_lt (limbs_lims (nval b)) j
  have hz := getD_lt hI.1 (i + j)
  have hxy := mul_bd hx hy
  refine Cr (Ws (O.lt rfl rfl) (Wn (CW.seq ?_)))
  refine CW.condD rfl (fun h_t27 => ?_) (fun h_t27 => ?_)
  ·
   refine CW.skip (QE.next (CW.seq (CW.block (Cr (Wm rfl (Wa rfl (Wn (CW.seq ?_))))))))
   refine CW.drawM (Γ := [.fr ((kInt .u64).is (c : Int)), .fr (kN.is (limbs (nval a))), .fr (kN6.is (i : Int)), .fr (VP.pim kLimb ((limbs (nval a)).getD i 0)), .fr ((kInt .u32).is (((limbs (nval a)).getD i 0) : Int)), .fr ((kInt .u64).is (((limbs (nval a)).getD i 0) : Int)), .fr (kN.is (limbs (nval b))), .fr (kN6.is (j : Int)), .fr (VP.pim kLimb ((limbs (nval b)).getD j 0)), .fr ((kInt .u32).is (((limbs (nval b)).getD j 0) : Int)), .fr ((kInt .u64).is (((limbs (nval b)).getD j 0) : Int)), .fr ((kInt .u64).is (((limbs (nval a)).getD i 0 * (limbs (nval b)).getD j 0 : Nat) : Int)), .fr (VP.ex v), .fr (kN6.is (i : Int)), .fr (kN6.is (j : Int)), .fr (kN6.is ((i : Int) + (j : Int))), .fr (VP.pel v ((i + j) * 1)), .fr ((kInt .u32).is ((row.getD (i + j) 0) : Int)), .fr ((kInt .u64).is ((row.getD (i + j) 0) : Int)), .fr ((kInt .u64).is (((limbs (nval a)).getD i 0 * (limbs (nval b)).getD j 0 + row.getD (i + j) 0 : Nat) : Int)), .fr ((kInt .u64).is (((c + ((limbs (nval a)).getD i 0 * (limbs (nval b)).getD j 0 + row.getD (i + j) 0)) : Nat) : Int))]) (om rfl rfl (om rfl rfl (om rfl rfl (of_ rfl (fun N => O.ix i rfl rfl U27 ty93 rfl (v := ((limbs (nval a)).getD i 0)) (gd 0 (by omega))) (of_ rfl (fun N => OpOk.le (O.ldP rfl ty93) (limb_le _)) (of_ rfl (fun N => O.cvt rfl U93 U178 (c := (((limbs (nval a)).getD i 0) : Int)) (wu64 (by omega))) (om rfl rfl (om rfl rfl (of_ rfl (fun N => O.ix j rfl rfl U27 ty93 rfl (v := ((limbs (nval b)).getD j 0)) (gd 0 (by omega))) (of_ rfl (fun N => OpOk.le (O.ldP rfl ty93) (limb_le _)) (of_ rfl (fun N => O.cvt rfl U93 U178 (c := (((limbs (nval b)).getD j 0) : Int)) (wu64 (by omega))) (of_ rfl (fun N => O.mul rfl rfl (c := (((limbs (nval a)).getD i 0 * (limbs (nval b)).getD j 0 : Nat) : Int)) (wu64 ⟨by norm_cast, by omega, by omega⟩)) (om rfl rfl (om rfl rfl (om rfl rfl (of_ rfl (fun N => O.add rfl rfl (c := ((i : Int) + (j : Int))) (w64 (by omega))) (of_ rfl (fun N => O.ixR (k := kLimb) (xs := row) (n := ((i : Int) + (j : Int))) (i + j) rfl rfl (mem_app N (mem_at 0 rfl)) U27 ty93 (by omega) (by omega)) (of_ rfl (fun N => OpOk.le (O.ldR (i + j) rfl (mem_app N (mem_at 0 rfl)) Li rfl (y := (row.getD (i + j) 0)) (gd 0 (by omega)) ty93 rfl) (limb_le _)) (of_ rfl (fun N => O.cvt rfl U93 U178 (c := ((row.getD (i + j) 0) : Int)) (wu64 (by omega))) (of_ rfl (fun N => O.add rfl rfl (c := (((limbs (nval a)).getD i 0 * (limbs (nval b)).getD j 0 + row.getD (i + j) 0 : Nat) : Int)) (wu64 (by omega))) (of_ rfl (fun N => O.add rfl rfl (c := (((c + ((limbs (nval a)).getD i 0 * (limbs (nval b)).getD j 0 + row.getD (i + j) 0)) : Nat) : Int)) (wu64 (by omega))) oz))))))))))))))))))))) (fun σ => ?_)
   refine Wa rfl (Wr (Wm rfl (Wm rfl (Wm rfl (Ws (O.add rfl rfl (c := ((i : Int) + (j : Int))) (w64 (by omega))) (Wm rfl (Ws (O.cvt rfl U178 U93 (c := (((c + ((limbs (nval a)).getD i 0 * (limbs (nval b)).getD j 0 + row.getD (i + j) 0)) % 4294967296 : Nat) : Int)) (wr32 rfl)) (Ws (O.ixR (k := kLimb) (xs := row) (n := ((i : Int) + (j : Int))) (i + j) rfl rfl (mem_at 0 rfl) U27 ty93 (by omega) (by omega)) (WP.t .n (O.stR 0 (i + j) rfl rfl Li rfl (y0 := (row.getD (i + j) 0)) (gd 0 (by omega)) ty93 rfl (u32_limb (x := ((c + ((limbs (nval a)).getD i 0 * (limbs (nval b)).getD j 0 + row.getD (i + j) 0)) % 4294967296 : Nat)) (by omega))) (Wn (CW.region (Wm rfl (Ws (O.shr rfl rfl (by omega) (c := (((c + ((limbs (nval a)).getD i 0 * (limbs (nval b)).getD j 0 + row.getD (i + j) 0)) / 2 ^ 32 : Nat) : Int)) (shrN 32 rfl rfl (by decide))) (Wa rfl (WP.nil (QE.blkN (QE.next (CW.region (Ws (O.add rfl rfl (c := ((j : Int) + 1)) (w64 (by omega))) ?_)))))))))))))))))))
   refine Wm rfl (WP.nil ?_)
   exact QE.round3 (row.set (i + j) ((c + ((limbs (nval a)).getD i 0 * (limbs (nval b)).getD j 0 + row.getD (i + j) 0)) % 4294967296)) (j + 1) ((c + ((limbs (nval a)).getD i 0 * (limbs (nval b)).getD j 0 + row.getD (i + j) 0)) / 2 ^ 32) (by omega) ⟨by omega, mulI_s (limbs_lims _) (limbs_lims _) (by omega) (by omega) hI⟩ (Imp.c4 rfl rfl rfl rfl (Imp.consLe rfl (is_eq (y := ((((c + ((limbs (nval a)).getD i 0 * (limbs (nval b)).getD j 0 + row.getD (i + j) 0)) / 2 ^ 32) : Nat) : Int)) (by omega)) (Imp.cons rfl (Imp.cons rfl (Imp.cons rfl (Imp.consLe rfl (is_eq (y := (((j + 1) : Nat) : Int)) (by omega)) Imp.nil)))))) (OImp.os (OS.keepLe (OB.row_eq (by rfl)) OS.nil))
  ·
   refine CW.exit (QE.thenE (QE.thenE (QE.blkH (QE.next (CW.region (Wm rfl (Wm rfl (Wm rfl (Ws (O.lenS rfl U27) (Ws (O.add rfl rfl (c := ((i : Int) + ((limbs (nval b)).length : Int))) (w64 (by omega))) (Wm rfl (Ws (O.cvt rfl U178 U93 (c := (c : Int)) (wrs32 (by omega))) (Ws (O.ixR (k := kLimb) (xs := row) (n := ((i : Int) + ((limbs (nval b)).length : Int))) (i + (limbs (nval b)).length) rfl rfl (mem_at 0 rfl) U27 ty93 (by omega) (by omega)) (WP.t .n (O.stR 0 (i + (limbs (nval b)).length) rfl rfl Li rfl (y0 := (row.getD (i + (limbs (nval b)).length) 0)) (gd 0 (by omega)) ty93 rfl (u32_limb (x := c) (by omega))) (WP.nil (QE.blkN (QE.next (CW.region (Ws (O.add rfl rfl (c := ((i : Int) + 1)) (w64 (by omega))) (Wm rfl (WP.nil ?_)))))))))))))))))))))
   have hjb : j = (limbs (nval b)).length := by omega
   exact QE.round3 (row.set (i + (limbs (nval b)).length) c) (i + 1) v (by omega) ⟨by omega, mulI_end (by omega) (hjb ▸ hI)⟩ (Imp.c4 rfl rfl rfl rfl (Imp.consLe rfl (is_eq (y := (((i + 1) : Nat) : Int)) (by omega)) Imp.nil)) (OImp.refl _)
 ·
  refine CW.exit (QE.thenE (QE.thenE (QE.blkH (QE.next (Cr (Wm rfl (ST.freeze 0 rfl (kp 0 rfl (kp 1 rfl (.hit (i := 5) rfl (kp 20 rfl (kp 21 rfl (kp 22 rfl (.hit (i := 69) rfl .nil))))))) (Ws (O.fn fn191 (evs.c rfl evs.nil) (c_nat_trim row)) (Wa rfl (Wn (CW.ret (ST.told 4 rfl (is_eq (y := (limbs (nval a * nval b))) (by rw [mulO_end (by omega) hO, nval_limbs, nval_limbs])) ?_))))))))))))
  exact QE.done (.inl rfl) rfl (ResOk.t rfl ResOk.nil) (OImp.sub (List.nil_sublist _)) ⟨rfl, rfl⟩
theorem c_nat_short (l : List Nat) (d : Nat) (hd : d ≠ 0) : Fn Tryz.prog 271 [kN.is l, kLimb.is d] (VP.tup [kN.is (limbs (nval l / d)), (kInt .u32).is ((nval l % d : Nat) : Int)]) := by
 refine Con.enter Tryz.func271 rfl rfl fun m w => ST.fact (i := 0) rfl sl_len fun hB => ST.fact (i := 0) rfl kN_lims fun hL => ST.fact (i := 1) rfl limb_lt fun hdl => ST.told (q := (kInt .u32).is (d : Int)) 1 rfl (limb_le _) (Cr (Wa rfl (Wa rfl (Wr (Wm rfl (Ws (O.lenS rfl U27) (WP.mk l.length .n rfl rfl rfl (by omega) U27 el93_limb z93_limb fun v1 => Wa rfl (Wr (Wa rfl (Wn ?_))))))))))
 refine CW.seq (Cr (Wm rfl (Ws (O.lenS rfl U27) (Ws (O.sub rfl rfl (c := ((l.length : Int) - 1)) (w64 (by omega))) (Wa rfl (Wn (CW.block (CW.loop3 (fun (row : List Nat) (i : Nat) (r : Nat) => i ≤ l.length ∧ ShortR l row d i r) (fun (row : List Nat) (i : Nat) (r : Nat) => [(0, kN.is l), (1, (kInt .u32).is (d : Int)), (6, VP.ex v1), (7, (kInt .u64).is (r : Int)), (8, kN6.is ((i : Int) - 1))]) (fun (row : List Nat) (i : Nat) (r : Nat) => [OB.row v1 93 kLimb row]) (fun (row : List Nat) (i : Nat) (r : Nat) => i) (List.replicate l.length 0) l.length 0 ⟨Nat.le_refl _, shortR_0 hd⟩ (Imp.cons rfl (Imp.cons rfl (Imp.cons rfl (Imp.consLe rfl (is_eq (y := (0 : Int)) (by omega)) (Imp.consLe rfl (is_eq (y := ((l.length : Nat) : Int) - 1) (by omega)) Imp.nil))))) (OImp.refl _) ?_))))))))
 intro row i r ⟨hi, hS⟩
 have hrl := hS.2.1
 have hr := hS.2.2.1
 have hx := getD_lt hL (i - 1)
 have hq := short_q hr hx
 refine CW.seq (Cr (Wm rfl (Ws (O.ge rfl rfl) (Wn ?_))))
 refine CW.condD rfl (fun h_t16 => ?_) (fun h_t16 => ?_)
 ·
  refine CW.skip (QE.next (CW.seq (CW.block (Cr (Wm rfl (Ws (O.shl rfl rfl (by omega) (c := ((r * 2 ^ 32 : Nat) : Int)) (shlN 32 rfl rfl (by decide) (by omega))) (Wm rfl (Wm rfl (Ws (O.ix (i - 1) rfl rfl U27 ty93 (by omega) (v := (l.getD (i - 1) 0)) (gd 0 (by omega))) (Ws (OpOk.le (O.ldP rfl ty93) (limb_le _)) (Ws (O.cvt rfl U93 U178 (c := ((l.getD (i - 1) 0) : Int)) (wu64 (by omega))) (Ws (O.or rfl rfl (c := ((r * 2 ^ 32 + l.getD (i - 1) 0 : Nat) : Int)) (orN 32 rfl rfl hx (by omega))) (Wa rfl (Wr (Wm rfl (Wm rfl (Wm rfl (Wm rfl (Ws (O.cvt rfl U93 U178 (c := (d : Int)) (wu64 (by omega))) ?_)))))))))))))))))))
  refine Ws (O.quo rfl rfl (by omega) (c := (((r * 2 ^ 32 + l.getD (i - 1) 0) / d : Nat) : Int)) (quoN d rfl rfl (by omega))) (Ws (O.cvt rfl U178 U93 (c := (((r * 2 ^ 32 + l.getD (i - 1) 0) / d : Nat) : Int)) (wrs32 ⟨rfl, short_q hr hx⟩)) (Ws (O.ixR (k := kLimb) (xs := row) (n := (i : Int) - 1) (i - 1) rfl rfl (mem_at 0 rfl) U27 ty93 (by omega) (by omega)) (WP.t .n (O.stR 0 (i - 1) rfl rfl Li rfl (y0 := (row.getD (i - 1) 0)) (gd 0 (by omega)) ty93 rfl (u32_limb (x := ((r * 2 ^ 32 + l.getD (i - 1) 0) / d : Nat)) (by omega))) (Wn (CW.region (Wm rfl (Wm rfl (Ws (O.cvt rfl U93 U178 (c := (d : Int)) (wu64 (by omega))) (Ws (O.rem rfl rfl (by omega) (c := (((r * 2 ^ 32 + l.getD (i - 1) 0) % d : Nat) : Int)) (tmodN d rfl rfl)) (Wa rfl (WP.nil (QE.blkN (QE.next (CW.region (Wm rfl (Ws (O.sub rfl rfl (c := (((i : Int) - 1) - 1)) (w64 (by omega))) (Wa rfl (WP.nil ?_))))))))))))))))))
  exact QE.round3 (row.set (i - 1) ((r * 2 ^ 32 + l.getD (i - 1) 0) / d)) (i - 1) ((r * 2 ^ 32 + l.getD (i - 1) 0) % d) (by omega) ⟨by omega, shortR_s hL hdl (by omega) (by omega) hS⟩ (Imp.cons rfl (Imp.cons rfl (Imp.cons rfl (Imp.consLe rfl (is_eq (y := ((((r * 2 ^ 32 + l.getD (i - 1) 0) % d) : Nat) : Int)) (by omega)) (Imp.consLe rfl (is_eq (y := (((i - 1) : Nat) : Int) - 1) (by omega)) Imp.nil))))) (OImp.os (OS.keepLe (OB.row_eq (by rfl)) OS.nil))
 ·
  refine CW.exit (QE.thenE (QE.thenE (QE.blkH (QE.next (Cr (Wm rfl (ST.freeze 0 rfl (kp 0 rfl (kp 1 rfl (.hit (i := 6) rfl (kp 7 rfl (kp 8 rfl (kp 15 rfl (kp 16 rfl (.hit (i := 39) rfl .nil)))))))) (Ws (O.fn fn191 (evs.c rfl evs.nil) (c_nat_trim row)) (Wm rfl (Ws (O.cvt rfl U178 U93 (c := (r : Int)) (wrs32 (by omega))) (Wa rfl (Wa rfl (Wn (CW.ret (ST.told 4 rfl (is_eq (y := (limbs (nval l / d))) (by rw [(shortR_end (by omega) hS).1])) (ST.told 5 rfl (is_eq (y := ((nval l % d : Nat) : Int)) (by rw [(shortR_end (by omega) hS).2])) ?_))))))))))))))))
  exact QE.done (.inl rfl) rfl (ResOk.t rfl (ResOk.t rfl ResOk.nil)) (OImp.sub (List.nil_sublist _)) ⟨rfl, rfl⟩
end Fw
/- Plain facts on limbs: shifts, digits of a quotient. -/
set_option linter.unusedVariables false
set_option linter.unusedSimpArgs false
set_option exponentiation.threshold 70
namespace Fw
open Go (IntKind)
theorem ST.rowfact {C : Ctx} {K : Go.Act → Go.World → Prop} {ρ : Env} {L : List OB} {v : Go.Value} {e : Go.TypeId} {l : List Nat} (j : Nat) (hj : L[j]? = some (OB.row v e kLimb l)) (h : l.length ≤ 1099511627776 → Lims l → ST C K ρ L) : ST C K ρ L := fun m w a s t => by
  obtain ⟨cells, h1, h2, h3⟩ := row_own s (List.mem_of_getElem? hj)
  exact h h3 (rows_lims h2) m w a s t
theorem win_get {l w r : List Nat} {o i : Nat} (ho : o ≤ l.length) (hi : i < w.length) : (l.take o ++ w ++ r)[o + i]? = some (w.getD i 0) := by
  rw [List.append_assoc, List.getElem?_append_right (by simp; omega), List.getElem?_append_left (by simp; omega)]
  simp only [List.length_take, Nat.min_eq_left ho, Nat.add_sub_cancel_left]
  exact gd 0 hi
theorem win_set {l w r : List Nat} {o i d : Nat} (ho : o ≤ l.length) (hi : i < w.length) : (l.take o ++ w ++ r).set (o + i) d = l.take o ++ w.set i d ++ r := by
  rw [List.append_assoc, List.set_append_right _ _ (by simp; omega), List.set_append_left _ _ (by simp; omega), List.append_assoc]
  simp only [List.length_take, Nat.min_eq_left ho, Nat.add_sub_cancel_left]
theorem win_len {l w : List Nat} {o n : Nat} (ho : o + n ≤ l.length) (hw : w.length = n) : (l.take o ++ w ++ l.drop (o + n)).length = l.length := by
  simp [hw]; omega
theorem win_self {l : List Nat} {o n : Nat} : l = l.take o ++ (l.drop o).take n ++ l.drop (o + n) := by
  rw [List.append_assoc, ← List.drop_drop, List.take_append_drop, List.take_append_drop]
theorem minN {a b : Nat} : min (a : Int) (b : Int) = ((min a b : Nat) : Int) := by omega
theorem dsub1 {x y : Nat} (hx : x < 4294967296) (hy : y < 4294967296) : IntKind.u64.wrap ((x : Int) - (y : Int)) = ((lessV 0 x y : Nat) : Int) := by
  unfold lessV
  simp [IntKind.wrap, IntKind.signed, IntKind.bits]
  split <;> omega
theorem dsub2 {c x y : Nat} (hc : c ≤ 1) (hx : x < 4294967296) (hy : y < 4294967296) : IntKind.u64.wrap (((lessV 0 x y : Nat) : Int) - (c : Int)) = ((lessV c x y : Nat) : Int) := by
  unfold lessV
  simp [IntKind.wrap, IntKind.signed, IntKind.bits]
  split <;> split <;> omega
theorem nval_take_set {w : List Nat} {i d : Nat} (h : i < w.length) : nval ((w.set i d).take (i + 1)) = nval (w.take i) + 4294967296 ^ i * d := by
  rw [nval_take_succ, List.take_set_of_le (Nat.le_refl _)]
  congr 2
  rw [List.getD_eq_getElem?_getD, List.getElem?_set_self h]; rfl
theorem drop_set_succ {w w0 : List Nat} {i d : Nat} (h : w.drop i = w0.drop i) : (w.set i d).drop (i + 1) = w0.drop (i + 1) := by
  rw [List.drop_set_of_lt (by omega), ← List.drop_drop, h, List.drop_drop]
theorem getD_drop_eq {w w0 : List Nat} {i : Nat} (h : w.drop i = w0.drop i) : w.getD i 0 = w0.getD i 0 := by
  have := congrArg (fun l => l.getD 0 0) h
  simpa [List.getD_eq_getElem?_getD] using this
def DigR (w0 vs : List Nat) (q : Nat) (w : List Nat) (i c b : Nat) : Prop := i ≤ vs.length + 1 ∧ w.length = vs.length + 1 ∧ Lims w ∧ c < 4294967296 ∧ b ≤ 1 ∧ (i ≤ vs.length ∨ c = 0) ∧ nval (w.take i) + q * nval (vs.take i) = nval (w0.take i) + 4294967296 ^ i * (c + b) ∧ w.drop i = w0.drop i
theorem digR_0 {w0 vs : List Nat} {q : Nat} (h : w0.length = vs.length + 1) (hl : Lims w0) : DigR w0 vs q w0 0 0 0 := ⟨by omega, h, hl, by omega, by omega, .inl (by omega), by simp [nval], rfl⟩
theorem dig_p {q c v : Nat} (hq : q < 4294967296) (hc : c < 4294967296) (hv : v < 4294967296) : (c + q * v) / 2 ^ 32 < 4294967296 ∧ c + q * v < 18446744073709551616 := by
  have := mul_bd hq hv
  omega
theorem digR_s {w0 vs w : List Nat} {q i c b : Nat} (lv : Lims vs) (hq : q < 4294967296) (hi : i < vs.length + 1) (h : DigR w0 vs q w i c b) :
    DigR w0 vs q (w.set i (lessV b (w.getD i 0) ((c + q * vs.getD i 0) % 4294967296) % 4294967296)) (i + 1) ((c + q * vs.getD i 0) / 2 ^ 32) (lessV b (w.getD i 0) ((c + q * vs.getD i 0) % 4294967296) / 2 ^ 63) := by
  obtain ⟨h1, h2, h3, h4, h5, h6, h7, h8⟩ := h
  have hv := getD_lt lv i
  have hx := getD_lt h3 i
  have hxx := getD_drop_eq h8
  obtain ⟨hp1, hp2⟩ := dig_p hq h4 hv
  have hlv : lessV b (w.getD i 0) ((c + q * vs.getD i 0) % 4294967296) % 4294967296 + (b + (c + q * vs.getD i 0) % 4294967296) = w.getD i 0 + 4294967296 * (lessV b (w.getD i 0) ((c + q * vs.getD i 0) % 4294967296) / 2 ^ 63) ∧ lessV b (w.getD i 0) ((c + q * vs.getD i 0) % 4294967296) / 2 ^ 63 ≤ 1 := by
    have : (c + q * vs.getD i 0) % 4294967296 < 4294967296 := Nat.mod_lt _ (by omega)
    generalize (c + q * vs.getD i 0) % 4294967296 = y at this ⊢
    unfold lessV; split <;> omega
  generalize lessV b (w.getD i 0) ((c + q * vs.getD i 0) % 4294967296) = V at hlv ⊢
  obtain ⟨hV1, hV2⟩ := hlv
  refine ⟨by omega, by simpa using h2, h3.set (by omega), hp1, hV2, ?_, ?_, drop_set_succ h8⟩
  · by_cases hin : i < vs.length
    · left; omega
    · right
      have : vs.getD i 0 = 0 := getD_out (by omega)
      rw [this, Nat.mul_zero, Nat.add_zero]
      rcases h6 with h6 | h6 <;> omega
  · rw [nval_take_set (by omega), nval_take_succ, nval_take_succ, Nat.pow_succ, Nat.mul_assoc]
    rw [← hxx]
    generalize hs : c + q * vs.getD i 0 = s at *
    have e1 : q * (nval (vs.take i) + 4294967296 ^ i * vs.getD i 0) = q * nval (vs.take i) + 4294967296 ^ i * (q * vs.getD i 0) := by
      rw [Nat.mul_add]; congr 1; rw [← Nat.mul_assoc, ← Nat.mul_assoc, Nat.mul_comm q]
    rw [e1]
    have e2 : V % 4294967296 + (q * vs.getD i 0) + (c + b) = w.getD i 0 + 4294967296 * (s / 2 ^ 32 + V / 2 ^ 63) := by
      have := Nat.div_add_mod s 4294967296
      omega
    have e3 := congrArg (4294967296 ^ i * ·) e2
    simp only [Nat.mul_add] at e3 h7 ⊢
    omega
theorem dig_top {w0 vs : List Nat} (lw : Lims w0) (hl : w0.length = vs.length + 1) (hn : 1 ≤ vs.length) (hv : vs.getD (vs.length - 1) 0 ≠ 0) (hU : nval w0 < nval vs * 4294967296) : nval w0 / nval vs ≤ min ((w0.getD vs.length 0 * 2 ^ 32 + w0.getD (vs.length - 1) 0) / vs.getD (vs.length - 1) 0) 4294967295 := by
  have hv1 := split_at (l := vs) (Nat.le_refl _) hn
  rw [List.drop_length, nval, Nat.mul_zero, Nat.add_zero] at hv1
  have hV : 4294967296 ^ (vs.length - 1) * vs.getD (vs.length - 1) 0 ≤ nval vs := by omega
  have hpos : 0 < 4294967296 ^ (vs.length - 1) := Nat.pow_pos (by omega)
  have hVp : 0 < nval vs := by
    have : 0 < 4294967296 ^ (vs.length - 1) * vs.getD (vs.length - 1) 0 := Nat.mul_pos hpos (by omega)
    omega
  have h1 : nval w0 / nval vs < 4294967296 := by
    rw [Nat.div_lt_iff_lt_mul hVp, Nat.mul_comm]; exact hU
  have h2 : nval w0 < 4294967296 ^ (vs.length - 1) * (w0.getD vs.length 0 * 2 ^ 32 + w0.getD (vs.length - 1) 0 + 1) := by
    have a1 := split_at (l := w0) (i := vs.length + 1) (by omega) (by omega)
    have a2 := split_at (l := w0.take vs.length) (i := vs.length) (by simp; omega) hn
    rw [Nat.add_sub_cancel, List.drop_of_length_le (by omega), nval, Nat.mul_zero, Nat.add_zero] at a1
    rw [List.drop_of_length_le (by simp; omega), nval, Nat.mul_zero, Nat.add_zero, List.take_take, Nat.min_eq_left (by omega), getD_take (by omega)] at a2
    have a3 := nval_lt (lw.take (vs.length - 1))
    rw [List.length_take, Nat.min_eq_left (by omega)] at a3
    have e : (4294967296 : Nat) ^ vs.length = 4294967296 ^ (vs.length - 1) * 4294967296 := by
      conv => lhs; rw [show vs.length = vs.length - 1 + 1 from by omega, Nat.pow_succ]
    rw [e, Nat.mul_assoc] at a1
    rw [Nat.mul_add, Nat.mul_add, Nat.mul_one, Nat.mul_comm _ (2 ^ 32), show (2 : Nat) ^ 32 = 4294967296 from rfl]
    generalize 4294967296 ^ (vs.length - 1) * (4294967296 * w0.getD vs.length 0) = u1 at a1 ⊢
    generalize 4294967296 ^ (vs.length - 1) * w0.getD (vs.length - 1) 0 = u2 at a2 ⊢
    omega
  refine Nat.le_min.2 ⟨?_, by omega⟩
  rw [Nat.le_div_iff_mul_le (by omega)]
  have h3 := Nat.div_mul_le_self (nval w0) (nval vs)
  have h4 : nval w0 / nval vs * (4294967296 ^ (vs.length - 1) * vs.getD (vs.length - 1) 0) ≤ nval w0 / nval vs * nval vs := Nat.mul_le_mul_left _ hV
  have h5 : 4294967296 ^ (vs.length - 1) * (nval w0 / nval vs * vs.getD (vs.length - 1) 0) < 4294967296 ^ (vs.length - 1) * (w0.getD vs.length 0 * 2 ^ 32 + w0.getD (vs.length - 1) 0 + 1) := by
    rw [Nat.mul_left_comm]
    omega
  have := Nat.lt_of_mul_lt_mul_left h5
  omega
def DigS (w0 vs w : List Nat) (q b : Nat) : Prop := w.length = vs.length + 1 ∧ Lims w ∧ b ≤ 1 ∧ q < 4294967296 ∧ nval w + q * nval vs = nval w0 + 4294967296 ^ (vs.length + 1) * b ∧ nval w0 / nval vs ≤ q
theorem digS_0 {w0 vs w : List Nat} {q i c b : Nat} (hi : i = vs.length + 1) (hl : w0.length = vs.length + 1) (hq : q < 4294967296) (hq2 : nval w0 / nval vs ≤ q) (h : DigR w0 vs q w i c b) : DigS w0 vs w q b := by
  obtain ⟨h1, h2, h3, h4, h5, h6, h7, h8⟩ := h
  subst hi
  rw [List.take_of_length_le (by omega), List.take_of_length_le (by omega), List.take_of_length_le (by omega)] at h7
  have : c = 0 := by rcases h6 with h6 | h6 <;> omega
  subst this
  rw [Nat.zero_add] at h7
  exact ⟨h2, h3, h5, hq, h7, hq2⟩
def DigA (w1 vs w : List Nat) (i c : Nat) : Prop := i ≤ vs.length + 1 ∧ w.length = vs.length + 1 ∧ Lims w ∧ c ≤ 1 ∧ nval (w.take i) + 4294967296 ^ i * c = nval (w1.take i) + nval (vs.take i) ∧ w.drop i = w1.drop i
theorem digA_0 {w0 vs w : List Nat} {q b : Nat} (h : DigS w0 vs w q b) : DigA w vs w 0 0 := ⟨by omega, h.1, h.2.1, by omega, by simp [nval], rfl⟩
theorem digA_s {w1 vs w : List Nat} {i c : Nat} (lv : Lims vs) (hi : i < vs.length + 1) (h : DigA w1 vs w i c) : DigA w1 vs (w.set i ((c + w.getD i 0 + vs.getD i 0) % 4294967296)) (i + 1) ((c + w.getD i 0 + vs.getD i 0) / 2 ^ 32) := by
  obtain ⟨h1, h2, h3, h4, h5, h6⟩ := h
  have hv := getD_lt lv i
  have hx := getD_lt h3 i
  have hxx := getD_drop_eq h6
  refine ⟨by omega, by simpa using h2, h3.set (by omega), by omega, ?_, drop_set_succ h6⟩
  rw [nval_take_set (by omega), nval_take_succ, nval_take_succ, Nat.pow_succ, Nat.mul_assoc, ← hxx]
  generalize hs : c + w.getD i 0 + vs.getD i 0 = s
  have e2 : s % 4294967296 + 4294967296 * (s / 2 ^ 32) = c + w.getD i 0 + vs.getD i 0 := by
    have := Nat.div_add_mod s 4294967296
    omega
  have e3 := congrArg (4294967296 ^ i * ·) e2
  simp only [Nat.mul_add] at e3
  omega
theorem dig_core {W W1 V U q P c : Nat} (h5 : W + P * c = W1 + V) (s5 : W1 + q * V = U + P) (hw : W1 < P) (hc : c ≤ 1) : W + (q - 1) * V = U + P * (1 - c) ∧ U / V < q := by
  have hqv : U < q * V := by omega
  have hVp : 0 < V := by
    rcases Nat.eq_zero_or_pos V with h | h
    · rw [h, Nat.mul_zero] at hqv; omega
    · exact h
  have hlt : U / V < q := (Nat.div_lt_iff_lt_mul hVp).2 hqv
  refine ⟨?_, hlt⟩
  have hq0 := Nat.zero_lt_of_lt hlt
  clear hlt
  obtain ⟨k, rfl⟩ : ∃ k, q = k + 1 := ⟨q - 1, by omega⟩
  rw [Nat.succ_mul] at s5
  rw [Nat.add_sub_cancel]
  have : c = 0 ∨ c = 1 := by omega
  rcases this with rfl | rfl
  · rw [Nat.mul_zero] at h5; rw [Nat.sub_zero, Nat.mul_one]; omega
  · rw [Nat.mul_one] at h5; rw [Nat.sub_self, Nat.mul_zero]; omega
theorem digA_end {w0 w1 vs w : List Nat} {q b i c : Nat} (hi : i = vs.length + 1) (hb : 0 < b) (hs : DigS w0 vs w1 q b) (h : DigA w1 vs w i c) : DigS w0 vs w (q - 1) (b - c) ∧ 1 ≤ q := by
  obtain ⟨h1, h2, h3, h4, h5, h6⟩ := h
  obtain ⟨s1, s2, s3, s4, s5, s6⟩ := hs
  subst hi
  rw [List.take_of_length_le (Nat.le_of_eq h2), List.take_of_length_le (Nat.le_of_eq s1), List.take_of_length_le (Nat.le_succ _)] at h5
  have hb1 : b = 1 := Nat.le_antisymm s3 hb
  subst hb1
  have hw := nval_lt s2
  rw [s1] at hw
  rw [Nat.mul_one] at s5
  obtain ⟨k1, k2⟩ := dig_core h5 s5 hw h4
  exact ⟨⟨h2, h3, Nat.sub_le _ _, Nat.lt_of_le_of_lt (Nat.sub_le _ _) s4, k1, Nat.le_sub_one_of_lt k2⟩, Nat.one_le_of_lt k2⟩
theorem digS_end {w0 vs w : List Nat} {q b : Nat} (hb : b = 0) (h : DigS w0 vs w q b) (hV : nval vs ≠ 0) : q = nval w0 / nval vs ∧ w.length = vs.length + 1 ∧ Lims w ∧ nval w = nval w0 % nval vs := by
  obtain ⟨s1, s2, s3, s4, s5, s6⟩ := h
  subst hb
  rw [Nat.mul_zero, Nat.add_zero] at s5
  have h1 : q ≤ nval w0 / nval vs := by
    rw [Nat.le_div_iff_mul_le (by omega)]; omega
  have h2 : q = nval w0 / nval vs := by omega
  refine ⟨h2, s1, s2, ?_⟩
  have := Nat.div_add_mod (nval w0) (nval vs)
  rw [← h2, Nat.mul_comm] at this
  omega
theorem top_ne {vs : List Nat} (hv : vs.getD (vs.length - 1) 0 ≠ 0) (hn : 1 ≤ vs.length) : nval vs ≠ 0 := by
  have hv1 := split_at (l := vs) (Nat.le_refl _) hn
  rw [List.drop_length, nval, Nat.mul_zero, Nat.add_zero] at hv1
  have : 0 < 4294967296 ^ (vs.length - 1) * vs.getD (vs.length - 1) 0 := Nat.mul_pos (Nat.pow_pos (by omega)) (by omega)
  omega
theorem min_lt32 {a : Nat} : min a 4294967295 < 4294967296 := by omega
theorem offs1 {o i : Nat} : o + i * 1 = (o + i) * 1 + 0 := by omega
theorem digS_pos {w0 vs w : List Nat} {q b : Nat} (hs : DigS w0 vs w q b) (hb : 0 < b) : 1 ≤ q := by
  obtain ⟨s1, s2, s3, s4, s5, s6⟩ := hs
  have hb1 : b = 1 := Nat.le_antisymm s3 hb
  subst hb1
  have hw := nval_lt s2
  rw [s1] at hw
  rw [Nat.mul_one] at s5
  generalize 4294967296 ^ (vs.length + 1) = P at s5 hw
  rcases Nat.eq_zero_or_pos q with h | h
  · subst h; rw [Nat.zero_mul] at s5; omega
  · exact h
end Fw
/- Plain facts on limbs: shifts by less than a limb; a long quotient. -/
set_option linter.unusedVariables false
set_option linter.unusedSimpArgs false
set_option exponentiation.threshold 70
namespace Fw
open Go (IntKind)
theorem quo32 {n : Nat} (h : n < 32) : IntKind.i64.wrap ((n : Int).tdiv 32) = 0 := by
  have : (n : Int).tdiv 32 = ((n / 32 : Nat) : Int) := rfl
  rw [this, Nat.div_eq_of_lt h]; rfl
theorem rem32 {n : Nat} (h : n < 32) : (n : Int).tmod 32 = (n : Int) := by
  have : (n : Int).tmod 32 = ((n % 32 : Nat) : Int) := rfl
  rw [this, Nat.mod_eq_of_lt h]
theorem orN32 (j : Nat) {a b : Int} {s t : Nat} (ha : a = t) (hb : b = ((s * 2 ^ j : Nat) : Int)) (ht : t < 2 ^ j) (hs : s * 2 ^ j + t < 4294967296) : IntKind.u32.wrap ((BitVec.ofInt IntKind.u32.bits a ||| BitVec.ofInt IntKind.u32.bits b).toNat) = ((s * 2 ^ j + t : Nat) : Int) := by
  subst ha hb
  have h1 : (BitVec.ofInt IntKind.u32.bits ((s * 2 ^ j : Nat) : Int)).toNat = s * 2 ^ j := by
    rw [BitVec.ofInt_natCast, BitVec.toNat_ofNat]
    exact Nat.mod_eq_of_lt (Nat.lt_of_le_of_lt (Nat.le_add_right _ t) hs)
  have h2 : (BitVec.ofInt IntKind.u32.bits (t : Int)).toNat = t := by
    rw [BitVec.ofInt_natCast, BitVec.toNat_ofNat]
    exact Nat.mod_eq_of_lt (Nat.lt_of_le_of_lt (Nat.le_add_left t _) hs)
  rw [BitVec.toNat_or, h1, h2, Nat.or_comm, Nat.mul_comm s, ← Nat.two_pow_add_eq_or_of_lt ht, Nat.mul_comm, wr32 rfl, Nat.mod_eq_of_lt hs]
theorem pow32 {n : Nat} (h : n < 32) : 1 ≤ 2 ^ n ∧ 2 ^ n ≤ 2147483648 ∧ 2 ^ n * 2 ^ (32 - n) = 4294967296 := by
  refine ⟨Nat.two_pow_pos n, ?_, ?_⟩
  · exact Nat.pow_le_pow_right (n := 2) (by decide) (Nat.le_of_lt_succ h : n ≤ 31)
  · rw [← Nat.pow_add, Nat.add_sub_cancel' (Nat.le_of_lt h)]
theorem shl_lo {x n : Nat} (h : n < 32) : x * 2 ^ n % 4294967296 = x % 2 ^ (32 - n) * 2 ^ n := by
  rw [← (pow32 h).2.2, Nat.mul_comm (2 ^ n), Nat.mul_mod_mul_right]
theorem shl_hi {x n : Nat} (h : n < 32) (hx : x < 4294967296) : x * 2 ^ n / 2 ^ 32 < 2 ^ n ∧ x * 2 ^ n < 18446744073709551616 := by
  obtain ⟨h1, h2, h3⟩ := pow32 h
  constructor
  · rw [Nat.div_lt_iff_lt_mul (by decide), Nat.mul_comm]
    exact Nat.mul_lt_mul_of_pos_left hx h1
  · have : x * 2 ^ n ≤ 4294967295 * 2147483648 := Nat.mul_le_mul (Nat.le_of_lt_succ hx) h2
    exact Nat.lt_of_le_of_lt this (by decide)
theorem shl_or {x n t : Nat} (h : n < 32) (ht : t < 2 ^ n) : x % 2 ^ (32 - n) * 2 ^ n + t < 4294967296 := by
  obtain ⟨h1, h2, h3⟩ := pow32 h
  have h4 : x % 2 ^ (32 - n) + 1 ≤ 2 ^ (32 - n) := Nat.mod_lt _ (Nat.two_pow_pos _)
  have h5 := Nat.mul_le_mul_right (2 ^ n) h4
  rw [Nat.succ_mul, Nat.mul_comm (2 ^ (32 - n)), h3] at h5
  omega
def ShlR (l row : List Nat) (n i : Nat) : Prop := i ≤ l.length ∧ row.length = l.length + 1 ∧ Lims row ∧ row.getD i 0 < 2 ^ n ∧ nval (row.take (i + 1)) = nval (l.take i) * 2 ^ n
theorem shlR_0 (l : List Nat) (n : Nat) : ShlR l (List.replicate (l.length + 1) 0) n 0 := by
  refine ⟨by omega, by simp, fun x hx => ?_, ?_, ?_⟩
  · have := (List.mem_replicate.1 hx).2; omega
  · rw [List.getD_eq_getElem?_getD, List.getElem?_replicate]
    have := Nat.two_pow_pos n
    split <;> simpa using this
  · rw [List.take_replicate, nval_replicate0]; simp [nval]
theorem shlR_s {l row : List Nat} {n i : Nat} (lL : Lims l) (hn : n < 32) (hi : i < l.length) (h : ShlR l row n i) :
    ShlR l ((row.set i (l.getD i 0 % 2 ^ (32 - n) * 2 ^ n + row.getD i 0)).set (i + 1) (l.getD i 0 * 2 ^ n / 2 ^ 32)) n (i + 1) := by
  obtain ⟨h1, h2, h3, h4, h5⟩ := h
  have hx := getD_lt lL i
  obtain ⟨k1, k2⟩ := shl_hi hn hx
  have k3 := shl_or (x := l.getD i 0) hn h4
  have k4 : l.getD i 0 * 2 ^ n / 2 ^ 32 < 4294967296 := Nat.lt_of_lt_of_le k1 (Nat.le_trans (pow32 hn).2.1 (by decide))
  refine ⟨by omega, by simpa using h2, (h3.set k3).set k4, ?_, ?_⟩
  · rw [List.getD_eq_getElem?_getD, List.getElem?_set_self (by simp; omega)]; exact k1
  · rw [nval_take_set (by simp; omega), nval_take_set (by omega), nval_take_succ, Nat.add_mul, ← h5, nval_take_succ, ← shl_lo hn, Nat.pow_succ]
    rw [Nat.mul_assoc _ (l.getD i 0), Nat.mul_assoc (4294967296 ^ i) 4294967296]
    generalize l.getD i 0 * 2 ^ n = s
    have e2 : s % 4294967296 + 4294967296 * (s / 2 ^ 32) = s := by
      have := Nat.div_add_mod s 4294967296
      omega
    have e3 := congrArg (4294967296 ^ i * ·) e2
    simp only [Nat.mul_add] at e3 ⊢
    omega
theorem shlR_end {l row : List Nat} {n i : Nat} (hi : i = l.length) (h : ShlR l row n i) : nval row = nval l * 2 ^ n := by
  obtain ⟨h1, h2, h3, h4, h5⟩ := h
  subst hi
  rwa [List.take_length, List.take_of_length_le (Nat.le_of_eq h2)] at h5
def ShrR (l r : List Nat) (n : Nat) : Prop := r.length ≤ l.length ∧ Lims r ∧ nval r = (nval l / 2 ^ n) % 4294967296 ^ r.length
theorem shrR_0 (l : List Nat) (n : Nat) : ShrR l [] n := ⟨by simp, fun x h => (by cases h), by simp [nval, Nat.mod_one]⟩
theorem limb_at (l : List Nat) (hl : Lims l) (i : Nat) : l.getD i 0 = nval l / 4294967296 ^ i % 4294967296 := by
  have h1 := nval_split l i
  rw [nval_drop] at h1
  have h2 := nval_lt' hl i
  have h3 := getD_lt hl i
  have hp : 0 < 4294967296 ^ i := Nat.pow_pos (by decide)
  rw [h1, Nat.add_mul_div_left _ _ hp, Nat.div_eq_of_lt h2, Nat.zero_add, Nat.add_mul_mod_self_left, Nat.mod_eq_of_lt h3]
theorem two_limbs (l : List Nat) (hl : Lims l) (i : Nat) : l.getD (i + 1) 0 * 2 ^ 32 + l.getD i 0 = nval l / 4294967296 ^ i % 18446744073709551616 := by
  rw [limb_at l hl i, limb_at l hl (i + 1), Nat.pow_succ, ← Nat.div_div_eq_div_mul]
  generalize nval l / 4294967296 ^ i = z
  omega
theorem shr_dig {z n : Nat} (hn : n < 32) : z % 18446744073709551616 / 2 ^ n % 4294967296 = z / 2 ^ n % 4294967296 := by
  obtain ⟨h1, h2, h3⟩ := pow32 hn
  have e : 18446744073709551616 = 2 ^ n * (2 ^ (32 - n) * 4294967296) := by
    rw [← Nat.mul_assoc, h3]
  rw [e, Nat.mod_mul_right_div_self, Nat.mul_comm (2 ^ (32 - n)), Nat.mod_mul_right_mod]
theorem shrR_s {l r : List Nat} {n : Nat} (lL : Lims l) (hn : n < 32) (hi : r.length < l.length) (h : ShrR l r n) :
    ShrR l (r ++ [(l.getD (r.length + 1) 0 * 2 ^ 32 + l.getD r.length 0) / 2 ^ n % 4294967296]) n := by
  obtain ⟨h1, h2, h3⟩ := h
  refine ⟨by simp; omega, h2.concat (Nat.mod_lt _ (by decide)), ?_⟩
  rw [nval_concat, two_limbs l lL, shr_dig hn, h3, List.length_append, List.length_singleton, Nat.div_div_eq_div_mul, Nat.mul_comm (4294967296 ^ r.length) (2 ^ n), ← Nat.div_div_eq_div_mul, Nat.pow_succ, Nat.mod_mul]
theorem shrR_end {l r : List Nat} {n : Nat} (lL : Lims l) (hr : r.length = l.length) (h : ShrR l r n) : nval r = nval l / 2 ^ n := by
  obtain ⟨h1, h2, h3⟩ := h
  rw [h3, hr, Nat.mod_eq_of_lt]
  exact Nat.lt_of_le_of_lt (Nat.div_le_self _ _) (nval_lt lL)
theorem orN' (j : Nat) {a b : Int} {s t : Nat} (ha : a = t) (hb : b = ((s * 2 ^ j : Nat) : Int)) (ht : t < 2 ^ j) (hs : s * 2 ^ j + t < 18446744073709551616) : IntKind.u64.wrap ((BitVec.ofInt IntKind.u64.bits a ||| BitVec.ofInt IntKind.u64.bits b).toNat) = ((s * 2 ^ j + t : Nat) : Int) := by
  rw [BitVec.or_comm]
  exact orN j hb ha ht hs
end Fw
/- What shl, shr, digit and Div of layer 1 answer. -/
set_option linter.unusedVariables false
set_option linter.unusedSimpArgs false
set_option exponentiation.threshold 70
set_option maxRecDepth 20000
set_option maxHeartbeats 1000000
namespace Fw
open Go Go.Proofs
theorem c_trimO (v : Value) (l : List Nat) : Con Tryz.prog 191 [VP.ex v] [OB.row v 93 kLimb l] (fun p Lo => ∃ (u : Value), p = VP.ex u ∧ Lo = [OB.row u 93 kLimb (limbs (nval l))] ∧ True) := by
 refine Con.enter Tryz.func191 rfl rfl fun m w => CW.seq (ST.rowfact 0 rfl fun hB hL => CW.region (Wa rfl (Wn (CW.seq (CW.block (ST.obtold 0 rfl (OB.row_eq (ys := (l.take l.length)) (by rw [List.take_length])) (CW.loop2 (fun (i : Nat) (u : Value) => i ≤ l.length ∧ nval (l.take i) = nval l) (fun (i : Nat) (u : Value) => [(0, VP.ex u)]) (fun (i : Nat) (u : Value) => [OB.row u 93 kLimb (l.take i)]) (fun (i : Nat) (u : Value) => i) l.length v ⟨Nat.le_refl _, by rw [List.take_length]⟩ (Imp.cons rfl Imp.nil) (OImp.refl _) ?_)))))))
 intro i u ⟨hi, hr⟩
 have hlen : (l.take i).length = i := by simp; omega
 refine CW.seq (Cr (Wm rfl (Ws (O.lenR rfl (mem_at 0 rfl) U27) (Ws (O.gt rfl rfl) (Wm rfl ?_)))))
 refine WP.splitD 6 rfl (fun h_t6 => ?_) (fun h_t6 => ?_)
 ·
  have h_t6' : 0 < i := by omega
  refine WP.s (.g rfl rfl) (O.mv rfl) (WP.s (.g rfl rfl) (O.mv rfl) (WP.s (.g rfl rfl) (O.lenR rfl (mem_at 0 rfl) U27) (WP.s (.g rfl rfl) (O.sub rfl rfl (c := (((l.take i).length : Int) - 1)) (w64 (by omega))) (WP.s (.g rfl rfl) (O.ixR (k := kLimb) (xs := (l.take i)) (n := (((l.take i).length : Int) - 1)) (i - 1) rfl rfl (mem_at 0 rfl) U27 ty93 (by omega) (by omega)) (WP.s (.g rfl rfl) (OpOk.le (O.ldR (i - 1) rfl (mem_at 0 rfl) Li rfl (y := ((l.take i).getD (i - 1) 0)) (gd 0 (by omega)) ty93 rfl) (limb_le _)) (WP.s (.g rfl rfl) (O.eq rfl rfl) (Ws (O.pickT rfl rfl) (Wn ?_))))))))
  refine CW.condD rfl (fun h_t14 => ?_) (fun h_t14 => ?_)
  ·
   refine CW.skip (QE.next (CW.block (CW.region (Wm rfl (Wm rfl (Ws (O.lenR rfl (mem_at 0 rfl) U27) (Ws (O.sub rfl rfl (c := (((l.take i).length : Int) - 1)) (w64 (by omega))) (WP.slR 0 (i - 1) .n rfl rfl rfl U27 ty93 (by omega) (by omega) fun v1 => Wa rfl (WP.nil (QE.blkN (ST.obtold 0 rfl (OB.row_eq (ys := (l.take (i - 1))) (take_take1 hi)) ?_)))))))))))
   exact QE.round2 (i - 1) v1 (by omega) ⟨by omega, (trim_down hi h_t6' h_t14).trans hr⟩ (Imp.cons rfl Imp.nil) (OImp.refl _)
  ·
   refine CW.exit (QE.thenE (QE.thenE (QE.blkH (QE.next (Cr (Wm rfl (Wa rfl (Wn (CW.ret (ST.obtold 0 rfl (OB.row_eq (ys := (limbs (nval l))) (trim_stop hL hi h_t6' h_t14 hr)) ?_))))))))))
   exact QE.done (.inl rfl) rfl (ResOk.t rfl ResOk.nil) (OImp.refl _) ⟨u, rfl, rfl, trivial⟩
 ·
  refine WP.k (b := false) rfl rfl (WP.k (b := false) rfl rfl (WP.k (b := false) rfl rfl (WP.k (b := false) rfl rfl (WP.k (b := false) rfl rfl (WP.k (b := false) rfl rfl (WP.k (b := false) rfl rfl (Ws (O.pickF rfl rfl) (Wn (CW.condF rfl (CW.exit (QE.thenE (QE.thenE (QE.blkH (QE.next (Cr (Wm rfl (Wa rfl (Wn (CW.ret (ST.obtold 0 rfl (OB.row_eq (ys := (limbs (nval l))) (trim_stop0 hr (by omega))) ?_))))))))))))))))))))
  exact QE.done (.inl rfl) rfl (ResOk.t rfl ResOk.nil) (OImp.refl _) ⟨u, rfl, rfl, trivial⟩
theorem c_nat_digit (v : Value) (l vs : List Nat) (o : Nat) (ho : o + (vs.length + 1) ≤ l.length) (hn : 1 ≤ vs.length) (hv : vs.getD (vs.length - 1) 0 ≠ 0) (hU : nval ((l.drop o).take (vs.length + 1)) < nval vs * 4294967296) : Con Tryz.prog 274 [VP.win v o (vs.length + 1), kN.is vs] [OB.row v 93 kLimb l] (fun p Lo => ∃ (w : List Nat), p = (kInt .u32).is ((nval ((l.drop o).take (vs.length + 1)) / nval vs : Nat) : Int) ∧ Lo = [OB.row v 93 kLimb (l.take o ++ w ++ l.drop (o + (vs.length + 1)))] ∧ w.length = vs.length + 1 ∧ Lims w ∧ nval w = nval ((l.drop o).take (vs.length + 1)) % nval vs) := by
 refine Con.enter Tryz.func274 rfl rfl fun m w => ST.rowfact 0 rfl fun hB hL => ST.fact (i := 1) rfl kN_lims fun lv => ST.fact (i := 1) rfl sl_len fun hBv => ?_
 obtain ⟨w0, hw0⟩ : ∃ w0, w0 = (l.drop o).take (vs.length + 1) := ⟨_, rfl⟩
 have lw0 : Lims w0 := by rw [hw0]; exact (hL.drop _).take _
 have hw0l : w0.length = vs.length + 1 := by rw [hw0]; simp; omega
 have hU0 : nval w0 < nval vs * 4294967296 := by rw [hw0]; exact hU
 have hol : o ≤ l.length := by omega
 refine ST.obtold 0 rfl (OB.row_eq (ys := (l.take o ++ w0 ++ l.drop (o + (vs.length + 1)))) (by rw [hw0]; exact win_self)) ?_
 have hx1 := getD_lt lw0 vs.length
 have hx2 := getD_lt lw0 (vs.length - 1)
 have hx3 := getD_lt lv (vs.length - 1)
 have hrl := win_len (o := o) ho hw0l
 refine Cr (Wa rfl (Wr (Wm rfl (Ws (O.lenS rfl U27) (Wa rfl (Wn (CW.seq ?_)))))))
 refine CW.drawM (Γ := [.fr (VP.win v o (vs.length + 1)), .fr (kN6.is (vs.length : Int)), .fr (VP.pel v (o + vs.length * 1)), .fr ((kInt .u32).is ((w0.getD vs.length 0) : Int)), .fr ((kInt .u64).is ((w0.getD vs.length 0) : Int)), .fr ((kInt .u64).is ((w0.getD vs.length 0 * 2 ^ 32 : Nat) : Int)), .fr (VP.win v o (vs.length + 1)), .fr (kN6.is (vs.length : Int)), .fr (kN6.is ((vs.length : Int) - 1)), .fr (VP.pel v (o + (vs.length - 1) * 1)), .fr ((kInt .u32).is ((w0.getD (vs.length - 1) 0) : Int)), .fr ((kInt .u64).is ((w0.getD (vs.length - 1) 0) : Int)), .fr ((kInt .u64).is ((w0.getD vs.length 0 * 2 ^ 32 + w0.getD (vs.length - 1) 0 : Nat) : Int))]) (om rfl rfl (om rfl rfl (of_ rfl (fun N => O.ixW (sz := 1) vs.length rfl rfl U27 ty93 rfl (by omega)) (of_ rfl (fun N => OpOk.le (O.ldR (k := kLimb) (xs := (l.take o ++ w0 ++ l.drop (o + (vs.length + 1)))) (o + vs.length) rfl (mem_app N (mem_at 0 rfl)) Li (ho := offs1) (y := (w0.getD vs.length 0)) (win_get hol (by omega)) ty93 rfl) (limb_le _)) (of_ rfl (fun N => O.cvt rfl U93 U178 (c := ((w0.getD vs.length 0) : Int)) (wu64 (by omega))) (of_ rfl (fun N => O.shl rfl rfl (by omega) (c := ((w0.getD vs.length 0 * 2 ^ 32 : Nat) : Int)) (shlN 32 rfl rfl (by decide) (by omega))) (om rfl rfl (om rfl rfl (of_ rfl (fun N => O.sub rfl rfl (c := ((vs.length : Int) - 1)) (w64 (by omega))) (of_ rfl (fun N => O.ixW (sz := 1) (vs.length - 1) rfl rfl U27 ty93 (by omega) (by omega)) (of_ rfl (fun N => OpOk.le (O.ldR (k := kLimb) (xs := (l.take o ++ w0 ++ l.drop (o + (vs.length + 1)))) (o + (vs.length - 1)) rfl (mem_app N (mem_at 0 rfl)) Li (ho := offs1) (y := (w0.getD (vs.length - 1) 0)) (win_get hol (by omega)) ty93 rfl) (limb_le _)) (of_ rfl (fun N => O.cvt rfl U93 U178 (c := ((w0.getD (vs.length - 1) 0) : Int)) (wu64 (by omega))) (of_ rfl (fun N => O.or rfl rfl (c := ((w0.getD vs.length 0 * 2 ^ 32 + w0.getD (vs.length - 1) 0 : Nat) : Int)) (orN 32 rfl rfl hx2 (by omega))) oz))))))))))))) (fun σ => ?_)
 refine Wa rfl (Wr (Wm rfl (Wm rfl (Wm rfl (Ws (O.sub rfl rfl (c := ((vs.length : Int) - 1)) (w64 (by omega))) (Ws (O.ix (vs.length - 1) rfl rfl U27 ty93 (by omega) (v := (vs.getD (vs.length - 1) 0)) (gd 0 (by omega))) (Ws (OpOk.le (O.ldP rfl ty93) (limb_le _)) (Ws (O.cvt rfl U93 U178 (c := ((vs.getD (vs.length - 1) 0) : Int)) (wu64 (by omega))) (Ws (O.quo rfl rfl (by omega) (c := (((w0.getD vs.length 0 * 2 ^ 32 + w0.getD (vs.length - 1) 0) / vs.getD (vs.length - 1) 0 : Nat) : Int)) (quoN (vs.getD (vs.length - 1) 0) rfl rfl (by omega))) (Ws (O.mn rfl rfl) (Wa rfl (Wn (CW.seq ?_)))))))))))))
 obtain ⟨q, hqd⟩ : ∃ q, q = min ((w0.getD vs.length 0 * 2 ^ 32 + w0.getD (vs.length - 1) 0) / vs.getD (vs.length - 1) 0) 4294967295 := ⟨_, rfl⟩
 have hq : q < 4294967296 := by rw [hqd]; exact min_lt32
 have hq2 : nval w0 / nval vs ≤ q := by rw [hqd]; exact dig_top lw0 hw0l hn hv hU0
 refine ST.told 7 rfl (is_eq (y := (q : Int)) (by rw [hqd]; exact minN)) (CW.region (Wa rfl (Wa rfl (Wn (CW.seq (Cr (Wm rfl (Ws (O.add rfl rfl (c := ((vs.length : Int) + 1)) (w64 (by omega))) (Wm rfl (Wn (CW.block (CW.loop4 (fun (w : List Nat) (i : Nat) (c : Nat) (b : Nat) => DigR w0 vs q w i c b) (fun (w : List Nat) (i : Nat) (c : Nat) (b : Nat) => [(0, VP.win v o (vs.length + 1)), (1, kN.is vs), (5, kN6.is (vs.length : Int)), (7, (kInt .u64).is (q : Int)), (8, (kInt .u64).is (c : Int)), (9, (kInt .u64).is (b : Int)), (40, kN6.is ((vs.length : Int) + 1)), (41, kN6.is (i : Int))]) (fun (w : List Nat) (i : Nat) (c : Nat) (b : Nat) => [OB.row v 93 kLimb (l.take o ++ w ++ l.drop (o + (vs.length + 1)))]) (fun (w : List Nat) (i : Nat) (c : Nat) (b : Nat) => vs.length + 1 - i) w0 0 0 0 (digR_0 hw0l lw0) (Imp.c4 rfl rfl rfl rfl (Imp.consLe rfl (is_eq (y := (0 : Int)) (by omega)) (Imp.consLe rfl (is_eq (y := (0 : Int)) (by omega)) (Imp.cons rfl (Imp.consLe rfl (is_eq (y := (0 : Int)) (by omega)) Imp.nil))))) (OImp.refl _) ?_))))))))))))
 intro w i c b hD
 have hwl := hD.2.1
 have hx := getD_lt hD.2.2.1 i
 have hc := hD.2.2.2.1
 have hb := hD.2.2.2.2.1
 have hy := getD_lt lv i
 have hqy := mul_bd hq hy
 have hpm : (c + q * vs.getD i 0) % 4294967296 < 4294967296 := Nat.mod_lt _ (by omega)
 have hrl := win_len (o := o) ho hwl
 have hi := hD.1
 refine Cr (Ws (O.lt rfl rfl) (Wn (CW.seq ?_)))
 refine CW.condD rfl (fun h_t42 => ?_) (fun h_t42 => ?_)
 ·
  refine CW.skip (QE.next (CW.seq (CW.block (Cr (Wm rfl (Wa rfl (Wr (Wm rfl (Wa rfl (Wn (CW.seq (Cr (Wm rfl (Wm rfl (Ws (O.lt rfl rfl) (Wn ?_))))))))))))))))
  refine CW.condD rfl (fun h_t47 => ?_) (fun h_t47 => ?_)
  ·
   refine CW.region (Wm rfl (Wm rfl (Wm rfl (Wm rfl (Ws (O.ix i rfl rfl U27 ty93 rfl (v := (vs.getD i 0)) (gd 0 (by omega))) (Ws (OpOk.le (O.ldP rfl ty93) (limb_le _)) (Ws (O.cvt rfl U93 U178 (c := ((vs.getD i 0) : Int)) (wu64 (by omega))) (Ws (O.mul rfl rfl (c := ((q * vs.getD i 0 : Nat) : Int)) (wu64 ⟨by norm_cast, by omega, by omega⟩)) (Ws (O.add rfl rfl (c := ((c + q * vs.getD i 0 : Nat) : Int)) (wu64 (by omega))) (Wa rfl (Wr (Wm rfl (Ws (O.shr rfl rfl (by omega) (c := (((c + q * vs.getD i 0) / 2 ^ 32 : Nat) : Int)) (shrN 32 rfl rfl (by decide))) (Wa rfl (Wr (Wm rfl (Wm rfl ?_)))))))))))))))))
   refine Ws (O.ixW (sz := 1) i rfl rfl U27 ty93 rfl (by omega)) (Ws (OpOk.le (O.ldR (k := kLimb) (xs := (l.take o ++ w ++ l.drop (o + (vs.length + 1)))) (o + i) rfl (mem_at 0 rfl) Li (ho := offs1) (y := (w.getD i 0)) (win_get hol (by omega)) ty93 rfl) (limb_le _)) (Ws (O.cvt rfl U93 U178 (c := ((w.getD i 0) : Int)) (wu64 (by omega))) (Wm rfl (Ws (O.cvt rfl U178 U93 (c := (((c + q * vs.getD i 0) % 4294967296 : Nat) : Int)) (wr32 rfl)) (Ws (O.cvt rfl U93 U178 (c := (((c + q * vs.getD i 0) % 4294967296 : Nat) : Int)) (wu64 (by omega))) (Ws (O.sub rfl rfl (c := ((lessV 0 (w.getD i 0) ((c + q * vs.getD i 0) % 4294967296) : Nat) : Int)) (dsub1 hx hpm)) (Wm rfl (Ws (O.sub rfl rfl (c := ((lessV b (w.getD i 0) ((c + q * vs.getD i 0) % 4294967296) : Nat) : Int)) (dsub2 hb hx hpm)) (Wa rfl (Wr (Wm rfl (Wm rfl (Wm rfl (Ws (O.cvt rfl U178 U93 (c := ((lessV b (w.getD i 0) ((c + q * vs.getD i 0) % 4294967296) % 4294967296 : Nat) : Int)) (wr32 rfl)) (Ws (O.ixW (sz := 1) i rfl rfl U27 ty93 rfl (by omega)) (WP.t .n (O.stR 0 (o + i) rfl rfl Li offs1 (y0 := ((l.take o ++ w ++ l.drop (o + (vs.length + 1))).getD (o + i) 0)) (gd 0 (by omega)) ty93 rfl (u32_limb (x := (lessV b (w.getD i 0) ((c + q * vs.getD i 0) % 4294967296) % 4294967296 : Nat)) (by omega))) (Wn (CW.region (Wm rfl ?_)))))))))))))))))))
   refine Ws (O.shr rfl rfl (by omega) (c := ((lessV b (w.getD i 0) ((c + q * vs.getD i 0) % 4294967296) / 2 ^ 63 : Nat) : Int)) (shrN 63 rfl rfl (by decide))) (Wa rfl (WP.nil (QE.blkN (QE.next (CW.region (Ws (O.add rfl rfl (c := ((i : Int) + 1)) (w64 (by omega))) (Wm rfl (WP.nil (ST.obtold 0 rfl (OB.row_eq (ys := (l.take o ++ (w.set i (lessV b (w.getD i 0) ((c + q * vs.getD i 0) % 4294967296) % 4294967296)) ++ l.drop (o + (vs.length + 1)))) (win_set hol (by omega))) ?_)))))))))
   exact QE.round4 (w.set i (lessV b (w.getD i 0) ((c + q * vs.getD i 0) % 4294967296) % 4294967296)) (i + 1) ((c + q * vs.getD i 0) / 2 ^ 32) (lessV b (w.getD i 0) ((c + q * vs.getD i 0) % 4294967296) / 2 ^ 63) (by omega) (digR_s lv hq (by omega) hD) (Imp.c4 rfl rfl rfl rfl (Imp.consLe rfl (is_eq (y := ((((c + q * vs.getD i 0) / 2 ^ 32) : Nat) : Int)) (by omega)) (Imp.consLe rfl (is_eq (y := (((lessV b (w.getD i 0) ((c + q * vs.getD i 0) % 4294967296) / 2 ^ 63) : Nat) : Int)) (by omega)) (Imp.cons rfl (Imp.consLe rfl (is_eq (y := (((i + 1) : Nat) : Int)) (by omega)) Imp.nil))))) (OImp.refl _)
  ·
   have hy0 := getD_out (l := vs) (i := i) (by omega)
   refine ST.told 11 rfl (is_eq (y := ((c + q * vs.getD i 0 : Nat) : Int)) (by rw [hy0]; rfl)) (CW.skip (QE.next (Cr (Wm rfl (Ws (O.shr rfl rfl (by omega) (c := (((c + q * vs.getD i 0) / 2 ^ 32 : Nat) : Int)) (shrN 32 rfl rfl (by decide))) (Wa rfl (Wr (Wm rfl (Wm rfl (Ws (O.ixW (sz := 1) i rfl rfl U27 ty93 rfl (by omega)) (Ws (OpOk.le (O.ldR (k := kLimb) (xs := (l.take o ++ w ++ l.drop (o + (vs.length + 1)))) (o + i) rfl (mem_at 0 rfl) Li (ho := offs1) (y := (w.getD i 0)) (win_get hol (by omega)) ty93 rfl) (limb_le _)) (Ws (O.cvt rfl U93 U178 (c := ((w.getD i 0) : Int)) (wu64 (by omega))) (Wm rfl (Ws (O.cvt rfl U178 U93 (c := (((c + q * vs.getD i 0) % 4294967296 : Nat) : Int)) (wr32 rfl)) (Ws (O.cvt rfl U93 U178 (c := (((c + q * vs.getD i 0) % 4294967296 : Nat) : Int)) (wu64 (by omega))) (Ws (O.sub rfl rfl (c := ((lessV 0 (w.getD i 0) ((c + q * vs.getD i 0) % 4294967296) : Nat) : Int)) (dsub1 hx hpm)) (Wm rfl (Ws (O.sub rfl rfl (c := ((lessV b (w.getD i 0) ((c + q * vs.getD i 0) % 4294967296) : Nat) : Int)) (dsub2 hb hx hpm)) (Wa rfl ?_)))))))))))))))))))
   refine Wr (Wm rfl (Wm rfl (Wm rfl (Ws (O.cvt rfl U178 U93 (c := ((lessV b (w.getD i 0) ((c + q * vs.getD i 0) % 4294967296) % 4294967296 : Nat) : Int)) (wr32 rfl)) (Ws (O.ixW (sz := 1) i rfl rfl U27 ty93 rfl (by omega)) (WP.t .n (O.stR 0 (o + i) rfl rfl Li offs1 (y0 := ((l.take o ++ w ++ l.drop (o + (vs.length + 1))).getD (o + i) 0)) (gd 0 (by omega)) ty93 rfl (u32_limb (x := (lessV b (w.getD i 0) ((c + q * vs.getD i 0) % 4294967296) % 4294967296 : Nat)) (by omega))) (Wn (CW.region (Wm rfl (Ws (O.shr rfl rfl (by omega) (c := ((lessV b (w.getD i 0) ((c + q * vs.getD i 0) % 4294967296) / 2 ^ 63 : Nat) : Int)) (shrN 63 rfl rfl (by decide))) (Wa rfl (WP.nil (QE.blkN (QE.next (CW.region (Ws (O.add rfl rfl (c := ((i : Int) + 1)) (w64 (by omega))) (Wm rfl (WP.nil (ST.obtold 0 rfl (OB.row_eq (ys := (l.take o ++ (w.set i (lessV b (w.getD i 0) ((c + q * vs.getD i 0) % 4294967296) % 4294967296)) ++ l.drop (o + (vs.length + 1)))) (win_set hol (by omega))) ?_)))))))))))))))))))
   exact QE.round4 (w.set i (lessV b (w.getD i 0) ((c + q * vs.getD i 0) % 4294967296) % 4294967296)) (i + 1) ((c + q * vs.getD i 0) / 2 ^ 32) (lessV b (w.getD i 0) ((c + q * vs.getD i 0) % 4294967296) / 2 ^ 63) (by omega) (digR_s lv hq (by omega) hD) (Imp.c4 rfl rfl rfl rfl (Imp.consLe rfl (is_eq (y := ((((c + q * vs.getD i 0) / 2 ^ 32) : Nat) : Int)) (by omega)) (Imp.consLe rfl (is_eq (y := (((lessV b (w.getD i 0) ((c + q * vs.getD i 0) % 4294967296) / 2 ^ 63) : Nat) : Int)) (by omega)) (Imp.cons rfl (Imp.consLe rfl (is_eq (y := (((i + 1) : Nat) : Int)) (by omega)) Imp.nil))))) (OImp.refl _)
 ·
  refine CW.exit (QE.thenE (QE.thenE (QE.blkH (QE.next (CW.seq (CW.block (CW.loop3 (fun (w : List Nat) (q : Nat) (b : Nat) => DigS w0 vs w q b) (fun (w : List Nat) (q : Nat) (b : Nat) => [(0, VP.win v o (vs.length + 1)), (1, kN.is vs), (5, kN6.is (vs.length : Int)), (7, (kInt .u64).is (q : Int)), (9, (kInt .u64).is (b : Int))]) (fun (w : List Nat) (q : Nat) (b : Nat) => [OB.row v 93 kLimb (l.take o ++ w ++ l.drop (o + (vs.length + 1)))]) (fun (w : List Nat) (q : Nat) (b : Nat) => q) w q b (digS_0 (by omega) hw0l hq hq2 hD) (Imp.c4 rfl rfl rfl rfl (Imp.cons rfl Imp.nil)) (OImp.refl _) ?_)))))))
  intro w q b hS
  have hq := hS.2.2.2.1
  have hb := hS.2.2.1
  refine CW.seq (Cr (Wm rfl (Ws (O.gt rfl rfl) (Wn ?_))))
  refine CW.condD rfl (fun h_t79 => ?_) (fun h_t79 => ?_)
  ·
   refine CW.skip (QE.next (CW.block (CW.seq ?_)))
   have hq1 := digS_pos hS (by omega)
   refine CW.region (Wm rfl (Ws (O.sub rfl rfl (c := ((q - 1 : Nat) : Int)) (wu64 (by omega))) (Wa rfl (Wn (CW.seq ?_)))))
   obtain ⟨w1, hw1⟩ : ∃ w1, w1 = w := ⟨_, rfl⟩
   refine ST.obtold 0 rfl (OB.row_eq (ys := (l.take o ++ w1 ++ l.drop (o + (vs.length + 1)))) (by rw [hw1])) ?_
   rw [← hw1] at hS
   refine CW.region (Wa rfl (Wn (CW.seq (Cr (Wm rfl (Ws (O.add rfl rfl (c := ((vs.length : Int) + 1)) (w64 (by omega))) (Wm rfl (Wn (CW.block (CW.loop3 (fun (w : List Nat) (i : Nat) (c : Nat) => DigA w1 vs w i c) (fun (w : List Nat) (i : Nat) (c : Nat) => [(0, VP.win v o (vs.length + 1)), (1, kN.is vs), (5, kN6.is (vs.length : Int)), (7, (kInt .u64).is ((q - 1 : Nat) : Int)), (9, (kInt .u64).is (b : Int)), (13, (kInt .u64).is (c : Int)), (83, kN6.is ((vs.length : Int) + 1)), (84, kN6.is (i : Int))]) (fun (w : List Nat) (i : Nat) (c : Nat) => [OB.row v 93 kLimb (l.take o ++ w ++ l.drop (o + (vs.length + 1)))]) (fun (w : List Nat) (i : Nat) (c : Nat) => vs.length + 1 - i) w1 0 0 (digA_0 hS) (Imp.c4 rfl rfl rfl rfl (Imp.cons rfl (Imp.consLe rfl (is_eq (y := (0 : Int)) (by omega)) (Imp.cons rfl (Imp.consLe rfl (is_eq (y := (0 : Int)) (by omega)) Imp.nil))))) (OImp.refl _) ?_))))))))))
   intro w i c hA
   have hwl := hA.2.1
   have hx := getD_lt hA.2.2.1 i
   have hc := hA.2.2.2.1
   have hy := getD_lt lv i
   have hrl := win_len (o := o) ho hwl
   have hi := hA.1
   refine Cr (Ws (O.lt rfl rfl) (Wn (CW.seq ?_)))
   refine CW.condD rfl (fun h_t85 => ?_) (fun h_t85 => ?_)
   ·
    refine CW.skip (QE.next (CW.seq (CW.block (Cr (Wm rfl (Wa rfl (Wr (Wm rfl (Wm rfl (Wm rfl (Ws (O.ixW (sz := 1) i rfl rfl U27 ty93 rfl (by omega)) (Ws (OpOk.le (O.ldR (k := kLimb) (xs := (l.take o ++ w ++ l.drop (o + (vs.length + 1)))) (o + i) rfl (mem_at 0 rfl) Li (ho := offs1) (y := (w.getD i 0)) (win_get hol (by omega)) ty93 rfl) (limb_le _)) (Ws (O.cvt rfl U93 U178 (c := ((w.getD i 0) : Int)) (wu64 (by omega))) (Ws (O.add rfl rfl (c := ((c : Int) + ((w.getD i 0) : Int))) (wu64 (by omega))) (Wa rfl (Wn (CW.seq (CW.seq ?_))))))))))))))))))
    refine CW.region (Wm rfl (Wm rfl (Ws (O.lt rfl rfl) (Wn ?_))))
    refine CW.condD rfl (fun h_t96 => ?_) (fun h_t96 => ?_)
    ·
     refine CW.region (Wm rfl (Wm rfl (Wm rfl (Ws (O.ix i rfl rfl U27 ty93 rfl (v := (vs.getD i 0)) (gd 0 (by omega))) (Ws (OpOk.le (O.ldP rfl ty93) (limb_le _)) (Ws (O.cvt rfl U93 U178 (c := ((vs.getD i 0) : Int)) (wu64 (by omega))) (Ws (O.add rfl rfl (c := (((c : Int) + ((w.getD i 0) : Int)) + ((vs.getD i 0) : Int))) (wu64 (by omega))) (Wa rfl (Wr (Wm rfl (Wm rfl (Wm rfl (Ws (O.cvt rfl U178 U93 (c := (((c + w.getD i 0 + vs.getD i 0) % 4294967296 : Nat) : Int)) (wr32 (by omega))) (Ws (O.ixW (sz := 1) i rfl rfl U27 ty93 rfl (by omega)) (WP.t .n (O.stR 0 (o + i) rfl rfl Li offs1 (y0 := ((l.take o ++ w ++ l.drop (o + (vs.length + 1))).getD (o + i) 0)) (gd 0 (by omega)) ty93 rfl (u32_limb (x := ((c + w.getD i 0 + vs.getD i 0) % 4294967296 : Nat)) (by omega))) (Wn (CW.region (Wm rfl (Ws (O.shr rfl rfl (by omega) (c := (((c + w.getD i 0 + vs.getD i 0) / 2 ^ 32 : Nat) : Int)) (shrN 32 (by omega) rfl (by decide))) ?_)))))))))))))))))))
     refine Wa rfl (WP.nil (QE.blkN (QE.next (CW.region (Ws (O.add rfl rfl (c := ((i : Int) + 1)) (w64 (by omega))) (Wm rfl (WP.nil (ST.obtold 0 rfl (OB.row_eq (ys := (l.take o ++ (w.set i ((c + w.getD i 0 + vs.getD i 0) % 4294967296)) ++ l.drop (o + (vs.length + 1)))) (win_set hol (by omega))) ?_))))))))
     exact QE.round3 (w.set i ((c + w.getD i 0 + vs.getD i 0) % 4294967296)) (i + 1) ((c + w.getD i 0 + vs.getD i 0) / 2 ^ 32) (by omega) (digA_s lv (by omega) hA) (Imp.c4 rfl rfl rfl rfl (Imp.cons rfl (Imp.consLe rfl (is_eq (y := ((((c + w.getD i 0 + vs.getD i 0) / 2 ^ 32) : Nat) : Int)) (by omega)) (Imp.cons rfl (Imp.consLe rfl (is_eq (y := (((i + 1) : Nat) : Int)) (by omega)) Imp.nil))))) (OImp.refl _)
    ·
     have hy0 := getD_out (l := vs) (i := i) (by omega)
     refine CW.skip (QE.next (Cr (Wm rfl (Wm rfl (Wm rfl (Ws (O.cvt rfl U178 U93 (c := (((c + w.getD i 0 + vs.getD i 0) % 4294967296 : Nat) : Int)) (wr32 (by omega))) (Ws (O.ixW (sz := 1) i rfl rfl U27 ty93 rfl (by omega)) (WP.t .n (O.stR 0 (o + i) rfl rfl Li offs1 (y0 := ((l.take o ++ w ++ l.drop (o + (vs.length + 1))).getD (o + i) 0)) (gd 0 (by omega)) ty93 rfl (u32_limb (x := ((c + w.getD i 0 + vs.getD i 0) % 4294967296 : Nat)) (by omega))) (Wn (CW.region (Wm rfl (Ws (O.shr rfl rfl (by omega) (c := (((c + w.getD i 0 + vs.getD i 0) / 2 ^ 32 : Nat) : Int)) (shrN 32 (by omega) rfl (by decide))) (Wa rfl (WP.nil (QE.blkN (QE.next (CW.region (Ws (O.add rfl rfl (c := ((i : Int) + 1)) (w64 (by omega))) (Wm rfl (WP.nil (ST.obtold 0 rfl (OB.row_eq (ys := (l.take o ++ (w.set i ((c + w.getD i 0 + vs.getD i 0) % 4294967296)) ++ l.drop (o + (vs.length + 1)))) (win_set hol (by omega))) ?_)))))))))))))))))))))
     exact QE.round3 (w.set i ((c + w.getD i 0 + vs.getD i 0) % 4294967296)) (i + 1) ((c + w.getD i 0 + vs.getD i 0) / 2 ^ 32) (by omega) (digA_s lv (by omega) hA) (Imp.c4 rfl rfl rfl rfl (Imp.cons rfl (Imp.consLe rfl (is_eq (y := ((((c + w.getD i 0 + vs.getD i 0) / 2 ^ 32) : Nat) : Int)) (by omega)) (Imp.cons rfl (Imp.consLe rfl (is_eq (y := (((i + 1) : Nat) : Int)) (by omega)) Imp.nil))))) (OImp.refl _)
   ·
    refine CW.exit (QE.thenE (QE.thenE (QE.blkH (QE.next (CW.region (Wm rfl (Wm rfl (Ws (O.sub rfl rfl (c := ((b - c : Nat) : Int)) (wu64 (by omega))) (Wa rfl (WP.nil (QE.blkN ?_)))))))))))
    exact QE.round3 w (q - 1) (b - c) (by have := (digA_end (by omega) (by omega) hS hA).2; omega) (digA_end (by omega) (by omega) hS hA).1 (Imp.cons rfl (Imp.cons rfl (Imp.cons rfl (Imp.consLe rfl (is_eq (y := (((q - 1) : Nat) : Int)) (by omega)) (Imp.consLe rfl (is_eq (y := (((b - c) : Nat) : Int)) (by omega)) Imp.nil))))) (OImp.refl _)
  ·
   refine CW.exit (QE.thenE (QE.thenE (QE.blkH (QE.next (Cr (Wm rfl (Ws (O.cvt rfl U178 U93 (c := (q : Int)) (wrs32 (by omega))) (Wa rfl (Wn (CW.ret ?_))))))))))
   have hend := digS_end (by omega) hS (top_ne hv hn)
   refine ST.told 4 rfl (is_eq (y := ((nval ((l.drop o).take (vs.length + 1)) / nval vs : Nat) : Int)) (by rw [hend.1, hw0])) ?_
   exact QE.done (.inl rfl) rfl (ResOk.t rfl ResOk.nil) (OImp.refl _) ⟨w, rfl, rfl, (by rw [← hw0]; exact hend.2)⟩
theorem c_nat_shl (l : List Nat) (n : Nat) (hn : n < 32) (hB : l.length ≤ 1099511627000) : Con Tryz.prog 273 [kN.is l, kN6.is (n : Int)] [] (fun p Lo => ∃ (u : Value), p = VP.ex u ∧ Lo = [OB.row u 93 kLimb (limbs (nval l * 2 ^ n))] ∧ True) := by
 refine Con.enter Tryz.func273 rfl rfl fun m w => ST.fact (i := 0) rfl kN_lims fun hL => ?_
 have hll := limbs_len_le hL
 have lA := limbs_lims (nval l)
 refine Cr (Wa rfl (Wr (Wm rfl (Ws (O.fn fn191 (evs.c rfl evs.nil) (c_nat_trim l)) (Wa rfl (Wn (CW.seq (Cr (Wm rfl (Ws (O.lenS rfl U27) (Ws (O.eq rfl rfl) (Wn ?_))))))))))))
 refine CW.condD rfl (fun h_t14 => ?_) (fun h_t14 => ?_)
 ·
  refine Cr (Wa rfl (Wn (CW.ret (QE.thenR (ST.nilrow 93 kLimb (ST.obtold 0 rfl (OB.row_eq (ys := (limbs (nval l * 2 ^ n))) (by rw [limbs0 (n := nval l) (by omega), Nat.zero_mul, limbs_zero])) ?_))))))
  exact QE.done (.inl rfl) rfl (ResOk.t rfl ResOk.nil) (OImp.refl _) ⟨(.slice none 0 0), rfl, rfl, trivial⟩
 ·
  refine CW.skip (QE.next (Cr (Wm rfl (Ws (O.quo rfl rfl (by omega) (c := 0) (quo32 hn)) (Wm rfl (Ws (O.rem rfl rfl (by omega) (c := (n : Int)) (rem32 hn)) (Ws (O.cvt rfl U3 U180 (c := (n : Int)) (wu64 (by omega))) (Wa rfl (Wa rfl (Wr (Wm rfl (Ws (O.lenS rfl U27) (Wm rfl (Ws (O.add rfl rfl (c := (((limbs (nval l)).length : Int) + 0)) (w64 (by omega))) (Ws (O.add rfl rfl (c := ((((limbs (nval l)).length : Int) + 0) + 1)) (w64 (by omega))) (WP.mk ((limbs (nval l)).length + 1) .n rfl rfl (by omega) (by omega) U27 el93_limb z93_limb fun v1 => Wa rfl (Wn ?_)))))))))))))))))
  refine CW.seq (Cr (Wm rfl (Ws (O.lenS rfl U27) (Wm rfl (Wn (CW.block (CW.loop2 (fun (row : List Nat) (i : Nat) => ShlR (limbs (nval l)) row n i) (fun (row : List Nat) (i : Nat) => [(0, kN.is (limbs (nval l))), (5, kN6.is 0), (6, (kInt .u64).is (n : Int)), (7, VP.ex v1), (27, kN6.is ((limbs (nval l)).length : Int)), (28, kN6.is (i : Int))]) (fun (row : List Nat) (i : Nat) => [OB.row v1 93 kLimb row]) (fun (row : List Nat) (i : Nat) => (limbs (nval l)).length - i) (List.replicate ((limbs (nval l)).length + 1) 0) 0 (shlR_0 _ _) (Imp.c4 rfl rfl rfl rfl (Imp.cons rfl (Imp.consLe rfl (is_eq (y := (0 : Int)) (by omega)) Imp.nil))) (OImp.refl _) ?_)))))))
  intro row i hS
  have hrl := hS.2.1
  have hi := hS.1
  have hx := getD_lt lA i
  have ht := hS.2.2.2.1
  have k1 := shl_hi hn hx
  have k3 := shl_or (x := (limbs (nval l)).getD i 0) hn ht
  have k4 := (pow32 hn).2.1
  refine Cr (Ws (O.lt rfl rfl) (Wn (CW.seq ?_)))
  refine CW.condD rfl (fun h_t29 => ?_) (fun h_t29 => ?_)
  ·
   refine CW.skip (QE.next (CW.seq (CW.block (Cr (Wm rfl (Wa rfl (Wr (Wm rfl (Wm rfl (Ws (O.ix i rfl rfl U27 ty93 rfl (v := ((limbs (nval l)).getD i 0)) (gd 0 (by omega))) (Ws (OpOk.le (O.ldP rfl ty93) (limb_le _)) (Ws (O.cvt rfl U93 U178 (c := (((limbs (nval l)).getD i 0) : Int)) (wu64 (by omega))) (Wm rfl (Ws (O.shl rfl rfl (by omega) (c := (((limbs (nval l)).getD i 0 * 2 ^ n : Nat) : Int)) (shlN n rfl rfl (by omega) k1.2)) (Wa rfl (Wr ?_))))))))))))))))
   refine Wm rfl (Wm rfl (Wm rfl (Ws (O.add rfl rfl (c := ((i : Int) + 0)) (w64 (by omega))) (Ws (O.ixR (k := kLimb) (xs := row) (n := ((i : Int) + 0)) i rfl rfl (mem_at 0 rfl) U27 ty93 (by omega) (by omega)) (Ws (OpOk.le (O.ldR i rfl (mem_at 0 rfl) Li rfl (y := (row.getD i 0)) (gd 0 (by omega)) ty93 rfl) (limb_le _)) (Wm rfl (Ws (O.cvt rfl U178 U93 (c := (((limbs (nval l)).getD i 0 % 2 ^ (32 - n) * 2 ^ n : Nat) : Int)) (by rw [wr32 rfl, shl_lo hn])) (Ws (O.or rfl rfl (c := (((limbs (nval l)).getD i 0 % 2 ^ (32 - n) * 2 ^ n + row.getD i 0 : Nat) : Int)) (orN32 n rfl rfl ht k3)) (Ws (O.ixR (k := kLimb) (xs := row) (n := ((i : Int) + 0)) i rfl rfl (mem_at 0 rfl) U27 ty93 (by omega) (by omega)) (WP.t .n (O.stR 0 i rfl rfl Li rfl (y0 := (row.getD i 0)) (gd 0 (by omega)) ty93 rfl (u32_limb (x := ((limbs (nval l)).getD i 0 % 2 ^ (32 - n) * 2 ^ n + row.getD i 0 : Nat)) (by omega))) (Wn (CW.region (Wm rfl (Wm rfl (Wm rfl (Ws (O.add rfl rfl (c := ((i : Int) + 0)) (w64 (by omega))) (Ws (O.add rfl rfl (c := (((i : Int) + 0) + 1)) (w64 (by omega))) (Wm rfl (Ws (O.shr rfl rfl (by omega) (c := (((limbs (nval l)).getD i 0 * 2 ^ n / 2 ^ 32 : Nat) : Int)) (shrN 32 rfl rfl (by decide))) (Ws (O.cvt rfl U178 U93 (c := (((limbs (nval l)).getD i 0 * 2 ^ n / 2 ^ 32 : Nat) : Int)) (wrs32 ⟨rfl, by omega⟩)) (Ws (O.ixR (k := kLimb) (xs := (row.set i ((limbs (nval l)).getD i 0 % 2 ^ (32 - n) * 2 ^ n + row.getD i 0 : Nat))) (n := (((i : Int) + 0) + 1)) (i + 1) rfl rfl (mem_at 0 rfl) U27 ty93 (by omega) (by simp; omega)) (WP.t .n (O.stR 0 (i + 1) rfl rfl Li rfl (y0 := ((row.set i ((limbs (nval l)).getD i 0 % 2 ^ (32 - n) * 2 ^ n + row.getD i 0 : Nat)).getD (i + 1) 0)) (gd 0 (by simp; omega)) ty93 rfl (u32_limb (x := ((limbs (nval l)).getD i 0 * 2 ^ n / 2 ^ 32 : Nat)) (by omega))) ?_))))))))))))))))))))))
   refine WP.nil (QE.blkN (QE.next (CW.region (Ws (O.add rfl rfl (c := ((i : Int) + 1)) (w64 (by omega))) (Wm rfl (WP.nil ?_))))))
   exact QE.round2 ((row.set i ((limbs (nval l)).getD i 0 % 2 ^ (32 - n) * 2 ^ n + row.getD i 0)).set (i + 1) ((limbs (nval l)).getD i 0 * 2 ^ n / 2 ^ 32)) (i + 1) (by omega) (shlR_s lA hn (by omega) hS) (Imp.c4 rfl rfl rfl rfl (Imp.cons rfl (Imp.consLe rfl (is_eq (y := (((i + 1) : Nat) : Int)) (by omega)) Imp.nil))) (OImp.os (OS.keepLe (OB.row_eq (by rfl)) OS.nil))
  ·
   refine CW.exit (QE.thenE (QE.thenE (QE.blkH (QE.next (Cr (Wm rfl (WP.call (Li := [OB.row v1 93 kLimb row]) (L := []) .n fn191 (evs.c rfl evs.nil) (c_trimO v1 row) fun p_ Lo_ hp_ => ?_)))))))
   obtain ⟨v2, rfl, rfl, hx_t59⟩ := hp_
   refine Wa rfl (Wn (CW.ret (ST.obtold 0 rfl (OB.row_eq (ys := (limbs (nval l * 2 ^ n))) (by rw [shlR_end (by omega) hS, nval_limbs])) ?_)))
   exact QE.done (.inl rfl) rfl (ResOk.t rfl ResOk.nil) (OImp.refl _) ⟨v2, rfl, rfl, trivial⟩
theorem c_nat_shr (l : List Nat) (n : Nat) (hn : n < 32) : Fn Tryz.prog 275 [kN.is l, kN6.is (n : Int)] (kN.is (limbs (nval l / 2 ^ n))) := by
 refine Con.enter Tryz.func275 rfl rfl fun m w => ST.fact (i := 0) rfl kN_lims fun hL => ?_
 have hll := limbs_len_le hL
 have lA := limbs_lims (nval l)
 refine ST.fact (i := 0) rfl sl_len fun hB => Cr (Wa rfl (Wr (Wm rfl (Ws (O.fn fn191 (evs.c rfl evs.nil) (c_nat_trim l)) (Wa rfl (Wr (Wm rfl (Ws (O.quo rfl rfl (by omega) (c := 0) (quo32 hn)) (Wm rfl (Ws (O.rem rfl rfl (by omega) (c := (n : Int)) (rem32 hn)) (Ws (O.cvt rfl U3 U180 (c := (n : Int)) (wu64 (by omega))) (Wa rfl (Wa rfl (Wn ?_))))))))))))))
 refine CW.seq (Cr (Wm rfl (Wm rfl (Ws (O.lenS rfl U27) (Ws (O.ge rfl rfl) (Wn ?_))))))
 refine CW.condD rfl (fun h_t20 => ?_) (fun h_t20 => ?_)
 ·
  refine Cr (Wa rfl (Wn (CW.ret (QE.thenR (ST.told (q := kN.is ([] : List Nat)) 4 rfl (nil_le _) (ST.told 4 rfl (is_eq (y := (limbs (nval l / 2 ^ n))) (by rw [limbs0 (n := nval l) (by omega), Nat.zero_div, limbs_zero])) ?_))))))
  exact QE.done (.inl rfl) rfl (ResOk.t rfl ResOk.nil) (OImp.sub (List.nil_sublist _)) ⟨rfl, rfl⟩
 ·
  refine CW.skip (QE.next (Cr (Wm rfl (Ws (O.lenS rfl U27) (Wm rfl (Ws (O.sub rfl rfl (c := (((limbs (nval l)).length : Int) - 0)) (w64 (by omega))) (WP.mk ((limbs (nval l)).length) .n rfl rfl (by omega) (by omega) U27 el93_limb z93_limb fun v1 => Wa rfl (Wn (CW.seq (Cr (Wm rfl (Ws (O.lenR rfl (mem_at 0 rfl) U27) (Wm rfl (Wn (CW.block (CW.loop (fun (r : List Nat) => ShrR (limbs (nval l)) r n) (fun (r : List Nat) => [(0, kN.is (limbs (nval l))), (5, kN6.is 0), (6, (kInt .u64).is (n : Int)), (7, VP.ex v1), (27, kN6.is ((limbs (nval l)).length : Int)), (28, kN6.is (r.length : Int))]) (fun (r : List Nat) => [OB.row v1 93 kLimb (fil (limbs (nval l)).length r)]) (fun (r : List Nat) => (limbs (nval l)).length - r.length) [] (shrR_0 _ _) (Imp.c4 rfl rfl rfl rfl (Imp.consLe rfl (is_eq (y := ((limbs (nval l)).length : Int)) (by simp)) (Imp.consLe rfl (is_eq (y := ([].length : Int)) (by rfl)) Imp.nil))) (OImp.os (.keepLe (OB.row_eq (fil_nil _)) .nil)) ?_))))))))))))))))
  intro r hS
  have hi := hS.1
  have hx := getD_lt lA r.length
  have hy := getD_lt lA (r.length + 1)
  have hfl := fil_len (n := (limbs (nval l)).length) (r := r) (by omega)
  refine Cr (Ws (O.lt rfl rfl) (Wn (CW.seq ?_)))
  refine CW.condD rfl (fun h_t29 => ?_) (fun h_t29 => ?_)
  ·
   refine CW.skip (QE.next (CW.seq (CW.block (Cr (Wm rfl (Wa rfl (Wr (Wm rfl (Wm rfl (Wm rfl (Ws (O.add rfl rfl (c := ((r.length : Int) + 0)) (w64 (by omega))) (Ws (O.ix r.length rfl rfl U27 ty93 (by omega) (v := ((limbs (nval l)).getD r.length 0)) (gd 0 (by omega))) (Ws (OpOk.le (O.ldP rfl ty93) (limb_le _)) (Ws (O.cvt rfl U93 U178 (c := (((limbs (nval l)).getD r.length 0) : Int)) (wu64 (by omega))) (Wa rfl (Wn (CW.seq (CW.seq ?_))))))))))))))))))
   refine CW.region (Wm rfl (Wm rfl (Ws (O.add rfl rfl (c := ((r.length : Int) + 0)) (w64 (by omega))) (Ws (O.add rfl rfl (c := (((r.length : Int) + 0) + 1)) (w64 (by omega))) (Wm rfl (Ws (O.lenS rfl U27) (Ws (O.lt rfl rfl) (Wn ?_))))))))
   refine CW.condD rfl (fun h_t44 => ?_) (fun h_t44 => ?_)
   ·
    refine CW.region (Wm rfl (Wm rfl (Wm rfl (Wm rfl (Ws (O.add rfl rfl (c := ((r.length : Int) + 0)) (w64 (by omega))) (Ws (O.add rfl rfl (c := (((r.length : Int) + 0) + 1)) (w64 (by omega))) (Ws (O.ix (r.length + 1) rfl rfl U27 ty93 (by omega) (v := ((limbs (nval l)).getD (r.length + 1) 0)) (gd 0 (by omega))) (Ws (OpOk.le (O.ldP rfl ty93) (limb_le _)) (Ws (O.cvt rfl U93 U178 (c := (((limbs (nval l)).getD (r.length + 1) 0) : Int)) (wu64 (by omega))) (Ws (O.shl rfl rfl (by omega) (c := (((limbs (nval l)).getD (r.length + 1) 0 * 2 ^ 32 : Nat) : Int)) (shlN 32 rfl rfl (by decide) (by omega))) (Ws (O.or rfl rfl (c := (((limbs (nval l)).getD (r.length + 1) 0 * 2 ^ 32 + (limbs (nval l)).getD r.length 0 : Nat) : Int)) (orN' 32 rfl rfl hx (by omega))) (Wa rfl (Wn (CW.region (Wm rfl (Wm rfl (Wm rfl (Wm rfl (Ws (O.shr rfl rfl (by omega) (c := ((((limbs (nval l)).getD (r.length + 1) 0 * 2 ^ 32 + (limbs (nval l)).getD r.length 0) / 2 ^ n : Nat) : Int)) (shrN n rfl rfl (show n ≤ 64 by omega))) (Ws (O.cvt rfl U178 U93 (c := ((((limbs (nval l)).getD (r.length + 1) 0 * 2 ^ 32 + (limbs (nval l)).getD r.length 0) / 2 ^ n % 4294967296 : Nat) : Int)) (wr32 rfl)) (Ws (O.ixR (k := kLimb) (xs := (fil (limbs (nval l)).length r)) (n := (r.length : Int)) r.length rfl rfl (mem_at 0 rfl) U27 ty93 rfl (by omega)) (WP.t .n (O.stR 0 r.length rfl rfl Li rfl (y0 := ((fil (limbs (nval l)).length r).getD r.length 0)) (gd 0 (by omega)) ty93 rfl (u32_limb (x := (((limbs (nval l)).getD (r.length + 1) 0 * 2 ^ 32 + (limbs (nval l)).getD r.length 0) / 2 ^ n % 4294967296 : Nat)) (by omega))) ?_))))))))))))))))))))))
    refine WP.nil (QE.blkN (QE.next (CW.region (Ws (O.add rfl rfl (c := ((r.length : Int) + 1)) (w64 (by omega))) (Wm rfl (WP.nil ?_))))))
    exact QE.round (r ++ [((limbs (nval l)).getD (r.length + 1) 0 * 2 ^ 32 + (limbs (nval l)).getD r.length 0) / 2 ^ n % 4294967296]) (by simp; omega) (shrR_s lA hn (by omega) hS) (Imp.c4 rfl rfl rfl rfl (Imp.cons rfl (Imp.consLe rfl (is_eq (y := ((r ++ [((limbs (nval l)).getD (r.length + 1) 0 * 2 ^ 32 + (limbs (nval l)).getD r.length 0) / 2 ^ n % 4294967296]).length : Int)) (by simp)) Imp.nil))) (OImp.os (.keepLe (OB.row_eq (fil_set (by omega))) .nil))
   ·
    have hy0 := getD_out (l := limbs (nval l)) (i := r.length + 1) (by omega)
    refine ST.told 9 rfl (is_eq (y := (((limbs (nval l)).getD (r.length + 1) 0 * 2 ^ 32 + (limbs (nval l)).getD r.length 0 : Nat) : Int)) (by rw [hy0]; simp)) (CW.skip (QE.next (CW.region (Wm rfl (Wm rfl (Wm rfl (Wm rfl (Ws (O.shr rfl rfl (by omega) (c := ((((limbs (nval l)).getD (r.length + 1) 0 * 2 ^ 32 + (limbs (nval l)).getD r.length 0) / 2 ^ n : Nat) : Int)) (shrN n rfl rfl (show n ≤ 64 by omega))) (Ws (O.cvt rfl U178 U93 (c := ((((limbs (nval l)).getD (r.length + 1) 0 * 2 ^ 32 + (limbs (nval l)).getD r.length 0) / 2 ^ n % 4294967296 : Nat) : Int)) (wr32 rfl)) (Ws (O.ixR (k := kLimb) (xs := (fil (limbs (nval l)).length r)) (n := (r.length : Int)) r.length rfl rfl (mem_at 0 rfl) U27 ty93 rfl (by omega)) (WP.t .n (O.stR 0 r.length rfl rfl Li rfl (y0 := ((fil (limbs (nval l)).length r).getD r.length 0)) (gd 0 (by omega)) ty93 rfl (u32_limb (x := (((limbs (nval l)).getD (r.length + 1) 0 * 2 ^ 32 + (limbs (nval l)).getD r.length 0) / 2 ^ n % 4294967296 : Nat)) (by omega))) (WP.nil (QE.blkN (QE.next (CW.region (Ws (O.add rfl rfl (c := ((r.length : Int) + 1)) (w64 (by omega))) (Wm rfl (WP.nil ?_))))))))))))))))))
    exact QE.round (r ++ [((limbs (nval l)).getD (r.length + 1) 0 * 2 ^ 32 + (limbs (nval l)).getD r.length 0) / 2 ^ n % 4294967296]) (by simp; omega) (shrR_s lA hn (by omega) hS) (Imp.c4 rfl rfl rfl rfl (Imp.cons rfl (Imp.consLe rfl (is_eq (y := ((r ++ [((limbs (nval l)).getD (r.length + 1) 0 * 2 ^ 32 + (limbs (nval l)).getD r.length 0) / 2 ^ n % 4294967296]).length : Int)) (by simp)) Imp.nil))) (OImp.os (.keepLe (OB.row_eq (fil_set (by omega))) .nil))
  ·
   refine CW.exit (QE.thenE (QE.thenE (QE.blkH (QE.next (CW.seq (ST.obtold 0 rfl (OB.row_eq (ys := r) (fil_full (by omega))) (CW.region (Wm rfl (ST.freeze 0 rfl (kp 0 rfl (kp 5 rfl (kp 6 rfl (.hit (i := 7) rfl (kp 27 rfl (kp 28 rfl (kp 29 rfl (.hit (i := 64) rfl .nil)))))))) (Ws (O.fn fn191 (evs.c rfl evs.nil) (c_nat_trim r)) (Wa rfl (Wn (CW.ret (ST.told 4 rfl (is_eq (y := (limbs (nval l / 2 ^ n))) (by rw [shrR_end lA (by omega) hS, nval_limbs])) ?_))))))))))))))
   exact QE.done (.inl rfl) rfl (ResOk.t rfl ResOk.nil) (OImp.sub (List.nil_sublist _)) ⟨rfl, rfl⟩
end Fw
/- Plain facts on limbs: a long quotient. -/
set_option linter.unusedVariables false
set_option linter.unusedSimpArgs false
set_option exponentiation.threshold 70
namespace Fw
open Go (IntKind)
theorem limbs_len_pos {n : Nat} (h : n ≠ 0) : 1 ≤ (limbs n).length := by rw [limbs_pos h]; simp
theorem limbs_top {n : Nat} (h : n ≠ 0) : (limbs n).getD ((limbs n).length - 1) 0 ≠ 0 := by
  have h1 := limbs_len_pos h
  have h2 := split_at (l := limbs n) (Nat.le_refl _) h1
  rw [List.drop_length, nval_limbs, nval, Nat.mul_zero, Nat.add_zero] at h2
  intro h0
  rw [h0, Nat.mul_zero, Nat.add_zero] at h2
  have h3 := nval_lt ((limbs_lims n).take ((limbs n).length - 1))
  rw [List.length_take, Nat.min_eq_left (Nat.sub_le _ _), ← h2] at h3
  have h4 := limbs_last h
  omega
theorem one_limb {n : Nat} (h : (limbs n).length = 1) : (limbs n).getD 0 0 = n := by
  have h1 := nval_limbs n
  match hl : limbs n, h with
  | [x], _ => rw [hl] at h1; simp [nval] at h1; simpa using h1
theorem div_sh {b : Nat} (hb : b ≠ 0) : ∃ s : Nat, (32 : Int) - (bitlen ((limbs b).getD ((limbs b).length - 1) 0) : Int) = s ∧ s < 32 ∧ (limbs (b * 2 ^ s)).length = (limbs b).length := by
  have ht := limbs_top hb
  have hx := getD_lt (limbs_lims b) ((limbs b).length - 1)
  have h1 := @bitlen_le ((limbs b).getD ((limbs b).length - 1) 0) 32 hx
  have h2 : bitlen ((limbs b).getD ((limbs b).length - 1) 0) ≠ 0 := fun h => ht (bitlen_0.1 h)
  refine ⟨32 - bitlen ((limbs b).getD ((limbs b).length - 1) 0), by omega, by omega, ?_⟩
  have hp := limbs_len_pos hb
  have h3 := split_at (l := limbs b) (Nat.le_refl _) hp
  rw [List.drop_length, nval_limbs, nval, Nat.mul_zero, Nat.add_zero] at h3
  have h4 := nval_lt ((limbs_lims b).take ((limbs b).length - 1))
  rw [List.length_take, Nat.min_eq_left (Nat.sub_le _ _)] at h4
  have h5 := lt_bitlen ((limbs b).getD ((limbs b).length - 1) 0)
  generalize hq : bitlen ((limbs b).getD ((limbs b).length - 1) 0) = q at *
  generalize (limbs b).getD ((limbs b).length - 1) 0 = t at *
  apply Nat.le_antisymm
  · apply limbs_len_lt
    have h6 : b < 4294967296 ^ ((limbs b).length - 1) * 2 ^ q := by
      have : 4294967296 ^ ((limbs b).length - 1) * (t + 1) ≤ 4294967296 ^ ((limbs b).length - 1) * 2 ^ q := Nat.mul_le_mul_left _ h5
      rw [Nat.mul_add, Nat.mul_one] at this
      omega
    have h7 : b * 2 ^ (32 - q) < 4294967296 ^ ((limbs b).length - 1) * 2 ^ q * 2 ^ (32 - q) := Nat.mul_lt_mul_of_pos_right h6 (Nat.two_pow_pos _)
    rw [Nat.mul_assoc, ← Nat.pow_add, Nat.add_sub_cancel' h1, show (2 : Nat) ^ 32 = 4294967296 from rfl, ← Nat.pow_succ, show ((limbs b).length - 1).succ = (limbs b).length from by omega] at h7
    exact h7
  · exact limbs_mono (Nat.le_mul_of_pos_right _ (Nat.two_pow_pos _))
theorem take_pad {L : List Nat} {k : Nat} (h : L.length ≤ k) (hk : k ≤ L.length + 2) : ((L ++ [0, 0]).take k).length = k ∧ nval ((L ++ [0, 0]).take k) = nval L := by
  refine ⟨by simp; omega, ?_⟩
  rw [List.take_append, List.take_of_length_le h, nval_append]
  have : nval (([0, 0] : List Nat).take (k - L.length)) = 0 := by
    have : [0, 0] = List.replicate 2 0 := rfl
    rw [this, List.take_replicate, nval_replicate0]
  rw [this]; rfl
def DivR (D V la lb : Nat) (us qs : List Nat) (k : Nat) : Prop := us.length = la + 1 ∧ Lims us ∧ qs.length = la - lb + 1 ∧ Lims qs ∧ k ≤ la - lb + 1 ∧ nval us + V * (4294967296 ^ k * nval (qs.drop k)) = D ∧ nval (us.drop k) < V
theorem divR_0 {a b s : Nat} {us : List Nat} (hb : b ≠ 0) (hab : b ≤ a) (hu : us.length = (limbs a).length + 1) (lu : Lims us) (hv : nval us = a * 2 ^ s) :
    DivR (a * 2 ^ s) (b * 2 ^ s) (limbs a).length (limbs b).length us (List.replicate ((limbs a).length - (limbs b).length + 1) 0) ((limbs a).length - (limbs b).length + 1) := by
  have hl := limbs_mono hab
  have hp := limbs_len_pos hb
  obtain ⟨K, hK⟩ : ∃ K, K = (limbs a).length - (limbs b).length + 1 := ⟨_, rfl⟩
  rw [← hK]
  refine ⟨hu, lu, by simp [hK], fun x hx => ?_, Nat.le_of_eq hK, ?_, ?_⟩
  · have := (List.mem_replicate.1 hx).2; omega
  · rw [List.drop_of_length_le (by simp), hv]; simp [nval]
  · have h1 := nval_split us K
    rw [hv] at h1
    have h2 := lt_limbs a
    have h3 := limbs_last hb
    have h4 : 4294967296 ^ K * nval (us.drop K) < 4294967296 ^ K * (b * 2 ^ s) := by
      have h5 : a * 2 ^ s < 4294967296 ^ (limbs a).length * 2 ^ s := Nat.mul_lt_mul_of_pos_right h2 (Nat.two_pow_pos _)
      have h6 : 4294967296 ^ (limbs a).length * 2 ^ s ≤ 4294967296 ^ K * (b * 2 ^ s) := by
        rw [← Nat.mul_assoc]
        apply Nat.mul_le_mul_right
        have h7 : 4294967296 ^ (limbs a).length = 4294967296 ^ K * 4294967296 ^ ((limbs b).length - 1) := by
          rw [← Nat.pow_add]; congr 1; omega
        rw [h7]
        exact Nat.mul_le_mul_left _ h3
      omega
    exact Nat.lt_of_mul_lt_mul_left h4
theorem divR_win {D V la lb : Nat} {us qs : List Nat} {k : Nat} (hlb : lb = (limbs V).length) (hl : lb ≤ la) (hk : 0 < k) (h : DivR D V la lb us qs k) :
    nval ((us.drop (k - 1)).take (lb + 1)) < V * 4294967296 ∧ nval (us.drop (k - 1)) = nval ((us.drop (k - 1)).take (lb + 1)) ∧ nval (us.drop (k - 1 + (lb + 1))) = 0 := by
  obtain ⟨h1, h2, h3, h4, h5, h6, h7⟩ := h
  have e1 := nval_drop us (k - 1)
  rw [show k - 1 + 1 = k from by omega] at e1
  have e2 := getD_lt h2 (k - 1)
  have e3 : nval (us.drop (k - 1)) < V * 4294967296 := by omega
  have e4 := nval_split (us.drop (k - 1)) (lb + 1)
  rw [List.drop_drop] at e4
  have e5 := lt_limbs V
  rw [← hlb] at e5
  have e6 : nval (us.drop (k - 1 + (lb + 1))) = 0 := by
    rcases Nat.eq_zero_or_pos (nval (us.drop (k - 1 + (lb + 1)))) with h | h
    · exact h
    · exfalso
      have : 4294967296 ^ (lb + 1) * 1 ≤ 4294967296 ^ (lb + 1) * nval (us.drop (k - 1 + (lb + 1))) := Nat.mul_le_mul_left _ h
      rw [Nat.mul_one] at this
      have h8 : V * 4294967296 < 4294967296 ^ (lb + 1) := by
        rw [Nat.pow_succ]; exact Nat.mul_lt_mul_of_pos_right e5 (by decide)
      omega
  rw [e6, Nat.mul_zero, Nat.add_zero] at e4
  exact ⟨by rw [← e4]; exact e3, e4, e6⟩
theorem divR_q {D V la lb : Nat} {us qs : List Nat} {k : Nat} (hlb : lb = (limbs V).length) (hl : lb ≤ la) (hk : 0 < k) (h : DivR D V la lb us qs k) : nval ((us.drop (k - 1)).take (lb + 1)) / V < 4294967296 := by
  have g1 := (divR_win hlb hl hk h).1
  have hVp : 0 < V := by have := h.2.2.2.2.2.2; omega
  rw [Nat.div_lt_iff_lt_mul hVp, Nat.mul_comm]; exact g1
theorem divR_s {D V la lb : Nat} {us qs w : List Nat} {k : Nat} (hlb : lb = (limbs V).length) (hl : lb ≤ la) (hk : 0 < k) (h : DivR D V la lb us qs k) (hw : w.length = lb + 1) (lw : Lims w) (hwv : nval w = nval ((us.drop (k - 1)).take (lb + 1)) % V) :
    DivR D V la lb (us.take (k - 1) ++ w ++ us.drop (k - 1 + (lb + 1))) (qs.set (k - 1) (nval ((us.drop (k - 1)).take (lb + 1)) / V)) (k - 1) := by
  obtain ⟨g1, g2, g3⟩ := divR_win hlb hl hk h
  obtain ⟨h1, h2, h3, h4, h5, h6, h7⟩ := h
  have hVp : 0 < V := by omega
  have hq : nval ((us.drop (k - 1)).take (lb + 1)) / V < 4294967296 := by
    rw [Nat.div_lt_iff_lt_mul hVp, Nat.mul_comm]; exact g1
  generalize hU : nval ((us.drop (k - 1)).take (lb + 1)) = U at *
  have htl : (us.take (k - 1)).length = k - 1 := by simp; omega
  have hnv : nval (us.take (k - 1) ++ w ++ us.drop (k - 1 + (lb + 1))) = nval (us.take (k - 1)) + 4294967296 ^ (k - 1) * (U % V) := by
    rw [List.append_assoc, nval_append, nval_append, g3, Nat.mul_zero, Nat.add_zero, hwv, htl]
  have hus := nval_split us (k - 1)
  rw [g2] at hus
  refine ⟨?_, ?_, by simpa using h3, h4.set hq, by omega, ?_, ?_⟩
  · simp [htl, hw]; omega
  · intro x hx
    rcases List.mem_append.1 hx with hx | hx
    · rcases List.mem_append.1 hx with hx | hx
      · exact h2.take _ x hx
      · exact lw x hx
    · exact h2.drop _ x hx
  · rw [hnv, drop_set (by omega), nval, show k - 1 + 1 = k from by omega, ← h6, hus]
    have e1 := Nat.div_add_mod U V
    have e2 : 4294967296 ^ (k - 1) * (4294967296 * nval (qs.drop k)) = 4294967296 ^ k * nval (qs.drop k) := by
      rw [← Nat.mul_assoc, ← Nat.pow_succ, show (k - 1).succ = k from by omega]
    rw [Nat.mul_add (4294967296 ^ (k - 1)) (U / V), e2, Nat.mul_add V]
    have e3 : V * (4294967296 ^ (k - 1) * (U / V)) + 4294967296 ^ (k - 1) * (U % V) = 4294967296 ^ (k - 1) * U := by
      rw [Nat.mul_left_comm, ← Nat.mul_add, e1]
    omega
  · rw [List.append_assoc, List.drop_append_of_le_length (by omega), List.drop_of_length_le (by omega), List.nil_append, nval_append, g3, Nat.mul_zero, Nat.add_zero, hwv]
    exact Nat.mod_lt _ hVp
theorem divR_end {a b s la lb : Nat} {us qs : List Nat} {k : Nat} (hk : k = 0) (h : DivR (a * 2 ^ s) (b * 2 ^ s) la lb us qs k) : nval qs = a / b ∧ nval us / 2 ^ s = a % b := by
  obtain ⟨h1, h2, h3, h4, h5, h6, h7⟩ := h
  subst hk
  simp only [List.drop_zero, Nat.pow_zero, Nat.one_mul] at h6 h7
  have hp := Nat.two_pow_pos s
  have e1 : nval qs = a * 2 ^ s / (b * 2 ^ s) := by
    rw [← h6, Nat.add_mul_div_left _ _ (by omega), Nat.div_eq_of_lt h7, Nat.zero_add]
  have e2 : nval us = a * 2 ^ s % (b * 2 ^ s) := by
    rw [← h6, Nat.add_mul_mod_self_left, Nat.mod_eq_of_lt h7]
  refine ⟨?_, ?_⟩
  · rw [e1, Nat.mul_div_mul_right _ _ hp]
  · rw [e2, Nat.mul_mod_mul_right, Nat.mul_div_cancel _ hp]
end Fw
/- What Div and Gcd of layer 1 answer. -/
set_option linter.unusedVariables false
set_option linter.unusedSimpArgs false
set_option exponentiation.threshold 70
set_option maxRecDepth 20000
set_option maxHeartbeats 1000000
namespace Fw
open Go Go.Proofs
theorem c_nat_Div (a b : List Nat) (hA : a.length ≤ 549755813000) (hB : b.length ≤ 549755813000) : Fn Tryz.prog 257 [kN.is a, kN.is b] (VP.tup [kN.is (limbs (nval a / nval b)), kN.is (if nval b = 0 then [] else limbs (nval a % nval b)), kN6.is (if nval b = 0 then 11 else 0)]) := by
 refine Con.enter Tryz.func257 rfl rfl fun m w => ST.fact (i := 0) rfl kN_lims fun la => ST.fact (i := 1) rfl kN_lims fun lb => ?_
 have hla := limbs_len_le la
 have hlb := limbs_len_le lb
 have lA := limbs_lims (nval a)
 have lB := limbs_lims (nval b)
 refine Cr (Wa rfl (Wa rfl (Wa rfl (Wr (Wm rfl (Ws (O.fn fn191 (evs.c rfl evs.nil) (c_nat_trim a)) (Wm rfl (Ws (O.fn fn191 (evs.c rfl evs.nil) (c_nat_trim b)) (Wa rfl (Wa rfl (Wn (CW.seq (CW.block (Cr (Wm rfl (Ws (O.lenS rfl U27) (Ws (O.eq rfl rfl) ?_)))))))))))))))))
 refine Wa rfl (Wn ?_)
 refine CW.condD rfl (fun h_t18 => ?_) (fun h_t18 => ?_)
 ·
  have hb0 : nval b = 0 := limbs0 (by omega)
  refine Cr (Wa rfl (Wa rfl (Wa rfl (Wn (CW.ret (QE.blkR (QE.thenR (ST.told (q := kN.is ([] : List Nat)) 4 rfl (nil_le _) (ST.told (q := kN.is ([] : List Nat)) 5 rfl (nil_le _) (ST.told 4 rfl (is_eq (y := (limbs (nval a / nval b))) (by rw [hb0, Nat.div_zero, limbs_zero])) (ST.told 5 rfl (is_eq (y := (if nval b = 0 then [] else limbs (nval a % nval b))) (by rw [if_pos hb0])) (ST.told 6 rfl (is_eq (y := (if nval b = 0 then 11 else 0)) (by rw [if_pos hb0])) ?_))))))))))))
  exact QE.done (.inl rfl) rfl (ResOk.t rfl (ResOk.t rfl (ResOk.t rfl ResOk.nil))) (OImp.sub (List.nil_sublist _)) ⟨rfl, rfl⟩
 ·
  have hb0 : nval b ≠ 0 := fun h => by rw [h, limbs_zero] at h_t18; exact h_t18 rfl
  have hlbp := limbs_len_pos hb0
  refine Cr (Wm rfl (Wm rfl (Ws (O.fn fn190 (evs.c rfl (evs.c rfl evs.nil)) (c_nat_Cmp (limbs (nval a)) (limbs (nval b)))) (Ws (O.lt rfl rfl) (Wa rfl (Wn ?_))))))
  refine CW.condD rfl (fun h_t22 => ?_) (fun h_t22 => ?_)
  ·
   refine Cr (Wm rfl (Ws (O.fn fn270 (evs.c rfl evs.nil) (c_nat_Norm (limbs (nval a)))) (Wa rfl (Wa rfl (Wa rfl (Wn (CW.ret (QE.blkR (QE.thenR ?_)))))))))
   have hlt : nval a < nval b := by have := cmpI_lt h_t22; rwa [nval_limbs, nval_limbs] at this
   refine ST.told (q := kN.is ([] : List Nat)) 4 rfl (nil_le _) (ST.told 4 rfl (is_eq (y := (limbs (nval a / nval b))) (by rw [Nat.div_eq_of_lt hlt, limbs_zero])) (ST.told 5 rfl (is_eq (y := (if nval b = 0 then [] else limbs (nval a % nval b))) (by rw [if_neg hb0, nval_limbs, Nat.mod_eq_of_lt hlt])) (ST.told 6 rfl (is_eq (y := (if nval b = 0 then 11 else 0)) (by rw [if_neg hb0])) ?_)))
   exact QE.done (.inl rfl) rfl (ResOk.t rfl (ResOk.t rfl (ResOk.t rfl ResOk.nil))) (OImp.sub (List.nil_sublist _)) ⟨rfl, rfl⟩
  ·
   have hab : nval b ≤ nval a := by have := cmpI_ge h_t22; rwa [nval_limbs, nval_limbs] at this
   have hll := limbs_mono hab
   refine Cr (Wm rfl (Ws (O.lenS rfl U27) (Ws (O.eq rfl rfl) (Wa rfl (Wn ?_)))))
   refine CW.condD rfl (fun h_t29 => ?_) (fun h_t29 => ?_)
   ·
    refine CW.seq ?_
    have hx0 := getD_lt lB 0
    refine CW.region (Wm rfl (Wm rfl (Ws (O.ix 0 rfl rfl U27 ty93 rfl (v := ((limbs (nval b)).getD 0 0)) (gd 0 (by omega))) (Ws (OpOk.le (O.ldP rfl ty93) (limb_le _)) (Ws (O.fn fn271 (evs.c rfl (evs.l rfl (u32_limb (x := ((limbs (nval b)).getD 0 0)) (by omega)) evs.nil)) (c_nat_short (limbs (nval a)) ((limbs (nval b)).getD 0 0) (by rw [one_limb (by omega)]; exact hb0))) (Wm rfl (Ws (O.ext rfl rfl) (Ws (O.ext rfl rfl) (Wa rfl (Wa rfl (Wn (CW.seq ?_))))))))))))
    have hm : nval (limbs (nval a)) % (limbs (nval b)).getD 0 0 < 4294967296 := Nat.lt_of_lt_of_le (Nat.mod_lt _ (by rw [one_limb (by omega)]; omega)) (Nat.le_of_lt hx0)
    refine CW.region (Wm rfl (Wm rfl (Ws (O.bs U27 el93_limb (evl.l rfl (u32_limb (x := (nval (limbs (nval a)) % ((limbs (nval b)).getD 0 0) : Nat)) (by omega)) evl.n) rfl (by decide)) (Ws (O.fn fn191 (evs.c rfl evs.nil) (c_nat_trim [(nval (limbs (nval a)) % ((limbs (nval b)).getD 0 0) : Nat)])) (Wa rfl (Wa rfl (Wa rfl (Wn (CW.ret (QE.blkR (QE.thenR (ST.told 4 rfl (is_eq (y := (limbs (nval a / nval b))) (by rw [one_limb (by omega), nval_limbs])) (ST.told 5 rfl (is_eq (y := (if nval b = 0 then [] else limbs (nval a % nval b))) (by rw [if_neg hb0, one_limb (by omega), nval_limbs]; simp [nval])) (ST.told 6 rfl (is_eq (y := (if nval b = 0 then 11 else 0)) (by rw [if_neg hb0])) ?_))))))))))))))
    exact QE.done (.inl rfl) rfl (ResOk.t rfl (ResOk.t rfl (ResOk.t rfl ResOk.nil))) (OImp.sub (List.nil_sublist _)) ⟨rfl, rfl⟩
   ·
    refine CW.skip (QE.blkN (QE.next (CW.seq ?_)))
    have hx9 := getD_lt lB ((limbs (nval b)).length - 1)
    refine CW.region (Wm rfl (Wm rfl (Ws (O.lenS rfl U27) (Ws (O.sub rfl rfl (c := (((limbs (nval b)).length : Int) - 1)) (w64 (by omega))) (Ws (O.ix ((limbs (nval b)).length - 1) rfl rfl U27 ty93 (by omega) (v := ((limbs (nval b)).getD ((limbs (nval b)).length - 1) 0)) (gd 0 (by omega))) (Ws (OpOk.le (O.ldP rfl ty93) (limb_le _)) (Ws (O.fn fn272 (evs.l rfl (u32_limb (x := ((limbs (nval b)).getD ((limbs (nval b)).length - 1) 0)) (by omega)) evs.nil) (c_bits_LeadingZeros32 ((limbs (nval b)).getD ((limbs (nval b)).length - 1) 0))) (Wa rfl (Wn (CW.seq ?_))))))))))
    obtain ⟨s, hsv, hs, hvl⟩ := div_sh hb0
    refine ST.told 9 rfl (is_eq (y := (s : Int)) hsv) ?_
    have hV : nval b * 2 ^ s ≠ 0 := Nat.mul_ne_zero hb0 (Nat.ne_of_gt (Nat.two_pow_pos s))
    refine CW.region (Wm rfl (Wm rfl (WP.call (Li := []) (L := []) .n fn273 (evs.c rfl (evs.c rfl evs.nil)) (c_nat_shl (limbs (nval b)) s hs (by omega)) fun p_ Lo_ hp_ => ?_)))
    obtain ⟨v1, rfl, rfl, hx_t54⟩ := hp_
    refine Wa rfl (Wn (CW.seq (ST.obtold 0 rfl (OB.row_eq (ys := (limbs (nval b * 2 ^ s))) (by rw [nval_limbs])) (ST.freeze 0 rfl (kp 0 rfl (kp 1 rfl (kp 4 rfl (kp 5 rfl (kp 6 rfl (kp 9 rfl (.hit (i := 10) rfl (kp 14 rfl (kp 15 rfl (kp 16 rfl (kp 17 rfl (kp 18 rfl (kp 19 rfl (kp 20 rfl (kp 21 rfl (kp 22 rfl (kp 23 rfl (kp 24 rfl (kp 25 rfl (kp 26 rfl (kp 29 rfl (kp 30 rfl (kp 31 rfl (kp 32 rfl (kp 45 rfl (kp 46 rfl (kp 47 rfl (kp 48 rfl (kp 49 rfl (kp 50 rfl (kp 51 rfl (kp 52 rfl (kp 53 rfl (.hit (i := 54) rfl .nil)))))))))))))))))))))))))))))))))) ?_))))
    have hul0 : (limbs (nval a * 2 ^ s)).length ≤ (limbs (nval a)).length + 1 := limbs_len_lt (by rw [Nat.pow_succ]; exact Nat.mul_lt_mul_of_lt_of_le (lt_limbs _) (Nat.le_trans (pow32 hs).2.1 (by decide)) (by decide))
    have hul1 : (limbs (nval a)).length ≤ (limbs (nval a * 2 ^ s)).length := limbs_mono (Nat.le_mul_of_pos_right _ (Nat.two_pow_pos s))
    refine CW.region (Wm rfl (Wm rfl (WP.call (Li := []) (L := []) .n fn273 (evs.c rfl (evs.c rfl evs.nil)) (c_nat_shl (limbs (nval a)) s hs (by omega)) fun p_ Lo_ hp_ => ?_)))
    obtain ⟨v2, rfl, rfl, hx_t57⟩ := hp_
    refine Ws (O.bs U27 el93_limb (evl.l rfl (u32_limb (x := 0) (by omega)) (evl.l rfl (u32_limb (x := 0) (by omega)) evl.n)) rfl (by decide)) (ST.obtold 0 rfl (OB.row_eq (ys := (limbs (nval a * 2 ^ s))) (by rw [nval_limbs])) (WP.ap 0 .n rfl rfl rfl Lr U27 el93_limb (by simp; omega) fun v3 => Wm rfl (Ws (O.lenS rfl U27) (Ws (O.add rfl rfl (c := (((limbs (nval a)).length : Int) + 1)) (w64 (by omega))) (WP.slR 0 ((limbs (nval a)).length + 1) .n rfl rfl rfl U27 ty93 (by omega) (by simp; omega) fun v4 => Wa rfl (Wn (CW.seq ?_)))))))
    obtain ⟨us0, hus0⟩ : ∃ us0, us0 = (limbs (nval a * 2 ^ s) ++ [0, 0]).take ((limbs (nval a)).length + 1) := ⟨_, rfl⟩
    refine ST.obtold 0 rfl (OB.row_eq (ys := us0) (by rw [hus0])) ?_
    have hp1 := take_pad (L := limbs (nval a * 2 ^ s)) (k := (limbs (nval a)).length + 1) hul0 (by omega)
    rw [← hus0] at hp1
    have lus : Lims us0 := by rw [hus0]; exact Lims.take (fun x hx => (List.mem_append.1 hx).elim (limbs_lims _ x) (fun h => by simp at h; omega)) _
    refine CW.region (Wm rfl (Ws (O.lenS rfl U27) (Wm rfl (Ws (O.lenS rfl U27) (Ws (O.sub rfl rfl (c := (((limbs (nval a)).length : Int) - ((limbs (nval b)).length : Int))) (w64 (by omega))) (Ws (O.add rfl rfl (c := ((((limbs (nval a)).length : Int) - ((limbs (nval b)).length : Int)) + 1)) (w64 (by omega))) (WP.mk ((limbs (nval a)).length - (limbs (nval b)).length + 1) .n rfl rfl (by omega) (by omega) U27 el93_limb z93_limb fun v5 => Wa rfl (Wn (CW.seq (Cr (Wm rfl (Ws (O.lenS rfl U27) (Wm rfl (Ws (O.lenS rfl U27) (Ws (O.sub rfl rfl (c := (((limbs (nval a)).length : Int) - ((limbs (nval b)).length : Int))) (w64 (by omega))) (Wa rfl (Wn (CW.block (CW.loop5 (fun (us : List Nat) (qs : List Nat) (k : Nat) (vq : Value) (vu : Value) => DivR (nval a * 2 ^ s) (nval b * 2 ^ s) (limbs (nval a)).length (limbs (nval b)).length us qs k) (fun (us : List Nat) (qs : List Nat) (k : Nat) (vq : Value) (vu : Value) => [(0, kN.is (limbs (nval a))), (1, kN.is (limbs (nval b))), (9, kN6.is (s : Int)), (10, kN.is (limbs (nval b * 2 ^ s))), (11, VP.ex vu), (12, VP.ex vq), (13, kN6.is ((k : Int) - 1))]) (fun (us : List Nat) (qs : List Nat) (k : Nat) (vq : Value) (vu : Value) => [OB.row vq 93 kLimb qs, OB.row vu 93 kLimb us]) (fun (us : List Nat) (qs : List Nat) (k : Nat) (vq : Value) (vu : Value) => k) us0 (List.replicate ((limbs (nval a)).length - (limbs (nval b)).length + 1) 0) ((limbs (nval a)).length - (limbs (nval b)).length + 1) v5 v4 (divR_0 hb0 hab hp1.1 lus (by rw [hp1.2, nval_limbs])) (Imp.c4 rfl rfl rfl rfl (Imp.cons rfl (Imp.cons rfl (Imp.consLe rfl (is_eq (y := ((((limbs (nval a)).length - (limbs (nval b)).length + 1) : Nat) : Int) - 1) (by omega)) Imp.nil)))) (OImp.refl _) ?_)))))))))))))))))))
    intro us qs k vq vu hD
    have hul := hD.1
    have hql := hD.2.2.1
    have hk := hD.2.2.2.2.1
    refine CW.seq (Cr (Wm rfl (Ws (O.ge rfl rfl) (Wn ?_))))
    refine CW.condD rfl (fun h_t77 => ?_) (fun h_t77 => ?_)
    ·
     refine CW.skip (QE.next (CW.seq (CW.block (CW.region (Wm rfl (Wm rfl (Wm rfl (Wm rfl (Wm rfl (Wm rfl (Ws (O.lenS rfl U27) (Ws (O.add rfl rfl (c := (((k : Int) - 1) + ((limbs (nval b * 2 ^ s)).length : Int))) (w64 (by omega))) (Ws (O.add rfl rfl (c := ((((k : Int) - 1) + ((limbs (nval b * 2 ^ s)).length : Int)) + 1)) (w64 (by omega))) (Ws (O.slW (k - 1) (k - 1 + ((limbs (nval b * 2 ^ s)).length + 1)) rfl rfl rfl (mem_at 1 rfl) U27 ty93 (by omega) (by omega) (by omega) (by omega)) (Wm rfl (ST.oimp (OImp.ix [1, 0] (by decide) rfl) (WP.call (Li := [OB.row vu 93 kLimb us]) (L := [OB.row vq 93 kLimb qs]) .n fn274 (evs.l rfl (win_le (by simp [kLimb]) (by omega)) (evs.c rfl evs.nil)) (c_nat_digit vu us (limbs (nval b * 2 ^ s)) (k - 1) (by omega) (by omega) (limbs_top hV) (by rw [nval_limbs, hvl]; exact (divR_win (lb := (limbs (nval b)).length) hvl.symm (by omega) (by omega) hD).1)) fun p_ Lo_ hp_ => ?_)))))))))))))))))
     obtain ⟨w, rfl, rfl, hw⟩ := hp_
     have hqd : nval ((us.drop (k - 1)).take ((limbs (nval b * 2 ^ s)).length + 1)) / nval (limbs (nval b * 2 ^ s)) < 4294967296 := by rw [nval_limbs, hvl]; exact divR_q (lb := (limbs (nval b)).length) hvl.symm (by omega) (by omega) hD
     refine Ws (O.ixR (k := kLimb) (xs := qs) (n := (k : Int) - 1) (k - 1) rfl rfl (mem_at 1 rfl) U27 ty93 (by omega) (by omega)) (WP.t .n (O.stR 1 (k - 1) rfl rfl Li rfl (y0 := (qs.getD (k - 1) 0)) (gd 0 (by omega)) ty93 rfl (u32_limb (x := (nval ((us.drop (k - 1)).take ((limbs (nval b * 2 ^ s)).length + 1)) / nval (limbs (nval b * 2 ^ s)) : Nat)) (by omega))) (WP.nil (QE.blkN (QE.next (CW.region (Wm rfl (Ws (O.sub rfl rfl (c := (((k : Int) - 1) - 1)) (w64 (by omega))) (Wa rfl (WP.nil (ST.oimp (OImp.ix [1, 0] (by decide) rfl) ?_))))))))))
     exact QE.round5 (us.take (k - 1) ++ w ++ us.drop (k - 1 + ((limbs (nval b * 2 ^ s)).length + 1))) (qs.set (k - 1) (nval ((us.drop (k - 1)).take ((limbs (nval b * 2 ^ s)).length + 1)) / nval (limbs (nval b * 2 ^ s)))) (k - 1) vq vu (by omega) (by rw [hvl] at hw ⊢; rw [nval_limbs] at hw ⊢; exact divR_s (lb := (limbs (nval b)).length) hvl.symm (by omega) (by omega) hD hw.1 hw.2.1 hw.2.2) (Imp.c4 rfl rfl rfl rfl (Imp.cons rfl (Imp.cons rfl (Imp.consLe rfl (is_eq (y := (((k - 1) : Nat) : Int) - 1) (by omega)) Imp.nil)))) (OImp.os (OS.keepLe (OB.row_eq (by rfl)) (OS.keepLe (OB.row_eq (by rfl)) OS.nil)))
    ·
     refine CW.exit (QE.thenE (QE.thenE (QE.blkH (QE.next (Cr (Wm rfl (ST.freeze 0 rfl (kp 0 rfl (kp 1 rfl (kp 9 rfl (kp 10 rfl (kp 11 rfl (.hit (i := 12) rfl (kp 13 rfl (kp 76 rfl (kp 77 rfl (.hit (i := 93) rfl .nil)))))))))) (Ws (O.fn fn191 (evs.c rfl evs.nil) (c_nat_trim qs)) (Wm rfl (ST.freeze 0 rfl (kp 0 rfl (kp 1 rfl (kp 9 rfl (kp 10 rfl (.hit (i := 11) rfl (kp 12 rfl (kp 13 rfl (kp 76 rfl (kp 77 rfl (kp 93 rfl (kp 94 rfl (.hit (i := 95) rfl .nil)))))))))))) (Ws (O.fn fn191 (evs.c rfl evs.nil) (c_nat_trim us)) (Wm rfl (Ws (O.fn fn275 (evs.c rfl (evs.c rfl evs.nil)) (c_nat_shr (limbs (nval us)) s hs)) (Wa rfl (Wa rfl (Wa rfl (Wn (CW.ret ?_))))))))))))))))))
     have hend := divR_end (by omega) hD
     refine ST.told 4 rfl (is_eq (y := (limbs (nval a / nval b))) (by rw [hend.1])) (ST.told 5 rfl (is_eq (y := (if nval b = 0 then [] else limbs (nval a % nval b))) (by rw [if_neg hb0, nval_limbs, hend.2])) (ST.told 6 rfl (is_eq (y := (if nval b = 0 then 11 else 0)) (by rw [if_neg hb0])) ?_))
     exact QE.done (.inl rfl) rfl (ResOk.t rfl (ResOk.t rfl (ResOk.t rfl ResOk.nil))) (OImp.sub (List.nil_sublist _)) ⟨rfl, rfl⟩
theorem c_nat_Gcd (a b : List Nat) (hA : a.length ≤ 549755813000) (hB : b.length ≤ 549755813000) : Fn Tryz.prog 253 [kN.is a, kN.is b] (kN.is (limbs (Nat.gcd (nval a) (nval b)))) := by
 refine Con.enter Tryz.func253 rfl rfl fun m w => ST.fact (i := 0) rfl kN_lims fun la => ST.fact (i := 1) rfl kN_lims fun lb => ?_
 have hla := limbs_len_le la
 have hlb := limbs_len_le lb
 refine Cr (Wa rfl (Wr (Wm rfl (Ws (O.fn fn270 (evs.c rfl evs.nil) (c_nat_Norm a)) (Wm rfl (Ws (O.fn fn270 (evs.c rfl evs.nil) (c_nat_Norm b)) (Wa rfl (Wa rfl (Wn (CW.seq (CW.block (CW.loop2 (fun (x : Nat) (y : Nat) => Nat.gcd x y = Nat.gcd (nval a) (nval b) ∧ (limbs x).length ≤ 549755813000 ∧ (limbs y).length ≤ 549755813000) (fun (x : Nat) (y : Nat) => [(5, kN.is (limbs x)), (6, kN.is (limbs y))]) (fun (x : Nat) (y : Nat) => []) (fun (x : Nat) (y : Nat) => y) (nval a) (nval b) ⟨rfl, by omega, by omega⟩ (Imp.cons rfl (Imp.cons rfl Imp.nil)) (OImp.refl _) ?_))))))))))))
 intro x y ⟨hg, hx, hy⟩
 refine CW.seq (Cr (Wm rfl (Ws (O.lenS rfl U27) (Ws (O.gt rfl rfl) (Wn ?_)))))
 refine CW.condD rfl (fun h_t16 => ?_) (fun h_t16 => ?_)
 ·
  have hy0 : y ≠ 0 := fun h => by rw [h, limbs_zero] at h_t16; simp at h_t16
  refine CW.skip (QE.next (CW.block (Cr (Wm rfl (Wm rfl (Ws (O.fn fn257 (evs.c rfl (evs.c rfl evs.nil)) (c_nat_Div (limbs x) (limbs y) (by omega) (by omega))) (Wm rfl (Ws (O.ext rfl rfl) (Ws (O.ext rfl rfl) (Ws (O.ext rfl rfl) (Wa rfl (Wa rfl (Wa rfl (Wn (CW.region (Wm rfl (Wm rfl (Wa rfl (Wa rfl (WP.nil (QE.blkN ?_)))))))))))))))))))))
  refine ST.told 6 rfl (is_eq (y := (limbs (x % y))) (by rw [nval_limbs, nval_limbs, if_neg hy0])) ?_
  exact QE.round2 y (x % y) (by exact Nat.mod_lt _ (Nat.pos_of_ne_zero hy0)) ⟨by rw [← hg, Nat.gcd_comm x y, Nat.gcd_rec y x, Nat.gcd_comm], hy, Nat.le_trans (limbs_mono (Nat.le_of_lt (Nat.mod_lt _ (Nat.pos_of_ne_zero hy0)))) hy⟩ (Imp.cons rfl (Imp.cons rfl Imp.nil)) (OImp.refl _)
 ·
  refine CW.exit (QE.thenE (QE.thenE (QE.blkH (QE.next (Cr (Wm rfl (Wa rfl (Wn (CW.ret ?_)))))))))
  have hy0 : y = 0 := limbs0 (by omega)
  refine ST.told 4 rfl (is_eq (y := (limbs (Nat.gcd (nval a) (nval b)))) (by rw [← hg, hy0, Nat.gcd_zero_right])) ?_
  exact QE.done (.inl rfl) rfl (ResOk.t rfl ResOk.nil) (OImp.sub (List.nil_sublist _)) ⟨rfl, rfl⟩
end Fw
/- What more functions of layer 2 answer. -/
set_option linter.unusedVariables false
set_option linter.unusedSimpArgs false
set_option exponentiation.threshold 70
set_option maxRecDepth 20000
set_option maxHeartbeats 1000000
namespace Fw
open Go Go.Proofs
theorem c_zint_Of (n : Int) : Fn Tryz.prog 71 [kI64.is n] (kC.is n) := by
 refine Con.enter Tryz.func71 rfl rfl fun m w => ST.fact (i := 0) rfl int_rng fun hn => ST.told (q := kN6.is n) 0 rfl (i64_le _) (Cr (WP.al .n z29_C fun b1 => Wr (Wm rfl (Ws (O.cvt rfl U2 U178 rfl) (Wa rfl (Wn (CW.seq (Cr (Wm rfl (Ws (O.lt rfl rfl) (Wn ?_)))))))))))
 refine CW.condD rfl (fun h_t7 => ?_) (fun h_t7 => ?_)
 ·
  refine CW.region (Wm rfl (Ws (O.neg rfl (c := ((n.natAbs : Nat) : Int)) (of_neg h_t7 hn.1)) (Wa rfl (Wr (Wm rfl (Ws (O.lt rfl rfl) (Wm rfl (Ws (O.cvt rfl U178 U93 (c := ((n.natAbs % 4294967296 : Nat) : Int)) (wr32 rfl)) (Wm rfl (Ws (O.shr rfl rfl (by omega) (c := ((n.natAbs / 2 ^ 32 : Nat) : Int)) (shrN 32 rfl rfl (by decide))) (Ws (O.cvt rfl U178 U93 (c := ((n.natAbs / 2 ^ 32 : Nat) : Int)) (wrs32 (by omega))) (Ws (O.bs U27 el93_limb (evl.l rfl (u32_limb (x := (n.natAbs % 4294967296 : Nat)) (by omega)) (evl.l rfl (u32_limb (x := (n.natAbs / 2 ^ 32 : Nat)) (by omega)) evl.n)) rfl (by decide)) (Ws (O.fn fn137 (evs.c rfl (evs.c rfl evs.nil)) (c_zint_made (decide (n < 0)) [(n.natAbs % 4294967296 : Nat), (n.natAbs / 2 ^ 32 : Nat)])) (WP.t .n (O.stW (l := kC) (u := ival ((decide (n < 0)), [(n.natAbs % 4294967296 : Nat), (n.natAbs / 2 ^ 32 : Nat)])) 0 rfl rfl rfl ty29 rfl Lr) (Wn (CW.ret (ST.obtold 0 rfl (OB.box_eq (y := n) of_val) ?_)))))))))))))))))
  exact QE.done (.inl rfl) rfl (ResOk.c rfl (mem_at 0 rfl) ty29 ResOk.nil) (OImp.sub (List.nil_sublist _)) ⟨rfl, rfl⟩
 ·
  refine ST.told 3 rfl (is_eq (y := ((n.natAbs : Nat) : Int)) (of_pos h_t7 hn.2)) (CW.skip (QE.next (Cr (Wm rfl (Ws (O.lt rfl rfl) (Wm rfl (Ws (O.cvt rfl U178 U93 (c := ((n.natAbs % 4294967296 : Nat) : Int)) (wr32 rfl)) (Wm rfl (Ws (O.shr rfl rfl (by omega) (c := ((n.natAbs / 2 ^ 32 : Nat) : Int)) (shrN 32 rfl rfl (by decide))) (Ws (O.cvt rfl U178 U93 (c := ((n.natAbs / 2 ^ 32 : Nat) : Int)) (wrs32 (by omega))) (Ws (O.bs U27 el93_limb (evl.l rfl (u32_limb (x := (n.natAbs % 4294967296 : Nat)) (by omega)) (evl.l rfl (u32_limb (x := (n.natAbs / 2 ^ 32 : Nat)) (by omega)) evl.n)) rfl (by decide)) (Ws (O.fn fn137 (evs.c rfl (evs.c rfl evs.nil)) (c_zint_made (decide (n < 0)) [(n.natAbs % 4294967296 : Nat), (n.natAbs / 2 ^ 32 : Nat)])) (WP.t .n (O.stW (l := kC) (u := ival ((decide (n < 0)), [(n.natAbs % 4294967296 : Nat), (n.natAbs / 2 ^ 32 : Nat)])) 0 rfl rfl rfl ty29 rfl Lr) (Wn (CW.ret (ST.obtold 0 rfl (OB.box_eq (y := n) of_val) ?_))))))))))))))))
  exact QE.done (.inl rfl) rfl (ResOk.c rfl (mem_at 0 rfl) ty29 ResOk.nil) (OImp.sub (List.nil_sublist _)) ⟨rfl, rfl⟩
theorem c_zint_Neg (z : Int) : Fn Tryz.prog 145 [kZ.is z] (kC.is (-z)) := by
 refine Con.enter Tryz.func145 rfl rfl fun m w => ST.z 0 rfl fun y y_v y_n y_l => Cr (WP.bx .n rfl fun b1 => WP.al .n z29_C fun b2 => Wr (Ws (O.fa rfl fld29_0 rfl) (Ws (O.ld rfl (mem_at 1 rfl) (Lens.fst Li) ty4 rfl) (Ws (O.not rfl) (Ws (O.fa rfl fld29_1 rfl) (Ws (O.ld rfl (mem_at 1 rfl) (Lens.snd Li) ty27 rfl) (Ws (O.fn fn137 (evs.c rfl (evs.c rfl evs.nil)) (c_zint_made (!y.1) y.2)) (WP.t .n (O.stW (l := kC) (u := ival ((!y.1), y.2)) 0 rfl rfl rfl ty29 rfl Lr) (Wn (CW.ret (ST.obtold 0 rfl (OB.box_eq (y := (-z)) (by rw [← y_v]; exact ival_not)) ?_)))))))))))
 exact QE.done (.inl rfl) rfl (ResOk.c rfl (mem_at 0 rfl) ty29 ResOk.nil) (OImp.sub (List.nil_sublist _)) ⟨rfl, rfl⟩
theorem c_zint_Form (z : Int) : Fn Tryz.prog 132 [kZ.is z] (kC.is z) := by
 refine Con.enter Tryz.func132 rfl rfl fun m w => ST.z 0 rfl fun y y_v y_n y_l => Cr (WP.bx .n rfl fun b1 => WP.al .n z29_C fun b2 => Wr (Ws (O.fa rfl fld29_0 rfl) (Ws (O.ld rfl (mem_at 1 rfl) (Lens.fst Li) ty4 rfl) (Ws (O.fa rfl fld29_1 rfl) (Ws (O.ld rfl (mem_at 1 rfl) (Lens.snd Li) ty27 rfl) (Ws (O.fn fn137 (evs.c rfl (evs.c rfl evs.nil)) (c_zint_made y.1 y.2)) (WP.t .n (O.stW (l := kC) (u := ival (y.1, y.2)) 0 rfl rfl rfl ty29 rfl Lr) (Wn (CW.ret (ST.obtold 0 rfl (OB.box_eq (y := z) y_v) ?_))))))))))
 exact QE.done (.inl rfl) rfl (ResOk.c rfl (mem_at 0 rfl) ty29 ResOk.nil) (OImp.sub (List.nil_sublist _)) ⟨rfl, rfl⟩
theorem c_zint_Sub (x y : Int) : Fn Tryz.prog 213 [kZ.is x, kZ.is y] (kC.is (x - y)) := by
 refine Con.enter Tryz.func213 rfl rfl fun m w => ST.fact (i := 1) rfl kZ_sm fun hsy => Cr (WP.bx .n rfl fun b1 => WP.bx .n rfl fun b2 => WP.al .n z29_C fun b3 => Wn (CW.seq ?_))
 refine CW.drawM (Γ := [.fr (kZ.is x), .fr (kZ.is y), .fr (kC.is (-y)), .fr (kC.is (x + (-y)))]) (of_ rfl (fun N => O.ld rfl (mem_app N (mem_at 2 rfl)) Li ty29 rfl) (of_ rfl (fun N => O.ld rfl (mem_app N (mem_at 1 rfl)) Li ty29 rfl) (of_ rfl (fun N => O.fn fn145 (evs.c rfl evs.nil) (c_zint_Neg y)) (of_ rfl (fun N => O.fn fn189 (evs.c rfl (evs.l rfl (kC_Z (Sm_neg (by assumption))) evs.nil)) (c_zint_Add x (-y))) oz)))) (fun σ => ?_)
 refine WP.t .n (O.stW (l := kC) (u := x + (-y)) 0 rfl rfl rfl ty29 rfl Lr) (Wn (CW.ret (ST.obtold 0 rfl (OB.box_eq (y := (x - y)) (Int.sub_eq_add_neg).symm) ?_)))
 exact QE.done (.inl rfl) rfl (ResOk.c rfl (mem_at 0 rfl) ty29 ResOk.nil) (OImp.sub (List.nil_sublist _)) ⟨rfl, rfl⟩
theorem c_zint_Mul (x y : Int) : Fn Tryz.prog 122 [kZ.is x, kZ.is y] (kC.is (x * y)) := by
 refine Con.enter Tryz.func122 rfl rfl fun m w => ST.z 0 rfl fun p p_v p_n p_l => ST.z 1 rfl fun q q_v q_n q_l => Cr (WP.bx .n rfl fun b1 => WP.bx .n rfl fun b2 => WP.al .n z29_C fun b3 => Wn (CW.seq ?_))
 refine CW.drawM (Γ := [.fr (VP.pt b1 0), .fr (kBool.is p.1), .fr (VP.pt b2 0), .fr (kBool.is q.1), .fr (kBool.is (decide (p.1 ≠ q.1))), .fr (VP.pt b1 1), .fr (kN.is p.2), .fr (VP.pt b2 1), .fr (kN.is q.2), .fr (kN.is (limbs (nval p.2 * nval q.2))), .fr (kC.is (ival ((decide (p.1 ≠ q.1)), (limbs (nval p.2 * nval q.2)))))]) (of_ rfl (fun N => O.fa rfl fld29_0 rfl) (of_ rfl (fun N => O.ld rfl (mem_app N (mem_at 2 rfl)) (Lens.fst Li) ty4 rfl) (of_ rfl (fun N => O.fa rfl fld29_0 rfl) (of_ rfl (fun N => O.ld rfl (mem_app N (mem_at 1 rfl)) (Lens.fst Li) ty4 rfl) (of_ rfl (fun N => O.neB rfl rfl U4) (of_ rfl (fun N => O.fa rfl fld29_1 rfl) (of_ rfl (fun N => O.ld rfl (mem_app N (mem_at 2 rfl)) (Lens.snd Li) ty27 rfl) (of_ rfl (fun N => O.fa rfl fld29_1 rfl) (of_ rfl (fun N => O.ld rfl (mem_app N (mem_at 1 rfl)) (Lens.snd Li) ty27 rfl) (of_ rfl (fun N => O.fn fn193 (evs.c rfl (evs.c rfl evs.nil)) (c_nat_Mul p.2 q.2 (by omega))) (of_ rfl (fun N => O.fn fn137 (evs.c rfl (evs.c rfl evs.nil)) (c_zint_made (decide (p.1 ≠ q.1)) (limbs (nval p.2 * nval q.2)))) oz))))))))))) (fun σ => ?_)
 refine WP.t .n (O.stW (l := kC) (u := ival ((decide (p.1 ≠ q.1)), (limbs (nval p.2 * nval q.2)))) 0 rfl rfl rfl ty29 rfl Lr) (Wn (CW.ret (ST.obtold 0 rfl (OB.box_eq (y := (x * y)) (by rw [← p_v, ← q_v]; exact ival_mul)) ?_)))
 exact QE.done (.inl rfl) rfl (ResOk.c rfl (mem_at 0 rfl) ty29 ResOk.nil) (OImp.sub (List.nil_sublist _)) ⟨rfl, rfl⟩
theorem c_zint_Compare (x y : Int) : Fn Tryz.prog 119 [kZ.is x, kZ.is y] (kN6.is ((x - y).sign)) := by
 refine Con.enter Tryz.func119 rfl rfl fun m w => ST.z 0 rfl fun p p_v p_n p_l => ST.z 1 rfl fun q q_v q_n q_l => Cr (WP.bx .n rfl fun b1 => WP.bx .n rfl fun b2 => Wa rfl (Wn (CW.seq ?_)))
 refine CW.drawM (Γ := [.fr (kI.is (p.1, p.2)), .fr (kN6.is ((ival (p.1, p.2)).sign)), .fr (kI.is (q.1, q.2)), .fr (kN6.is ((ival (q.1, q.2)).sign))]) (of_ rfl (fun N => O.ld rfl (mem_app N (mem_at 1 rfl)) Li ty29 rfl) (of_ rfl (fun N => O.fn fn57 (evs.l rfl (kI_Z rfl (by omega)) evs.nil) (c_zint_Sign (ival (p.1, p.2)))) (of_ rfl (fun N => O.ld rfl (mem_app N (mem_at 0 rfl)) Li ty29 rfl) (of_ rfl (fun N => O.fn fn57 (evs.l rfl (kI_Z rfl (by omega)) evs.nil) (c_zint_Sign (ival (q.1, q.2)))) oz)))) (fun σ => ?_)
 refine Wa rfl (Wa rfl (Wn (CW.seq (CW.block (Cr (Wm rfl (Wm rfl (Ws (O.lt rfl rfl) (Wa rfl (Wn ?_))))))))))
 refine CW.condD rfl (fun h_t11 => ?_) (fun h_t11 => ?_)
 ·
  refine Cr (Wa rfl (Wn (CW.ret (QE.blkR (QE.thenR (ST.told 4 rfl (is_eq (y := (x - y).sign) (zcmp_lt p_v q_v h_t11)) ?_))))))
  exact QE.done (.inl rfl) rfl (ResOk.t rfl ResOk.nil) (OImp.sub (List.nil_sublist _)) ⟨rfl, rfl⟩
 ·
  refine Cr (Wm rfl (Wm rfl (Ws (O.gt rfl rfl) (Wa rfl (Wn ?_)))))
  refine CW.condD rfl (fun h_t15 => ?_) (fun h_t15 => ?_)
  ·
   refine Cr (Wa rfl (Wn (CW.ret (QE.blkR (QE.thenR (ST.told 4 rfl (is_eq (y := (x - y).sign) (zcmp_gt p_v q_v h_t15)) ?_))))))
   exact QE.done (.inl rfl) rfl (ResOk.t rfl ResOk.nil) (OImp.sub (List.nil_sublist _)) ⟨rfl, rfl⟩
  ·
   refine CW.skip (QE.blkN (QE.next (Cr (Wm rfl (Ws (O.fa rfl fld29_1 rfl) (Ws (O.ld rfl (mem_at 1 rfl) (Lens.snd Li) ty27 rfl) (Ws (O.fa rfl fld29_1 rfl) (Ws (O.ld rfl (mem_at 0 rfl) (Lens.snd Li) ty27 rfl) (Ws (O.fn fn190 (evs.c rfl (evs.c rfl evs.nil)) (c_nat_Cmp p.2 q.2)) (Ws (O.mul rfl rfl (c := ((x - y).sign)) (zcmp_same p_v q_v h_t11 h_t15)) (Wa rfl (Wn (CW.ret ?_)))))))))))))
   exact QE.done (.inl rfl) rfl (ResOk.t rfl ResOk.nil) (OImp.sub (List.nil_sublist _)) ⟨rfl, rfl⟩
theorem c_zint_Gcd (x y : Int) : Fn Tryz.prog 207 [kZ.is x, kZ.is y] (kC.is (Int.gcd x y : Int)) := by
 refine Con.enter Tryz.func207 rfl rfl fun m w => ST.z 0 rfl fun p p_v p_n p_l => ST.z 1 rfl fun q q_v q_n q_l => Cr (WP.bx .n rfl fun b1 => WP.bx .n rfl fun b2 => WP.al .n z29_C fun b3 => Wr (Ws (O.fa rfl fld29_1 rfl) (Ws (O.ld rfl (mem_at 2 rfl) (Lens.snd Li) ty27 rfl) (Ws (O.fa rfl fld29_1 rfl) (Ws (O.ld rfl (mem_at 1 rfl) (Lens.snd Li) ty27 rfl) (Ws (O.fn fn253 (evs.c rfl (evs.c rfl evs.nil)) (c_nat_Gcd p.2 q.2 (by omega) (by omega))) (Ws (O.fn fn137 (evs.c rfl (evs.c rfl evs.nil)) (c_zint_made false (limbs (Nat.gcd (nval p.2) (nval q.2))))) (WP.t .n (O.stW (l := kC) (u := ival (false, (limbs (Nat.gcd (nval p.2) (nval q.2))))) 0 rfl rfl rfl ty29 rfl Lr) (Wn (CW.ret (ST.obtold 0 rfl (OB.box_eq (y := (Int.gcd x y : Int)) (by rw [← p_v, ← q_v, Int.gcd, ival_abs, ival_abs, ival_pos rfl, nval_limbs])) ?_)))))))))))
 exact QE.done (.inl rfl) rfl (ResOk.c rfl (mem_at 0 rfl) ty29 ResOk.nil) (OImp.sub (List.nil_sublist _)) ⟨rfl, rfl⟩
end Fw
/- Weights that climb, choices and the greedy block: what the functions answer. -/
set_option linter.unusedVariables false
set_option linter.unusedSimpArgs false
set_option exponentiation.threshold 400
namespace Fw
open Go Go.Proofs
end Fw
/- Plain facts on limbs: the document's quotient. -/
set_option linter.unusedVariables false
set_option linter.unusedSimpArgs false
set_option exponentiation.threshold 70
namespace Fw
open Go (IntKind)
theorem shl1_32 {n : Nat} (h : n < 32) {b : Int} (hb : b = n) : IntKind.u32.wrap ((1 : Int) * 2 ^ (min b.toNat IntKind.u32.bits)) = ((2 ^ n : Nat) : Int) := by
  subst hb
  show IntKind.u32.wrap (1 * 2 ^ (min _ 32)) = _
  rw [Int.toNat_natCast, Nat.min_eq_left (Nat.le_of_lt h), Int.one_mul, wrs32 (s := 2 ^ n) ⟨by norm_cast, Nat.lt_of_le_of_lt (pow32 h).2.1 (by decide)⟩]
theorem rdiv_top {R V : Nat} {n : Nat} (hn : n = (limbs V).length) (hV : V ≠ 0) (hR : R < V * 4294967296) : R / V ≤ ((limbs R).getD n 0 * 4294967296 + (limbs R).getD (n - 1) 0) / (limbs V).getD (n - 1) 0 := by
  have hp : 1 ≤ n := by rw [hn]; exact limbs_len_pos hV
  have ht := limbs_top hV
  rw [← hn] at ht
  have h1 := two_limbs (limbs R) (limbs_lims R) (n - 1)
  rw [nval_limbs, show n - 1 + 1 = n from by omega] at h1
  have h2 := lt_limbs V
  rw [← hn] at h2
  have hpos : 0 < 4294967296 ^ (n - 1) := Nat.pow_pos (by decide)
  have h3 : R / 4294967296 ^ (n - 1) < 18446744073709551616 := by
    rw [Nat.div_lt_iff_lt_mul hpos]
    have e : 18446744073709551616 * 4294967296 ^ (n - 1) = 4294967296 ^ n * 4294967296 := by
      have : 4294967296 ^ n = 4294967296 ^ (n - 1) * 4294967296 := by
        conv => lhs; rw [show n = n - 1 + 1 from by omega, Nat.pow_succ]
      rw [this]
      generalize 4294967296 ^ (n - 1) = P
      omega
    rw [e]
    exact Nat.lt_trans hR (Nat.mul_lt_mul_of_pos_right h2 (by decide))
  rw [Nat.mod_eq_of_lt h3] at h1
  rw [show (4294967296 : Nat) = 2 ^ 32 from rfl] at *
  rw [h1, Nat.div_div_eq_div_mul]
  have h4 := split_at (l := limbs V) (i := n) (Nat.le_of_eq hn) hp
  rw [hn, List.drop_length, ← hn, nval, Nat.mul_zero, Nat.add_zero, nval_limbs] at h4
  refine Nat.div_le_div_left ?_ (Nat.mul_pos (Nat.pow_pos (by decide)) (Nat.pos_of_ne_zero ht))
  exact Nat.le_trans (Nat.le_add_left _ _) (Nat.le_of_eq h4.symm)
def RDiv (U : List Nat) (V : Nat) (qs : List Nat) (k rest : Nat) : Prop := qs.length = U.length ∧ Lims qs ∧ k ≤ U.length ∧ rest < V ∧ nval (U.drop k) = nval (qs.drop k) * V + rest ∧ ∀ p, p < k → qs.getD p 0 = 0
theorem rdiv_0 {U : List Nat} {V : Nat} (hV : V ≠ 0) : RDiv U V (List.replicate U.length 0) U.length 0 := by
  refine ⟨by simp, fun x hx => ?_, Nat.le_refl _, Nat.pos_of_ne_zero hV, ?_, fun p _ => ?_⟩
  · have := (List.mem_replicate.1 hx).2; omega
  · rw [List.drop_length, List.drop_of_length_le (by simp)]; simp [nval]
  · rw [List.getD_eq_getElem?_getD, List.getElem?_replicate]; split <;> rfl
theorem rdiv_R {U qs : List Nat} {V k rest : Nat} (lU : Lims U) (hk : 0 < k) (h : RDiv U V qs k rest) : U.getD (k - 1) 0 + 4294967296 * rest < V * 4294967296 := by
  have := getD_lt lU (k - 1)
  have := h.2.2.2.1
  omega
theorem rdiv_lt {U qs : List Nat} {V k rest : Nat} (hk : 0 < k) (h : RDiv U V qs k rest) (hR : U.getD (k - 1) 0 + 4294967296 * rest < V) : RDiv U V qs (k - 1) (U.getD (k - 1) 0 + 4294967296 * rest) := by
  obtain ⟨h1, h2, h3, h4, h5, h6⟩ := h
  refine ⟨h1, h2, by omega, hR, ?_, fun p hp => h6 p (by omega)⟩
  rw [nval_drop, nval_drop qs, show k - 1 + 1 = k from by omega, h5, h6 _ (by omega), Nat.zero_add, Nat.mul_assoc]
  omega
theorem rdiv_ge {U qs : List Nat} {V k rest g : Nat} (lU : Lims U) (hk : 0 < k) (h : RDiv U V qs k rest) (hg : g = (U.getD (k - 1) 0 + 4294967296 * rest) / V) (hgl : g < 4294967296) : RDiv U V (qs.set (k - 1) g) (k - 1) (U.getD (k - 1) 0 + 4294967296 * rest - V * g) := by
  obtain ⟨h1, h2, h3, h4, h5, h6⟩ := h
  have e1 := Nat.div_add_mod (U.getD (k - 1) 0 + 4294967296 * rest) V
  have e2 := Nat.mod_lt (U.getD (k - 1) 0 + 4294967296 * rest) (show V > 0 by omega)
  rw [← hg] at e1
  refine ⟨by simpa using h1, h2.set hgl, by omega, by omega, ?_, fun p hp => ?_⟩
  · rw [nval_drop, show k - 1 + 1 = k from by omega, h5, drop_set (by omega), nval, show k - 1 + 1 = k from by omega, Nat.add_mul, Nat.mul_assoc, Nat.mul_comm g V]
    omega
  · rw [getD_set_ne' (by omega)]; exact h6 p (by omega)
theorem rdiv_end {a b s : Nat} {qs : List Nat} {k rest : Nat} (hk : k = 0) (h : RDiv (limbs (a * 2 ^ s)) (b * 2 ^ s) qs k rest) : nval qs = a / b ∧ rest / 2 ^ s = a % b := by
  obtain ⟨h1, h2, h3, h4, h5, h6⟩ := h
  subst hk
  simp only [List.drop_zero, nval_limbs] at h5
  have hp := Nat.two_pow_pos s
  have e1 : nval qs = a * 2 ^ s / (b * 2 ^ s) := by
    rw [h5, Nat.mul_comm (nval qs), Nat.mul_add_div (by omega), Nat.div_eq_of_lt h4, Nat.add_zero]
  have e2 : rest = a * 2 ^ s % (b * 2 ^ s) := by
    rw [h5, Nat.mul_comm (nval qs), Nat.mul_add_mod, Nat.mod_eq_of_lt h4]
  refine ⟨?_, ?_⟩
  · rw [e1, Nat.mul_div_mul_right _ _ hp]
  · rw [e2, Nat.mul_mod_mul_right, Nat.mul_div_cancel _ hp]
theorem cmpI_gt {a b : Nat} (h : 0 < cmpI a b) : b < a := by
  unfold cmpI at h; split at h
  · omega
  · split at h
    · assumption
    · omega
theorem cmpI_ngt {a b : Nat} (h : ¬ 0 < cmpI a b) : a ≤ b := by
  unfold cmpI at h; split at h
  · omega
  · split at h <;> omega
end Fw
/- What the document's functions on quotients of limbs answer. -/
set_option linter.unusedVariables false
set_option linter.unusedSimpArgs false
set_option exponentiation.threshold 70
set_option maxRecDepth 20000
set_option maxHeartbeats 1000000
namespace Fw
open Go Go.Proofs
theorem c_ref01_small (l : List Nat) (d : Nat) (hd : d ≠ 0) (hdl : d < 4294967296) : Fn Tryz.prog 254 [kN.is l, (kInt .u64).is (d : Int)] (VP.tup [kN.is (limbs (nval l / d)), (kInt .u64).is ((nval l % d : Nat) : Int)]) := by
 refine Con.enter Tryz.func254 rfl rfl fun m w => ST.fact (i := 0) rfl sl_len fun hB => ST.fact (i := 0) rfl kN_lims fun hL => Cr (Wa rfl (Wa rfl (Wr (Wm rfl (Ws (O.lenS rfl U27) (WP.mk l.length .n rfl rfl rfl (by omega) U27 el93_limb z93_limb fun v1 => Wa rfl (Wr (Wa rfl (Wn (CW.seq (CW.seq ?_)))))))))))
 refine CW.region (Wm rfl (Ws (O.lenS rfl U27) (Ws (O.sub rfl rfl (c := ((l.length : Int) - 1)) (w64 (by omega))) (Wa rfl (Wn (CW.block (CW.loop3 (fun (row : List Nat) (i : Nat) (r : Nat) => i ≤ l.length ∧ ShortR l row d i r) (fun (row : List Nat) (i : Nat) (r : Nat) => [(0, kN.is l), (1, (kInt .u64).is (d : Int)), (6, VP.ex v1), (7, (kInt .u64).is (r : Int)), (8, kN6.is ((i : Int) - 1))]) (fun (row : List Nat) (i : Nat) (r : Nat) => [OB.row v1 93 kLimb row]) (fun (row : List Nat) (i : Nat) (r : Nat) => i) (List.replicate l.length 0) l.length 0 ⟨Nat.le_refl _, shortR_0 hd⟩ (Imp.cons rfl (Imp.cons rfl (Imp.cons rfl (Imp.consLe rfl (is_eq (y := (0 : Int)) (by omega)) (Imp.consLe rfl (is_eq (y := ((l.length : Nat) : Int) - 1) (by omega)) Imp.nil))))) (OImp.refl _) ?_)))))))
 intro row i r ⟨hi, hS⟩
 have hrl := hS.2.1
 have hr := hS.2.2.1
 have hx := getD_lt hL (i - 1)
 have hq := short_q hr hx
 refine CW.seq (Cr (Wm rfl (Ws (O.ge rfl rfl) (Wn ?_))))
 refine CW.condD rfl (fun h_t16 => ?_) (fun h_t16 => ?_)
 ·
  refine CW.skip (QE.next (CW.seq (CW.block (Cr (Wm rfl (Ws (O.mul rfl rfl (c := ((r * 2 ^ 32 : Nat) : Int)) (wu64 (by omega))) (Wm rfl (Wm rfl (Ws (O.ix (i - 1) rfl rfl U27 ty93 (by omega) (v := (l.getD (i - 1) 0)) (gd 0 (by omega))) (Ws (OpOk.le (O.ldP rfl ty93) (limb_le _)) (Ws (O.cvt rfl U93 U178 (c := ((l.getD (i - 1) 0) : Int)) (wu64 (by omega))) (Ws (O.add rfl rfl (c := ((r * 2 ^ 32 + l.getD (i - 1) 0 : Nat) : Int)) (wu64 (by omega))) (Wa rfl (Wr (Wm rfl (Wm rfl (Wm rfl (Wm rfl (Ws (O.quo rfl rfl (by omega) (c := (((r * 2 ^ 32 + l.getD (i - 1) 0) / d : Nat) : Int)) (quoN d rfl rfl (by omega))) ?_)))))))))))))))))))
  refine Ws (O.cvt rfl U178 U93 (c := (((r * 2 ^ 32 + l.getD (i - 1) 0) / d : Nat) : Int)) (wrs32 ⟨rfl, hq⟩)) (Ws (O.ixR (k := kLimb) (xs := row) (n := (i : Int) - 1) (i - 1) rfl rfl (mem_at 0 rfl) U27 ty93 (by omega) (by omega)) (WP.t .n (O.stR 0 (i - 1) rfl rfl Li rfl (y0 := (row.getD (i - 1) 0)) (gd 0 (by omega)) ty93 rfl (u32_limb (x := ((r * 2 ^ 32 + l.getD (i - 1) 0) / d : Nat)) (by omega))) (Wn (CW.region (Wm rfl (Wm rfl (Ws (O.rem rfl rfl (by omega) (c := (((r * 2 ^ 32 + l.getD (i - 1) 0) % d : Nat) : Int)) (tmodN d rfl rfl)) (Wa rfl (WP.nil (QE.blkN (QE.next (CW.region (Wm rfl (Ws (O.sub rfl rfl (c := (((i : Int) - 1) - 1)) (w64 (by omega))) (Wa rfl (WP.nil ?_))))))))))))))))
  exact QE.round3 (row.set (i - 1) ((r * 2 ^ 32 + l.getD (i - 1) 0) / d)) (i - 1) ((r * 2 ^ 32 + l.getD (i - 1) 0) % d) (by omega) ⟨by omega, shortR_s hL hdl (by omega) (by omega) hS⟩ (Imp.cons rfl (Imp.cons rfl (Imp.cons rfl (Imp.consLe rfl (is_eq (y := ((((r * 2 ^ 32 + l.getD (i - 1) 0) % d) : Nat) : Int)) (by omega)) (Imp.consLe rfl (is_eq (y := (((i - 1) : Nat) : Int) - 1) (by omega)) Imp.nil))))) (OImp.os (OS.keepLe (OB.row_eq (by rfl)) OS.nil))
 ·
  refine CW.exit (QE.thenE (QE.thenE (QE.blkH (QE.next (Cr (Wm rfl (ST.freeze 0 rfl (kp 0 rfl (kp 1 rfl (.hit (i := 6) rfl (kp 7 rfl (kp 8 rfl (kp 15 rfl (kp 16 rfl (.hit (i := 37) rfl .nil)))))))) (Ws (O.fn fn158 (evs.c rfl evs.nil) (c_ref01_Norm row)) (Wm rfl (Wa rfl (Wa rfl (Wn (CW.ret (ST.told 4 rfl (is_eq (y := (limbs (nval l / d))) (by rw [(shortR_end (by omega) hS).1])) (ST.told 5 rfl (is_eq (y := ((nval l % d : Nat) : Int)) (by rw [(shortR_end (by omega) hS).2])) ?_)))))))))))))))
  exact QE.done (.inl rfl) rfl (ResOk.t rfl (ResOk.t rfl ResOk.nil)) (OImp.sub (List.nil_sublist _)) ⟨rfl, rfl⟩
theorem c_ref01_Two (n : Nat) (hn : n < 32) : Fn Tryz.prog 255 [kN6.is (n : Int)] (kN.is [2 ^ n]) := by
 refine Con.enter Tryz.func255 rfl rfl fun m w => ?_
 have hp := (pow32 hn).2.1
 refine Cr (Wa rfl (Wr (Wa rfl (Wn (CW.seq (Cr (Wa rfl (Wn (CW.block (ST.nilrow 93 kLimb (CW.loop2 (fun (i : Nat) (v : Value) => i = 0) (fun (i : Nat) (v : Value) => [(0, kN6.is (n : Int)), (3, VP.ex v), (4, kN6.is (i : Int))]) (fun (i : Nat) (v : Value) => [OB.row v 93 kLimb []]) (fun (i : Nat) (v : Value) => i) 0 (.slice none 0 0) rfl (Imp.cons rfl (Imp.cons rfl (Imp.consLe rfl (is_eq (y := (0 : Int)) (by omega)) Imp.nil))) (OImp.refl _) ?_)))))))))))
 intro i v hi
 refine CW.seq (Cr (Wm rfl (Wm rfl (Ws (O.quo rfl rfl (by omega) (c := 0) (quo32 hn)) (Ws (O.lt rfl rfl) (Wn ?_))))))
 refine CW.condD rfl (fun h => absurd h (by omega)) (fun h_t8 => ?_)
 refine CW.exit (QE.thenE (QE.thenE (QE.blkH (QE.next (Cr (Wm rfl (Wm rfl (Ws (O.rem rfl rfl (by omega) (c := (n : Int)) (rem32 hn)) (Ws (O.cvt rfl U3 U180 (c := (n : Int)) (wu64 (by omega))) (Ws (O.shl rfl rfl (by omega) (c := ((2 ^ n : Nat) : Int)) (shl1_32 hn rfl)) (Ws (O.bs U27 el93_limb (evl.l rfl (u32_limb (x := (2 ^ n : Nat)) (by omega)) evl.n) rfl (by decide)) (WP.ap 0 .n rfl rfl rfl Lr U27 el93_limb (by simp) fun v1 => Wa rfl (Wn (CW.ret (ST.freeze 0 rfl (kp 0 rfl (.hit (i := 2) rfl (kp 3 rfl (kp 4 rfl (kp 5 rfl (kp 6 rfl (kp 7 rfl (kp 8 rfl (kp 14 rfl (kp 15 rfl (kp 16 rfl (kp 17 rfl (kp 18 rfl (kp 19 rfl (.hit (i := 20) rfl .nil))))))))))))))) ?_)))))))))))))))
 exact QE.done (.inl rfl) rfl (ResOk.tl rfl (is_eq (y := [2 ^ n]) (by rfl)) ResOk.nil) (OImp.sub (List.nil_sublist _)) ⟨rfl, rfl⟩
theorem c_ref01_Shr (l : List Nat) (n : Nat) (hn : n < 32) : Fn Tryz.prog 256 [kN.is l, kN6.is (n : Int)] (VP.tup [kN.is (limbs (nval l / 2 ^ n)), kN6.is 0]) := by
 refine Con.enter Tryz.func256 rfl rfl fun m w => ST.fact (i := 0) rfl sl_len fun hB => ST.fact (i := 0) rfl kN_lims fun hL => Cr (Wa rfl (Wa rfl (Wn (CW.seq (Cr (Wm rfl (Ws (O.lt rfl rfl) (Wn ?_))))))))
 refine CW.condD rfl (fun h => absurd h (by omega)) (fun h_t10 => ?_)
 refine CW.skip (QE.next (CW.seq (Cr (Wm rfl (Wm rfl (Ws (O.fn fn125 (evs.c rfl evs.nil) (c_ref01_Bits l)) (Ws (O.ge rfl rfl) (Wn ?_))))))))
 refine CW.condD rfl (fun h_t14 => ?_) (fun h_t14 => ?_)
 ·
  refine Cr (Wa rfl (Wa rfl (Wn (CW.ret (QE.thenR (ST.told (q := kN.is ([] : List Nat)) 4 rfl (nil_le _) (ST.told 4 rfl (is_eq (y := (limbs (nval l / 2 ^ n))) (by rw [Nat.div_eq_of_lt (Nat.lt_of_lt_of_le (lt_bitlen _) (Nat.pow_le_pow_right (by decide) (by omega))), limbs_zero])) ?_)))))))
  exact QE.done (.inl rfl) rfl (ResOk.t rfl (ResOk.t rfl ResOk.nil)) (OImp.sub (List.nil_sublist _)) ⟨rfl, rfl⟩
 ·
  refine CW.skip (QE.next (Cr (Wa rfl (Wn (CW.seq (Cr (Wm rfl (Ws (O.quo rfl rfl (by omega) (c := 0) (quo32 hn)) (Wa rfl (Wn (CW.block (ST.nilrow 93 kLimb (CW.loop2 (fun (r : List Nat) (v : Value) => ShrR l r n) (fun (r : List Nat) (v : Value) => [(0, kN.is l), (1, kN6.is (n : Int)), (5, kN6.is 0), (6, VP.ex v), (7, kN6.is (r.length : Int))]) (fun (r : List Nat) (v : Value) => [OB.row v 93 kLimb r]) (fun (r : List Nat) (v : Value) => l.length - r.length) [] (.slice none 0 0) (shrR_0 _ _) (Imp.c4 rfl rfl rfl rfl (Imp.consLe rfl (is_eq (y := ([].length : Int)) (by rfl)) Imp.nil)) (OImp.refl _) ?_)))))))))))))
  intro r v hS
  have hi := hS.1
  have hx := getD_lt hL r.length
  have hy := getD_lt hL (r.length + 1)
  refine CW.seq (Cr (Wm rfl (Wm rfl (Ws (O.lenS rfl U27) (Ws (O.lt rfl rfl) (Wn ?_))))))
  refine CW.condD rfl (fun h_t20 => ?_) (fun h_t20 => ?_)
  ·
   refine CW.skip (QE.next (CW.seq (CW.block (Cr (Wm rfl (Wm rfl (Ws (O.fn fn246 (evs.c rfl (evs.l rfl (is_eq (y := ((r.length : Nat) : Int)) (by omega)) evs.nil)) (c_ref01_limb l r.length)) (Wm rfl (Wm rfl (Ws (O.add rfl rfl (c := ((r.length : Int) + 1)) (w64 (by omega))) (Ws (O.fn fn246 (evs.c rfl (evs.l rfl (is_eq (y := (((r.length + 1) : Nat) : Int)) (by omega)) evs.nil)) (c_ref01_limb l (r.length + 1))) (Ws (O.mul rfl rfl (c := ((l.getD (r.length + 1) 0 : Int) * 4294967296)) (wu64 (by omega))) (Ws (O.add rfl rfl (c := ((l.getD (r.length + 1) 0 * 2 ^ 32 + l.getD r.length 0 : Nat) : Int)) (wu64 (by omega))) (Wa rfl (Wn (CW.region (Wm rfl (Wm rfl (Wm rfl (Ws (O.rem rfl rfl (by omega) (c := (n : Int)) (rem32 hn)) (Ws (O.cvt rfl U3 U180 (c := (n : Int)) (wu64 (by omega))) ?_)))))))))))))))))))))
   refine Ws (O.shr rfl rfl (by omega) (c := (((l.getD (r.length + 1) 0 * 2 ^ 32 + l.getD r.length 0) / 2 ^ n : Nat) : Int)) (shrN n rfl rfl (show n ≤ 64 by omega))) (Ws (O.rem rfl rfl (by omega) (c := ((((l.getD (r.length + 1) 0 * 2 ^ 32 + l.getD r.length 0) / 2 ^ n % 4294967296) : Nat) : Int)) (tmodN 4294967296 rfl rfl)) (Ws (O.cvt rfl U178 U93 (c := ((((l.getD (r.length + 1) 0 * 2 ^ 32 + l.getD r.length 0) / 2 ^ n % 4294967296) : Nat) : Int)) (wrs32 (by omega))) (Ws (O.bs U27 el93_limb (evl.l rfl (u32_limb (x := (((l.getD (r.length + 1) 0 * 2 ^ 32 + l.getD r.length 0) / 2 ^ n % 4294967296) : Nat)) (by omega)) evl.n) rfl (by decide)) (WP.ap 0 .n rfl rfl rfl Lr U27 el93_limb (by simp; omega) fun v1 => Wa rfl (WP.nil (QE.blkN (QE.next (CW.region (Wm rfl (Ws (O.add rfl rfl (c := ((r.length : Int) + 1)) (w64 (by omega))) (Wa rfl (WP.nil ?_))))))))))))
   exact QE.round2 (r ++ [((l.getD (r.length + 1) 0 * 2 ^ 32 + l.getD r.length 0) / 2 ^ n % 4294967296)]) v1 (by simp; omega) (shrR_s hL hn (by omega) hS) (Imp.c4 rfl rfl rfl rfl (Imp.consLe rfl (is_eq (y := ((r ++ [((l.getD (r.length + 1) 0 * 2 ^ 32 + l.getD r.length 0) / 2 ^ n % 4294967296)]).length : Int)) (by simp)) Imp.nil)) (OImp.os (OS.keepLe (OB.row_eq (by rfl)) OS.nil))
  ·
   refine CW.exit (QE.thenE (QE.thenE (QE.blkH (QE.next (Cr (Wm rfl (ST.freeze 0 rfl (kp 0 rfl (kp 1 rfl (kp 5 rfl (.hit (i := 6) rfl (kp 7 rfl (kp 17 rfl (kp 18 rfl (kp 19 rfl (kp 20 rfl (.hit (i := 42) rfl .nil)))))))))) (Ws (O.fn fn158 (evs.c rfl evs.nil) (c_ref01_Norm r)) (Wa rfl (Wa rfl (Wn (CW.ret (ST.told 4 rfl (is_eq (y := (limbs (nval l / 2 ^ n))) (by rw [shrR_end hL (by omega) hS])) ?_)))))))))))))
   exact QE.done (.inl rfl) rfl (ResOk.t rfl (ResOk.t rfl ResOk.nil)) (OImp.sub (List.nil_sublist _)) ⟨rfl, rfl⟩
set_option maxHeartbeats 4000000 in
theorem c_ref01_Div (a b : List Nat) (hA : a.length ≤ 549755813000) (hB : b.length ≤ 549755813000) : Fn Tryz.prog 211 [kN.is a, kN.is b] (VP.tup [kN.is (limbs (nval a / nval b)), kN.is (if nval b = 0 then [] else limbs (nval a % nval b)), kN6.is (if nval b = 0 then 11 else 0)]) := by
 refine Con.enter Tryz.func211 rfl rfl fun m w => ST.fact (i := 0) rfl kN_lims fun la => ST.fact (i := 1) rfl kN_lims fun lb => ?_
 have hlb := limbs_len_le lb
 have lB := limbs_lims (nval b)
 refine Cr (Wa rfl (Wa rfl (Wa rfl (Wr (Wm rfl (Ws (O.fn fn158 (evs.c rfl evs.nil) (c_ref01_Norm b)) (Wa rfl (Wn (CW.seq (Cr (Wm rfl (Ws (O.lenS rfl U27) (Ws (O.eq rfl rfl) (Wn ?_))))))))))))))
 refine CW.condD rfl (fun h_t24 => ?_) (fun h_t24 => ?_)
 ·
  have hb0 : nval b = 0 := limbs0 (by omega)
  refine Cr (Wa rfl (Wa rfl (Wa rfl (Wn (CW.ret (QE.thenR (ST.told (q := kN.is ([] : List Nat)) 4 rfl (nil_le _) (ST.told (q := kN.is ([] : List Nat)) 5 rfl (nil_le _) (ST.told 4 rfl (is_eq (y := (limbs (nval a / nval b))) (by rw [hb0, Nat.div_zero, limbs_zero])) (ST.told 5 rfl (is_eq (y := (if nval b = 0 then [] else limbs (nval a % nval b))) (by rw [if_pos hb0])) (ST.told 6 rfl (is_eq (y := (if nval b = 0 then 11 else 0)) (by rw [if_pos hb0])) ?_)))))))))))
  exact QE.done (.inl rfl) rfl (ResOk.t rfl (ResOk.t rfl (ResOk.t rfl ResOk.nil))) (OImp.sub (List.nil_sublist _)) ⟨rfl, rfl⟩
 ·
  have hb0 : nval b ≠ 0 := fun h => by rw [h, limbs_zero] at h_t24; exact h_t24 rfl
  have hlbp := limbs_len_pos hb0
  refine CW.skip (QE.next (CW.seq (Cr (Wm rfl (Ws (O.lenS rfl U27) (Ws (O.eq rfl rfl) (Wn ?_)))))))
  refine CW.condD rfl (fun h_t27 => ?_) (fun h_t27 => ?_)
  ·
   refine CW.seq ?_
   have hx0 := getD_lt lB 0
   refine CW.region (Wm rfl (Wm rfl (Ws (O.ix 0 rfl rfl U27 ty93 rfl (v := ((limbs (nval b)).getD 0 0)) (gd 0 (by omega))) (Ws (OpOk.le (O.ldP rfl ty93) (limb_le _)) (Ws (O.cvt rfl U93 U178 (c := (((limbs (nval b)).getD 0 0) : Int)) (wu64 (by omega))) (Ws (O.fn fn254 (evs.c rfl (evs.l rfl (is_eq (y := ((((limbs (nval b)).getD 0 0) : Nat) : Int)) (by omega)) evs.nil)) (c_ref01_small a ((limbs (nval b)).getD 0 0) (by rw [one_limb (by omega)]; exact hb0) hx0)) (Wm rfl (Ws (O.ext rfl rfl) (Ws (O.ext rfl rfl) (Wa rfl (Wa rfl (Wn (CW.seq ?_)))))))))))))
   have hm : nval a % (limbs (nval b)).getD 0 0 < 4294967296 := Nat.lt_of_lt_of_le (Nat.mod_lt _ (by rw [one_limb (by omega)]; omega)) (Nat.le_of_lt hx0)
   refine CW.region (Wm rfl (Wm rfl (Ws (O.cvt rfl U178 U93 (c := ((nval a % (limbs (nval b)).getD 0 0 : Nat) : Int)) (wrs32 ⟨rfl, hm⟩)) (Ws (O.bs U27 el93_limb (evl.l rfl (u32_limb (x := (nval a % (limbs (nval b)).getD 0 0 : Nat)) (by omega)) evl.n) rfl (by decide)) (Ws (O.fn fn158 (evs.c rfl evs.nil) (c_ref01_Norm [(nval a % (limbs (nval b)).getD 0 0 : Nat)])) (Wa rfl (Wa rfl (Wa rfl (Wn (CW.ret (QE.thenR (ST.told 4 rfl (is_eq (y := (limbs (nval a / nval b))) (by rw [one_limb (by omega)])) (ST.told 5 rfl (is_eq (y := (if nval b = 0 then [] else limbs (nval a % nval b))) (by rw [if_neg hb0, one_limb (by omega)]; simp [nval])) (ST.told 6 rfl (is_eq (y := (if nval b = 0 then 11 else 0)) (by rw [if_neg hb0])) ?_))))))))))))))
   exact QE.done (.inl rfl) rfl (ResOk.t rfl (ResOk.t rfl (ResOk.t rfl ResOk.nil))) (OImp.sub (List.nil_sublist _)) ⟨rfl, rfl⟩
  ·
   refine CW.skip (QE.next (CW.seq ?_))
   obtain ⟨s, hsv, hs, hvl⟩ := div_sh hb0
   have hV0 : (nval b * 2 ^ s) ≠ 0 := Nat.mul_ne_zero hb0 (Nat.ne_of_gt (Nat.two_pow_pos s))
   have lU := limbs_lims (nval a * 2 ^ s)
   have hbl := bits_limbs hb0
   have hbl3 : bitlen (nval (limbs (nval b))) = 32 * ((limbs (nval b)).length - 1) + bitlen ((limbs (nval b)).getD ((limbs (nval b)).length - 1) 0) := by rw [nval_limbs]; exact hbl
   have htop := limbs_top hV0
   refine CW.region (Wm rfl (Ws (O.lenS rfl U27) (Ws (O.mul rfl rfl (c := (32 * ((limbs (nval b)).length : Int))) (w64 (by omega))) (Wm rfl (Ws (O.fn fn125 (evs.c rfl evs.nil) (c_ref01_Bits (limbs (nval b)))) (Ws (O.sub rfl rfl (c := ((32 * ((limbs (nval b)).length : Int)) - (bitlen (nval (limbs (nval b))) : Int))) (w64 (by omega))) (ST.told 47 rfl (is_eq (y := (s : Int)) (by rw [nval_limbs]; omega)) (Ws (O.fn fn255 (evs.c rfl evs.nil) (c_ref01_Two s hs)) (Wa rfl (Wr (Wm rfl (Wm rfl (Ws (O.fn fn199 (evs.c rfl (evs.c rfl evs.nil)) (c_ref01_Mul a [2 ^ s] (by simp; omega))) (Wa rfl (Wn (CW.seq (ST.told 11 rfl (is_eq (y := limbs (nval a * 2 ^ s)) (by simp [nval])) (CW.region (Wm rfl ?_)))))))))))))))))))
   refine Wm rfl (Ws (O.fn fn199 (evs.c rfl (evs.c rfl evs.nil)) (c_ref01_Mul (limbs (nval b)) [2 ^ s] (by simp; omega))) (Wa rfl (Wn (CW.seq (ST.told 12 rfl (is_eq (y := (limbs (nval b * 2 ^ s))) (by rw [nval_limbs]; simp [nval])) (ST.fact (i := 11) rfl sl_len fun hUB => CW.region (Wm rfl (Ws (O.lenS rfl U27) (WP.mk ((limbs (nval a * 2 ^ s)).length) .n rfl rfl rfl (by omega) U27 el93_limb z93_limb fun v1 => Wa rfl (Wr (Wa rfl (Wn (CW.seq (Cr (Wm rfl ?_)))))))))))))))
   refine Ws (O.lenS rfl U27) (Ws (O.sub rfl rfl (c := (((limbs (nval a * 2 ^ s)).length : Int) - 1)) (w64 (by omega))) (Wa rfl (Wn (CW.block (ST.told (q := kN.is ([] : List Nat)) 14 rfl (nil_le _) (ST.told 14 rfl (is_eq (y := (limbs 0)) (by rw [limbs_zero])) (CW.loop4 (fun (qs : List Nat) (k : Nat) (rest : Nat) (vq : Value) => RDiv (limbs (nval a * 2 ^ s)) (nval b * 2 ^ s) qs k rest) (fun (qs : List Nat) (k : Nat) (rest : Nat) (vq : Value) => [(7, kN.is (limbs (nval b))), (11, kN.is (limbs (nval a * 2 ^ s))), (12, kN.is (limbs (nval b * 2 ^ s))), (13, VP.ex vq), (14, kN.is (limbs rest)), (15, kN6.is ((k : Int) - 1))]) (fun (qs : List Nat) (k : Nat) (rest : Nat) (vq : Value) => [OB.row vq 93 kLimb qs]) (fun (qs : List Nat) (k : Nat) (rest : Nat) (vq : Value) => k) (List.replicate (limbs (nval a * 2 ^ s)).length 0) ((limbs (nval a * 2 ^ s)).length) 0 v1 (rdiv_0 hV0) (Imp.c4 rfl rfl rfl rfl (Imp.cons rfl (Imp.consLe rfl (is_eq (y := ((((limbs (nval a * 2 ^ s)).length) : Nat) : Int) - 1) (by omega)) Imp.nil))) (OImp.os (OS.keepLe (OB.row_eq (by rfl)) OS.nil)) ?_)))))))
   intro qs k rest vq hD
   have hrl := limbs_mono (Nat.le_of_lt hD.2.2.2.1)
   have hql := hD.1
   have hk := hD.2.2.1
   have hx := getD_lt lU (k - 1)
   refine CW.seq (Cr (Wm rfl (Ws (O.ge rfl rfl) (Wn ?_))))
   refine CW.condD rfl (fun h_t62 => ?_) (fun h_t62 => ?_)
   ·
    refine CW.skip (QE.next (CW.seq (CW.block (Cr (Wm rfl (Wm rfl (Ws (O.ix (k - 1) rfl rfl U27 ty93 (by omega) (v := ((limbs (nval a * 2 ^ s)).getD (k - 1) 0)) (gd 0 (by omega))) (Ws (OpOk.le (O.ldP rfl ty93) (limb_le _)) (WP.bso .n U27 el93_limb (evl.l rfl (u32_limb (x := ((limbs (nval a * 2 ^ s)).getD (k - 1) 0)) (by omega)) evl.n) rfl (by decide) fun v2 => Wm rfl (WP.ap 0 .n rfl rfl rfl Lr U27 el93_limb (by simp; omega) fun v3 => ST.freeze 0 rfl (kp 7 rfl (kp 11 rfl (kp 12 rfl (kp 13 rfl (kp 14 rfl (kp 15 rfl (kp 61 rfl (kp 62 rfl (kp 65 rfl (kp 66 rfl (kp 67 rfl (kp 68 rfl (kp 69 rfl (kp 70 rfl (.hit (i := 71) rfl .nil))))))))))))))) (Ws (O.fn fn158 (evs.c rfl evs.nil) (c_ref01_Norm ([((limbs (nval a * 2 ^ s)).getD (k - 1) 0)] ++ limbs rest))) (Wa rfl (Wn (CW.seq (CW.seq ?_)))))))))))))))
    obtain ⟨R, hR⟩ : ∃ R, R = (limbs (nval a * 2 ^ s)).getD (k - 1) 0 + 4294967296 * rest := ⟨_, rfl⟩
    refine ST.told 14 rfl (is_eq (y := (limbs R)) (by rw [hR]; simp [nval, nval_limbs])) ?_
    have hRV : R < (nval b * 2 ^ s) * 4294967296 := by rw [hR]; exact rdiv_R lU (by omega) hD
    refine CW.region (Wm rfl (Wm rfl (Ws (O.fn fn197 (evs.c rfl (evs.c rfl evs.nil)) (c_ref01_Cmp (limbs R) (limbs (nval b * 2 ^ s)))) (Ws (O.lt rfl rfl) (Wn ?_)))))
    refine CW.condD rfl (fun h_t76 => ?_) (fun h_t76 => ?_)
    ·
     refine CW.exit (QE.thenE (QE.blkH (QE.next (CW.region (Wm rfl (Ws (O.sub rfl rfl (c := (((k : Int) - 1) - 1)) (w64 (by omega))) (Wa rfl (WP.nil ?_))))))))
     exact QE.round4 qs (k - 1) R vq (by omega) (by rw [hR]; exact rdiv_lt (by omega) hD (by rw [← hR]; have := cmpI_lt h_t76; rwa [nval_limbs, nval_limbs] at this)) (Imp.c4 rfl rfl rfl rfl (Imp.cons rfl (Imp.consLe rfl (is_eq (y := (((k - 1) : Nat) : Int) - 1) (by omega)) Imp.nil))) (OImp.refl _)
    ·
     refine CW.skip (QE.next (CW.seq ?_))
     have hr1 := getD_lt (limbs_lims R) (limbs (nval b * 2 ^ s)).length
     have hr2 := getD_lt (limbs_lims R) ((limbs (nval b * 2 ^ s)).length - 1)
     have hr3 := getD_lt (limbs_lims (nval b * 2 ^ s)) ((limbs (nval b * 2 ^ s)).length - 1)
     refine CW.region (Wm rfl (Wm rfl (Ws (O.lenS rfl U27) (Ws (O.fn fn246 (evs.c rfl (evs.l rfl (is_eq (y := ((((limbs (nval b * 2 ^ s)).length) : Nat) : Int)) (by omega)) evs.nil)) (c_ref01_limb (limbs R) ((limbs (nval b * 2 ^ s)).length))) (Ws (O.mul rfl rfl (c := (((limbs R).getD ((limbs (nval b * 2 ^ s)).length) 0 : Int) * 4294967296)) (wu64 (by omega))) (Wm rfl (Wm rfl (Ws (O.lenS rfl U27) (Ws (O.sub rfl rfl (c := (((limbs (nval b * 2 ^ s)).length : Int) - 1)) (w64 (by omega))) (Ws (O.fn fn246 (evs.c rfl (evs.l rfl (is_eq (y := ((((limbs (nval b * 2 ^ s)).length - 1) : Nat) : Int)) (by omega)) evs.nil)) (c_ref01_limb (limbs R) ((limbs (nval b * 2 ^ s)).length - 1))) (Ws (O.add rfl rfl (c := ((((limbs R).getD ((limbs (nval b * 2 ^ s)).length) 0 : Int) * 4294967296) + ((limbs R).getD ((limbs (nval b * 2 ^ s)).length - 1) 0 : Int))) (wu64 (by omega))) (Wm rfl (Wm rfl (Ws (O.lenS rfl U27) (Ws (O.sub rfl rfl (c := (((limbs (nval b * 2 ^ s)).length : Int) - 1)) (w64 (by omega))) (Ws (O.fn fn246 (evs.c rfl (evs.l rfl (is_eq (y := ((((limbs (nval b * 2 ^ s)).length - 1) : Nat) : Int)) (by omega)) evs.nil)) (c_ref01_limb (limbs (nval b * 2 ^ s)) ((limbs (nval b * 2 ^ s)).length - 1))) (Ws (O.quo rfl rfl (by omega) (c := ((((limbs R).getD (limbs (nval b * 2 ^ s)).length 0 * 4294967296 + (limbs R).getD ((limbs (nval b * 2 ^ s)).length - 1) 0) / (limbs (nval b * 2 ^ s)).getD ((limbs (nval b * 2 ^ s)).length - 1) 0 : Nat) : Int)) (quoN ((limbs (nval b * 2 ^ s)).getD ((limbs (nval b * 2 ^ s)).length - 1) 0) (by omega) rfl (by omega))) (Wa rfl (Wn (CW.seq (CW.seq ?_)))))))))))))))))))))
     obtain ⟨G, hG⟩ : ∃ G, G = ((limbs R).getD (limbs (nval b * 2 ^ s)).length 0 * 4294967296 + (limbs R).getD ((limbs (nval b * 2 ^ s)).length - 1) 0) / (limbs (nval b * 2 ^ s)).getD ((limbs (nval b * 2 ^ s)).length - 1) 0 := ⟨_, rfl⟩
     refine ST.told 16 rfl (is_eq (y := (G : Int)) (by rw [hG])) ?_
     have hGq : R / (nval b * 2 ^ s) ≤ G := by rw [hG]; exact rdiv_top rfl hV0 hRV
     have hQ : R / (nval b * 2 ^ s) < 4294967296 := (Nat.div_lt_iff_lt_mul (Nat.pos_of_ne_zero hV0)).2 (by rw [Nat.mul_comm]; exact hRV)
     refine CW.region (Wm rfl (Ws (O.ge rfl rfl) (Wn ?_)))
     refine CW.condD rfl (fun h_t95 => ?_) (fun h_t95 => ?_)
     ·
      refine CW.region (Wa rfl (Wn (CW.seq ?_)))
      obtain ⟨g, hgd⟩ : ∃ g, g = 4294967295 := ⟨_, rfl⟩
      refine ST.told 16 rfl (is_eq (y := (g : Int)) (by rw [hgd]; rfl)) ?_
      have hgl : g < 4294967296 := by omega
      have hgq : R / (nval b * 2 ^ s) ≤ g := by omega
      refine CW.region (Wm rfl (Wm rfl (Ws (O.cvt rfl U178 U93 (c := (g : Int)) (wrs32 (by omega))) (Ws (O.bs U27 el93_limb (evl.l rfl (u32_limb (x := g) (by omega)) evl.n) rfl (by decide)) (Ws (O.fn fn199 (evs.c rfl (evs.c rfl evs.nil)) (c_ref01_Mul (limbs (nval b * 2 ^ s)) [g] (by simp; omega))) (Wa rfl (Wn (CW.seq (CW.block (ST.told 17 rfl (is_eq (y := (limbs ((nval b * 2 ^ s) * g))) (by rw [nval_limbs]; simp [nval])) (CW.loop (fun (g : Nat) => R / (nval b * 2 ^ s) ≤ g ∧ g < 4294967296) (fun (g : Nat) => [(7, kN.is (limbs (nval b))), (11, kN.is (limbs (nval a * 2 ^ s))), (12, kN.is (limbs (nval b * 2 ^ s))), (13, VP.ex vq), (14, kN.is (limbs R)), (15, kN6.is ((k : Int) - 1)), (16, (kInt .u64).is (g : Int)), (17, kN.is (limbs ((nval b * 2 ^ s) * g)))]) (fun (g : Nat) => [OB.row vq 93 kLimb qs]) (fun (g : Nat) => g) g ⟨hgq, hgl⟩ (Imp.c4 rfl rfl rfl rfl (Imp.cons rfl (Imp.cons rfl (Imp.cons rfl (Imp.cons rfl Imp.nil))))) (OImp.refl _) ?_)))))))))))
      intro g hg
      have hg2 := hg.2
      refine CW.seq (Cr (Wm rfl (Wm rfl (Ws (O.fn fn197 (evs.c rfl (evs.c rfl evs.nil)) (c_ref01_Cmp (limbs ((nval b * 2 ^ s) * g)) (limbs R))) (Ws (O.gt rfl rfl) (Wn ?_))))))
      refine CW.condD rfl (fun h_t104 => ?_) (fun h_t104 => ?_)
      ·
       refine CW.skip (QE.next (CW.block (CW.seq ?_)))
       have hgt : R < (nval b * 2 ^ s) * g := by have := cmpI_gt h_t104; rwa [nval_limbs, nval_limbs] at this
       have hg0 : R / (nval b * 2 ^ s) < g := (Nat.div_lt_iff_lt_mul (Nat.pos_of_ne_zero hV0)).2 (by rw [Nat.mul_comm]; exact hgt)
       have hg1 : 1 ≤ g := Nat.lt_of_le_of_lt (Nat.zero_le _) hg0
       refine CW.region (Wm rfl (Ws (O.sub rfl rfl (c := ((g - 1 : Nat) : Int)) (wu64 (by omega))) (Wa rfl (Wn (CW.region (Wm rfl (Wm rfl (Ws (O.fn fn247 (evs.c rfl (evs.c rfl evs.nil)) (c_ref01_less (limbs ((nval b * 2 ^ s) * g)) (limbs (nval b * 2 ^ s)) (by rw [nval_limbs, nval_limbs]; exact Nat.le_mul_of_pos_right _ (by omega)))) (Wa rfl (WP.nil (QE.blkN (ST.told 17 rfl (is_eq (y := (limbs ((nval b * 2 ^ s) * (g - 1)))) (by rw [nval_limbs, nval_limbs, Nat.mul_sub, Nat.mul_one])) ?_))))))))))))
       exact QE.round (g - 1) (by omega) ⟨by omega, by omega⟩ (Imp.c4 rfl rfl rfl rfl (Imp.cons rfl (Imp.cons rfl (Imp.consLe rfl (is_eq (y := (((g - 1) : Nat) : Int)) (by omega)) (Imp.cons rfl Imp.nil))))) (OImp.refl _)
      ·
       refine CW.exit (QE.thenE (QE.thenE (QE.blkH (QE.next (CW.seq ?_)))))
       have hle : (nval b * 2 ^ s) * g ≤ R := by have := cmpI_ngt h_t104; rwa [nval_limbs, nval_limbs] at this
       have hgR : g = R / (nval b * 2 ^ s) := Nat.le_antisymm ((Nat.le_div_iff_mul_le (Nat.pos_of_ne_zero hV0)).2 (by rw [Nat.mul_comm]; exact hle)) hg.1
       refine CW.region (Wm rfl (Wm rfl (Wm rfl (Ws (O.cvt rfl U178 U93 (c := (g : Int)) (wrs32 (by omega))) (Ws (O.ixR (k := kLimb) (xs := qs) (n := (k : Int) - 1) (k - 1) rfl rfl (mem_at 0 rfl) U27 ty93 (by omega) (by omega)) (WP.t .n (O.stR 0 (k - 1) rfl rfl Li rfl (y0 := (qs.getD (k - 1) 0)) (gd 0 (by omega)) ty93 rfl (u32_limb (x := g) (by omega))) (Wn (CW.region (Wm rfl (Wm rfl (Ws (O.fn fn247 (evs.c rfl (evs.c rfl evs.nil)) (c_ref01_less (limbs R) (limbs ((nval b * 2 ^ s) * g)) (by rw [nval_limbs, nval_limbs]; exact hle))) (Wa rfl (WP.nil (QE.blkN (QE.next (CW.region (Wm rfl (Ws (O.sub rfl rfl (c := (((k : Int) - 1) - 1)) (w64 (by omega))) (Wa rfl (WP.nil (ST.told 14 rfl (is_eq (y := (limbs (R - (nval b * 2 ^ s) * g))) (by rw [nval_limbs, nval_limbs])) ?_)))))))))))))))))))))
       exact QE.round4 (qs.set (k - 1) g) (k - 1) (R - (nval b * 2 ^ s) * g) vq (by omega) (by rw [hR]; exact rdiv_ge lU (by omega) hD (by rw [← hR]; exact hgR) hg.2) (Imp.c4 rfl rfl rfl rfl (Imp.cons rfl (Imp.consLe rfl (is_eq (y := (((k - 1) : Nat) : Int) - 1) (by omega)) Imp.nil))) (OImp.refl _)
     ·
      refine CW.skip (QE.next (CW.seq ?_))
      obtain ⟨g, hgd⟩ : ∃ g, g = G := ⟨_, rfl⟩
      refine ST.told 16 rfl (is_eq (y := (g : Int)) (by rw [hgd])) ?_
      have hgl : g < 4294967296 := by omega
      have hgq : R / (nval b * 2 ^ s) ≤ g := by omega
      refine CW.region (Wm rfl (Wm rfl (Ws (O.cvt rfl U178 U93 (c := (g : Int)) (wrs32 (by omega))) (Ws (O.bs U27 el93_limb (evl.l rfl (u32_limb (x := g) (by omega)) evl.n) rfl (by decide)) (Ws (O.fn fn199 (evs.c rfl (evs.c rfl evs.nil)) (c_ref01_Mul (limbs (nval b * 2 ^ s)) [g] (by simp; omega))) (Wa rfl (Wn (CW.seq (CW.block (ST.told 17 rfl (is_eq (y := (limbs ((nval b * 2 ^ s) * g))) (by rw [nval_limbs]; simp [nval])) (CW.loop (fun (g : Nat) => R / (nval b * 2 ^ s) ≤ g ∧ g < 4294967296) (fun (g : Nat) => [(7, kN.is (limbs (nval b))), (11, kN.is (limbs (nval a * 2 ^ s))), (12, kN.is (limbs (nval b * 2 ^ s))), (13, VP.ex vq), (14, kN.is (limbs R)), (15, kN6.is ((k : Int) - 1)), (16, (kInt .u64).is (g : Int)), (17, kN.is (limbs ((nval b * 2 ^ s) * g)))]) (fun (g : Nat) => [OB.row vq 93 kLimb qs]) (fun (g : Nat) => g) g ⟨hgq, hgl⟩ (Imp.c4 rfl rfl rfl rfl (Imp.cons rfl (Imp.cons rfl (Imp.cons rfl (Imp.cons rfl Imp.nil))))) (OImp.refl _) ?_)))))))))))
      intro g hg
      have hg2 := hg.2
      refine CW.seq (Cr (Wm rfl (Wm rfl (Ws (O.fn fn197 (evs.c rfl (evs.c rfl evs.nil)) (c_ref01_Cmp (limbs ((nval b * 2 ^ s) * g)) (limbs R))) (Ws (O.gt rfl rfl) (Wn ?_))))))
      refine CW.condD rfl (fun h_t104 => ?_) (fun h_t104 => ?_)
      ·
       refine CW.skip (QE.next (CW.block (CW.seq ?_)))
       have hgt : R < (nval b * 2 ^ s) * g := by have := cmpI_gt h_t104; rwa [nval_limbs, nval_limbs] at this
       have hg0 : R / (nval b * 2 ^ s) < g := (Nat.div_lt_iff_lt_mul (Nat.pos_of_ne_zero hV0)).2 (by rw [Nat.mul_comm]; exact hgt)
       have hg1 : 1 ≤ g := Nat.lt_of_le_of_lt (Nat.zero_le _) hg0
       refine CW.region (Wm rfl (Ws (O.sub rfl rfl (c := ((g - 1 : Nat) : Int)) (wu64 (by omega))) (Wa rfl (Wn (CW.region (Wm rfl (Wm rfl (Ws (O.fn fn247 (evs.c rfl (evs.c rfl evs.nil)) (c_ref01_less (limbs ((nval b * 2 ^ s) * g)) (limbs (nval b * 2 ^ s)) (by rw [nval_limbs, nval_limbs]; exact Nat.le_mul_of_pos_right _ (by omega)))) (Wa rfl (WP.nil (QE.blkN (ST.told 17 rfl (is_eq (y := (limbs ((nval b * 2 ^ s) * (g - 1)))) (by rw [nval_limbs, nval_limbs, Nat.mul_sub, Nat.mul_one])) ?_))))))))))))
       exact QE.round (g - 1) (by omega) ⟨by omega, by omega⟩ (Imp.c4 rfl rfl rfl rfl (Imp.cons rfl (Imp.cons rfl (Imp.consLe rfl (is_eq (y := (((g - 1) : Nat) : Int)) (by omega)) (Imp.cons rfl Imp.nil))))) (OImp.refl _)
      ·
       refine CW.exit (QE.thenE (QE.thenE (QE.blkH (QE.next (CW.seq ?_)))))
       have hle : (nval b * 2 ^ s) * g ≤ R := by have := cmpI_ngt h_t104; rwa [nval_limbs, nval_limbs] at this
       have hgR : g = R / (nval b * 2 ^ s) := Nat.le_antisymm ((Nat.le_div_iff_mul_le (Nat.pos_of_ne_zero hV0)).2 (by rw [Nat.mul_comm]; exact hle)) hg.1
       refine CW.region (Wm rfl (Wm rfl (Wm rfl (Ws (O.cvt rfl U178 U93 (c := (g : Int)) (wrs32 (by omega))) (Ws (O.ixR (k := kLimb) (xs := qs) (n := (k : Int) - 1) (k - 1) rfl rfl (mem_at 0 rfl) U27 ty93 (by omega) (by omega)) (WP.t .n (O.stR 0 (k - 1) rfl rfl Li rfl (y0 := (qs.getD (k - 1) 0)) (gd 0 (by omega)) ty93 rfl (u32_limb (x := g) (by omega))) (Wn (CW.region (Wm rfl (Wm rfl (Ws (O.fn fn247 (evs.c rfl (evs.c rfl evs.nil)) (c_ref01_less (limbs R) (limbs ((nval b * 2 ^ s) * g)) (by rw [nval_limbs, nval_limbs]; exact hle))) (Wa rfl (WP.nil (QE.blkN (QE.next (CW.region (Wm rfl (Ws (O.sub rfl rfl (c := (((k : Int) - 1) - 1)) (w64 (by omega))) (Wa rfl (WP.nil (ST.told 14 rfl (is_eq (y := (limbs (R - (nval b * 2 ^ s) * g))) (by rw [nval_limbs, nval_limbs])) ?_)))))))))))))))))))))
       exact QE.round4 (qs.set (k - 1) g) (k - 1) (R - (nval b * 2 ^ s) * g) vq (by omega) (by rw [hR]; exact rdiv_ge lU (by omega) hD (by rw [← hR]; exact hgR) hg.2) (Imp.c4 rfl rfl rfl rfl (Imp.cons rfl (Imp.consLe rfl (is_eq (y := (((k - 1) : Nat) : Int) - 1) (by omega)) Imp.nil))) (OImp.refl _)
   ·
    refine CW.exit (QE.thenE (QE.thenE (QE.blkH (QE.next (Cr (Wm rfl (Wm rfl (Ws (O.lenS rfl U27) (Ws (O.mul rfl rfl (c := (32 * ((limbs (nval b)).length : Int))) (w64 (by omega))) (Wm rfl (Ws (O.fn fn125 (evs.c rfl evs.nil) (c_ref01_Bits (limbs (nval b)))) (Ws (O.sub rfl rfl (c := ((32 * ((limbs (nval b)).length : Int)) - (bitlen (nval (limbs (nval b))) : Int))) (w64 (by omega))) (ST.told 125 rfl (is_eq (y := (s : Int)) (by rw [nval_limbs]; omega)) (Ws (O.fn fn256 (evs.c rfl (evs.c rfl evs.nil)) (c_ref01_Shr (limbs rest) s hs)) (Wm rfl (Ws (O.ext rfl rfl) (Ws (O.ext rfl rfl) (Wa rfl (Wa rfl (Wn (CW.seq ?_)))))))))))))))))))))
    refine CW.region (Wm rfl (ST.freeze 0 rfl (kp 7 rfl (kp 11 rfl (kp 12 rfl (.hit (i := 13) rfl (kp 14 rfl (kp 15 rfl (kp 18 rfl (kp 19 rfl (kp 61 rfl (kp 62 rfl (kp 118 rfl (kp 119 rfl (kp 120 rfl (kp 121 rfl (kp 122 rfl (kp 123 rfl (kp 124 rfl (kp 125 rfl (kp 126 rfl (kp 127 rfl (kp 128 rfl (.hit (i := 129) rfl .nil)))))))))))))))))))))) (Ws (O.fn fn158 (evs.c rfl evs.nil) (c_ref01_Norm qs)) (Wm rfl (Wa rfl (Wa rfl (Wa rfl (Wn (CW.ret ?_)))))))))
    have hend := rdiv_end (by omega) hD
    refine ST.told 4 rfl (is_eq (y := (limbs (nval a / nval b))) (by rw [hend.1])) (ST.told 5 rfl (is_eq (y := (if nval b = 0 then [] else limbs (nval a % nval b))) (by rw [if_neg hb0, nval_limbs, hend.2])) (ST.told 6 rfl (is_eq (y := (if nval b = 0 then 11 else 0)) (by rw [if_neg hb0])) ?_))
    exact QE.done (.inl rfl) rfl (ResOk.t rfl (ResOk.t rfl (ResOk.t rfl ResOk.nil))) (OImp.sub (List.nil_sublist _)) ⟨rfl, rfl⟩
theorem c_ref01_Gcd (a b : List Nat) (hA : a.length ≤ 549755813000) (hB : b.length ≤ 549755813000) : Fn Tryz.prog 210 [kN.is a, kN.is b] (kN.is (limbs (Nat.gcd (nval a) (nval b)))) := by
 refine Con.enter Tryz.func210 rfl rfl fun m w => ST.fact (i := 0) rfl kN_lims fun la => ST.fact (i := 1) rfl kN_lims fun lb => ?_
 have hla := limbs_len_le la
 have hlb := limbs_len_le lb
 refine Cr (Wa rfl (Wr (Wm rfl (Ws (O.fn fn158 (evs.c rfl evs.nil) (c_ref01_Norm a)) (Wa rfl (Wr (Wm rfl (Ws (O.fn fn158 (evs.c rfl evs.nil) (c_ref01_Norm b)) (Wa rfl (Wn (CW.seq (CW.block (CW.loop2 (fun (x : Nat) (y : Nat) => Nat.gcd x y = Nat.gcd (nval a) (nval b) ∧ (limbs x).length ≤ 549755813000 ∧ (limbs y).length ≤ 549755813000) (fun (x : Nat) (y : Nat) => [(5, kN.is (limbs x)), (6, kN.is (limbs y))]) (fun (x : Nat) (y : Nat) => []) (fun (x : Nat) (y : Nat) => y) (nval a) (nval b) ⟨rfl, by omega, by omega⟩ (Imp.cons rfl (Imp.cons rfl Imp.nil)) (OImp.refl _) ?_)))))))))))))
 intro x y ⟨hg, hx, hy⟩
 refine CW.seq (Cr (Wm rfl (Ws (O.lenS rfl U27) (Ws (O.gt rfl rfl) (Wn ?_)))))
 refine CW.condD rfl (fun h_t16 => ?_) (fun h_t16 => ?_)
 ·
  have hy0 : y ≠ 0 := fun h => by rw [h, limbs_zero] at h_t16; simp at h_t16
  refine CW.skip (QE.next (CW.block (Cr (Wm rfl (Wm rfl (Ws (O.fn fn211 (evs.c rfl (evs.c rfl evs.nil)) (c_ref01_Div (limbs x) (limbs y) (by omega) (by omega))) (Wm rfl (Ws (O.ext rfl rfl) (Ws (O.ext rfl rfl) (Ws (O.ext rfl rfl) (Wa rfl (Wa rfl (Wa rfl (Wr (Wm rfl (Wa rfl (Wn (CW.region ?_))))))))))))))))))
  refine Wm rfl (Wa rfl (WP.nil (QE.blkN (ST.told 6 rfl (is_eq (y := (limbs (x % y))) (by rw [nval_limbs, nval_limbs, if_neg hy0])) ?_))))
  exact QE.round2 y (x % y) (by exact Nat.mod_lt _ (Nat.pos_of_ne_zero hy0)) ⟨by rw [← hg, Nat.gcd_comm x y, Nat.gcd_rec y x, Nat.gcd_comm], hy, Nat.le_trans (limbs_mono (Nat.le_of_lt (Nat.mod_lt _ (Nat.pos_of_ne_zero hy0)))) hy⟩ (Imp.cons rfl (Imp.cons rfl Imp.nil)) (OImp.refl _)
 ·
  refine CW.exit (QE.thenE (QE.thenE (QE.blkH (QE.next (Cr (Wm rfl (Wa rfl (Wn (CW.ret ?_)))))))))
  have hy0 : y = 0 := limbs0 (by omega)
  refine ST.told 4 rfl (is_eq (y := (limbs (Nat.gcd (nval a) (nval b)))) (by rw [← hg, hy0, Nat.gcd_zero_right])) ?_
  exact QE.done (.inl rfl) rfl (ResOk.t rfl ResOk.nil) (OImp.sub (List.nil_sublist _)) ⟨rfl, rfl⟩
end Fw
/- What Floor of layer 2 answers. -/
set_option linter.unusedVariables false
set_option linter.unusedSimpArgs false
set_option exponentiation.threshold 70
set_option maxRecDepth 20000
set_option maxHeartbeats 1000000
namespace Fw
open Go Go.Proofs
set_option maxHeartbeats 8000000 in
theorem c_zint_Floor (x y : Int) : Fn Tryz.prog 214 [kZ.is x, kZ.is y] (VP.tup [kC.is (x.fdiv y), kC.is (if y = 0 then 0 else x.fmod y), kN6.is (if y = 0 then 11 else 0)]) := by
 refine Con.enter Tryz.func214 rfl rfl fun m w => ST.fact (i := 0) rfl kZ_sm fun hsx => ST.z 0 rfl fun p p_v p_n p_l => ST.z 1 rfl fun q q_v q_n q_l => Cr (WP.bx .n rfl fun b1 => WP.bx .n rfl fun b2 => WP.al .n z29_C fun b3 => WP.al .n z29_C fun b4 => Wa rfl (Wr (Ws (O.fa rfl fld29_1 rfl) (Ws (O.ld rfl (mem_at 3 rfl) (Lens.snd Li) ty27 rfl) (Ws (O.fa rfl fld29_1 rfl) (Ws (O.ld rfl (mem_at 2 rfl) (Lens.snd Li) ty27 rfl) (Ws (O.fn fn257 (evs.c rfl (evs.c rfl evs.nil)) (c_nat_Div p.2 q.2 (by omega) (by omega))) (Wm rfl (Ws (O.ext rfl rfl) (Ws (O.ext rfl rfl) (Ws (O.ext rfl rfl) ?_)))))))))))
 refine Wa rfl (Wa rfl (Wa rfl (Wn (CW.seq (Cr (Wm rfl (Ws (O.ne rfl rfl) (Wn ?_))))))))
 refine CW.condD rfl (fun h_t22 => ?_) (fun h_t22 => ?_)
 ·
  have hq0 : nval q.2 = 0 := by by_cases h : nval q.2 = 0; exact h; simp [h] at h_t22
  have hy : y = 0 := by rw [← q_v, ival0 hq0]
  refine Cr (Ws (O.bld lit29_C rfl evp.n (.nil _)) (Ws (O.bld lit29_C rfl evp.n (.nil _)) (WP.t .n (O.stW (l := kC) (u := 0) 1 rfl rfl rfl ty29 rfl Lr) (WP.t .n (O.stW (l := kC) (u := 0) 0 rfl rfl rfl ty29 rfl Lr) (Wa rfl (Wn (CW.ret (QE.thenR (ST.obtold 1 rfl (OB.box_eq (y := (x.fdiv y)) (by rw [hy, Int.fdiv_zero])) (ST.obtold 0 rfl (OB.box_eq (y := (if y = 0 then 0 else x.fmod y)) (by rw [if_pos hy])) (ST.told 6 rfl (is_eq (y := (if y = 0 then 11 else 0)) (by rw [if_pos hy])) ?_)))))))))))
  exact QE.done (.inl rfl) rfl (ResOk.c rfl (mem_at 1 rfl) ty29 (ResOk.c rfl (mem_at 0 rfl) ty29 (ResOk.t rfl ResOk.nil))) (OImp.sub (List.nil_sublist _)) ⟨rfl, rfl⟩
 ·
  have hq0 : nval q.2 ≠ 0 := fun h => by simp [h] at h_t22
  have hy : y ≠ 0 := fun h => by rw [← q_v] at h; have := ival_abs q; rw [h] at this; exact hq0 this.symm
  refine CW.skip (QE.next (CW.seq ?_))
  refine CW.drawM (Γ := [.fr (VP.pt b1 0), .fr (kBool.is p.1), .fr (VP.pt b2 0), .fr (kBool.is q.1), .fr (kBool.is (decide (p.1 ≠ q.1))), .fr (kN.is (limbs (nval p.2 / nval q.2))), .fr (kC.is (ival ((decide (p.1 ≠ q.1)), (limbs (nval p.2 / nval q.2))))), .fr (VP.pt b1 0), .fr (kBool.is p.1), .fr (kN.is (if nval q.2 = 0 then [] else limbs (nval p.2 % nval q.2))), .fr (kC.is (ival (p.1, (if nval q.2 = 0 then [] else limbs (nval p.2 % nval q.2))))), .al (fun b => OB.box b 29 kC 0), .al (fun b => OB.box b 29 kC 0)]) (of_ rfl (fun N => O.fa rfl fld29_0 rfl) (of_ rfl (fun N => O.ld rfl (mem_app N (mem_at 3 rfl)) (Lens.fst Li) ty4 rfl) (of_ rfl (fun N => O.fa rfl fld29_0 rfl) (of_ rfl (fun N => O.ld rfl (mem_app N (mem_at 2 rfl)) (Lens.fst Li) ty4 rfl) (of_ rfl (fun N => O.neB rfl rfl U4) (om rfl rfl (of_ rfl (fun N => O.fn fn137 (evs.c rfl (evs.c rfl evs.nil)) (c_zint_made (decide (p.1 ≠ q.1)) (limbs (nval p.2 / nval q.2)))) (of_ rfl (fun N => O.fa rfl fld29_0 rfl) (of_ rfl (fun N => O.ld rfl (mem_app N (mem_at 3 rfl)) (Lens.fst Li) ty4 rfl) (om rfl rfl (of_ rfl (fun N => O.fn fn137 (evs.c rfl (evs.c rfl evs.nil)) (c_zint_made p.1 (if nval q.2 = 0 then [] else limbs (nval p.2 % nval q.2)))) (oc (Ob.a rfl z29_C) (oc (Ob.a rfl z29_C) oz))))))))))))) (fun σ => ?_)
  refine WP.t .n (O.stW (l := kC) (u := ival ((decide (p.1 ≠ q.1)), (limbs (nval p.2 / nval q.2)))) 0 rfl rfl rfl ty29 rfl Lr) (WP.t .n (O.stW (l := kC) (u := ival (p.1, (if nval q.2 = 0 then [] else limbs (nval p.2 % nval q.2)))) 1 rfl rfl rfl ty29 rfl Lr) (Wn (CW.seq (CW.seq ?_))))
  obtain ⟨M, hM⟩ : ∃ M, M = ival (decide (p.1 ≠ q.1), limbs (nval p.2 / nval q.2)) := ⟨_, rfl⟩
  obtain ⟨R, hR⟩ : ∃ R, R = ival (p.1, if nval q.2 = 0 then [] else limbs (nval p.2 % nval q.2)) := ⟨_, rfl⟩
  refine ST.obtold 0 rfl (OB.box_eq (y := M) hM.symm) (ST.obtold 1 rfl (OB.box_eq (y := R) hR.symm) ?_)
  have hx : x = M * y + R := by rw [← p_v, ← q_v, hM, hR]; exact div_split hq0
  have hl : R.natAbs < y.natAbs := by rw [← q_v, hR]; exact rem_lt hq0
  have hsM : Sm M := Sm_le hsx (by rw [hM, ← p_v, ival_abs, ival_abs, nval_limbs]; exact Nat.div_le_self _ _)
  have hsR : Sm R := Sm_le hsx (by rw [hR, ← p_v, ival_abs, ival_abs, if_neg hq0, nval_limbs]; exact Nat.mod_le _ _)
  have hs1 : Sm 1 := Sm_lit (by decide)
  by_cases h5 : R.sign ≠ 0
  ·
   refine CW.drawM (Γ := [.fr (kC.is R), .fr (kN6.is R.sign), .fr (kBool.is true), .fr (kBool.is true), .fr (kC.is R), .fr (kN6.is R.sign), .fr (kI.is (q.1, q.2)), .fr (kN6.is ((ival (q.1, q.2)).sign)), .fr (kBool.is (decide (R.sign ≠ ((ival (q.1, q.2)).sign)))), .fr (kBool.is (decide (R.sign ≠ ((ival (q.1, q.2)).sign))))]) (of_ rfl (fun N => O.ld rfl (mem_app N (mem_at 1 rfl)) Li ty29 rfl) (of_ rfl (fun N => O.fn fn57 (evs.l rfl (kC_Z (by assumption)) evs.nil) (c_zint_Sign R)) (of_ rfl (fun N => OpOk.le (O.ne rfl rfl) (is_eq (by simp [h5]))) (om rfl rfl (oc (Ob.f rfl (.g rfl rfl) fun N => (O.ld rfl (mem_app N (mem_at 1 rfl)) Li ty29 rfl)) (oc (Ob.f rfl (.g rfl rfl) fun N => (O.fn fn57 (evs.l rfl (kC_Z (by assumption)) evs.nil) (c_zint_Sign R))) (oc (Ob.f rfl (.g rfl rfl) fun N => (O.ld rfl (mem_app N (mem_at 4 rfl)) Li ty29 rfl)) (oc (Ob.f rfl (.g rfl rfl) fun N => (O.fn fn57 (evs.l rfl (kI_Z rfl (by omega)) evs.nil) (c_zint_Sign (ival (q.1, q.2))))) (oc (Ob.f rfl (.g rfl rfl) fun N => (O.ne rfl rfl)) (of_ rfl (fun N => O.pickT rfl rfl) oz)))))))))) (fun σ => ?_)
   refine Wn ?_
   refine CW.condD rfl (fun h_t45 => ?_) (fun h_t45 => ?_)
   ·
    refine CW.drawM (Γ := [.fr (kC.is M), .fr (kC.is 1), .fr (kC.is (M - 1)), .fr (kC.is R), .fr (kI.is (q.1, q.2)), .fr (kC.is (R + (ival (q.1, q.2))))]) (of_ rfl (fun N => O.ld rfl (mem_app N (mem_at 0 rfl)) Li ty29 rfl) (of_ rfl (fun N => O.fn fn71 (evs.l rfl (i64_int (by omega)) evs.nil) (c_zint_Of 1)) (of_ rfl (fun N => O.fn fn213 (evs.l rfl (kC_Z (by assumption)) (evs.l rfl (kC_Z (by assumption)) evs.nil)) (c_zint_Sub M 1)) (of_ rfl (fun N => O.ld rfl (mem_app N (mem_at 1 rfl)) Li ty29 rfl) (of_ rfl (fun N => O.ld rfl (mem_app N (mem_at 4 rfl)) Li ty29 rfl) (of_ rfl (fun N => O.fn fn189 (evs.l rfl (kC_Z (by assumption)) (evs.l rfl (kI_Z rfl (by omega)) evs.nil)) (c_zint_Add R (ival (q.1, q.2)))) oz)))))) (fun σ => ?_)
    refine WP.t .n (O.stW (l := kC) (u := M - 1) 0 rfl rfl rfl ty29 rfl Lr) (WP.t .n (O.stW (l := kC) (u := R + (ival (q.1, q.2))) 1 rfl rfl rfl ty29 rfl Lr) (Wn (CW.seq (CW.any (by kernel_rfl) ?_))))
    refine DAg 0 [1] ⟨?_, ⟨?_, trivial⟩⟩
    ·
     refine DO.sn rfl .n (O.ld rfl (mem_at 0 rfl) Li ty29 rfl) ?_
     refine DAg 1 [2] ⟨?_, ⟨?_, trivial⟩⟩
     ·
      refine DO.sn rfl .n (O.ld rfl (mem_at 1 rfl) Li ty29 rfl) (DA1 2 (DO.tn rfl .n (O.stW (l := kC) (u := M - 1) 3 rfl rfl rfl ty29 rfl Lr) (DA1 3 (DO.tn rfl .n (O.stW (l := kC) (u := R + (ival (q.1, q.2))) 2 rfl rfl rfl ty29 rfl Lr) (DA1 4 (DO.sn rfl .n (O.asg rfl) (DA.nil (by kernel_rfl) (QE.next (CW.ret ?_)))))))))
      have hf := floor_2 hx hl h5 (by rw [← q_v]; exact h_t45)
      refine ST.obtold 3 rfl (OB.box_eq (y := (x.fdiv y)) hf.1) (ST.obtold 2 rfl (OB.box_eq (y := (if y = 0 then 0 else x.fmod y)) (by rw [if_neg hy, q_v]; exact hf.2)) (ST.told 6 rfl (is_eq (y := (if y = 0 then 11 else 0)) (by rw [if_neg hy])) ?_))
      exact QE.done (.inl rfl) rfl (ResOk.c rfl (mem_at 3 rfl) ty29 (ResOk.c rfl (mem_at 2 rfl) ty29 (ResOk.t rfl ResOk.nil))) (OImp.sub (List.nil_sublist _)) ⟨rfl, rfl⟩
     ·
      refine DO.tn rfl .n (O.stW (l := kC) (u := M - 1) 3 rfl rfl rfl ty29 rfl Lr) (DA1 1 (DO.sn rfl .n (O.ld rfl (mem_at 1 rfl) Li ty29 rfl) (DA1 3 (DO.tn rfl .n (O.stW (l := kC) (u := R + (ival (q.1, q.2))) 2 rfl rfl rfl ty29 rfl Lr) (DA1 4 (DO.sn rfl .n (O.asg rfl) (DA.nil (by kernel_rfl) (QE.next (CW.ret ?_)))))))))
      have hf := floor_2 hx hl h5 (by rw [← q_v]; exact h_t45)
      refine ST.obtold 3 rfl (OB.box_eq (y := (x.fdiv y)) hf.1) (ST.obtold 2 rfl (OB.box_eq (y := (if y = 0 then 0 else x.fmod y)) (by rw [if_neg hy, q_v]; exact hf.2)) (ST.told 6 rfl (is_eq (y := (if y = 0 then 11 else 0)) (by rw [if_neg hy])) ?_))
      exact QE.done (.inl rfl) rfl (ResOk.c rfl (mem_at 3 rfl) ty29 (ResOk.c rfl (mem_at 2 rfl) ty29 (ResOk.t rfl ResOk.nil))) (OImp.sub (List.nil_sublist _)) ⟨rfl, rfl⟩
    ·
     refine DO.sn rfl .n (O.ld rfl (mem_at 1 rfl) Li ty29 rfl) (DA1 0 (DO.sn rfl .n (O.ld rfl (mem_at 0 rfl) Li ty29 rfl) (DA1 2 (DO.tn rfl .n (O.stW (l := kC) (u := M - 1) 3 rfl rfl rfl ty29 rfl Lr) (DA1 3 (DO.tn rfl .n (O.stW (l := kC) (u := R + (ival (q.1, q.2))) 2 rfl rfl rfl ty29 rfl Lr) (DA1 4 (DO.sn rfl .n (O.asg rfl) (DA.nil (by kernel_rfl) (QE.next (CW.ret ?_)))))))))))
     have hf := floor_2 hx hl h5 (by rw [← q_v]; exact h_t45)
     refine ST.obtold 3 rfl (OB.box_eq (y := (x.fdiv y)) hf.1) (ST.obtold 2 rfl (OB.box_eq (y := (if y = 0 then 0 else x.fmod y)) (by rw [if_neg hy, q_v]; exact hf.2)) (ST.told 6 rfl (is_eq (y := (if y = 0 then 11 else 0)) (by rw [if_neg hy])) ?_))
     exact QE.done (.inl rfl) rfl (ResOk.c rfl (mem_at 3 rfl) ty29 (ResOk.c rfl (mem_at 2 rfl) ty29 (ResOk.t rfl ResOk.nil))) (OImp.sub (List.nil_sublist _)) ⟨rfl, rfl⟩
   ·
    refine CW.skip (QE.next (CW.seq (CW.any (by kernel_rfl) ?_)))
    refine DAg 0 [1] ⟨?_, ⟨?_, trivial⟩⟩
    ·
     refine DO.sn rfl .n (O.ld rfl (mem_at 0 rfl) Li ty29 rfl) ?_
     refine DAg 1 [2] ⟨?_, ⟨?_, trivial⟩⟩
     ·
      refine DO.sn rfl .n (O.ld rfl (mem_at 1 rfl) Li ty29 rfl) (DA1 2 (DO.tn rfl .n (O.stW (l := kC) (u := M) 3 rfl rfl rfl ty29 rfl Lr) (DA1 3 (DO.tn rfl .n (O.stW (l := kC) (u := R) 2 rfl rfl rfl ty29 rfl Lr) (DA1 4 (DO.sn rfl .n (O.asg rfl) (DA.nil (by kernel_rfl) (QE.next (CW.ret ?_)))))))))
      have hf := floor_1 hx hl h5 (by rw [← q_v]; exact h_t45)
      refine ST.obtold 3 rfl (OB.box_eq (y := (x.fdiv y)) hf.1) (ST.obtold 2 rfl (OB.box_eq (y := (if y = 0 then 0 else x.fmod y)) (by rw [if_neg hy]; exact hf.2)) (ST.told 6 rfl (is_eq (y := (if y = 0 then 11 else 0)) (by rw [if_neg hy])) ?_))
      exact QE.done (.inl rfl) rfl (ResOk.c rfl (mem_at 3 rfl) ty29 (ResOk.c rfl (mem_at 2 rfl) ty29 (ResOk.t rfl ResOk.nil))) (OImp.sub (List.nil_sublist _)) ⟨rfl, rfl⟩
     ·
      refine DO.tn rfl .n (O.stW (l := kC) (u := M) 3 rfl rfl rfl ty29 rfl Lr) (DA1 1 (DO.sn rfl .n (O.ld rfl (mem_at 1 rfl) Li ty29 rfl) (DA1 3 (DO.tn rfl .n (O.stW (l := kC) (u := R) 2 rfl rfl rfl ty29 rfl Lr) (DA1 4 (DO.sn rfl .n (O.asg rfl) (DA.nil (by kernel_rfl) (QE.next (CW.ret ?_)))))))))
      have hf := floor_1 hx hl h5 (by rw [← q_v]; exact h_t45)
      refine ST.obtold 3 rfl (OB.box_eq (y := (x.fdiv y)) hf.1) (ST.obtold 2 rfl (OB.box_eq (y := (if y = 0 then 0 else x.fmod y)) (by rw [if_neg hy]; exact hf.2)) (ST.told 6 rfl (is_eq (y := (if y = 0 then 11 else 0)) (by rw [if_neg hy])) ?_))
      exact QE.done (.inl rfl) rfl (ResOk.c rfl (mem_at 3 rfl) ty29 (ResOk.c rfl (mem_at 2 rfl) ty29 (ResOk.t rfl ResOk.nil))) (OImp.sub (List.nil_sublist _)) ⟨rfl, rfl⟩
    ·
     refine DO.sn rfl .n (O.ld rfl (mem_at 1 rfl) Li ty29 rfl) (DA1 0 (DO.sn rfl .n (O.ld rfl (mem_at 0 rfl) Li ty29 rfl) (DA1 2 (DO.tn rfl .n (O.stW (l := kC) (u := M) 3 rfl rfl rfl ty29 rfl Lr) (DA1 3 (DO.tn rfl .n (O.stW (l := kC) (u := R) 2 rfl rfl rfl ty29 rfl Lr) (DA1 4 (DO.sn rfl .n (O.asg rfl) (DA.nil (by kernel_rfl) (QE.next (CW.ret ?_)))))))))))
     have hf := floor_1 hx hl h5 (by rw [← q_v]; exact h_t45)
     refine ST.obtold 3 rfl (OB.box_eq (y := (x.fdiv y)) hf.1) (ST.obtold 2 rfl (OB.box_eq (y := (if y = 0 then 0 else x.fmod y)) (by rw [if_neg hy]; exact hf.2)) (ST.told 6 rfl (is_eq (y := (if y = 0 then 11 else 0)) (by rw [if_neg hy])) ?_))
     exact QE.done (.inl rfl) rfl (ResOk.c rfl (mem_at 3 rfl) ty29 (ResOk.c rfl (mem_at 2 rfl) ty29 (ResOk.t rfl ResOk.nil))) (OImp.sub (List.nil_sublist _)) ⟨rfl, rfl⟩
  ·
   refine CW.drawM (Γ := [.fr (kC.is R), .fr (kN6.is R.sign), .fr (kBool.is false), .fr (kBool.is false), .fr VP.tt, .fr VP.tt, .fr VP.tt, .fr VP.tt, .fr VP.tt, .fr (kBool.is false)]) (of_ rfl (fun N => O.ld rfl (mem_app N (mem_at 1 rfl)) Li ty29 rfl) (of_ rfl (fun N => O.fn fn57 (evs.l rfl (kC_Z (by assumption)) evs.nil) (c_zint_Sign R)) (of_ rfl (fun N => OpOk.le (O.ne rfl rfl) (is_eq (by simp at h5; simp [h5]))) (om rfl rfl (oc (Ob.k (b := false) rfl rfl rfl) (oc (Ob.k (b := false) rfl rfl rfl) (oc (Ob.k (b := false) rfl rfl rfl) (oc (Ob.k (b := false) rfl rfl rfl) (oc (Ob.k (b := false) rfl rfl rfl) (of_ rfl (fun N => O.pickF rfl rfl) oz)))))))))) (fun σ => ?_)
   refine Wn (CW.condF rfl (CW.skip (QE.next (CW.seq (CW.any (by kernel_rfl) ?_)))))
   refine DAg 0 [1] ⟨?_, ⟨?_, trivial⟩⟩
   ·
    refine DO.sn rfl .n (O.ld rfl (mem_at 0 rfl) Li ty29 rfl) ?_
    refine DAg 1 [2] ⟨?_, ⟨?_, trivial⟩⟩
    ·
     refine DO.sn rfl .n (O.ld rfl (mem_at 1 rfl) Li ty29 rfl) (DA1 2 (DO.tn rfl .n (O.stW (l := kC) (u := M) 3 rfl rfl rfl ty29 rfl Lr) (DA1 3 (DO.tn rfl .n (O.stW (l := kC) (u := R) 2 rfl rfl rfl ty29 rfl Lr) (DA1 4 (DO.sn rfl .n (O.asg rfl) (DA.nil (by kernel_rfl) (QE.next (CW.ret ?_)))))))))
     have hf := floor_0 hx hl h5
     refine ST.obtold 3 rfl (OB.box_eq (y := (x.fdiv y)) hf.1) (ST.obtold 2 rfl (OB.box_eq (y := (if y = 0 then 0 else x.fmod y)) (by rw [if_neg hy]; exact hf.2)) (ST.told 6 rfl (is_eq (y := (if y = 0 then 11 else 0)) (by rw [if_neg hy])) ?_))
     exact QE.done (.inl rfl) rfl (ResOk.c rfl (mem_at 3 rfl) ty29 (ResOk.c rfl (mem_at 2 rfl) ty29 (ResOk.t rfl ResOk.nil))) (OImp.sub (List.nil_sublist _)) ⟨rfl, rfl⟩
    ·
     refine DO.tn rfl .n (O.stW (l := kC) (u := M) 3 rfl rfl rfl ty29 rfl Lr) (DA1 1 (DO.sn rfl .n (O.ld rfl (mem_at 1 rfl) Li ty29 rfl) (DA1 3 (DO.tn rfl .n (O.stW (l := kC) (u := R) 2 rfl rfl rfl ty29 rfl Lr) (DA1 4 (DO.sn rfl .n (O.asg rfl) (DA.nil (by kernel_rfl) (QE.next (CW.ret ?_)))))))))
     have hf := floor_0 hx hl h5
     refine ST.obtold 3 rfl (OB.box_eq (y := (x.fdiv y)) hf.1) (ST.obtold 2 rfl (OB.box_eq (y := (if y = 0 then 0 else x.fmod y)) (by rw [if_neg hy]; exact hf.2)) (ST.told 6 rfl (is_eq (y := (if y = 0 then 11 else 0)) (by rw [if_neg hy])) ?_))
     exact QE.done (.inl rfl) rfl (ResOk.c rfl (mem_at 3 rfl) ty29 (ResOk.c rfl (mem_at 2 rfl) ty29 (ResOk.t rfl ResOk.nil))) (OImp.sub (List.nil_sublist _)) ⟨rfl, rfl⟩
   ·
    refine DO.sn rfl .n (O.ld rfl (mem_at 1 rfl) Li ty29 rfl) (DA1 0 (DO.sn rfl .n (O.ld rfl (mem_at 0 rfl) Li ty29 rfl) (DA1 2 (DO.tn rfl .n (O.stW (l := kC) (u := M) 3 rfl rfl rfl ty29 rfl Lr) (DA1 3 (DO.tn rfl .n (O.stW (l := kC) (u := R) 2 rfl rfl rfl ty29 rfl Lr) (DA1 4 (DO.sn rfl .n (O.asg rfl) (DA.nil (by kernel_rfl) (QE.next (CW.ret ?_)))))))))))
    have hf := floor_0 hx hl h5
    refine ST.obtold 3 rfl (OB.box_eq (y := (x.fdiv y)) hf.1) (ST.obtold 2 rfl (OB.box_eq (y := (if y = 0 then 0 else x.fmod y)) (by rw [if_neg hy]; exact hf.2)) (ST.told 6 rfl (is_eq (y := (if y = 0 then 11 else 0)) (by rw [if_neg hy])) ?_))
    exact QE.done (.inl rfl) rfl (ResOk.c rfl (mem_at 3 rfl) ty29 (ResOk.c rfl (mem_at 2 rfl) ty29 (ResOk.t rfl ResOk.nil))) (OImp.sub (List.nil_sublist _)) ⟨rfl, rfl⟩
end Fw
/- What Exact of layer 2 answers. -/
set_option linter.unusedVariables false
set_option linter.unusedSimpArgs false
set_option exponentiation.threshold 70
set_option maxRecDepth 20000
set_option maxHeartbeats 1000000
namespace Fw
open Go Go.Proofs
theorem c_zint_Exact (x y : Int) : Fn Tryz.prog 208 [kZ.is x, kZ.is y] (VP.tup [kC.is (if x.fmod y = 0 ∧ y ≠ 0 then x.fdiv y else 0), kN6.is (if y = 0 then 11 else if x.fmod y = 0 then 0 else 20)]) := by
 refine Con.enter Tryz.func208 rfl rfl fun m w => ST.fact (i := 0) rfl kZ_sm fun hsx => ST.fact (i := 1) rfl kZ_sm fun hsy => Cr (WP.bx .n rfl fun b1 => WP.bx .n rfl fun b2 => WP.al .n z29_C fun b3 => Wa rfl (Wr (Ws (O.ld rfl (mem_at 2 rfl) Li ty29 rfl) (Ws (O.ld rfl (mem_at 1 rfl) Li ty29 rfl) (Ws (O.fn fn214 (evs.c rfl (evs.c rfl evs.nil)) (c_zint_Floor x y)) (Wm rfl (Ws (O.ext rfl rfl) (Ws (O.ext rfl rfl) (Ws (O.ext rfl rfl) (WP.al .n z29_C fun b4 => WP.al .n z29_C fun b5 => WP.t .n (O.stW (l := kC) (u := x.fdiv y) 1 rfl rfl rfl ty29 rfl Lr) (WP.t .n (O.stW (l := kC) (u := if y = 0 then 0 else x.fmod y) 0 rfl rfl rfl ty29 rfl Lr) ?_)))))))))))
 refine Wa rfl (Wn (CW.seq (CW.block (Cr (Wm rfl (Ws (O.ne rfl rfl) (Wa rfl (Wn ?_))))))))
 refine CW.condD rfl (fun h_t16 => ?_) (fun h_t16 => ?_)
 ·
  refine Cr (Ws (O.bld lit29_C rfl evp.n (.nil _)) (Wm rfl (WP.t .n (O.stW (l := kC) (u := 0) 2 rfl rfl rfl ty29 rfl Lr) (Wa rfl (Wn (CW.ret (QE.blkR (QE.thenR ?_))))))))
  have hy : y = 0 := by by_cases h : y = 0; exact h; simp [h] at h_t16
  refine ST.obtold 2 rfl (OB.box_eq (y := (if x.fmod y = 0 ∧ y ≠ 0 then x.fdiv y else 0)) (by simp [hy])) (ST.told 5 rfl (is_eq (y := (if y = 0 then 11 else if x.fmod y = 0 then 0 else 20)) (by simp [hy])) ?_)
  exact QE.done (.inl rfl) rfl (ResOk.c rfl (mem_at 2 rfl) ty29 (ResOk.t rfl ResOk.nil)) (OImp.sub (List.nil_sublist _)) ⟨rfl, rfl⟩
 ·
  refine CW.seq ?_
  have hy : y ≠ 0 := fun h => by simp [h] at h_t16
  have hsr : Sm (if y = 0 then 0 else x.fmod y) := by rw [if_neg hy]; exact fmod_sm hsy hy
  refine CW.region (Ws (O.ld rfl (mem_at 0 rfl) Li ty29 rfl) (Ws (O.fn fn57 (evs.l rfl (kC_Z (by assumption)) evs.nil) (c_zint_Sign (if y = 0 then 0 else x.fmod y))) (Ws (O.ne rfl rfl) (Wa rfl (Wn ?_)))))
  refine CW.condD rfl (fun h_t21 => ?_) (fun h_t21 => ?_)
  ·
   refine Cr (Ws (O.bld lit29_C rfl evp.n (.nil _)) (WP.t .n (O.stW (l := kC) (u := 0) 2 rfl rfl rfl ty29 rfl Lr) (Wa rfl (Wn (CW.ret (QE.blkR (QE.thenR ?_)))))))
   have hm : ¬ x.fmod y = 0 := fun h => by simp [hy, h] at h_t21
   refine ST.obtold 2 rfl (OB.box_eq (y := (if x.fmod y = 0 ∧ y ≠ 0 then x.fdiv y else 0)) (by simp [hm])) (ST.told 5 rfl (is_eq (y := (if y = 0 then 11 else if x.fmod y = 0 then 0 else 20)) (by simp [hy, hm])) ?_)
   exact QE.done (.inl rfl) rfl (ResOk.c rfl (mem_at 2 rfl) ty29 (ResOk.t rfl ResOk.nil)) (OImp.sub (List.nil_sublist _)) ⟨rfl, rfl⟩
  ·
   refine CW.skip (QE.blkN (QE.next (Cr (Ws (O.ld rfl (mem_at 1 rfl) Li ty29 rfl) (WP.t .n (O.stW (l := kC) (u := x.fdiv y) 2 rfl rfl rfl ty29 rfl Lr) (Wa rfl (Wn (CW.ret ?_))))))))
   have hm : x.fmod y = 0 := by by_cases h : x.fmod y = 0; exact h; exfalso; apply h_t21; rw [if_neg hy]; exact fun h0 => h (Int.sign_eq_zero_iff_zero.1 h0)
   refine ST.obtold 2 rfl (OB.box_eq (y := (if x.fmod y = 0 ∧ y ≠ 0 then x.fdiv y else 0)) (by simp [hm, hy])) (ST.told 5 rfl (is_eq (y := (if y = 0 then 11 else if x.fmod y = 0 then 0 else 20)) (by simp [hy, hm])) ?_)
   exact QE.done (.inl rfl) rfl (ResOk.c rfl (mem_at 2 rfl) ty29 (ResOk.t rfl ResOk.nil)) (OImp.sub (List.nil_sublist _)) ⟨rfl, rfl⟩
end Fw
