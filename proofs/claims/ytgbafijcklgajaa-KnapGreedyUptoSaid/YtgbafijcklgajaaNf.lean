/- What shl, shr, digit and Div of layer 1 answer. -/
import Derived.Test.YtgbafijcklgajaaQKb
import Derived.Test.YtgbafijcklgajaaNd
import Derived.Test.YtgbafijcklgajaaNg
set_option linter.unusedVariables false
set_option linter.unusedSimpArgs false
set_option exponentiation.threshold 70
namespace Fw
open Go Go.Proofs

set_option maxRecDepth 20000 in
set_option maxHeartbeats 1000000 in
theorem c_trimO (v : Value) (l : List Nat) : Con Try.prog 197 [VP.ex v] [OB.row v 121 kLimb l] (fun p Lo => ∃ (u : Value), p = VP.ex u ∧ Lo = [OB.row u 121 kLimb (limbs (nval l))] ∧ True) := by
  refine Con.enter Try.func197 rfl rfl fun m w => ?_
  refine CW.seq ?_
  refine ST.rowfact 0 rfl fun hB hL => ?_
  refine CW.region ?_
  refine WP.s .n (O.asg rfl) ?_
  refine WP.nil ?_
  refine QE.next ?_
  refine CW.seq ?_
  refine CW.block ?_
  refine ST.obtold 0 rfl (OB.row_eq (ys := (l.take l.length)) (by rw [List.take_length])) ?_
  refine CW.loop2 (fun (i : Nat) (u : Value) => i ≤ l.length ∧ nval (l.take i) = nval l) (fun (i : Nat) (u : Value) => [(0, VP.ex u)]) (fun (i : Nat) (u : Value) => [OB.row u 121 kLimb (l.take i)]) (fun (i : Nat) (u : Value) => i) l.length v ⟨Nat.le_refl _, by rw [List.take_length]⟩ (Imp.cons rfl Imp.nil) (OImp.refl _) ?_
  intro i u ⟨hi, hr⟩
  have hlen : (l.take i).length = i := by simp; omega
  refine CW.seq ?_
  refine CW.seq ?_
  refine CW.region ?_
  refine WP.s .n (O.mv rfl) ?_
  refine WP.s .n (O.lenR rfl (mem_at 0 rfl) Try.underlying29) ?_
  refine WP.s .n (O.gt rfl rfl) ?_
  refine WP.s .n (O.mv rfl) ?_
  refine WP.splitD 6 rfl (fun h_t6 => ?_) (fun h_t6 => ?_)
  · have h_t6' : 0 < i := by omega
    refine WP.s (.g rfl rfl) (O.mv rfl) ?_
    refine WP.s (.g rfl rfl) (O.mv rfl) ?_
    refine WP.s (.g rfl rfl) (O.lenR rfl (mem_at 0 rfl) Try.underlying29) ?_
    refine WP.s (.g rfl rfl) (O.sub rfl rfl (c := (((l.take i).length : Int) - 1)) (w64 (by omega))) ?_
    refine WP.s (.g rfl rfl) (O.ixR (k := kLimb) (xs := (l.take i)) (n := (((l.take i).length : Int) - 1)) (i - 1) rfl rfl (mem_at 0 rfl) Try.underlying29 ty121 (by omega) (by omega)) ?_
    refine WP.s (.g rfl rfl) (OpOk.le (O.ldR (i - 1) rfl (mem_at 0 rfl) (Lens.id _) rfl (y := ((l.take i).getD (i - 1) 0)) (gd 0 (by omega)) ty121 rfl) (limb_le _)) ?_
    refine WP.s (.g rfl rfl) (O.eq rfl rfl) ?_
    refine WP.s .n (O.pickT rfl rfl) ?_
    refine WP.nil ?_
    refine QE.next ?_
    refine CW.condD rfl (fun h_t14 => ?_) (fun h_t14 => ?_)
    · refine CW.skip ?_
      refine QE.next ?_
      refine CW.block ?_
      refine CW.region ?_
      refine WP.s .n (O.mv rfl) ?_
      refine WP.s .n (O.mv rfl) ?_
      refine WP.s .n (O.lenR rfl (mem_at 0 rfl) Try.underlying29) ?_
      refine WP.s .n (O.sub rfl rfl (c := (((l.take i).length : Int) - 1)) (w64 (by omega))) ?_
      refine WP.slR 0 (i - 1) .n rfl rfl rfl Try.underlying29 ty121 (by omega) (by omega) fun v1 => ?_
      refine WP.s .n (O.asg rfl) ?_
      refine WP.nil ?_
      refine QE.blkN ?_
      refine ST.obtold 0 rfl (OB.row_eq (ys := (l.take (i - 1))) (take_take1 hi)) ?_
      exact QE.round2 (i - 1) v1 (by omega) ⟨by omega, (trim_down hi h_t6' h_t14).trans hr⟩ (Imp.cons rfl Imp.nil) (OImp.refl _)
    · refine CW.exit ?_
      refine QE.thenE ?_
      refine QE.thenE ?_
      refine QE.blkH ?_
      refine QE.next ?_
      refine CW.seq ?_
      refine CW.region ?_
      refine WP.s .n (O.mv rfl) ?_
      refine WP.s .n (O.asg rfl) ?_
      refine WP.nil ?_
      refine QE.next ?_
      refine CW.ret ?_
      refine ST.obtold 0 rfl (OB.row_eq (ys := (limbs (nval l))) (trim_stop hL hi h_t6' h_t14 hr)) ?_
      exact QE.done (.inl rfl) rfl (ResOk.t rfl ResOk.nil) (OImp.refl _) ⟨u, rfl, rfl, trivial⟩
  · refine WP.k (b := false) rfl rfl ?_
    refine WP.k (b := false) rfl rfl ?_
    refine WP.k (b := false) rfl rfl ?_
    refine WP.k (b := false) rfl rfl ?_
    refine WP.k (b := false) rfl rfl ?_
    refine WP.k (b := false) rfl rfl ?_
    refine WP.k (b := false) rfl rfl ?_
    refine WP.s .n (O.pickF rfl rfl) ?_
    refine WP.nil ?_
    refine QE.next ?_
    refine CW.condF rfl ?_
    refine CW.exit ?_
    refine QE.thenE ?_
    refine QE.thenE ?_
    refine QE.blkH ?_
    refine QE.next ?_
    refine CW.seq ?_
    refine CW.region ?_
    refine WP.s .n (O.mv rfl) ?_
    refine WP.s .n (O.asg rfl) ?_
    refine WP.nil ?_
    refine QE.next ?_
    refine CW.ret ?_
    refine ST.obtold 0 rfl (OB.row_eq (ys := (limbs (nval l))) (trim_stop0 hr (by omega))) ?_
    exact QE.done (.inl rfl) rfl (ResOk.t rfl ResOk.nil) (OImp.refl _) ⟨u, rfl, rfl, trivial⟩

set_option maxRecDepth 20000 in
set_option maxHeartbeats 1000000 in
theorem c_nat_digit (v : Value) (l vs : List Nat) (o : Nat) (ho : o + (vs.length + 1) ≤ l.length) (hn : 1 ≤ vs.length) (hv : vs.getD (vs.length - 1) 0 ≠ 0) (hU : nval ((l.drop o).take (vs.length + 1)) < nval vs * 4294967296) : Con Try.prog 212 [VP.win v o (vs.length + 1), kN.is vs] [OB.row v 121 kLimb l] (fun p Lo => ∃ (w : List Nat), p = (kInt .u32).is ((nval ((l.drop o).take (vs.length + 1)) / nval vs : Nat) : Int) ∧ Lo = [OB.row v 121 kLimb (l.take o ++ w ++ l.drop (o + (vs.length + 1)))] ∧ w.length = vs.length + 1 ∧ Lims w ∧ nval w = nval ((l.drop o).take (vs.length + 1)) % nval vs) := by
  refine Con.enter Try.func212 rfl rfl fun m w => ?_
  refine ST.rowfact 0 rfl fun hB hL => ?_
  refine ST.fact (i := 1) rfl kN_lims fun lv => ?_
  refine ST.fact (i := 1) rfl sl_len fun hBv => ?_
  obtain ⟨w0, hw0⟩ : ∃ w0, w0 = (l.drop o).take (vs.length + 1) := ⟨_, rfl⟩
  have lw0 : Lims w0 := by rw [hw0]; exact (hL.drop _).take _
  have hw0l : w0.length = vs.length + 1 := by rw [hw0]; simp; omega
  have hU0 : nval w0 < nval vs * 4294967296 := by rw [hw0]; exact hU
  have hol : o ≤ l.length := by omega
  refine ST.obtold 0 rfl (OB.row_eq (ys := (l.take o ++ w0 ++ l.drop (o + (vs.length + 1)))) (by rw [hw0]; exact win_self)) ?_
  have hx1 := getD_lt lw0 vs.length
  have hx2 := getD_lt lw0 (vs.length - 1)
  have hx3 := getD_lt lv (vs.length - 1)
  have hrl := win_len (o := o) ho hw0l
  refine CW.seq ?_
  refine CW.region ?_
  refine WP.s .n (O.asg rfl) ?_
  refine WP.nil ?_
  refine QE.next ?_
  refine CW.seq ?_
  refine CW.region ?_
  refine WP.s .n (O.mv rfl) ?_
  refine WP.s .n (O.lenS rfl Try.underlying29) ?_
  refine WP.s .n (O.asg rfl) ?_
  refine WP.nil ?_
  refine QE.next ?_
  refine CW.seq ?_
  refine CW.draw (Γ := [.fr (VP.win v o (vs.length + 1)), .fr ((kInt .i64).is (vs.length : Int)), .fr (VP.pel v (o + vs.length * 1)), .fr ((kInt .u32).is ((w0.getD vs.length 0) : Int)), .fr ((kInt .u64).is ((w0.getD vs.length 0) : Int)), .fr ((kInt .u64).is ((w0.getD vs.length 0 * 2 ^ 32 : Nat) : Int)), .fr (VP.win v o (vs.length + 1)), .fr ((kInt .i64).is (vs.length : Int)), .fr ((kInt .i64).is ((vs.length : Int) - 1)), .fr (VP.pel v (o + (vs.length - 1) * 1)), .fr ((kInt .u32).is ((w0.getD (vs.length - 1) 0) : Int)), .fr ((kInt .u64).is ((w0.getD (vs.length - 1) 0) : Int)), .fr ((kInt .u64).is ((w0.getD vs.length 0 * 2 ^ 32 + w0.getD (vs.length - 1) 0 : Nat) : Int))]) (lates := [false, false, false, false, false, false, false, false, false, false, false, false, false]) (by kernel_rfl) (Chk.of rfl (by kernel_rfl) rfl) (fun _ _ _ _ _ h => h) (fun q_ x_ h_ => ?_) (fun σ => ?_)
  · match q_, h_ with
    | 0, h_ => cases h_; exact Ob.f rfl .n fun N => (O.mv rfl)
    | 1, h_ => cases h_; exact Ob.f rfl .n fun N => (O.mv rfl)
    | 2, h_ => cases h_; exact Ob.f rfl .n fun N => (O.ixW (sz := 1) vs.length rfl rfl Try.underlying29 ty121 rfl (by omega))
    | 3, h_ => cases h_; exact Ob.f rfl .n fun N => (OpOk.le (O.ldR (k := kLimb) (xs := (l.take o ++ w0 ++ l.drop (o + (vs.length + 1)))) (o + vs.length) rfl (mem_app N (mem_at 0 rfl)) (Lens.id _) (ho := offs1) (y := (w0.getD vs.length 0)) (win_get hol (by omega)) ty121 rfl) (limb_le _))
    | 4, h_ => cases h_; exact Ob.f rfl .n fun N => (O.cvt rfl Try.underlying121 Try.underlying173 (c := ((w0.getD vs.length 0) : Int)) (wu64 (by omega)))
    | 5, h_ => cases h_; exact Ob.f rfl .n fun N => (O.shl rfl rfl (by omega) (c := ((w0.getD vs.length 0 * 2 ^ 32 : Nat) : Int)) (shlN 32 rfl rfl (by decide) (by omega)))
    | 6, h_ => cases h_; exact Ob.f rfl .n fun N => (O.mv rfl)
    | 7, h_ => cases h_; exact Ob.f rfl .n fun N => (O.mv rfl)
    | 8, h_ => cases h_; exact Ob.f rfl .n fun N => (O.sub rfl rfl (c := ((vs.length : Int) - 1)) (w64 (by omega)))
    | 9, h_ => cases h_; exact Ob.f rfl .n fun N => (O.ixW (sz := 1) (vs.length - 1) rfl rfl Try.underlying29 ty121 (by omega) (by omega))
    | 10, h_ => cases h_; exact Ob.f rfl .n fun N => (OpOk.le (O.ldR (k := kLimb) (xs := (l.take o ++ w0 ++ l.drop (o + (vs.length + 1)))) (o + (vs.length - 1)) rfl (mem_app N (mem_at 0 rfl)) (Lens.id _) (ho := offs1) (y := (w0.getD (vs.length - 1) 0)) (win_get hol (by omega)) ty121 rfl) (limb_le _))
    | 11, h_ => cases h_; exact Ob.f rfl .n fun N => (O.cvt rfl Try.underlying121 Try.underlying173 (c := ((w0.getD (vs.length - 1) 0) : Int)) (wu64 (by omega)))
    | 12, h_ => cases h_; exact Ob.f rfl .n fun N => (O.or rfl rfl (c := ((w0.getD vs.length 0 * 2 ^ 32 + w0.getD (vs.length - 1) 0 : Nat) : Int)) (orN 32 rfl rfl hx2 (by omega)))
    | n_ + 13, h_ => simp at h_
  refine WP.s .n (O.asg rfl) ?_
  refine WP.nil ?_
  refine QE.next ?_
  refine CW.seq ?_
  refine CW.region ?_
  refine WP.s .n (O.mv rfl) ?_
  refine WP.s .n (O.mv rfl) ?_
  refine WP.s .n (O.mv rfl) ?_
  refine WP.s .n (O.sub rfl rfl (c := ((vs.length : Int) - 1)) (w64 (by omega))) ?_
  refine WP.s .n (O.ix (vs.length - 1) rfl rfl Try.underlying29 ty121 (by omega) (v := (vs.getD (vs.length - 1) 0)) (gd 0 (by omega))) ?_
  refine WP.s .n (OpOk.le (O.ldP rfl ty121) (limb_le _)) ?_
  refine WP.s .n (O.cvt rfl Try.underlying121 Try.underlying173 (c := ((vs.getD (vs.length - 1) 0) : Int)) (wu64 (by omega))) ?_
  refine WP.s .n (O.quo rfl rfl (by omega) (c := (((w0.getD vs.length 0 * 2 ^ 32 + w0.getD (vs.length - 1) 0) / vs.getD (vs.length - 1) 0 : Nat) : Int)) (quoN (vs.getD (vs.length - 1) 0) rfl rfl (by omega))) ?_
  refine WP.s .n (O.mn rfl rfl) ?_
  refine WP.s .n (O.asg rfl) ?_
  refine WP.nil ?_
  refine QE.next ?_
  refine CW.seq ?_
  obtain ⟨q, hqd⟩ : ∃ q, q = min ((w0.getD vs.length 0 * 2 ^ 32 + w0.getD (vs.length - 1) 0) / vs.getD (vs.length - 1) 0) 4294967295 := ⟨_, rfl⟩
  have hq : q < 4294967296 := by rw [hqd]; exact min_lt32
  have hq2 : nval w0 / nval vs ≤ q := by rw [hqd]; exact dig_top lw0 hw0l hn hv hU0
  refine ST.told 7 rfl (is_eq (y := (q : Int)) (by rw [hqd]; exact minN)) ?_
  refine CW.region ?_
  refine WP.s .n (O.asg rfl) ?_
  refine WP.s .n (O.asg rfl) ?_
  refine WP.nil ?_
  refine QE.next ?_
  refine CW.seq ?_
  refine CW.seq ?_
  refine CW.region ?_
  refine WP.s .n (O.mv rfl) ?_
  refine WP.s .n (O.add rfl rfl (c := ((vs.length : Int) + 1)) (w64 (by omega))) ?_
  refine WP.s .n (O.mv rfl) ?_
  refine WP.nil ?_
  refine QE.next ?_
  refine CW.block ?_
  refine CW.loop4 (fun (w : List Nat) (i : Nat) (c : Nat) (b : Nat) => DigR w0 vs q w i c b) (fun (w : List Nat) (i : Nat) (c : Nat) (b : Nat) => [(0, VP.win v o (vs.length + 1)), (1, kN.is vs), (5, (kInt .i64).is (vs.length : Int)), (7, (kInt .u64).is (q : Int)), (8, (kInt .u64).is (c : Int)), (9, (kInt .u64).is (b : Int)), (40, (kInt .i64).is ((vs.length : Int) + 1)), (41, (kInt .i64).is (i : Int))]) (fun (w : List Nat) (i : Nat) (c : Nat) (b : Nat) => [OB.row v 121 kLimb (l.take o ++ w ++ l.drop (o + (vs.length + 1)))]) (fun (w : List Nat) (i : Nat) (c : Nat) (b : Nat) => vs.length + 1 - i) w0 0 0 0 (digR_0 hw0l lw0) (Imp.cons rfl (Imp.cons rfl (Imp.cons rfl (Imp.cons rfl (Imp.consLe rfl (is_eq (y := (0 : Int)) (by first | omega | rfl)) (Imp.consLe rfl (is_eq (y := (0 : Int)) (by first | omega | rfl)) (Imp.cons rfl (Imp.consLe rfl (is_eq (y := (0 : Int)) (by first | omega | rfl)) Imp.nil)))))))) (OImp.refl _) ?_
  intro w i c b hD
  have hwl := hD.2.1
  have hx := getD_lt hD.2.2.1 i
  have hc := hD.2.2.2.1
  have hb := hD.2.2.2.2.1
  have hy := getD_lt lv i
  have hqy := mul_bd hq hy
  have hpm : (c + q * vs.getD i 0) % 4294967296 < 4294967296 := Nat.mod_lt _ (by omega)
  have hrl := win_len (o := o) ho hwl
  have hi := hD.1
  refine CW.seq ?_
  refine CW.region ?_
  refine WP.s .n (O.lt rfl rfl) ?_
  refine WP.nil ?_
  refine QE.next ?_
  refine CW.seq ?_
  refine CW.condD rfl (fun h_t42 => ?_) (fun h_t42 => ?_)
  · refine CW.skip ?_
    refine QE.next ?_
    refine CW.seq ?_
    refine CW.block ?_
    refine CW.seq ?_
    refine CW.region ?_
    refine WP.s .n (O.mv rfl) ?_
    refine WP.s .n (O.asg rfl) ?_
    refine WP.nil ?_
    refine QE.next ?_
    refine CW.seq ?_
    refine CW.region ?_
    refine WP.s .n (O.mv rfl) ?_
    refine WP.s .n (O.asg rfl) ?_
    refine WP.nil ?_
    refine QE.next ?_
    refine CW.seq ?_
    refine CW.seq ?_
    refine CW.region ?_
    refine WP.s .n (O.mv rfl) ?_
    refine WP.s .n (O.mv rfl) ?_
    refine WP.s .n (O.lt rfl rfl) ?_
    refine WP.nil ?_
    refine QE.next ?_
    refine CW.condD rfl (fun h_t47 => ?_) (fun h_t47 => ?_)
    · refine CW.region ?_
      refine WP.s .n (O.mv rfl) ?_
      refine WP.s .n (O.mv rfl) ?_
      refine WP.s .n (O.mv rfl) ?_
      refine WP.s .n (O.mv rfl) ?_
      refine WP.s .n (O.ix i rfl rfl Try.underlying29 ty121 rfl (v := (vs.getD i 0)) (gd 0 (by omega))) ?_
      refine WP.s .n (OpOk.le (O.ldP rfl ty121) (limb_le _)) ?_
      refine WP.s .n (O.cvt rfl Try.underlying121 Try.underlying173 (c := ((vs.getD i 0) : Int)) (wu64 (by omega))) ?_
      refine WP.s .n (O.mul rfl rfl (c := ((q * vs.getD i 0 : Nat) : Int)) (wu64 ⟨by norm_cast, by omega, by omega⟩)) ?_
      refine WP.s .n (O.add rfl rfl (c := ((c + q * vs.getD i 0 : Nat) : Int)) (wu64 (by omega))) ?_
      refine WP.s .n (O.asg rfl) ?_
      refine WP.nil ?_
      refine QE.next ?_
      refine CW.seq ?_
      refine CW.region ?_
      refine WP.s .n (O.mv rfl) ?_
      refine WP.s .n (O.shr rfl rfl (by omega) (c := (((c + q * vs.getD i 0) / 2 ^ 32 : Nat) : Int)) (shrN 32 rfl rfl (by decide))) ?_
      refine WP.s .n (O.asg rfl) ?_
      refine WP.nil ?_
      refine QE.next ?_
      refine CW.seq ?_
      refine CW.region ?_
      refine WP.s .n (O.mv rfl) ?_
      refine WP.s .n (O.mv rfl) ?_
      refine WP.s .n (O.ixW (sz := 1) i rfl rfl Try.underlying29 ty121 rfl (by omega)) ?_
      refine WP.s .n (OpOk.le (O.ldR (k := kLimb) (xs := (l.take o ++ w ++ l.drop (o + (vs.length + 1)))) (o + i) rfl (mem_at 0 rfl) (Lens.id _) (ho := offs1) (y := (w.getD i 0)) (win_get hol (by omega)) ty121 rfl) (limb_le _)) ?_
      refine WP.s .n (O.cvt rfl Try.underlying121 Try.underlying173 (c := ((w.getD i 0) : Int)) (wu64 (by omega))) ?_
      refine WP.s .n (O.mv rfl) ?_
      refine WP.s .n (O.cvt rfl Try.underlying173 Try.underlying121 (c := (((c + q * vs.getD i 0) % 4294967296 : Nat) : Int)) (wr32 rfl)) ?_
      refine WP.s .n (O.cvt rfl Try.underlying121 Try.underlying173 (c := (((c + q * vs.getD i 0) % 4294967296 : Nat) : Int)) (wu64 (by omega))) ?_
      refine WP.s .n (O.sub rfl rfl (c := ((lessV 0 (w.getD i 0) ((c + q * vs.getD i 0) % 4294967296) : Nat) : Int)) (dsub1 hx hpm)) ?_
      refine WP.s .n (O.mv rfl) ?_
      refine WP.s .n (O.sub rfl rfl (c := ((lessV b (w.getD i 0) ((c + q * vs.getD i 0) % 4294967296) : Nat) : Int)) (dsub2 hb hx hpm)) ?_
      refine WP.s .n (O.asg rfl) ?_
      refine WP.nil ?_
      refine QE.next ?_
      refine CW.seq ?_
      refine CW.region ?_
      refine WP.s .n (O.mv rfl) ?_
      refine WP.s .n (O.mv rfl) ?_
      refine WP.s .n (O.mv rfl) ?_
      refine WP.s .n (O.cvt rfl Try.underlying173 Try.underlying121 (c := ((lessV b (w.getD i 0) ((c + q * vs.getD i 0) % 4294967296) % 4294967296 : Nat) : Int)) (wr32 rfl)) ?_
      refine WP.s .n (O.ixW (sz := 1) i rfl rfl Try.underlying29 ty121 rfl (by omega)) ?_
      refine WP.t .n (O.stR 0 (o + i) rfl rfl (Lens.id _) offs1 (y0 := ((l.take o ++ w ++ l.drop (o + (vs.length + 1))).getD (o + i) 0)) (gd 0 (by omega)) ty121 rfl (u32_limb (x := (lessV b (w.getD i 0) ((c + q * vs.getD i 0) % 4294967296) % 4294967296 : Nat)) (by omega))) ?_
      refine WP.nil ?_
      refine QE.next ?_
      refine CW.region ?_
      refine WP.s .n (O.mv rfl) ?_
      refine WP.s .n (O.shr rfl rfl (by omega) (c := ((lessV b (w.getD i 0) ((c + q * vs.getD i 0) % 4294967296) / 2 ^ 63 : Nat) : Int)) (shrN 63 rfl rfl (by decide))) ?_
      refine WP.s .n (O.asg rfl) ?_
      refine WP.nil ?_
      refine QE.blkN ?_
      refine QE.next ?_
      refine CW.region ?_
      refine WP.s .n (O.add rfl rfl (c := ((i : Int) + 1)) (w64 (by omega))) ?_
      refine WP.s .n (O.mv rfl) ?_
      refine WP.nil ?_
      refine ST.obtold 0 rfl (OB.row_eq (ys := (l.take o ++ (w.set i (lessV b (w.getD i 0) ((c + q * vs.getD i 0) % 4294967296) % 4294967296)) ++ l.drop (o + (vs.length + 1)))) (win_set hol (by omega))) ?_
      exact QE.round4 (w.set i (lessV b (w.getD i 0) ((c + q * vs.getD i 0) % 4294967296) % 4294967296)) (i + 1) ((c + q * vs.getD i 0) / 2 ^ 32) (lessV b (w.getD i 0) ((c + q * vs.getD i 0) % 4294967296) / 2 ^ 63) (by omega) (digR_s lv hq (by omega) hD) (Imp.cons rfl (Imp.cons rfl (Imp.cons rfl (Imp.cons rfl (Imp.consLe rfl (is_eq (y := ((((c + q * vs.getD i 0) / 2 ^ 32) : Nat) : Int)) (by first | omega | rfl)) (Imp.consLe rfl (is_eq (y := (((lessV b (w.getD i 0) ((c + q * vs.getD i 0) % 4294967296) / 2 ^ 63) : Nat) : Int)) (by first | omega | rfl)) (Imp.cons rfl (Imp.consLe rfl (is_eq (y := (((i + 1) : Nat) : Int)) (by first | omega | rfl)) Imp.nil)))))))) (OImp.refl _)
    · have hy0 := getD_out (l := vs) (i := i) (by omega)
      refine ST.told 11 rfl (is_eq (y := ((c + q * vs.getD i 0 : Nat) : Int)) (by rw [hy0]; rfl)) ?_
      refine CW.skip ?_
      refine QE.next ?_
      refine CW.seq ?_
      refine CW.region ?_
      refine WP.s .n (O.mv rfl) ?_
      refine WP.s .n (O.shr rfl rfl (by omega) (c := (((c + q * vs.getD i 0) / 2 ^ 32 : Nat) : Int)) (shrN 32 rfl rfl (by decide))) ?_
      refine WP.s .n (O.asg rfl) ?_
      refine WP.nil ?_
      refine QE.next ?_
      refine CW.seq ?_
      refine CW.region ?_
      refine WP.s .n (O.mv rfl) ?_
      refine WP.s .n (O.mv rfl) ?_
      refine WP.s .n (O.ixW (sz := 1) i rfl rfl Try.underlying29 ty121 rfl (by omega)) ?_
      refine WP.s .n (OpOk.le (O.ldR (k := kLimb) (xs := (l.take o ++ w ++ l.drop (o + (vs.length + 1)))) (o + i) rfl (mem_at 0 rfl) (Lens.id _) (ho := offs1) (y := (w.getD i 0)) (win_get hol (by omega)) ty121 rfl) (limb_le _)) ?_
      refine WP.s .n (O.cvt rfl Try.underlying121 Try.underlying173 (c := ((w.getD i 0) : Int)) (wu64 (by omega))) ?_
      refine WP.s .n (O.mv rfl) ?_
      refine WP.s .n (O.cvt rfl Try.underlying173 Try.underlying121 (c := (((c + q * vs.getD i 0) % 4294967296 : Nat) : Int)) (wr32 rfl)) ?_
      refine WP.s .n (O.cvt rfl Try.underlying121 Try.underlying173 (c := (((c + q * vs.getD i 0) % 4294967296 : Nat) : Int)) (wu64 (by omega))) ?_
      refine WP.s .n (O.sub rfl rfl (c := ((lessV 0 (w.getD i 0) ((c + q * vs.getD i 0) % 4294967296) : Nat) : Int)) (dsub1 hx hpm)) ?_
      refine WP.s .n (O.mv rfl) ?_
      refine WP.s .n (O.sub rfl rfl (c := ((lessV b (w.getD i 0) ((c + q * vs.getD i 0) % 4294967296) : Nat) : Int)) (dsub2 hb hx hpm)) ?_
      refine WP.s .n (O.asg rfl) ?_
      refine WP.nil ?_
      refine QE.next ?_
      refine CW.seq ?_
      refine CW.region ?_
      refine WP.s .n (O.mv rfl) ?_
      refine WP.s .n (O.mv rfl) ?_
      refine WP.s .n (O.mv rfl) ?_
      refine WP.s .n (O.cvt rfl Try.underlying173 Try.underlying121 (c := ((lessV b (w.getD i 0) ((c + q * vs.getD i 0) % 4294967296) % 4294967296 : Nat) : Int)) (wr32 rfl)) ?_
      refine WP.s .n (O.ixW (sz := 1) i rfl rfl Try.underlying29 ty121 rfl (by omega)) ?_
      refine WP.t .n (O.stR 0 (o + i) rfl rfl (Lens.id _) offs1 (y0 := ((l.take o ++ w ++ l.drop (o + (vs.length + 1))).getD (o + i) 0)) (gd 0 (by omega)) ty121 rfl (u32_limb (x := (lessV b (w.getD i 0) ((c + q * vs.getD i 0) % 4294967296) % 4294967296 : Nat)) (by omega))) ?_
      refine WP.nil ?_
      refine QE.next ?_
      refine CW.region ?_
      refine WP.s .n (O.mv rfl) ?_
      refine WP.s .n (O.shr rfl rfl (by omega) (c := ((lessV b (w.getD i 0) ((c + q * vs.getD i 0) % 4294967296) / 2 ^ 63 : Nat) : Int)) (shrN 63 rfl rfl (by decide))) ?_
      refine WP.s .n (O.asg rfl) ?_
      refine WP.nil ?_
      refine QE.blkN ?_
      refine QE.next ?_
      refine CW.region ?_
      refine WP.s .n (O.add rfl rfl (c := ((i : Int) + 1)) (w64 (by omega))) ?_
      refine WP.s .n (O.mv rfl) ?_
      refine WP.nil ?_
      refine ST.obtold 0 rfl (OB.row_eq (ys := (l.take o ++ (w.set i (lessV b (w.getD i 0) ((c + q * vs.getD i 0) % 4294967296) % 4294967296)) ++ l.drop (o + (vs.length + 1)))) (win_set hol (by omega))) ?_
      exact QE.round4 (w.set i (lessV b (w.getD i 0) ((c + q * vs.getD i 0) % 4294967296) % 4294967296)) (i + 1) ((c + q * vs.getD i 0) / 2 ^ 32) (lessV b (w.getD i 0) ((c + q * vs.getD i 0) % 4294967296) / 2 ^ 63) (by omega) (digR_s lv hq (by omega) hD) (Imp.cons rfl (Imp.cons rfl (Imp.cons rfl (Imp.cons rfl (Imp.consLe rfl (is_eq (y := ((((c + q * vs.getD i 0) / 2 ^ 32) : Nat) : Int)) (by first | omega | rfl)) (Imp.consLe rfl (is_eq (y := (((lessV b (w.getD i 0) ((c + q * vs.getD i 0) % 4294967296) / 2 ^ 63) : Nat) : Int)) (by first | omega | rfl)) (Imp.cons rfl (Imp.consLe rfl (is_eq (y := (((i + 1) : Nat) : Int)) (by first | omega | rfl)) Imp.nil)))))))) (OImp.refl _)
  · refine CW.exit ?_
    refine QE.thenE ?_
    refine QE.thenE ?_
    refine QE.blkH ?_
    refine QE.next ?_
    refine CW.seq ?_
    refine CW.block ?_
    refine CW.loop3 (fun (w : List Nat) (q : Nat) (b : Nat) => DigS w0 vs w q b) (fun (w : List Nat) (q : Nat) (b : Nat) => [(0, VP.win v o (vs.length + 1)), (1, kN.is vs), (5, (kInt .i64).is (vs.length : Int)), (7, (kInt .u64).is (q : Int)), (9, (kInt .u64).is (b : Int))]) (fun (w : List Nat) (q : Nat) (b : Nat) => [OB.row v 121 kLimb (l.take o ++ w ++ l.drop (o + (vs.length + 1)))]) (fun (w : List Nat) (q : Nat) (b : Nat) => q) w q b (digS_0 (by omega) hw0l hq hq2 hD) (Imp.cons rfl (Imp.cons rfl (Imp.cons rfl (Imp.cons rfl (Imp.cons rfl Imp.nil))))) (OImp.refl _) ?_
    intro w q b hS
    have hq := hS.2.2.2.1
    have hb := hS.2.2.1
    refine CW.seq ?_
    refine CW.seq ?_
    refine CW.region ?_
    refine WP.s .n (O.mv rfl) ?_
    refine WP.s .n (O.gt rfl rfl) ?_
    refine WP.nil ?_
    refine QE.next ?_
    refine CW.condD rfl (fun h_t79 => ?_) (fun h_t79 => ?_)
    · refine CW.skip ?_
      refine QE.next ?_
      refine CW.block ?_
      refine CW.seq ?_
      have hq1 := digS_pos hS (by omega)
      refine CW.region ?_
      refine WP.s .n (O.mv rfl) ?_
      refine WP.s .n (O.sub rfl rfl (c := ((q - 1 : Nat) : Int)) (wu64 (by omega))) ?_
      refine WP.s .n (O.asg rfl) ?_
      refine WP.nil ?_
      refine QE.next ?_
      refine CW.seq ?_
      obtain ⟨w1, hw1⟩ : ∃ w1, w1 = w := ⟨_, rfl⟩
      refine ST.obtold 0 rfl (OB.row_eq (ys := (l.take o ++ w1 ++ l.drop (o + (vs.length + 1)))) (by rw [hw1])) ?_
      rw [← hw1] at hS
      refine CW.region ?_
      refine WP.s .n (O.asg rfl) ?_
      refine WP.nil ?_
      refine QE.next ?_
      refine CW.seq ?_
      refine CW.seq ?_
      refine CW.region ?_
      refine WP.s .n (O.mv rfl) ?_
      refine WP.s .n (O.add rfl rfl (c := ((vs.length : Int) + 1)) (w64 (by omega))) ?_
      refine WP.s .n (O.mv rfl) ?_
      refine WP.nil ?_
      refine QE.next ?_
      refine CW.block ?_
      refine CW.loop3 (fun (w : List Nat) (i : Nat) (c : Nat) => DigA w1 vs w i c) (fun (w : List Nat) (i : Nat) (c : Nat) => [(0, VP.win v o (vs.length + 1)), (1, kN.is vs), (5, (kInt .i64).is (vs.length : Int)), (7, (kInt .u64).is ((q - 1 : Nat) : Int)), (9, (kInt .u64).is (b : Int)), (13, (kInt .u64).is (c : Int)), (83, (kInt .i64).is ((vs.length : Int) + 1)), (84, (kInt .i64).is (i : Int))]) (fun (w : List Nat) (i : Nat) (c : Nat) => [OB.row v 121 kLimb (l.take o ++ w ++ l.drop (o + (vs.length + 1)))]) (fun (w : List Nat) (i : Nat) (c : Nat) => vs.length + 1 - i) w1 0 0 (digA_0 hS) (Imp.cons rfl (Imp.cons rfl (Imp.cons rfl (Imp.cons rfl (Imp.cons rfl (Imp.consLe rfl (is_eq (y := (0 : Int)) (by first | omega | rfl)) (Imp.cons rfl (Imp.consLe rfl (is_eq (y := (0 : Int)) (by first | omega | rfl)) Imp.nil)))))))) (OImp.refl _) ?_
      intro w i c hA
      have hwl := hA.2.1
      have hx := getD_lt hA.2.2.1 i
      have hc := hA.2.2.2.1
      have hy := getD_lt lv i
      have hrl := win_len (o := o) ho hwl
      have hi := hA.1
      refine CW.seq ?_
      refine CW.region ?_
      refine WP.s .n (O.lt rfl rfl) ?_
      refine WP.nil ?_
      refine QE.next ?_
      refine CW.seq ?_
      refine CW.condD rfl (fun h_t85 => ?_) (fun h_t85 => ?_)
      · refine CW.skip ?_
        refine QE.next ?_
        refine CW.seq ?_
        refine CW.block ?_
        refine CW.seq ?_
        refine CW.region ?_
        refine WP.s .n (O.mv rfl) ?_
        refine WP.s .n (O.asg rfl) ?_
        refine WP.nil ?_
        refine QE.next ?_
        refine CW.seq ?_
        refine CW.region ?_
        refine WP.s .n (O.mv rfl) ?_
        refine WP.s .n (O.mv rfl) ?_
        refine WP.s .n (O.mv rfl) ?_
        refine WP.s .n (O.ixW (sz := 1) i rfl rfl Try.underlying29 ty121 rfl (by omega)) ?_
        refine WP.s .n (OpOk.le (O.ldR (k := kLimb) (xs := (l.take o ++ w ++ l.drop (o + (vs.length + 1)))) (o + i) rfl (mem_at 0 rfl) (Lens.id _) (ho := offs1) (y := (w.getD i 0)) (win_get hol (by omega)) ty121 rfl) (limb_le _)) ?_
        refine WP.s .n (O.cvt rfl Try.underlying121 Try.underlying173 (c := ((w.getD i 0) : Int)) (wu64 (by omega))) ?_
        refine WP.s .n (O.add rfl rfl (c := ((c : Int) + ((w.getD i 0) : Int))) (wu64 (by omega))) ?_
        refine WP.s .n (O.asg rfl) ?_
        refine WP.nil ?_
        refine QE.next ?_
        refine CW.seq ?_
        refine CW.seq ?_
        refine CW.region ?_
        refine WP.s .n (O.mv rfl) ?_
        refine WP.s .n (O.mv rfl) ?_
        refine WP.s .n (O.lt rfl rfl) ?_
        refine WP.nil ?_
        refine QE.next ?_
        refine CW.condD rfl (fun h_t96 => ?_) (fun h_t96 => ?_)
        · refine CW.region ?_
          refine WP.s .n (O.mv rfl) ?_
          refine WP.s .n (O.mv rfl) ?_
          refine WP.s .n (O.mv rfl) ?_
          refine WP.s .n (O.ix i rfl rfl Try.underlying29 ty121 rfl (v := (vs.getD i 0)) (gd 0 (by omega))) ?_
          refine WP.s .n (OpOk.le (O.ldP rfl ty121) (limb_le _)) ?_
          refine WP.s .n (O.cvt rfl Try.underlying121 Try.underlying173 (c := ((vs.getD i 0) : Int)) (wu64 (by omega))) ?_
          refine WP.s .n (O.add rfl rfl (c := (((c : Int) + ((w.getD i 0) : Int)) + ((vs.getD i 0) : Int))) (wu64 (by omega))) ?_
          refine WP.s .n (O.asg rfl) ?_
          refine WP.nil ?_
          refine QE.next ?_
          refine CW.seq ?_
          refine CW.region ?_
          refine WP.s .n (O.mv rfl) ?_
          refine WP.s .n (O.mv rfl) ?_
          refine WP.s .n (O.mv rfl) ?_
          refine WP.s .n (O.cvt rfl Try.underlying173 Try.underlying121 (c := (((c + w.getD i 0 + vs.getD i 0) % 4294967296 : Nat) : Int)) (wr32 (by omega))) ?_
          refine WP.s .n (O.ixW (sz := 1) i rfl rfl Try.underlying29 ty121 rfl (by omega)) ?_
          refine WP.t .n (O.stR 0 (o + i) rfl rfl (Lens.id _) offs1 (y0 := ((l.take o ++ w ++ l.drop (o + (vs.length + 1))).getD (o + i) 0)) (gd 0 (by omega)) ty121 rfl (u32_limb (x := ((c + w.getD i 0 + vs.getD i 0) % 4294967296 : Nat)) (by omega))) ?_
          refine WP.nil ?_
          refine QE.next ?_
          refine CW.region ?_
          refine WP.s .n (O.mv rfl) ?_
          refine WP.s .n (O.shr rfl rfl (by omega) (c := (((c + w.getD i 0 + vs.getD i 0) / 2 ^ 32 : Nat) : Int)) (shrN 32 (by omega) rfl (by decide))) ?_
          refine WP.s .n (O.asg rfl) ?_
          refine WP.nil ?_
          refine QE.blkN ?_
          refine QE.next ?_
          refine CW.region ?_
          refine WP.s .n (O.add rfl rfl (c := ((i : Int) + 1)) (w64 (by omega))) ?_
          refine WP.s .n (O.mv rfl) ?_
          refine WP.nil ?_
          refine ST.obtold 0 rfl (OB.row_eq (ys := (l.take o ++ (w.set i ((c + w.getD i 0 + vs.getD i 0) % 4294967296)) ++ l.drop (o + (vs.length + 1)))) (win_set hol (by omega))) ?_
          exact QE.round3 (w.set i ((c + w.getD i 0 + vs.getD i 0) % 4294967296)) (i + 1) ((c + w.getD i 0 + vs.getD i 0) / 2 ^ 32) (by omega) (digA_s lv (by omega) hA) (Imp.cons rfl (Imp.cons rfl (Imp.cons rfl (Imp.cons rfl (Imp.cons rfl (Imp.consLe rfl (is_eq (y := ((((c + w.getD i 0 + vs.getD i 0) / 2 ^ 32) : Nat) : Int)) (by first | omega | rfl)) (Imp.cons rfl (Imp.consLe rfl (is_eq (y := (((i + 1) : Nat) : Int)) (by first | omega | rfl)) Imp.nil)))))))) (OImp.refl _)
        · have hy0 := getD_out (l := vs) (i := i) (by omega)
          refine CW.skip ?_
          refine QE.next ?_
          refine CW.seq ?_
          refine CW.region ?_
          refine WP.s .n (O.mv rfl) ?_
          refine WP.s .n (O.mv rfl) ?_
          refine WP.s .n (O.mv rfl) ?_
          refine WP.s .n (O.cvt rfl Try.underlying173 Try.underlying121 (c := (((c + w.getD i 0 + vs.getD i 0) % 4294967296 : Nat) : Int)) (wr32 (by omega))) ?_
          refine WP.s .n (O.ixW (sz := 1) i rfl rfl Try.underlying29 ty121 rfl (by omega)) ?_
          refine WP.t .n (O.stR 0 (o + i) rfl rfl (Lens.id _) offs1 (y0 := ((l.take o ++ w ++ l.drop (o + (vs.length + 1))).getD (o + i) 0)) (gd 0 (by omega)) ty121 rfl (u32_limb (x := ((c + w.getD i 0 + vs.getD i 0) % 4294967296 : Nat)) (by omega))) ?_
          refine WP.nil ?_
          refine QE.next ?_
          refine CW.region ?_
          refine WP.s .n (O.mv rfl) ?_
          refine WP.s .n (O.shr rfl rfl (by omega) (c := (((c + w.getD i 0 + vs.getD i 0) / 2 ^ 32 : Nat) : Int)) (shrN 32 (by omega) rfl (by decide))) ?_
          refine WP.s .n (O.asg rfl) ?_
          refine WP.nil ?_
          refine QE.blkN ?_
          refine QE.next ?_
          refine CW.region ?_
          refine WP.s .n (O.add rfl rfl (c := ((i : Int) + 1)) (w64 (by omega))) ?_
          refine WP.s .n (O.mv rfl) ?_
          refine WP.nil ?_
          refine ST.obtold 0 rfl (OB.row_eq (ys := (l.take o ++ (w.set i ((c + w.getD i 0 + vs.getD i 0) % 4294967296)) ++ l.drop (o + (vs.length + 1)))) (win_set hol (by omega))) ?_
          exact QE.round3 (w.set i ((c + w.getD i 0 + vs.getD i 0) % 4294967296)) (i + 1) ((c + w.getD i 0 + vs.getD i 0) / 2 ^ 32) (by omega) (digA_s lv (by omega) hA) (Imp.cons rfl (Imp.cons rfl (Imp.cons rfl (Imp.cons rfl (Imp.cons rfl (Imp.consLe rfl (is_eq (y := ((((c + w.getD i 0 + vs.getD i 0) / 2 ^ 32) : Nat) : Int)) (by first | omega | rfl)) (Imp.cons rfl (Imp.consLe rfl (is_eq (y := (((i + 1) : Nat) : Int)) (by first | omega | rfl)) Imp.nil)))))))) (OImp.refl _)
      · refine CW.exit ?_
        refine QE.thenE ?_
        refine QE.thenE ?_
        refine QE.blkH ?_
        refine QE.next ?_
        refine CW.region ?_
        refine WP.s .n (O.mv rfl) ?_
        refine WP.s .n (O.mv rfl) ?_
        refine WP.s .n (O.sub rfl rfl (c := ((b - c : Nat) : Int)) (wu64 (by omega))) ?_
        refine WP.s .n (O.asg rfl) ?_
        refine WP.nil ?_
        refine QE.blkN ?_
        exact QE.round3 w (q - 1) (b - c) (by have := (digA_end (by omega) (by omega) hS hA).2; omega) (digA_end (by omega) (by omega) hS hA).1 (Imp.cons rfl (Imp.cons rfl (Imp.cons rfl (Imp.consLe rfl (is_eq (y := (((q - 1) : Nat) : Int)) (by first | omega | rfl)) (Imp.consLe rfl (is_eq (y := (((b - c) : Nat) : Int)) (by first | omega | rfl)) Imp.nil))))) (OImp.refl _)
    · refine CW.exit ?_
      refine QE.thenE ?_
      refine QE.thenE ?_
      refine QE.blkH ?_
      refine QE.next ?_
      refine CW.seq ?_
      refine CW.region ?_
      refine WP.s .n (O.mv rfl) ?_
      refine WP.s .n (O.cvt rfl Try.underlying173 Try.underlying121 (c := (q : Int)) (wrs32 (by omega))) ?_
      refine WP.s .n (O.asg rfl) ?_
      refine WP.nil ?_
      refine QE.next ?_
      refine CW.ret ?_
      have hend := digS_end (by omega) hS (top_ne hv hn)
      refine ST.told 4 rfl (is_eq (y := ((nval ((l.drop o).take (vs.length + 1)) / nval vs : Nat) : Int)) (by rw [hend.1, hw0])) ?_
      exact QE.done (.inl rfl) rfl (ResOk.t rfl ResOk.nil) (OImp.refl _) ⟨w, rfl, rfl, (by rw [← hw0]; exact hend.2)⟩

set_option maxRecDepth 20000 in
set_option maxHeartbeats 1000000 in
theorem c_nat_shl (l : List Nat) (n : Nat) (hn : n < 32) (hB : l.length ≤ 1099511627000) : Con Try.prog 211 [kN.is l, (kInt .i64).is (n : Int)] [] (fun p Lo => ∃ (u : Value), p = VP.ex u ∧ Lo = [OB.row u 121 kLimb (limbs (nval l * 2 ^ n))] ∧ True) := by
  refine Con.enter Try.func211 rfl rfl fun m w => ?_
  refine ST.fact (i := 0) rfl kN_lims fun hL => ?_
  have hll := limbs_len_le hL
  have lA := limbs_lims (nval l)
  refine CW.seq ?_
  refine CW.region ?_
  refine WP.s .n (O.asg rfl) ?_
  refine WP.nil ?_
  refine QE.next ?_
  refine CW.seq ?_
  refine CW.region ?_
  refine WP.s .n (O.mv rfl) ?_
  refine WP.s .n (O.fn fn197 (evs.c rfl evs.nil) (c_nat_trim l)) ?_
  refine WP.s .n (O.asg rfl) ?_
  refine WP.nil ?_
  refine QE.next ?_
  refine CW.seq ?_
  refine CW.seq ?_
  refine CW.region ?_
  refine WP.s .n (O.mv rfl) ?_
  refine WP.s .n (O.lenS rfl Try.underlying29) ?_
  refine WP.s .n (O.eq rfl rfl) ?_
  refine WP.nil ?_
  refine QE.next ?_
  refine CW.condD rfl (fun h_t14 => ?_) (fun h_t14 => ?_)
  · refine CW.seq ?_
    refine CW.region ?_
    refine WP.s .n (O.asg rfl) ?_
    refine WP.nil ?_
    refine QE.next ?_
    refine CW.ret ?_
    refine QE.thenR ?_
    refine ST.nilrow 121 kLimb ?_
    refine ST.obtold 0 rfl (OB.row_eq (ys := (limbs (nval l * 2 ^ n))) (by rw [limbs0 (n := nval l) (by omega), Nat.zero_mul, limbs_zero])) ?_
    exact QE.done (.inl rfl) rfl (ResOk.t rfl ResOk.nil) (OImp.refl _) ⟨(.slice none 0 0), rfl, rfl, trivial⟩
  · refine CW.skip ?_
    refine QE.next ?_
    refine CW.seq ?_
    refine CW.region ?_
    refine WP.s .n (O.mv rfl) ?_
    refine WP.s .n (O.quo rfl rfl (by omega) (c := 0) (quo32 hn)) ?_
    refine WP.s .n (O.mv rfl) ?_
    refine WP.s .n (O.rem rfl rfl (by omega) (c := (n : Int)) (rem32 hn)) ?_
    refine WP.s .n (O.cvt rfl Try.underlying3 Try.underlying172 (c := (n : Int)) (wu64 (by omega))) ?_
    refine WP.s .n (O.asg rfl) ?_
    refine WP.s .n (O.asg rfl) ?_
    refine WP.nil ?_
    refine QE.next ?_
    refine CW.seq ?_
    refine CW.region ?_
    refine WP.s .n (O.mv rfl) ?_
    refine WP.s .n (O.lenS rfl Try.underlying29) ?_
    refine WP.s .n (O.mv rfl) ?_
    refine WP.s .n (O.add rfl rfl (c := (((limbs (nval l)).length : Int) + 0)) (w64 (by omega))) ?_
    refine WP.s .n (O.add rfl rfl (c := ((((limbs (nval l)).length : Int) + 0) + 1)) (w64 (by omega))) ?_
    refine WP.mk ((limbs (nval l)).length + 1) .n rfl rfl (by omega) (by first | omega | (simp; omega)) Try.underlying29 el121_limb z121_limb fun v1 => ?_
    refine WP.s .n (O.asg rfl) ?_
    refine WP.nil ?_
    refine QE.next ?_
    refine CW.seq ?_
    refine CW.seq ?_
    refine CW.region ?_
    refine WP.s .n (O.mv rfl) ?_
    refine WP.s .n (O.lenS rfl Try.underlying29) ?_
    refine WP.s .n (O.mv rfl) ?_
    refine WP.nil ?_
    refine QE.next ?_
    refine CW.block ?_
    refine CW.loop2 (fun (row : List Nat) (i : Nat) => ShlR (limbs (nval l)) row n i) (fun (row : List Nat) (i : Nat) => [(0, kN.is (limbs (nval l))), (5, (kInt .i64).is 0), (6, (kInt .u64).is (n : Int)), (7, VP.ex v1), (27, (kInt .i64).is ((limbs (nval l)).length : Int)), (28, (kInt .i64).is (i : Int))]) (fun (row : List Nat) (i : Nat) => [OB.row v1 121 kLimb row]) (fun (row : List Nat) (i : Nat) => (limbs (nval l)).length - i) (List.replicate ((limbs (nval l)).length + 1) 0) 0 (shlR_0 _ _) (Imp.cons rfl (Imp.cons rfl (Imp.cons rfl (Imp.cons rfl (Imp.cons rfl (Imp.consLe rfl (is_eq (y := (0 : Int)) (by first | omega | rfl | simp)) Imp.nil)))))) (OImp.refl _) ?_
    intro row i hS
    have hrl := hS.2.1
    have hi := hS.1
    have hx := getD_lt lA i
    have ht := hS.2.2.2.1
    have k1 := shl_hi hn hx
    have k3 := shl_or (x := (limbs (nval l)).getD i 0) hn ht
    have k4 := (pow32 hn).2.1
    refine CW.seq ?_
    refine CW.region ?_
    refine WP.s .n (O.lt rfl rfl) ?_
    refine WP.nil ?_
    refine QE.next ?_
    refine CW.seq ?_
    refine CW.condD rfl (fun h_t29 => ?_) (fun h_t29 => ?_)
    · refine CW.skip ?_
      refine QE.next ?_
      refine CW.seq ?_
      refine CW.block ?_
      refine CW.seq ?_
      refine CW.region ?_
      refine WP.s .n (O.mv rfl) ?_
      refine WP.s .n (O.asg rfl) ?_
      refine WP.nil ?_
      refine QE.next ?_
      refine CW.seq ?_
      refine CW.region ?_
      refine WP.s .n (O.mv rfl) ?_
      refine WP.s .n (O.mv rfl) ?_
      refine WP.s .n (O.ix i rfl rfl Try.underlying29 ty121 rfl (v := ((limbs (nval l)).getD i 0)) (gd 0 (by first | omega | (simp; omega)))) ?_
      refine WP.s .n (OpOk.le (O.ldP rfl ty121) (limb_le _)) ?_
      refine WP.s .n (O.cvt rfl Try.underlying121 Try.underlying173 (c := (((limbs (nval l)).getD i 0) : Int)) (wu64 (by omega))) ?_
      refine WP.s .n (O.mv rfl) ?_
      refine WP.s .n (O.shl rfl rfl (by omega) (c := (((limbs (nval l)).getD i 0 * 2 ^ n : Nat) : Int)) (shlN n rfl rfl (by omega) k1.2)) ?_
      refine WP.s .n (O.asg rfl) ?_
      refine WP.nil ?_
      refine QE.next ?_
      refine CW.seq ?_
      refine CW.region ?_
      refine WP.s .n (O.mv rfl) ?_
      refine WP.s .n (O.mv rfl) ?_
      refine WP.s .n (O.mv rfl) ?_
      refine WP.s .n (O.add rfl rfl (c := ((i : Int) + 0)) (w64 (by omega))) ?_
      refine WP.s .n (O.ixR (k := kLimb) (xs := row) (n := ((i : Int) + 0)) i rfl rfl (mem_at 0 rfl) Try.underlying29 ty121 (by omega) (by first | omega | (simp; omega))) ?_
      refine WP.s .n (OpOk.le (O.ldR i rfl (mem_at 0 rfl) (Lens.id _) rfl (y := (row.getD i 0)) (gd 0 (by first | omega | (simp; omega))) ty121 rfl) (limb_le _)) ?_
      refine WP.s .n (O.mv rfl) ?_
      refine WP.s .n (O.cvt rfl Try.underlying173 Try.underlying121 (c := (((limbs (nval l)).getD i 0 % 2 ^ (32 - n) * 2 ^ n : Nat) : Int)) (by rw [wr32 rfl, shl_lo hn])) ?_
      refine WP.s .n (O.or rfl rfl (c := (((limbs (nval l)).getD i 0 % 2 ^ (32 - n) * 2 ^ n + row.getD i 0 : Nat) : Int)) (orN32 n rfl rfl ht k3)) ?_
      refine WP.s .n (O.ixR (k := kLimb) (xs := row) (n := ((i : Int) + 0)) i rfl rfl (mem_at 0 rfl) Try.underlying29 ty121 (by omega) (by first | omega | (simp; omega))) ?_
      refine WP.t .n (O.stR 0 i rfl rfl (Lens.id _) rfl (y0 := (row.getD i 0)) (gd 0 (by first | omega | (simp; omega))) ty121 rfl (u32_limb (x := ((limbs (nval l)).getD i 0 % 2 ^ (32 - n) * 2 ^ n + row.getD i 0 : Nat)) (by omega))) ?_
      refine WP.nil ?_
      refine QE.next ?_
      refine CW.region ?_
      refine WP.s .n (O.mv rfl) ?_
      refine WP.s .n (O.mv rfl) ?_
      refine WP.s .n (O.mv rfl) ?_
      refine WP.s .n (O.add rfl rfl (c := ((i : Int) + 0)) (w64 (by omega))) ?_
      refine WP.s .n (O.add rfl rfl (c := (((i : Int) + 0) + 1)) (w64 (by omega))) ?_
      refine WP.s .n (O.mv rfl) ?_
      refine WP.s .n (O.shr rfl rfl (by omega) (c := (((limbs (nval l)).getD i 0 * 2 ^ n / 2 ^ 32 : Nat) : Int)) (shrN 32 rfl rfl (by decide))) ?_
      refine WP.s .n (O.cvt rfl Try.underlying173 Try.underlying121 (c := (((limbs (nval l)).getD i 0 * 2 ^ n / 2 ^ 32 : Nat) : Int)) (wrs32 ⟨rfl, by omega⟩)) ?_
      refine WP.s .n (O.ixR (k := kLimb) (xs := (row.set i ((limbs (nval l)).getD i 0 % 2 ^ (32 - n) * 2 ^ n + row.getD i 0 : Nat))) (n := (((i : Int) + 0) + 1)) (i + 1) rfl rfl (mem_at 0 rfl) Try.underlying29 ty121 (by omega) (by first | omega | (simp; omega))) ?_
      refine WP.t .n (O.stR 0 (i + 1) rfl rfl (Lens.id _) rfl (y0 := ((row.set i ((limbs (nval l)).getD i 0 % 2 ^ (32 - n) * 2 ^ n + row.getD i 0 : Nat)).getD (i + 1) 0)) (gd 0 (by first | omega | (simp; omega))) ty121 rfl (u32_limb (x := ((limbs (nval l)).getD i 0 * 2 ^ n / 2 ^ 32 : Nat)) (by omega))) ?_
      refine WP.nil ?_
      refine QE.blkN ?_
      refine QE.next ?_
      refine CW.region ?_
      refine WP.s .n (O.add rfl rfl (c := ((i : Int) + 1)) (w64 (by omega))) ?_
      refine WP.s .n (O.mv rfl) ?_
      refine WP.nil ?_
      exact QE.round2 ((row.set i ((limbs (nval l)).getD i 0 % 2 ^ (32 - n) * 2 ^ n + row.getD i 0)).set (i + 1) ((limbs (nval l)).getD i 0 * 2 ^ n / 2 ^ 32)) (i + 1) (by omega) (shlR_s lA hn (by omega) hS) (Imp.cons rfl (Imp.cons rfl (Imp.cons rfl (Imp.cons rfl (Imp.cons rfl (Imp.consLe rfl (is_eq (y := (((i + 1) : Nat) : Int)) (by first | omega | rfl | simp)) Imp.nil)))))) (OImp.os (OS.keepLe (OB.row_eq (by first | omega | rfl | simp)) OS.nil))
    · refine CW.exit ?_
      refine QE.thenE ?_
      refine QE.thenE ?_
      refine QE.blkH ?_
      refine QE.next ?_
      refine CW.seq ?_
      refine CW.region ?_
      refine WP.s .n (O.mv rfl) ?_
      refine WP.call (Li := [OB.row v1 121 kLimb row]) (L := []) .n fn197 (evs.c rfl evs.nil) (c_trimO v1 row) fun p_ Lo_ hp_ => ?_
      obtain ⟨v2, rfl, rfl, hx_t59⟩ := hp_
      refine WP.s .n (O.asg rfl) ?_
      refine WP.nil ?_
      refine QE.next ?_
      refine CW.ret ?_
      refine ST.obtold 0 rfl (OB.row_eq (ys := (limbs (nval l * 2 ^ n))) (by rw [shlR_end (by omega) hS, nval_limbs])) ?_
      exact QE.done (.inl rfl) rfl (ResOk.t rfl ResOk.nil) (OImp.refl _) ⟨v2, rfl, rfl, trivial⟩

set_option maxRecDepth 20000 in
set_option maxHeartbeats 1000000 in
theorem c_nat_shr (l : List Nat) (n : Nat) (hn : n < 32) : Fn Try.prog 213 [kN.is l, (kInt .i64).is (n : Int)] (kN.is (limbs (nval l / 2 ^ n))) := by
  refine Con.enter Try.func213 rfl rfl fun m w => ?_
  refine ST.fact (i := 0) rfl kN_lims fun hL => ?_
  have hll := limbs_len_le hL
  have lA := limbs_lims (nval l)
  refine ST.fact (i := 0) rfl sl_len fun hB => ?_
  refine CW.seq ?_
  refine CW.region ?_
  refine WP.s .n (O.asg rfl) ?_
  refine WP.nil ?_
  refine QE.next ?_
  refine CW.seq ?_
  refine CW.region ?_
  refine WP.s .n (O.mv rfl) ?_
  refine WP.s .n (O.fn fn197 (evs.c rfl evs.nil) (c_nat_trim l)) ?_
  refine WP.s .n (O.asg rfl) ?_
  refine WP.nil ?_
  refine QE.next ?_
  refine CW.seq ?_
  refine CW.region ?_
  refine WP.s .n (O.mv rfl) ?_
  refine WP.s .n (O.quo rfl rfl (by omega) (c := 0) (quo32 hn)) ?_
  refine WP.s .n (O.mv rfl) ?_
  refine WP.s .n (O.rem rfl rfl (by omega) (c := (n : Int)) (rem32 hn)) ?_
  refine WP.s .n (O.cvt rfl Try.underlying3 Try.underlying172 (c := (n : Int)) (wu64 (by omega))) ?_
  refine WP.s .n (O.asg rfl) ?_
  refine WP.s .n (O.asg rfl) ?_
  refine WP.nil ?_
  refine QE.next ?_
  refine CW.seq ?_
  refine CW.seq ?_
  refine CW.region ?_
  refine WP.s .n (O.mv rfl) ?_
  refine WP.s .n (O.mv rfl) ?_
  refine WP.s .n (O.lenS rfl Try.underlying29) ?_
  refine WP.s .n (O.ge rfl rfl) ?_
  refine WP.nil ?_
  refine QE.next ?_
  refine CW.condD rfl (fun h_t20 => ?_) (fun h_t20 => ?_)
  · refine CW.seq ?_
    refine CW.region ?_
    refine WP.s .n (O.asg rfl) ?_
    refine WP.nil ?_
    refine QE.next ?_
    refine CW.ret ?_
    refine QE.thenR ?_
    refine ST.told (q := kN.is ([] : List Nat)) 4 rfl (nil_le _) ?_
    refine ST.told 4 rfl (is_eq (y := (limbs (nval l / 2 ^ n))) (by rw [limbs0 (n := nval l) (by omega), Nat.zero_div, limbs_zero])) ?_
    exact QE.done (.inl rfl) rfl (ResOk.t rfl ResOk.nil) (OImp.sub (List.nil_sublist _)) ⟨rfl, rfl⟩
  · refine CW.skip ?_
    refine QE.next ?_
    refine CW.seq ?_
    refine CW.region ?_
    refine WP.s .n (O.mv rfl) ?_
    refine WP.s .n (O.lenS rfl Try.underlying29) ?_
    refine WP.s .n (O.mv rfl) ?_
    refine WP.s .n (O.sub rfl rfl (c := (((limbs (nval l)).length : Int) - 0)) (w64 (by omega))) ?_
    refine WP.mk ((limbs (nval l)).length) .n rfl rfl (by omega) (by first | omega | (simp; omega)) Try.underlying29 el121_limb z121_limb fun v1 => ?_
    refine WP.s .n (O.asg rfl) ?_
    refine WP.nil ?_
    refine QE.next ?_
    refine CW.seq ?_
    refine CW.seq ?_
    refine CW.region ?_
    refine WP.s .n (O.mv rfl) ?_
    refine WP.s .n (O.lenR rfl (mem_at 0 rfl) Try.underlying29) ?_
    refine WP.s .n (O.mv rfl) ?_
    refine WP.nil ?_
    refine QE.next ?_
    refine CW.block ?_
    refine CW.loop (fun (r : List Nat) => ShrR (limbs (nval l)) r n) (fun (r : List Nat) => [(0, kN.is (limbs (nval l))), (5, (kInt .i64).is 0), (6, (kInt .u64).is (n : Int)), (7, VP.ex v1), (27, (kInt .i64).is ((limbs (nval l)).length : Int)), (28, (kInt .i64).is (r.length : Int))]) (fun (r : List Nat) => [OB.row v1 121 kLimb (fil (limbs (nval l)).length r)]) (fun (r : List Nat) => (limbs (nval l)).length - r.length) [] (shrR_0 _ _) (Imp.cons rfl (Imp.cons rfl (Imp.cons rfl (Imp.cons rfl (Imp.consLe rfl (is_eq (y := ((limbs (nval l)).length : Int)) (by first | omega | rfl | simp)) (Imp.consLe rfl (is_eq (y := ([].length : Int)) (by first | omega | rfl | simp)) Imp.nil)))))) (OImp.os (.keepLe (OB.row_eq (fil_nil _)) .nil)) ?_
    intro r hS
    have hi := hS.1
    have hx := getD_lt lA r.length
    have hy := getD_lt lA (r.length + 1)
    have hfl := fil_len (n := (limbs (nval l)).length) (r := r) (by omega)
    refine CW.seq ?_
    refine CW.region ?_
    refine WP.s .n (O.lt rfl rfl) ?_
    refine WP.nil ?_
    refine QE.next ?_
    refine CW.seq ?_
    refine CW.condD rfl (fun h_t29 => ?_) (fun h_t29 => ?_)
    · refine CW.skip ?_
      refine QE.next ?_
      refine CW.seq ?_
      refine CW.block ?_
      refine CW.seq ?_
      refine CW.region ?_
      refine WP.s .n (O.mv rfl) ?_
      refine WP.s .n (O.asg rfl) ?_
      refine WP.nil ?_
      refine QE.next ?_
      refine CW.seq ?_
      refine CW.region ?_
      refine WP.s .n (O.mv rfl) ?_
      refine WP.s .n (O.mv rfl) ?_
      refine WP.s .n (O.mv rfl) ?_
      refine WP.s .n (O.add rfl rfl (c := ((r.length : Int) + 0)) (w64 (by omega))) ?_
      refine WP.s .n (O.ix r.length rfl rfl Try.underlying29 ty121 (by omega) (v := ((limbs (nval l)).getD r.length 0)) (gd 0 (by first | omega | (simp; omega)))) ?_
      refine WP.s .n (OpOk.le (O.ldP rfl ty121) (limb_le _)) ?_
      refine WP.s .n (O.cvt rfl Try.underlying121 Try.underlying173 (c := (((limbs (nval l)).getD r.length 0) : Int)) (wu64 (by omega))) ?_
      refine WP.s .n (O.asg rfl) ?_
      refine WP.nil ?_
      refine QE.next ?_
      refine CW.seq ?_
      refine CW.seq ?_
      refine CW.region ?_
      refine WP.s .n (O.mv rfl) ?_
      refine WP.s .n (O.mv rfl) ?_
      refine WP.s .n (O.add rfl rfl (c := ((r.length : Int) + 0)) (w64 (by omega))) ?_
      refine WP.s .n (O.add rfl rfl (c := (((r.length : Int) + 0) + 1)) (w64 (by omega))) ?_
      refine WP.s .n (O.mv rfl) ?_
      refine WP.s .n (O.lenS rfl Try.underlying29) ?_
      refine WP.s .n (O.lt rfl rfl) ?_
      refine WP.nil ?_
      refine QE.next ?_
      refine CW.condD rfl (fun h_t44 => ?_) (fun h_t44 => ?_)
      · refine CW.region ?_
        refine WP.s .n (O.mv rfl) ?_
        refine WP.s .n (O.mv rfl) ?_
        refine WP.s .n (O.mv rfl) ?_
        refine WP.s .n (O.mv rfl) ?_
        refine WP.s .n (O.add rfl rfl (c := ((r.length : Int) + 0)) (w64 (by omega))) ?_
        refine WP.s .n (O.add rfl rfl (c := (((r.length : Int) + 0) + 1)) (w64 (by omega))) ?_
        refine WP.s .n (O.ix (r.length + 1) rfl rfl Try.underlying29 ty121 (by omega) (v := ((limbs (nval l)).getD (r.length + 1) 0)) (gd 0 (by first | omega | (simp; omega)))) ?_
        refine WP.s .n (OpOk.le (O.ldP rfl ty121) (limb_le _)) ?_
        refine WP.s .n (O.cvt rfl Try.underlying121 Try.underlying173 (c := (((limbs (nval l)).getD (r.length + 1) 0) : Int)) (wu64 (by omega))) ?_
        refine WP.s .n (O.shl rfl rfl (by omega) (c := (((limbs (nval l)).getD (r.length + 1) 0 * 2 ^ 32 : Nat) : Int)) (shlN 32 rfl rfl (by decide) (by omega))) ?_
        refine WP.s .n (O.or rfl rfl (c := (((limbs (nval l)).getD (r.length + 1) 0 * 2 ^ 32 + (limbs (nval l)).getD r.length 0 : Nat) : Int)) (orN' 32 rfl rfl hx (by omega))) ?_
        refine WP.s .n (O.asg rfl) ?_
        refine WP.nil ?_
        refine QE.next ?_
        refine CW.region ?_
        refine WP.s .n (O.mv rfl) ?_
        refine WP.s .n (O.mv rfl) ?_
        refine WP.s .n (O.mv rfl) ?_
        refine WP.s .n (O.mv rfl) ?_
        refine WP.s .n (O.shr rfl rfl (by omega) (c := ((((limbs (nval l)).getD (r.length + 1) 0 * 2 ^ 32 + (limbs (nval l)).getD r.length 0) / 2 ^ n : Nat) : Int)) (shrN n rfl rfl (show n ≤ 64 by omega))) ?_
        refine WP.s .n (O.cvt rfl Try.underlying173 Try.underlying121 (c := ((((limbs (nval l)).getD (r.length + 1) 0 * 2 ^ 32 + (limbs (nval l)).getD r.length 0) / 2 ^ n % 4294967296 : Nat) : Int)) (wr32 rfl)) ?_
        refine WP.s .n (O.ixR (k := kLimb) (xs := (fil (limbs (nval l)).length r)) (n := (r.length : Int)) r.length rfl rfl (mem_at 0 rfl) Try.underlying29 ty121 rfl (by first | omega | (simp; omega))) ?_
        refine WP.t .n (O.stR 0 r.length rfl rfl (Lens.id _) rfl (y0 := ((fil (limbs (nval l)).length r).getD r.length 0)) (gd 0 (by first | omega | (simp; omega))) ty121 rfl (u32_limb (x := (((limbs (nval l)).getD (r.length + 1) 0 * 2 ^ 32 + (limbs (nval l)).getD r.length 0) / 2 ^ n % 4294967296 : Nat)) (by omega))) ?_
        refine WP.nil ?_
        refine QE.blkN ?_
        refine QE.next ?_
        refine CW.region ?_
        refine WP.s .n (O.add rfl rfl (c := ((r.length : Int) + 1)) (w64 (by omega))) ?_
        refine WP.s .n (O.mv rfl) ?_
        refine WP.nil ?_
        exact QE.round (r ++ [((limbs (nval l)).getD (r.length + 1) 0 * 2 ^ 32 + (limbs (nval l)).getD r.length 0) / 2 ^ n % 4294967296]) (by simp; omega) (shrR_s lA hn (by omega) hS) (Imp.cons rfl (Imp.cons rfl (Imp.cons rfl (Imp.cons rfl (Imp.cons rfl (Imp.consLe rfl (is_eq (y := ((r ++ [((limbs (nval l)).getD (r.length + 1) 0 * 2 ^ 32 + (limbs (nval l)).getD r.length 0) / 2 ^ n % 4294967296]).length : Int)) (by first | omega | rfl | simp)) Imp.nil)))))) (OImp.os (.keepLe (OB.row_eq (fil_set (by omega))) .nil))
      · have hy0 := getD_out (l := limbs (nval l)) (i := r.length + 1) (by omega)
        refine ST.told 9 rfl (is_eq (y := (((limbs (nval l)).getD (r.length + 1) 0 * 2 ^ 32 + (limbs (nval l)).getD r.length 0 : Nat) : Int)) (by rw [hy0]; simp)) ?_
        refine CW.skip ?_
        refine QE.next ?_
        refine CW.region ?_
        refine WP.s .n (O.mv rfl) ?_
        refine WP.s .n (O.mv rfl) ?_
        refine WP.s .n (O.mv rfl) ?_
        refine WP.s .n (O.mv rfl) ?_
        refine WP.s .n (O.shr rfl rfl (by omega) (c := ((((limbs (nval l)).getD (r.length + 1) 0 * 2 ^ 32 + (limbs (nval l)).getD r.length 0) / 2 ^ n : Nat) : Int)) (shrN n rfl rfl (show n ≤ 64 by omega))) ?_
        refine WP.s .n (O.cvt rfl Try.underlying173 Try.underlying121 (c := ((((limbs (nval l)).getD (r.length + 1) 0 * 2 ^ 32 + (limbs (nval l)).getD r.length 0) / 2 ^ n % 4294967296 : Nat) : Int)) (wr32 rfl)) ?_
        refine WP.s .n (O.ixR (k := kLimb) (xs := (fil (limbs (nval l)).length r)) (n := (r.length : Int)) r.length rfl rfl (mem_at 0 rfl) Try.underlying29 ty121 rfl (by first | omega | (simp; omega))) ?_
        refine WP.t .n (O.stR 0 r.length rfl rfl (Lens.id _) rfl (y0 := ((fil (limbs (nval l)).length r).getD r.length 0)) (gd 0 (by first | omega | (simp; omega))) ty121 rfl (u32_limb (x := (((limbs (nval l)).getD (r.length + 1) 0 * 2 ^ 32 + (limbs (nval l)).getD r.length 0) / 2 ^ n % 4294967296 : Nat)) (by omega))) ?_
        refine WP.nil ?_
        refine QE.blkN ?_
        refine QE.next ?_
        refine CW.region ?_
        refine WP.s .n (O.add rfl rfl (c := ((r.length : Int) + 1)) (w64 (by omega))) ?_
        refine WP.s .n (O.mv rfl) ?_
        refine WP.nil ?_
        exact QE.round (r ++ [((limbs (nval l)).getD (r.length + 1) 0 * 2 ^ 32 + (limbs (nval l)).getD r.length 0) / 2 ^ n % 4294967296]) (by simp; omega) (shrR_s lA hn (by omega) hS) (Imp.cons rfl (Imp.cons rfl (Imp.cons rfl (Imp.cons rfl (Imp.cons rfl (Imp.consLe rfl (is_eq (y := ((r ++ [((limbs (nval l)).getD (r.length + 1) 0 * 2 ^ 32 + (limbs (nval l)).getD r.length 0) / 2 ^ n % 4294967296]).length : Int)) (by first | omega | rfl | simp)) Imp.nil)))))) (OImp.os (.keepLe (OB.row_eq (fil_set (by omega))) .nil))
    · refine CW.exit ?_
      refine QE.thenE ?_
      refine QE.thenE ?_
      refine QE.blkH ?_
      refine QE.next ?_
      refine CW.seq ?_
      refine ST.obtold 0 rfl (OB.row_eq (ys := r) (fil_full (by omega))) ?_
      refine CW.region ?_
      refine WP.s .n (O.mv rfl) ?_
      refine ST.freeze 0 rfl (.keep (i := 0) rfl (.keep (i := 5) rfl (.keep (i := 6) rfl (.hit (i := 7) rfl (.keep (i := 27) rfl (.keep (i := 28) rfl (.keep (i := 29) rfl (.hit (i := 64) rfl .nil)))))))) ?_
      refine WP.s .n (O.fn fn197 (evs.c rfl evs.nil) (c_nat_trim r)) ?_
      refine WP.s .n (O.asg rfl) ?_
      refine WP.nil ?_
      refine QE.next ?_
      refine CW.ret ?_
      refine ST.told 4 rfl (is_eq (y := (limbs (nval l / 2 ^ n))) (by rw [shrR_end lA (by omega) hS, nval_limbs])) ?_
      exact QE.done (.inl rfl) rfl (ResOk.t rfl ResOk.nil) (OImp.sub (List.nil_sublist _)) ⟨rfl, rfl⟩

end Fw
