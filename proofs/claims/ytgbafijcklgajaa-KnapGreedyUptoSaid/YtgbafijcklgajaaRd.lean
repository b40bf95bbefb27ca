/- What more of the document's functions of layers 1 and 2 answer. -/
import Derived.Test.YtgbafijcklgajaaQRd
import Derived.Test.YtgbafijcklgajaaRb
import Derived.Test.YtgbafijcklgajaaNc
import Derived.Test.YtgbafijcklgajaaZe
import Derived.Test.YtgbafijcklgajaaFwM
set_option linter.unusedVariables false
set_option linter.unusedSimpArgs false
set_option exponentiation.threshold 70
namespace Fw
open Go Go.Proofs

set_option maxRecDepth 20000 in
set_option maxHeartbeats 1000000 in
theorem c_ref01_Mul (a b : List Nat) (hAB : a.length + b.length ≤ 1099511627776) : Fn Try.prog 163 [kN.is a, kN.is b] (kN.is (limbs (nval a * nval b))) := by
  refine Con.enter Try.func163 rfl rfl fun m w => ?_
  refine ST.fact (i := 0) rfl kN_lims fun la => ?_
  refine ST.fact (i := 1) rfl kN_lims fun lb => ?_
  refine CW.seq ?_
  refine CW.region ?_
  refine WP.s .n (O.asg rfl) ?_
  refine WP.nil ?_
  refine QE.next ?_
  refine CW.seq ?_
  refine CW.region ?_
  refine WP.s .n (O.mv rfl) ?_
  refine WP.s .n (O.lenS rfl Try.underlying29) ?_
  refine WP.s .n (O.mv rfl) ?_
  refine WP.s .n (O.lenS rfl Try.underlying29) ?_
  refine WP.s .n (O.add rfl rfl (c := ((a.length : Int) + (b.length : Int))) (w64 (by omega))) ?_
  refine WP.mk ((((a.length : Int) + (b.length : Int))).toNat) .n rfl rfl (by omega) (by omega) Try.underlying29 el121_limb z121_limb fun v1 => ?_
  refine WP.s .n (O.asg rfl) ?_
  refine WP.nil ?_
  refine QE.next ?_
  refine CW.seq ?_
  refine CW.seq ?_
  refine CW.region ?_
  refine WP.s .n (O.asg rfl) ?_
  refine WP.nil ?_
  refine QE.next ?_
  refine CW.block ?_
  refine CW.loop2 (fun (row : List Nat) (i : Nat) => i ≤ a.length ∧ MulO a b row i) (fun (row : List Nat) (i : Nat) => [(0, kN.is a), (1, kN.is b), (5, VP.ex v1), (6, (kInt .i64).is (i : Int))]) (fun (row : List Nat) (i : Nat) => [OB.row v1 121 kLimb row]) (fun (row : List Nat) (i : Nat) => a.length - i) (List.replicate (a.length + b.length) 0) 0 ⟨Nat.zero_le _, mulO_0 _ _⟩ (Imp.cons rfl (Imp.cons rfl (Imp.cons rfl (Imp.consLe rfl (is_eq (y := (0 : Int)) (by first | omega | rfl)) Imp.nil)))) (OImp.os (OS.keepLe (OB.row_eq (by first | omega | rfl)) OS.nil)) ?_
  intro row i ⟨hi, hO⟩
  have hrl := hO.2.1
  refine CW.seq ?_
  refine CW.seq ?_
  refine CW.region ?_
  refine WP.s .n (O.mv rfl) ?_
  refine WP.s .n (O.mv rfl) ?_
  refine WP.s .n (O.lenS rfl Try.underlying29) ?_
  refine WP.s .n (O.lt rfl rfl) ?_
  refine WP.nil ?_
  refine QE.next ?_
  refine CW.condD rfl (fun h_t18 => ?_) (fun h_t18 => ?_)
  · refine CW.skip ?_
    refine QE.next ?_
    refine CW.seq ?_
    refine CW.block ?_
    refine CW.seq ?_
    refine CW.region ?_
    refine WP.s .n (O.asg rfl) ?_
    refine WP.nil ?_
    refine QE.next ?_
    refine CW.seq ?_
    refine CW.seq ?_
    refine CW.region ?_
    refine WP.s .n (O.asg rfl) ?_
    refine WP.nil ?_
    refine QE.next ?_
    refine CW.block ?_
    refine CW.loop3 (fun (row : List Nat) (j : Nat) (c : Nat) => j ≤ b.length ∧ MulI a b row i j c) (fun (row : List Nat) (j : Nat) (c : Nat) => [(0, kN.is a), (1, kN.is b), (5, VP.ex v1), (6, (kInt .i64).is (i : Int)), (7, (kInt .u64).is (c : Int)), (8, (kInt .i64).is (j : Int))]) (fun (row : List Nat) (j : Nat) (c : Nat) => [OB.row v1 121 kLimb row]) (fun (row : List Nat) (j : Nat) (c : Nat) => b.length - j) row 0 0 ⟨Nat.zero_le _, mulI_0 hO⟩ (Imp.cons rfl (Imp.cons rfl (Imp.cons rfl (Imp.cons rfl (Imp.consLe rfl (is_eq (y := (0 : Int)) (by first | omega | rfl)) (Imp.consLe rfl (is_eq (y := (0 : Int)) (by first | omega | rfl)) Imp.nil)))))) (OImp.refl _) ?_
    intro row j c ⟨hj, hI⟩
    have hrl := hI.2.1
    have hc := hI.2.2.1
    have hx := getD_lt la i
    have hy := getD_lt lb j
    have hz := getD_lt hI.1 (i + j)
    have hxy := mul_bd hx hy
    refine CW.seq ?_
    refine CW.seq ?_
    refine CW.region ?_
    refine WP.s .n (O.mv rfl) ?_
    refine WP.s .n (O.mv rfl) ?_
    refine WP.s .n (O.lenS rfl Try.underlying29) ?_
    refine WP.s .n (O.lt rfl rfl) ?_
    refine WP.nil ?_
    refine QE.next ?_
    refine CW.condD rfl (fun h_t24 => ?_) (fun h_t24 => ?_)
    · refine CW.skip ?_
      refine QE.next ?_
      refine CW.seq ?_
      refine CW.block ?_
      refine CW.seq ?_
      refine CW.draw (Γ := [.fr ((kInt .u64).is (c : Int)), .fr (VP.ex v1), .fr ((kInt .i64).is (i : Int)), .fr ((kInt .i64).is (j : Int)), .fr ((kInt .i64).is ((i : Int) + (j : Int))), .fr (VP.pel v1 ((i + j) * 1)), .fr ((kInt .u32).is ((row.getD (i + j) 0) : Int)), .fr ((kInt .u64).is ((row.getD (i + j) 0) : Int)), .fr ((kInt .u64).is ((c : Int) + ((row.getD (i + j) 0) : Int))), .fr (kN.is a), .fr ((kInt .i64).is (i : Int)), .fr (VP.pim kLimb (a.getD i 0)), .fr ((kInt .u32).is ((a.getD i 0) : Int)), .fr ((kInt .u64).is ((a.getD i 0) : Int)), .fr (kN.is b), .fr ((kInt .i64).is (j : Int)), .fr (VP.pim kLimb (b.getD j 0)), .fr ((kInt .u32).is ((b.getD j 0) : Int)), .fr ((kInt .u64).is ((b.getD j 0) : Int)), .fr ((kInt .u64).is ((a.getD i 0 * b.getD j 0 : Nat) : Int)), .fr ((kInt .u64).is ((c + (a.getD i 0 * b.getD j 0 + row.getD (i + j) 0) : Nat) : Int))]) (lates := [false, false, false, false, false, false, false, false, false, false, false, false, false, false, false, false, false, false, false, false, false]) (by kernel_rfl) (Chk.of rfl (by kernel_rfl) rfl) (fun _ _ _ _ _ h => h) (fun q_ x_ h_ => ?_) (fun σ => ?_)
      · match q_, h_ with
        | 0, h_ => cases h_; exact Ob.f rfl .n fun N => (O.mv rfl)
        | 1, h_ => cases h_; exact Ob.f rfl .n fun N => (O.mv rfl)
        | 2, h_ => cases h_; exact Ob.f rfl .n fun N => (O.mv rfl)
        | 3, h_ => cases h_; exact Ob.f rfl .n fun N => (O.mv rfl)
        | 4, h_ => cases h_; exact Ob.f rfl .n fun N => (O.add rfl rfl (c := ((i : Int) + (j : Int))) (w64 (by omega)))
        | 5, h_ => cases h_; exact Ob.f rfl .n fun N => (O.ixR (k := kLimb) (xs := row) (n := ((i : Int) + (j : Int))) (i + j) rfl rfl (mem_app N (mem_at 0 rfl)) Try.underlying29 ty121 (by omega) (by omega))
        | 6, h_ => cases h_; exact Ob.f rfl .n fun N => (OpOk.le (O.ldR (i + j) rfl (mem_app N (mem_at 0 rfl)) (Lens.id _) rfl (y := (row.getD (i + j) 0)) (gd 0 (by omega)) ty121 rfl) (limb_le _))
        | 7, h_ => cases h_; exact Ob.f rfl .n fun N => (O.cvt rfl Try.underlying121 Try.underlying173 (c := ((row.getD (i + j) 0) : Int)) (wu64 (by omega)))
        | 8, h_ => cases h_; exact Ob.f rfl .n fun N => (O.add rfl rfl (c := ((c : Int) + ((row.getD (i + j) 0) : Int))) (wu64 (by omega)))
        | 9, h_ => cases h_; exact Ob.f rfl .n fun N => (O.mv rfl)
        | 10, h_ => cases h_; exact Ob.f rfl .n fun N => (O.mv rfl)
        | 11, h_ => cases h_; exact Ob.f rfl .n fun N => (O.ix i rfl rfl Try.underlying29 ty121 rfl (v := (a.getD i 0)) (gd 0 (by omega)))
        | 12, h_ => cases h_; exact Ob.f rfl .n fun N => (OpOk.le (O.ldP rfl ty121) (limb_le _))
        | 13, h_ => cases h_; exact Ob.f rfl .n fun N => (O.cvt rfl Try.underlying121 Try.underlying173 (c := ((a.getD i 0) : Int)) (wu64 (by omega)))
        | 14, h_ => cases h_; exact Ob.f rfl .n fun N => (O.mv rfl)
        | 15, h_ => cases h_; exact Ob.f rfl .n fun N => (O.mv rfl)
        | 16, h_ => cases h_; exact Ob.f rfl .n fun N => (O.ix j rfl rfl Try.underlying29 ty121 rfl (v := (b.getD j 0)) (gd 0 (by omega)))
        | 17, h_ => cases h_; exact Ob.f rfl .n fun N => (OpOk.le (O.ldP rfl ty121) (limb_le _))
        | 18, h_ => cases h_; exact Ob.f rfl .n fun N => (O.cvt rfl Try.underlying121 Try.underlying173 (c := ((b.getD j 0) : Int)) (wu64 (by omega)))
        | 19, h_ => cases h_; exact Ob.f rfl .n fun N => (O.mul rfl rfl (c := ((a.getD i 0 * b.getD j 0 : Nat) : Int)) (wu64 ⟨by norm_cast, by omega, by omega⟩))
        | 20, h_ => cases h_; exact Ob.f rfl .n fun N => (O.add rfl rfl (c := ((c + (a.getD i 0 * b.getD j 0 + row.getD (i + j) 0) : Nat) : Int)) (wu64 (by omega)))
        | n_ + 21, h_ => simp at h_
      refine WP.s .n (O.asg rfl) ?_
      refine WP.nil ?_
      refine QE.next ?_
      refine CW.seq ?_
      refine CW.region ?_
      refine WP.s .n (O.mv rfl) ?_
      refine WP.s .n (O.mv rfl) ?_
      refine WP.s .n (O.mv rfl) ?_
      refine WP.s .n (O.add rfl rfl (c := ((i : Int) + (j : Int))) (w64 (by omega))) ?_
      refine WP.s .n (O.mv rfl) ?_
      refine WP.s .n (O.rem rfl rfl (by omega) (c := (((c + (a.getD i 0 * b.getD j 0 + row.getD (i + j) 0)) % 4294967296 : Nat) : Int)) (tmodN 4294967296 rfl rfl)) ?_
      refine WP.s .n (O.cvt rfl Try.underlying173 Try.underlying121 (c := (((c + (a.getD i 0 * b.getD j 0 + row.getD (i + j) 0)) % 4294967296 : Nat) : Int)) (wrs32 (by omega))) ?_
      refine WP.s .n (O.ixR (k := kLimb) (xs := row) (n := ((i : Int) + (j : Int))) (i + j) rfl rfl (mem_at 0 rfl) Try.underlying29 ty121 (by omega) (by omega)) ?_
      refine WP.t .n (O.stR 0 (i + j) rfl rfl (Lens.id _) rfl (y0 := (row.getD (i + j) 0)) (gd 0 (by omega)) ty121 rfl (u32_limb (x := ((c + (a.getD i 0 * b.getD j 0 + row.getD (i + j) 0)) % 4294967296 : Nat)) (by omega))) ?_
      refine WP.nil ?_
      refine QE.next ?_
      refine CW.region ?_
      refine WP.s .n (O.mv rfl) ?_
      refine WP.s .n (O.quo rfl rfl (by omega) (c := (((c + (a.getD i 0 * b.getD j 0 + row.getD (i + j) 0)) / 2 ^ 32 : Nat) : Int)) (quoN (2 ^ 32) rfl rfl (by omega))) ?_
      refine WP.s .n (O.asg rfl) ?_
      refine WP.nil ?_
      refine QE.blkN ?_
      refine QE.next ?_
      refine CW.region ?_
      refine WP.s .n (O.mv rfl) ?_
      refine WP.s .n (O.add rfl rfl (c := ((j : Int) + 1)) (w64 (by omega))) ?_
      refine WP.s .n (O.asg rfl) ?_
      refine WP.nil ?_
      exact QE.round3 (row.set (i + j) ((c + (a.getD i 0 * b.getD j 0 + row.getD (i + j) 0)) % 4294967296)) (j + 1) ((c + (a.getD i 0 * b.getD j 0 + row.getD (i + j) 0)) / 2 ^ 32) (by omega) ⟨by omega, mulI_s la lb (by omega) (by omega) hI⟩ (Imp.cons rfl (Imp.cons rfl (Imp.cons rfl (Imp.cons rfl (Imp.consLe rfl (is_eq (y := ((((c + (a.getD i 0 * b.getD j 0 + row.getD (i + j) 0)) / 2 ^ 32) : Nat) : Int)) (by first | omega | rfl)) (Imp.consLe rfl (is_eq (y := (((j + 1) : Nat) : Int)) (by first | omega | rfl)) Imp.nil)))))) (OImp.os (OS.keepLe (OB.row_eq (by first | omega | rfl)) OS.nil))
    · refine CW.exit ?_
      refine QE.thenE ?_
      refine QE.thenE ?_
      refine QE.blkH ?_
      refine QE.next ?_
      refine CW.region ?_
      refine WP.s .n (O.mv rfl) ?_
      refine WP.s .n (O.mv rfl) ?_
      refine WP.s .n (O.mv rfl) ?_
      refine WP.s .n (O.lenS rfl Try.underlying29) ?_
      refine WP.s .n (O.add rfl rfl (c := ((i : Int) + (b.length : Int))) (w64 (by omega))) ?_
      refine WP.s .n (O.mv rfl) ?_
      refine WP.s .n (O.cvt rfl Try.underlying173 Try.underlying121 (c := (c : Int)) (wrs32 (by omega))) ?_
      refine WP.s .n (O.ixR (k := kLimb) (xs := row) (n := ((i : Int) + (b.length : Int))) (i + b.length) rfl rfl (mem_at 0 rfl) Try.underlying29 ty121 (by omega) (by omega)) ?_
      refine WP.t .n (O.stR 0 (i + b.length) rfl rfl (Lens.id _) rfl (y0 := (row.getD (i + b.length) 0)) (gd 0 (by omega)) ty121 rfl (u32_limb (x := c) (by omega))) ?_
      refine WP.nil ?_
      refine QE.blkN ?_
      refine QE.next ?_
      refine CW.region ?_
      refine WP.s .n (O.mv rfl) ?_
      refine WP.s .n (O.add rfl rfl (c := ((i : Int) + 1)) (w64 (by omega))) ?_
      refine WP.s .n (O.asg rfl) ?_
      refine WP.nil ?_
      have hjb : j = b.length := by omega
      exact QE.round2 (row.set (i + b.length) c) (i + 1) (by omega) ⟨by omega, mulI_end (by omega) (hjb ▸ hI)⟩ (Imp.cons rfl (Imp.cons rfl (Imp.cons rfl (Imp.consLe rfl (is_eq (y := (((i + 1) : Nat) : Int)) (by first | omega | rfl)) Imp.nil)))) (OImp.refl _)
  · refine CW.exit ?_
    refine QE.thenE ?_
    refine QE.thenE ?_
    refine QE.blkH ?_
    refine QE.next ?_
    refine CW.seq ?_
    refine CW.region ?_
    refine WP.s .n (O.mv rfl) ?_
    refine ST.freeze 0 rfl (.keep (i := 0) rfl (.keep (i := 1) rfl (.hit (i := 5) rfl (.keep (i := 6) rfl (.keep (i := 15) rfl (.keep (i := 16) rfl (.keep (i := 17) rfl (.keep (i := 18) rfl (.hit (i := 66) rfl .nil))))))))) ?_
    refine WP.s .n (O.fn fn158 (evs.c rfl evs.nil) (c_ref01_Norm row)) ?_
    refine WP.s .n (O.asg rfl) ?_
    refine WP.nil ?_
    refine QE.next ?_
    refine CW.ret ?_
    refine ST.told 4 rfl (is_eq (y := (limbs (nval a * nval b))) (by rw [mulO_end (by omega) hO])) ?_
    exact QE.done (.inl rfl) rfl (ResOk.t rfl ResOk.nil) (OImp.sub (List.nil_sublist _)) ⟨rfl, rfl⟩

set_option maxRecDepth 20000 in
set_option maxHeartbeats 1000000 in
theorem c_ref02_Neg (z : Int) : Fn Try.prog 93 [kZ.is z] (kC.is (-z)) := by
  refine Con.enter Try.func93 rfl rfl fun m w => ?_
  refine ST.z 0 rfl fun y y_v y_n y_l => ?_
  refine CW.seq ?_
  refine CW.region ?_
  refine WP.bx .n rfl fun b1 => ?_
  refine WP.al .n z31_C fun b2 => ?_
  refine WP.nil ?_
  refine QE.next ?_
  refine CW.seq ?_
  refine CW.region ?_
  refine WP.s .n (O.fa rfl fld31_0 rfl) ?_
  refine WP.s .n (O.ld rfl (mem_at 1 rfl) (Lens.fst (Lens.id _)) ty4 rfl) ?_
  refine WP.s .n (O.not rfl) ?_
  refine WP.s .n (O.fa rfl fld31_1 rfl) ?_
  refine WP.s .n (O.ld rfl (mem_at 1 rfl) (Lens.snd (Lens.id _)) ty29 rfl) ?_
  refine WP.s .n (O.fn fn152 (evs.c rfl (evs.c rfl evs.nil)) (c_ref02_made (!y.1) y.2)) ?_
  refine WP.t .n (O.stW (l := kC) (u := ival ((!y.1), y.2)) 0 rfl rfl rfl ty31 rfl (VP.le_refl _)) ?_
  refine WP.nil ?_
  refine QE.next ?_
  refine CW.ret ?_
  refine ST.obtold 0 rfl (OB.box_eq (y := (-z)) (by rw [← y_v]; exact ival_not)) ?_
  exact QE.done (.inl rfl) rfl (ResOk.c rfl (mem_at 0 rfl) ty31 ResOk.nil) (OImp.sub (List.nil_sublist _)) ⟨rfl, rfl⟩

set_option maxRecDepth 20000 in
set_option maxHeartbeats 1000000 in
theorem c_ref02_Abs (z : Int) : Fn Try.prog 171 [kZ.is z] (kC.is (z.natAbs : Int)) := by
  refine Con.enter Try.func171 rfl rfl fun m w => ?_
  refine ST.z 0 rfl fun y y_v y_n y_l => ?_
  refine CW.seq ?_
  refine CW.region ?_
  refine WP.bx .n rfl fun b1 => ?_
  refine WP.al .n z31_C fun b2 => ?_
  refine WP.nil ?_
  refine QE.next ?_
  refine CW.seq ?_
  refine CW.region ?_
  refine WP.s .n (O.fa rfl fld31_1 rfl) ?_
  refine WP.s .n (O.ld rfl (mem_at 1 rfl) (Lens.snd (Lens.id _)) ty29 rfl) ?_
  refine WP.s .n (O.fn fn152 (evs.c rfl (evs.c rfl evs.nil)) (c_ref02_made false y.2)) ?_
  refine WP.t .n (O.stW (l := kC) (u := ival (false, y.2)) 0 rfl rfl rfl ty31 rfl (VP.le_refl _)) ?_
  refine WP.nil ?_
  refine QE.next ?_
  refine CW.ret ?_
  refine ST.obtold 0 rfl (OB.box_eq (y := (z.natAbs : Int)) (by rw [← y_v, ival_abs]; rfl)) ?_
  exact QE.done (.inl rfl) rfl (ResOk.c rfl (mem_at 0 rfl) ty31 ResOk.nil) (OImp.sub (List.nil_sublist _)) ⟨rfl, rfl⟩

set_option maxRecDepth 20000 in
set_option maxHeartbeats 1000000 in
theorem c_ref02_Norm (z : Int) : Fn Try.prog 92 [kZ.is z] (kC.is z) := by
  refine Con.enter Try.func92 rfl rfl fun m w => ?_
  refine ST.z 0 rfl fun y y_v y_n y_l => ?_
  refine CW.seq ?_
  refine CW.region ?_
  refine WP.bx .n rfl fun b1 => ?_
  refine WP.al .n z31_C fun b2 => ?_
  refine WP.nil ?_
  refine QE.next ?_
  refine CW.seq ?_
  refine CW.region ?_
  refine WP.s .n (O.fa rfl fld31_0 rfl) ?_
  refine WP.s .n (O.ld rfl (mem_at 1 rfl) (Lens.fst (Lens.id _)) ty4 rfl) ?_
  refine WP.s .n (O.fa rfl fld31_1 rfl) ?_
  refine WP.s .n (O.ld rfl (mem_at 1 rfl) (Lens.snd (Lens.id _)) ty29 rfl) ?_
  refine WP.s .n (O.fn fn152 (evs.c rfl (evs.c rfl evs.nil)) (c_ref02_made y.1 y.2)) ?_
  refine WP.t .n (O.stW (l := kC) (u := ival (y.1, y.2)) 0 rfl rfl rfl ty31 rfl (VP.le_refl _)) ?_
  refine WP.nil ?_
  refine QE.next ?_
  refine CW.ret ?_
  refine ST.obtold 0 rfl (OB.box_eq (y := z) y_v) ?_
  exact QE.done (.inl rfl) rfl (ResOk.c rfl (mem_at 0 rfl) ty31 ResOk.nil) (OImp.sub (List.nil_sublist _)) ⟨rfl, rfl⟩

set_option maxRecDepth 20000 in
set_option maxHeartbeats 1000000 in
theorem c_ref02_Sub (x y : Int) : Fn Try.prog 90 [kZ.is x, kZ.is y] (kC.is (x - y)) := by
  refine Con.enter Try.func90 rfl rfl fun m w => ?_
  refine ST.fact (i := 1) rfl kZ_sm fun hsy => ?_
  refine CW.seq ?_
  refine CW.region ?_
  refine WP.bx .n rfl fun b1 => ?_
  refine WP.bx .n rfl fun b2 => ?_
  refine WP.al .n z31_C fun b3 => ?_
  refine WP.nil ?_
  refine QE.next ?_
  refine CW.seq ?_
  refine CW.draw (Γ := [.fr (kZ.is x), .fr (kZ.is y), .fr (kC.is (-y)), .fr (kC.is (x + (-y)))]) (lates := [false, false, false, false]) (by kernel_rfl) (Chk.of rfl (by kernel_rfl) rfl) (fun _ _ _ _ _ h => h) (fun q_ x_ h_ => ?_) (fun σ => ?_)
  · match q_, h_ with
    | 0, h_ => cases h_; exact Ob.f rfl .n fun N => (O.ld rfl (mem_app N (mem_at 2 rfl)) (Lens.id _) ty31 rfl)
    | 1, h_ => cases h_; exact Ob.f rfl .n fun N => (O.ld rfl (mem_app N (mem_at 1 rfl)) (Lens.id _) ty31 rfl)
    | 2, h_ => cases h_; exact Ob.f rfl .n fun N => (O.fn fn93 (evs.c rfl evs.nil) (c_ref02_Neg y))
    | 3, h_ => cases h_; exact Ob.f rfl .n fun N => (O.fn fn79 (evs.c rfl (evs.l rfl (kC_Z (by first | assumption | exact Sm_neg (by assumption))) evs.nil)) (c_ref02_Add x (-y)))
    | n_ + 4, h_ => simp at h_
  refine WP.t .n (O.stW (l := kC) (u := x + (-y)) 0 rfl rfl rfl ty31 rfl (VP.le_refl _)) ?_
  refine WP.nil ?_
  refine QE.next ?_
  refine CW.ret ?_
  refine ST.obtold 0 rfl (OB.box_eq (y := (x - y)) (Int.sub_eq_add_neg).symm) ?_
  exact QE.done (.inl rfl) rfl (ResOk.c rfl (mem_at 0 rfl) ty31 ResOk.nil) (OImp.sub (List.nil_sublist _)) ⟨rfl, rfl⟩

set_option maxRecDepth 20000 in
set_option maxHeartbeats 1000000 in
theorem c_ref02_Mul (x y : Int) : Fn Try.prog 91 [kZ.is x, kZ.is y] (kC.is (x * y)) := by
  refine Con.enter Try.func91 rfl rfl fun m w => ?_
  refine ST.z 0 rfl fun p p_v p_n p_l => ?_
  refine ST.z 1 rfl fun q q_v q_n q_l => ?_
  refine CW.seq ?_
  refine CW.region ?_
  refine WP.bx .n rfl fun b1 => ?_
  refine WP.bx .n rfl fun b2 => ?_
  refine WP.al .n z31_C fun b3 => ?_
  refine WP.nil ?_
  refine QE.next ?_
  refine CW.seq ?_
  refine CW.draw (Γ := [.fr (VP.ex (.pointer (some ⟨b1, 0, none⟩))), .fr (kBool.is p.1), .fr (VP.ex (.pointer (some ⟨b2, 0, none⟩))), .fr (kBool.is q.1), .fr (kBool.is (decide (p.1 ≠ q.1))), .fr (VP.ex (.pointer (some ⟨b1, 1, none⟩))), .fr (kN.is p.2), .fr (VP.ex (.pointer (some ⟨b2, 1, none⟩))), .fr (kN.is q.2), .fr (kN.is (limbs (nval p.2 * nval q.2))), .fr (kC.is (ival ((decide (p.1 ≠ q.1)), (limbs (nval p.2 * nval q.2)))))]) (lates := [false, false, false, false, false, false, false, false, false, false, false]) (by kernel_rfl) (Chk.of rfl (by kernel_rfl) rfl) (fun _ _ _ _ _ h => h) (fun q_ x_ h_ => ?_) (fun σ => ?_)
  · match q_, h_ with
    | 0, h_ => cases h_; exact Ob.f rfl .n fun N => (O.fa rfl fld31_0 rfl)
    | 1, h_ => cases h_; exact Ob.f rfl .n fun N => (O.ld rfl (mem_app N (mem_at 2 rfl)) (Lens.fst (Lens.id _)) ty4 rfl)
    | 2, h_ => cases h_; exact Ob.f rfl .n fun N => (O.fa rfl fld31_0 rfl)
    | 3, h_ => cases h_; exact Ob.f rfl .n fun N => (O.ld rfl (mem_app N (mem_at 1 rfl)) (Lens.fst (Lens.id _)) ty4 rfl)
    | 4, h_ => cases h_; exact Ob.f rfl .n fun N => (O.neB rfl rfl Try.underlying4)
    | 5, h_ => cases h_; exact Ob.f rfl .n fun N => (O.fa rfl fld31_1 rfl)
    | 6, h_ => cases h_; exact Ob.f rfl .n fun N => (O.ld rfl (mem_app N (mem_at 2 rfl)) (Lens.snd (Lens.id _)) ty29 rfl)
    | 7, h_ => cases h_; exact Ob.f rfl .n fun N => (O.fa rfl fld31_1 rfl)
    | 8, h_ => cases h_; exact Ob.f rfl .n fun N => (O.ld rfl (mem_app N (mem_at 1 rfl)) (Lens.snd (Lens.id _)) ty29 rfl)
    | 9, h_ => cases h_; exact Ob.f rfl .n fun N => (O.fn fn163 (evs.c rfl (evs.c rfl evs.nil)) (c_ref01_Mul p.2 q.2 (by omega)))
    | 10, h_ => cases h_; exact Ob.f rfl .n fun N => (O.fn fn152 (evs.c rfl (evs.c rfl evs.nil)) (c_ref02_made (decide (p.1 ≠ q.1)) (limbs (nval p.2 * nval q.2))))
    | n_ + 11, h_ => simp at h_
  refine WP.t .n (O.stW (l := kC) (u := ival ((decide (p.1 ≠ q.1)), (limbs (nval p.2 * nval q.2)))) 0 rfl rfl rfl ty31 rfl (VP.le_refl _)) ?_
  refine WP.nil ?_
  refine QE.next ?_
  refine CW.ret ?_
  refine ST.obtold 0 rfl (OB.box_eq (y := (x * y)) (by rw [← p_v, ← q_v]; exact ival_mul)) ?_
  exact QE.done (.inl rfl) rfl (ResOk.c rfl (mem_at 0 rfl) ty31 ResOk.nil) (OImp.sub (List.nil_sublist _)) ⟨rfl, rfl⟩

set_option maxRecDepth 20000 in
set_option maxHeartbeats 1000000 in
theorem c_ref02_Cmp (x y : Int) (hS : Sm (x - y)) : Fn Try.prog 88 [kZ.is x, kZ.is y] ((kInt .i64).is ((x - y).sign)) := by
  refine Con.enter Try.func88 rfl rfl fun m w => ?_
  refine CW.seq ?_
  refine CW.region ?_
  refine WP.bx .n rfl fun b1 => ?_
  refine WP.bx .n rfl fun b2 => ?_
  refine WP.s .n (O.asg rfl) ?_
  refine WP.nil ?_
  refine QE.next ?_
  refine CW.seq ?_
  refine CW.region ?_
  refine WP.s .n (O.ld rfl (mem_at 1 rfl) (Lens.id _) ty31 rfl) ?_
  refine WP.s .n (O.ld rfl (mem_at 0 rfl) (Lens.id _) ty31 rfl) ?_
  refine WP.s .n (O.fn fn90 (evs.c rfl (evs.c rfl evs.nil)) (c_ref02_Sub x y)) ?_
  refine WP.s .n (O.fn fn83 (evs.l rfl (kC_Z (by assumption)) evs.nil) (c_ref02_Sign (x - y))) ?_
  refine WP.s .n (O.asg rfl) ?_
  refine WP.nil ?_
  refine QE.next ?_
  refine CW.ret ?_
  exact QE.done (.inl rfl) rfl (ResOk.t rfl ResOk.nil) (OImp.sub (List.nil_sublist _)) ⟨rfl, rfl⟩

set_option maxRecDepth 20000 in
set_option maxHeartbeats 1000000 in
theorem c_ref02_Sum (xs : List Int) (hS : ∀ i, i ≤ xs.length → Sm ((xs.take i).sum)) : Fn Try.prog 103 [(kSl kZ).is xs] (kC.is xs.sum) := by
  refine Con.enter Try.func103 rfl rfl fun m w => ?_
  refine ST.fact (i := 0) rfl sl_len fun hB => ?_
  refine CW.seq ?_
  refine CW.region ?_
  refine WP.al .n z31_C fun b1 => ?_
  refine WP.nil ?_
  refine QE.next ?_
  refine CW.seq ?_
  refine CW.region ?_
  refine WP.s .n (O.fn fn78 (evs.l rfl (i64_int (by omega)) evs.nil) (c_ref02_Of 0)) ?_
  refine WP.al .n z31_C fun b2 => ?_
  refine WP.t .n (O.stW (l := kC) (u := 0) 0 rfl rfl rfl ty31 rfl (VP.le_refl _)) ?_
  refine WP.nil ?_
  refine QE.next ?_
  refine CW.seq ?_
  refine CW.seq ?_
  refine CW.region ?_
  refine WP.s .n (O.asg rfl) ?_
  refine WP.nil ?_
  refine QE.next ?_
  refine CW.block ?_
  refine CW.loop (fun (i : Nat) => i ≤ xs.length) (fun (i : Nat) => [(0, (kSl kZ).is xs), (2, VP.ex (.pointer (some ⟨b1, 0, none⟩))), (3, VP.ex (.pointer (some ⟨b2, 0, none⟩))), (4, (kInt .i64).is (i : Int))]) (fun (i : Nat) => [OB.box b2 31 kC ((xs.take i).sum), OB.box b1 31 kC 0]) (fun (i : Nat) => xs.length - i) 0 (by omega) (Imp.cons rfl (Imp.cons rfl (Imp.cons rfl (Imp.consLe rfl (is_eq (y := (0 : Int)) (by first | omega | assumption | rfl | simp)) Imp.nil)))) (OImp.os (OS.keepLe (OB.box_eq (by first | omega | assumption | rfl | simp)) (OS.keep OS.nil))) ?_
  intro i hi
  have hSm := hS i hi
  refine CW.seq ?_
  refine CW.seq ?_
  refine CW.region ?_
  refine WP.s .n (O.mv rfl) ?_
  refine WP.s .n (O.mv rfl) ?_
  refine WP.s .n (O.lenS rfl Try.underlying27) ?_
  refine WP.s .n (O.lt rfl rfl) ?_
  refine WP.nil ?_
  refine QE.next ?_
  refine CW.condD rfl (fun h_t9 => ?_) (fun h_t9 => ?_)
  · refine CW.skip ?_
    refine QE.next ?_
    refine CW.seq ?_
    refine CW.block ?_
    refine CW.draw (Γ := [.fr (kC.is ((xs.take i).sum)), .fr ((kSl kZ).is xs), .fr ((kInt .i64).is (i : Int)), .fr (VP.pim kZ (xs.getD i 0)), .fr (kZ.is (xs.getD i 0)), .fr (kC.is (((xs.take i).sum) + (xs.getD i 0)))]) (lates := [false, false, false, false, false, false]) (by kernel_rfl) (Chk.of rfl (by kernel_rfl) rfl) (fun _ _ _ _ _ h => h) (fun q_ x_ h_ => ?_) (fun σ => ?_)
    · match q_, h_ with
      | 0, h_ => cases h_; exact Ob.f rfl .n fun N => (O.ld rfl (mem_app N (mem_at 0 rfl)) (Lens.id _) ty31 rfl)
      | 1, h_ => cases h_; exact Ob.f rfl .n fun N => (O.mv rfl)
      | 2, h_ => cases h_; exact Ob.f rfl .n fun N => (O.mv rfl)
      | 3, h_ => cases h_; exact Ob.f rfl .n fun N => (O.ix i rfl rfl Try.underlying27 ty31 rfl (v := (xs.getD i 0)) (gd 0 (by omega)))
      | 4, h_ => cases h_; exact Ob.f rfl .n fun N => (O.ldP rfl ty31)
      | 5, h_ => cases h_; exact Ob.f rfl .n fun N => (O.fn fn79 (evs.l rfl (kC_Z (by assumption)) (evs.c rfl evs.nil)) (c_ref02_Add ((xs.take i).sum) (xs.getD i 0)))
      | n_ + 6, h_ => simp at h_
    refine WP.t .n (O.stW (l := kC) (u := ((xs.take i).sum) + (xs.getD i 0)) 0 rfl rfl rfl ty31 rfl (VP.le_refl _)) ?_
    refine WP.nil ?_
    refine QE.blkN ?_
    refine QE.next ?_
    refine CW.region ?_
    refine WP.s .n (O.mv rfl) ?_
    refine WP.s .n (O.add rfl rfl (c := ((i : Int) + 1)) (w64 (by omega))) ?_
    refine WP.s .n (O.asg rfl) ?_
    refine WP.nil ?_
    refine ST.obtold 0 rfl (OB.box_eq (y := ((xs.take (i + 1)).sum)) (by rw [← take_app (d := 0) (show i < xs.length by omega), List.sum_append]; simp)) ?_
    exact QE.round (i + 1) (by omega) (by omega) (Imp.cons rfl (Imp.cons rfl (Imp.cons rfl (Imp.consLe rfl (is_eq (y := (((i + 1) : Nat) : Int)) (by first | omega | assumption | rfl | simp)) Imp.nil)))) (OImp.refl _)
  · refine CW.exit ?_
    refine QE.thenE ?_
    refine QE.thenE ?_
    refine QE.blkH ?_
    refine QE.next ?_
    refine CW.seq ?_
    refine CW.region ?_
    refine WP.s .n (O.ld rfl (mem_at 0 rfl) (Lens.id _) ty31 rfl) ?_
    refine WP.t .n (O.stW (l := kC) (u := ((xs.take i).sum)) 1 rfl rfl rfl ty31 rfl (VP.le_refl _)) ?_
    refine WP.nil ?_
    refine QE.next ?_
    refine CW.ret ?_
    refine ST.obtold 1 rfl (OB.box_eq (y := (xs.sum)) (by rw [List.take_of_length_le (by omega)])) ?_
    exact QE.done (.inl rfl) rfl (ResOk.cl rfl (mem_at 1 rfl) ty31 (is_eq (y := xs.sum) (by first | omega | assumption | rfl | simp)) ResOk.nil) (OImp.sub (List.nil_sublist _)) ⟨rfl, rfl⟩

end Fw
