/- Proved: KnapKeys, for every input of bulk at most 1048576; no other condition. -/
import Derived.Test.YtgbafijcklgajaaCKnapKeysD
/- Euclid with cofactors. -/
set_option linter.unusedVariables false
set_option linter.unusedSimpArgs false
set_option exponentiation.threshold 400
namespace Fw
open Go Go.Proofs

set_option maxRecDepth 20000 in
set_option maxHeartbeats 4000000 in
theorem c_zint_Bezout (a b : Int) (ha0 : 0 ≤ a) (hb0 : 0 < b) (ha : Sq a) (hb : Sq b) : Fn Try.prog 106 [kZ.is a, kZ.is b] (VP.tup [kC.is (Int.gcd a b : Int), kC.is (bezX a b), kC.is (bezY a b)]) := by
  refine Con.enter Try.func106 rfl rfl fun m w => ?_
  refine CW.seq ?_
  refine CW.region ?_
  refine WP.bx .n rfl fun b1 => ?_
  refine WP.bx .n rfl fun b2 => ?_
  refine WP.al .n z31_C fun b3 => ?_
  refine WP.al .n z31_C fun b4 => ?_
  refine WP.al .n z31_C fun b5 => ?_
  refine WP.nil ?_
  refine QE.next ?_
  refine CW.seq ?_
  refine CW.seq ?_
  refine CW.region ?_
  refine WP.s .n (O.ld rfl (mem_at 3 rfl) (Lens.id _) ty31 rfl) ?_
  refine WP.s .n (O.fn fn80 (evs.c rfl evs.nil) (c_zint_Sign b)) ?_
  refine WP.s .n (O.eq rfl rfl) ?_
  refine WP.nil ?_
  refine QE.next ?_
  refine CW.condD rfl (fun h => absurd h (sgn_ne0 hb0)) (fun h_t22 => ?_)
  refine CW.skip ?_
  refine QE.next ?_
  refine CW.seq ?_
  refine CW.draw (Γ := [.fr (kZ.is a), .fr (kC.is a), .fr (kZ.is b), .fr (kC.is b), .al (fun b => OB.box b 31 kC 0), .al (fun b => OB.box b 31 kC 0)]) (lates := [false, false, false, false, false, false]) (by kernel_rfl) (Chk.of rfl (by kernel_rfl) rfl) (fun _ _ _ _ _ h => h) (fun q_ x_ h_ => ?_) (fun σ1 => ?_)
  · match q_, h_ with
    | 0, h_ => cases h_; exact Ob.f rfl .n fun N => (O.ld rfl (mem_app N (mem_at 4 rfl)) (Lens.id _) ty31 rfl)
    | 1, h_ => cases h_; exact Ob.f rfl .n fun N => (O.fn fn146 (evs.c rfl evs.nil) (c_zint_Form a))
    | 2, h_ => cases h_; exact Ob.f rfl .n fun N => (O.ld rfl (mem_app N (mem_at 3 rfl)) (Lens.id _) ty31 rfl)
    | 3, h_ => cases h_; exact Ob.f rfl .n fun N => (O.fn fn146 (evs.c rfl evs.nil) (c_zint_Form b))
    | 4, h_ => cases h_; exact Ob.a rfl z31_C
    | 5, h_ => cases h_; exact Ob.a rfl z31_C
    | n_ + 6, h_ => simp at h_
  refine WP.t .n (O.stW (l := kC) (u := a) 0 rfl rfl rfl ty31 rfl (VP.le_refl _)) ?_
  refine WP.t .n (O.stW (l := kC) (u := b) 1 rfl rfl rfl ty31 rfl (VP.le_refl _)) ?_
  refine WP.nil ?_
  refine QE.next ?_
  refine CW.seq ?_
  refine CW.region ?_
  refine WP.s .n (O.fn fn74 (evs.l rfl (i64_int (by omega)) evs.nil) (c_zint_Of 1)) ?_
  refine WP.s .n (O.bld lit31_C rfl evp.n (.nil _)) ?_
  refine WP.al .n z31_C fun b6 => ?_
  refine WP.al .n z31_C fun b7 => ?_
  refine WP.t .n (O.stW (l := kC) (u := 1) 1 rfl rfl rfl ty31 rfl (VP.le_refl _)) ?_
  refine WP.t .n (O.stW (l := kC) (u := 0) 0 rfl rfl rfl ty31 rfl (VP.le_refl _)) ?_
  refine WP.nil ?_
  refine QE.next ?_
  refine CW.seq ?_
  refine CW.block ?_
  refine CW.loop4 (fun (r : Int) (s : Int) (x : Int) (u : Int) => BzR a b r s x u) (fun (r : Int) (s : Int) (x : Int) (u : Int) => [(2, VP.ex (.pointer (some ⟨b1, 0, none⟩))), (3, VP.ex (.pointer (some ⟨b2, 0, none⟩))), (4, VP.ex (.pointer (some ⟨b3, 0, none⟩))), (5, VP.ex (.pointer (some ⟨b4, 0, none⟩))), (6, VP.ex (.pointer (some ⟨b5, 0, none⟩))), (7, VP.ex (.pointer (some ⟨(σ1 4), 0, none⟩))), (8, VP.ex (.pointer (some ⟨(σ1 5), 0, none⟩))), (9, VP.ex (.pointer (some ⟨b6, 0, none⟩))), (10, VP.ex (.pointer (some ⟨b7, 0, none⟩)))]) (fun (r : Int) (s : Int) (x : Int) (u : Int) => [OB.box b7 31 kC u, OB.box b6 31 kC x, OB.box (σ1 4) 31 kC r, OB.box (σ1 5) 31 kC s, OB.box b5 31 kC 0, OB.box b4 31 kC 0, OB.box b3 31 kC 0, OB.box b2 31 kZ b, OB.box b1 31 kZ a]) (fun (r : Int) (s : Int) (x : Int) (u : Int) => s.natAbs) a b 1 0 (bzR_0 ha0 hb0) (Imp.cons rfl (Imp.cons rfl (Imp.cons rfl (Imp.cons rfl (Imp.cons rfl (Imp.cons rfl (Imp.cons rfl (Imp.cons rfl (Imp.cons rfl Imp.nil))))))))) (OImp.refl _) ?_
  intro r s x u hZ
  obtain ⟨hsr, hss, hsx, hsu⟩ := bz_sm ha hb hZ
  refine CW.seq ?_
  refine CW.seq ?_
  refine CW.region ?_
  refine WP.s .n (O.ld rfl (mem_at 3 rfl) (Lens.id _) ty31 rfl) ?_
  refine WP.s .n (O.fn fn80 (evs.l rfl (kC_Z hss) evs.nil) (c_zint_Sign s)) ?_
  refine WP.s .n (O.ne rfl rfl) ?_
  refine WP.nil ?_
  refine QE.next ?_
  refine CW.condD rfl (fun h_t37 => ?_) (fun h_t37 => ?_)
  · have hs0 := sgn_s0 h_t37
    obtain ⟨hsd, hsf, hsq⟩ := bz_smq ha hb hs0 hZ
    refine CW.skip ?_
    refine QE.next ?_
    refine CW.block ?_
    refine CW.seq ?_
    refine CW.region ?_
    refine WP.s .n (O.ld rfl (mem_at 2 rfl) (Lens.id _) ty31 rfl) ?_
    refine WP.s .n (O.ld rfl (mem_at 3 rfl) (Lens.id _) ty31 rfl) ?_
    refine WP.s .n (O.fn fn105 (evs.l rfl (kC_Z hsr) (evs.l rfl (kC_Z hss) evs.nil)) (c_zint_Floor r s)) ?_
    refine WP.s .n (O.mv rfl) ?_
    refine WP.s .n (O.ext rfl rfl) ?_
    refine WP.s .n (O.ext rfl rfl) ?_
    refine WP.s .n (O.ext rfl rfl) ?_
    refine WP.al .n z31_C fun b8 => ?_
    refine WP.al .n z31_C fun b9 => ?_
    refine WP.t .n (O.stW (l := kC) (u := r.fdiv s) 1 rfl rfl rfl ty31 rfl (VP.le_refl _)) ?_
    refine WP.t .n (O.stW (l := kC) (u := if s = 0 then 0 else r.fmod s) 0 rfl rfl rfl ty31 rfl (VP.le_refl _)) ?_
    refine WP.s .n (O.asg rfl) ?_
    refine WP.nil ?_
    refine QE.next ?_
    refine CW.seq ?_
    refine CW.join [(2, VP.ex (.pointer (some ⟨b1, 0, none⟩))), (3, VP.ex (.pointer (some ⟨b2, 0, none⟩))), (4, VP.ex (.pointer (some ⟨b3, 0, none⟩))), (5, VP.ex (.pointer (some ⟨b4, 0, none⟩))), (6, VP.ex (.pointer (some ⟨b5, 0, none⟩))), (7, VP.ex (.pointer (some ⟨(σ1 4), 0, none⟩))), (8, VP.ex (.pointer (some ⟨(σ1 5), 0, none⟩))), (9, VP.ex (.pointer (some ⟨b6, 0, none⟩))), (10, VP.ex (.pointer (some ⟨b7, 0, none⟩))), (11, VP.ex (.pointer (some ⟨b8, 0, none⟩))), (12, VP.ex (.pointer (some ⟨b9, 0, none⟩))), (13, (kInt .i64).is (if s = 0 then 11 else 0)), (35, kC.is s), (36, (kInt .i64).is s.sign), (37, kBool.is (decide (s.sign ≠ 0))), (38, VP.tup [kC.is (r.fdiv s), kC.is (if s = 0 then 0 else r.fmod s), (kInt .i64).is (if s = 0 then 11 else 0)]), (39, kC.is r), (40, kC.is s), (41, VP.tup [kC.is (r.fdiv s), kC.is (if s = 0 then 0 else r.fmod s), (kInt .i64).is (if s = 0 then 11 else 0)]), (42, kC.is (r.fdiv s)), (43, kC.is (if s = 0 then 0 else r.fmod s)), (44, (kInt .i64).is (if s = 0 then 11 else 0)), (45, kC.is s), (46, kC.is (if s = 0 then 0 else r.fmod s))] [OB.box b9 31 kC (if s = 0 then 0 else r.fmod s), OB.box b8 31 kC (r.fdiv s), OB.box b7 31 kC u, OB.box b6 31 kC x, OB.box (σ1 4) 31 kC s, OB.box (σ1 5) 31 kC (if s = 0 then 0 else r.fmod s), OB.box b5 31 kC 0, OB.box b4 31 kC 0, OB.box b3 31 kC 0, OB.box b2 31 kZ b, OB.box b1 31 kZ a] ?_ ?_
    · refine CW.any (by kernel_rfl) ?_
      refine DA.go 0 [1] (by kernel_rfl) ⟨?_, ⟨?_, trivial⟩⟩
      · refine DO.w rfl ?_
        refine WP.s .n (O.ld rfl (mem_at 5 rfl) (Lens.id _) ty31 rfl) ?_
        refine WP.nil ?_
        refine DO.nx ?_
        refine DA.go 1 [2] (by kernel_rfl) ⟨?_, ⟨?_, trivial⟩⟩
        · refine DO.w rfl ?_
          refine WP.s .n (O.ld rfl (mem_at 0 rfl) (Lens.id _) ty31 rfl) ?_
          refine WP.nil ?_
          refine DO.nx ?_
          refine DA.go 2 [] (by kernel_rfl) ⟨?_, trivial⟩
          refine DO.w rfl ?_
          refine WP.t .n (O.stW (l := kC) (u := s) 4 rfl rfl rfl ty31 rfl (VP.le_refl _)) ?_
          refine WP.nil ?_
          refine DO.nx ?_
          refine DA.go 3 [] (by kernel_rfl) ⟨?_, trivial⟩
          refine DO.w rfl ?_
          refine WP.t .n (O.stW (l := kC) (u := if s = 0 then 0 else r.fmod s) 5 rfl rfl rfl ty31 rfl (VP.le_refl _)) ?_
          refine WP.nil ?_
          refine DO.nx ?_
          refine DA.nil (by kernel_rfl) ?_
          exact QE.join (Imp.cons rfl (Imp.cons rfl (Imp.cons rfl (Imp.cons rfl (Imp.cons rfl (Imp.cons rfl (Imp.cons rfl (Imp.cons rfl (Imp.cons rfl (Imp.cons rfl (Imp.cons rfl (Imp.cons rfl (Imp.cons rfl (Imp.cons rfl (Imp.cons rfl (Imp.cons rfl (Imp.cons rfl (Imp.cons rfl (Imp.cons rfl (Imp.cons rfl (Imp.cons rfl (Imp.cons rfl (Imp.cons rfl (Imp.cons rfl Imp.nil)))))))))))))))))))))))) (OImp.refl _)
        · refine DO.w rfl ?_
          refine WP.t .n (O.stW (l := kC) (u := s) 4 rfl rfl rfl ty31 rfl (VP.le_refl _)) ?_
          refine WP.nil ?_
          refine DO.nx ?_
          refine DA.go 1 [] (by kernel_rfl) ⟨?_, trivial⟩
          refine DO.w rfl ?_
          refine WP.s .n (O.ld rfl (mem_at 0 rfl) (Lens.id _) ty31 rfl) ?_
          refine WP.nil ?_
          refine DO.nx ?_
          refine DA.go 3 [] (by kernel_rfl) ⟨?_, trivial⟩
          refine DO.w rfl ?_
          refine WP.t .n (O.stW (l := kC) (u := if s = 0 then 0 else r.fmod s) 5 rfl rfl rfl ty31 rfl (VP.le_refl _)) ?_
          refine WP.nil ?_
          refine DO.nx ?_
          refine DA.nil (by kernel_rfl) ?_
          exact QE.join (Imp.cons rfl (Imp.cons rfl (Imp.cons rfl (Imp.cons rfl (Imp.cons rfl (Imp.cons rfl (Imp.cons rfl (Imp.cons rfl (Imp.cons rfl (Imp.cons rfl (Imp.cons rfl (Imp.cons rfl (Imp.cons rfl (Imp.cons rfl (Imp.cons rfl (Imp.cons rfl (Imp.cons rfl (Imp.cons rfl (Imp.cons rfl (Imp.cons rfl (Imp.cons rfl (Imp.cons rfl (Imp.cons rfl (Imp.cons rfl Imp.nil)))))))))))))))))))))))) (OImp.refl _)
      · refine DO.w rfl ?_
        refine WP.s .n (O.ld rfl (mem_at 0 rfl) (Lens.id _) ty31 rfl) ?_
        refine WP.nil ?_
        refine DO.nx ?_
        refine DA.go 0 [] (by kernel_rfl) ⟨?_, trivial⟩
        refine DO.w rfl ?_
        refine WP.s .n (O.ld rfl (mem_at 5 rfl) (Lens.id _) ty31 rfl) ?_
        refine WP.nil ?_
        refine DO.nx ?_
        refine DA.go 2 [] (by kernel_rfl) ⟨?_, trivial⟩
        refine DO.w rfl ?_
        refine WP.t .n (O.stW (l := kC) (u := s) 4 rfl rfl rfl ty31 rfl (VP.le_refl _)) ?_
        refine WP.nil ?_
        refine DO.nx ?_
        refine DA.go 3 [] (by kernel_rfl) ⟨?_, trivial⟩
        refine DO.w rfl ?_
        refine WP.t .n (O.stW (l := kC) (u := if s = 0 then 0 else r.fmod s) 5 rfl rfl rfl ty31 rfl (VP.le_refl _)) ?_
        refine WP.nil ?_
        refine DO.nx ?_
        refine DA.nil (by kernel_rfl) ?_
        exact QE.join (Imp.cons rfl (Imp.cons rfl (Imp.cons rfl (Imp.cons rfl (Imp.cons rfl (Imp.cons rfl (Imp.cons rfl (Imp.cons rfl (Imp.cons rfl (Imp.cons rfl (Imp.cons rfl (Imp.cons rfl (Imp.cons rfl (Imp.cons rfl (Imp.cons rfl (Imp.cons rfl (Imp.cons rfl (Imp.cons rfl (Imp.cons rfl (Imp.cons rfl (Imp.cons rfl (Imp.cons rfl (Imp.cons rfl (Imp.cons rfl Imp.nil)))))))))))))))))))))))) (OImp.refl _)
    refine QE.next ?_
    refine CW.draw (Γ := [.fr (kC.is u), .fr (kC.is x), .fr (kC.is (r.fdiv s)), .fr (kC.is u), .fr (kC.is ((r.fdiv s) * u)), .fr (kC.is (x - ((r.fdiv s) * u)))]) (lates := [false, false, false, false, false, false]) (by kernel_rfl) (Chk.of rfl (by kernel_rfl) rfl) (fun _ _ _ _ _ h => h) (fun q_ x_ h_ => ?_) (fun σ3 => ?_)
    · match q_, h_ with
      | 0, h_ => cases h_; exact Ob.f rfl .n fun N => (O.ld rfl (mem_app N (mem_at 2 rfl)) (Lens.id _) ty31 rfl)
      | 1, h_ => cases h_; exact Ob.f rfl .n fun N => (O.ld rfl (mem_app N (mem_at 3 rfl)) (Lens.id _) ty31 rfl)
      | 2, h_ => cases h_; exact Ob.f rfl .n fun N => (O.ld rfl (mem_app N (mem_at 1 rfl)) (Lens.id _) ty31 rfl)
      | 3, h_ => cases h_; exact Ob.f rfl .n fun N => (O.ld rfl (mem_app N (mem_at 2 rfl)) (Lens.id _) ty31 rfl)
      | 4, h_ => cases h_; exact Ob.f rfl .n fun N => (O.fn fn76 (evs.l rfl (kC_Z hsd) (evs.l rfl (kC_Z hsu) evs.nil)) (c_zint_Mul (r.fdiv s) u))
      | 5, h_ => cases h_; exact Ob.f rfl .n fun N => (O.fn fn157 (evs.l rfl (kC_Z hsx) (evs.l rfl (kC_Z hsq) evs.nil)) (c_zint_Sub x ((r.fdiv s) * u)))
      | n_ + 6, h_ => simp at h_
    refine WP.t .n (O.stW (l := kC) (u := u) 3 rfl rfl rfl ty31 rfl (VP.le_refl _)) ?_
    refine WP.t .n (O.stW (l := kC) (u := x - ((r.fdiv s) * u)) 2 rfl rfl rfl ty31 rfl (VP.le_refl _)) ?_
    refine WP.nil ?_
    refine QE.blkN ?_
    refine ST.obtold 5 rfl (OB.box_eq (y := (r.fmod s)) (if_neg hs0)) ?_
    exact QE.round4 s (r.fmod s) u (x - r.fdiv s * u) (by exact fmod_abs hs0) (bzR_s hs0 hZ).1 (Imp.cons rfl (Imp.cons rfl (Imp.cons rfl (Imp.cons rfl (Imp.cons rfl (Imp.cons rfl (Imp.cons rfl (Imp.cons rfl (Imp.cons rfl Imp.nil))))))))) (OImp.os (OS.skip (OS.skip (OS.keepLe (OB.box_eq (by first | rfl | assumption)) (OS.keep (OS.keep (OS.keep (OS.keep (OS.keep (OS.keep (OS.keep (OS.keep OS.nil))))))))))))
  · have hs0 := sgn_n0 h_t37
    have hE := bzR_end hs0 hZ
    obtain ⟨hg1, hg2, hg3, hg4, hg5, hg6⟩ := bz_sme ha0 hb0 ha hb
    refine CW.exit ?_
    refine QE.thenE ?_
    refine QE.thenE ?_
    refine QE.blkH ?_
    refine QE.next ?_
    refine CW.seq ?_
    refine CW.seq ?_
    refine CW.region ?_
    refine WP.s .n (O.ld rfl (mem_at 2 rfl) (Lens.id _) ty31 rfl) ?_
    refine WP.s .n (O.fn fn80 (evs.l rfl (kC_Z hsr) evs.nil) (c_zint_Sign r)) ?_
    refine WP.s .n (O.lt rfl rfl) ?_
    refine WP.nil ?_
    refine QE.next ?_
    refine CW.condD rfl (fun h => absurd h (nn_sgn hZ.2.2.1)) (fun h_t55 => ?_)
    refine CW.skip ?_
    refine QE.next ?_
    refine CW.seq ?_
    refine ST.obtold 2 rfl (OB.box_eq (y := ((Int.gcd a b : Nat) : Int)) hE.1) ?_
    refine CW.draw (Γ := [.fr (kZ.is b), .fr (kC.is (b.natAbs : Int)), .fr (kC.is ((Int.gcd a b : Nat) : Int)), .fr (VP.tup [kC.is ((b.natAbs : Int).fdiv ((Int.gcd a b : Nat) : Int)), kC.is (if ((Int.gcd a b : Nat) : Int) = 0 then 0 else (b.natAbs : Int).fmod ((Int.gcd a b : Nat) : Int)), (kInt .i64).is (if ((Int.gcd a b : Nat) : Int) = 0 then 11 else 0)]), .fr (VP.tup [kC.is ((b.natAbs : Int).fdiv ((Int.gcd a b : Nat) : Int)), kC.is (if ((Int.gcd a b : Nat) : Int) = 0 then 0 else (b.natAbs : Int).fmod ((Int.gcd a b : Nat) : Int)), (kInt .i64).is (if ((Int.gcd a b : Nat) : Int) = 0 then 11 else 0)]), .fr (kC.is ((b.natAbs : Int).fdiv ((Int.gcd a b : Nat) : Int))), .lt (kC.is (if ((Int.gcd a b : Nat) : Int) = 0 then 0 else (b.natAbs : Int).fmod ((Int.gcd a b : Nat) : Int))), .lt ((kInt .i64).is (if ((Int.gcd a b : Nat) : Int) = 0 then 11 else 0)), .al (fun b => OB.box b 31 kC 0), .al (fun b => OB.box b 31 kC 0)]) (lates := [false, false, false, false, false, false, true, true, false, false]) (by kernel_rfl) (Chk.of rfl (by kernel_rfl) rfl) (fun _ _ _ _ _ h => h) (fun q_ x_ h_ => ?_) (fun σ4 => ?_)
    · match q_, h_ with
      | 0, h_ => cases h_; exact Ob.f rfl .n fun N => (O.ld rfl (mem_app N (mem_at 7 rfl)) (Lens.id _) ty31 rfl)
      | 1, h_ => cases h_; exact Ob.f rfl .n fun N => (O.fn fn170 (evs.c rfl evs.nil) (c_zint_Abs b))
      | 2, h_ => cases h_; exact Ob.f rfl .n fun N => (O.ld rfl (mem_app N (mem_at 2 rfl)) (Lens.id _) ty31 rfl)
      | 3, h_ => cases h_; exact Ob.f rfl .n fun N => (O.fn fn105 (evs.l rfl (kC_Z hg6) (evs.l rfl (kC_Z hg1) evs.nil)) (c_zint_Floor (b.natAbs : Int) ((Int.gcd a b : Nat) : Int)))
      | 4, h_ => cases h_; exact Ob.f rfl .n fun N => (O.mv rfl)
      | 5, h_ => cases h_; exact Ob.f rfl .n fun N => (O.ext rfl rfl)
      | 6, h_ => cases h_; exact Ob.l rfl .n (OV.ext rfl rfl)
      | 7, h_ => cases h_; exact Ob.l rfl .n (OV.ext rfl rfl)
      | 8, h_ => cases h_; exact Ob.a rfl z31_C
      | 9, h_ => cases h_; exact Ob.a rfl z31_C
      | n_ + 10, h_ => simp at h_
    refine WP.t .n (O.stW (l := kC) (u := (b.natAbs : Int).fdiv ((Int.gcd a b : Nat) : Int)) 0 rfl rfl rfl ty31 rfl (VP.le_refl _)) ?_
    refine WP.t .n (O.stW (l := kC) (u := if ((Int.gcd a b : Nat) : Int) = 0 then 0 else (b.natAbs : Int).fmod ((Int.gcd a b : Nat) : Int)) 1 rfl rfl rfl ty31 rfl (VP.le_refl _)) ?_
    refine WP.s .n (O.asg rfl) ?_
    refine WP.nil ?_
    refine QE.next ?_
    refine CW.seq ?_
    refine ST.obtold 0 rfl (OB.box_eq (y := (b.fdiv (Int.gcd a b))) (by rw [abs_pos hb0])) ?_
    refine CW.region ?_
    refine WP.s .n (O.ld rfl (mem_at 3 rfl) (Lens.id _) ty31 rfl) ?_
    refine WP.s .n (O.ld rfl (mem_at 0 rfl) (Lens.id _) ty31 rfl) ?_
    refine WP.s .n (O.fn fn105 (evs.l rfl (kC_Z hsx) (evs.l rfl (kC_Z hg2) evs.nil)) (c_zint_Floor x (b.fdiv (Int.gcd a b)))) ?_
    refine WP.s .n (O.mv rfl) ?_
    refine WP.s .n (O.ext rfl rfl) ?_
    refine WP.s .n (O.ext rfl rfl) ?_
    refine WP.s .n (O.ext rfl rfl) ?_
    refine WP.t .n (O.stW (l := kC) (u := if (b.fdiv (Int.gcd a b)) = 0 then 0 else x.fmod (b.fdiv (Int.gcd a b))) 3 rfl rfl rfl ty31 rfl (VP.le_refl _)) ?_
    refine WP.nil ?_
    refine QE.next ?_
    refine CW.seq ?_
    refine ST.obtold 3 rfl (OB.box_eq (y := (bezX a b)) (by rw [if_neg (Int.ne_of_gt (step_pos (a := a) hb0).1)]; unfold bezX; rw [hE.2])) ?_
    refine CW.draw (Γ := [.fr (kC.is ((Int.gcd a b : Nat) : Int)), .fr (kC.is (bezX a b)), .fr (kZ.is a), .fr (kC.is ((bezX a b) * a)), .fr (kC.is (((Int.gcd a b : Nat) : Int) - ((bezX a b) * a))), .fr (kZ.is b), .fr (VP.tup [kC.is ((((Int.gcd a b : Nat) : Int) - ((bezX a b) * a)).fdiv b), kC.is (if b = 0 then 0 else (((Int.gcd a b : Nat) : Int) - ((bezX a b) * a)).fmod b), (kInt .i64).is (if b = 0 then 11 else 0)]), .fr (VP.tup [kC.is ((((Int.gcd a b : Nat) : Int) - ((bezX a b) * a)).fdiv b), kC.is (if b = 0 then 0 else (((Int.gcd a b : Nat) : Int) - ((bezX a b) * a)).fmod b), (kInt .i64).is (if b = 0 then 11 else 0)]), .fr (kC.is ((((Int.gcd a b : Nat) : Int) - ((bezX a b) * a)).fdiv b)), .lt (kC.is (if b = 0 then 0 else (((Int.gcd a b : Nat) : Int) - ((bezX a b) * a)).fmod b)), .lt ((kInt .i64).is (if b = 0 then 11 else 0)), .al (fun b => OB.box b 31 kC 0), .al (fun b => OB.box b 31 kC 0)]) (lates := [false, false, false, false, false, false, false, false, false, true, true, false, false]) (by kernel_rfl) (Chk.of rfl (by kernel_rfl) rfl) (fun _ _ _ _ _ h => h) (fun q_ x_ h_ => ?_) (fun σ5 => ?_)
    · match q_, h_ with
      | 0, h_ => cases h_; exact Ob.f rfl .n fun N => (O.ld rfl (mem_app N (mem_at 4 rfl)) (Lens.id _) ty31 rfl)
      | 1, h_ => cases h_; exact Ob.f rfl .n fun N => (O.ld rfl (mem_app N (mem_at 3 rfl)) (Lens.id _) ty31 rfl)
      | 2, h_ => cases h_; exact Ob.f rfl .n fun N => (O.ld rfl (mem_app N (mem_at 10 rfl)) (Lens.id _) ty31 rfl)
      | 3, h_ => cases h_; exact Ob.f rfl .n fun N => (O.fn fn76 (evs.l rfl (kC_Z hg3) (evs.c rfl evs.nil)) (c_zint_Mul (bezX a b) a))
      | 4, h_ => cases h_; exact Ob.f rfl .n fun N => (O.fn fn157 (evs.l rfl (kC_Z hg1) (evs.l rfl (kC_Z hg4) evs.nil)) (c_zint_Sub ((Int.gcd a b : Nat) : Int) ((bezX a b) * a)))
      | 5, h_ => cases h_; exact Ob.f rfl .n fun N => (O.ld rfl (mem_app N (mem_at 9 rfl)) (Lens.id _) ty31 rfl)
      | 6, h_ => cases h_; exact Ob.f rfl .n fun N => (O.fn fn105 (evs.l rfl (kC_Z hg5) (evs.c rfl evs.nil)) (c_zint_Floor (((Int.gcd a b : Nat) : Int) - ((bezX a b) * a)) b))
      | 7, h_ => cases h_; exact Ob.f rfl .n fun N => (O.mv rfl)
      | 8, h_ => cases h_; exact Ob.f rfl .n fun N => (O.ext rfl rfl)
      | 9, h_ => cases h_; exact Ob.l rfl .n (OV.ext rfl rfl)
      | 10, h_ => cases h_; exact Ob.l rfl .n (OV.ext rfl rfl)
      | 11, h_ => cases h_; exact Ob.a rfl z31_C
      | 12, h_ => cases h_; exact Ob.a rfl z31_C
      | n_ + 13, h_ => simp at h_
    refine WP.t .n (O.stW (l := kC) (u := (((Int.gcd a b : Nat) : Int) - ((bezX a b) * a)).fdiv b) 0 rfl rfl rfl ty31 rfl (VP.le_refl _)) ?_
    refine WP.t .n (O.stW (l := kC) (u := if b = 0 then 0 else (((Int.gcd a b : Nat) : Int) - ((bezX a b) * a)).fmod b) 1 rfl rfl rfl ty31 rfl (VP.le_refl _)) ?_
    refine WP.s .n (O.asg rfl) ?_
    refine WP.nil ?_
    refine QE.next ?_
    refine CW.seq ?_
    refine CW.join [(2, VP.ex (.pointer (some ⟨b1, 0, none⟩))), (3, VP.ex (.pointer (some ⟨b2, 0, none⟩))), (4, VP.ex (.pointer (some ⟨b3, 0, none⟩))), (5, VP.ex (.pointer (some ⟨b4, 0, none⟩))), (6, VP.ex (.pointer (some ⟨b5, 0, none⟩))), (7, VP.ex (.pointer (some ⟨(σ1 4), 0, none⟩))), (8, VP.ex (.pointer (some ⟨(σ1 5), 0, none⟩))), (9, VP.ex (.pointer (some ⟨b6, 0, none⟩))), (10, VP.ex (.pointer (some ⟨b7, 0, none⟩))), (14, VP.ex (.pointer (some ⟨(σ4 8), 0, none⟩))), (15, VP.ex (.pointer (some ⟨(σ4 9), 0, none⟩))), (16, (kInt .i64).is (if ((Int.gcd a b : Nat) : Int) = 0 then 11 else 0)), (17, VP.ex (.pointer (some ⟨(σ5 11), 0, none⟩))), (18, VP.ex (.pointer (some ⟨(σ5 12), 0, none⟩))), (19, (kInt .i64).is (if b = 0 then 11 else 0)), (35, kC.is s), (36, (kInt .i64).is s.sign), (37, kBool.is (decide (s.sign ≠ 0))), (53, kC.is r), (54, (kInt .i64).is r.sign), (55, kBool.is (decide (r.sign < 0))), (60, VP.tup [kC.is ((b.natAbs : Int).fdiv ((Int.gcd a b : Nat) : Int)), kC.is (if ((Int.gcd a b : Nat) : Int) = 0 then 0 else (b.natAbs : Int).fmod ((Int.gcd a b : Nat) : Int)), (kInt .i64).is (if ((Int.gcd a b : Nat) : Int) = 0 then 11 else 0)]), (61, kZ.is b), (62, kC.is (b.natAbs : Int)), (63, kC.is ((Int.gcd a b : Nat) : Int)), (64, VP.tup [kC.is ((b.natAbs : Int).fdiv ((Int.gcd a b : Nat) : Int)), kC.is (if ((Int.gcd a b : Nat) : Int) = 0 then 0 else (b.natAbs : Int).fmod ((Int.gcd a b : Nat) : Int)), (kInt .i64).is (if ((Int.gcd a b : Nat) : Int) = 0 then 11 else 0)]), (65, kC.is ((b.natAbs : Int).fdiv ((Int.gcd a b : Nat) : Int))), (66, kC.is (if ((Int.gcd a b : Nat) : Int) = 0 then 0 else (b.natAbs : Int).fmod ((Int.gcd a b : Nat) : Int))), (67, (kInt .i64).is (if ((Int.gcd a b : Nat) : Int) = 0 then 11 else 0)), (68, VP.tup [kC.is (x.fdiv (b.fdiv (Int.gcd a b))), kC.is (if (b.fdiv (Int.gcd a b)) = 0 then 0 else x.fmod (b.fdiv (Int.gcd a b))), (kInt .i64).is (if (b.fdiv (Int.gcd a b)) = 0 then 11 else 0)]), (69, kC.is x), (70, kC.is (b.fdiv (Int.gcd a b))), (71, VP.tup [kC.is (x.fdiv (b.fdiv (Int.gcd a b))), kC.is (if (b.fdiv (Int.gcd a b)) = 0 then 0 else x.fmod (b.fdiv (Int.gcd a b))), (kInt .i64).is (if (b.fdiv (Int.gcd a b)) = 0 then 11 else 0)]), (72, kC.is (x.fdiv (b.fdiv (Int.gcd a b)))), (73, kC.is (if (b.fdiv (Int.gcd a b)) = 0 then 0 else x.fmod (b.fdiv (Int.gcd a b)))), (74, (kInt .i64).is (if (b.fdiv (Int.gcd a b)) = 0 then 11 else 0)), (75, VP.tup [kC.is ((((Int.gcd a b : Nat) : Int) - ((bezX a b) * a)).fdiv b), kC.is (if b = 0 then 0 else (((Int.gcd a b : Nat) : Int) - ((bezX a b) * a)).fmod b), (kInt .i64).is (if b = 0 then 11 else 0)]), (76, kC.is ((Int.gcd a b : Nat) : Int)), (77, kC.is (bezX a b)), (78, kZ.is a), (79, kC.is ((bezX a b) * a)), (80, kC.is (((Int.gcd a b : Nat) : Int) - ((bezX a b) * a))), (81, kZ.is b), (82, VP.tup [kC.is ((((Int.gcd a b : Nat) : Int) - ((bezX a b) * a)).fdiv b), kC.is (if b = 0 then 0 else (((Int.gcd a b : Nat) : Int) - ((bezX a b) * a)).fmod b), (kInt .i64).is (if b = 0 then 11 else 0)]), (83, kC.is ((((Int.gcd a b : Nat) : Int) - ((bezX a b) * a)).fdiv b)), (84, kC.is (if b = 0 then 0 else (((Int.gcd a b : Nat) : Int) - ((bezX a b) * a)).fmod b)), (85, (kInt .i64).is (if b = 0 then 11 else 0)), (86, kC.is ((Int.gcd a b : Nat) : Int)), (87, kC.is (bezX a b)), (88, kC.is ((((Int.gcd a b : Nat) : Int) - ((bezX a b) * a)).fdiv b))] [OB.box (σ5 11) 31 kC ((((Int.gcd a b : Nat) : Int) - ((bezX a b) * a)).fdiv b), OB.box (σ5 12) 31 kC (if b = 0 then 0 else (((Int.gcd a b : Nat) : Int) - ((bezX a b) * a)).fmod b), OB.box (σ4 8) 31 kC (b.fdiv (Int.gcd a b)), OB.box (σ4 9) 31 kC (if ((Int.gcd a b : Nat) : Int) = 0 then 0 else (b.natAbs : Int).fmod ((Int.gcd a b : Nat) : Int)), OB.box b7 31 kC u, OB.box b6 31 kC (bezX a b), OB.box (σ1 4) 31 kC ((Int.gcd a b : Nat) : Int), OB.box (σ1 5) 31 kC s, OB.box b5 31 kC ((((Int.gcd a b : Nat) : Int) - ((bezX a b) * a)).fdiv b), OB.box b4 31 kC (bezX a b), OB.box b3 31 kC ((Int.gcd a b : Nat) : Int), OB.box b2 31 kZ b, OB.box b1 31 kZ a] ?_ ?_
    · refine CW.any (by kernel_rfl) ?_
      refine DA.go 0 [1, 2] (by kernel_rfl) ⟨?_, ⟨?_, ⟨?_, trivial⟩⟩⟩
      · refine DO.w rfl ?_
        refine WP.s .n (O.ld rfl (mem_at 6 rfl) (Lens.id _) ty31 rfl) ?_
        refine WP.nil ?_
        refine DO.nx ?_
        refine DA.go 1 [2, 3] (by kernel_rfl) ⟨?_, ⟨?_, ⟨?_, trivial⟩⟩⟩
        · refine DO.w rfl ?_
          refine WP.s .n (O.ld rfl (mem_at 5 rfl) (Lens.id _) ty31 rfl) ?_
          refine WP.nil ?_
          refine DO.nx ?_
          refine DA.go 2 [3] (by kernel_rfl) ⟨?_, ⟨?_, trivial⟩⟩
          · refine DO.w rfl ?_
            refine WP.s .n (O.ld rfl (mem_at 0 rfl) (Lens.id _) ty31 rfl) ?_
            refine WP.nil ?_
            refine DO.nx ?_
            refine DA.go 3 [] (by kernel_rfl) ⟨?_, trivial⟩
            refine DO.w rfl ?_
            refine WP.t .n (O.stW (l := kC) (u := ((Int.gcd a b : Nat) : Int)) 10 rfl rfl rfl ty31 rfl (VP.le_refl _)) ?_
            refine WP.nil ?_
            refine DO.nx ?_
            refine DA.go 4 [] (by kernel_rfl) ⟨?_, trivial⟩
            refine DO.w rfl ?_
            refine WP.t .n (O.stW (l := kC) (u := (bezX a b)) 9 rfl rfl rfl ty31 rfl (VP.le_refl _)) ?_
            refine WP.nil ?_
            refine DO.nx ?_
            refine DA.go 5 [] (by kernel_rfl) ⟨?_, trivial⟩
            refine DO.w rfl ?_
            refine WP.t .n (O.stW (l := kC) (u := (((Int.gcd a b : Nat) : Int) - ((bezX a b) * a)).fdiv b) 8 rfl rfl rfl ty31 rfl (VP.le_refl _)) ?_
            refine WP.nil ?_
            refine DO.nx ?_
            refine DA.nil (by kernel_rfl) ?_
            exact QE.join (Imp.cons rfl (Imp.cons rfl (Imp.cons rfl (Imp.cons rfl (Imp.cons rfl (Imp.cons rfl (Imp.cons rfl (Imp.cons rfl (Imp.cons rfl (Imp.cons rfl (Imp.cons rfl (Imp.cons rfl (Imp.cons rfl (Imp.cons rfl (Imp.cons rfl (Imp.cons rfl (Imp.cons rfl (Imp.cons rfl (Imp.cons rfl (Imp.cons rfl (Imp.cons rfl (Imp.cons rfl (Imp.cons rfl (Imp.cons rfl (Imp.cons rfl (Imp.cons rfl (Imp.cons rfl (Imp.cons rfl (Imp.cons rfl (Imp.cons rfl (Imp.cons rfl (Imp.cons rfl (Imp.cons rfl (Imp.cons rfl (Imp.cons rfl (Imp.cons rfl (Imp.cons rfl (Imp.cons rfl (Imp.cons rfl (Imp.cons rfl (Imp.cons rfl (Imp.cons rfl (Imp.cons rfl (Imp.cons rfl (Imp.cons rfl (Imp.cons rfl (Imp.cons rfl (Imp.cons rfl (Imp.cons rfl (Imp.cons rfl Imp.nil)))))))))))))))))))))))))))))))))))))))))))))))))) (OImp.refl _)
          · refine DO.w rfl ?_
            refine WP.t .n (O.stW (l := kC) (u := ((Int.gcd a b : Nat) : Int)) 10 rfl rfl rfl ty31 rfl (VP.le_refl _)) ?_
            refine WP.nil ?_
            refine DO.nx ?_
            refine DA.go 2 [4] (by kernel_rfl) ⟨?_, ⟨?_, trivial⟩⟩
            · refine DO.w rfl ?_
              refine WP.s .n (O.ld rfl (mem_at 0 rfl) (Lens.id _) ty31 rfl) ?_
              refine WP.nil ?_
              refine DO.nx ?_
              refine DA.go 4 [] (by kernel_rfl) ⟨?_, trivial⟩
              refine DO.w rfl ?_
              refine WP.t .n (O.stW (l := kC) (u := (bezX a b)) 9 rfl rfl rfl ty31 rfl (VP.le_refl _)) ?_
              refine WP.nil ?_
              refine DO.nx ?_
              refine DA.go 5 [] (by kernel_rfl) ⟨?_, trivial⟩
              refine DO.w rfl ?_
              refine WP.t .n (O.stW (l := kC) (u := (((Int.gcd a b : Nat) : Int) - ((bezX a b) * a)).fdiv b) 8 rfl rfl rfl ty31 rfl (VP.le_refl _)) ?_
              refine WP.nil ?_
              refine DO.nx ?_
              refine DA.nil (by kernel_rfl) ?_
              exact QE.join (Imp.cons rfl (Imp.cons rfl (Imp.cons rfl (Imp.cons rfl (Imp.cons rfl (Imp.cons rfl (Imp.cons rfl (Imp.cons rfl (Imp.cons rfl (Imp.cons rfl (Imp.cons rfl (Imp.cons rfl (Imp.cons rfl (Imp.cons rfl (Imp.cons rfl (Imp.cons rfl (Imp.cons rfl (Imp.cons rfl (Imp.cons rfl (Imp.cons rfl (Imp.cons rfl (Imp.cons rfl (Imp.cons rfl (Imp.cons rfl (Imp.cons rfl (Imp.cons rfl (Imp.cons rfl (Imp.cons rfl (Imp.cons rfl (Imp.cons rfl (Imp.cons rfl (Imp.cons rfl (Imp.cons rfl (Imp.cons rfl (Imp.cons rfl (Imp.cons rfl (Imp.cons rfl (Imp.cons rfl (Imp.cons rfl (Imp.cons rfl (Imp.cons rfl (Imp.cons rfl (Imp.cons rfl (Imp.cons rfl (Imp.cons rfl (Imp.cons rfl (Imp.cons rfl (Imp.cons rfl (Imp.cons rfl (Imp.cons rfl Imp.nil)))))))))))))))))))))))))))))))))))))))))))))))))) (OImp.refl _)
            · refine DO.w rfl ?_
              refine WP.t .n (O.stW (l := kC) (u := (bezX a b)) 9 rfl rfl rfl ty31 rfl (VP.le_refl _)) ?_
              refine WP.nil ?_
              refine DO.nx ?_
              refine DA.go 2 [] (by kernel_rfl) ⟨?_, trivial⟩
              refine DO.w rfl ?_
              refine WP.s .n (O.ld rfl (mem_at 0 rfl) (Lens.id _) ty31 rfl) ?_
              refine WP.nil ?_
              refine DO.nx ?_
              refine DA.go 5 [] (by kernel_rfl) ⟨?_, trivial⟩
              refine DO.w rfl ?_
              refine WP.t .n (O.stW (l := kC) (u := (((Int.gcd a b : Nat) : Int) - ((bezX a b) * a)).fdiv b) 8 rfl rfl rfl ty31 rfl (VP.le_refl _)) ?_
              refine WP.nil ?_
              refine DO.nx ?_
              refine DA.nil (by kernel_rfl) ?_
              exact QE.join (Imp.cons rfl (Imp.cons rfl (Imp.cons rfl (Imp.cons rfl (Imp.cons rfl (Imp.cons rfl (Imp.cons rfl (Imp.cons rfl (Imp.cons rfl (Imp.cons rfl (Imp.cons rfl (Imp.cons rfl (Imp.cons rfl (Imp.cons rfl (Imp.cons rfl (Imp.cons rfl (Imp.cons rfl (Imp.cons rfl (Imp.cons rfl (Imp.cons rfl (Imp.cons rfl (Imp.cons rfl (Imp.cons rfl (Imp.cons rfl (Imp.cons rfl (Imp.cons rfl (Imp.cons rfl (Imp.cons rfl (Imp.cons rfl (Imp.cons rfl (Imp.cons rfl (Imp.cons rfl (Imp.cons rfl (Imp.cons rfl (Imp.cons rfl (Imp.cons rfl (Imp.cons rfl (Imp.cons rfl (Imp.cons rfl (Imp.cons rfl (Imp.cons rfl (Imp.cons rfl (Imp.cons rfl (Imp.cons rfl (Imp.cons rfl (Imp.cons rfl (Imp.cons rfl (Imp.cons rfl (Imp.cons rfl (Imp.cons rfl Imp.nil)))))))))))))))))))))))))))))))))))))))))))))))))) (OImp.refl _)
        · refine DO.w rfl ?_
          refine WP.s .n (O.ld rfl (mem_at 0 rfl) (Lens.id _) ty31 rfl) ?_
          refine WP.nil ?_
          refine DO.nx ?_
          refine DA.go 1 [3] (by kernel_rfl) ⟨?_, ⟨?_, trivial⟩⟩
          · refine DO.w rfl ?_
            refine WP.s .n (O.ld rfl (mem_at 5 rfl) (Lens.id _) ty31 rfl) ?_
            refine WP.nil ?_
            refine DO.nx ?_
            refine DA.go 3 [] (by kernel_rfl) ⟨?_, trivial⟩
            refine DO.w rfl ?_
            refine WP.t .n (O.stW (l := kC) (u := ((Int.gcd a b : Nat) : Int)) 10 rfl rfl rfl ty31 rfl (VP.le_refl _)) ?_
            refine WP.nil ?_
            refine DO.nx ?_
            refine DA.go 4 [] (by kernel_rfl) ⟨?_, trivial⟩
            refine DO.w rfl ?_
            refine WP.t .n (O.stW (l := kC) (u := (bezX a b)) 9 rfl rfl rfl ty31 rfl (VP.le_refl _)) ?_
            refine WP.nil ?_
            refine DO.nx ?_
            refine DA.go 5 [] (by kernel_rfl) ⟨?_, trivial⟩
            refine DO.w rfl ?_
            refine WP.t .n (O.stW (l := kC) (u := (((Int.gcd a b : Nat) : Int) - ((bezX a b) * a)).fdiv b) 8 rfl rfl rfl ty31 rfl (VP.le_refl _)) ?_
            refine WP.nil ?_
            refine DO.nx ?_
            refine DA.nil (by kernel_rfl) ?_
            exact QE.join (Imp.cons rfl (Imp.cons rfl (Imp.cons rfl (Imp.cons rfl (Imp.cons rfl (Imp.cons rfl (Imp.cons rfl (Imp.cons rfl (Imp.cons rfl (Imp.cons rfl (Imp.cons rfl (Imp.cons rfl (Imp.cons rfl (Imp.cons rfl (Imp.cons rfl (Imp.cons rfl (Imp.cons rfl (Imp.cons rfl (Imp.cons rfl (Imp.cons rfl (Imp.cons rfl (Imp.cons rfl (Imp.cons rfl (Imp.cons rfl (Imp.cons rfl (Imp.cons rfl (Imp.cons rfl (Imp.cons rfl (Imp.cons rfl (Imp.cons rfl (Imp.cons rfl (Imp.cons rfl (Imp.cons rfl (Imp.cons rfl (Imp.cons rfl (Imp.cons rfl (Imp.cons rfl (Imp.cons rfl (Imp.cons rfl (Imp.cons rfl (Imp.cons rfl (Imp.cons rfl (Imp.cons rfl (Imp.cons rfl (Imp.cons rfl (Imp.cons rfl (Imp.cons rfl (Imp.cons rfl (Imp.cons rfl (Imp.cons rfl Imp.nil)))))))))))))))))))))))))))))))))))))))))))))))))) (OImp.refl _)
          · refine DO.w rfl ?_
            refine WP.t .n (O.stW (l := kC) (u := ((Int.gcd a b : Nat) : Int)) 10 rfl rfl rfl ty31 rfl (VP.le_refl _)) ?_
            refine WP.nil ?_
            refine DO.nx ?_
            refine DA.go 1 [] (by kernel_rfl) ⟨?_, trivial⟩
            refine DO.w rfl ?_
            refine WP.s .n (O.ld rfl (mem_at 5 rfl) (Lens.id _) ty31 rfl) ?_
            refine WP.nil ?_
            refine DO.nx ?_
            refine DA.go 4 [] (by kernel_rfl) ⟨?_, trivial⟩
            refine DO.w rfl ?_
            refine WP.t .n (O.stW (l := kC) (u := (bezX a b)) 9 rfl rfl rfl ty31 rfl (VP.le_refl _)) ?_
            refine WP.nil ?_
            refine DO.nx ?_
            refine DA.go 5 [] (by kernel_rfl) ⟨?_, trivial⟩
            refine DO.w rfl ?_
            refine WP.t .n (O.stW (l := kC) (u := (((Int.gcd a b : Nat) : Int) - ((bezX a b) * a)).fdiv b) 8 rfl rfl rfl ty31 rfl (VP.le_refl _)) ?_
            refine WP.nil ?_
            refine DO.nx ?_
            refine DA.nil (by kernel_rfl) ?_
            exact QE.join (Imp.cons rfl (Imp.cons rfl (Imp.cons rfl (Imp.cons rfl (Imp.cons rfl (Imp.cons rfl (Imp.cons rfl (Imp.cons rfl (Imp.cons rfl (Imp.cons rfl (Imp.cons rfl (Imp.cons rfl (Imp.cons rfl (Imp.cons rfl (Imp.cons rfl (Imp.cons rfl (Imp.cons rfl (Imp.cons rfl (Imp.cons rfl (Imp.cons rfl (Imp.cons rfl (Imp.cons rfl (Imp.cons rfl (Imp.cons rfl (Imp.cons rfl (Imp.cons rfl (Imp.cons rfl (Imp.cons rfl (Imp.cons rfl (Imp.cons rfl (Imp.cons rfl (Imp.cons rfl (Imp.cons rfl (Imp.cons rfl (Imp.cons rfl (Imp.cons rfl (Imp.cons rfl (Imp.cons rfl (Imp.cons rfl (Imp.cons rfl (Imp.cons rfl (Imp.cons rfl (Imp.cons rfl (Imp.cons rfl (Imp.cons rfl (Imp.cons rfl (Imp.cons rfl (Imp.cons rfl (Imp.cons rfl (Imp.cons rfl Imp.nil)))))))))))))))))))))))))))))))))))))))))))))))))) (OImp.refl _)
        · refine DO.w rfl ?_
          refine WP.t .n (O.stW (l := kC) (u := ((Int.gcd a b : Nat) : Int)) 10 rfl rfl rfl ty31 rfl (VP.le_refl _)) ?_
          refine WP.nil ?_
          refine DO.nx ?_
          refine DA.go 1 [2] (by kernel_rfl) ⟨?_, ⟨?_, trivial⟩⟩
          · refine DO.w rfl ?_
            refine WP.s .n (O.ld rfl (mem_at 5 rfl) (Lens.id _) ty31 rfl) ?_
            refine WP.nil ?_
            refine DO.nx ?_
            refine DA.go 2 [4] (by kernel_rfl) ⟨?_, ⟨?_, trivial⟩⟩
            · refine DO.w rfl ?_
              refine WP.s .n (O.ld rfl (mem_at 0 rfl) (Lens.id _) ty31 rfl) ?_
              refine WP.nil ?_
              refine DO.nx ?_
              refine DA.go 4 [] (by kernel_rfl) ⟨?_, trivial⟩
              refine DO.w rfl ?_
              refine WP.t .n (O.stW (l := kC) (u := (bezX a b)) 9 rfl rfl rfl ty31 rfl (VP.le_refl _)) ?_
              refine WP.nil ?_
              refine DO.nx ?_
              refine DA.go 5 [] (by kernel_rfl) ⟨?_, trivial⟩
              refine DO.w rfl ?_
              refine WP.t .n (O.stW (l := kC) (u := (((Int.gcd a b : Nat) : Int) - ((bezX a b) * a)).fdiv b) 8 rfl rfl rfl ty31 rfl (VP.le_refl _)) ?_
              refine WP.nil ?_
              refine DO.nx ?_
              refine DA.nil (by kernel_rfl) ?_
              exact QE.join (Imp.cons rfl (Imp.cons rfl (Imp.cons rfl (Imp.cons rfl (Imp.cons rfl (Imp.cons rfl (Imp.cons rfl (Imp.cons rfl (Imp.cons rfl (Imp.cons rfl (Imp.cons rfl (Imp.cons rfl (Imp.cons rfl (Imp.cons rfl (Imp.cons rfl (Imp.cons rfl (Imp.cons rfl (Imp.cons rfl (Imp.cons rfl (Imp.cons rfl (Imp.cons rfl (Imp.cons rfl (Imp.cons rfl (Imp.cons rfl (Imp.cons rfl (Imp.cons rfl (Imp.cons rfl (Imp.cons rfl (Imp.cons rfl (Imp.cons rfl (Imp.cons rfl (Imp.cons rfl (Imp.cons rfl (Imp.cons rfl (Imp.cons rfl (Imp.cons rfl (Imp.cons rfl (Imp.cons rfl (Imp.cons rfl (Imp.cons rfl (Imp.cons rfl (Imp.cons rfl (Imp.cons rfl (Imp.cons rfl (Imp.cons rfl (Imp.cons rfl (Imp.cons rfl (Imp.cons rfl (Imp.cons rfl (Imp.cons rfl Imp.nil)))))))))))))))))))))))))))))))))))))))))))))))))) (OImp.refl _)
            · refine DO.w rfl ?_
              refine WP.t .n (O.stW (l := kC) (u := (bezX a b)) 9 rfl rfl rfl ty31 rfl (VP.le_refl _)) ?_
              refine WP.nil ?_
              refine DO.nx ?_
              refine DA.go 2 [] (by kernel_rfl) ⟨?_, trivial⟩
              refine DO.w rfl ?_
              refine WP.s .n (O.ld rfl (mem_at 0 rfl) (Lens.id _) ty31 rfl) ?_
              refine WP.nil ?_
              refine DO.nx ?_
              refine DA.go 5 [] (by kernel_rfl) ⟨?_, trivial⟩
              refine DO.w rfl ?_
              refine WP.t .n (O.stW (l := kC) (u := (((Int.gcd a b : Nat) : Int) - ((bezX a b) * a)).fdiv b) 8 rfl rfl rfl ty31 rfl (VP.le_refl _)) ?_
              refine WP.nil ?_
              refine DO.nx ?_
              refine DA.nil (by kernel_rfl) ?_
              exact QE.join (Imp.cons rfl (Imp.cons rfl (Imp.cons rfl (Imp.cons rfl (Imp.cons rfl (Imp.cons rfl (Imp.cons rfl (Imp.cons rfl (Imp.cons rfl (Imp.cons rfl (Imp.cons rfl (Imp.cons rfl (Imp.cons rfl (Imp.cons rfl (Imp.cons rfl (Imp.cons rfl (Imp.cons rfl (Imp.cons rfl (Imp.cons rfl (Imp.cons rfl (Imp.cons rfl (Imp.cons rfl (Imp.cons rfl (Imp.cons rfl (Imp.cons rfl (Imp.cons rfl (Imp.cons rfl (Imp.cons rfl (Imp.cons rfl (Imp.cons rfl (Imp.cons rfl (Imp.cons rfl (Imp.cons rfl (Imp.cons rfl (Imp.cons rfl (Imp.cons rfl (Imp.cons rfl (Imp.cons rfl (Imp.cons rfl (Imp.cons rfl (Imp.cons rfl (Imp.cons rfl (Imp.cons rfl (Imp.cons rfl (Imp.cons rfl (Imp.cons rfl (Imp.cons rfl (Imp.cons rfl (Imp.cons rfl (Imp.cons rfl Imp.nil)))))))))))))))))))))))))))))))))))))))))))))))))) (OImp.refl _)
          · refine DO.w rfl ?_
            refine WP.s .n (O.ld rfl (mem_at 0 rfl) (Lens.id _) ty31 rfl) ?_
            refine WP.nil ?_
            refine DO.nx ?_
            refine DA.go 1 [] (by kernel_rfl) ⟨?_, trivial⟩
            refine DO.w rfl ?_
            refine WP.s .n (O.ld rfl (mem_at 5 rfl) (Lens.id _) ty31 rfl) ?_
            refine WP.nil ?_
            refine DO.nx ?_
            refine DA.go 4 [] (by kernel_rfl) ⟨?_, trivial⟩
            refine DO.w rfl ?_
            refine WP.t .n (O.stW (l := kC) (u := (bezX a b)) 9 rfl rfl rfl ty31 rfl (VP.le_refl _)) ?_
            refine WP.nil ?_
            refine DO.nx ?_
            refine DA.go 5 [] (by kernel_rfl) ⟨?_, trivial⟩
            refine DO.w rfl ?_
            refine WP.t .n (O.stW (l := kC) (u := (((Int.gcd a b : Nat) : Int) - ((bezX a b) * a)).fdiv b) 8 rfl rfl rfl ty31 rfl (VP.le_refl _)) ?_
            refine WP.nil ?_
            refine DO.nx ?_
            refine DA.nil (by kernel_rfl) ?_
            exact QE.join (Imp.cons rfl (Imp.cons rfl (Imp.cons rfl (Imp.cons rfl (Imp.cons rfl (Imp.cons rfl (Imp.cons rfl (Imp.cons rfl (Imp.cons rfl (Imp.cons rfl (Imp.cons rfl (Imp.cons rfl (Imp.cons rfl (Imp.cons rfl (Imp.cons rfl (Imp.cons rfl (Imp.cons rfl (Imp.cons rfl (Imp.cons rfl (Imp.cons rfl (Imp.cons rfl (Imp.cons rfl (Imp.cons rfl (Imp.cons rfl (Imp.cons rfl (Imp.cons rfl (Imp.cons rfl (Imp.cons rfl (Imp.cons rfl (Imp.cons rfl (Imp.cons rfl (Imp.cons rfl (Imp.cons rfl (Imp.cons rfl (Imp.cons rfl (Imp.cons rfl (Imp.cons rfl (Imp.cons rfl (Imp.cons rfl (Imp.cons rfl (Imp.cons rfl (Imp.cons rfl (Imp.cons rfl (Imp.cons rfl (Imp.cons rfl (Imp.cons rfl (Imp.cons rfl (Imp.cons rfl (Imp.cons rfl (Imp.cons rfl Imp.nil)))))))))))))))))))))))))))))))))))))))))))))))))) (OImp.refl _)
      · refine DO.w rfl ?_
        refine WP.s .n (O.ld rfl (mem_at 5 rfl) (Lens.id _) ty31 rfl) ?_
        refine WP.nil ?_
        refine DO.nx ?_
        refine DA.go 0 [2] (by kernel_rfl) ⟨?_, ⟨?_, trivial⟩⟩
        · refine DO.w rfl ?_
          refine WP.s .n (O.ld rfl (mem_at 6 rfl) (Lens.id _) ty31 rfl) ?_
          refine WP.nil ?_
          refine DO.nx ?_
          refine DA.go 2 [3] (by kernel_rfl) ⟨?_, ⟨?_, trivial⟩⟩
          · refine DO.w rfl ?_
            refine WP.s .n (O.ld rfl (mem_at 0 rfl) (Lens.id _) ty31 rfl) ?_
            refine WP.nil ?_
            refine DO.nx ?_
            refine DA.go 3 [] (by kernel_rfl) ⟨?_, trivial⟩
            refine DO.w rfl ?_
            refine WP.t .n (O.stW (l := kC) (u := ((Int.gcd a b : Nat) : Int)) 10 rfl rfl rfl ty31 rfl (VP.le_refl _)) ?_
            refine WP.nil ?_
            refine DO.nx ?_
            refine DA.go 4 [] (by kernel_rfl) ⟨?_, trivial⟩
            refine DO.w rfl ?_
            refine WP.t .n (O.stW (l := kC) (u := (bezX a b)) 9 rfl rfl rfl ty31 rfl (VP.le_refl _)) ?_
            refine WP.nil ?_
            refine DO.nx ?_
            refine DA.go 5 [] (by kernel_rfl) ⟨?_, trivial⟩
            refine DO.w rfl ?_
            refine WP.t .n (O.stW (l := kC) (u := (((Int.gcd a b : Nat) : Int) - ((bezX a b) * a)).fdiv b) 8 rfl rfl rfl ty31 rfl (VP.le_refl _)) ?_
            refine WP.nil ?_
            refine DO.nx ?_
            refine DA.nil (by kernel_rfl) ?_
            exact QE.join (Imp.cons rfl (Imp.cons rfl (Imp.cons rfl (Imp.cons rfl (Imp.cons rfl (Imp.cons rfl (Imp.cons rfl (Imp.cons rfl (Imp.cons rfl (Imp.cons rfl (Imp.cons rfl (Imp.cons rfl (Imp.cons rfl (Imp.cons rfl (Imp.cons rfl (Imp.cons rfl (Imp.cons rfl (Imp.cons rfl (Imp.cons rfl (Imp.cons rfl (Imp.cons rfl (Imp.cons rfl (Imp.cons rfl (Imp.cons rfl (Imp.cons rfl (Imp.cons rfl (Imp.cons rfl (Imp.cons rfl (Imp.cons rfl (Imp.cons rfl (Imp.cons rfl (Imp.cons rfl (Imp.cons rfl (Imp.cons rfl (Imp.cons rfl (Imp.cons rfl (Imp.cons rfl (Imp.cons rfl (Imp.cons rfl (Imp.cons rfl (Imp.cons rfl (Imp.cons rfl (Imp.cons rfl (Imp.cons rfl (Imp.cons rfl (Imp.cons rfl (Imp.cons rfl (Imp.cons rfl (Imp.cons rfl (Imp.cons rfl Imp.nil)))))))))))))))))))))))))))))))))))))))))))))))))) (OImp.refl _)
          · refine DO.w rfl ?_
            refine WP.t .n (O.stW (l := kC) (u := ((Int.gcd a b : Nat) : Int)) 10 rfl rfl rfl ty31 rfl (VP.le_refl _)) ?_
            refine WP.nil ?_
            refine DO.nx ?_
            refine DA.go 2 [4] (by kernel_rfl) ⟨?_, ⟨?_, trivial⟩⟩
            · refine DO.w rfl ?_
              refine WP.s .n (O.ld rfl (mem_at 0 rfl) (Lens.id _) ty31 rfl) ?_
              refine WP.nil ?_
              refine DO.nx ?_
              refine DA.go 4 [] (by kernel_rfl) ⟨?_, trivial⟩
              refine DO.w rfl ?_
              refine WP.t .n (O.stW (l := kC) (u := (bezX a b)) 9 rfl rfl rfl ty31 rfl (VP.le_refl _)) ?_
              refine WP.nil ?_
              refine DO.nx ?_
              refine DA.go 5 [] (by kernel_rfl) ⟨?_, trivial⟩
              refine DO.w rfl ?_
              refine WP.t .n (O.stW (l := kC) (u := (((Int.gcd a b : Nat) : Int) - ((bezX a b) * a)).fdiv b) 8 rfl rfl rfl ty31 rfl (VP.le_refl _)) ?_
              refine WP.nil ?_
              refine DO.nx ?_
              refine DA.nil (by kernel_rfl) ?_
              exact QE.join (Imp.cons rfl (Imp.cons rfl (Imp.cons rfl (Imp.cons rfl (Imp.cons rfl (Imp.cons rfl (Imp.cons rfl (Imp.cons rfl (Imp.cons rfl (Imp.cons rfl (Imp.cons rfl (Imp.cons rfl (Imp.cons rfl (Imp.cons rfl (Imp.cons rfl (Imp.cons rfl (Imp.cons rfl (Imp.cons rfl (Imp.cons rfl (Imp.cons rfl (Imp.cons rfl (Imp.cons rfl (Imp.cons rfl (Imp.cons rfl (Imp.cons rfl (Imp.cons rfl (Imp.cons rfl (Imp.cons rfl (Imp.cons rfl (Imp.cons rfl (Imp.cons rfl (Imp.cons rfl (Imp.cons rfl (Imp.cons rfl (Imp.cons rfl (Imp.cons rfl (Imp.cons rfl (Imp.cons rfl (Imp.cons rfl (Imp.cons rfl (Imp.cons rfl (Imp.cons rfl (Imp.cons rfl (Imp.cons rfl (Imp.cons rfl (Imp.cons rfl (Imp.cons rfl (Imp.cons rfl (Imp.cons rfl (Imp.cons rfl Imp.nil)))))))))))))))))))))))))))))))))))))))))))))))))) (OImp.refl _)
            · refine DO.w rfl ?_
              refine WP.t .n (O.stW (l := kC) (u := (bezX a b)) 9 rfl rfl rfl ty31 rfl (VP.le_refl _)) ?_
              refine WP.nil ?_
              refine DO.nx ?_
              refine DA.go 2 [] (by kernel_rfl) ⟨?_, trivial⟩
              refine DO.w rfl ?_
              refine WP.s .n (O.ld rfl (mem_at 0 rfl) (Lens.id _) ty31 rfl) ?_
              refine WP.nil ?_
              refine DO.nx ?_
              refine DA.go 5 [] (by kernel_rfl) ⟨?_, trivial⟩
              refine DO.w rfl ?_
              refine WP.t .n (O.stW (l := kC) (u := (((Int.gcd a b : Nat) : Int) - ((bezX a b) * a)).fdiv b) 8 rfl rfl rfl ty31 rfl (VP.le_refl _)) ?_
              refine WP.nil ?_
              refine DO.nx ?_
              refine DA.nil (by kernel_rfl) ?_
              exact QE.join (Imp.cons rfl (Imp.cons rfl (Imp.cons rfl (Imp.cons rfl (Imp.cons rfl (Imp.cons rfl (Imp.cons rfl (Imp.cons rfl (Imp.cons rfl (Imp.cons rfl (Imp.cons rfl (Imp.cons rfl (Imp.cons rfl (Imp.cons rfl (Imp.cons rfl (Imp.cons rfl (Imp.cons rfl (Imp.cons rfl (Imp.cons rfl (Imp.cons rfl (Imp.cons rfl (Imp.cons rfl (Imp.cons rfl (Imp.cons rfl (Imp.cons rfl (Imp.cons rfl (Imp.cons rfl (Imp.cons rfl (Imp.cons rfl (Imp.cons rfl (Imp.cons rfl (Imp.cons rfl (Imp.cons rfl (Imp.cons rfl (Imp.cons rfl (Imp.cons rfl (Imp.cons rfl (Imp.cons rfl (Imp.cons rfl (Imp.cons rfl (Imp.cons rfl (Imp.cons rfl (Imp.cons rfl (Imp.cons rfl (Imp.cons rfl (Imp.cons rfl (Imp.cons rfl (Imp.cons rfl (Imp.cons rfl (Imp.cons rfl Imp.nil)))))))))))))))))))))))))))))))))))))))))))))))))) (OImp.refl _)
        · refine DO.w rfl ?_
          refine WP.s .n (O.ld rfl (mem_at 0 rfl) (Lens.id _) ty31 rfl) ?_
          refine WP.nil ?_
          refine DO.nx ?_
          refine DA.go 0 [] (by kernel_rfl) ⟨?_, trivial⟩
          refine DO.w rfl ?_
          refine WP.s .n (O.ld rfl (mem_at 6 rfl) (Lens.id _) ty31 rfl) ?_
          refine WP.nil ?_
          refine DO.nx ?_
          refine DA.go 3 [] (by kernel_rfl) ⟨?_, trivial⟩
          refine DO.w rfl ?_
          refine WP.t .n (O.stW (l := kC) (u := ((Int.gcd a b : Nat) : Int)) 10 rfl rfl rfl ty31 rfl (VP.le_refl _)) ?_
          refine WP.nil ?_
          refine DO.nx ?_
          refine DA.go 4 [] (by kernel_rfl) ⟨?_, trivial⟩
          refine DO.w rfl ?_
          refine WP.t .n (O.stW (l := kC) (u := (bezX a b)) 9 rfl rfl rfl ty31 rfl (VP.le_refl _)) ?_
          refine WP.nil ?_
          refine DO.nx ?_
          refine DA.go 5 [] (by kernel_rfl) ⟨?_, trivial⟩
          refine DO.w rfl ?_
          refine WP.t .n (O.stW (l := kC) (u := (((Int.gcd a b : Nat) : Int) - ((bezX a b) * a)).fdiv b) 8 rfl rfl rfl ty31 rfl (VP.le_refl _)) ?_
          refine WP.nil ?_
          refine DO.nx ?_
          refine DA.nil (by kernel_rfl) ?_
          exact QE.join (Imp.cons rfl (Imp.cons rfl (Imp.cons rfl (Imp.cons rfl (Imp.cons rfl (Imp.cons rfl (Imp.cons rfl (Imp.cons rfl (Imp.cons rfl (Imp.cons rfl (Imp.cons rfl (Imp.cons rfl (Imp.cons rfl (Imp.cons rfl (Imp.cons rfl (Imp.cons rfl (Imp.cons rfl (Imp.cons rfl (Imp.cons rfl (Imp.cons rfl (Imp.cons rfl (Imp.cons rfl (Imp.cons rfl (Imp.cons rfl (Imp.cons rfl (Imp.cons rfl (Imp.cons rfl (Imp.cons rfl (Imp.cons rfl (Imp.cons rfl (Imp.cons rfl (Imp.cons rfl (Imp.cons rfl (Imp.cons rfl (Imp.cons rfl (Imp.cons rfl (Imp.cons rfl (Imp.cons rfl (Imp.cons rfl (Imp.cons rfl (Imp.cons rfl (Imp.cons rfl (Imp.cons rfl (Imp.cons rfl (Imp.cons rfl (Imp.cons rfl (Imp.cons rfl (Imp.cons rfl (Imp.cons rfl (Imp.cons rfl Imp.nil)))))))))))))))))))))))))))))))))))))))))))))))))) (OImp.refl _)
      · refine DO.w rfl ?_
        refine WP.s .n (O.ld rfl (mem_at 0 rfl) (Lens.id _) ty31 rfl) ?_
        refine WP.nil ?_
        refine DO.nx ?_
        refine DA.go 0 [1] (by kernel_rfl) ⟨?_, ⟨?_, trivial⟩⟩
        · refine DO.w rfl ?_
          refine WP.s .n (O.ld rfl (mem_at 6 rfl) (Lens.id _) ty31 rfl) ?_
          refine WP.nil ?_
          refine DO.nx ?_
          refine DA.go 1 [3] (by kernel_rfl) ⟨?_, ⟨?_, trivial⟩⟩
          · refine DO.w rfl ?_
            refine WP.s .n (O.ld rfl (mem_at 5 rfl) (Lens.id _) ty31 rfl) ?_
            refine WP.nil ?_
            refine DO.nx ?_
            refine DA.go 3 [] (by kernel_rfl) ⟨?_, trivial⟩
            refine DO.w rfl ?_
            refine WP.t .n (O.stW (l := kC) (u := ((Int.gcd a b : Nat) : Int)) 10 rfl rfl rfl ty31 rfl (VP.le_refl _)) ?_
            refine WP.nil ?_
            refine DO.nx ?_
            refine DA.go 4 [] (by kernel_rfl) ⟨?_, trivial⟩
            refine DO.w rfl ?_
            refine WP.t .n (O.stW (l := kC) (u := (bezX a b)) 9 rfl rfl rfl ty31 rfl (VP.le_refl _)) ?_
            refine WP.nil ?_
            refine DO.nx ?_
            refine DA.go 5 [] (by kernel_rfl) ⟨?_, trivial⟩
            refine DO.w rfl ?_
            refine WP.t .n (O.stW (l := kC) (u := (((Int.gcd a b : Nat) : Int) - ((bezX a b) * a)).fdiv b) 8 rfl rfl rfl ty31 rfl (VP.le_refl _)) ?_
            refine WP.nil ?_
            refine DO.nx ?_
            refine DA.nil (by kernel_rfl) ?_
            exact QE.join (Imp.cons rfl (Imp.cons rfl (Imp.cons rfl (Imp.cons rfl (Imp.cons rfl (Imp.cons rfl (Imp.cons rfl (Imp.cons rfl (Imp.cons rfl (Imp.cons rfl (Imp.cons rfl (Imp.cons rfl (Imp.cons rfl (Imp.cons rfl (Imp.cons rfl (Imp.cons rfl (Imp.cons rfl (Imp.cons rfl (Imp.cons rfl (Imp.cons rfl (Imp.cons rfl (Imp.cons rfl (Imp.cons rfl (Imp.cons rfl (Imp.cons rfl (Imp.cons rfl (Imp.cons rfl (Imp.cons rfl (Imp.cons rfl (Imp.cons rfl (Imp.cons rfl (Imp.cons rfl (Imp.cons rfl (Imp.cons rfl (Imp.cons rfl (Imp.cons rfl (Imp.cons rfl (Imp.cons rfl (Imp.cons rfl (Imp.cons rfl (Imp.cons rfl (Imp.cons rfl (Imp.cons rfl (Imp.cons rfl (Imp.cons rfl (Imp.cons rfl (Imp.cons rfl (Imp.cons rfl (Imp.cons rfl (Imp.cons rfl Imp.nil)))))))))))))))))))))))))))))))))))))))))))))))))) (OImp.refl _)
          · refine DO.w rfl ?_
            refine WP.t .n (O.stW (l := kC) (u := ((Int.gcd a b : Nat) : Int)) 10 rfl rfl rfl ty31 rfl (VP.le_refl _)) ?_
            refine WP.nil ?_
            refine DO.nx ?_
            refine DA.go 1 [] (by kernel_rfl) ⟨?_, trivial⟩
            refine DO.w rfl ?_
            refine WP.s .n (O.ld rfl (mem_at 5 rfl) (Lens.id _) ty31 rfl) ?_
            refine WP.nil ?_
            refine DO.nx ?_
            refine DA.go 4 [] (by kernel_rfl) ⟨?_, trivial⟩
            refine DO.w rfl ?_
            refine WP.t .n (O.stW (l := kC) (u := (bezX a b)) 9 rfl rfl rfl ty31 rfl (VP.le_refl _)) ?_
            refine WP.nil ?_
            refine DO.nx ?_
            refine DA.go 5 [] (by kernel_rfl) ⟨?_, trivial⟩
            refine DO.w rfl ?_
            refine WP.t .n (O.stW (l := kC) (u := (((Int.gcd a b : Nat) : Int) - ((bezX a b) * a)).fdiv b) 8 rfl rfl rfl ty31 rfl (VP.le_refl _)) ?_
            refine WP.nil ?_
            refine DO.nx ?_
            refine DA.nil (by kernel_rfl) ?_
            exact QE.join (Imp.cons rfl (Imp.cons rfl (Imp.cons rfl (Imp.cons rfl (Imp.cons rfl (Imp.cons rfl (Imp.cons rfl (Imp.cons rfl (Imp.cons rfl (Imp.cons rfl (Imp.cons rfl (Imp.cons rfl (Imp.cons rfl (Imp.cons rfl (Imp.cons rfl (Imp.cons rfl (Imp.cons rfl (Imp.cons rfl (Imp.cons rfl (Imp.cons rfl (Imp.cons rfl (Imp.cons rfl (Imp.cons rfl (Imp.cons rfl (Imp.cons rfl (Imp.cons rfl (Imp.cons rfl (Imp.cons rfl (Imp.cons rfl (Imp.cons rfl (Imp.cons rfl (Imp.cons rfl (Imp.cons rfl (Imp.cons rfl (Imp.cons rfl (Imp.cons rfl (Imp.cons rfl (Imp.cons rfl (Imp.cons rfl (Imp.cons rfl (Imp.cons rfl (Imp.cons rfl (Imp.cons rfl (Imp.cons rfl (Imp.cons rfl (Imp.cons rfl (Imp.cons rfl (Imp.cons rfl (Imp.cons rfl (Imp.cons rfl Imp.nil)))))))))))))))))))))))))))))))))))))))))))))))))) (OImp.refl _)
        · refine DO.w rfl ?_
          refine WP.s .n (O.ld rfl (mem_at 5 rfl) (Lens.id _) ty31 rfl) ?_
          refine WP.nil ?_
          refine DO.nx ?_
          refine DA.go 0 [] (by kernel_rfl) ⟨?_, trivial⟩
          refine DO.w rfl ?_
          refine WP.s .n (O.ld rfl (mem_at 6 rfl) (Lens.id _) ty31 rfl) ?_
          refine WP.nil ?_
          refine DO.nx ?_
          refine DA.go 3 [] (by kernel_rfl) ⟨?_, trivial⟩
          refine DO.w rfl ?_
          refine WP.t .n (O.stW (l := kC) (u := ((Int.gcd a b : Nat) : Int)) 10 rfl rfl rfl ty31 rfl (VP.le_refl _)) ?_
          refine WP.nil ?_
          refine DO.nx ?_
          refine DA.go 4 [] (by kernel_rfl) ⟨?_, trivial⟩
          refine DO.w rfl ?_
          refine WP.t .n (O.stW (l := kC) (u := (bezX a b)) 9 rfl rfl rfl ty31 rfl (VP.le_refl _)) ?_
          refine WP.nil ?_
          refine DO.nx ?_
          refine DA.go 5 [] (by kernel_rfl) ⟨?_, trivial⟩
          refine DO.w rfl ?_
          refine WP.t .n (O.stW (l := kC) (u := (((Int.gcd a b : Nat) : Int) - ((bezX a b) * a)).fdiv b) 8 rfl rfl rfl ty31 rfl (VP.le_refl _)) ?_
          refine WP.nil ?_
          refine DO.nx ?_
          refine DA.nil (by kernel_rfl) ?_
          exact QE.join (Imp.cons rfl (Imp.cons rfl (Imp.cons rfl (Imp.cons rfl (Imp.cons rfl (Imp.cons rfl (Imp.cons rfl (Imp.cons rfl (Imp.cons rfl (Imp.cons rfl (Imp.cons rfl (Imp.cons rfl (Imp.cons rfl (Imp.cons rfl (Imp.cons rfl (Imp.cons rfl (Imp.cons rfl (Imp.cons rfl (Imp.cons rfl (Imp.cons rfl (Imp.cons rfl (Imp.cons rfl (Imp.cons rfl (Imp.cons rfl (Imp.cons rfl (Imp.cons rfl (Imp.cons rfl (Imp.cons rfl (Imp.cons rfl (Imp.cons rfl (Imp.cons rfl (Imp.cons rfl (Imp.cons rfl (Imp.cons rfl (Imp.cons rfl (Imp.cons rfl (Imp.cons rfl (Imp.cons rfl (Imp.cons rfl (Imp.cons rfl (Imp.cons rfl (Imp.cons rfl (Imp.cons rfl (Imp.cons rfl (Imp.cons rfl (Imp.cons rfl (Imp.cons rfl (Imp.cons rfl (Imp.cons rfl (Imp.cons rfl Imp.nil)))))))))))))))))))))))))))))))))))))))))))))))))) (OImp.refl _)
    refine QE.next ?_
    refine CW.ret ?_
    refine ST.obtold 8 rfl (OB.box_eq (y := (bezY a b)) rfl) ?_
    exact QE.done (.inl rfl) rfl (ResOk.cl rfl (mem_at 10 rfl) ty31 (is_eq (y := (Int.gcd a b : Int)) (by first | rfl | assumption)) (ResOk.c rfl (mem_at 9 rfl) ty31 (ResOk.c rfl (mem_at 8 rfl) ty31 ResOk.nil))) (OImp.sub (List.nil_sublist _)) ⟨rfl, rfl⟩

set_option maxRecDepth 20000 in
set_option maxHeartbeats 4000000 in
theorem c_ref02_Bezout (a b : Int) (ha0 : 0 ≤ a) (hb0 : 0 < b) (ha : Sq a) (hb : Sq b) : Fn Try.prog 107 [kZ.is a, kZ.is b] (VP.tup [kC.is (Int.gcd a b : Int), kC.is (bezX a b), kC.is (bezY a b)]) := by
  refine Con.enter Try.func107 rfl rfl fun m w => ?_
  refine CW.seq ?_
  refine CW.region ?_
  refine WP.bx .n rfl fun b1 => ?_
  refine WP.bx .n rfl fun b2 => ?_
  refine WP.al .n z31_C fun b3 => ?_
  refine WP.al .n z31_C fun b4 => ?_
  refine WP.al .n z31_C fun b5 => ?_
  refine WP.nil ?_
  refine QE.next ?_
  refine CW.seq ?_
  refine CW.seq ?_
  refine CW.region ?_
  refine WP.s .n (O.ld rfl (mem_at 3 rfl) (Lens.id _) ty31 rfl) ?_
  refine WP.s .n (O.fn fn83 (evs.c rfl evs.nil) (c_ref02_Sign b)) ?_
  refine WP.s .n (O.eq rfl rfl) ?_
  refine WP.nil ?_
  refine QE.next ?_
  refine CW.condD rfl (fun h => absurd h (sgn_ne0 hb0)) (fun h_t18 => ?_)
  refine CW.skip ?_
  refine QE.next ?_
  refine CW.seq ?_
  refine CW.region ?_
  refine WP.s .n (O.ld rfl (mem_at 4 rfl) (Lens.id _) ty31 rfl) ?_
  refine WP.s .n (O.ld rfl (mem_at 3 rfl) (Lens.id _) ty31 rfl) ?_
  refine WP.s .n (O.fn fn104 (evs.c rfl (evs.c rfl evs.nil)) (c_ref02_Gcd a b)) ?_
  refine WP.al .n z31_C fun b6 => ?_
  refine WP.t .n (O.stW (l := kC) (u := (Int.gcd a b : Int)) 0 rfl rfl rfl ty31 rfl (VP.le_refl _)) ?_
  refine WP.nil ?_
  refine QE.next ?_
  refine CW.seq ?_
  refine CW.draw (Γ := [.fr (kZ.is a), .fr (kC.is a), .fr (kZ.is b), .fr (kC.is b), .al (fun b => OB.box b 31 kC 0), .al (fun b => OB.box b 31 kC 0)]) (lates := [false, false, false, false, false, false]) (by kernel_rfl) (Chk.of rfl (by kernel_rfl) rfl) (fun _ _ _ _ _ h => h) (fun q_ x_ h_ => ?_) (fun σ1 => ?_)
  · match q_, h_ with
    | 0, h_ => cases h_; exact Ob.f rfl .n fun N => (O.ld rfl (mem_app N (mem_at 5 rfl)) (Lens.id _) ty31 rfl)
    | 1, h_ => cases h_; exact Ob.f rfl .n fun N => (O.fn fn92 (evs.c rfl evs.nil) (c_ref02_Norm a))
    | 2, h_ => cases h_; exact Ob.f rfl .n fun N => (O.ld rfl (mem_app N (mem_at 4 rfl)) (Lens.id _) ty31 rfl)
    | 3, h_ => cases h_; exact Ob.f rfl .n fun N => (O.fn fn92 (evs.c rfl evs.nil) (c_ref02_Norm b))
    | 4, h_ => cases h_; exact Ob.a rfl z31_C
    | 5, h_ => cases h_; exact Ob.a rfl z31_C
    | n_ + 6, h_ => simp at h_
  refine WP.t .n (O.stW (l := kC) (u := a) 0 rfl rfl rfl ty31 rfl (VP.le_refl _)) ?_
  refine WP.t .n (O.stW (l := kC) (u := b) 1 rfl rfl rfl ty31 rfl (VP.le_refl _)) ?_
  refine WP.nil ?_
  refine QE.next ?_
  refine CW.seq ?_
  refine CW.region ?_
  refine WP.s .n (O.fn fn78 (evs.l rfl (i64_int (by omega)) evs.nil) (c_ref02_Of 1)) ?_
  refine WP.s .n (O.fn fn78 (evs.l rfl (i64_int (by omega)) evs.nil) (c_ref02_Of 0)) ?_
  refine WP.al .n z31_C fun b7 => ?_
  refine WP.al .n z31_C fun b8 => ?_
  refine WP.t .n (O.stW (l := kC) (u := 1) 1 rfl rfl rfl ty31 rfl (VP.le_refl _)) ?_
  refine WP.t .n (O.stW (l := kC) (u := 0) 0 rfl rfl rfl ty31 rfl (VP.le_refl _)) ?_
  refine WP.nil ?_
  refine QE.next ?_
  refine CW.seq ?_
  refine CW.block ?_
  refine CW.loop4 (fun (r : Int) (s : Int) (x : Int) (u : Int) => BzR a b r s x u) (fun (r : Int) (s : Int) (x : Int) (u : Int) => [(2, VP.ex (.pointer (some ⟨b1, 0, none⟩))), (3, VP.ex (.pointer (some ⟨b2, 0, none⟩))), (4, VP.ex (.pointer (some ⟨b3, 0, none⟩))), (5, VP.ex (.pointer (some ⟨b4, 0, none⟩))), (6, VP.ex (.pointer (some ⟨b5, 0, none⟩))), (7, VP.ex (.pointer (some ⟨b6, 0, none⟩))), (8, VP.ex (.pointer (some ⟨(σ1 4), 0, none⟩))), (9, VP.ex (.pointer (some ⟨(σ1 5), 0, none⟩))), (10, VP.ex (.pointer (some ⟨b7, 0, none⟩))), (11, VP.ex (.pointer (some ⟨b8, 0, none⟩)))]) (fun (r : Int) (s : Int) (x : Int) (u : Int) => [OB.box b8 31 kC u, OB.box b7 31 kC x, OB.box (σ1 4) 31 kC r, OB.box (σ1 5) 31 kC s, OB.box b6 31 kC (Int.gcd a b : Int), OB.box b5 31 kC 0, OB.box b4 31 kC 0, OB.box b3 31 kC 0, OB.box b2 31 kZ b, OB.box b1 31 kZ a]) (fun (r : Int) (s : Int) (x : Int) (u : Int) => s.natAbs) a b 1 0 (bzR_0 ha0 hb0) (Imp.cons rfl (Imp.cons rfl (Imp.cons rfl (Imp.cons rfl (Imp.cons rfl (Imp.cons rfl (Imp.cons rfl (Imp.cons rfl (Imp.cons rfl (Imp.cons rfl Imp.nil)))))))))) (OImp.refl _) ?_
  intro r s x u hZ
  obtain ⟨hsr, hss, hsx, hsu⟩ := bz_sm ha hb hZ
  refine CW.seq ?_
  refine CW.seq ?_
  refine CW.region ?_
  refine WP.s .n (O.ld rfl (mem_at 3 rfl) (Lens.id _) ty31 rfl) ?_
  refine WP.s .n (O.fn fn83 (evs.l rfl (kC_Z hss) evs.nil) (c_ref02_Sign s)) ?_
  refine WP.s .n (O.ne rfl rfl) ?_
  refine WP.nil ?_
  refine QE.next ?_
  refine CW.condD rfl (fun h_t36 => ?_) (fun h_t36 => ?_)
  · have hs0 := sgn_s0 h_t36
    obtain ⟨hsd, hsf, hsq⟩ := bz_smq ha hb hs0 hZ
    refine CW.skip ?_
    refine QE.next ?_
    refine CW.block ?_
    refine CW.seq ?_
    refine CW.region ?_
    refine WP.s .n (O.ld rfl (mem_at 2 rfl) (Lens.id _) ty31 rfl) ?_
    refine WP.s .n (O.ld rfl (mem_at 3 rfl) (Lens.id _) ty31 rfl) ?_
    refine WP.s .n (O.fn fn89 (evs.l rfl (kC_Z hsr) (evs.l rfl (kC_Z hss) evs.nil)) (c_ref02_Floor r s hs0)) ?_
    refine WP.s .n (O.mv rfl) ?_
    refine WP.s .n (O.ext rfl rfl) ?_
    refine WP.s .n (O.ext rfl rfl) ?_
    refine WP.al .n z31_C fun b9 => ?_
    refine WP.al .n z31_C fun b10 => ?_
    refine WP.t .n (O.stW (l := kC) (u := r.fdiv s) 1 rfl rfl rfl ty31 rfl (VP.le_refl _)) ?_
    refine WP.t .n (O.stW (l := kC) (u := r.fmod s) 0 rfl rfl rfl ty31 rfl (VP.le_refl _)) ?_
    refine WP.nil ?_
    refine QE.next ?_
    refine CW.seq ?_
    refine CW.draw (Γ := [.fr (kC.is u), .fr (kC.is x), .fr (kC.is (r.fdiv s)), .fr (kC.is u), .fr (kC.is ((r.fdiv s) * u)), .fr (kC.is (x - ((r.fdiv s) * u)))]) (lates := [false, false, false, false, false, false]) (by kernel_rfl) (Chk.of rfl (by kernel_rfl) rfl) (fun _ _ _ _ _ h => h) (fun q_ x_ h_ => ?_) (fun σ2 => ?_)
    · match q_, h_ with
      | 0, h_ => cases h_; exact Ob.f rfl .n fun N => (O.ld rfl (mem_app N (mem_at 2 rfl)) (Lens.id _) ty31 rfl)
      | 1, h_ => cases h_; exact Ob.f rfl .n fun N => (O.ld rfl (mem_app N (mem_at 3 rfl)) (Lens.id _) ty31 rfl)
      | 2, h_ => cases h_; exact Ob.f rfl .n fun N => (O.ld rfl (mem_app N (mem_at 1 rfl)) (Lens.id _) ty31 rfl)
      | 3, h_ => cases h_; exact Ob.f rfl .n fun N => (O.ld rfl (mem_app N (mem_at 2 rfl)) (Lens.id _) ty31 rfl)
      | 4, h_ => cases h_; exact Ob.f rfl .n fun N => (O.fn fn91 (evs.l rfl (kC_Z hsd) (evs.l rfl (kC_Z hsu) evs.nil)) (c_ref02_Mul (r.fdiv s) u))
      | 5, h_ => cases h_; exact Ob.f rfl .n fun N => (O.fn fn90 (evs.l rfl (kC_Z hsx) (evs.l rfl (kC_Z hsq) evs.nil)) (c_ref02_Sub x ((r.fdiv s) * u)))
      | n_ + 6, h_ => simp at h_
    refine WP.t .n (O.stW (l := kC) (u := u) 3 rfl rfl rfl ty31 rfl (VP.le_refl _)) ?_
    refine WP.t .n (O.stW (l := kC) (u := x - ((r.fdiv s) * u)) 2 rfl rfl rfl ty31 rfl (VP.le_refl _)) ?_
    refine WP.nil ?_
    refine QE.next ?_
    refine CW.join [(2, VP.ex (.pointer (some ⟨b1, 0, none⟩))), (3, VP.ex (.pointer (some ⟨b2, 0, none⟩))), (4, VP.ex (.pointer (some ⟨b3, 0, none⟩))), (5, VP.ex (.pointer (some ⟨b4, 0, none⟩))), (6, VP.ex (.pointer (some ⟨b5, 0, none⟩))), (7, VP.ex (.pointer (some ⟨b6, 0, none⟩))), (8, VP.ex (.pointer (some ⟨(σ1 4), 0, none⟩))), (9, VP.ex (.pointer (some ⟨(σ1 5), 0, none⟩))), (10, VP.ex (.pointer (some ⟨b7, 0, none⟩))), (11, VP.ex (.pointer (some ⟨b8, 0, none⟩))), (12, VP.ex (.pointer (some ⟨b9, 0, none⟩))), (13, VP.ex (.pointer (some ⟨b10, 0, none⟩))), (34, kC.is s), (35, (kInt .i64).is s.sign), (36, kBool.is (decide (s.sign ≠ 0))), (37, VP.tup [kC.is (r.fdiv s), kC.is (r.fmod s)]), (38, kC.is r), (39, kC.is s), (40, VP.tup [kC.is (r.fdiv s), kC.is (r.fmod s)]), (41, kC.is (r.fdiv s)), (42, kC.is (r.fmod s)), (43, kC.is u), (44, kC.is x), (45, kC.is (r.fdiv s)), (46, kC.is u), (47, kC.is ((r.fdiv s) * u)), (48, kC.is (x - ((r.fdiv s) * u))), (49, kC.is s), (50, kC.is (r.fmod s))] [OB.box b10 31 kC (r.fmod s), OB.box b9 31 kC (r.fdiv s), OB.box b8 31 kC (x - ((r.fdiv s) * u)), OB.box b7 31 kC u, OB.box (σ1 4) 31 kC s, OB.box (σ1 5) 31 kC (r.fmod s), OB.box b6 31 kC (Int.gcd a b : Int), OB.box b5 31 kC 0, OB.box b4 31 kC 0, OB.box b3 31 kC 0, OB.box b2 31 kZ b, OB.box b1 31 kZ a] ?_ ?_
    · refine CW.any (by kernel_rfl) ?_
      refine DA.go 0 [1] (by kernel_rfl) ⟨?_, ⟨?_, trivial⟩⟩
      · refine DO.w rfl ?_
        refine WP.s .n (O.ld rfl (mem_at 5 rfl) (Lens.id _) ty31 rfl) ?_
        refine WP.nil ?_
        refine DO.nx ?_
        refine DA.go 1 [2] (by kernel_rfl) ⟨?_, ⟨?_, trivial⟩⟩
        · refine DO.w rfl ?_
          refine WP.s .n (O.ld rfl (mem_at 0 rfl) (Lens.id _) ty31 rfl) ?_
          refine WP.nil ?_
          refine DO.nx ?_
          refine DA.go 2 [] (by kernel_rfl) ⟨?_, trivial⟩
          refine DO.w rfl ?_
          refine WP.t .n (O.stW (l := kC) (u := s) 4 rfl rfl rfl ty31 rfl (VP.le_refl _)) ?_
          refine WP.nil ?_
          refine DO.nx ?_
          refine DA.go 3 [] (by kernel_rfl) ⟨?_, trivial⟩
          refine DO.w rfl ?_
          refine WP.t .n (O.stW (l := kC) (u := r.fmod s) 5 rfl rfl rfl ty31 rfl (VP.le_refl _)) ?_
          refine WP.nil ?_
          refine DO.nx ?_
          refine DA.nil (by kernel_rfl) ?_
          exact QE.join (Imp.cons rfl (Imp.cons rfl (Imp.cons rfl (Imp.cons rfl (Imp.cons rfl (Imp.cons rfl (Imp.cons rfl (Imp.cons rfl (Imp.cons rfl (Imp.cons rfl (Imp.cons rfl (Imp.cons rfl (Imp.cons rfl (Imp.cons rfl (Imp.cons rfl (Imp.cons rfl (Imp.cons rfl (Imp.cons rfl (Imp.cons rfl (Imp.cons rfl (Imp.cons rfl (Imp.cons rfl (Imp.cons rfl (Imp.cons rfl (Imp.cons rfl (Imp.cons rfl (Imp.cons rfl (Imp.cons rfl (Imp.cons rfl Imp.nil))))))))))))))))))))))))))))) (OImp.refl _)
        · refine DO.w rfl ?_
          refine WP.t .n (O.stW (l := kC) (u := s) 4 rfl rfl rfl ty31 rfl (VP.le_refl _)) ?_
          refine WP.nil ?_
          refine DO.nx ?_
          refine DA.go 1 [] (by kernel_rfl) ⟨?_, trivial⟩
          refine DO.w rfl ?_
          refine WP.s .n (O.ld rfl (mem_at 0 rfl) (Lens.id _) ty31 rfl) ?_
          refine WP.nil ?_
          refine DO.nx ?_
          refine DA.go 3 [] (by kernel_rfl) ⟨?_, trivial⟩
          refine DO.w rfl ?_
          refine WP.t .n (O.stW (l := kC) (u := r.fmod s) 5 rfl rfl rfl ty31 rfl (VP.le_refl _)) ?_
          refine WP.nil ?_
          refine DO.nx ?_
          refine DA.nil (by kernel_rfl) ?_
          exact QE.join (Imp.cons rfl (Imp.cons rfl (Imp.cons rfl (Imp.cons rfl (Imp.cons rfl (Imp.cons rfl (Imp.cons rfl (Imp.cons rfl (Imp.cons rfl (Imp.cons rfl (Imp.cons rfl (Imp.cons rfl (Imp.cons rfl (Imp.cons rfl (Imp.cons rfl (Imp.cons rfl (Imp.cons rfl (Imp.cons rfl (Imp.cons rfl (Imp.cons rfl (Imp.cons rfl (Imp.cons rfl (Imp.cons rfl (Imp.cons rfl (Imp.cons rfl (Imp.cons rfl (Imp.cons rfl (Imp.cons rfl (Imp.cons rfl Imp.nil))))))))))))))))))))))))))))) (OImp.refl _)
      · refine DO.w rfl ?_
        refine WP.s .n (O.ld rfl (mem_at 0 rfl) (Lens.id _) ty31 rfl) ?_
        refine WP.nil ?_
        refine DO.nx ?_
        refine DA.go 0 [] (by kernel_rfl) ⟨?_, trivial⟩
        refine DO.w rfl ?_
        refine WP.s .n (O.ld rfl (mem_at 5 rfl) (Lens.id _) ty31 rfl) ?_
        refine WP.nil ?_
        refine DO.nx ?_
        refine DA.go 2 [] (by kernel_rfl) ⟨?_, trivial⟩
        refine DO.w rfl ?_
        refine WP.t .n (O.stW (l := kC) (u := s) 4 rfl rfl rfl ty31 rfl (VP.le_refl _)) ?_
        refine WP.nil ?_
        refine DO.nx ?_
        refine DA.go 3 [] (by kernel_rfl) ⟨?_, trivial⟩
        refine DO.w rfl ?_
        refine WP.t .n (O.stW (l := kC) (u := r.fmod s) 5 rfl rfl rfl ty31 rfl (VP.le_refl _)) ?_
        refine WP.nil ?_
        refine DO.nx ?_
        refine DA.nil (by kernel_rfl) ?_
        exact QE.join (Imp.cons rfl (Imp.cons rfl (Imp.cons rfl (Imp.cons rfl (Imp.cons rfl (Imp.cons rfl (Imp.cons rfl (Imp.cons rfl (Imp.cons rfl (Imp.cons rfl (Imp.cons rfl (Imp.cons rfl (Imp.cons rfl (Imp.cons rfl (Imp.cons rfl (Imp.cons rfl (Imp.cons rfl (Imp.cons rfl (Imp.cons rfl (Imp.cons rfl (Imp.cons rfl (Imp.cons rfl (Imp.cons rfl (Imp.cons rfl (Imp.cons rfl (Imp.cons rfl (Imp.cons rfl (Imp.cons rfl (Imp.cons rfl Imp.nil))))))))))))))))))))))))))))) (OImp.refl _)
    refine QE.blkN ?_
    exact QE.round4 s (r.fmod s) u (x - r.fdiv s * u) (by exact fmod_abs hs0) (bzR_s hs0 hZ).1 (Imp.cons rfl (Imp.cons rfl (Imp.cons rfl (Imp.cons rfl (Imp.cons rfl (Imp.cons rfl (Imp.cons rfl (Imp.cons rfl (Imp.cons rfl (Imp.cons rfl Imp.nil)))))))))) (OImp.os (OS.skip (OS.skip (OS.keepLe (OB.box_eq (by first | rfl | assumption)) (OS.keep (OS.keep (OS.keep (OS.keep (OS.keep (OS.keep (OS.keep (OS.keep (OS.keep OS.nil)))))))))))))
  · have hs0 := sgn_n0 h_t36
    have hE := bzR_end hs0 hZ
    obtain ⟨hg1, hg2, hg3, hg4, hg5, hg6⟩ := bz_sme ha0 hb0 ha hb
    refine CW.exit ?_
    refine QE.thenE ?_
    refine QE.thenE ?_
    refine QE.blkH ?_
    refine QE.next ?_
    refine CW.seq ?_
    refine CW.seq ?_
    refine CW.region ?_
    refine WP.s .n (O.ld rfl (mem_at 2 rfl) (Lens.id _) ty31 rfl) ?_
    refine WP.s .n (O.fn fn83 (evs.l rfl (kC_Z hsr) evs.nil) (c_ref02_Sign r)) ?_
    refine WP.s .n (O.lt rfl rfl) ?_
    refine WP.nil ?_
    refine QE.next ?_
    refine CW.condD rfl (fun h => absurd h (nn_sgn hZ.2.2.1)) (fun h_t53 => ?_)
    refine CW.skip ?_
    refine QE.next ?_
    refine CW.seq ?_
    refine CW.draw (Γ := [.fr (kZ.is b), .fr (kC.is (b.natAbs : Int)), .fr (kC.is (Int.gcd a b : Int)), .fr (VP.tup [kC.is ((b.natAbs : Int).fdiv (Int.gcd a b : Int)), kC.is ((b.natAbs : Int).fmod (Int.gcd a b : Int))]), .fr (VP.tup [kC.is ((b.natAbs : Int).fdiv (Int.gcd a b : Int)), kC.is ((b.natAbs : Int).fmod (Int.gcd a b : Int))]), .fr (kC.is ((b.natAbs : Int).fdiv (Int.gcd a b : Int))), .lt (kC.is ((b.natAbs : Int).fmod (Int.gcd a b : Int))), .al (fun b => OB.box b 31 kC 0), .al (fun b => OB.box b 31 kC 0)]) (lates := [false, false, false, false, false, false, true, false, false]) (by kernel_rfl) (Chk.of rfl (by kernel_rfl) rfl) (fun _ _ _ _ _ h => h) (fun q_ x_ h_ => ?_) (fun σ4 => ?_)
    · match q_, h_ with
      | 0, h_ => cases h_; exact Ob.f rfl .n fun N => (O.ld rfl (mem_app N (mem_at 8 rfl)) (Lens.id _) ty31 rfl)
      | 1, h_ => cases h_; exact Ob.f rfl .n fun N => (O.fn fn171 (evs.c rfl evs.nil) (c_ref02_Abs b))
      | 2, h_ => cases h_; exact Ob.f rfl .n fun N => (O.ld rfl (mem_app N (mem_at 4 rfl)) (Lens.id _) ty31 rfl)
      | 3, h_ => cases h_; exact Ob.f rfl .n fun N => (O.fn fn89 (evs.l rfl (kC_Z hg6) (evs.l rfl (kC_Z hg1) evs.nil)) (c_ref02_Floor (b.natAbs : Int) (Int.gcd a b : Int) (Int.ne_of_gt (gcd_pos (a := a) hb0).1)))
      | 4, h_ => cases h_; exact Ob.f rfl .n fun N => (O.mv rfl)
      | 5, h_ => cases h_; exact Ob.f rfl .n fun N => (O.ext rfl rfl)
      | 6, h_ => cases h_; exact Ob.l rfl .n (OV.ext rfl rfl)
      | 7, h_ => cases h_; exact Ob.a rfl z31_C
      | 8, h_ => cases h_; exact Ob.a rfl z31_C
      | n_ + 9, h_ => simp at h_
    refine WP.t .n (O.stW (l := kC) (u := (b.natAbs : Int).fdiv (Int.gcd a b : Int)) 0 rfl rfl rfl ty31 rfl (VP.le_refl _)) ?_
    refine WP.t .n (O.stW (l := kC) (u := (b.natAbs : Int).fmod (Int.gcd a b : Int)) 1 rfl rfl rfl ty31 rfl (VP.le_refl _)) ?_
    refine WP.nil ?_
    refine QE.next ?_
    refine CW.seq ?_
    refine ST.obtold 0 rfl (OB.box_eq (y := (b.fdiv (Int.gcd a b))) (by rw [abs_pos hb0])) ?_
    refine CW.region ?_
    refine WP.s .n (O.ld rfl (mem_at 3 rfl) (Lens.id _) ty31 rfl) ?_
    refine WP.s .n (O.ld rfl (mem_at 0 rfl) (Lens.id _) ty31 rfl) ?_
    refine WP.s .n (O.fn fn89 (evs.l rfl (kC_Z hsx) (evs.l rfl (kC_Z hg2) evs.nil)) (c_ref02_Floor x (b.fdiv (Int.gcd a b)) (Int.ne_of_gt (step_pos (a := a) hb0).1))) ?_
    refine WP.s .n (O.mv rfl) ?_
    refine WP.s .n (O.ext rfl rfl) ?_
    refine WP.s .n (O.ext rfl rfl) ?_
    refine WP.t .n (O.stW (l := kC) (u := x.fmod (b.fdiv (Int.gcd a b))) 3 rfl rfl rfl ty31 rfl (VP.le_refl _)) ?_
    refine WP.nil ?_
    refine QE.next ?_
    refine CW.seq ?_
    refine ST.obtold 3 rfl (OB.box_eq (y := (bezX a b)) (by unfold bezX; rw [hE.2])) ?_
    refine CW.draw (Γ := [.fr (kC.is (Int.gcd a b : Int)), .fr (kC.is (bezX a b)), .fr (kZ.is a), .fr (kC.is ((bezX a b) * a)), .fr (kC.is ((Int.gcd a b : Int) - ((bezX a b) * a))), .fr (kZ.is b), .fr (VP.tup [kC.is (((Int.gcd a b : Int) - ((bezX a b) * a)).fdiv b), kC.is (((Int.gcd a b : Int) - ((bezX a b) * a)).fmod b)]), .fr (VP.tup [kC.is (((Int.gcd a b : Int) - ((bezX a b) * a)).fdiv b), kC.is (((Int.gcd a b : Int) - ((bezX a b) * a)).fmod b)]), .fr (kC.is (((Int.gcd a b : Int) - ((bezX a b) * a)).fdiv b)), .lt (kC.is (((Int.gcd a b : Int) - ((bezX a b) * a)).fmod b))]) (lates := [false, false, false, false, false, false, false, false, false, true]) (by kernel_rfl) (Chk.of rfl (by kernel_rfl) rfl) (fun _ _ _ _ _ h => h) (fun q_ x_ h_ => ?_) (fun σ5 => ?_)
    · match q_, h_ with
      | 0, h_ => cases h_; exact Ob.f rfl .n fun N => (O.ld rfl (mem_app N (mem_at 6 rfl)) (Lens.id _) ty31 rfl)
      | 1, h_ => cases h_; exact Ob.f rfl .n fun N => (O.ld rfl (mem_app N (mem_at 3 rfl)) (Lens.id _) ty31 rfl)
      | 2, h_ => cases h_; exact Ob.f rfl .n fun N => (O.ld rfl (mem_app N (mem_at 11 rfl)) (Lens.id _) ty31 rfl)
      | 3, h_ => cases h_; exact Ob.f rfl .n fun N => (O.fn fn91 (evs.l rfl (kC_Z hg3) (evs.c rfl evs.nil)) (c_ref02_Mul (bezX a b) a))
      | 4, h_ => cases h_; exact Ob.f rfl .n fun N => (O.fn fn90 (evs.l rfl (kC_Z hg1) (evs.l rfl (kC_Z hg4) evs.nil)) (c_ref02_Sub (Int.gcd a b : Int) ((bezX a b) * a)))
      | 5, h_ => cases h_; exact Ob.f rfl .n fun N => (O.ld rfl (mem_app N (mem_at 10 rfl)) (Lens.id _) ty31 rfl)
      | 6, h_ => cases h_; exact Ob.f rfl .n fun N => (O.fn fn89 (evs.l rfl (kC_Z hg5) (evs.c rfl evs.nil)) (c_ref02_Floor ((Int.gcd a b : Int) - ((bezX a b) * a)) b (Int.ne_of_gt hb0)))
      | 7, h_ => cases h_; exact Ob.f rfl .n fun N => (O.mv rfl)
      | 8, h_ => cases h_; exact Ob.f rfl .n fun N => (O.ext rfl rfl)
      | 9, h_ => cases h_; exact Ob.l rfl .n (OV.ext rfl rfl)
      | n_ + 10, h_ => simp at h_
    refine WP.t .n (O.stW (l := kC) (u := ((Int.gcd a b : Int) - ((bezX a b) * a)).fdiv b) 2 rfl rfl rfl ty31 rfl (VP.le_refl _)) ?_
    refine WP.nil ?_
    refine QE.next ?_
    refine CW.seq ?_
    refine CW.join [(2, VP.ex (.pointer (some ⟨b1, 0, none⟩))), (3, VP.ex (.pointer (some ⟨b2, 0, none⟩))), (4, VP.ex (.pointer (some ⟨b3, 0, none⟩))), (5, VP.ex (.pointer (some ⟨b4, 0, none⟩))), (6, VP.ex (.pointer (some ⟨b5, 0, none⟩))), (7, VP.ex (.pointer (some ⟨b6, 0, none⟩))), (8, VP.ex (.pointer (some ⟨(σ1 4), 0, none⟩))), (9, VP.ex (.pointer (some ⟨(σ1 5), 0, none⟩))), (10, VP.ex (.pointer (some ⟨b7, 0, none⟩))), (11, VP.ex (.pointer (some ⟨b8, 0, none⟩))), (14, VP.ex (.pointer (some ⟨(σ4 7), 0, none⟩))), (15, VP.ex (.pointer (some ⟨(σ4 8), 0, none⟩))), (34, kC.is s), (35, (kInt .i64).is s.sign), (36, kBool.is (decide (s.sign ≠ 0))), (51, kC.is r), (52, (kInt .i64).is r.sign), (53, kBool.is (decide (r.sign < 0))), (56, VP.tup [kC.is ((b.natAbs : Int).fdiv (Int.gcd a b : Int)), kC.is ((b.natAbs : Int).fmod (Int.gcd a b : Int))]), (57, kZ.is b), (58, kC.is (b.natAbs : Int)), (59, kC.is (Int.gcd a b : Int)), (60, VP.tup [kC.is ((b.natAbs : Int).fdiv (Int.gcd a b : Int)), kC.is ((b.natAbs : Int).fmod (Int.gcd a b : Int))]), (61, kC.is ((b.natAbs : Int).fdiv (Int.gcd a b : Int))), (62, kC.is ((b.natAbs : Int).fmod (Int.gcd a b : Int))), (63, VP.tup [kC.is (x.fdiv (b.fdiv (Int.gcd a b))), kC.is (x.fmod (b.fdiv (Int.gcd a b)))]), (64, kC.is x), (65, kC.is (b.fdiv (Int.gcd a b))), (66, VP.tup [kC.is (x.fdiv (b.fdiv (Int.gcd a b))), kC.is (x.fmod (b.fdiv (Int.gcd a b)))]), (67, kC.is (x.fdiv (b.fdiv (Int.gcd a b)))), (68, kC.is (x.fmod (b.fdiv (Int.gcd a b)))), (69, VP.tup [kC.is (((Int.gcd a b : Int) - ((bezX a b) * a)).fdiv b), kC.is (((Int.gcd a b : Int) - ((bezX a b) * a)).fmod b)]), (70, kC.is (Int.gcd a b : Int)), (71, kC.is (bezX a b)), (72, kZ.is a), (73, kC.is ((bezX a b) * a)), (74, kC.is ((Int.gcd a b : Int) - ((bezX a b) * a))), (75, kZ.is b), (76, VP.tup [kC.is (((Int.gcd a b : Int) - ((bezX a b) * a)).fdiv b), kC.is (((Int.gcd a b : Int) - ((bezX a b) * a)).fmod b)]), (77, kC.is (((Int.gcd a b : Int) - ((bezX a b) * a)).fdiv b)), (78, kC.is (((Int.gcd a b : Int) - ((bezX a b) * a)).fmod b)), (79, kC.is (Int.gcd a b : Int)), (80, kC.is (bezX a b)), (81, kC.is (((Int.gcd a b : Int) - ((bezX a b) * a)).fdiv b))] [OB.box (σ4 7) 31 kC (b.fdiv (Int.gcd a b)), OB.box (σ4 8) 31 kC ((b.natAbs : Int).fmod (Int.gcd a b : Int)), OB.box b8 31 kC (((Int.gcd a b : Int) - ((bezX a b) * a)).fdiv b), OB.box b7 31 kC (bezX a b), OB.box (σ1 4) 31 kC r, OB.box (σ1 5) 31 kC s, OB.box b6 31 kC (Int.gcd a b : Int), OB.box b5 31 kC (((Int.gcd a b : Int) - ((bezX a b) * a)).fdiv b), OB.box b4 31 kC (bezX a b), OB.box b3 31 kC (Int.gcd a b : Int), OB.box b2 31 kZ b, OB.box b1 31 kZ a] ?_ ?_
    · refine CW.any (by kernel_rfl) ?_
      refine DA.go 0 [1, 2] (by kernel_rfl) ⟨?_, ⟨?_, ⟨?_, trivial⟩⟩⟩
      · refine DO.w rfl ?_
        refine WP.s .n (O.ld rfl (mem_at 6 rfl) (Lens.id _) ty31 rfl) ?_
        refine WP.nil ?_
        refine DO.nx ?_
        refine DA.go 1 [2, 3] (by kernel_rfl) ⟨?_, ⟨?_, ⟨?_, trivial⟩⟩⟩
        · refine DO.w rfl ?_
          refine WP.s .n (O.ld rfl (mem_at 3 rfl) (Lens.id _) ty31 rfl) ?_
          refine WP.nil ?_
          refine DO.nx ?_
          refine DA.go 2 [3] (by kernel_rfl) ⟨?_, ⟨?_, trivial⟩⟩
          · refine DO.w rfl ?_
            refine WP.s .n (O.ld rfl (mem_at 2 rfl) (Lens.id _) ty31 rfl) ?_
            refine WP.nil ?_
            refine DO.nx ?_
            refine DA.go 3 [] (by kernel_rfl) ⟨?_, trivial⟩
            refine DO.w rfl ?_
            refine WP.t .n (O.stW (l := kC) (u := (Int.gcd a b : Int)) 9 rfl rfl rfl ty31 rfl (VP.le_refl _)) ?_
            refine WP.nil ?_
            refine DO.nx ?_
            refine DA.go 4 [] (by kernel_rfl) ⟨?_, trivial⟩
            refine DO.w rfl ?_
            refine WP.t .n (O.stW (l := kC) (u := (bezX a b)) 8 rfl rfl rfl ty31 rfl (VP.le_refl _)) ?_
            refine WP.nil ?_
            refine DO.nx ?_
            refine DA.go 5 [] (by kernel_rfl) ⟨?_, trivial⟩
            refine DO.w rfl ?_
            refine WP.t .n (O.stW (l := kC) (u := ((Int.gcd a b : Int) - ((bezX a b) * a)).fdiv b) 7 rfl rfl rfl ty31 rfl (VP.le_refl _)) ?_
            refine WP.nil ?_
            refine DO.nx ?_
            refine DA.nil (by kernel_rfl) ?_
            exact QE.join (Imp.cons rfl (Imp.cons rfl (Imp.cons rfl (Imp.cons rfl (Imp.cons rfl (Imp.cons rfl (Imp.cons rfl (Imp.cons rfl (Imp.cons rfl (Imp.cons rfl (Imp.cons rfl (Imp.cons rfl (Imp.cons rfl (Imp.cons rfl (Imp.cons rfl (Imp.cons rfl (Imp.cons rfl (Imp.cons rfl (Imp.cons rfl (Imp.cons rfl (Imp.cons rfl (Imp.cons rfl (Imp.cons rfl (Imp.cons rfl (Imp.cons rfl (Imp.cons rfl (Imp.cons rfl (Imp.cons rfl (Imp.cons rfl (Imp.cons rfl (Imp.cons rfl (Imp.cons rfl (Imp.cons rfl (Imp.cons rfl (Imp.cons rfl (Imp.cons rfl (Imp.cons rfl (Imp.cons rfl (Imp.cons rfl (Imp.cons rfl (Imp.cons rfl (Imp.cons rfl (Imp.cons rfl (Imp.cons rfl Imp.nil)))))))))))))))))))))))))))))))))))))))))))) (OImp.refl _)
          · refine DO.w rfl ?_
            refine WP.t .n (O.stW (l := kC) (u := (Int.gcd a b : Int)) 9 rfl rfl rfl ty31 rfl (VP.le_refl _)) ?_
            refine WP.nil ?_
            refine DO.nx ?_
            refine DA.go 2 [4] (by kernel_rfl) ⟨?_, ⟨?_, trivial⟩⟩
            · refine DO.w rfl ?_
              refine WP.s .n (O.ld rfl (mem_at 2 rfl) (Lens.id _) ty31 rfl) ?_
              refine WP.nil ?_
              refine DO.nx ?_
              refine DA.go 4 [] (by kernel_rfl) ⟨?_, trivial⟩
              refine DO.w rfl ?_
              refine WP.t .n (O.stW (l := kC) (u := (bezX a b)) 8 rfl rfl rfl ty31 rfl (VP.le_refl _)) ?_
              refine WP.nil ?_
              refine DO.nx ?_
              refine DA.go 5 [] (by kernel_rfl) ⟨?_, trivial⟩
              refine DO.w rfl ?_
              refine WP.t .n (O.stW (l := kC) (u := ((Int.gcd a b : Int) - ((bezX a b) * a)).fdiv b) 7 rfl rfl rfl ty31 rfl (VP.le_refl _)) ?_
              refine WP.nil ?_
              refine DO.nx ?_
              refine DA.nil (by kernel_rfl) ?_
              exact QE.join (Imp.cons rfl (Imp.cons rfl (Imp.cons rfl (Imp.cons rfl (Imp.cons rfl (Imp.cons rfl (Imp.cons rfl (Imp.cons rfl (Imp.cons rfl (Imp.cons rfl (Imp.cons rfl (Imp.cons rfl (Imp.cons rfl (Imp.cons rfl (Imp.cons rfl (Imp.cons rfl (Imp.cons rfl (Imp.cons rfl (Imp.cons rfl (Imp.cons rfl (Imp.cons rfl (Imp.cons rfl (Imp.cons rfl (Imp.cons rfl (Imp.cons rfl (Imp.cons rfl (Imp.cons rfl (Imp.cons rfl (Imp.cons rfl (Imp.cons rfl (Imp.cons rfl (Imp.cons rfl (Imp.cons rfl (Imp.cons rfl (Imp.cons rfl (Imp.cons rfl (Imp.cons rfl (Imp.cons rfl (Imp.cons rfl (Imp.cons rfl (Imp.cons rfl (Imp.cons rfl (Imp.cons rfl (Imp.cons rfl Imp.nil)))))))))))))))))))))))))))))))))))))))))))) (OImp.refl _)
            · refine DO.w rfl ?_
              refine WP.t .n (O.stW (l := kC) (u := (bezX a b)) 8 rfl rfl rfl ty31 rfl (VP.le_refl _)) ?_
              refine WP.nil ?_
              refine DO.nx ?_
              refine DA.go 2 [] (by kernel_rfl) ⟨?_, trivial⟩
              refine DO.w rfl ?_
              refine WP.s .n (O.ld rfl (mem_at 2 rfl) (Lens.id _) ty31 rfl) ?_
              refine WP.nil ?_
              refine DO.nx ?_
              refine DA.go 5 [] (by kernel_rfl) ⟨?_, trivial⟩
              refine DO.w rfl ?_
              refine WP.t .n (O.stW (l := kC) (u := ((Int.gcd a b : Int) - ((bezX a b) * a)).fdiv b) 7 rfl rfl rfl ty31 rfl (VP.le_refl _)) ?_
              refine WP.nil ?_
              refine DO.nx ?_
              refine DA.nil (by kernel_rfl) ?_
              exact QE.join (Imp.cons rfl (Imp.cons rfl (Imp.cons rfl (Imp.cons rfl (Imp.cons rfl (Imp.cons rfl (Imp.cons rfl (Imp.cons rfl (Imp.cons rfl (Imp.cons rfl (Imp.cons rfl (Imp.cons rfl (Imp.cons rfl (Imp.cons rfl (Imp.cons rfl (Imp.cons rfl (Imp.cons rfl (Imp.cons rfl (Imp.cons rfl (Imp.cons rfl (Imp.cons rfl (Imp.cons rfl (Imp.cons rfl (Imp.cons rfl (Imp.cons rfl (Imp.cons rfl (Imp.cons rfl (Imp.cons rfl (Imp.cons rfl (Imp.cons rfl (Imp.cons rfl (Imp.cons rfl (Imp.cons rfl (Imp.cons rfl (Imp.cons rfl (Imp.cons rfl (Imp.cons rfl (Imp.cons rfl (Imp.cons rfl (Imp.cons rfl (Imp.cons rfl (Imp.cons rfl (Imp.cons rfl (Imp.cons rfl Imp.nil)))))))))))))))))))))))))))))))))))))))))))) (OImp.refl _)
        · refine DO.w rfl ?_
          refine WP.s .n (O.ld rfl (mem_at 2 rfl) (Lens.id _) ty31 rfl) ?_
          refine WP.nil ?_
          refine DO.nx ?_
          refine DA.go 1 [3] (by kernel_rfl) ⟨?_, ⟨?_, trivial⟩⟩
          · refine DO.w rfl ?_
            refine WP.s .n (O.ld rfl (mem_at 3 rfl) (Lens.id _) ty31 rfl) ?_
            refine WP.nil ?_
            refine DO.nx ?_
            refine DA.go 3 [] (by kernel_rfl) ⟨?_, trivial⟩
            refine DO.w rfl ?_
            refine WP.t .n (O.stW (l := kC) (u := (Int.gcd a b : Int)) 9 rfl rfl rfl ty31 rfl (VP.le_refl _)) ?_
            refine WP.nil ?_
            refine DO.nx ?_
            refine DA.go 4 [] (by kernel_rfl) ⟨?_, trivial⟩
            refine DO.w rfl ?_
            refine WP.t .n (O.stW (l := kC) (u := (bezX a b)) 8 rfl rfl rfl ty31 rfl (VP.le_refl _)) ?_
            refine WP.nil ?_
            refine DO.nx ?_
            refine DA.go 5 [] (by kernel_rfl) ⟨?_, trivial⟩
            refine DO.w rfl ?_
            refine WP.t .n (O.stW (l := kC) (u := ((Int.gcd a b : Int) - ((bezX a b) * a)).fdiv b) 7 rfl rfl rfl ty31 rfl (VP.le_refl _)) ?_
            refine WP.nil ?_
            refine DO.nx ?_
            refine DA.nil (by kernel_rfl) ?_
            exact QE.join (Imp.cons rfl (Imp.cons rfl (Imp.cons rfl (Imp.cons rfl (Imp.cons rfl (Imp.cons rfl (Imp.cons rfl (Imp.cons rfl (Imp.cons rfl (Imp.cons rfl (Imp.cons rfl (Imp.cons rfl (Imp.cons rfl (Imp.cons rfl (Imp.cons rfl (Imp.cons rfl (Imp.cons rfl (Imp.cons rfl (Imp.cons rfl (Imp.cons rfl (Imp.cons rfl (Imp.cons rfl (Imp.cons rfl (Imp.cons rfl (Imp.cons rfl (Imp.cons rfl (Imp.cons rfl (Imp.cons rfl (Imp.cons rfl (Imp.cons rfl (Imp.cons rfl (Imp.cons rfl (Imp.cons rfl (Imp.cons rfl (Imp.cons rfl (Imp.cons rfl (Imp.cons rfl (Imp.cons rfl (Imp.cons rfl (Imp.cons rfl (Imp.cons rfl (Imp.cons rfl (Imp.cons rfl (Imp.cons rfl Imp.nil)))))))))))))))))))))))))))))))))))))))))))) (OImp.refl _)
          · refine DO.w rfl ?_
            refine WP.t .n (O.stW (l := kC) (u := (Int.gcd a b : Int)) 9 rfl rfl rfl ty31 rfl (VP.le_refl _)) ?_
            refine WP.nil ?_
            refine DO.nx ?_
            refine DA.go 1 [] (by kernel_rfl) ⟨?_, trivial⟩
            refine DO.w rfl ?_
            refine WP.s .n (O.ld rfl (mem_at 3 rfl) (Lens.id _) ty31 rfl) ?_
            refine WP.nil ?_
            refine DO.nx ?_
            refine DA.go 4 [] (by kernel_rfl) ⟨?_, trivial⟩
            refine DO.w rfl ?_
            refine WP.t .n (O.stW (l := kC) (u := (bezX a b)) 8 rfl rfl rfl ty31 rfl (VP.le_refl _)) ?_
            refine WP.nil ?_
            refine DO.nx ?_
            refine DA.go 5 [] (by kernel_rfl) ⟨?_, trivial⟩
            refine DO.w rfl ?_
            refine WP.t .n (O.stW (l := kC) (u := ((Int.gcd a b : Int) - ((bezX a b) * a)).fdiv b) 7 rfl rfl rfl ty31 rfl (VP.le_refl _)) ?_
            refine WP.nil ?_
            refine DO.nx ?_
            refine DA.nil (by kernel_rfl) ?_
            exact QE.join (Imp.cons rfl (Imp.cons rfl (Imp.cons rfl (Imp.cons rfl (Imp.cons rfl (Imp.cons rfl (Imp.cons rfl (Imp.cons rfl (Imp.cons rfl (Imp.cons rfl (Imp.cons rfl (Imp.cons rfl (Imp.cons rfl (Imp.cons rfl (Imp.cons rfl (Imp.cons rfl (Imp.cons rfl (Imp.cons rfl (Imp.cons rfl (Imp.cons rfl (Imp.cons rfl (Imp.cons rfl (Imp.cons rfl (Imp.cons rfl (Imp.cons rfl (Imp.cons rfl (Imp.cons rfl (Imp.cons rfl (Imp.cons rfl (Imp.cons rfl (Imp.cons rfl (Imp.cons rfl (Imp.cons rfl (Imp.cons rfl (Imp.cons rfl (Imp.cons rfl (Imp.cons rfl (Imp.cons rfl (Imp.cons rfl (Imp.cons rfl (Imp.cons rfl (Imp.cons rfl (Imp.cons rfl (Imp.cons rfl Imp.nil)))))))))))))))))))))))))))))))))))))))))))) (OImp.refl _)
        · refine DO.w rfl ?_
          refine WP.t .n (O.stW (l := kC) (u := (Int.gcd a b : Int)) 9 rfl rfl rfl ty31 rfl (VP.le_refl _)) ?_
          refine WP.nil ?_
          refine DO.nx ?_
          refine DA.go 1 [2] (by kernel_rfl) ⟨?_, ⟨?_, trivial⟩⟩
          · refine DO.w rfl ?_
            refine WP.s .n (O.ld rfl (mem_at 3 rfl) (Lens.id _) ty31 rfl) ?_
            refine WP.nil ?_
            refine DO.nx ?_
            refine DA.go 2 [4] (by kernel_rfl) ⟨?_, ⟨?_, trivial⟩⟩
            · refine DO.w rfl ?_
              refine WP.s .n (O.ld rfl (mem_at 2 rfl) (Lens.id _) ty31 rfl) ?_
              refine WP.nil ?_
              refine DO.nx ?_
              refine DA.go 4 [] (by kernel_rfl) ⟨?_, trivial⟩
              refine DO.w rfl ?_
              refine WP.t .n (O.stW (l := kC) (u := (bezX a b)) 8 rfl rfl rfl ty31 rfl (VP.le_refl _)) ?_
              refine WP.nil ?_
              refine DO.nx ?_
              refine DA.go 5 [] (by kernel_rfl) ⟨?_, trivial⟩
              refine DO.w rfl ?_
              refine WP.t .n (O.stW (l := kC) (u := ((Int.gcd a b : Int) - ((bezX a b) * a)).fdiv b) 7 rfl rfl rfl ty31 rfl (VP.le_refl _)) ?_
              refine WP.nil ?_
              refine DO.nx ?_
              refine DA.nil (by kernel_rfl) ?_
              exact QE.join (Imp.cons rfl (Imp.cons rfl (Imp.cons rfl (Imp.cons rfl (Imp.cons rfl (Imp.cons rfl (Imp.cons rfl (Imp.cons rfl (Imp.cons rfl (Imp.cons rfl (Imp.cons rfl (Imp.cons rfl (Imp.cons rfl (Imp.cons rfl (Imp.cons rfl (Imp.cons rfl (Imp.cons rfl (Imp.cons rfl (Imp.cons rfl (Imp.cons rfl (Imp.cons rfl (Imp.cons rfl (Imp.cons rfl (Imp.cons rfl (Imp.cons rfl (Imp.cons rfl (Imp.cons rfl (Imp.cons rfl (Imp.cons rfl (Imp.cons rfl (Imp.cons rfl (Imp.cons rfl (Imp.cons rfl (Imp.cons rfl (Imp.cons rfl (Imp.cons rfl (Imp.cons rfl (Imp.cons rfl (Imp.cons rfl (Imp.cons rfl (Imp.cons rfl (Imp.cons rfl (Imp.cons rfl (Imp.cons rfl Imp.nil)))))))))))))))))))))))))))))))))))))))))))) (OImp.refl _)
            · refine DO.w rfl ?_
              refine WP.t .n (O.stW (l := kC) (u := (bezX a b)) 8 rfl rfl rfl ty31 rfl (VP.le_refl _)) ?_
              refine WP.nil ?_
              refine DO.nx ?_
              refine DA.go 2 [] (by kernel_rfl) ⟨?_, trivial⟩
              refine DO.w rfl ?_
              refine WP.s .n (O.ld rfl (mem_at 2 rfl) (Lens.id _) ty31 rfl) ?_
              refine WP.nil ?_
              refine DO.nx ?_
              refine DA.go 5 [] (by kernel_rfl) ⟨?_, trivial⟩
              refine DO.w rfl ?_
              refine WP.t .n (O.stW (l := kC) (u := ((Int.gcd a b : Int) - ((bezX a b) * a)).fdiv b) 7 rfl rfl rfl ty31 rfl (VP.le_refl _)) ?_
              refine WP.nil ?_
              refine DO.nx ?_
              refine DA.nil (by kernel_rfl) ?_
              exact QE.join (Imp.cons rfl (Imp.cons rfl (Imp.cons rfl (Imp.cons rfl (Imp.cons rfl (Imp.cons rfl (Imp.cons rfl (Imp.cons rfl (Imp.cons rfl (Imp.cons rfl (Imp.cons rfl (Imp.cons rfl (Imp.cons rfl (Imp.cons rfl (Imp.cons rfl (Imp.cons rfl (Imp.cons rfl (Imp.cons rfl (Imp.cons rfl (Imp.cons rfl (Imp.cons rfl (Imp.cons rfl (Imp.cons rfl (Imp.cons rfl (Imp.cons rfl (Imp.cons rfl (Imp.cons rfl (Imp.cons rfl (Imp.cons rfl (Imp.cons rfl (Imp.cons rfl (Imp.cons rfl (Imp.cons rfl (Imp.cons rfl (Imp.cons rfl (Imp.cons rfl (Imp.cons rfl (Imp.cons rfl (Imp.cons rfl (Imp.cons rfl (Imp.cons rfl (Imp.cons rfl (Imp.cons rfl (Imp.cons rfl Imp.nil)))))))))))))))))))))))))))))))))))))))))))) (OImp.refl _)
          · refine DO.w rfl ?_
            refine WP.s .n (O.ld rfl (mem_at 2 rfl) (Lens.id _) ty31 rfl) ?_
            refine WP.nil ?_
            refine DO.nx ?_
            refine DA.go 1 [] (by kernel_rfl) ⟨?_, trivial⟩
            refine DO.w rfl ?_
            refine WP.s .n (O.ld rfl (mem_at 3 rfl) (Lens.id _) ty31 rfl) ?_
            refine WP.nil ?_
            refine DO.nx ?_
            refine DA.go 4 [] (by kernel_rfl) ⟨?_, trivial⟩
            refine DO.w rfl ?_
            refine WP.t .n (O.stW (l := kC) (u := (bezX a b)) 8 rfl rfl rfl ty31 rfl (VP.le_refl _)) ?_
            refine WP.nil ?_
            refine DO.nx ?_
            refine DA.go 5 [] (by kernel_rfl) ⟨?_, trivial⟩
            refine DO.w rfl ?_
            refine WP.t .n (O.stW (l := kC) (u := ((Int.gcd a b : Int) - ((bezX a b) * a)).fdiv b) 7 rfl rfl rfl ty31 rfl (VP.le_refl _)) ?_
            refine WP.nil ?_
            refine DO.nx ?_
            refine DA.nil (by kernel_rfl) ?_
            exact QE.join (Imp.cons rfl (Imp.cons rfl (Imp.cons rfl (Imp.cons rfl (Imp.cons rfl (Imp.cons rfl (Imp.cons rfl (Imp.cons rfl (Imp.cons rfl (Imp.cons rfl (Imp.cons rfl (Imp.cons rfl (Imp.cons rfl (Imp.cons rfl (Imp.cons rfl (Imp.cons rfl (Imp.cons rfl (Imp.cons rfl (Imp.cons rfl (Imp.cons rfl (Imp.cons rfl (Imp.cons rfl (Imp.cons rfl (Imp.cons rfl (Imp.cons rfl (Imp.cons rfl (Imp.cons rfl (Imp.cons rfl (Imp.cons rfl (Imp.cons rfl (Imp.cons rfl (Imp.cons rfl (Imp.cons rfl (Imp.cons rfl (Imp.cons rfl (Imp.cons rfl (Imp.cons rfl (Imp.cons rfl (Imp.cons rfl (Imp.cons rfl (Imp.cons rfl (Imp.cons rfl (Imp.cons rfl (Imp.cons rfl Imp.nil)))))))))))))))))))))))))))))))))))))))))))) (OImp.refl _)
      · refine DO.w rfl ?_
        refine WP.s .n (O.ld rfl (mem_at 3 rfl) (Lens.id _) ty31 rfl) ?_
        refine WP.nil ?_
        refine DO.nx ?_
        refine DA.go 0 [2] (by kernel_rfl) ⟨?_, ⟨?_, trivial⟩⟩
        · refine DO.w rfl ?_
          refine WP.s .n (O.ld rfl (mem_at 6 rfl) (Lens.id _) ty31 rfl) ?_
          refine WP.nil ?_
          refine DO.nx ?_
          refine DA.go 2 [3] (by kernel_rfl) ⟨?_, ⟨?_, trivial⟩⟩
          · refine DO.w rfl ?_
            refine WP.s .n (O.ld rfl (mem_at 2 rfl) (Lens.id _) ty31 rfl) ?_
            refine WP.nil ?_
            refine DO.nx ?_
            refine DA.go 3 [] (by kernel_rfl) ⟨?_, trivial⟩
            refine DO.w rfl ?_
            refine WP.t .n (O.stW (l := kC) (u := (Int.gcd a b : Int)) 9 rfl rfl rfl ty31 rfl (VP.le_refl _)) ?_
            refine WP.nil ?_
            refine DO.nx ?_
            refine DA.go 4 [] (by kernel_rfl) ⟨?_, trivial⟩
            refine DO.w rfl ?_
            refine WP.t .n (O.stW (l := kC) (u := (bezX a b)) 8 rfl rfl rfl ty31 rfl (VP.le_refl _)) ?_
            refine WP.nil ?_
            refine DO.nx ?_
            refine DA.go 5 [] (by kernel_rfl) ⟨?_, trivial⟩
            refine DO.w rfl ?_
            refine WP.t .n (O.stW (l := kC) (u := ((Int.gcd a b : Int) - ((bezX a b) * a)).fdiv b) 7 rfl rfl rfl ty31 rfl (VP.le_refl _)) ?_
            refine WP.nil ?_
            refine DO.nx ?_
            refine DA.nil (by kernel_rfl) ?_
            exact QE.join (Imp.cons rfl (Imp.cons rfl (Imp.cons rfl (Imp.cons rfl (Imp.cons rfl (Imp.cons rfl (Imp.cons rfl (Imp.cons rfl (Imp.cons rfl (Imp.cons rfl (Imp.cons rfl (Imp.cons rfl (Imp.cons rfl (Imp.cons rfl (Imp.cons rfl (Imp.cons rfl (Imp.cons rfl (Imp.cons rfl (Imp.cons rfl (Imp.cons rfl (Imp.cons rfl (Imp.cons rfl (Imp.cons rfl (Imp.cons rfl (Imp.cons rfl (Imp.cons rfl (Imp.cons rfl (Imp.cons rfl (Imp.cons rfl (Imp.cons rfl (Imp.cons rfl (Imp.cons rfl (Imp.cons rfl (Imp.cons rfl (Imp.cons rfl (Imp.cons rfl (Imp.cons rfl (Imp.cons rfl (Imp.cons rfl (Imp.cons rfl (Imp.cons rfl (Imp.cons rfl (Imp.cons rfl (Imp.cons rfl Imp.nil)))))))))))))))))))))))))))))))))))))))))))) (OImp.refl _)
          · refine DO.w rfl ?_
            refine WP.t .n (O.stW (l := kC) (u := (Int.gcd a b : Int)) 9 rfl rfl rfl ty31 rfl (VP.le_refl _)) ?_
            refine WP.nil ?_
            refine DO.nx ?_
            refine DA.go 2 [4] (by kernel_rfl) ⟨?_, ⟨?_, trivial⟩⟩
            · refine DO.w rfl ?_
              refine WP.s .n (O.ld rfl (mem_at 2 rfl) (Lens.id _) ty31 rfl) ?_
              refine WP.nil ?_
              refine DO.nx ?_
              refine DA.go 4 [] (by kernel_rfl) ⟨?_, trivial⟩
              refine DO.w rfl ?_
              refine WP.t .n (O.stW (l := kC) (u := (bezX a b)) 8 rfl rfl rfl ty31 rfl (VP.le_refl _)) ?_
              refine WP.nil ?_
              refine DO.nx ?_
              refine DA.go 5 [] (by kernel_rfl) ⟨?_, trivial⟩
              refine DO.w rfl ?_
              refine WP.t .n (O.stW (l := kC) (u := ((Int.gcd a b : Int) - ((bezX a b) * a)).fdiv b) 7 rfl rfl rfl ty31 rfl (VP.le_refl _)) ?_
              refine WP.nil ?_
              refine DO.nx ?_
              refine DA.nil (by kernel_rfl) ?_
              exact QE.join (Imp.cons rfl (Imp.cons rfl (Imp.cons rfl (Imp.cons rfl (Imp.cons rfl (Imp.cons rfl (Imp.cons rfl (Imp.cons rfl (Imp.cons rfl (Imp.cons rfl (Imp.cons rfl (Imp.cons rfl (Imp.cons rfl (Imp.cons rfl (Imp.cons rfl (Imp.cons rfl (Imp.cons rfl (Imp.cons rfl (Imp.cons rfl (Imp.cons rfl (Imp.cons rfl (Imp.cons rfl (Imp.cons rfl (Imp.cons rfl (Imp.cons rfl (Imp.cons rfl (Imp.cons rfl (Imp.cons rfl (Imp.cons rfl (Imp.cons rfl (Imp.cons rfl (Imp.cons rfl (Imp.cons rfl (Imp.cons rfl (Imp.cons rfl (Imp.cons rfl (Imp.cons rfl (Imp.cons rfl (Imp.cons rfl (Imp.cons rfl (Imp.cons rfl (Imp.cons rfl (Imp.cons rfl (Imp.cons rfl Imp.nil)))))))))))))))))))))))))))))))))))))))))))) (OImp.refl _)
            · refine DO.w rfl ?_
              refine WP.t .n (O.stW (l := kC) (u := (bezX a b)) 8 rfl rfl rfl ty31 rfl (VP.le_refl _)) ?_
              refine WP.nil ?_
              refine DO.nx ?_
              refine DA.go 2 [] (by kernel_rfl) ⟨?_, trivial⟩
              refine DO.w rfl ?_
              refine WP.s .n (O.ld rfl (mem_at 2 rfl) (Lens.id _) ty31 rfl) ?_
              refine WP.nil ?_
              refine DO.nx ?_
              refine DA.go 5 [] (by kernel_rfl) ⟨?_, trivial⟩
              refine DO.w rfl ?_
              refine WP.t .n (O.stW (l := kC) (u := ((Int.gcd a b : Int) - ((bezX a b) * a)).fdiv b) 7 rfl rfl rfl ty31 rfl (VP.le_refl _)) ?_
              refine WP.nil ?_
              refine DO.nx ?_
              refine DA.nil (by kernel_rfl) ?_
              exact QE.join (Imp.cons rfl (Imp.cons rfl (Imp.cons rfl (Imp.cons rfl (Imp.cons rfl (Imp.cons rfl (Imp.cons rfl (Imp.cons rfl (Imp.cons rfl (Imp.cons rfl (Imp.cons rfl (Imp.cons rfl (Imp.cons rfl (Imp.cons rfl (Imp.cons rfl (Imp.cons rfl (Imp.cons rfl (Imp.cons rfl (Imp.cons rfl (Imp.cons rfl (Imp.cons rfl (Imp.cons rfl (Imp.cons rfl (Imp.cons rfl (Imp.cons rfl (Imp.cons rfl (Imp.cons rfl (Imp.cons rfl (Imp.cons rfl (Imp.cons rfl (Imp.cons rfl (Imp.cons rfl (Imp.cons rfl (Imp.cons rfl (Imp.cons rfl (Imp.cons rfl (Imp.cons rfl (Imp.cons rfl (Imp.cons rfl (Imp.cons rfl (Imp.cons rfl (Imp.cons rfl (Imp.cons rfl (Imp.cons rfl Imp.nil)))))))))))))))))))))))))))))))))))))))))))) (OImp.refl _)
        · refine DO.w rfl ?_
          refine WP.s .n (O.ld rfl (mem_at 2 rfl) (Lens.id _) ty31 rfl) ?_
          refine WP.nil ?_
          refine DO.nx ?_
          refine DA.go 0 [] (by kernel_rfl) ⟨?_, trivial⟩
          refine DO.w rfl ?_
          refine WP.s .n (O.ld rfl (mem_at 6 rfl) (Lens.id _) ty31 rfl) ?_
          refine WP.nil ?_
          refine DO.nx ?_
          refine DA.go 3 [] (by kernel_rfl) ⟨?_, trivial⟩
          refine DO.w rfl ?_
          refine WP.t .n (O.stW (l := kC) (u := (Int.gcd a b : Int)) 9 rfl rfl rfl ty31 rfl (VP.le_refl _)) ?_
          refine WP.nil ?_
          refine DO.nx ?_
          refine DA.go 4 [] (by kernel_rfl) ⟨?_, trivial⟩
          refine DO.w rfl ?_
          refine WP.t .n (O.stW (l := kC) (u := (bezX a b)) 8 rfl rfl rfl ty31 rfl (VP.le_refl _)) ?_
          refine WP.nil ?_
          refine DO.nx ?_
          refine DA.go 5 [] (by kernel_rfl) ⟨?_, trivial⟩
          refine DO.w rfl ?_
          refine WP.t .n (O.stW (l := kC) (u := ((Int.gcd a b : Int) - ((bezX a b) * a)).fdiv b) 7 rfl rfl rfl ty31 rfl (VP.le_refl _)) ?_
          refine WP.nil ?_
          refine DO.nx ?_
          refine DA.nil (by kernel_rfl) ?_
          exact QE.join (Imp.cons rfl (Imp.cons rfl (Imp.cons rfl (Imp.cons rfl (Imp.cons rfl (Imp.cons rfl (Imp.cons rfl (Imp.cons rfl (Imp.cons rfl (Imp.cons rfl (Imp.cons rfl (Imp.cons rfl (Imp.cons rfl (Imp.cons rfl (Imp.cons rfl (Imp.cons rfl (Imp.cons rfl (Imp.cons rfl (Imp.cons rfl (Imp.cons rfl (Imp.cons rfl (Imp.cons rfl (Imp.cons rfl (Imp.cons rfl (Imp.cons rfl (Imp.cons rfl (Imp.cons rfl (Imp.cons rfl (Imp.cons rfl (Imp.cons rfl (Imp.cons rfl (Imp.cons rfl (Imp.cons rfl (Imp.cons rfl (Imp.cons rfl (Imp.cons rfl (Imp.cons rfl (Imp.cons rfl (Imp.cons rfl (Imp.cons rfl (Imp.cons rfl (Imp.cons rfl (Imp.cons rfl (Imp.cons rfl Imp.nil)))))))))))))))))))))))))))))))))))))))))))) (OImp.refl _)
      · refine DO.w rfl ?_
        refine WP.s .n (O.ld rfl (mem_at 2 rfl) (Lens.id _) ty31 rfl) ?_
        refine WP.nil ?_
        refine DO.nx ?_
        refine DA.go 0 [1] (by kernel_rfl) ⟨?_, ⟨?_, trivial⟩⟩
        · refine DO.w rfl ?_
          refine WP.s .n (O.ld rfl (mem_at 6 rfl) (Lens.id _) ty31 rfl) ?_
          refine WP.nil ?_
          refine DO.nx ?_
          refine DA.go 1 [3] (by kernel_rfl) ⟨?_, ⟨?_, trivial⟩⟩
          · refine DO.w rfl ?_
            refine WP.s .n (O.ld rfl (mem_at 3 rfl) (Lens.id _) ty31 rfl) ?_
            refine WP.nil ?_
            refine DO.nx ?_
            refine DA.go 3 [] (by kernel_rfl) ⟨?_, trivial⟩
            refine DO.w rfl ?_
            refine WP.t .n (O.stW (l := kC) (u := (Int.gcd a b : Int)) 9 rfl rfl rfl ty31 rfl (VP.le_refl _)) ?_
            refine WP.nil ?_
            refine DO.nx ?_
            refine DA.go 4 [] (by kernel_rfl) ⟨?_, trivial⟩
            refine DO.w rfl ?_
            refine WP.t .n (O.stW (l := kC) (u := (bezX a b)) 8 rfl rfl rfl ty31 rfl (VP.le_refl _)) ?_
            refine WP.nil ?_
            refine DO.nx ?_
            refine DA.go 5 [] (by kernel_rfl) ⟨?_, trivial⟩
            refine DO.w rfl ?_
            refine WP.t .n (O.stW (l := kC) (u := ((Int.gcd a b : Int) - ((bezX a b) * a)).fdiv b) 7 rfl rfl rfl ty31 rfl (VP.le_refl _)) ?_
            refine WP.nil ?_
            refine DO.nx ?_
            refine DA.nil (by kernel_rfl) ?_
            exact QE.join (Imp.cons rfl (Imp.cons rfl (Imp.cons rfl (Imp.cons rfl (Imp.cons rfl (Imp.cons rfl (Imp.cons rfl (Imp.cons rfl (Imp.cons rfl (Imp.cons rfl (Imp.cons rfl (Imp.cons rfl (Imp.cons rfl (Imp.cons rfl (Imp.cons rfl (Imp.cons rfl (Imp.cons rfl (Imp.cons rfl (Imp.cons rfl (Imp.cons rfl (Imp.cons rfl (Imp.cons rfl (Imp.cons rfl (Imp.cons rfl (Imp.cons rfl (Imp.cons rfl (Imp.cons rfl (Imp.cons rfl (Imp.cons rfl (Imp.cons rfl (Imp.cons rfl (Imp.cons rfl (Imp.cons rfl (Imp.cons rfl (Imp.cons rfl (Imp.cons rfl (Imp.cons rfl (Imp.cons rfl (Imp.cons rfl (Imp.cons rfl (Imp.cons rfl (Imp.cons rfl (Imp.cons rfl (Imp.cons rfl Imp.nil)))))))))))))))))))))))))))))))))))))))))))) (OImp.refl _)
          · refine DO.w rfl ?_
            refine WP.t .n (O.stW (l := kC) (u := (Int.gcd a b : Int)) 9 rfl rfl rfl ty31 rfl (VP.le_refl _)) ?_
            refine WP.nil ?_
            refine DO.nx ?_
            refine DA.go 1 [] (by kernel_rfl) ⟨?_, trivial⟩
            refine DO.w rfl ?_
            refine WP.s .n (O.ld rfl (mem_at 3 rfl) (Lens.id _) ty31 rfl) ?_
            refine WP.nil ?_
            refine DO.nx ?_
            refine DA.go 4 [] (by kernel_rfl) ⟨?_, trivial⟩
            refine DO.w rfl ?_
            refine WP.t .n (O.stW (l := kC) (u := (bezX a b)) 8 rfl rfl rfl ty31 rfl (VP.le_refl _)) ?_
            refine WP.nil ?_
            refine DO.nx ?_
            refine DA.go 5 [] (by kernel_rfl) ⟨?_, trivial⟩
            refine DO.w rfl ?_
            refine WP.t .n (O.stW (l := kC) (u := ((Int.gcd a b : Int) - ((bezX a b) * a)).fdiv b) 7 rfl rfl rfl ty31 rfl (VP.le_refl _)) ?_
            refine WP.nil ?_
            refine DO.nx ?_
            refine DA.nil (by kernel_rfl) ?_
            exact QE.join (Imp.cons rfl (Imp.cons rfl (Imp.cons rfl (Imp.cons rfl (Imp.cons rfl (Imp.cons rfl (Imp.cons rfl (Imp.cons rfl (Imp.cons rfl (Imp.cons rfl (Imp.cons rfl (Imp.cons rfl (Imp.cons rfl (Imp.cons rfl (Imp.cons rfl (Imp.cons rfl (Imp.cons rfl (Imp.cons rfl (Imp.cons rfl (Imp.cons rfl (Imp.cons rfl (Imp.cons rfl (Imp.cons rfl (Imp.cons rfl (Imp.cons rfl (Imp.cons rfl (Imp.cons rfl (Imp.cons rfl (Imp.cons rfl (Imp.cons rfl (Imp.cons rfl (Imp.cons rfl (Imp.cons rfl (Imp.cons rfl (Imp.cons rfl (Imp.cons rfl (Imp.cons rfl (Imp.cons rfl (Imp.cons rfl (Imp.cons rfl (Imp.cons rfl (Imp.cons rfl (Imp.cons rfl (Imp.cons rfl Imp.nil)))))))))))))))))))))))))))))))))))))))))))) (OImp.refl _)
        · refine DO.w rfl ?_
          refine WP.s .n (O.ld rfl (mem_at 3 rfl) (Lens.id _) ty31 rfl) ?_
          refine WP.nil ?_
          refine DO.nx ?_
          refine DA.go 0 [] (by kernel_rfl) ⟨?_, trivial⟩
          refine DO.w rfl ?_
          refine WP.s .n (O.ld rfl (mem_at 6 rfl) (Lens.id _) ty31 rfl) ?_
          refine WP.nil ?_
          refine DO.nx ?_
          refine DA.go 3 [] (by kernel_rfl) ⟨?_, trivial⟩
          refine DO.w rfl ?_
          refine WP.t .n (O.stW (l := kC) (u := (Int.gcd a b : Int)) 9 rfl rfl rfl ty31 rfl (VP.le_refl _)) ?_
          refine WP.nil ?_
          refine DO.nx ?_
          refine DA.go 4 [] (by kernel_rfl) ⟨?_, trivial⟩
          refine DO.w rfl ?_
          refine WP.t .n (O.stW (l := kC) (u := (bezX a b)) 8 rfl rfl rfl ty31 rfl (VP.le_refl _)) ?_
          refine WP.nil ?_
          refine DO.nx ?_
          refine DA.go 5 [] (by kernel_rfl) ⟨?_, trivial⟩
          refine DO.w rfl ?_
          refine WP.t .n (O.stW (l := kC) (u := ((Int.gcd a b : Int) - ((bezX a b) * a)).fdiv b) 7 rfl rfl rfl ty31 rfl (VP.le_refl _)) ?_
          refine WP.nil ?_
          refine DO.nx ?_
          refine DA.nil (by kernel_rfl) ?_
          exact QE.join (Imp.cons rfl (Imp.cons rfl (Imp.cons rfl (Imp.cons rfl (Imp.cons rfl (Imp.cons rfl (Imp.cons rfl (Imp.cons rfl (Imp.cons rfl (Imp.cons rfl (Imp.cons rfl (Imp.cons rfl (Imp.cons rfl (Imp.cons rfl (Imp.cons rfl (Imp.cons rfl (Imp.cons rfl (Imp.cons rfl (Imp.cons rfl (Imp.cons rfl (Imp.cons rfl (Imp.cons rfl (Imp.cons rfl (Imp.cons rfl (Imp.cons rfl (Imp.cons rfl (Imp.cons rfl (Imp.cons rfl (Imp.cons rfl (Imp.cons rfl (Imp.cons rfl (Imp.cons rfl (Imp.cons rfl (Imp.cons rfl (Imp.cons rfl (Imp.cons rfl (Imp.cons rfl (Imp.cons rfl (Imp.cons rfl (Imp.cons rfl (Imp.cons rfl (Imp.cons rfl (Imp.cons rfl (Imp.cons rfl Imp.nil)))))))))))))))))))))))))))))))))))))))))))) (OImp.refl _)
    refine QE.next ?_
    refine CW.ret ?_
    refine ST.obtold 7 rfl (OB.box_eq (y := (bezY a b)) rfl) ?_
    exact QE.done (.inl rfl) rfl (ResOk.c rfl (mem_at 9 rfl) ty31 (ResOk.c rfl (mem_at 8 rfl) ty31 (ResOk.c rfl (mem_at 7 rfl) ty31 ResOk.nil))) (OImp.sub (List.nil_sublist _)) ⟨rfl, rfl⟩

end Fw


/- Which keys may be. -/
set_option linter.unusedVariables false
set_option linter.unusedSimpArgs false
set_option exponentiation.threshold 400
namespace Fw
open Go Go.Proofs

set_option maxRecDepth 20000 in
set_option maxHeartbeats 1000000 in
theorem c_knap_Check (xs : List Int) (M R : Int) (hM0 : Sq M) (hR0 : Sq R) : Fn Try.prog 42 [(kPair (kSl kZ) (kPair kZ kZ)).is (xs, M, R)] ((kInt .i64).is (cErr xs M R)) := by
  refine Con.enter Try.func42 rfl rfl fun m w => ?_
  refine CW.seq ?_
  refine CW.region ?_
  refine WP.bx .n rfl fun b1 => ?_
  refine WP.s .n (O.asg rfl) ?_
  refine WP.nil ?_
  refine QE.next ?_
  refine CW.seq ?_
  refine CW.seq ?_
  refine CW.region ?_
  refine WP.s .n (O.fa rfl fld74_0 rfl) ?_
  refine WP.s .n (O.ld (p := (kSl kZ).is xs) rfl (mem_at 0 rfl) (Lens.fst (Lens.id _)) ty27 rfl) ?_
  refine WP.s .n (O.fn fn32 (evs.c rfl evs.nil) (c_knap_Valid xs)) ?_
  refine WP.s .n (O.asg rfl) ?_
  refine WP.nil ?_
  refine QE.next ?_
  refine CW.seq ?_
  refine CW.region ?_
  refine WP.s .n (O.mv rfl) ?_
  refine WP.s .n (O.ne rfl rfl) ?_
  refine WP.nil ?_
  refine QE.next ?_
  refine CW.condD rfl (fun h_t9 => ?_) (fun h_t9 => ?_)
  · refine CW.seq ?_
    refine CW.region ?_
    refine WP.s .n (O.mv rfl) ?_
    refine WP.s .n (O.asg rfl) ?_
    refine WP.nil ?_
    refine QE.next ?_
    refine CW.ret ?_
    refine QE.thenR ?_
    refine ST.told 2 rfl (is_eq (y := (cErr xs M R)) (by rw [cErr_1 h_t9])) ?_
    exact QE.done (.inl rfl) rfl (ResOk.t rfl ResOk.nil) (OImp.sub (List.nil_sublist _)) ⟨rfl, rfl⟩
  · have hT := wOk_SmT (wErr_0 h_t9)
    have hs1 : Sm 1 := Sm_lit (by decide)
    have hsg := Sq_gcd hR0 hM0
    refine CW.skip ?_
    refine QE.next ?_
    refine CW.seq ?_
    refine CW.region ?_
    refine WP.s .n (O.fn fn74 (evs.l rfl (i64_int (by omega)) evs.nil) (c_zint_Of 1)) ?_
    refine WP.al .n z31_C fun b2 => ?_
    refine WP.t .n (O.stW (l := kC) (u := 1) 0 rfl rfl rfl ty31 rfl (VP.le_refl _)) ?_
    refine WP.nil ?_
    refine QE.next ?_
    refine CW.seq ?_
    refine CW.seq ?_
    by_cases hc : climb xs = true
    · by_cases hM : xs.sum < M
      · by_cases hR1 : 1 ≤ R
        · by_cases hRM : R < M
          · by_cases hg : ((Int.gcd R M : Nat) : Int) = 1
            · refine CW.draw (Γ := [.fr (VP.ex (.pointer (some ⟨b1, 0, none⟩))), .fr ((kSl kZ).is xs), .fr (kBool.is true), .fr (kBool.is false), .fr (kBool.is false), .fr (VP.ex (.pointer (some ⟨b1, 1, none⟩))), .fr (kZ.is M), .fr (VP.ex (.pointer (some ⟨b1, 0, none⟩))), .fr ((kSl kZ).is xs), .fr (kC.is xs.sum), .fr ((kInt .i64).is ((M - xs.sum).sign)), .fr (kBool.is false), .fr (kBool.is false), .fr (kBool.is false), .fr (VP.ex (.pointer (some ⟨b1, 3, none⟩))), .fr (kZ.is R), .fr (kC.is 1), .fr ((kInt .i64).is ((R - 1).sign)), .fr (kBool.is false), .fr (kBool.is false), .fr (kBool.is false), .fr (VP.ex (.pointer (some ⟨b1, 3, none⟩))), .fr (kZ.is R), .fr (VP.ex (.pointer (some ⟨b1, 1, none⟩))), .fr (kZ.is M), .fr ((kInt .i64).is ((R - M).sign)), .fr (kBool.is false), .fr (kBool.is false), .fr (kBool.is false), .fr (VP.ex (.pointer (some ⟨b1, 3, none⟩))), .fr (kZ.is R), .fr (VP.ex (.pointer (some ⟨b1, 1, none⟩))), .fr (kZ.is M), .fr (kC.is (Int.gcd R M : Int)), .fr (kC.is 1), .fr ((kInt .i64).is (((Int.gcd R M : Int) - 1).sign)), .fr (kBool.is false), .fr (kBool.is false)]) (lates := [false, false, false, false, false, false, false, false, false, false, false, false, false, false, false, false, false, false, false, false, false, false, false, false, false, false, false, false, false, false, false, false, false, false, false, false, false, false]) (by kernel_rfl) (Chk.of rfl (by kernel_rfl) rfl) (fun _ _ _ _ _ h => h) (fun q_ x_ h_ => ?_) (fun σ1 => ?_)
              · match q_, h_ with
                | 0, h_ => cases h_; exact Ob.f rfl .n fun N => (O.fa rfl fld74_0 rfl)
                | 1, h_ => cases h_; exact Ob.f rfl .n fun N => (O.ld (p := (kSl kZ).is xs) rfl (mem_app N (mem_at 1 rfl)) (Lens.fst (Lens.id _)) ty27 rfl)
                | 2, h_ => cases h_; exact Ob.f rfl .n fun N => (OpOk.le (O.fn fn81 (evs.c rfl evs.nil) (c_knap_climbs xs (wErr_0 h_t9))) (is_eq hc))
                | 3, h_ => cases h_; exact Ob.f rfl .n fun N => (O.not (a := true) rfl)
                | 4, h_ => cases h_; exact Ob.f rfl .n fun N => (O.mv rfl)
                | 5, h_ => cases h_; exact Ob.f rfl (.g rfl rfl) fun N => (O.fa rfl fld74_1 rfl)
                | 6, h_ => cases h_; exact Ob.f rfl (.g rfl rfl) fun N => (O.ld (p := kZ.is M) rfl (mem_app N (mem_at 1 rfl)) (Lens.snd (Lens.fst (Lens.id _))) ty31 rfl)
                | 7, h_ => cases h_; exact Ob.f rfl (.g rfl rfl) fun N => (O.fa rfl fld74_0 rfl)
                | 8, h_ => cases h_; exact Ob.f rfl (.g rfl rfl) fun N => (O.ld (p := (kSl kZ).is xs) rfl (mem_app N (mem_at 1 rfl)) (Lens.fst (Lens.id _)) ty27 rfl)
                | 9, h_ => cases h_; exact Ob.f rfl (.g rfl rfl) fun N => (O.fn fn101 (evs.c rfl evs.nil) (c_knap_sum xs (wOk_hS (wErr_0 h_t9))))
                | 10, h_ => cases h_; exact Ob.f rfl (.g rfl rfl) fun N => (O.fn fn75 (evs.c rfl (evs.l rfl (kC_Z (by assumption)) evs.nil)) (c_zint_Compare M xs.sum))
                | 11, h_ => cases h_; exact Ob.f rfl (.g rfl rfl) fun N => (OpOk.le (O.le rfl rfl) (is_eq (decide_eq_false (sg_nle hM))))
                | 12, h_ => cases h_; exact Ob.f rfl .n fun N => (O.pickF rfl rfl)
                | 13, h_ => cases h_; exact Ob.f rfl .n fun N => (O.mv rfl)
                | 14, h_ => cases h_; exact Ob.f rfl (.g rfl rfl) fun N => (O.fa rfl fld74_2 rfl)
                | 15, h_ => cases h_; exact Ob.f rfl (.g rfl rfl) fun N => (O.ld (p := kZ.is R) rfl (mem_app N (mem_at 1 rfl)) (Lens.snd (Lens.snd (Lens.id _))) ty31 rfl)
                | 16, h_ => cases h_; exact Ob.f rfl (.g rfl rfl) fun N => (O.ld rfl (mem_app N (mem_at 0 rfl)) (Lens.id _) ty31 rfl)
                | 17, h_ => cases h_; exact Ob.f rfl (.g rfl rfl) fun N => (O.fn fn75 (evs.c rfl (evs.l rfl (kC_Z (by assumption)) evs.nil)) (c_zint_Compare R 1))
                | 18, h_ => cases h_; exact Ob.f rfl (.g rfl rfl) fun N => (OpOk.le (O.lt rfl rfl) (is_eq (decide_eq_false (sg_nlt hR1))))
                | 19, h_ => cases h_; exact Ob.f rfl .n fun N => (O.pickF rfl rfl)
                | 20, h_ => cases h_; exact Ob.f rfl .n fun N => (O.mv rfl)
                | 21, h_ => cases h_; exact Ob.f rfl (.g rfl rfl) fun N => (O.fa rfl fld74_2 rfl)
                | 22, h_ => cases h_; exact Ob.f rfl (.g rfl rfl) fun N => (O.ld (p := kZ.is R) rfl (mem_app N (mem_at 1 rfl)) (Lens.snd (Lens.snd (Lens.id _))) ty31 rfl)
                | 23, h_ => cases h_; exact Ob.f rfl (.g rfl rfl) fun N => (O.fa rfl fld74_1 rfl)
                | 24, h_ => cases h_; exact Ob.f rfl (.g rfl rfl) fun N => (O.ld (p := kZ.is M) rfl (mem_app N (mem_at 1 rfl)) (Lens.snd (Lens.fst (Lens.id _))) ty31 rfl)
                | 25, h_ => cases h_; exact Ob.f rfl (.g rfl rfl) fun N => (O.fn fn75 (evs.c rfl (evs.c rfl evs.nil)) (c_zint_Compare R M))
                | 26, h_ => cases h_; exact Ob.f rfl (.g rfl rfl) fun N => (OpOk.le (O.ge rfl rfl) (is_eq (decide_eq_false (sg_nge hRM))))
                | 27, h_ => cases h_; exact Ob.f rfl .n fun N => (O.pickF rfl rfl)
                | 28, h_ => cases h_; exact Ob.f rfl .n fun N => (O.mv rfl)
                | 29, h_ => cases h_; exact Ob.f rfl (.g rfl rfl) fun N => (O.fa rfl fld74_2 rfl)
                | 30, h_ => cases h_; exact Ob.f rfl (.g rfl rfl) fun N => (O.ld (p := kZ.is R) rfl (mem_app N (mem_at 1 rfl)) (Lens.snd (Lens.snd (Lens.id _))) ty31 rfl)
                | 31, h_ => cases h_; exact Ob.f rfl (.g rfl rfl) fun N => (O.fa rfl fld74_1 rfl)
                | 32, h_ => cases h_; exact Ob.f rfl (.g rfl rfl) fun N => (O.ld (p := kZ.is M) rfl (mem_app N (mem_at 1 rfl)) (Lens.snd (Lens.fst (Lens.id _))) ty31 rfl)
                | 33, h_ => cases h_; exact Ob.f rfl (.g rfl rfl) fun N => (O.fn fn102 (evs.c rfl (evs.c rfl evs.nil)) (c_zint_Gcd R M))
                | 34, h_ => cases h_; exact Ob.f rfl (.g rfl rfl) fun N => (O.ld rfl (mem_app N (mem_at 0 rfl)) (Lens.id _) ty31 rfl)
                | 35, h_ => cases h_; exact Ob.f rfl (.g rfl rfl) fun N => (O.fn fn75 (evs.l rfl (kC_Z (by assumption)) (evs.l rfl (kC_Z (by assumption)) evs.nil)) (c_zint_Compare (Int.gcd R M : Int) 1))
                | 36, h_ => cases h_; exact Ob.f rfl (.g rfl rfl) fun N => (OpOk.le (O.ne rfl rfl) (is_eq (decide_eq_false (sg_nne hg))))
                | 37, h_ => cases h_; exact Ob.f rfl .n fun N => (O.pickF rfl rfl)
                | n_ + 38, h_ => simp at h_
              refine WP.nil ?_
              refine QE.next ?_
              refine CW.condF rfl ?_
              refine CW.skip ?_
              refine QE.next ?_
              refine CW.seq ?_
              refine CW.region ?_
              refine WP.s .n (O.asg rfl) ?_
              refine WP.nil ?_
              refine QE.next ?_
              refine CW.ret ?_
              refine ST.told 2 rfl (is_eq (y := (cErr xs M R)) (by rw [cErr_3 h_t9 ⟨hc, hM, hR1, hRM, hg⟩])) ?_
              exact QE.done (.inl rfl) rfl (ResOk.t rfl ResOk.nil) (OImp.sub (List.nil_sublist _)) ⟨rfl, rfl⟩
            · refine CW.draw (Γ := [.fr (VP.ex (.pointer (some ⟨b1, 0, none⟩))), .fr ((kSl kZ).is xs), .fr (kBool.is true), .fr (kBool.is false), .fr (kBool.is false), .fr (VP.ex (.pointer (some ⟨b1, 1, none⟩))), .fr (kZ.is M), .fr (VP.ex (.pointer (some ⟨b1, 0, none⟩))), .fr ((kSl kZ).is xs), .fr (kC.is xs.sum), .fr ((kInt .i64).is ((M - xs.sum).sign)), .fr (kBool.is false), .fr (kBool.is false), .fr (kBool.is false), .fr (VP.ex (.pointer (some ⟨b1, 3, none⟩))), .fr (kZ.is R), .fr (kC.is 1), .fr ((kInt .i64).is ((R - 1).sign)), .fr (kBool.is false), .fr (kBool.is false), .fr (kBool.is false), .fr (VP.ex (.pointer (some ⟨b1, 3, none⟩))), .fr (kZ.is R), .fr (VP.ex (.pointer (some ⟨b1, 1, none⟩))), .fr (kZ.is M), .fr ((kInt .i64).is ((R - M).sign)), .fr (kBool.is false), .fr (kBool.is false), .fr (kBool.is false), .fr (VP.ex (.pointer (some ⟨b1, 3, none⟩))), .fr (kZ.is R), .fr (VP.ex (.pointer (some ⟨b1, 1, none⟩))), .fr (kZ.is M), .fr (kC.is (Int.gcd R M : Int)), .fr (kC.is 1), .fr ((kInt .i64).is (((Int.gcd R M : Int) - 1).sign)), .fr (kBool.is true), .fr (kBool.is true)]) (lates := [false, false, false, false, false, false, false, false, false, false, false, false, false, false, false, false, false, false, false, false, false, false, false, false, false, false, false, false, false, false, false, false, false, false, false, false, false, false]) (by kernel_rfl) (Chk.of rfl (by kernel_rfl) rfl) (fun _ _ _ _ _ h => h) (fun q_ x_ h_ => ?_) (fun σ2 => ?_)
              · match q_, h_ with
                | 0, h_ => cases h_; exact Ob.f rfl .n fun N => (O.fa rfl fld74_0 rfl)
                | 1, h_ => cases h_; exact Ob.f rfl .n fun N => (O.ld (p := (kSl kZ).is xs) rfl (mem_app N (mem_at 1 rfl)) (Lens.fst (Lens.id _)) ty27 rfl)
                | 2, h_ => cases h_; exact Ob.f rfl .n fun N => (OpOk.le (O.fn fn81 (evs.c rfl evs.nil) (c_knap_climbs xs (wErr_0 h_t9))) (is_eq hc))
                | 3, h_ => cases h_; exact Ob.f rfl .n fun N => (O.not (a := true) rfl)
                | 4, h_ => cases h_; exact Ob.f rfl .n fun N => (O.mv rfl)
                | 5, h_ => cases h_; exact Ob.f rfl (.g rfl rfl) fun N => (O.fa rfl fld74_1 rfl)
                | 6, h_ => cases h_; exact Ob.f rfl (.g rfl rfl) fun N => (O.ld (p := kZ.is M) rfl (mem_app N (mem_at 1 rfl)) (Lens.snd (Lens.fst (Lens.id _))) ty31 rfl)
                | 7, h_ => cases h_; exact Ob.f rfl (.g rfl rfl) fun N => (O.fa rfl fld74_0 rfl)
                | 8, h_ => cases h_; exact Ob.f rfl (.g rfl rfl) fun N => (O.ld (p := (kSl kZ).is xs) rfl (mem_app N (mem_at 1 rfl)) (Lens.fst (Lens.id _)) ty27 rfl)
                | 9, h_ => cases h_; exact Ob.f rfl (.g rfl rfl) fun N => (O.fn fn101 (evs.c rfl evs.nil) (c_knap_sum xs (wOk_hS (wErr_0 h_t9))))
                | 10, h_ => cases h_; exact Ob.f rfl (.g rfl rfl) fun N => (O.fn fn75 (evs.c rfl (evs.l rfl (kC_Z (by assumption)) evs.nil)) (c_zint_Compare M xs.sum))
                | 11, h_ => cases h_; exact Ob.f rfl (.g rfl rfl) fun N => (OpOk.le (O.le rfl rfl) (is_eq (decide_eq_false (sg_nle hM))))
                | 12, h_ => cases h_; exact Ob.f rfl .n fun N => (O.pickF rfl rfl)
                | 13, h_ => cases h_; exact Ob.f rfl .n fun N => (O.mv rfl)
                | 14, h_ => cases h_; exact Ob.f rfl (.g rfl rfl) fun N => (O.fa rfl fld74_2 rfl)
                | 15, h_ => cases h_; exact Ob.f rfl (.g rfl rfl) fun N => (O.ld (p := kZ.is R) rfl (mem_app N (mem_at 1 rfl)) (Lens.snd (Lens.snd (Lens.id _))) ty31 rfl)
                | 16, h_ => cases h_; exact Ob.f rfl (.g rfl rfl) fun N => (O.ld rfl (mem_app N (mem_at 0 rfl)) (Lens.id _) ty31 rfl)
                | 17, h_ => cases h_; exact Ob.f rfl (.g rfl rfl) fun N => (O.fn fn75 (evs.c rfl (evs.l rfl (kC_Z (by assumption)) evs.nil)) (c_zint_Compare R 1))
                | 18, h_ => cases h_; exact Ob.f rfl (.g rfl rfl) fun N => (OpOk.le (O.lt rfl rfl) (is_eq (decide_eq_false (sg_nlt hR1))))
                | 19, h_ => cases h_; exact Ob.f rfl .n fun N => (O.pickF rfl rfl)
                | 20, h_ => cases h_; exact Ob.f rfl .n fun N => (O.mv rfl)
                | 21, h_ => cases h_; exact Ob.f rfl (.g rfl rfl) fun N => (O.fa rfl fld74_2 rfl)
                | 22, h_ => cases h_; exact Ob.f rfl (.g rfl rfl) fun N => (O.ld (p := kZ.is R) rfl (mem_app N (mem_at 1 rfl)) (Lens.snd (Lens.snd (Lens.id _))) ty31 rfl)
                | 23, h_ => cases h_; exact Ob.f rfl (.g rfl rfl) fun N => (O.fa rfl fld74_1 rfl)
                | 24, h_ => cases h_; exact Ob.f rfl (.g rfl rfl) fun N => (O.ld (p := kZ.is M) rfl (mem_app N (mem_at 1 rfl)) (Lens.snd (Lens.fst (Lens.id _))) ty31 rfl)
                | 25, h_ => cases h_; exact Ob.f rfl (.g rfl rfl) fun N => (O.fn fn75 (evs.c rfl (evs.c rfl evs.nil)) (c_zint_Compare R M))
                | 26, h_ => cases h_; exact Ob.f rfl (.g rfl rfl) fun N => (OpOk.le (O.ge rfl rfl) (is_eq (decide_eq_false (sg_nge hRM))))
                | 27, h_ => cases h_; exact Ob.f rfl .n fun N => (O.pickF rfl rfl)
                | 28, h_ => cases h_; exact Ob.f rfl .n fun N => (O.mv rfl)
                | 29, h_ => cases h_; exact Ob.f rfl (.g rfl rfl) fun N => (O.fa rfl fld74_2 rfl)
                | 30, h_ => cases h_; exact Ob.f rfl (.g rfl rfl) fun N => (O.ld (p := kZ.is R) rfl (mem_app N (mem_at 1 rfl)) (Lens.snd (Lens.snd (Lens.id _))) ty31 rfl)
                | 31, h_ => cases h_; exact Ob.f rfl (.g rfl rfl) fun N => (O.fa rfl fld74_1 rfl)
                | 32, h_ => cases h_; exact Ob.f rfl (.g rfl rfl) fun N => (O.ld (p := kZ.is M) rfl (mem_app N (mem_at 1 rfl)) (Lens.snd (Lens.fst (Lens.id _))) ty31 rfl)
                | 33, h_ => cases h_; exact Ob.f rfl (.g rfl rfl) fun N => (O.fn fn102 (evs.c rfl (evs.c rfl evs.nil)) (c_zint_Gcd R M))
                | 34, h_ => cases h_; exact Ob.f rfl (.g rfl rfl) fun N => (O.ld rfl (mem_app N (mem_at 0 rfl)) (Lens.id _) ty31 rfl)
                | 35, h_ => cases h_; exact Ob.f rfl (.g rfl rfl) fun N => (O.fn fn75 (evs.l rfl (kC_Z (by assumption)) (evs.l rfl (kC_Z (by assumption)) evs.nil)) (c_zint_Compare (Int.gcd R M : Int) 1))
                | 36, h_ => cases h_; exact Ob.f rfl (.g rfl rfl) fun N => (OpOk.le (O.ne rfl rfl) (is_eq (decide_eq_true (sg_ne hg))))
                | 37, h_ => cases h_; exact Ob.f rfl .n fun N => (O.pickF rfl rfl)
                | n_ + 38, h_ => simp at h_
              refine WP.nil ?_
              refine QE.next ?_
              refine CW.condT rfl ?_
              refine CW.seq ?_
              refine CW.region ?_
              refine WP.s .n (O.asg rfl) ?_
              refine WP.nil ?_
              refine QE.next ?_
              refine CW.ret ?_
              refine QE.thenR ?_
              refine ST.told 2 rfl (is_eq (y := (cErr xs M R)) (by rw [cErr_2 h_t9 (fun hk => hg hk.2.2.2.2)])) ?_
              exact QE.done (.inl rfl) rfl (ResOk.t rfl ResOk.nil) (OImp.sub (List.nil_sublist _)) ⟨rfl, rfl⟩
          · refine CW.draw (Γ := [.fr (VP.ex (.pointer (some ⟨b1, 0, none⟩))), .fr ((kSl kZ).is xs), .fr (kBool.is true), .fr (kBool.is false), .fr (kBool.is false), .fr (VP.ex (.pointer (some ⟨b1, 1, none⟩))), .fr (kZ.is M), .fr (VP.ex (.pointer (some ⟨b1, 0, none⟩))), .fr ((kSl kZ).is xs), .fr (kC.is xs.sum), .fr ((kInt .i64).is ((M - xs.sum).sign)), .fr (kBool.is false), .fr (kBool.is false), .fr (kBool.is false), .fr (VP.ex (.pointer (some ⟨b1, 3, none⟩))), .fr (kZ.is R), .fr (kC.is 1), .fr ((kInt .i64).is ((R - 1).sign)), .fr (kBool.is false), .fr (kBool.is false), .fr (kBool.is false), .fr (VP.ex (.pointer (some ⟨b1, 3, none⟩))), .fr (kZ.is R), .fr (VP.ex (.pointer (some ⟨b1, 1, none⟩))), .fr (kZ.is M), .fr ((kInt .i64).is ((R - M).sign)), .fr (kBool.is true), .fr (kBool.is true), .fr (kBool.is true), .fr (VP.ex undef), .fr (VP.ex undef), .fr (VP.ex undef), .fr (VP.ex undef), .fr (VP.ex undef), .fr (VP.ex undef), .fr (VP.ex undef), .fr (VP.ex undef), .fr (kBool.is true)]) (lates := [false, false, false, false, false, false, false, false, false, false, false, false, false, false, false, false, false, false, false, false, false, false, false, false, false, false, false, false, false, false, false, false, false, false, false, false, false, false]) (by kernel_rfl) (Chk.of rfl (by kernel_rfl) rfl) (fun _ _ _ _ _ h => h) (fun q_ x_ h_ => ?_) (fun σ3 => ?_)
            · match q_, h_ with
              | 0, h_ => cases h_; exact Ob.f rfl .n fun N => (O.fa rfl fld74_0 rfl)
              | 1, h_ => cases h_; exact Ob.f rfl .n fun N => (O.ld (p := (kSl kZ).is xs) rfl (mem_app N (mem_at 1 rfl)) (Lens.fst (Lens.id _)) ty27 rfl)
              | 2, h_ => cases h_; exact Ob.f rfl .n fun N => (OpOk.le (O.fn fn81 (evs.c rfl evs.nil) (c_knap_climbs xs (wErr_0 h_t9))) (is_eq hc))
              | 3, h_ => cases h_; exact Ob.f rfl .n fun N => (O.not (a := true) rfl)
              | 4, h_ => cases h_; exact Ob.f rfl .n fun N => (O.mv rfl)
              | 5, h_ => cases h_; exact Ob.f rfl (.g rfl rfl) fun N => (O.fa rfl fld74_1 rfl)
              | 6, h_ => cases h_; exact Ob.f rfl (.g rfl rfl) fun N => (O.ld (p := kZ.is M) rfl (mem_app N (mem_at 1 rfl)) (Lens.snd (Lens.fst (Lens.id _))) ty31 rfl)
              | 7, h_ => cases h_; exact Ob.f rfl (.g rfl rfl) fun N => (O.fa rfl fld74_0 rfl)
              | 8, h_ => cases h_; exact Ob.f rfl (.g rfl rfl) fun N => (O.ld (p := (kSl kZ).is xs) rfl (mem_app N (mem_at 1 rfl)) (Lens.fst (Lens.id _)) ty27 rfl)
              | 9, h_ => cases h_; exact Ob.f rfl (.g rfl rfl) fun N => (O.fn fn101 (evs.c rfl evs.nil) (c_knap_sum xs (wOk_hS (wErr_0 h_t9))))
              | 10, h_ => cases h_; exact Ob.f rfl (.g rfl rfl) fun N => (O.fn fn75 (evs.c rfl (evs.l rfl (kC_Z (by assumption)) evs.nil)) (c_zint_Compare M xs.sum))
              | 11, h_ => cases h_; exact Ob.f rfl (.g rfl rfl) fun N => (OpOk.le (O.le rfl rfl) (is_eq (decide_eq_false (sg_nle hM))))
              | 12, h_ => cases h_; exact Ob.f rfl .n fun N => (O.pickF rfl rfl)
              | 13, h_ => cases h_; exact Ob.f rfl .n fun N => (O.mv rfl)
              | 14, h_ => cases h_; exact Ob.f rfl (.g rfl rfl) fun N => (O.fa rfl fld74_2 rfl)
              | 15, h_ => cases h_; exact Ob.f rfl (.g rfl rfl) fun N => (O.ld (p := kZ.is R) rfl (mem_app N (mem_at 1 rfl)) (Lens.snd (Lens.snd (Lens.id _))) ty31 rfl)
              | 16, h_ => cases h_; exact Ob.f rfl (.g rfl rfl) fun N => (O.ld rfl (mem_app N (mem_at 0 rfl)) (Lens.id _) ty31 rfl)
              | 17, h_ => cases h_; exact Ob.f rfl (.g rfl rfl) fun N => (O.fn fn75 (evs.c rfl (evs.l rfl (kC_Z (by assumption)) evs.nil)) (c_zint_Compare R 1))
              | 18, h_ => cases h_; exact Ob.f rfl (.g rfl rfl) fun N => (OpOk.le (O.lt rfl rfl) (is_eq (decide_eq_false (sg_nlt hR1))))
              | 19, h_ => cases h_; exact Ob.f rfl .n fun N => (O.pickF rfl rfl)
              | 20, h_ => cases h_; exact Ob.f rfl .n fun N => (O.mv rfl)
              | 21, h_ => cases h_; exact Ob.f rfl (.g rfl rfl) fun N => (O.fa rfl fld74_2 rfl)
              | 22, h_ => cases h_; exact Ob.f rfl (.g rfl rfl) fun N => (O.ld (p := kZ.is R) rfl (mem_app N (mem_at 1 rfl)) (Lens.snd (Lens.snd (Lens.id _))) ty31 rfl)
              | 23, h_ => cases h_; exact Ob.f rfl (.g rfl rfl) fun N => (O.fa rfl fld74_1 rfl)
              | 24, h_ => cases h_; exact Ob.f rfl (.g rfl rfl) fun N => (O.ld (p := kZ.is M) rfl (mem_app N (mem_at 1 rfl)) (Lens.snd (Lens.fst (Lens.id _))) ty31 rfl)
              | 25, h_ => cases h_; exact Ob.f rfl (.g rfl rfl) fun N => (O.fn fn75 (evs.c rfl (evs.c rfl evs.nil)) (c_zint_Compare R M))
              | 26, h_ => cases h_; exact Ob.f rfl (.g rfl rfl) fun N => (OpOk.le (O.ge rfl rfl) (is_eq (decide_eq_true (sg_ge (by omega)))))
              | 27, h_ => cases h_; exact Ob.f rfl .n fun N => (O.pickF rfl rfl)
              | 28, h_ => cases h_; exact Ob.f rfl .n fun N => (O.mv rfl)
              | 29, h_ => cases h_; exact Ob.ku (b := true) rfl rfl rfl
              | 30, h_ => cases h_; exact Ob.ku (b := true) rfl rfl rfl
              | 31, h_ => cases h_; exact Ob.ku (b := true) rfl rfl rfl
              | 32, h_ => cases h_; exact Ob.ku (b := true) rfl rfl rfl
              | 33, h_ => cases h_; exact Ob.ku (b := true) rfl rfl rfl
              | 34, h_ => cases h_; exact Ob.ku (b := true) rfl rfl rfl
              | 35, h_ => cases h_; exact Ob.ku (b := true) rfl rfl rfl
              | 36, h_ => cases h_; exact Ob.ku (b := true) rfl rfl rfl
              | 37, h_ => cases h_; exact Ob.f rfl .n fun N => (O.pickT rfl rfl)
              | n_ + 38, h_ => simp at h_
            refine WP.nil ?_
            refine QE.next ?_
            refine CW.condT rfl ?_
            refine CW.seq ?_
            refine CW.region ?_
            refine WP.s .n (O.asg rfl) ?_
            refine WP.nil ?_
            refine QE.next ?_
            refine CW.ret ?_
            refine QE.thenR ?_
            refine ST.told 2 rfl (is_eq (y := (cErr xs M R)) (by rw [cErr_2 h_t9 (fun hk => hRM hk.2.2.2.1)])) ?_
            exact QE.done (.inl rfl) rfl (ResOk.t rfl ResOk.nil) (OImp.sub (List.nil_sublist _)) ⟨rfl, rfl⟩
        · refine CW.draw (Γ := [.fr (VP.ex (.pointer (some ⟨b1, 0, none⟩))), .fr ((kSl kZ).is xs), .fr (kBool.is true), .fr (kBool.is false), .fr (kBool.is false), .fr (VP.ex (.pointer (some ⟨b1, 1, none⟩))), .fr (kZ.is M), .fr (VP.ex (.pointer (some ⟨b1, 0, none⟩))), .fr ((kSl kZ).is xs), .fr (kC.is xs.sum), .fr ((kInt .i64).is ((M - xs.sum).sign)), .fr (kBool.is false), .fr (kBool.is false), .fr (kBool.is false), .fr (VP.ex (.pointer (some ⟨b1, 3, none⟩))), .fr (kZ.is R), .fr (kC.is 1), .fr ((kInt .i64).is ((R - 1).sign)), .fr (kBool.is true), .fr (kBool.is true), .fr (kBool.is true), .fr (VP.ex undef), .fr (VP.ex undef), .fr (VP.ex undef), .fr (VP.ex undef), .fr (VP.ex undef), .fr (VP.ex undef), .fr (kBool.is true), .fr (kBool.is true), .fr (VP.ex undef), .fr (VP.ex undef), .fr (VP.ex undef), .fr (VP.ex undef), .fr (VP.ex undef), .fr (VP.ex undef), .fr (VP.ex undef), .fr (VP.ex undef), .fr (kBool.is true)]) (lates := [false, false, false, false, false, false, false, false, false, false, false, false, false, false, false, false, false, false, false, false, false, false, false, false, false, false, false, false, false, false, false, false, false, false, false, false, false, false]) (by kernel_rfl) (Chk.of rfl (by kernel_rfl) rfl) (fun _ _ _ _ _ h => h) (fun q_ x_ h_ => ?_) (fun σ4 => ?_)
          · match q_, h_ with
            | 0, h_ => cases h_; exact Ob.f rfl .n fun N => (O.fa rfl fld74_0 rfl)
            | 1, h_ => cases h_; exact Ob.f rfl .n fun N => (O.ld (p := (kSl kZ).is xs) rfl (mem_app N (mem_at 1 rfl)) (Lens.fst (Lens.id _)) ty27 rfl)
            | 2, h_ => cases h_; exact Ob.f rfl .n fun N => (OpOk.le (O.fn fn81 (evs.c rfl evs.nil) (c_knap_climbs xs (wErr_0 h_t9))) (is_eq hc))
            | 3, h_ => cases h_; exact Ob.f rfl .n fun N => (O.not (a := true) rfl)
            | 4, h_ => cases h_; exact Ob.f rfl .n fun N => (O.mv rfl)
            | 5, h_ => cases h_; exact Ob.f rfl (.g rfl rfl) fun N => (O.fa rfl fld74_1 rfl)
            | 6, h_ => cases h_; exact Ob.f rfl (.g rfl rfl) fun N => (O.ld (p := kZ.is M) rfl (mem_app N (mem_at 1 rfl)) (Lens.snd (Lens.fst (Lens.id _))) ty31 rfl)
            | 7, h_ => cases h_; exact Ob.f rfl (.g rfl rfl) fun N => (O.fa rfl fld74_0 rfl)
            | 8, h_ => cases h_; exact Ob.f rfl (.g rfl rfl) fun N => (O.ld (p := (kSl kZ).is xs) rfl (mem_app N (mem_at 1 rfl)) (Lens.fst (Lens.id _)) ty27 rfl)
            | 9, h_ => cases h_; exact Ob.f rfl (.g rfl rfl) fun N => (O.fn fn101 (evs.c rfl evs.nil) (c_knap_sum xs (wOk_hS (wErr_0 h_t9))))
            | 10, h_ => cases h_; exact Ob.f rfl (.g rfl rfl) fun N => (O.fn fn75 (evs.c rfl (evs.l rfl (kC_Z (by assumption)) evs.nil)) (c_zint_Compare M xs.sum))
            | 11, h_ => cases h_; exact Ob.f rfl (.g rfl rfl) fun N => (OpOk.le (O.le rfl rfl) (is_eq (decide_eq_false (sg_nle hM))))
            | 12, h_ => cases h_; exact Ob.f rfl .n fun N => (O.pickF rfl rfl)
            | 13, h_ => cases h_; exact Ob.f rfl .n fun N => (O.mv rfl)
            | 14, h_ => cases h_; exact Ob.f rfl (.g rfl rfl) fun N => (O.fa rfl fld74_2 rfl)
            | 15, h_ => cases h_; exact Ob.f rfl (.g rfl rfl) fun N => (O.ld (p := kZ.is R) rfl (mem_app N (mem_at 1 rfl)) (Lens.snd (Lens.snd (Lens.id _))) ty31 rfl)
            | 16, h_ => cases h_; exact Ob.f rfl (.g rfl rfl) fun N => (O.ld rfl (mem_app N (mem_at 0 rfl)) (Lens.id _) ty31 rfl)
            | 17, h_ => cases h_; exact Ob.f rfl (.g rfl rfl) fun N => (O.fn fn75 (evs.c rfl (evs.l rfl (kC_Z (by assumption)) evs.nil)) (c_zint_Compare R 1))
            | 18, h_ => cases h_; exact Ob.f rfl (.g rfl rfl) fun N => (OpOk.le (O.lt rfl rfl) (is_eq (decide_eq_true (sg_lt (by omega)))))
            | 19, h_ => cases h_; exact Ob.f rfl .n fun N => (O.pickF rfl rfl)
            | 20, h_ => cases h_; exact Ob.f rfl .n fun N => (O.mv rfl)
            | 21, h_ => cases h_; exact Ob.ku (b := true) rfl rfl rfl
            | 22, h_ => cases h_; exact Ob.ku (b := true) rfl rfl rfl
            | 23, h_ => cases h_; exact Ob.ku (b := true) rfl rfl rfl
            | 24, h_ => cases h_; exact Ob.ku (b := true) rfl rfl rfl
            | 25, h_ => cases h_; exact Ob.ku (b := true) rfl rfl rfl
            | 26, h_ => cases h_; exact Ob.ku (b := true) rfl rfl rfl
            | 27, h_ => cases h_; exact Ob.f rfl .n fun N => (O.pickT rfl rfl)
            | 28, h_ => cases h_; exact Ob.f rfl .n fun N => (O.mv rfl)
            | 29, h_ => cases h_; exact Ob.ku (b := true) rfl rfl rfl
            | 30, h_ => cases h_; exact Ob.ku (b := true) rfl rfl rfl
            | 31, h_ => cases h_; exact Ob.ku (b := true) rfl rfl rfl
            | 32, h_ => cases h_; exact Ob.ku (b := true) rfl rfl rfl
            | 33, h_ => cases h_; exact Ob.ku (b := true) rfl rfl rfl
            | 34, h_ => cases h_; exact Ob.ku (b := true) rfl rfl rfl
            | 35, h_ => cases h_; exact Ob.ku (b := true) rfl rfl rfl
            | 36, h_ => cases h_; exact Ob.ku (b := true) rfl rfl rfl
            | 37, h_ => cases h_; exact Ob.f rfl .n fun N => (O.pickT rfl rfl)
            | n_ + 38, h_ => simp at h_
          refine WP.nil ?_
          refine QE.next ?_
          refine CW.condT rfl ?_
          refine CW.seq ?_
          refine CW.region ?_
          refine WP.s .n (O.asg rfl) ?_
          refine WP.nil ?_
          refine QE.next ?_
          refine CW.ret ?_
          refine QE.thenR ?_
          refine ST.told 2 rfl (is_eq (y := (cErr xs M R)) (by rw [cErr_2 h_t9 (fun hk => hR1 hk.2.2.1)])) ?_
          exact QE.done (.inl rfl) rfl (ResOk.t rfl ResOk.nil) (OImp.sub (List.nil_sublist _)) ⟨rfl, rfl⟩
      · refine CW.draw (Γ := [.fr (VP.ex (.pointer (some ⟨b1, 0, none⟩))), .fr ((kSl kZ).is xs), .fr (kBool.is true), .fr (kBool.is false), .fr (kBool.is false), .fr (VP.ex (.pointer (some ⟨b1, 1, none⟩))), .fr (kZ.is M), .fr (VP.ex (.pointer (some ⟨b1, 0, none⟩))), .fr ((kSl kZ).is xs), .fr (kC.is xs.sum), .fr ((kInt .i64).is ((M - xs.sum).sign)), .fr (kBool.is true), .fr (kBool.is true), .fr (kBool.is true), .fr (VP.ex undef), .fr (VP.ex undef), .fr (VP.ex undef), .fr (VP.ex undef), .fr (VP.ex undef), .fr (kBool.is true), .fr (kBool.is true), .fr (VP.ex undef), .fr (VP.ex undef), .fr (VP.ex undef), .fr (VP.ex undef), .fr (VP.ex undef), .fr (VP.ex undef), .fr (kBool.is true), .fr (kBool.is true), .fr (VP.ex undef), .fr (VP.ex undef), .fr (VP.ex undef), .fr (VP.ex undef), .fr (VP.ex undef), .fr (VP.ex undef), .fr (VP.ex undef), .fr (VP.ex undef), .fr (kBool.is true)]) (lates := [false, false, false, false, false, false, false, false, false, false, false, false, false, false, false, false, false, false, false, false, false, false, false, false, false, false, false, false, false, false, false, false, false, false, false, false, false, false]) (by kernel_rfl) (Chk.of rfl (by kernel_rfl) rfl) (fun _ _ _ _ _ h => h) (fun q_ x_ h_ => ?_) (fun σ5 => ?_)
        · match q_, h_ with
          | 0, h_ => cases h_; exact Ob.f rfl .n fun N => (O.fa rfl fld74_0 rfl)
          | 1, h_ => cases h_; exact Ob.f rfl .n fun N => (O.ld (p := (kSl kZ).is xs) rfl (mem_app N (mem_at 1 rfl)) (Lens.fst (Lens.id _)) ty27 rfl)
          | 2, h_ => cases h_; exact Ob.f rfl .n fun N => (OpOk.le (O.fn fn81 (evs.c rfl evs.nil) (c_knap_climbs xs (wErr_0 h_t9))) (is_eq hc))
          | 3, h_ => cases h_; exact Ob.f rfl .n fun N => (O.not (a := true) rfl)
          | 4, h_ => cases h_; exact Ob.f rfl .n fun N => (O.mv rfl)
          | 5, h_ => cases h_; exact Ob.f rfl (.g rfl rfl) fun N => (O.fa rfl fld74_1 rfl)
          | 6, h_ => cases h_; exact Ob.f rfl (.g rfl rfl) fun N => (O.ld (p := kZ.is M) rfl (mem_app N (mem_at 1 rfl)) (Lens.snd (Lens.fst (Lens.id _))) ty31 rfl)
          | 7, h_ => cases h_; exact Ob.f rfl (.g rfl rfl) fun N => (O.fa rfl fld74_0 rfl)
          | 8, h_ => cases h_; exact Ob.f rfl (.g rfl rfl) fun N => (O.ld (p := (kSl kZ).is xs) rfl (mem_app N (mem_at 1 rfl)) (Lens.fst (Lens.id _)) ty27 rfl)
          | 9, h_ => cases h_; exact Ob.f rfl (.g rfl rfl) fun N => (O.fn fn101 (evs.c rfl evs.nil) (c_knap_sum xs (wOk_hS (wErr_0 h_t9))))
          | 10, h_ => cases h_; exact Ob.f rfl (.g rfl rfl) fun N => (O.fn fn75 (evs.c rfl (evs.l rfl (kC_Z (by assumption)) evs.nil)) (c_zint_Compare M xs.sum))
          | 11, h_ => cases h_; exact Ob.f rfl (.g rfl rfl) fun N => (OpOk.le (O.le rfl rfl) (is_eq (decide_eq_true (sg_le (by omega)))))
          | 12, h_ => cases h_; exact Ob.f rfl .n fun N => (O.pickF rfl rfl)
          | 13, h_ => cases h_; exact Ob.f rfl .n fun N => (O.mv rfl)
          | 14, h_ => cases h_; exact Ob.ku (b := true) rfl rfl rfl
          | 15, h_ => cases h_; exact Ob.ku (b := true) rfl rfl rfl
          | 16, h_ => cases h_; exact Ob.ku (b := true) rfl rfl rfl
          | 17, h_ => cases h_; exact Ob.ku (b := true) rfl rfl rfl
          | 18, h_ => cases h_; exact Ob.ku (b := true) rfl rfl rfl
          | 19, h_ => cases h_; exact Ob.f rfl .n fun N => (O.pickT rfl rfl)
          | 20, h_ => cases h_; exact Ob.f rfl .n fun N => (O.mv rfl)
          | 21, h_ => cases h_; exact Ob.ku (b := true) rfl rfl rfl
          | 22, h_ => cases h_; exact Ob.ku (b := true) rfl rfl rfl
          | 23, h_ => cases h_; exact Ob.ku (b := true) rfl rfl rfl
          | 24, h_ => cases h_; exact Ob.ku (b := true) rfl rfl rfl
          | 25, h_ => cases h_; exact Ob.ku (b := true) rfl rfl rfl
          | 26, h_ => cases h_; exact Ob.ku (b := true) rfl rfl rfl
          | 27, h_ => cases h_; exact Ob.f rfl .n fun N => (O.pickT rfl rfl)
          | 28, h_ => cases h_; exact Ob.f rfl .n fun N => (O.mv rfl)
          | 29, h_ => cases h_; exact Ob.ku (b := true) rfl rfl rfl
          | 30, h_ => cases h_; exact Ob.ku (b := true) rfl rfl rfl
          | 31, h_ => cases h_; exact Ob.ku (b := true) rfl rfl rfl
          | 32, h_ => cases h_; exact Ob.ku (b := true) rfl rfl rfl
          | 33, h_ => cases h_; exact Ob.ku (b := true) rfl rfl rfl
          | 34, h_ => cases h_; exact Ob.ku (b := true) rfl rfl rfl
          | 35, h_ => cases h_; exact Ob.ku (b := true) rfl rfl rfl
          | 36, h_ => cases h_; exact Ob.ku (b := true) rfl rfl rfl
          | 37, h_ => cases h_; exact Ob.f rfl .n fun N => (O.pickT rfl rfl)
          | n_ + 38, h_ => simp at h_
        refine WP.nil ?_
        refine QE.next ?_
        refine CW.condT rfl ?_
        refine CW.seq ?_
        refine CW.region ?_
        refine WP.s .n (O.asg rfl) ?_
        refine WP.nil ?_
        refine QE.next ?_
        refine CW.ret ?_
        refine QE.thenR ?_
        refine ST.told 2 rfl (is_eq (y := (cErr xs M R)) (by rw [cErr_2 h_t9 (fun hk => hM hk.2.1)])) ?_
        exact QE.done (.inl rfl) rfl (ResOk.t rfl ResOk.nil) (OImp.sub (List.nil_sublist _)) ⟨rfl, rfl⟩
    · refine CW.draw (Γ := [.fr (VP.ex (.pointer (some ⟨b1, 0, none⟩))), .fr ((kSl kZ).is xs), .fr (kBool.is false), .fr (kBool.is true), .fr (kBool.is true), .fr (VP.ex undef), .fr (VP.ex undef), .fr (VP.ex undef), .fr (VP.ex undef), .fr (VP.ex undef), .fr (VP.ex undef), .fr (VP.ex undef), .fr (kBool.is true), .fr (kBool.is true), .fr (VP.ex undef), .fr (VP.ex undef), .fr (VP.ex undef), .fr (VP.ex undef), .fr (VP.ex undef), .fr (kBool.is true), .fr (kBool.is true), .fr (VP.ex undef), .fr (VP.ex undef), .fr (VP.ex undef), .fr (VP.ex undef), .fr (VP.ex undef), .fr (VP.ex undef), .fr (kBool.is true), .fr (kBool.is true), .fr (VP.ex undef), .fr (VP.ex undef), .fr (VP.ex undef), .fr (VP.ex undef), .fr (VP.ex undef), .fr (VP.ex undef), .fr (VP.ex undef), .fr (VP.ex undef), .fr (kBool.is true)]) (lates := [false, false, false, false, false, false, false, false, false, false, false, false, false, false, false, false, false, false, false, false, false, false, false, false, false, false, false, false, false, false, false, false, false, false, false, false, false, false]) (by kernel_rfl) (Chk.of rfl (by kernel_rfl) rfl) (fun _ _ _ _ _ h => h) (fun q_ x_ h_ => ?_) (fun σ6 => ?_)
      · match q_, h_ with
        | 0, h_ => cases h_; exact Ob.f rfl .n fun N => (O.fa rfl fld74_0 rfl)
        | 1, h_ => cases h_; exact Ob.f rfl .n fun N => (O.ld (p := (kSl kZ).is xs) rfl (mem_app N (mem_at 1 rfl)) (Lens.fst (Lens.id _)) ty27 rfl)
        | 2, h_ => cases h_; exact Ob.f rfl .n fun N => (OpOk.le (O.fn fn81 (evs.c rfl evs.nil) (c_knap_climbs xs (wErr_0 h_t9))) (is_eq (by simpa using hc)))
        | 3, h_ => cases h_; exact Ob.f rfl .n fun N => (O.not (a := false) rfl)
        | 4, h_ => cases h_; exact Ob.f rfl .n fun N => (O.mv rfl)
        | 5, h_ => cases h_; exact Ob.ku (b := true) rfl rfl rfl
        | 6, h_ => cases h_; exact Ob.ku (b := true) rfl rfl rfl
        | 7, h_ => cases h_; exact Ob.ku (b := true) rfl rfl rfl
        | 8, h_ => cases h_; exact Ob.ku (b := true) rfl rfl rfl
        | 9, h_ => cases h_; exact Ob.ku (b := true) rfl rfl rfl
        | 10, h_ => cases h_; exact Ob.ku (b := true) rfl rfl rfl
        | 11, h_ => cases h_; exact Ob.ku (b := true) rfl rfl rfl
        | 12, h_ => cases h_; exact Ob.f rfl .n fun N => (O.pickT rfl rfl)
        | 13, h_ => cases h_; exact Ob.f rfl .n fun N => (O.mv rfl)
        | 14, h_ => cases h_; exact Ob.ku (b := true) rfl rfl rfl
        | 15, h_ => cases h_; exact Ob.ku (b := true) rfl rfl rfl
        | 16, h_ => cases h_; exact Ob.ku (b := true) rfl rfl rfl
        | 17, h_ => cases h_; exact Ob.ku (b := true) rfl rfl rfl
        | 18, h_ => cases h_; exact Ob.ku (b := true) rfl rfl rfl
        | 19, h_ => cases h_; exact Ob.f rfl .n fun N => (O.pickT rfl rfl)
        | 20, h_ => cases h_; exact Ob.f rfl .n fun N => (O.mv rfl)
        | 21, h_ => cases h_; exact Ob.ku (b := true) rfl rfl rfl
        | 22, h_ => cases h_; exact Ob.ku (b := true) rfl rfl rfl
        | 23, h_ => cases h_; exact Ob.ku (b := true) rfl rfl rfl
        | 24, h_ => cases h_; exact Ob.ku (b := true) rfl rfl rfl
        | 25, h_ => cases h_; exact Ob.ku (b := true) rfl rfl rfl
        | 26, h_ => cases h_; exact Ob.ku (b := true) rfl rfl rfl
        | 27, h_ => cases h_; exact Ob.f rfl .n fun N => (O.pickT rfl rfl)
        | 28, h_ => cases h_; exact Ob.f rfl .n fun N => (O.mv rfl)
        | 29, h_ => cases h_; exact Ob.ku (b := true) rfl rfl rfl
        | 30, h_ => cases h_; exact Ob.ku (b := true) rfl rfl rfl
        | 31, h_ => cases h_; exact Ob.ku (b := true) rfl rfl rfl
        | 32, h_ => cases h_; exact Ob.ku (b := true) rfl rfl rfl
        | 33, h_ => cases h_; exact Ob.ku (b := true) rfl rfl rfl
        | 34, h_ => cases h_; exact Ob.ku (b := true) rfl rfl rfl
        | 35, h_ => cases h_; exact Ob.ku (b := true) rfl rfl rfl
        | 36, h_ => cases h_; exact Ob.ku (b := true) rfl rfl rfl
        | 37, h_ => cases h_; exact Ob.f rfl .n fun N => (O.pickT rfl rfl)
        | n_ + 38, h_ => simp at h_
      refine WP.nil ?_
      refine QE.next ?_
      refine CW.condT rfl ?_
      refine CW.seq ?_
      refine CW.region ?_
      refine WP.s .n (O.asg rfl) ?_
      refine WP.nil ?_
      refine QE.next ?_
      refine CW.ret ?_
      refine QE.thenR ?_
      refine ST.told 2 rfl (is_eq (y := (cErr xs M R)) (by rw [cErr_2 h_t9 (fun hk => hc hk.1)])) ?_
      exact QE.done (.inl rfl) rfl (ResOk.t rfl ResOk.nil) (OImp.sub (List.nil_sublist _)) ⟨rfl, rfl⟩

set_option maxRecDepth 20000 in
set_option maxHeartbeats 1000000 in
theorem c_ref24_Check (xs : List Int) (M R : Int) (hM0 : Sq M) (hR0 : Sq R) : Fn Try.prog 44 [(kPair (kSl kZ) (kPair kZ kZ)).is (xs, M, R)] ((kInt .i64).is (cErr xs M R)) := by
  refine Con.enter Try.func44 rfl rfl fun m w => ?_
  refine CW.seq ?_
  refine CW.region ?_
  refine WP.bx .n rfl fun b1 => ?_
  refine WP.s .n (O.asg rfl) ?_
  refine WP.nil ?_
  refine QE.next ?_
  refine CW.seq ?_
  refine CW.region ?_
  refine WP.s .n (O.fa rfl fld74_0 rfl) ?_
  refine WP.s .n (O.ld (p := (kSl kZ).is xs) rfl (mem_at 0 rfl) (Lens.fst (Lens.id _)) ty27 rfl) ?_
  refine WP.s .n (O.fn fn31 (evs.c rfl evs.nil) (c_ref24_Valid xs)) ?_
  refine WP.s .n (O.asg rfl) ?_
  refine WP.nil ?_
  refine QE.next ?_
  refine CW.seq ?_
  refine CW.seq ?_
  refine CW.region ?_
  refine WP.s .n (O.mv rfl) ?_
  refine WP.s .n (O.ne rfl rfl) ?_
  refine WP.nil ?_
  refine QE.next ?_
  refine CW.condD rfl (fun h_t10 => ?_) (fun h_t10 => ?_)
  · refine CW.seq ?_
    refine CW.region ?_
    refine WP.s .n (O.mv rfl) ?_
    refine WP.s .n (O.asg rfl) ?_
    refine WP.nil ?_
    refine QE.next ?_
    refine CW.ret ?_
    refine QE.thenR ?_
    refine ST.told 2 rfl (is_eq (y := (cErr xs M R)) (by rw [cErr_1 h_t10])) ?_
    exact QE.done (.inl rfl) rfl (ResOk.t rfl ResOk.nil) (OImp.sub (List.nil_sublist _)) ⟨rfl, rfl⟩
  · have hT := wOk_SmT (wErr_0 h_t10)
    have hs1 : Sm 1 := Sm_lit (by decide)
    have hsg := Sq_gcd hR0 hM0
    refine CW.skip ?_
    refine QE.next ?_
    refine CW.seq ?_
    refine CW.region ?_
    refine WP.s .n (O.fn fn78 (evs.l rfl (i64_int (by omega)) evs.nil) (c_ref02_Of 1)) ?_
    refine WP.al .n z31_C fun b2 => ?_
    refine WP.t .n (O.stW (l := kC) (u := 1) 0 rfl rfl rfl ty31 rfl (VP.le_refl _)) ?_
    refine WP.nil ?_
    refine QE.next ?_
    refine CW.seq ?_
    refine CW.region ?_
    refine WP.s .n (O.fa rfl fld74_0 rfl) ?_
    refine WP.s .n (O.ld (p := (kSl kZ).is xs) rfl (mem_at 1 rfl) (Lens.fst (Lens.id _)) ty27 rfl) ?_
    refine WP.s .n (O.fn fn103 (evs.c rfl evs.nil) (c_ref02_Sum xs (wOk_hS (wErr_0 h_t10)))) ?_
    refine WP.al .n z31_C fun b3 => ?_
    refine WP.t .n (O.stW (l := kC) (u := xs.sum) 0 rfl rfl rfl ty31 rfl (VP.le_refl _)) ?_
    refine WP.nil ?_
    refine QE.next ?_
    refine CW.seq ?_
    refine CW.seq ?_
    by_cases hc : climb xs = true
    · by_cases hM : xs.sum < M
      · by_cases hR1 : 1 ≤ R
        · by_cases hRM : R < M
          · by_cases hg : ((Int.gcd R M : Nat) : Int) = 1
            · refine CW.draw (Γ := [.fr (VP.ex (.pointer (some ⟨b1, 0, none⟩))), .fr ((kSl kZ).is xs), .fr (kBool.is true), .fr (kBool.is false), .fr (kBool.is false), .fr (VP.ex (.pointer (some ⟨b1, 1, none⟩))), .fr (kZ.is M), .fr (kC.is xs.sum), .fr ((kInt .i64).is ((M - xs.sum).sign)), .fr (kBool.is false), .fr (kBool.is false), .fr (kBool.is false), .fr (VP.ex (.pointer (some ⟨b1, 3, none⟩))), .fr (kZ.is R), .fr (kC.is 1), .fr ((kInt .i64).is ((R - 1).sign)), .fr (kBool.is false), .fr (kBool.is false), .fr (kBool.is false), .fr (VP.ex (.pointer (some ⟨b1, 3, none⟩))), .fr (kZ.is R), .fr (VP.ex (.pointer (some ⟨b1, 1, none⟩))), .fr (kZ.is M), .fr ((kInt .i64).is ((R - M).sign)), .fr (kBool.is false), .fr (kBool.is false), .fr (kBool.is false), .fr (VP.ex (.pointer (some ⟨b1, 3, none⟩))), .fr (kZ.is R), .fr (VP.ex (.pointer (some ⟨b1, 1, none⟩))), .fr (kZ.is M), .fr (kC.is (Int.gcd R M : Int)), .fr (kC.is 1), .fr ((kInt .i64).is (((Int.gcd R M : Int) - 1).sign)), .fr (kBool.is false), .fr (kBool.is false)]) (lates := [false, false, false, false, false, false, false, false, false, false, false, false, false, false, false, false, false, false, false, false, false, false, false, false, false, false, false, false, false, false, false, false, false, false, false, false]) (by kernel_rfl) (Chk.of rfl (by kernel_rfl) rfl) (fun _ _ _ _ _ h => h) (fun q_ x_ h_ => ?_) (fun σ1 => ?_)
              · match q_, h_ with
                | 0, h_ => cases h_; exact Ob.f rfl .n fun N => (O.fa rfl fld74_0 rfl)
                | 1, h_ => cases h_; exact Ob.f rfl .n fun N => (O.ld (p := (kSl kZ).is xs) rfl (mem_app N (mem_at 2 rfl)) (Lens.fst (Lens.id _)) ty27 rfl)
                | 2, h_ => cases h_; exact Ob.f rfl .n fun N => (OpOk.le (O.fn fn36 (evs.c rfl evs.nil) (c_ref24_Climbs xs (wErr_0 h_t10))) (is_eq hc))
                | 3, h_ => cases h_; exact Ob.f rfl .n fun N => (O.not (a := true) rfl)
                | 4, h_ => cases h_; exact Ob.f rfl .n fun N => (O.mv rfl)
                | 5, h_ => cases h_; exact Ob.f rfl (.g rfl rfl) fun N => (O.fa rfl fld74_1 rfl)
                | 6, h_ => cases h_; exact Ob.f rfl (.g rfl rfl) fun N => (O.ld (p := kZ.is M) rfl (mem_app N (mem_at 2 rfl)) (Lens.snd (Lens.fst (Lens.id _))) ty31 rfl)
                | 7, h_ => cases h_; exact Ob.f rfl (.g rfl rfl) fun N => (O.ld rfl (mem_app N (mem_at 0 rfl)) (Lens.id _) ty31 rfl)
                | 8, h_ => cases h_; exact Ob.f rfl (.g rfl rfl) fun N => (O.fn fn88 (evs.c rfl (evs.l rfl (kC_Z (by assumption)) evs.nil)) (c_ref02_Cmp M xs.sum (Sq_sub_tot (wErr_0 h_t10) hM0)))
                | 9, h_ => cases h_; exact Ob.f rfl (.g rfl rfl) fun N => (OpOk.le (O.le rfl rfl) (is_eq (decide_eq_false (sg_nle hM))))
                | 10, h_ => cases h_; exact Ob.f rfl .n fun N => (O.pickF rfl rfl)
                | 11, h_ => cases h_; exact Ob.f rfl .n fun N => (O.mv rfl)
                | 12, h_ => cases h_; exact Ob.f rfl (.g rfl rfl) fun N => (O.fa rfl fld74_2 rfl)
                | 13, h_ => cases h_; exact Ob.f rfl (.g rfl rfl) fun N => (O.ld (p := kZ.is R) rfl (mem_app N (mem_at 2 rfl)) (Lens.snd (Lens.snd (Lens.id _))) ty31 rfl)
                | 14, h_ => cases h_; exact Ob.f rfl (.g rfl rfl) fun N => (O.ld rfl (mem_app N (mem_at 1 rfl)) (Lens.id _) ty31 rfl)
                | 15, h_ => cases h_; exact Ob.f rfl (.g rfl rfl) fun N => (O.fn fn88 (evs.c rfl (evs.l rfl (kC_Z (by assumption)) evs.nil)) (c_ref02_Cmp R 1 (Sq_sub1 hR0)))
                | 16, h_ => cases h_; exact Ob.f rfl (.g rfl rfl) fun N => (OpOk.le (O.lt rfl rfl) (is_eq (decide_eq_false (sg_nlt hR1))))
                | 17, h_ => cases h_; exact Ob.f rfl .n fun N => (O.pickF rfl rfl)
                | 18, h_ => cases h_; exact Ob.f rfl .n fun N => (O.mv rfl)
                | 19, h_ => cases h_; exact Ob.f rfl (.g rfl rfl) fun N => (O.fa rfl fld74_2 rfl)
                | 20, h_ => cases h_; exact Ob.f rfl (.g rfl rfl) fun N => (O.ld (p := kZ.is R) rfl (mem_app N (mem_at 2 rfl)) (Lens.snd (Lens.snd (Lens.id _))) ty31 rfl)
                | 21, h_ => cases h_; exact Ob.f rfl (.g rfl rfl) fun N => (O.fa rfl fld74_1 rfl)
                | 22, h_ => cases h_; exact Ob.f rfl (.g rfl rfl) fun N => (O.ld (p := kZ.is M) rfl (mem_app N (mem_at 2 rfl)) (Lens.snd (Lens.fst (Lens.id _))) ty31 rfl)
                | 23, h_ => cases h_; exact Ob.f rfl (.g rfl rfl) fun N => (O.fn fn88 (evs.c rfl (evs.c rfl evs.nil)) (c_ref02_Cmp R M (Sq_sub2 hR0 hM0)))
                | 24, h_ => cases h_; exact Ob.f rfl (.g rfl rfl) fun N => (OpOk.le (O.ge rfl rfl) (is_eq (decide_eq_false (sg_nge hRM))))
                | 25, h_ => cases h_; exact Ob.f rfl .n fun N => (O.pickF rfl rfl)
                | 26, h_ => cases h_; exact Ob.f rfl .n fun N => (O.mv rfl)
                | 27, h_ => cases h_; exact Ob.f rfl (.g rfl rfl) fun N => (O.fa rfl fld74_2 rfl)
                | 28, h_ => cases h_; exact Ob.f rfl (.g rfl rfl) fun N => (O.ld (p := kZ.is R) rfl (mem_app N (mem_at 2 rfl)) (Lens.snd (Lens.snd (Lens.id _))) ty31 rfl)
                | 29, h_ => cases h_; exact Ob.f rfl (.g rfl rfl) fun N => (O.fa rfl fld74_1 rfl)
                | 30, h_ => cases h_; exact Ob.f rfl (.g rfl rfl) fun N => (O.ld (p := kZ.is M) rfl (mem_app N (mem_at 2 rfl)) (Lens.snd (Lens.fst (Lens.id _))) ty31 rfl)
                | 31, h_ => cases h_; exact Ob.f rfl (.g rfl rfl) fun N => (O.fn fn104 (evs.c rfl (evs.c rfl evs.nil)) (c_ref02_Gcd R M))
                | 32, h_ => cases h_; exact Ob.f rfl (.g rfl rfl) fun N => (O.ld rfl (mem_app N (mem_at 1 rfl)) (Lens.id _) ty31 rfl)
                | 33, h_ => cases h_; exact Ob.f rfl (.g rfl rfl) fun N => (O.fn fn88 (evs.l rfl (kC_Z (by assumption)) (evs.l rfl (kC_Z (by assumption)) evs.nil)) (c_ref02_Cmp (Int.gcd R M : Int) 1 (Sq_subg hR0 hM0)))
                | 34, h_ => cases h_; exact Ob.f rfl (.g rfl rfl) fun N => (OpOk.le (O.ne rfl rfl) (is_eq (decide_eq_false (sg_nne hg))))
                | 35, h_ => cases h_; exact Ob.f rfl .n fun N => (O.pickF rfl rfl)
                | n_ + 36, h_ => simp at h_
              refine WP.nil ?_
              refine QE.next ?_
              refine CW.condF rfl ?_
              refine CW.skip ?_
              refine QE.next ?_
              refine CW.seq ?_
              refine CW.region ?_
              refine WP.s .n (O.asg rfl) ?_
              refine WP.nil ?_
              refine QE.next ?_
              refine CW.ret ?_
              refine ST.told 2 rfl (is_eq (y := (cErr xs M R)) (by rw [cErr_3 h_t10 ⟨hc, hM, hR1, hRM, hg⟩])) ?_
              exact QE.done (.inl rfl) rfl (ResOk.t rfl ResOk.nil) (OImp.sub (List.nil_sublist _)) ⟨rfl, rfl⟩
            · refine CW.draw (Γ := [.fr (VP.ex (.pointer (some ⟨b1, 0, none⟩))), .fr ((kSl kZ).is xs), .fr (kBool.is true), .fr (kBool.is false), .fr (kBool.is false), .fr (VP.ex (.pointer (some ⟨b1, 1, none⟩))), .fr (kZ.is M), .fr (kC.is xs.sum), .fr ((kInt .i64).is ((M - xs.sum).sign)), .fr (kBool.is false), .fr (kBool.is false), .fr (kBool.is false), .fr (VP.ex (.pointer (some ⟨b1, 3, none⟩))), .fr (kZ.is R), .fr (kC.is 1), .fr ((kInt .i64).is ((R - 1).sign)), .fr (kBool.is false), .fr (kBool.is false), .fr (kBool.is false), .fr (VP.ex (.pointer (some ⟨b1, 3, none⟩))), .fr (kZ.is R), .fr (VP.ex (.pointer (some ⟨b1, 1, none⟩))), .fr (kZ.is M), .fr ((kInt .i64).is ((R - M).sign)), .fr (kBool.is false), .fr (kBool.is false), .fr (kBool.is false), .fr (VP.ex (.pointer (some ⟨b1, 3, none⟩))), .fr (kZ.is R), .fr (VP.ex (.pointer (some ⟨b1, 1, none⟩))), .fr (kZ.is M), .fr (kC.is (Int.gcd R M : Int)), .fr (kC.is 1), .fr ((kInt .i64).is (((Int.gcd R M : Int) - 1).sign)), .fr (kBool.is true), .fr (kBool.is true)]) (lates := [false, false, false, false, false, false, false, false, false, false, false, false, false, false, false, false, false, false, false, false, false, false, false, false, false, false, false, false, false, false, false, false, false, false, false, false]) (by kernel_rfl) (Chk.of rfl (by kernel_rfl) rfl) (fun _ _ _ _ _ h => h) (fun q_ x_ h_ => ?_) (fun σ2 => ?_)
              · match q_, h_ with
                | 0, h_ => cases h_; exact Ob.f rfl .n fun N => (O.fa rfl fld74_0 rfl)
                | 1, h_ => cases h_; exact Ob.f rfl .n fun N => (O.ld (p := (kSl kZ).is xs) rfl (mem_app N (mem_at 2 rfl)) (Lens.fst (Lens.id _)) ty27 rfl)
                | 2, h_ => cases h_; exact Ob.f rfl .n fun N => (OpOk.le (O.fn fn36 (evs.c rfl evs.nil) (c_ref24_Climbs xs (wErr_0 h_t10))) (is_eq hc))
                | 3, h_ => cases h_; exact Ob.f rfl .n fun N => (O.not (a := true) rfl)
                | 4, h_ => cases h_; exact Ob.f rfl .n fun N => (O.mv rfl)
                | 5, h_ => cases h_; exact Ob.f rfl (.g rfl rfl) fun N => (O.fa rfl fld74_1 rfl)
                | 6, h_ => cases h_; exact Ob.f rfl (.g rfl rfl) fun N => (O.ld (p := kZ.is M) rfl (mem_app N (mem_at 2 rfl)) (Lens.snd (Lens.fst (Lens.id _))) ty31 rfl)
                | 7, h_ => cases h_; exact Ob.f rfl (.g rfl rfl) fun N => (O.ld rfl (mem_app N (mem_at 0 rfl)) (Lens.id _) ty31 rfl)
                | 8, h_ => cases h_; exact Ob.f rfl (.g rfl rfl) fun N => (O.fn fn88 (evs.c rfl (evs.l rfl (kC_Z (by assumption)) evs.nil)) (c_ref02_Cmp M xs.sum (Sq_sub_tot (wErr_0 h_t10) hM0)))
                | 9, h_ => cases h_; exact Ob.f rfl (.g rfl rfl) fun N => (OpOk.le (O.le rfl rfl) (is_eq (decide_eq_false (sg_nle hM))))
                | 10, h_ => cases h_; exact Ob.f rfl .n fun N => (O.pickF rfl rfl)
                | 11, h_ => cases h_; exact Ob.f rfl .n fun N => (O.mv rfl)
                | 12, h_ => cases h_; exact Ob.f rfl (.g rfl rfl) fun N => (O.fa rfl fld74_2 rfl)
                | 13, h_ => cases h_; exact Ob.f rfl (.g rfl rfl) fun N => (O.ld (p := kZ.is R) rfl (mem_app N (mem_at 2 rfl)) (Lens.snd (Lens.snd (Lens.id _))) ty31 rfl)
                | 14, h_ => cases h_; exact Ob.f rfl (.g rfl rfl) fun N => (O.ld rfl (mem_app N (mem_at 1 rfl)) (Lens.id _) ty31 rfl)
                | 15, h_ => cases h_; exact Ob.f rfl (.g rfl rfl) fun N => (O.fn fn88 (evs.c rfl (evs.l rfl (kC_Z (by assumption)) evs.nil)) (c_ref02_Cmp R 1 (Sq_sub1 hR0)))
                | 16, h_ => cases h_; exact Ob.f rfl (.g rfl rfl) fun N => (OpOk.le (O.lt rfl rfl) (is_eq (decide_eq_false (sg_nlt hR1))))
                | 17, h_ => cases h_; exact Ob.f rfl .n fun N => (O.pickF rfl rfl)
                | 18, h_ => cases h_; exact Ob.f rfl .n fun N => (O.mv rfl)
                | 19, h_ => cases h_; exact Ob.f rfl (.g rfl rfl) fun N => (O.fa rfl fld74_2 rfl)
                | 20, h_ => cases h_; exact Ob.f rfl (.g rfl rfl) fun N => (O.ld (p := kZ.is R) rfl (mem_app N (mem_at 2 rfl)) (Lens.snd (Lens.snd (Lens.id _))) ty31 rfl)
                | 21, h_ => cases h_; exact Ob.f rfl (.g rfl rfl) fun N => (O.fa rfl fld74_1 rfl)
                | 22, h_ => cases h_; exact Ob.f rfl (.g rfl rfl) fun N => (O.ld (p := kZ.is M) rfl (mem_app N (mem_at 2 rfl)) (Lens.snd (Lens.fst (Lens.id _))) ty31 rfl)
                | 23, h_ => cases h_; exact Ob.f rfl (.g rfl rfl) fun N => (O.fn fn88 (evs.c rfl (evs.c rfl evs.nil)) (c_ref02_Cmp R M (Sq_sub2 hR0 hM0)))
                | 24, h_ => cases h_; exact Ob.f rfl (.g rfl rfl) fun N => (OpOk.le (O.ge rfl rfl) (is_eq (decide_eq_false (sg_nge hRM))))
                | 25, h_ => cases h_; exact Ob.f rfl .n fun N => (O.pickF rfl rfl)
                | 26, h_ => cases h_; exact Ob.f rfl .n fun N => (O.mv rfl)
                | 27, h_ => cases h_; exact Ob.f rfl (.g rfl rfl) fun N => (O.fa rfl fld74_2 rfl)
                | 28, h_ => cases h_; exact Ob.f rfl (.g rfl rfl) fun N => (O.ld (p := kZ.is R) rfl (mem_app N (mem_at 2 rfl)) (Lens.snd (Lens.snd (Lens.id _))) ty31 rfl)
                | 29, h_ => cases h_; exact Ob.f rfl (.g rfl rfl) fun N => (O.fa rfl fld74_1 rfl)
                | 30, h_ => cases h_; exact Ob.f rfl (.g rfl rfl) fun N => (O.ld (p := kZ.is M) rfl (mem_app N (mem_at 2 rfl)) (Lens.snd (Lens.fst (Lens.id _))) ty31 rfl)
                | 31, h_ => cases h_; exact Ob.f rfl (.g rfl rfl) fun N => (O.fn fn104 (evs.c rfl (evs.c rfl evs.nil)) (c_ref02_Gcd R M))
                | 32, h_ => cases h_; exact Ob.f rfl (.g rfl rfl) fun N => (O.ld rfl (mem_app N (mem_at 1 rfl)) (Lens.id _) ty31 rfl)
                | 33, h_ => cases h_; exact Ob.f rfl (.g rfl rfl) fun N => (O.fn fn88 (evs.l rfl (kC_Z (by assumption)) (evs.l rfl (kC_Z (by assumption)) evs.nil)) (c_ref02_Cmp (Int.gcd R M : Int) 1 (Sq_subg hR0 hM0)))
                | 34, h_ => cases h_; exact Ob.f rfl (.g rfl rfl) fun N => (OpOk.le (O.ne rfl rfl) (is_eq (decide_eq_true (sg_ne hg))))
                | 35, h_ => cases h_; exact Ob.f rfl .n fun N => (O.pickF rfl rfl)
                | n_ + 36, h_ => simp at h_
              refine WP.nil ?_
              refine QE.next ?_
              refine CW.condT rfl ?_
              refine CW.seq ?_
              refine CW.region ?_
              refine WP.s .n (O.asg rfl) ?_
              refine WP.nil ?_
              refine QE.next ?_
              refine CW.ret ?_
              refine QE.thenR ?_
              refine ST.told 2 rfl (is_eq (y := (cErr xs M R)) (by rw [cErr_2 h_t10 (fun hk => hg hk.2.2.2.2)])) ?_
              exact QE.done (.inl rfl) rfl (ResOk.t rfl ResOk.nil) (OImp.sub (List.nil_sublist _)) ⟨rfl, rfl⟩
          · refine CW.draw (Γ := [.fr (VP.ex (.pointer (some ⟨b1, 0, none⟩))), .fr ((kSl kZ).is xs), .fr (kBool.is true), .fr (kBool.is false), .fr (kBool.is false), .fr (VP.ex (.pointer (some ⟨b1, 1, none⟩))), .fr (kZ.is M), .fr (kC.is xs.sum), .fr ((kInt .i64).is ((M - xs.sum).sign)), .fr (kBool.is false), .fr (kBool.is false), .fr (kBool.is false), .fr (VP.ex (.pointer (some ⟨b1, 3, none⟩))), .fr (kZ.is R), .fr (kC.is 1), .fr ((kInt .i64).is ((R - 1).sign)), .fr (kBool.is false), .fr (kBool.is false), .fr (kBool.is false), .fr (VP.ex (.pointer (some ⟨b1, 3, none⟩))), .fr (kZ.is R), .fr (VP.ex (.pointer (some ⟨b1, 1, none⟩))), .fr (kZ.is M), .fr ((kInt .i64).is ((R - M).sign)), .fr (kBool.is true), .fr (kBool.is true), .fr (kBool.is true), .fr (VP.ex undef), .fr (VP.ex undef), .fr (VP.ex undef), .fr (VP.ex undef), .fr (VP.ex undef), .fr (VP.ex undef), .fr (VP.ex undef), .fr (VP.ex undef), .fr (kBool.is true)]) (lates := [false, false, false, false, false, false, false, false, false, false, false, false, false, false, false, false, false, false, false, false, false, false, false, false, false, false, false, false, false, false, false, false, false, false, false, false]) (by kernel_rfl) (Chk.of rfl (by kernel_rfl) rfl) (fun _ _ _ _ _ h => h) (fun q_ x_ h_ => ?_) (fun σ3 => ?_)
            · match q_, h_ with
              | 0, h_ => cases h_; exact Ob.f rfl .n fun N => (O.fa rfl fld74_0 rfl)
              | 1, h_ => cases h_; exact Ob.f rfl .n fun N => (O.ld (p := (kSl kZ).is xs) rfl (mem_app N (mem_at 2 rfl)) (Lens.fst (Lens.id _)) ty27 rfl)
              | 2, h_ => cases h_; exact Ob.f rfl .n fun N => (OpOk.le (O.fn fn36 (evs.c rfl evs.nil) (c_ref24_Climbs xs (wErr_0 h_t10))) (is_eq hc))
              | 3, h_ => cases h_; exact Ob.f rfl .n fun N => (O.not (a := true) rfl)
              | 4, h_ => cases h_; exact Ob.f rfl .n fun N => (O.mv rfl)
              | 5, h_ => cases h_; exact Ob.f rfl (.g rfl rfl) fun N => (O.fa rfl fld74_1 rfl)
              | 6, h_ => cases h_; exact Ob.f rfl (.g rfl rfl) fun N => (O.ld (p := kZ.is M) rfl (mem_app N (mem_at 2 rfl)) (Lens.snd (Lens.fst (Lens.id _))) ty31 rfl)
              | 7, h_ => cases h_; exact Ob.f rfl (.g rfl rfl) fun N => (O.ld rfl (mem_app N (mem_at 0 rfl)) (Lens.id _) ty31 rfl)
              | 8, h_ => cases h_; exact Ob.f rfl (.g rfl rfl) fun N => (O.fn fn88 (evs.c rfl (evs.l rfl (kC_Z (by assumption)) evs.nil)) (c_ref02_Cmp M xs.sum (Sq_sub_tot (wErr_0 h_t10) hM0)))
              | 9, h_ => cases h_; exact Ob.f rfl (.g rfl rfl) fun N => (OpOk.le (O.le rfl rfl) (is_eq (decide_eq_false (sg_nle hM))))
              | 10, h_ => cases h_; exact Ob.f rfl .n fun N => (O.pickF rfl rfl)
              | 11, h_ => cases h_; exact Ob.f rfl .n fun N => (O.mv rfl)
              | 12, h_ => cases h_; exact Ob.f rfl (.g rfl rfl) fun N => (O.fa rfl fld74_2 rfl)
              | 13, h_ => cases h_; exact Ob.f rfl (.g rfl rfl) fun N => (O.ld (p := kZ.is R) rfl (mem_app N (mem_at 2 rfl)) (Lens.snd (Lens.snd (Lens.id _))) ty31 rfl)
              | 14, h_ => cases h_; exact Ob.f rfl (.g rfl rfl) fun N => (O.ld rfl (mem_app N (mem_at 1 rfl)) (Lens.id _) ty31 rfl)
              | 15, h_ => cases h_; exact Ob.f rfl (.g rfl rfl) fun N => (O.fn fn88 (evs.c rfl (evs.l rfl (kC_Z (by assumption)) evs.nil)) (c_ref02_Cmp R 1 (Sq_sub1 hR0)))
              | 16, h_ => cases h_; exact Ob.f rfl (.g rfl rfl) fun N => (OpOk.le (O.lt rfl rfl) (is_eq (decide_eq_false (sg_nlt hR1))))
              | 17, h_ => cases h_; exact Ob.f rfl .n fun N => (O.pickF rfl rfl)
              | 18, h_ => cases h_; exact Ob.f rfl .n fun N => (O.mv rfl)
              | 19, h_ => cases h_; exact Ob.f rfl (.g rfl rfl) fun N => (O.fa rfl fld74_2 rfl)
              | 20, h_ => cases h_; exact Ob.f rfl (.g rfl rfl) fun N => (O.ld (p := kZ.is R) rfl (mem_app N (mem_at 2 rfl)) (Lens.snd (Lens.snd (Lens.id _))) ty31 rfl)
              | 21, h_ => cases h_; exact Ob.f rfl (.g rfl rfl) fun N => (O.fa rfl fld74_1 rfl)
              | 22, h_ => cases h_; exact Ob.f rfl (.g rfl rfl) fun N => (O.ld (p := kZ.is M) rfl (mem_app N (mem_at 2 rfl)) (Lens.snd (Lens.fst (Lens.id _))) ty31 rfl)
              | 23, h_ => cases h_; exact Ob.f rfl (.g rfl rfl) fun N => (O.fn fn88 (evs.c rfl (evs.c rfl evs.nil)) (c_ref02_Cmp R M (Sq_sub2 hR0 hM0)))
              | 24, h_ => cases h_; exact Ob.f rfl (.g rfl rfl) fun N => (OpOk.le (O.ge rfl rfl) (is_eq (decide_eq_true (sg_ge (by omega)))))
              | 25, h_ => cases h_; exact Ob.f rfl .n fun N => (O.pickF rfl rfl)
              | 26, h_ => cases h_; exact Ob.f rfl .n fun N => (O.mv rfl)
              | 27, h_ => cases h_; exact Ob.ku (b := true) rfl rfl rfl
              | 28, h_ => cases h_; exact Ob.ku (b := true) rfl rfl rfl
              | 29, h_ => cases h_; exact Ob.ku (b := true) rfl rfl rfl
              | 30, h_ => cases h_; exact Ob.ku (b := true) rfl rfl rfl
              | 31, h_ => cases h_; exact Ob.ku (b := true) rfl rfl rfl
              | 32, h_ => cases h_; exact Ob.ku (b := true) rfl rfl rfl
              | 33, h_ => cases h_; exact Ob.ku (b := true) rfl rfl rfl
              | 34, h_ => cases h_; exact Ob.ku (b := true) rfl rfl rfl
              | 35, h_ => cases h_; exact Ob.f rfl .n fun N => (O.pickT rfl rfl)
              | n_ + 36, h_ => simp at h_
            refine WP.nil ?_
            refine QE.next ?_
            refine CW.condT rfl ?_
            refine CW.seq ?_
            refine CW.region ?_
            refine WP.s .n (O.asg rfl) ?_
            refine WP.nil ?_
            refine QE.next ?_
            refine CW.ret ?_
            refine QE.thenR ?_
            refine ST.told 2 rfl (is_eq (y := (cErr xs M R)) (by rw [cErr_2 h_t10 (fun hk => hRM hk.2.2.2.1)])) ?_
            exact QE.done (.inl rfl) rfl (ResOk.t rfl ResOk.nil) (OImp.sub (List.nil_sublist _)) ⟨rfl, rfl⟩
        · refine CW.draw (Γ := [.fr (VP.ex (.pointer (some ⟨b1, 0, none⟩))), .fr ((kSl kZ).is xs), .fr (kBool.is true), .fr (kBool.is false), .fr (kBool.is false), .fr (VP.ex (.pointer (some ⟨b1, 1, none⟩))), .fr (kZ.is M), .fr (kC.is xs.sum), .fr ((kInt .i64).is ((M - xs.sum).sign)), .fr (kBool.is false), .fr (kBool.is false), .fr (kBool.is false), .fr (VP.ex (.pointer (some ⟨b1, 3, none⟩))), .fr (kZ.is R), .fr (kC.is 1), .fr ((kInt .i64).is ((R - 1).sign)), .fr (kBool.is true), .fr (kBool.is true), .fr (kBool.is true), .fr (VP.ex undef), .fr (VP.ex undef), .fr (VP.ex undef), .fr (VP.ex undef), .fr (VP.ex undef), .fr (VP.ex undef), .fr (kBool.is true), .fr (kBool.is true), .fr (VP.ex undef), .fr (VP.ex undef), .fr (VP.ex undef), .fr (VP.ex undef), .fr (VP.ex undef), .fr (VP.ex undef), .fr (VP.ex undef), .fr (VP.ex undef), .fr (kBool.is true)]) (lates := [false, false, false, false, false, false, false, false, false, false, false, false, false, false, false, false, false, false, false, false, false, false, false, false, false, false, false, false, false, false, false, false, false, false, false, false]) (by kernel_rfl) (Chk.of rfl (by kernel_rfl) rfl) (fun _ _ _ _ _ h => h) (fun q_ x_ h_ => ?_) (fun σ4 => ?_)
          · match q_, h_ with
            | 0, h_ => cases h_; exact Ob.f rfl .n fun N => (O.fa rfl fld74_0 rfl)
            | 1, h_ => cases h_; exact Ob.f rfl .n fun N => (O.ld (p := (kSl kZ).is xs) rfl (mem_app N (mem_at 2 rfl)) (Lens.fst (Lens.id _)) ty27 rfl)
            | 2, h_ => cases h_; exact Ob.f rfl .n fun N => (OpOk.le (O.fn fn36 (evs.c rfl evs.nil) (c_ref24_Climbs xs (wErr_0 h_t10))) (is_eq hc))
            | 3, h_ => cases h_; exact Ob.f rfl .n fun N => (O.not (a := true) rfl)
            | 4, h_ => cases h_; exact Ob.f rfl .n fun N => (O.mv rfl)
            | 5, h_ => cases h_; exact Ob.f rfl (.g rfl rfl) fun N => (O.fa rfl fld74_1 rfl)
            | 6, h_ => cases h_; exact Ob.f rfl (.g rfl rfl) fun N => (O.ld (p := kZ.is M) rfl (mem_app N (mem_at 2 rfl)) (Lens.snd (Lens.fst (Lens.id _))) ty31 rfl)
            | 7, h_ => cases h_; exact Ob.f rfl (.g rfl rfl) fun N => (O.ld rfl (mem_app N (mem_at 0 rfl)) (Lens.id _) ty31 rfl)
            | 8, h_ => cases h_; exact Ob.f rfl (.g rfl rfl) fun N => (O.fn fn88 (evs.c rfl (evs.l rfl (kC_Z (by assumption)) evs.nil)) (c_ref02_Cmp M xs.sum (Sq_sub_tot (wErr_0 h_t10) hM0)))
            | 9, h_ => cases h_; exact Ob.f rfl (.g rfl rfl) fun N => (OpOk.le (O.le rfl rfl) (is_eq (decide_eq_false (sg_nle hM))))
            | 10, h_ => cases h_; exact Ob.f rfl .n fun N => (O.pickF rfl rfl)
            | 11, h_ => cases h_; exact Ob.f rfl .n fun N => (O.mv rfl)
            | 12, h_ => cases h_; exact Ob.f rfl (.g rfl rfl) fun N => (O.fa rfl fld74_2 rfl)
            | 13, h_ => cases h_; exact Ob.f rfl (.g rfl rfl) fun N => (O.ld (p := kZ.is R) rfl (mem_app N (mem_at 2 rfl)) (Lens.snd (Lens.snd (Lens.id _))) ty31 rfl)
            | 14, h_ => cases h_; exact Ob.f rfl (.g rfl rfl) fun N => (O.ld rfl (mem_app N (mem_at 1 rfl)) (Lens.id _) ty31 rfl)
            | 15, h_ => cases h_; exact Ob.f rfl (.g rfl rfl) fun N => (O.fn fn88 (evs.c rfl (evs.l rfl (kC_Z (by assumption)) evs.nil)) (c_ref02_Cmp R 1 (Sq_sub1 hR0)))
            | 16, h_ => cases h_; exact Ob.f rfl (.g rfl rfl) fun N => (OpOk.le (O.lt rfl rfl) (is_eq (decide_eq_true (sg_lt (by omega)))))
            | 17, h_ => cases h_; exact Ob.f rfl .n fun N => (O.pickF rfl rfl)
            | 18, h_ => cases h_; exact Ob.f rfl .n fun N => (O.mv rfl)
            | 19, h_ => cases h_; exact Ob.ku (b := true) rfl rfl rfl
            | 20, h_ => cases h_; exact Ob.ku (b := true) rfl rfl rfl
            | 21, h_ => cases h_; exact Ob.ku (b := true) rfl rfl rfl
            | 22, h_ => cases h_; exact Ob.ku (b := true) rfl rfl rfl
            | 23, h_ => cases h_; exact Ob.ku (b := true) rfl rfl rfl
            | 24, h_ => cases h_; exact Ob.ku (b := true) rfl rfl rfl
            | 25, h_ => cases h_; exact Ob.f rfl .n fun N => (O.pickT rfl rfl)
            | 26, h_ => cases h_; exact Ob.f rfl .n fun N => (O.mv rfl)
            | 27, h_ => cases h_; exact Ob.ku (b := true) rfl rfl rfl
            | 28, h_ => cases h_; exact Ob.ku (b := true) rfl rfl rfl
            | 29, h_ => cases h_; exact Ob.ku (b := true) rfl rfl rfl
            | 30, h_ => cases h_; exact Ob.ku (b := true) rfl rfl rfl
            | 31, h_ => cases h_; exact Ob.ku (b := true) rfl rfl rfl
            | 32, h_ => cases h_; exact Ob.ku (b := true) rfl rfl rfl
            | 33, h_ => cases h_; exact Ob.ku (b := true) rfl rfl rfl
            | 34, h_ => cases h_; exact Ob.ku (b := true) rfl rfl rfl
            | 35, h_ => cases h_; exact Ob.f rfl .n fun N => (O.pickT rfl rfl)
            | n_ + 36, h_ => simp at h_
          refine WP.nil ?_
          refine QE.next ?_
          refine CW.condT rfl ?_
          refine CW.seq ?_
          refine CW.region ?_
          refine WP.s .n (O.asg rfl) ?_
          refine WP.nil ?_
          refine QE.next ?_
          refine CW.ret ?_
          refine QE.thenR ?_
          refine ST.told 2 rfl (is_eq (y := (cErr xs M R)) (by rw [cErr_2 h_t10 (fun hk => hR1 hk.2.2.1)])) ?_
          exact QE.done (.inl rfl) rfl (ResOk.t rfl ResOk.nil) (OImp.sub (List.nil_sublist _)) ⟨rfl, rfl⟩
      · refine CW.draw (Γ := [.fr (VP.ex (.pointer (some ⟨b1, 0, none⟩))), .fr ((kSl kZ).is xs), .fr (kBool.is true), .fr (kBool.is false), .fr (kBool.is false), .fr (VP.ex (.pointer (some ⟨b1, 1, none⟩))), .fr (kZ.is M), .fr (kC.is xs.sum), .fr ((kInt .i64).is ((M - xs.sum).sign)), .fr (kBool.is true), .fr (kBool.is true), .fr (kBool.is true), .fr (VP.ex undef), .fr (VP.ex undef), .fr (VP.ex undef), .fr (VP.ex undef), .fr (VP.ex undef), .fr (kBool.is true), .fr (kBool.is true), .fr (VP.ex undef), .fr (VP.ex undef), .fr (VP.ex undef), .fr (VP.ex undef), .fr (VP.ex undef), .fr (VP.ex undef), .fr (kBool.is true), .fr (kBool.is true), .fr (VP.ex undef), .fr (VP.ex undef), .fr (VP.ex undef), .fr (VP.ex undef), .fr (VP.ex undef), .fr (VP.ex undef), .fr (VP.ex undef), .fr (VP.ex undef), .fr (kBool.is true)]) (lates := [false, false, false, false, false, false, false, false, false, false, false, false, false, false, false, false, false, false, false, false, false, false, false, false, false, false, false, false, false, false, false, false, false, false, false, false]) (by kernel_rfl) (Chk.of rfl (by kernel_rfl) rfl) (fun _ _ _ _ _ h => h) (fun q_ x_ h_ => ?_) (fun σ5 => ?_)
        · match q_, h_ with
          | 0, h_ => cases h_; exact Ob.f rfl .n fun N => (O.fa rfl fld74_0 rfl)
          | 1, h_ => cases h_; exact Ob.f rfl .n fun N => (O.ld (p := (kSl kZ).is xs) rfl (mem_app N (mem_at 2 rfl)) (Lens.fst (Lens.id _)) ty27 rfl)
          | 2, h_ => cases h_; exact Ob.f rfl .n fun N => (OpOk.le (O.fn fn36 (evs.c rfl evs.nil) (c_ref24_Climbs xs (wErr_0 h_t10))) (is_eq hc))
          | 3, h_ => cases h_; exact Ob.f rfl .n fun N => (O.not (a := true) rfl)
          | 4, h_ => cases h_; exact Ob.f rfl .n fun N => (O.mv rfl)
          | 5, h_ => cases h_; exact Ob.f rfl (.g rfl rfl) fun N => (O.fa rfl fld74_1 rfl)
          | 6, h_ => cases h_; exact Ob.f rfl (.g rfl rfl) fun N => (O.ld (p := kZ.is M) rfl (mem_app N (mem_at 2 rfl)) (Lens.snd (Lens.fst (Lens.id _))) ty31 rfl)
          | 7, h_ => cases h_; exact Ob.f rfl (.g rfl rfl) fun N => (O.ld rfl (mem_app N (mem_at 0 rfl)) (Lens.id _) ty31 rfl)
          | 8, h_ => cases h_; exact Ob.f rfl (.g rfl rfl) fun N => (O.fn fn88 (evs.c rfl (evs.l rfl (kC_Z (by assumption)) evs.nil)) (c_ref02_Cmp M xs.sum (Sq_sub_tot (wErr_0 h_t10) hM0)))
          | 9, h_ => cases h_; exact Ob.f rfl (.g rfl rfl) fun N => (OpOk.le (O.le rfl rfl) (is_eq (decide_eq_true (sg_le (by omega)))))
          | 10, h_ => cases h_; exact Ob.f rfl .n fun N => (O.pickF rfl rfl)
          | 11, h_ => cases h_; exact Ob.f rfl .n fun N => (O.mv rfl)
          | 12, h_ => cases h_; exact Ob.ku (b := true) rfl rfl rfl
          | 13, h_ => cases h_; exact Ob.ku (b := true) rfl rfl rfl
          | 14, h_ => cases h_; exact Ob.ku (b := true) rfl rfl rfl
          | 15, h_ => cases h_; exact Ob.ku (b := true) rfl rfl rfl
          | 16, h_ => cases h_; exact Ob.ku (b := true) rfl rfl rfl
          | 17, h_ => cases h_; exact Ob.f rfl .n fun N => (O.pickT rfl rfl)
          | 18, h_ => cases h_; exact Ob.f rfl .n fun N => (O.mv rfl)
          | 19, h_ => cases h_; exact Ob.ku (b := true) rfl rfl rfl
          | 20, h_ => cases h_; exact Ob.ku (b := true) rfl rfl rfl
          | 21, h_ => cases h_; exact Ob.ku (b := true) rfl rfl rfl
          | 22, h_ => cases h_; exact Ob.ku (b := true) rfl rfl rfl
          | 23, h_ => cases h_; exact Ob.ku (b := true) rfl rfl rfl
          | 24, h_ => cases h_; exact Ob.ku (b := true) rfl rfl rfl
          | 25, h_ => cases h_; exact Ob.f rfl .n fun N => (O.pickT rfl rfl)
          | 26, h_ => cases h_; exact Ob.f rfl .n fun N => (O.mv rfl)
          | 27, h_ => cases h_; exact Ob.ku (b := true) rfl rfl rfl
          | 28, h_ => cases h_; exact Ob.ku (b := true) rfl rfl rfl
          | 29, h_ => cases h_; exact Ob.ku (b := true) rfl rfl rfl
          | 30, h_ => cases h_; exact Ob.ku (b := true) rfl rfl rfl
          | 31, h_ => cases h_; exact Ob.ku (b := true) rfl rfl rfl
          | 32, h_ => cases h_; exact Ob.ku (b := true) rfl rfl rfl
          | 33, h_ => cases h_; exact Ob.ku (b := true) rfl rfl rfl
          | 34, h_ => cases h_; exact Ob.ku (b := true) rfl rfl rfl
          | 35, h_ => cases h_; exact Ob.f rfl .n fun N => (O.pickT rfl rfl)
          | n_ + 36, h_ => simp at h_
        refine WP.nil ?_
        refine QE.next ?_
        refine CW.condT rfl ?_
        refine CW.seq ?_
        refine CW.region ?_
        refine WP.s .n (O.asg rfl) ?_
        refine WP.nil ?_
        refine QE.next ?_
        refine CW.ret ?_
        refine QE.thenR ?_
        refine ST.told 2 rfl (is_eq (y := (cErr xs M R)) (by rw [cErr_2 h_t10 (fun hk => hM hk.2.1)])) ?_
        exact QE.done (.inl rfl) rfl (ResOk.t rfl ResOk.nil) (OImp.sub (List.nil_sublist _)) ⟨rfl, rfl⟩
    · refine CW.draw (Γ := [.fr (VP.ex (.pointer (some ⟨b1, 0, none⟩))), .fr ((kSl kZ).is xs), .fr (kBool.is false), .fr (kBool.is true), .fr (kBool.is true), .fr (VP.ex undef), .fr (VP.ex undef), .fr (VP.ex undef), .fr (VP.ex undef), .fr (VP.ex undef), .fr (kBool.is true), .fr (kBool.is true), .fr (VP.ex undef), .fr (VP.ex undef), .fr (VP.ex undef), .fr (VP.ex undef), .fr (VP.ex undef), .fr (kBool.is true), .fr (kBool.is true), .fr (VP.ex undef), .fr (VP.ex undef), .fr (VP.ex undef), .fr (VP.ex undef), .fr (VP.ex undef), .fr (VP.ex undef), .fr (kBool.is true), .fr (kBool.is true), .fr (VP.ex undef), .fr (VP.ex undef), .fr (VP.ex undef), .fr (VP.ex undef), .fr (VP.ex undef), .fr (VP.ex undef), .fr (VP.ex undef), .fr (VP.ex undef), .fr (kBool.is true)]) (lates := [false, false, false, false, false, false, false, false, false, false, false, false, false, false, false, false, false, false, false, false, false, false, false, false, false, false, false, false, false, false, false, false, false, false, false, false]) (by kernel_rfl) (Chk.of rfl (by kernel_rfl) rfl) (fun _ _ _ _ _ h => h) (fun q_ x_ h_ => ?_) (fun σ6 => ?_)
      · match q_, h_ with
        | 0, h_ => cases h_; exact Ob.f rfl .n fun N => (O.fa rfl fld74_0 rfl)
        | 1, h_ => cases h_; exact Ob.f rfl .n fun N => (O.ld (p := (kSl kZ).is xs) rfl (mem_app N (mem_at 2 rfl)) (Lens.fst (Lens.id _)) ty27 rfl)
        | 2, h_ => cases h_; exact Ob.f rfl .n fun N => (OpOk.le (O.fn fn36 (evs.c rfl evs.nil) (c_ref24_Climbs xs (wErr_0 h_t10))) (is_eq (by simpa using hc)))
        | 3, h_ => cases h_; exact Ob.f rfl .n fun N => (O.not (a := false) rfl)
        | 4, h_ => cases h_; exact Ob.f rfl .n fun N => (O.mv rfl)
        | 5, h_ => cases h_; exact Ob.ku (b := true) rfl rfl rfl
        | 6, h_ => cases h_; exact Ob.ku (b := true) rfl rfl rfl
        | 7, h_ => cases h_; exact Ob.ku (b := true) rfl rfl rfl
        | 8, h_ => cases h_; exact Ob.ku (b := true) rfl rfl rfl
        | 9, h_ => cases h_; exact Ob.ku (b := true) rfl rfl rfl
        | 10, h_ => cases h_; exact Ob.f rfl .n fun N => (O.pickT rfl rfl)
        | 11, h_ => cases h_; exact Ob.f rfl .n fun N => (O.mv rfl)
        | 12, h_ => cases h_; exact Ob.ku (b := true) rfl rfl rfl
        | 13, h_ => cases h_; exact Ob.ku (b := true) rfl rfl rfl
        | 14, h_ => cases h_; exact Ob.ku (b := true) rfl rfl rfl
        | 15, h_ => cases h_; exact Ob.ku (b := true) rfl rfl rfl
        | 16, h_ => cases h_; exact Ob.ku (b := true) rfl rfl rfl
        | 17, h_ => cases h_; exact Ob.f rfl .n fun N => (O.pickT rfl rfl)
        | 18, h_ => cases h_; exact Ob.f rfl .n fun N => (O.mv rfl)
        | 19, h_ => cases h_; exact Ob.ku (b := true) rfl rfl rfl
        | 20, h_ => cases h_; exact Ob.ku (b := true) rfl rfl rfl
        | 21, h_ => cases h_; exact Ob.ku (b := true) rfl rfl rfl
        | 22, h_ => cases h_; exact Ob.ku (b := true) rfl rfl rfl
        | 23, h_ => cases h_; exact Ob.ku (b := true) rfl rfl rfl
        | 24, h_ => cases h_; exact Ob.ku (b := true) rfl rfl rfl
        | 25, h_ => cases h_; exact Ob.f rfl .n fun N => (O.pickT rfl rfl)
        | 26, h_ => cases h_; exact Ob.f rfl .n fun N => (O.mv rfl)
        | 27, h_ => cases h_; exact Ob.ku (b := true) rfl rfl rfl
        | 28, h_ => cases h_; exact Ob.ku (b := true) rfl rfl rfl
        | 29, h_ => cases h_; exact Ob.ku (b := true) rfl rfl rfl
        | 30, h_ => cases h_; exact Ob.ku (b := true) rfl rfl rfl
        | 31, h_ => cases h_; exact Ob.ku (b := true) rfl rfl rfl
        | 32, h_ => cases h_; exact Ob.ku (b := true) rfl rfl rfl
        | 33, h_ => cases h_; exact Ob.ku (b := true) rfl rfl rfl
        | 34, h_ => cases h_; exact Ob.ku (b := true) rfl rfl rfl
        | 35, h_ => cases h_; exact Ob.f rfl .n fun N => (O.pickT rfl rfl)
        | n_ + 36, h_ => simp at h_
      refine WP.nil ?_
      refine QE.next ?_
      refine CW.condT rfl ?_
      refine CW.seq ?_
      refine CW.region ?_
      refine WP.s .n (O.asg rfl) ?_
      refine WP.nil ?_
      refine QE.next ?_
      refine CW.ret ?_
      refine QE.thenR ?_
      refine ST.told 2 rfl (is_eq (y := (cErr xs M R)) (by rw [cErr_2 h_t10 (fun hk => hc hk.1)])) ?_
      exact QE.done (.inl rfl) rfl (ResOk.t rfl ResOk.nil) (OImp.sub (List.nil_sublist _)) ⟨rfl, rfl⟩

end Fw


/- Public weights, what a key opens; the statement KnapKeys. -/
set_option linter.unusedVariables false
set_option linter.unusedSimpArgs false
set_option exponentiation.threshold 400
namespace Fw
open Go Go.Proofs

set_option maxRecDepth 20000 in
set_option maxHeartbeats 1000000 in
theorem c_knap_Public (xs : List Int) (M R : Int) (hM0 : Sq M) (hR0 : Sq R) : Fn Try.prog 45 [(kPair (kSl kZ) (kPair kZ kZ)).is (xs, M, R)] (VP.tup [(kSl kC).is ((pkV xs M R).1), (kInt .i64).is ((pkV xs M R).2)]) := by
  refine Con.enter Try.func45 rfl rfl fun m w => ?_
  refine ST.fact (i := 0) rfl knap_len fun hB => ?_
  have hsM := Sq_Sm hM0
  have hsR := Sq_Sm hR0
  refine CW.seq ?_
  refine CW.region ?_
  refine WP.bx .n rfl fun b1 => ?_
  refine WP.s .n (O.asg rfl) ?_
  refine WP.s .n (O.asg rfl) ?_
  refine WP.nil ?_
  refine QE.next ?_
  refine CW.seq ?_
  refine CW.seq ?_
  refine CW.region ?_
  refine WP.s .n (O.ld (p := (kPair (kSl kZ) (kPair kZ kZ)).is (xs, M, R)) rfl (mem_at 0 rfl) (Lens.id _) ty74 rfl) ?_
  refine WP.s .n (O.fn fn42 (evs.c rfl evs.nil) (c_knap_Check xs M R (by first | assumption | omega) (by first | assumption | omega))) ?_
  refine WP.s .n (O.asg rfl) ?_
  refine WP.nil ?_
  refine QE.next ?_
  refine CW.seq ?_
  refine CW.region ?_
  refine WP.s .n (O.mv rfl) ?_
  refine WP.s .n (O.ne rfl rfl) ?_
  refine WP.nil ?_
  refine QE.next ?_
  refine CW.condD rfl (fun h_t14 => ?_) (fun h_t14 => ?_)
  · refine CW.seq ?_
    refine CW.region ?_
    refine WP.s .n (O.mv rfl) ?_
    refine WP.s .n (O.asg rfl) ?_
    refine WP.s .n (O.asg rfl) ?_
    refine WP.nil ?_
    refine QE.next ?_
    refine CW.ret ?_
    refine QE.thenR ?_
    refine ST.told (q := (kSl kC).is ([] : List Int)) 2 rfl (nil_le _) ?_
    refine ST.told 2 rfl (is_eq (y := ((pkV xs M R).1)) (by rw [pk_1 h_t14])) ?_
    refine ST.told 3 rfl (is_eq (y := ((pkV xs M R).2)) (by rw [pk_1 h_t14])) ?_
    exact QE.done (.inl rfl) rfl (ResOk.t rfl (ResOk.t rfl ResOk.nil)) (OImp.sub (List.nil_sublist _)) ⟨rfl, rfl⟩
  · have hok := cErr_ok h_t14
    have hM1 := cGood_M (wErr_0 hok.1) hok.2
    refine CW.skip ?_
    refine QE.next ?_
    refine CW.seq ?_
    refine CW.region ?_
    refine WP.s .n (O.asg rfl) ?_
    refine WP.nil ?_
    refine QE.next ?_
    refine CW.seq ?_
    refine CW.seq ?_
    refine CW.region ?_
    refine WP.s .n (O.fa rfl fld74_0 rfl) ?_
    refine WP.s .n (O.ld (p := (kSl kZ).is xs) rfl (mem_at 0 rfl) (Lens.fst (Lens.id _)) ty27 rfl) ?_
    refine WP.s .n (O.lenS rfl Try.underlying27) ?_
    refine WP.s .n (O.mv rfl) ?_
    refine WP.nil ?_
    refine QE.next ?_
    refine CW.block ?_
    refine ST.nilrow 31 kC ?_
    refine CW.loop2 (fun (i : Nat) (v : Value) => i ≤ xs.length) (fun (i : Nat) (v : Value) => [(1, VP.ex (.pointer (some ⟨b1, 0, none⟩))), (5, VP.ex v), (17, (kSl kZ).is xs), (18, (kInt .i64).is (xs.length : Int)), (19, (kInt .i64).is (i : Int))]) (fun (i : Nat) (v : Value) => [OB.row v 31 kC (pkN xs M R i), OB.box b1 74 (kPair (kSl kZ) (kPair kZ kZ)) (xs, M, R)]) (fun (i : Nat) (v : Value) => xs.length - i) 0 (.slice none 0 0) (by omega) (Imp.cons rfl (Imp.cons rfl (Imp.cons rfl (Imp.cons rfl (Imp.consLe rfl (is_eq (y := (0 : Int)) (by first | omega | rfl | assumption)) Imp.nil))))) (OImp.os (OS.keepLe (OB.row_eq (by first | omega | rfl | assumption)) (OS.keep OS.nil))) ?_
    intro i v hi
    have hpl := pkN_len (M := M) (R := R) hi
    refine CW.seq ?_
    refine CW.region ?_
    refine WP.s .n (O.lt rfl rfl) ?_
    refine WP.nil ?_
    refine QE.next ?_
    refine CW.seq ?_
    refine CW.condD rfl (fun h_t20 => ?_) (fun h_t20 => ?_)
    · have hsw : Sm (R * xs.getD i 0) := Sq_mul_w (wErr_0 hok.1) hR0 (by omega)
      refine CW.skip ?_
      refine QE.next ?_
      refine CW.seq ?_
      refine CW.block ?_
      refine CW.seq ?_
      refine CW.region ?_
      refine WP.s .n (O.ix i rfl rfl Try.underlying27 ty31 rfl (v := (xs.getD i 0)) (gd 0 (by omega))) ?_
      refine WP.s .n (O.ldP rfl ty31) ?_
      refine WP.al .n z31_C fun b2 => ?_
      refine WP.t .n (O.stW (l := kZ) (u := (xs.getD i 0)) 0 rfl rfl rfl ty31 rfl (VP.le_refl _)) ?_
      refine WP.nil ?_
      refine QE.next ?_
      refine CW.seq ?_
      refine CW.draw (Γ := [.fr (VP.ex (.pointer (some ⟨b1, 3, none⟩))), .fr (kZ.is R), .fr (kZ.is (xs.getD i 0)), .fr (kC.is (R * (xs.getD i 0))), .fr (VP.ex (.pointer (some ⟨b1, 1, none⟩))), .fr (kZ.is M), .fr (VP.tup [kC.is ((R * (xs.getD i 0)).fdiv M), kC.is (if M = 0 then 0 else (R * (xs.getD i 0)).fmod M), (kInt .i64).is (if M = 0 then 11 else 0)]), .fr (VP.tup [kC.is ((R * (xs.getD i 0)).fdiv M), kC.is (if M = 0 then 0 else (R * (xs.getD i 0)).fmod M), (kInt .i64).is (if M = 0 then 11 else 0)]), .fr (kC.is ((R * (xs.getD i 0)).fdiv M)), .lt (kC.is (if M = 0 then 0 else (R * (xs.getD i 0)).fmod M)), .lt ((kInt .i64).is (if M = 0 then 11 else 0)), .al (fun b => OB.box b 31 kC 0), .al (fun b => OB.box b 31 kC 0)]) (lates := [false, false, false, false, false, false, false, false, false, true, true, false, false]) (by kernel_rfl) (Chk.of rfl (by kernel_rfl) rfl) (fun _ _ _ _ _ h => h) (fun q_ x_ h_ => ?_) (fun σ1 => ?_)
      · match q_, h_ with
        | 0, h_ => cases h_; exact Ob.f rfl .n fun N => (O.fa rfl fld74_2 rfl)
        | 1, h_ => cases h_; exact Ob.f rfl .n fun N => (O.ld (p := kZ.is R) rfl (mem_app N (mem_at 2 rfl)) (Lens.snd (Lens.snd (Lens.id _))) ty31 rfl)
        | 2, h_ => cases h_; exact Ob.f rfl .n fun N => (O.ld rfl (mem_app N (mem_at 0 rfl)) (Lens.id _) ty31 rfl)
        | 3, h_ => cases h_; exact Ob.f rfl .n fun N => (O.fn fn76 (evs.c rfl (evs.c rfl evs.nil)) (c_zint_Mul R (xs.getD i 0)))
        | 4, h_ => cases h_; exact Ob.f rfl .n fun N => (O.fa rfl fld74_1 rfl)
        | 5, h_ => cases h_; exact Ob.f rfl .n fun N => (O.ld (p := kZ.is M) rfl (mem_app N (mem_at 2 rfl)) (Lens.snd (Lens.fst (Lens.id _))) ty31 rfl)
        | 6, h_ => cases h_; exact Ob.f rfl .n fun N => (O.fn fn105 (evs.l rfl (kC_Z (by assumption)) (evs.c rfl evs.nil)) (c_zint_Floor (R * (xs.getD i 0)) M))
        | 7, h_ => cases h_; exact Ob.f rfl .n fun N => (O.mv rfl)
        | 8, h_ => cases h_; exact Ob.f rfl .n fun N => (O.ext rfl rfl)
        | 9, h_ => cases h_; exact Ob.l rfl .n (OV.ext rfl rfl)
        | 10, h_ => cases h_; exact Ob.l rfl .n (OV.ext rfl rfl)
        | 11, h_ => cases h_; exact Ob.a rfl z31_C
        | 12, h_ => cases h_; exact Ob.a rfl z31_C
        | n_ + 13, h_ => simp at h_
      refine WP.t .n (O.stW (l := kC) (u := (R * (xs.getD i 0)).fdiv M) 0 rfl rfl rfl ty31 rfl (VP.le_refl _)) ?_
      refine WP.t .n (O.stW (l := kC) (u := if M = 0 then 0 else (R * (xs.getD i 0)).fmod M) 1 rfl rfl rfl ty31 rfl (VP.le_refl _)) ?_
      refine WP.s .n (O.asg rfl) ?_
      refine WP.nil ?_
      refine QE.next ?_
      refine CW.region ?_
      refine WP.s .n (O.mv rfl) ?_
      refine WP.s .n (O.ld rfl (mem_at 1 rfl) (Lens.id _) ty31 rfl) ?_
      refine WP.s .n (O.bs Try.underlying27 el31_C (evl.c rfl evl.n) rfl (by decide)) ?_
      refine WP.ap 3 .n rfl rfl rfl (VP.le_refl _) Try.underlying27 el31_C (by simp; omega) fun v3 => ?_
      refine WP.s .n (O.asg rfl) ?_
      refine WP.nil ?_
      refine QE.blkN ?_
      refine QE.next ?_
      refine CW.region ?_
      refine WP.s .n (O.add rfl rfl (c := ((i : Int) + 1)) (w64 (by omega))) ?_
      refine WP.s .n (O.mv rfl) ?_
      refine WP.nil ?_
      refine ST.obtold 3 rfl (OB.row_eq (ys := (pkN xs M R (i + 1))) (by rw [← pkN_s (by omega), if_neg (by omega)])) ?_
      exact QE.round2 (i + 1) v3 (by omega) (by omega) (Imp.cons rfl (Imp.cons rfl (Imp.cons rfl (Imp.cons rfl (Imp.consLe rfl (is_eq (y := (((i + 1) : Nat) : Int)) (by first | omega | rfl | assumption)) Imp.nil))))) (OImp.os (OS.skip (OS.skip (OS.skip (OS.keep (OS.keep OS.nil))))))
    · refine CW.exit ?_
      refine QE.thenE ?_
      refine QE.thenE ?_
      refine QE.blkH ?_
      refine QE.next ?_
      refine CW.seq ?_
      refine CW.seq ?_
      refine ST.obtold 0 rfl (OB.row_eq (ys := ((pkL xs M R))) (pkN_end (by omega))) ?_
      refine ST.freeze 0 rfl (.keep (i := 1) rfl (.hit (i := 5) rfl (.keep (i := 17) rfl (.keep (i := 18) rfl (.keep (i := 19) rfl (.keep (i := 20) rfl .nil)))))) ?_
      have hsl := pkL_Sm (xs := xs) (R := R) hM1 hsM
      refine CW.region ?_
      refine WP.s .n (O.mv rfl) ?_
      refine WP.s .n (O.fn fn32 (evs.l rfl (slC_Z (by assumption)) evs.nil) (c_knap_Valid ((pkL xs M R)))) ?_
      refine WP.s .n (O.ne rfl rfl) ?_
      refine WP.nil ?_
      refine QE.next ?_
      refine CW.condD rfl (fun h_t41 => ?_) (fun h_t41 => ?_)
      · refine CW.seq ?_
        refine CW.region ?_
        refine WP.s .n (O.asg rfl) ?_
        refine WP.s .n (O.asg rfl) ?_
        refine WP.nil ?_
        refine QE.next ?_
        refine CW.ret ?_
        refine QE.thenR ?_
        refine ST.told (q := (kSl kC).is ([] : List Int)) 2 rfl (nil_le _) ?_
        refine ST.told 2 rfl (is_eq (y := ((pkV xs M R).1)) (by rw [pk_2 h_t14 h_t41])) ?_
        refine ST.told 3 rfl (is_eq (y := ((pkV xs M R).2)) (by rw [pk_2 h_t14 h_t41])) ?_
        exact QE.done (.inl rfl) rfl (ResOk.t rfl (ResOk.t rfl ResOk.nil)) (OImp.sub (List.nil_sublist _)) ⟨rfl, rfl⟩
      · refine CW.skip ?_
        refine QE.next ?_
        refine CW.seq ?_
        refine CW.region ?_
        refine WP.s .n (O.mv rfl) ?_
        refine WP.s .n (O.asg rfl) ?_
        refine WP.s .n (O.asg rfl) ?_
        refine WP.nil ?_
        refine QE.next ?_
        refine CW.ret ?_
        refine ST.told 2 rfl (is_eq (y := ((pkV xs M R).1)) (by rw [pk_3 h_t14 h_t41])) ?_
        refine ST.told 3 rfl (is_eq (y := ((pkV xs M R).2)) (by rw [pk_3 h_t14 h_t41])) ?_
        exact QE.done (.inl rfl) rfl (ResOk.t rfl (ResOk.t rfl ResOk.nil)) (OImp.sub (List.nil_sublist _)) ⟨rfl, rfl⟩

set_option maxRecDepth 20000 in
set_option maxHeartbeats 1000000 in
theorem c_ref24_Public (xs : List Int) (M R : Int) (hM0 : Sq M) (hR0 : Sq R) : Fn Try.prog 46 [(kPair (kSl kZ) (kPair kZ kZ)).is (xs, M, R)] (VP.tup [(kSl kC).is ((pkV xs M R).1), (kInt .i64).is ((pkV xs M R).2)]) := by
  refine Con.enter Try.func46 rfl rfl fun m w => ?_
  refine ST.fact (i := 0) rfl knap_len fun hB => ?_
  have hsM := Sq_Sm hM0
  have hsR := Sq_Sm hR0
  refine CW.seq ?_
  refine CW.region ?_
  refine WP.bx .n rfl fun b1 => ?_
  refine WP.s .n (O.asg rfl) ?_
  refine WP.s .n (O.asg rfl) ?_
  refine WP.nil ?_
  refine QE.next ?_
  refine CW.seq ?_
  refine CW.region ?_
  refine WP.s .n (O.ld (p := (kPair (kSl kZ) (kPair kZ kZ)).is (xs, M, R)) rfl (mem_at 0 rfl) (Lens.id _) ty74 rfl) ?_
  refine WP.s .n (O.fn fn44 (evs.c rfl evs.nil) (c_ref24_Check xs M R (by first | assumption | omega) (by first | assumption | omega))) ?_
  refine WP.s .n (O.asg rfl) ?_
  refine WP.nil ?_
  refine QE.next ?_
  refine CW.seq ?_
  refine CW.seq ?_
  refine CW.region ?_
  refine WP.s .n (O.mv rfl) ?_
  refine WP.s .n (O.ne rfl rfl) ?_
  refine WP.nil ?_
  refine QE.next ?_
  refine CW.condD rfl (fun h_t12 => ?_) (fun h_t12 => ?_)
  · refine CW.seq ?_
    refine CW.region ?_
    refine WP.s .n (O.mv rfl) ?_
    refine WP.s .n (O.asg rfl) ?_
    refine WP.s .n (O.asg rfl) ?_
    refine WP.nil ?_
    refine QE.next ?_
    refine CW.ret ?_
    refine QE.thenR ?_
    refine ST.told (q := (kSl kC).is ([] : List Int)) 2 rfl (nil_le _) ?_
    refine ST.told 2 rfl (is_eq (y := ((pkV xs M R).1)) (by rw [pk_1 h_t12])) ?_
    refine ST.told 3 rfl (is_eq (y := ((pkV xs M R).2)) (by rw [pk_1 h_t12])) ?_
    exact QE.done (.inl rfl) rfl (ResOk.t rfl (ResOk.t rfl ResOk.nil)) (OImp.sub (List.nil_sublist _)) ⟨rfl, rfl⟩
  · have hok := cErr_ok h_t12
    have hM1 := cGood_M (wErr_0 hok.1) hok.2
    refine CW.skip ?_
    refine QE.next ?_
    refine CW.seq ?_
    refine CW.region ?_
    refine WP.s .n (O.asg rfl) ?_
    refine WP.nil ?_
    refine QE.next ?_
    refine CW.seq ?_
    refine CW.seq ?_
    refine CW.region ?_
    refine WP.s .n (O.asg rfl) ?_
    refine WP.nil ?_
    refine QE.next ?_
    refine CW.block ?_
    refine ST.nilrow 31 kC ?_
    refine CW.loop2 (fun (i : Nat) (v : Value) => i ≤ xs.length) (fun (i : Nat) (v : Value) => [(1, VP.ex (.pointer (some ⟨b1, 0, none⟩))), (5, VP.ex v), (6, (kInt .i64).is (i : Int))]) (fun (i : Nat) (v : Value) => [OB.row v 31 kC (pkN xs M R i), OB.box b1 74 (kPair (kSl kZ) (kPair kZ kZ)) (xs, M, R)]) (fun (i : Nat) (v : Value) => xs.length - i) 0 (.slice none 0 0) (by omega) (Imp.cons rfl (Imp.cons rfl (Imp.consLe rfl (is_eq (y := (0 : Int)) (by first | omega | rfl | assumption)) Imp.nil))) (OImp.os (OS.keepLe (OB.row_eq (by first | omega | rfl | assumption)) (OS.keep OS.nil))) ?_
    intro i v hi
    have hpl := pkN_len (M := M) (R := R) hi
    refine CW.seq ?_
    refine CW.seq ?_
    refine CW.region ?_
    refine WP.s .n (O.mv rfl) ?_
    refine WP.s .n (O.fa rfl fld74_0 rfl) ?_
    refine WP.s .n (O.ld (p := (kSl kZ).is xs) rfl (mem_at 1 rfl) (Lens.fst (Lens.id _)) ty27 rfl) ?_
    refine WP.s .n (O.lenS rfl Try.underlying27) ?_
    refine WP.s .n (O.lt rfl rfl) ?_
    refine WP.nil ?_
    refine QE.next ?_
    refine CW.condD rfl (fun h_t18 => ?_) (fun h_t18 => ?_)
    · have hsw : Sm (R * xs.getD i 0) := Sq_mul_w (wErr_0 hok.1) hR0 (by omega)
      refine CW.skip ?_
      refine QE.next ?_
      refine CW.seq ?_
      refine CW.block ?_
      refine CW.seq ?_
      refine CW.draw (Γ := [.fr (VP.ex (.pointer (some ⟨b1, 3, none⟩))), .fr (kZ.is R), .fr (VP.ex (.pointer (some ⟨b1, 0, none⟩))), .fr ((kSl kZ).is xs), .fr ((kInt .i64).is (i : Int)), .fr (VP.pim kZ (xs.getD i 0)), .fr (kZ.is (xs.getD i 0)), .fr (kC.is (R * (xs.getD i 0))), .fr (VP.ex (.pointer (some ⟨b1, 1, none⟩))), .fr (kZ.is M), .fr (VP.tup [kC.is ((R * (xs.getD i 0)).fdiv M), kC.is ((R * (xs.getD i 0)).fmod M)]), .fr (VP.tup [kC.is ((R * (xs.getD i 0)).fdiv M), kC.is ((R * (xs.getD i 0)).fmod M)]), .fr (kC.is ((R * (xs.getD i 0)).fdiv M)), .lt (kC.is ((R * (xs.getD i 0)).fmod M)), .al (fun b => OB.box b 31 kC 0), .al (fun b => OB.box b 31 kC 0)]) (lates := [false, false, false, false, false, false, false, false, false, false, false, false, false, true, false, false]) (by kernel_rfl) (Chk.of rfl (by kernel_rfl) rfl) (fun _ _ _ _ _ h => h) (fun q_ x_ h_ => ?_) (fun σ1 => ?_)
      · match q_, h_ with
        | 0, h_ => cases h_; exact Ob.f rfl .n fun N => (O.fa rfl fld74_2 rfl)
        | 1, h_ => cases h_; exact Ob.f rfl .n fun N => (O.ld (p := kZ.is R) rfl (mem_app N (mem_at 1 rfl)) (Lens.snd (Lens.snd (Lens.id _))) ty31 rfl)
        | 2, h_ => cases h_; exact Ob.f rfl .n fun N => (O.fa rfl fld74_0 rfl)
        | 3, h_ => cases h_; exact Ob.f rfl .n fun N => (O.ld (p := (kSl kZ).is xs) rfl (mem_app N (mem_at 1 rfl)) (Lens.fst (Lens.id _)) ty27 rfl)
        | 4, h_ => cases h_; exact Ob.f rfl .n fun N => (O.mv rfl)
        | 5, h_ => cases h_; exact Ob.f rfl .n fun N => (O.ix i rfl rfl Try.underlying27 ty31 rfl (v := (xs.getD i 0)) (gd 0 (by omega)))
        | 6, h_ => cases h_; exact Ob.f rfl .n fun N => (O.ldP rfl ty31)
        | 7, h_ => cases h_; exact Ob.f rfl .n fun N => (O.fn fn91 (evs.c rfl (evs.c rfl evs.nil)) (c_ref02_Mul R (xs.getD i 0)))
        | 8, h_ => cases h_; exact Ob.f rfl .n fun N => (O.fa rfl fld74_1 rfl)
        | 9, h_ => cases h_; exact Ob.f rfl .n fun N => (O.ld (p := kZ.is M) rfl (mem_app N (mem_at 1 rfl)) (Lens.snd (Lens.fst (Lens.id _))) ty31 rfl)
        | 10, h_ => cases h_; exact Ob.f rfl .n fun N => (O.fn fn89 (evs.l rfl (kC_Z (by assumption)) (evs.c rfl evs.nil)) (c_ref02_Floor (R * (xs.getD i 0)) M (by omega)))
        | 11, h_ => cases h_; exact Ob.f rfl .n fun N => (O.mv rfl)
        | 12, h_ => cases h_; exact Ob.f rfl .n fun N => (O.ext rfl rfl)
        | 13, h_ => cases h_; exact Ob.l rfl .n (OV.ext rfl rfl)
        | 14, h_ => cases h_; exact Ob.a rfl z31_C
        | 15, h_ => cases h_; exact Ob.a rfl z31_C
        | n_ + 16, h_ => simp at h_
      refine WP.t .n (O.stW (l := kC) (u := (R * (xs.getD i 0)).fdiv M) 0 rfl rfl rfl ty31 rfl (VP.le_refl _)) ?_
      refine WP.t .n (O.stW (l := kC) (u := (R * (xs.getD i 0)).fmod M) 1 rfl rfl rfl ty31 rfl (VP.le_refl _)) ?_
      refine WP.nil ?_
      refine QE.next ?_
      refine CW.region ?_
      refine WP.s .n (O.mv rfl) ?_
      refine WP.s .n (O.ld rfl (mem_at 1 rfl) (Lens.id _) ty31 rfl) ?_
      refine WP.s .n (O.bs Try.underlying27 el31_C (evl.c rfl evl.n) rfl (by decide)) ?_
      refine WP.ap 2 .n rfl rfl rfl (VP.le_refl _) Try.underlying27 el31_C (by simp; omega) fun v2 => ?_
      refine WP.s .n (O.asg rfl) ?_
      refine WP.nil ?_
      refine QE.blkN ?_
      refine QE.next ?_
      refine CW.region ?_
      refine WP.s .n (O.mv rfl) ?_
      refine WP.s .n (O.add rfl rfl (c := ((i : Int) + 1)) (w64 (by omega))) ?_
      refine WP.s .n (O.asg rfl) ?_
      refine WP.nil ?_
      refine ST.obtold 2 rfl (OB.row_eq (ys := (pkN xs M R (i + 1))) (pkN_s (by omega))) ?_
      exact QE.round2 (i + 1) v2 (by omega) (by omega) (Imp.cons rfl (Imp.cons rfl (Imp.consLe rfl (is_eq (y := (((i + 1) : Nat) : Int)) (by first | omega | rfl | assumption)) Imp.nil))) (OImp.os (OS.skip (OS.skip (OS.keep (OS.keep OS.nil)))))
    · refine CW.exit ?_
      refine QE.thenE ?_
      refine QE.thenE ?_
      refine QE.blkH ?_
      refine QE.next ?_
      refine CW.seq ?_
      refine ST.obtold 0 rfl (OB.row_eq (ys := ((pkL xs M R))) (pkN_end (by omega))) ?_
      refine ST.freeze 0 rfl (.keep (i := 1) rfl (.hit (i := 5) rfl (.keep (i := 6) rfl (.keep (i := 14) rfl (.keep (i := 15) rfl (.keep (i := 16) rfl (.keep (i := 17) rfl (.keep (i := 18) rfl .nil)))))))) ?_
      have hsl := pkL_Sm (xs := xs) (R := R) hM1 hsM
      refine CW.region ?_
      refine WP.s .n (O.mv rfl) ?_
      refine WP.s .n (O.fn fn31 (evs.l rfl (slC_Z (by assumption)) evs.nil) (c_ref24_Valid ((pkL xs M R)))) ?_
      refine WP.s .n (O.asg rfl) ?_
      refine WP.nil ?_
      refine QE.next ?_
      refine CW.seq ?_
      refine CW.seq ?_
      refine CW.region ?_
      refine WP.s .n (O.mv rfl) ?_
      refine WP.s .n (O.ne rfl rfl) ?_
      refine WP.nil ?_
      refine QE.next ?_
      refine CW.condD rfl (fun h_t42 => ?_) (fun h_t42 => ?_)
      · refine CW.seq ?_
        refine CW.region ?_
        refine WP.s .n (O.mv rfl) ?_
        refine WP.s .n (O.asg rfl) ?_
        refine WP.s .n (O.asg rfl) ?_
        refine WP.nil ?_
        refine QE.next ?_
        refine CW.ret ?_
        refine QE.thenR ?_
        refine ST.told (q := (kSl kC).is ([] : List Int)) 2 rfl (nil_le _) ?_
        refine ST.told 2 rfl (is_eq (y := ((pkV xs M R).1)) (by rw [pk_2 h_t12 h_t42])) ?_
        refine ST.told 3 rfl (is_eq (y := ((pkV xs M R).2)) (by rw [pk_2 h_t12 h_t42]; exact wErr_240 h_t42)) ?_
        exact QE.done (.inl rfl) rfl (ResOk.t rfl (ResOk.t rfl ResOk.nil)) (OImp.sub (List.nil_sublist _)) ⟨rfl, rfl⟩
      · refine CW.skip ?_
        refine QE.next ?_
        refine CW.seq ?_
        refine CW.region ?_
        refine WP.s .n (O.mv rfl) ?_
        refine WP.s .n (O.asg rfl) ?_
        refine WP.s .n (O.asg rfl) ?_
        refine WP.nil ?_
        refine QE.next ?_
        refine CW.ret ?_
        refine ST.told 2 rfl (is_eq (y := ((pkV xs M R).1)) (by rw [pk_3 h_t12 h_t42])) ?_
        refine ST.told 3 rfl (is_eq (y := ((pkV xs M R).2)) (by rw [pk_3 h_t12 h_t42])) ?_
        exact QE.done (.inl rfl) rfl (ResOk.t rfl (ResOk.t rfl ResOk.nil)) (OImp.sub (List.nil_sublist _)) ⟨rfl, rfl⟩

set_option maxRecDepth 20000 in
set_option maxHeartbeats 1000000 in
theorem c_knap_Open (xs : List Int) (M R : Int) (s : Int) (hM0 : Sq M) (hR0 : Sq R) (hs0 : Sq s) : Fn Try.prog 48 [(kPair (kSl kZ) (kPair kZ kZ)).is (xs, M, R), kZ.is s] (VP.tup [(kSl kI64).is ((opV xs M R s).1), (kInt .i64).is ((opV xs M R s).2)]) := by
  refine Con.enter Try.func48 rfl rfl fun m w => ?_
  have hsM := Sq_Sm hM0
  refine CW.seq ?_
  refine CW.region ?_
  refine WP.bx .n rfl fun b1 => ?_
  refine WP.bx .n rfl fun b2 => ?_
  refine WP.s .n (O.asg rfl) ?_
  refine WP.s .n (O.asg rfl) ?_
  refine WP.nil ?_
  refine QE.next ?_
  refine CW.seq ?_
  refine CW.seq ?_
  refine CW.region ?_
  refine WP.s .n (O.ld (p := (kPair (kSl kZ) (kPair kZ kZ)).is (xs, M, R)) rfl (mem_at 1 rfl) (Lens.id _) ty74 rfl) ?_
  refine WP.s .n (O.fn fn42 (evs.c rfl evs.nil) (c_knap_Check xs M R (by first | assumption | omega) (by first | assumption | omega))) ?_
  refine WP.s .n (O.asg rfl) ?_
  refine WP.nil ?_
  refine QE.next ?_
  refine CW.seq ?_
  refine CW.region ?_
  refine WP.s .n (O.mv rfl) ?_
  refine WP.s .n (O.ne rfl rfl) ?_
  refine WP.nil ?_
  refine QE.next ?_
  refine CW.condD rfl (fun h_t18 => ?_) (fun h_t18 => ?_)
  · refine CW.seq ?_
    refine CW.region ?_
    refine WP.s .n (O.mv rfl) ?_
    refine WP.s .n (O.asg rfl) ?_
    refine WP.s .n (O.asg rfl) ?_
    refine WP.nil ?_
    refine QE.next ?_
    refine CW.ret ?_
    refine QE.thenR ?_
    refine ST.told (q := (kSl kI64).is ([] : List Int)) 4 rfl (nil_le _) ?_
    refine ST.told 4 rfl (is_eq (y := ((opV xs M R s).1)) (by rw [op_1 h_t18])) ?_
    refine ST.told 5 rfl (is_eq (y := ((opV xs M R s).2)) (by rw [op_1 h_t18])) ?_
    exact QE.done (.inl rfl) rfl (ResOk.t rfl (ResOk.t rfl ResOk.nil)) (OImp.sub (List.nil_sublist _)) ⟨rfl, rfl⟩
  · have hok := cErr_ok h_t18
    have hM1 := cGood_M (wErr_0 hok.1) hok.2
    have hR1 := hok.2.2.2.1
    have hT := opT_rng (R := R) (s := s) hM1
    have hsT := Sq_Sm (Sq_fmod (R := R) (s := s) hM1 hM0)
    have hbx := bezX_rng (a := R) hM1
    have hsx : Sm (bezX R M) := Sm_le hsM (by omega)
    have hsp : Sm (s * bezX R M) := Sq_mul hs0 hM0 (by omega) (by omega)
    have hlw := wOk_len (wErr_0 hok.1)
    refine CW.skip ?_
    refine QE.next ?_
    refine CW.seq ?_
    refine CW.seq ?_
    refine CW.region ?_
    refine WP.s .n (O.ld rfl (mem_at 0 rfl) (Lens.id _) ty31 rfl) ?_
    refine WP.s .n (O.fn fn80 (evs.c rfl evs.nil) (c_zint_Sign s)) ?_
    refine WP.s .n (O.lt rfl rfl) ?_
    refine WP.nil ?_
    refine QE.next ?_
    refine CW.condD rfl (fun h_t22 => ?_) (fun h_t22 => ?_)
    · refine CW.seq ?_
      refine CW.region ?_
      refine WP.s .n (O.asg rfl) ?_
      refine WP.s .n (O.asg rfl) ?_
      refine WP.nil ?_
      refine QE.next ?_
      refine CW.ret ?_
      refine QE.thenR ?_
      refine ST.told (q := (kSl kI64).is ([] : List Int)) 4 rfl (nil_le _) ?_
      refine ST.told 4 rfl (is_eq (y := ((opV xs M R s).1)) (by rw [op_2 h_t18 (sgn_lt0 h_t22)])) ?_
      refine ST.told 5 rfl (is_eq (y := ((opV xs M R s).2)) (by rw [op_2 h_t18 (sgn_lt0 h_t22)])) ?_
      exact QE.done (.inl rfl) rfl (ResOk.t rfl (ResOk.t rfl ResOk.nil)) (OImp.sub (List.nil_sublist _)) ⟨rfl, rfl⟩
    · have hs1 : ¬ s < 0 := by have := sgn_ge0 h_t22; omega
      refine CW.skip ?_
      refine QE.next ?_
      refine CW.seq ?_
      refine CW.region ?_
      refine WP.s .n (O.fa rfl fld74_2 rfl) ?_
      refine WP.s .n (O.ld (p := kZ.is R) rfl (mem_at 1 rfl) (Lens.snd (Lens.snd (Lens.id _))) ty31 rfl) ?_
      refine WP.s .n (O.fa rfl fld74_1 rfl) ?_
      refine WP.s .n (O.ld (p := kZ.is M) rfl (mem_at 1 rfl) (Lens.snd (Lens.fst (Lens.id _))) ty31 rfl) ?_
      refine WP.s .n (O.fn fn106 (evs.c rfl (evs.c rfl evs.nil)) (c_zint_Bezout R M (by omega) hM1 hR0 hM0)) ?_
      refine WP.s .n (O.mv rfl) ?_
      refine WP.s .n (O.ext rfl rfl) ?_
      refine WP.s .n (O.ext rfl rfl) ?_
      refine WP.s .n (O.ext rfl rfl) ?_
      refine WP.al .n z31_C fun b3 => ?_
      refine WP.al .n z31_C fun b4 => ?_
      refine WP.al .n z31_C fun b5 => ?_
      refine WP.t .n (O.stW (l := kC) (u := (Int.gcd R M : Int)) 2 rfl rfl rfl ty31 rfl (VP.le_refl _)) ?_
      refine WP.t .n (O.stW (l := kC) (u := bezX R M) 1 rfl rfl rfl ty31 rfl (VP.le_refl _)) ?_
      refine WP.t .n (O.stW (l := kC) (u := bezY R M) 0 rfl rfl rfl ty31 rfl (VP.le_refl _)) ?_
      refine WP.nil ?_
      refine QE.next ?_
      refine CW.seq ?_
      refine CW.draw (Γ := [.fr (kZ.is s), .fr (kC.is (bezX R M)), .fr (kC.is (s * (bezX R M))), .fr (VP.ex (.pointer (some ⟨b1, 1, none⟩))), .fr (kZ.is M), .fr (VP.tup [kC.is ((s * (bezX R M)).fdiv M), kC.is (if M = 0 then 0 else (s * (bezX R M)).fmod M), (kInt .i64).is (if M = 0 then 11 else 0)]), .fr (VP.tup [kC.is ((s * (bezX R M)).fdiv M), kC.is (if M = 0 then 0 else (s * (bezX R M)).fmod M), (kInt .i64).is (if M = 0 then 11 else 0)]), .fr (kC.is ((s * (bezX R M)).fdiv M)), .lt (kC.is (if M = 0 then 0 else (s * (bezX R M)).fmod M)), .lt ((kInt .i64).is (if M = 0 then 11 else 0)), .al (fun b => OB.box b 31 kC 0), .al (fun b => OB.box b 31 kC 0)]) (lates := [false, false, false, false, false, false, false, false, true, true, false, false]) (by kernel_rfl) (Chk.of rfl (by kernel_rfl) rfl) (fun _ _ _ _ _ h => h) (fun q_ x_ h_ => ?_) (fun σ1 => ?_)
      · match q_, h_ with
        | 0, h_ => cases h_; exact Ob.f rfl .n fun N => (O.ld rfl (mem_app N (mem_at 3 rfl)) (Lens.id _) ty31 rfl)
        | 1, h_ => cases h_; exact Ob.f rfl .n fun N => (O.ld rfl (mem_app N (mem_at 1 rfl)) (Lens.id _) ty31 rfl)
        | 2, h_ => cases h_; exact Ob.f rfl .n fun N => (O.fn fn76 (evs.c rfl (evs.l rfl (kC_Z (by assumption)) evs.nil)) (c_zint_Mul s (bezX R M)))
        | 3, h_ => cases h_; exact Ob.f rfl .n fun N => (O.fa rfl fld74_1 rfl)
        | 4, h_ => cases h_; exact Ob.f rfl .n fun N => (O.ld (p := kZ.is M) rfl (mem_app N (mem_at 4 rfl)) (Lens.snd (Lens.fst (Lens.id _))) ty31 rfl)
        | 5, h_ => cases h_; exact Ob.f rfl .n fun N => (O.fn fn105 (evs.l rfl (kC_Z (by assumption)) (evs.c rfl evs.nil)) (c_zint_Floor (s * (bezX R M)) M))
        | 6, h_ => cases h_; exact Ob.f rfl .n fun N => (O.mv rfl)
        | 7, h_ => cases h_; exact Ob.f rfl .n fun N => (O.ext rfl rfl)
        | 8, h_ => cases h_; exact Ob.l rfl .n (OV.ext rfl rfl)
        | 9, h_ => cases h_; exact Ob.l rfl .n (OV.ext rfl rfl)
        | 10, h_ => cases h_; exact Ob.a rfl z31_C
        | 11, h_ => cases h_; exact Ob.a rfl z31_C
        | n_ + 12, h_ => simp at h_
      refine WP.t .n (O.stW (l := kC) (u := (s * (bezX R M)).fdiv M) 0 rfl rfl rfl ty31 rfl (VP.le_refl _)) ?_
      refine WP.t .n (O.stW (l := kC) (u := if M = 0 then 0 else (s * (bezX R M)).fmod M) 1 rfl rfl rfl ty31 rfl (VP.le_refl _)) ?_
      refine WP.s .n (O.asg rfl) ?_
      refine WP.nil ?_
      refine QE.next ?_
      refine CW.seq ?_
      refine ST.obtold 1 rfl (OB.box_eq (y := (opT M R s)) (if_neg (Int.ne_of_gt hM1))) ?_
      refine CW.region ?_
      refine WP.s .n (O.fa rfl fld74_0 rfl) ?_
      refine WP.s .n (O.ld (p := (kSl kZ).is xs) rfl (mem_at 6 rfl) (Lens.fst (Lens.id _)) ty27 rfl) ?_
      refine WP.s .n (O.ld rfl (mem_at 1 rfl) (Lens.id _) ty31 rfl) ?_
      refine WP.s .n (O.fn fn82 (evs.c rfl (evs.l rfl (kC_Z (by assumption)) evs.nil)) (c_knap_greedy xs (opT M R s) (wErr_0 hok.1) hT.1 hsT)) ?_
      refine WP.s .n (O.mv rfl) ?_
      refine WP.s .n (O.ext rfl rfl) ?_
      refine WP.s .n (O.ext rfl rfl) ?_
      refine WP.al .n z123_ar10_int fun b6 => ?_
      refine WP.t .n (O.stW (l := (kArr 10 kI64)) (u := (grV xs (opT M R s)).1) 0 rfl rfl rfl ty123 rfl (VP.le_refl _)) ?_
      refine WP.s .n (O.asg rfl) ?_
      refine WP.nil ?_
      refine QE.next ?_
      refine CW.seq ?_
      refine CW.seq ?_
      refine CW.region ?_
      refine WP.s .n (O.mv rfl) ?_
      refine WP.s .n (O.not rfl) ?_
      refine WP.nil ?_
      refine QE.next ?_
      refine CW.cond rfl (fun h_t50 => ?_) (fun h_t50 => ?_)
      · have hne : ¬ (grV xs (opT M R s)).2 = 0 := by simpa using h_t50
        refine CW.seq ?_
        refine CW.region ?_
        refine WP.s .n (O.asg rfl) ?_
        refine WP.s .n (O.asg rfl) ?_
        refine WP.nil ?_
        refine QE.next ?_
        refine CW.ret ?_
        refine QE.thenR ?_
        refine ST.told (q := (kSl kI64).is ([] : List Int)) 4 rfl (nil_le _) ?_
        refine ST.told 4 rfl (is_eq (y := ((opV xs M R s).1)) (by rw [op_4 h_t18 hs1 hne])) ?_
        refine ST.told 5 rfl (is_eq (y := ((opV xs M R s).2)) (by rw [op_4 h_t18 hs1 hne])) ?_
        exact QE.done (.inl rfl) rfl (ResOk.t rfl (ResOk.t rfl ResOk.nil)) (OImp.sub (List.nil_sublist _)) ⟨rfl, rfl⟩
      · have hne : (grV xs (opT M R s)).2 = 0 := by simpa using h_t50
        refine CW.skip ?_
        refine QE.next ?_
        refine CW.seq ?_
        refine ST.freezeb 0 rfl (.keep (i := 0) rfl (.keep (i := 1) rfl (.keep (i := 2) rfl (.keep (i := 3) rfl (.keep (i := 4) rfl (.keep (i := 5) rfl (.keep (i := 6) rfl (.keep (i := 7) rfl (.keep (i := 8) rfl (.keep (i := 9) rfl (.keep (i := 10) rfl (.keep (i := 11) rfl (.keep (i := 12) rfl (.hit (i := 13) rfl (.keep (i := 14) rfl (.keep (i := 15) rfl (.keep (i := 16) rfl (.keep (i := 17) rfl (.keep (i := 18) rfl (.keep (i := 20) rfl (.keep (i := 21) rfl (.keep (i := 22) rfl (.keep (i := 23) rfl (.keep (i := 24) rfl (.keep (i := 25) rfl (.keep (i := 26) rfl (.keep (i := 27) rfl (.keep (i := 28) rfl (.keep (i := 29) rfl (.keep (i := 30) rfl (.keep (i := 31) rfl (.keep (i := 32) rfl (.keep (i := 33) rfl (.keep (i := 34) rfl (.keep (i := 35) rfl (.keep (i := 36) rfl (.keep (i := 37) rfl (.keep (i := 38) rfl (.keep (i := 39) rfl (.keep (i := 40) rfl (.keep (i := 41) rfl (.keep (i := 42) rfl (.keep (i := 43) rfl (.keep (i := 44) rfl (.keep (i := 45) rfl (.keep (i := 46) rfl (.keep (i := 47) rfl (.keep (i := 48) rfl (.keep (i := 49) rfl (.keep (i := 50) rfl .nil)))))))))))))))))))))))))))))))))))))))))))))))))) ?_
        refine CW.region ?_
        refine WP.s .n (O.fa rfl fld74_0 rfl) ?_
        refine WP.s .n (O.ld (p := (kSl kZ).is xs) rfl (mem_at 6 rfl) (Lens.fst (Lens.id _)) ty27 rfl) ?_
        refine WP.s .n (O.lenS rfl Try.underlying27) ?_
        refine WP.s .n (O.slA xs.length rfl rfl Try.underlying123 ty3 rfl (by omega) (by decide)) ?_
        refine ST.nilrow 3 kI64 ?_
        refine WP.ap 0 .n rfl rfl rfl (VP.le_refl _) Try.underlying28 el3_int (by simp; omega) fun v7 => ?_
        refine WP.s .n (O.asg rfl) ?_
        refine WP.s .n (O.asg rfl) ?_
        refine WP.nil ?_
        refine QE.next ?_
        refine CW.ret ?_
        refine ST.freeze 0 rfl (.keep (i := 0) rfl (.keep (i := 1) rfl (.keep (i := 2) rfl (.keep (i := 3) rfl (.hit (i := 4) rfl (.keep (i := 5) rfl (.keep (i := 6) rfl (.keep (i := 7) rfl (.keep (i := 8) rfl (.keep (i := 9) rfl (.keep (i := 10) rfl (.keep (i := 11) rfl (.keep (i := 12) rfl (.keep (i := 13) rfl (.keep (i := 14) rfl (.keep (i := 15) rfl (.keep (i := 16) rfl (.keep (i := 17) rfl (.keep (i := 18) rfl (.keep (i := 20) rfl (.keep (i := 21) rfl (.keep (i := 22) rfl (.keep (i := 23) rfl (.keep (i := 24) rfl (.keep (i := 25) rfl (.keep (i := 26) rfl (.keep (i := 27) rfl (.keep (i := 28) rfl (.keep (i := 29) rfl (.keep (i := 30) rfl (.keep (i := 31) rfl (.keep (i := 32) rfl (.keep (i := 33) rfl (.keep (i := 34) rfl (.keep (i := 35) rfl (.keep (i := 36) rfl (.keep (i := 37) rfl (.keep (i := 38) rfl (.keep (i := 39) rfl (.keep (i := 40) rfl (.keep (i := 41) rfl (.keep (i := 42) rfl (.keep (i := 43) rfl (.keep (i := 44) rfl (.keep (i := 45) rfl (.keep (i := 46) rfl (.keep (i := 47) rfl (.keep (i := 48) rfl (.keep (i := 49) rfl (.keep (i := 50) rfl (.keep (i := 51) rfl (.keep (i := 52) rfl (.keep (i := 53) rfl (.keep (i := 54) rfl (.hit (i := 55) rfl .nil))))))))))))))))))))))))))))))))))))))))))))))))))))))) ?_
        refine ST.told 4 rfl (is_eq (y := ((opV xs M R s).1)) (by rw [op_3 h_t18 hs1 hne]; rfl)) ?_
        refine ST.told 5 rfl (is_eq (y := ((opV xs M R s).2)) (by rw [op_3 h_t18 hs1 hne])) ?_
        exact QE.done (.inl rfl) rfl (ResOk.t rfl (ResOk.t rfl ResOk.nil)) (OImp.sub (List.nil_sublist _)) ⟨rfl, rfl⟩

set_option maxRecDepth 20000 in
set_option maxHeartbeats 1000000 in
theorem c_ref24_block (xs c : List Int) (hc : Plc xs c) (hlx : xs.length ≤ 1099511627776) : Fn Try.prog 108 [(kSl kI64).is c, (kInt .i64).is (xs.length : Int)] ((kSl kI64).is (blockF c xs.length)) := by
  refine Con.enter Try.func108 rfl rfl fun m w => ?_
  refine ST.fact (i := 0) rfl sl_len fun hB => ?_
  refine CW.seq ?_
  refine CW.region ?_
  refine WP.s .n (O.asg rfl) ?_
  refine WP.nil ?_
  refine QE.next ?_
  refine CW.seq ?_
  refine CW.region ?_
  refine WP.s .n (O.mv rfl) ?_
  refine WP.mk xs.length .n rfl rfl rfl (by omega) Try.underlying28 el3_int z3_int fun v1 => ?_
  refine WP.s .n (O.asg rfl) ?_
  refine WP.nil ?_
  refine QE.next ?_
  refine CW.seq ?_
  refine CW.seq ?_
  refine CW.region ?_
  refine WP.s .n (O.asg rfl) ?_
  refine WP.nil ?_
  refine QE.next ?_
  refine CW.block ?_
  refine ST.obtold 0 rfl (OB.row_eq (ys := (blockN c xs.length 0)) rfl) ?_
  refine CW.loop (fun (i : Nat) => i ≤ c.length) (fun (i : Nat) => [(0, (kSl kI64).is c), (5, VP.ex v1), (6, (kInt .i64).is (i : Int))]) (fun (i : Nat) => [OB.row v1 3 kI64 (blockN c xs.length i)]) (fun (i : Nat) => c.length - i) 0 (by omega) (Imp.cons rfl (Imp.cons rfl (Imp.consLe rfl (is_eq (y := (0 : Int)) (by first | omega | rfl | assumption)) Imp.nil))) (OImp.refl _) ?_
  intro i hi
  have hbl := blockN_len c xs.length i
  refine CW.seq ?_
  refine CW.seq ?_
  refine CW.region ?_
  refine WP.s .n (O.mv rfl) ?_
  refine WP.s .n (O.mv rfl) ?_
  refine WP.s .n (O.lenS rfl Try.underlying28) ?_
  refine WP.s .n (O.lt rfl rfl) ?_
  refine WP.nil ?_
  refine QE.next ?_
  refine CW.condD rfl (fun h_t12 => ?_) (fun h_t12 => ?_)
  · have hx := Plc_get hc (show i < c.length by omega)
    refine CW.skip ?_
    refine QE.next ?_
    refine CW.seq ?_
    refine CW.block ?_
    refine CW.region ?_
    refine WP.s .n (O.mv rfl) ?_
    refine WP.s .n (O.mv rfl) ?_
    refine WP.s .n (O.mv rfl) ?_
    refine WP.s .n (O.ix i rfl rfl Try.underlying28 ty3 rfl (v := (c.getD i 0)) (gd 0 (by omega))) ?_
    refine WP.s .n (OpOk.le (O.ldP rfl ty3) (i64_le _)) ?_
    refine WP.s .n (O.ixR (k := kI64) (xs := (blockN c xs.length i)) (n := (c.getD i 0)) (((c.getD i 0)).toNat) rfl rfl (mem_at 0 rfl) Try.underlying28 ty3 (by omega) (by omega)) ?_
    refine WP.t .n (O.stR 0 (((c.getD i 0)).toNat) rfl rfl (Lens.id _) rfl (y0 := ((blockN c xs.length i).getD (((c.getD i 0)).toNat) 0)) (gd 0 (by omega)) ty3 rfl (i64_int (by omega))) ?_
    refine WP.nil ?_
    refine QE.blkN ?_
    refine QE.next ?_
    refine CW.region ?_
    refine WP.s .n (O.mv rfl) ?_
    refine WP.s .n (O.add rfl rfl (c := ((i : Int) + 1)) (w64 (by omega))) ?_
    refine WP.s .n (O.asg rfl) ?_
    refine WP.nil ?_
    refine ST.obtold 0 rfl (OB.row_eq (ys := (blockN c xs.length (i + 1))) (blockN_s (by omega))) ?_
    exact QE.round (i + 1) (by omega) (by omega) (Imp.cons rfl (Imp.cons rfl (Imp.consLe rfl (is_eq (y := (((i + 1) : Nat) : Int)) (by first | omega | rfl | assumption)) Imp.nil))) (OImp.refl _)
  · refine CW.exit ?_
    refine QE.thenE ?_
    refine QE.thenE ?_
    refine QE.blkH ?_
    refine QE.next ?_
    refine CW.seq ?_
    refine CW.region ?_
    refine WP.s .n (O.mv rfl) ?_
    refine WP.s .n (O.asg rfl) ?_
    refine WP.nil ?_
    refine QE.next ?_
    refine CW.ret ?_
    refine ST.freeze 0 rfl (.keep (i := 0) rfl (.hit (i := 4) rfl (.hit (i := 5) rfl (.keep (i := 6) rfl (.keep (i := 9) rfl (.keep (i := 10) rfl (.keep (i := 11) rfl (.keep (i := 12) rfl (.hit (i := 21) rfl .nil))))))))) ?_
    refine ST.told 4 rfl (is_eq (y := (blockF c xs.length)) (by unfold blockF; rw [show i = c.length from by omega])) ?_
    exact QE.done (.inl rfl) rfl (ResOk.t rfl ResOk.nil) (OImp.sub (List.nil_sublist _)) ⟨rfl, rfl⟩

set_option maxRecDepth 20000 in
set_option maxHeartbeats 1000000 in
theorem c_ref24_Open (xs : List Int) (M R : Int) (s : Int) (hM0 : Sq M) (hR0 : Sq R) (hs0 : Sq s) : Fn Try.prog 49 [(kPair (kSl kZ) (kPair kZ kZ)).is (xs, M, R), kZ.is s] (VP.tup [(kSl kI64).is ((opV xs M R s).1), (kInt .i64).is ((opV xs M R s).2)]) := by
  refine Con.enter Try.func49 rfl rfl fun m w => ?_
  have hsM := Sq_Sm hM0
  refine ST.fact (i := 0) rfl knap_len fun hB => ?_
  refine CW.seq ?_
  refine CW.region ?_
  refine WP.bx .n rfl fun b1 => ?_
  refine WP.bx .n rfl fun b2 => ?_
  refine WP.s .n (O.asg rfl) ?_
  refine WP.s .n (O.asg rfl) ?_
  refine WP.nil ?_
  refine QE.next ?_
  refine CW.seq ?_
  refine CW.region ?_
  refine WP.s .n (O.ld (p := (kPair (kSl kZ) (kPair kZ kZ)).is (xs, M, R)) rfl (mem_at 1 rfl) (Lens.id _) ty74 rfl) ?_
  refine WP.s .n (O.fn fn44 (evs.c rfl evs.nil) (c_ref24_Check xs M R (by first | assumption | omega) (by first | assumption | omega))) ?_
  refine WP.s .n (O.asg rfl) ?_
  refine WP.nil ?_
  refine QE.next ?_
  refine CW.seq ?_
  refine CW.seq ?_
  refine CW.region ?_
  refine WP.s .n (O.mv rfl) ?_
  refine WP.s .n (O.ne rfl rfl) ?_
  refine WP.nil ?_
  refine QE.next ?_
  refine CW.condD rfl (fun h_t16 => ?_) (fun h_t16 => ?_)
  · refine CW.seq ?_
    refine CW.region ?_
    refine WP.s .n (O.mv rfl) ?_
    refine WP.s .n (O.asg rfl) ?_
    refine WP.s .n (O.asg rfl) ?_
    refine WP.nil ?_
    refine QE.next ?_
    refine CW.ret ?_
    refine QE.thenR ?_
    refine ST.told (q := (kSl kI64).is ([] : List Int)) 4 rfl (nil_le _) ?_
    refine ST.told 4 rfl (is_eq (y := ((opV xs M R s).1)) (by rw [op_1 h_t16])) ?_
    refine ST.told 5 rfl (is_eq (y := ((opV xs M R s).2)) (by rw [op_1 h_t16])) ?_
    exact QE.done (.inl rfl) rfl (ResOk.t rfl (ResOk.t rfl ResOk.nil)) (OImp.sub (List.nil_sublist _)) ⟨rfl, rfl⟩
  · have hok := cErr_ok h_t16
    have hM1 := cGood_M (wErr_0 hok.1) hok.2
    have hR1 := hok.2.2.2.1
    have hSs : Ss (opT M R s) := Ss_Sq (Sq_fmod hM1 hM0)
    have hsT := hSs.1
    have hbx := bezX_rng (a := R) hM1
    have hsx : Sm (bezX R M) := Sm_le hsM (by omega)
    have hsp : Sm (s * bezX R M) := Sq_mul hs0 hM0 (by omega) (by omega)
    refine CW.skip ?_
    refine QE.next ?_
    refine CW.seq ?_
    refine CW.seq ?_
    refine CW.region ?_
    refine WP.s .n (O.ld rfl (mem_at 0 rfl) (Lens.id _) ty31 rfl) ?_
    refine WP.s .n (O.fn fn83 (evs.c rfl evs.nil) (c_ref02_Sign s)) ?_
    refine WP.s .n (O.lt rfl rfl) ?_
    refine WP.nil ?_
    refine QE.next ?_
    refine CW.condD rfl (fun h_t20 => ?_) (fun h_t20 => ?_)
    · refine CW.seq ?_
      refine CW.region ?_
      refine WP.s .n (O.asg rfl) ?_
      refine WP.s .n (O.asg rfl) ?_
      refine WP.nil ?_
      refine QE.next ?_
      refine CW.ret ?_
      refine QE.thenR ?_
      refine ST.told (q := (kSl kI64).is ([] : List Int)) 4 rfl (nil_le _) ?_
      refine ST.told 4 rfl (is_eq (y := ((opV xs M R s).1)) (by rw [op_2 h_t16 (sgn_lt0 h_t20)])) ?_
      refine ST.told 5 rfl (is_eq (y := ((opV xs M R s).2)) (by rw [op_2 h_t16 (sgn_lt0 h_t20)])) ?_
      exact QE.done (.inl rfl) rfl (ResOk.t rfl (ResOk.t rfl ResOk.nil)) (OImp.sub (List.nil_sublist _)) ⟨rfl, rfl⟩
    · have hs1 : ¬ s < 0 := by have := sgn_ge0 h_t20; omega
      refine CW.skip ?_
      refine QE.next ?_
      refine CW.seq ?_
      refine CW.region ?_
      refine WP.s .n (O.fa rfl fld74_2 rfl) ?_
      refine WP.s .n (O.ld (p := kZ.is R) rfl (mem_at 1 rfl) (Lens.snd (Lens.snd (Lens.id _))) ty31 rfl) ?_
      refine WP.s .n (O.fa rfl fld74_1 rfl) ?_
      refine WP.s .n (O.ld (p := kZ.is M) rfl (mem_at 1 rfl) (Lens.snd (Lens.fst (Lens.id _))) ty31 rfl) ?_
      refine WP.s .n (O.fn fn107 (evs.c rfl (evs.c rfl evs.nil)) (c_ref02_Bezout R M (by omega) hM1 hR0 hM0)) ?_
      refine WP.s .n (O.mv rfl) ?_
      refine WP.s .n (O.ext rfl rfl) ?_
      refine WP.s .n (O.ext rfl rfl) ?_
      refine WP.s .n (O.ext rfl rfl) ?_
      refine WP.al .n z31_C fun b3 => ?_
      refine WP.al .n z31_C fun b4 => ?_
      refine WP.al .n z31_C fun b5 => ?_
      refine WP.t .n (O.stW (l := kC) (u := (Int.gcd R M : Int)) 2 rfl rfl rfl ty31 rfl (VP.le_refl _)) ?_
      refine WP.t .n (O.stW (l := kC) (u := bezX R M) 1 rfl rfl rfl ty31 rfl (VP.le_refl _)) ?_
      refine WP.t .n (O.stW (l := kC) (u := bezY R M) 0 rfl rfl rfl ty31 rfl (VP.le_refl _)) ?_
      refine WP.nil ?_
      refine QE.next ?_
      refine CW.seq ?_
      refine CW.draw (Γ := [.fr (kZ.is s), .fr (kC.is (bezX R M)), .fr (kC.is (s * (bezX R M))), .fr (VP.ex (.pointer (some ⟨b1, 1, none⟩))), .fr (kZ.is M), .fr (VP.tup [kC.is ((s * (bezX R M)).fdiv M), kC.is ((s * (bezX R M)).fmod M)]), .fr (VP.tup [kC.is ((s * (bezX R M)).fdiv M), kC.is ((s * (bezX R M)).fmod M)]), .fr (kC.is ((s * (bezX R M)).fdiv M)), .lt (kC.is ((s * (bezX R M)).fmod M)), .al (fun b => OB.box b 31 kC 0), .al (fun b => OB.box b 31 kC 0)]) (lates := [false, false, false, false, false, false, false, false, true, false, false]) (by kernel_rfl) (Chk.of rfl (by kernel_rfl) rfl) (fun _ _ _ _ _ h => h) (fun q_ x_ h_ => ?_) (fun σ1 => ?_)
      · match q_, h_ with
        | 0, h_ => cases h_; exact Ob.f rfl .n fun N => (O.ld rfl (mem_app N (mem_at 3 rfl)) (Lens.id _) ty31 rfl)
        | 1, h_ => cases h_; exact Ob.f rfl .n fun N => (O.ld rfl (mem_app N (mem_at 1 rfl)) (Lens.id _) ty31 rfl)
        | 2, h_ => cases h_; exact Ob.f rfl .n fun N => (O.fn fn91 (evs.c rfl (evs.l rfl (kC_Z (by assumption)) evs.nil)) (c_ref02_Mul s (bezX R M)))
        | 3, h_ => cases h_; exact Ob.f rfl .n fun N => (O.fa rfl fld74_1 rfl)
        | 4, h_ => cases h_; exact Ob.f rfl .n fun N => (O.ld (p := kZ.is M) rfl (mem_app N (mem_at 4 rfl)) (Lens.snd (Lens.fst (Lens.id _))) ty31 rfl)
        | 5, h_ => cases h_; exact Ob.f rfl .n fun N => (O.fn fn89 (evs.l rfl (kC_Z (by assumption)) (evs.c rfl evs.nil)) (c_ref02_Floor (s * (bezX R M)) M (by omega)))
        | 6, h_ => cases h_; exact Ob.f rfl .n fun N => (O.mv rfl)
        | 7, h_ => cases h_; exact Ob.f rfl .n fun N => (O.ext rfl rfl)
        | 8, h_ => cases h_; exact Ob.l rfl .n (OV.ext rfl rfl)
        | 9, h_ => cases h_; exact Ob.a rfl z31_C
        | 10, h_ => cases h_; exact Ob.a rfl z31_C
        | n_ + 11, h_ => simp at h_
      refine WP.t .n (O.stW (l := kC) (u := (s * (bezX R M)).fdiv M) 0 rfl rfl rfl ty31 rfl (VP.le_refl _)) ?_
      refine WP.t .n (O.stW (l := kC) (u := (s * (bezX R M)).fmod M) 1 rfl rfl rfl ty31 rfl (VP.le_refl _)) ?_
      refine WP.nil ?_
      refine QE.next ?_
      refine CW.seq ?_
      refine ST.obtold 1 rfl (OB.box_eq (y := (opT M R s)) rfl) ?_
      refine CW.region ?_
      refine WP.s .n (O.fa rfl fld74_0 rfl) ?_
      refine WP.s .n (O.ld (p := (kSl kZ).is xs) rfl (mem_at 6 rfl) (Lens.fst (Lens.id _)) ty27 rfl) ?_
      refine WP.s .n (O.ld rfl (mem_at 1 rfl) (Lens.id _) ty31 rfl) ?_
      refine WP.s .n (O.fn fn84 (evs.c rfl (evs.l rfl (kC_Z (by assumption)) (evs.l rfl (nil_le _) (evs.l rfl (is_eq (y := (0 : Int)) (by first | omega | rfl | assumption)) evs.nil)))) (c_ref24_choices xs (opT M R s) (wErr_0 hok.1) hSs xs.length [] 0 (by omega) (Plc_nil xs) (by simp))) ?_
      refine WP.s .n (O.asg rfl) ?_
      refine WP.nil ?_
      refine QE.next ?_
      refine CW.seq ?_
      refine CW.seq ?_
      refine CW.region ?_
      refine WP.s .n (O.mv rfl) ?_
      refine WP.s .n (O.lenS rfl Try.underlying126) ?_
      refine WP.s .n (O.eq rfl rfl) ?_
      refine WP.nil ?_
      refine QE.next ?_
      refine CW.condD rfl (fun h_t45 => ?_) (fun h_t45 => ?_)
      · have hne := ch_len0 (s := opT M R s) hok.1 hok.2.1 (by omega)
        refine CW.seq ?_
        refine CW.region ?_
        refine WP.s .n (O.asg rfl) ?_
        refine WP.s .n (O.asg rfl) ?_
        refine WP.nil ?_
        refine QE.next ?_
        refine CW.ret ?_
        refine QE.thenR ?_
        refine ST.told (q := (kSl kI64).is ([] : List Int)) 4 rfl (nil_le _) ?_
        refine ST.told 4 rfl (is_eq (y := ((opV xs M R s).1)) (by rw [op_4 h_t16 hs1 hne])) ?_
        refine ST.told 5 rfl (is_eq (y := ((opV xs M R s).2)) (by rw [op_4 h_t16 hs1 hne])) ?_
        exact QE.done (.inl rfl) rfl (ResOk.t rfl (ResOk.t rfl ResOk.nil)) (OImp.sub (List.nil_sublist _)) ⟨rfl, rfl⟩
      · have hl1 := ch_len1 (s := opT M R s) hok.1 hok.2.1 (by omega)
        have hpl : Plc xs ((chA xs (opT M R s) xs.length []).getD 0 []) := by rw [hl1.2, grV_ones10 (wErr_0 hok.1)]; exact Plc_ones _ _
        refine CW.skip ?_
        refine QE.next ?_
        refine CW.seq ?_
        refine CW.draw (Γ := [.fr ((kSl (kSl kI64)).is (chA xs (opT M R s) xs.length [])), .fr (VP.pim (kSl kI64) ((chA xs (opT M R s) xs.length []).getD 0 [])), .fr ((kSl kI64).is ((chA xs (opT M R s) xs.length []).getD 0 [])), .fr (VP.ex (.pointer (some ⟨b1, 0, none⟩))), .fr ((kSl kZ).is xs), .fr ((kInt .i64).is (xs.length : Int)), .fr ((kSl kI64).is (blockF ((chA xs (opT M R s) xs.length []).getD 0 []) xs.length))]) (lates := [false, false, false, false, false, false, false]) (by kernel_rfl) (Chk.of rfl (by kernel_rfl) rfl) (fun _ _ _ _ _ h => h) (fun q_ x_ h_ => ?_) (fun σ2 => ?_)
        · match q_, h_ with
          | 0, h_ => cases h_; exact Ob.f rfl .n fun N => (O.mv rfl)
          | 1, h_ => cases h_; exact Ob.f rfl .n fun N => (O.ix 0 rfl rfl Try.underlying126 ty28 rfl (v := ((chA xs (opT M R s) xs.length []).getD 0 [])) (gd [] (by omega)))
          | 2, h_ => cases h_; exact Ob.f rfl .n fun N => (O.ldP rfl ty28)
          | 3, h_ => cases h_; exact Ob.f rfl .n fun N => (O.fa rfl fld74_0 rfl)
          | 4, h_ => cases h_; exact Ob.f rfl .n fun N => (O.ld (p := (kSl kZ).is xs) rfl (mem_app N (mem_at 6 rfl)) (Lens.fst (Lens.id _)) ty27 rfl)
          | 5, h_ => cases h_; exact Ob.f rfl .n fun N => (O.lenS rfl Try.underlying27)
          | 6, h_ => cases h_; exact Ob.f rfl .n fun N => (O.fn fn108 (evs.c rfl (evs.c rfl evs.nil)) (c_ref24_block xs ((chA xs (opT M R s) xs.length []).getD 0 []) hpl hB))
          | n_ + 7, h_ => simp at h_
        refine WP.s .n (O.asg rfl) ?_
        refine WP.s .n (O.asg rfl) ?_
        refine WP.nil ?_
        refine QE.next ?_
        refine CW.ret ?_
        refine ST.told 4 rfl (is_eq (y := ((opV xs M R s).1)) (by rw [op_3 h_t16 hs1 hl1.1, hl1.2]; exact grV_block (wErr_0 hok.1))) ?_
        refine ST.told 5 rfl (is_eq (y := ((opV xs M R s).2)) (by rw [op_3 h_t16 hs1 hl1.1])) ?_
        exact QE.done (.inl rfl) rfl (ResOk.t rfl (ResOk.t rfl ResOk.nil)) (OImp.sub (List.nil_sublist _)) ⟨rfl, rfl⟩

set_option maxRecDepth 20000 in
set_option maxHeartbeats 1000000 in
theorem c_law24_key (xs : List Int) (M R : Int) : Fn Try.prog 43 [(kPair (kSl kZ) (kPair kZ kZ)).is (xs, M, R)] ((kPair (kSl kZ) (kPair kZ kZ)).is (xs, M, R)) := by
  refine Con.enter Try.func43 rfl rfl fun m w => ?_
  refine CW.seq ?_
  refine CW.region ?_
  refine WP.bx .n rfl fun b1 => ?_
  refine WP.al .n z74_pr_sl_Z_pr_Z_Z__ fun b2 => ?_
  refine WP.nil ?_
  refine QE.next ?_
  refine CW.seq ?_
  refine CW.draw (Γ := [.fr (VP.ex (.pointer (some ⟨b1, 0, none⟩))), .fr ((kSl kZ).is xs), .fr ((kSl kZ).is xs), .fr (VP.ex (.pointer (some ⟨b1, 1, none⟩))), .fr (kZ.is M), .fr (kZ.is M), .fr (VP.ex (.pointer (some ⟨b1, 3, none⟩))), .fr (kZ.is R), .fr (kZ.is R), .fr ((kPair (kSl kZ) (kPair kZ kZ)).is (xs, (M, R)))]) (lates := [false, false, false, false, false, false, false, false, false, false]) (by kernel_rfl) (Chk.of rfl (by kernel_rfl) rfl) (fun _ _ _ _ _ h => h) (fun q_ x_ h_ => ?_) (fun σ1 => ?_)
  · match q_, h_ with
    | 0, h_ => cases h_; exact Ob.f rfl .n fun N => (O.fa rfl fld74_0 rfl)
    | 1, h_ => cases h_; exact Ob.f rfl .n fun N => (O.ld (p := (kSl kZ).is xs) rfl (mem_app N (mem_at 1 rfl)) (Lens.fst (Lens.id _)) ty27 rfl)
    | 2, h_ => cases h_; exact Ob.f rfl .n fun N => (O.fn fn16 (evs.c rfl evs.nil) (c_law24_owns xs))
    | 3, h_ => cases h_; exact Ob.f rfl .n fun N => (O.fa rfl fld74_1 rfl)
    | 4, h_ => cases h_; exact Ob.f rfl .n fun N => (O.ld (p := kZ.is M) rfl (mem_app N (mem_at 1 rfl)) (Lens.snd (Lens.fst (Lens.id _))) ty31 rfl)
    | 5, h_ => cases h_; exact Ob.f rfl .n fun N => (O.fn fn20 (evs.c rfl evs.nil) (c_law24_own M))
    | 6, h_ => cases h_; exact Ob.f rfl .n fun N => (O.fa rfl fld74_2 rfl)
    | 7, h_ => cases h_; exact Ob.f rfl .n fun N => (O.ld (p := kZ.is R) rfl (mem_app N (mem_at 1 rfl)) (Lens.snd (Lens.snd (Lens.id _))) ty31 rfl)
    | 8, h_ => cases h_; exact Ob.f rfl .n fun N => (O.fn fn20 (evs.c rfl evs.nil) (c_law24_own R))
    | 9, h_ => cases h_; exact Ob.f rfl .n fun N => (O.bld lit74_pr_sl_Z_pr_Z_Z__ rfl (evp.c rfl (evp.c rfl (evp.c rfl evp.n))) (.cons rfl (Lens.fst (Lens.id _)) (.cons rfl (Lens.snd (Lens.fst (Lens.id _))) (.cons rfl (Lens.snd (Lens.snd (Lens.id _))) (.nil _)))))
    | n_ + 10, h_ => simp at h_
  refine WP.t .n (O.stW (l := (kPair (kSl kZ) (kPair kZ kZ))) (u := (xs, (M, R))) 0 rfl rfl rfl ty74 rfl (VP.le_refl _)) ?_
  refine WP.nil ?_
  refine QE.next ?_
  refine CW.ret ?_
  exact QE.done (.inl rfl) rfl (ResOk.cl rfl (mem_at 0 rfl) ty74 (is_eq (y := (xs, M, R)) (by rfl)) ResOk.nil) (OImp.sub (List.nil_sublist _)) ⟨rfl, rfl⟩

set_option maxRecDepth 20000 in
set_option maxHeartbeats 1000000 in
theorem c_law24_KnapKeys (xs : List Int) (M R : Int) (s : Int) (hM0 : Sq M) (hR0 : Sq R) (hs0 : Sq s) : Fn Try.prog 8 [(kPair (kSl kZ) (kPair kZ kZ)).is (xs, M, R), kZ.is s] (kBool.is true) := by
  refine Con.enter Try.func8 rfl rfl fun m w => ?_
  refine CW.seq ?_
  refine CW.region ?_
  refine WP.bx .n rfl fun b1 => ?_
  refine WP.bx .n rfl fun b2 => ?_
  refine WP.s .n (O.asg rfl) ?_
  refine WP.nil ?_
  refine QE.next ?_
  refine CW.seq ?_
  refine CW.seq ?_
  refine CW.draw (Γ := [.fr ((kPair (kSl kZ) (kPair kZ kZ)).is (xs, M, R)), .fr ((kPair (kSl kZ) (kPair kZ kZ)).is (xs, M, R)), .fr ((kInt .i64).is (cErr xs M R)), .fr ((kPair (kSl kZ) (kPair kZ kZ)).is (xs, M, R)), .fr ((kInt .i64).is (cErr xs M R)), .fr (kBool.is (decide ((cErr xs M R) ≠ (cErr xs M R))))]) (lates := [false, false, false, false, false, false]) (by kernel_rfl) (Chk.of rfl (by kernel_rfl) rfl) (fun _ _ _ _ _ h => h) (fun q_ x_ h_ => ?_) (fun σ1 => ?_)
  · match q_, h_ with
    | 0, h_ => cases h_; exact Ob.f rfl .n fun N => (O.ld (p := (kPair (kSl kZ) (kPair kZ kZ)).is (xs, M, R)) rfl (mem_app N (mem_at 1 rfl)) (Lens.id _) ty74 rfl)
    | 1, h_ => cases h_; exact Ob.f rfl .n fun N => (O.fn fn43 (evs.c rfl evs.nil) (c_law24_key xs M R))
    | 2, h_ => cases h_; exact Ob.f rfl .n fun N => (O.fn fn42 (evs.c rfl evs.nil) (c_knap_Check xs M R (by assumption) (by assumption)))
    | 3, h_ => cases h_; exact Ob.f rfl .n fun N => (O.ld (p := (kPair (kSl kZ) (kPair kZ kZ)).is (xs, M, R)) rfl (mem_app N (mem_at 1 rfl)) (Lens.id _) ty74 rfl)
    | 4, h_ => cases h_; exact Ob.f rfl .n fun N => (O.fn fn44 (evs.c rfl evs.nil) (c_ref24_Check xs M R (by assumption) (by assumption)))
    | 5, h_ => cases h_; exact Ob.f rfl .n fun N => (O.ne rfl rfl)
    | n_ + 6, h_ => simp at h_
  refine WP.nil ?_
  refine QE.next ?_
  refine CW.condD rfl (fun h => absurd h (fun h => h rfl)) (fun h_t16 => ?_)
  refine CW.skip ?_
  refine QE.next ?_
  refine CW.seq ?_
  refine CW.region ?_
  refine WP.s .n (O.ld (p := (kPair (kSl kZ) (kPair kZ kZ)).is (xs, M, R)) rfl (mem_at 1 rfl) (Lens.id _) ty74 rfl) ?_
  refine WP.s .n (O.fn fn43 (evs.c rfl evs.nil) (c_law24_key xs M R)) ?_
  refine WP.s .n (O.fn fn45 (evs.c rfl evs.nil) (c_knap_Public xs M R (by assumption) (by assumption))) ?_
  refine WP.s .n (O.mv rfl) ?_
  refine WP.s .n (O.ext rfl rfl) ?_
  refine WP.s .n (O.ext rfl rfl) ?_
  refine WP.s .n (O.asg rfl) ?_
  refine WP.s .n (O.asg rfl) ?_
  refine WP.nil ?_
  refine QE.next ?_
  refine CW.seq ?_
  refine CW.region ?_
  refine WP.s .n (O.ld (p := (kPair (kSl kZ) (kPair kZ kZ)).is (xs, M, R)) rfl (mem_at 1 rfl) (Lens.id _) ty74 rfl) ?_
  refine WP.s .n (O.fn fn46 (evs.c rfl evs.nil) (c_ref24_Public xs M R (by assumption) (by assumption))) ?_
  refine WP.s .n (O.mv rfl) ?_
  refine WP.s .n (O.ext rfl rfl) ?_
  refine WP.s .n (O.ext rfl rfl) ?_
  refine WP.s .n (O.asg rfl) ?_
  refine WP.s .n (O.asg rfl) ?_
  refine WP.nil ?_
  refine QE.next ?_
  refine CW.seq ?_
  refine CW.seq ?_
  refine CW.region ?_
  refine WP.s .n (O.mv rfl) ?_
  refine WP.s .n (O.mv rfl) ?_
  refine WP.s .n (O.ne rfl rfl) ?_
  refine WP.s .n (O.mv rfl) ?_
  refine WP.splitD 31 rfl (fun h => absurd h (fun h => h rfl)) (fun h_t31 => ?_)
  refine WP.s (.g rfl rfl) (O.mv rfl) ?_
  refine WP.s (.g rfl rfl) (O.mv rfl) ?_
  refine WP.s (.g rfl rfl) (O.fn fn47 (evs.c rfl (evs.c rfl evs.nil)) (c_law24_eqs ((pkV xs M R).1) ((pkV xs M R).1))) ?_
  refine WP.s (.g rfl rfl) (O.not rfl) ?_
  refine WP.s .n (O.pickF rfl rfl) ?_
  refine WP.nil ?_
  refine QE.next ?_
  refine CW.cond rfl (fun h => absurd h (by simp)) (fun h_t36 => ?_)
  refine CW.skip ?_
  refine QE.next ?_
  refine CW.seq ?_
  refine CW.draw (Γ := [.fr ((kPair (kSl kZ) (kPair kZ kZ)).is (xs, M, R)), .fr ((kPair (kSl kZ) (kPair kZ kZ)).is (xs, M, R)), .fr (kZ.is s), .fr (kZ.is s), .fr (VP.tup [(kSl kI64).is ((opV xs M R s).1), (kInt .i64).is ((opV xs M R s).2)]), .fr (VP.tup [(kSl kI64).is ((opV xs M R s).1), (kInt .i64).is ((opV xs M R s).2)]), .fr ((kSl kI64).is ((opV xs M R s).1)), .lt ((kInt .i64).is ((opV xs M R s).2))]) (lates := [false, false, false, false, false, false, false, true]) (by kernel_rfl) (Chk.of rfl (by kernel_rfl) rfl) (fun _ _ _ _ _ h => h) (fun q_ x_ h_ => ?_) (fun σ2 => ?_)
  · match q_, h_ with
    | 0, h_ => cases h_; exact Ob.f rfl .n fun N => (O.ld (p := (kPair (kSl kZ) (kPair kZ kZ)).is (xs, M, R)) rfl (mem_app N (mem_at 1 rfl)) (Lens.id _) ty74 rfl)
    | 1, h_ => cases h_; exact Ob.f rfl .n fun N => (O.fn fn43 (evs.c rfl evs.nil) (c_law24_key xs M R))
    | 2, h_ => cases h_; exact Ob.f rfl .n fun N => (O.ld rfl (mem_app N (mem_at 0 rfl)) (Lens.id _) ty31 rfl)
    | 3, h_ => cases h_; exact Ob.f rfl .n fun N => (O.fn fn20 (evs.c rfl evs.nil) (c_law24_own s))
    | 4, h_ => cases h_; exact Ob.f rfl .n fun N => (O.fn fn48 (evs.c rfl (evs.c rfl evs.nil)) (c_knap_Open xs M R s (by assumption) (by assumption) (by assumption)))
    | 5, h_ => cases h_; exact Ob.f rfl .n fun N => (O.mv rfl)
    | 6, h_ => cases h_; exact Ob.f rfl .n fun N => (O.ext rfl rfl)
    | 7, h_ => cases h_; exact Ob.l rfl .n (OV.ext rfl rfl)
    | n_ + 8, h_ => simp at h_
  refine WP.s .n (O.asg rfl) ?_
  refine WP.s .n (O.asg rfl) ?_
  refine WP.nil ?_
  refine QE.next ?_
  refine CW.seq ?_
  refine CW.region ?_
  refine WP.s .n (O.ld (p := (kPair (kSl kZ) (kPair kZ kZ)).is (xs, M, R)) rfl (mem_at 1 rfl) (Lens.id _) ty74 rfl) ?_
  refine WP.s .n (O.ld rfl (mem_at 0 rfl) (Lens.id _) ty31 rfl) ?_
  refine WP.s .n (O.fn fn49 (evs.c rfl (evs.c rfl evs.nil)) (c_ref24_Open xs M R s (by assumption) (by assumption) (by assumption))) ?_
  refine WP.s .n (O.mv rfl) ?_
  refine WP.s .n (O.ext rfl rfl) ?_
  refine WP.s .n (O.ext rfl rfl) ?_
  refine WP.s .n (O.asg rfl) ?_
  refine WP.s .n (O.asg rfl) ?_
  refine WP.nil ?_
  refine QE.next ?_
  refine CW.seq ?_
  refine CW.region ?_
  refine WP.s .n (O.mv rfl) ?_
  refine WP.s .n (O.mv rfl) ?_
  refine WP.s .n (O.eq rfl rfl) ?_
  refine WP.s .n (O.mv rfl) ?_
  refine WP.splitD 54 rfl (fun h_t54 => ?_) (fun h => absurd rfl h)
  refine WP.s (.g rfl rfl) (O.mv rfl) ?_
  refine WP.s (.g rfl rfl) (O.mv rfl) ?_
  refine WP.s (.g rfl rfl) (O.fn fn22 (evs.c rfl (evs.c rfl evs.nil)) (c_law24_ints ((opV xs M R s).1) ((opV xs M R s).1))) ?_
  refine WP.s .n (O.pickT rfl rfl) ?_
  refine WP.s .n (O.asg rfl) ?_
  refine WP.nil ?_
  refine QE.next ?_
  refine CW.ret ?_
  exact QE.done (.inl rfl) rfl (ResOk.tl rfl (is_eq (y := true) (by simp)) ResOk.nil) (OImp.sub (List.nil_sublist _)) ⟨rfl, rfl⟩

end Fw


/- Proved: KnapKeys, for every input of bulk at most 1048576; no other condition. -/
set_option linter.unusedVariables false
namespace Go.Proofs.Ytgbafijcklgajaa.knapKeys
open Go.ChangeShapes Go.WideShapes Go.ChangeAt Go.RowKit Fw
theorem rd31 : Rd Try.prog 31 kZ ZB := rd_Z (rd_struct (fs := [_, _]) Try.underlying31 (by kernel_rfl) (rdf_cons rfl (by kernel_rfl) (rd_bool Try.underlying4) rfl (rdf_last rfl (by kernel_rfl) (rd_sl Try.underlying29 (by kernel_rfl) (by decide) (rd_limb Try.underlying121)))))
theorem rd27 : Rd Try.prog 27 (kSl kZ) (fun xs => xs.length ≤ uptoN ∧ ∀ x ∈ xs, ZB x) := rd_sl Try.underlying27 (by kernel_rfl) (by decide) rd31
theorem rd74 : Rd Try.prog 74 (kPair (kSl kZ) (kPair kZ kZ)) (fun x => (fun xs => xs.length ≤ uptoN ∧ ∀ x ∈ xs, ZB x) x.1 ∧ (fun x => ZB x.1 ∧ ZB x.2) x.2) := rd_struct (fs := [_, _, _]) Try.underlying74 (by kernel_rfl) (rdf_cons rfl (by kernel_rfl) rd27 rfl (rdf_cons rfl (by kernel_rfl) rd31 rfl (rdf_last rfl (by kernel_rfl) rd31)))
theorem own : ownKnob Try.prog.godebug = none := by kernel_rfl
theorem laidOut : laidOutB Try.prog = true := by kernel_rfl
set_option maxRecDepth 100000 in
theorem contract (H : Type) (enc : TypeId × Value → H) (W : World) (base : Nat) (args : Array Value) (ds gs : List (DataW H)) (before : List MemPlace)
    (hval : ∀ (j : Nat) t v, Try.f8.params[j]? = some t → args[j]? = some v → Value.okWide Try.prog W .any base t v)
    (hW : DataW.Whole enc Try.prog Try.f8.params.toList Rows.knapKeysSpec.vars false W args.toList ds gs before) (hk : Rows.uptoSmall H (ds ++ gs) = true) :
    Calls Try.prog 8 args W fun e W' => ∃ v, e = .returned v ∧ Rows.knapKeysSpec.post enc Try.prog Try.f8 false true false false W args v W' := by
  have hW' := hW
  obtain ⟨p, q, hA0, hV, rfl, hfz, hnd⟩ := hW
  have hA : DataW.TrodAll enc Try.prog W 0 (fun _ => true) true Try.f8.params.toList args.toList ds p := hA0
  rw [Try.params8] at hA hval
  obtain ⟨rfl, rfl⟩ := trodVars_none hV
  unfold Rows.uptoSmall at hk
  have hbulk := of_decide_eq_true hk
  rw [List.append_nil] at hbulk
  obtain ⟨v0, vs0, d0, ds0, p0, q0, hargs, rfl, rfl, h0, r0⟩ := trodAll_cons hA
  obtain ⟨v1, vs1, d1, ds1, p1, q1, rfl, rfl, rfl, h1, r1⟩ := trodAll_cons r0
  obtain ⟨rfl, rfl, rfl⟩ := trodAll_nil r1
  obtain rfl : args = [v0, v1].toArray := by cases args; simp_all
  simp only [Rows.uptoBulkAll] at hbulk
  obtain ⟨x0, a0, b0⟩ := arg_agg Try.underlying74 rfl rd74 (hval 0 74 v0 rfl rfl) h0 (by unfold uptoN; omega)
  obtain ⟨x1, a1, b1⟩ := arg_agg Try.underlying31 rfl rd31 (hval 1 31 v1 rfl rfl) h1 (by unfold uptoN; omega)
  refine ((c_law24_KnapKeys x0.1 x0.2.1 x0.2.2 x1 (Sq_ZB (ZB_lt b0.2.1)) (Sq_ZB (ZB_lt b0.2.2)) (Sq_ZB (ZB_lt b1))).calls (vs := [v0, v1]) ⟨a0, a1, trivial⟩).mono fun e W' ⟨he, bel⟩ => ?_
  subst he
  exact ⟨_, rfl, _, _, _, [], _, [], hW', trodAll_mk1 (shut_bool Try.underlying4 _), below_all laidOut bel (by kernel_rfl) hA0 (fun x hx => by simpa using hW'.lt x (by simpa using hx)), rfl, bel.frame _, fun h => by cases h⟩
set_option maxRecDepth 100000 in
theorem lifted (os : Os) (started : os.Started) (H : Type) (enc : TypeId × Value → H) (F : Stop.Interp) :
    ReturnsInHanded {} Try.checked os 8 .any ((Rows.OpenSpec.upto Rows.knapKeysSpec).pre6 enc Try.prog Try.f8 Rows.knapKeysUptoRow.domain false) (((Rows.OpenSpec.upto Rows.knapKeysSpec).at F).post enc Try.prog Try.f8 false true false false) := by
  refine returnsInHanded_of_cond (C := Try.checked) (s := Rows.OpenSpec.upto Rows.knapKeysSpec) (k := Rows.uptoSmall) rfl own started (by kernel_rfl) Try.func8
    (OpenSpec.witness (enc := enc) (C := Try.checked) (s := Rows.OpenSpec.upto Rows.knapKeysSpec) (k := Rows.uptoSmall) rfl false ⟨#[], #[.agg #[.slice none 0 0, .bool false, .slice none 0 0, .bool false, .slice none 0 0], .agg #[.bool false, .slice none 0 0]], []⟩ 8 (by kernel_rfl) (by kernel_rfl) (by kernel_rfl)
      (x := ([.agg [.nil, .agg [.lit (.bool false), .nil], .agg [.lit (.bool false), .nil]], .agg [.lit (.bool false), .nil]], [], [])) (by kernel_rfl) rfl (by kernel_rfl)) ?_
  intro W base args ds gs before hval hW _ hk _
  exact contract H enc W base args ds gs before hval hW hk
theorem over : Rows.knapKeysUptoRow.holds Try.pinned (Rows.OpenSpec.upto Rows.knapKeysSpec) :=
  OpenClaim.holds_of_cond 8 Try.f8 rfl rfl rfl rfl rfl rfl rfl ⟨rfl, rfl, rfl, rfl, rfl⟩ rfl rfl rfl rfl rfl (by kernel_rfl) Try.func8 (by kernel_rfl)
    (of_decide_eq_true (by kernel_rfl)) (by unfold Func.isWrapper; first | (rw [if_pos (by decide +kernel)]; kernel_rfl) | (rw [if_neg (by decide +kernel)]; exact ⟨rfl, rfl⟩))
    (fun os started H enc _ F => lifted os started H enc F)
theorem proved : Rows.KnapKeysUptoSaid := over
end Go.Proofs.Ytgbafijcklgajaa.knapKeys
