/- Frame, facts and contracts for QuadRows. -/
import Derived.Test.YtgbafijcklgajaaCQuadRowsC
/- Gram-Schmidt data: what the program answers. -/
set_option linter.unusedVariables false
set_option linter.unusedSimpArgs false
set_option exponentiation.threshold 400
namespace Fw
open Go Go.Proofs

set_option maxRecDepth 20000 in
set_option maxHeartbeats 1000000 in
theorem c_gso_built (n : Nat) (b : List (List Int)) (hb : SzM n b) (hr : RectL b) (hl : b.length ≤ 12) (hc : (b.getD 0 []).length ≤ 12) (hn : n ≤ 4194304) : Fn Try.prog 184 [(kSl (kSl kZ)).is b] (VP.tup [(kPair (kSl kC) (kSl (kSl kC))).is (gsoV (gram b) b.length), kBool.is (gOk (gram b) b.length)]) := by
  refine Con.enter Try.func184 rfl rfl fun m w => ?_
  refine ST.fact (i := 0) rfl sl_len fun hB => ?_
  refine ST.fact (i := 0) rfl slsl_len fun hlc => ?_
  have hs := gram_symG hr
  have hz : ∀ i j, Sz (n + n + 12) (gram b i j) := fun i j => gram_Sz hb hr hc i j
  have hU : ∀ k, k ≤ 12 → szU (n + n + 12) k ≤ 34359902208 := fun k hk => by have := szU_le (n + n + 12) hk; omega
  refine CW.seq ?_
  refine CW.region ?_
  refine WP.al .n z93_pr_sl_C_sl_sl_C_ fun b1 => ?_
  refine WP.s .n (O.asg rfl) ?_
  refine WP.nil ?_
  refine QE.next ?_
  refine CW.seq ?_
  refine CW.region ?_
  refine WP.s .n (O.fn fn74 (evs.l rfl (i64_int (by omega)) evs.nil) (c_zint_Of 1)) ?_
  refine WP.bso .n Try.underlying27 el31_C (evl.c rfl evl.n) rfl (by decide) fun v2 => ?_
  refine ST.rowcell 0 rfl fun hcell_ => ?_
  refine WP.s .n (O.bld lit93_pr_val_val_ rfl (evp.l rfl (ex_val (by first | rfl | assumption)) evp.n) (.cons rfl (Lens.fst (Lens.id _)) (.nil _))) ?_
  refine WP.al .n z93_pr_val_val_ fun b3 => ?_
  refine WP.t .n (O.stW (l := (kPair kVal kVal)) (u := (v2, (.slice none 0 0))) 0 rfl rfl rfl ty93 rfl (VP.le_refl _)) ?_
  refine WP.nil ?_
  refine QE.next ?_
  refine CW.seq ?_
  refine CW.seq ?_
  refine CW.region ?_
  refine WP.s .n (O.mv rfl) ?_
  refine WP.s .n (O.lenS rfl Try.underlying67) ?_
  refine WP.s .n (O.mv rfl) ?_
  refine WP.nil ?_
  refine QE.next ?_
  refine CW.block ?_
  refine ST.nilrow 27 (kSl kC) ?_
  refine CW.loop3 (fun (i : Nat) (vD : Value) (vL : Value) => i ≤ b.length ∧ PosU (gram b) i) (fun (i : Nat) (vD : Value) (vL : Value) => [(0, (kSl (kSl kZ)).is b), (2, VP.ex (.pointer (some ⟨b1, 0, none⟩))), (3, kBool.is false), (4, VP.ex (.pointer (some ⟨b3, 0, none⟩))), (16, (kInt .i64).is (b.length : Int)), (17, (kInt .i64).is (i : Int))]) (fun (i : Nat) (vD : Value) (vL : Value) => [OB.row vL 27 (kSl kC) (gLs (gram b) i), OB.box b3 93 (kPair kVal kVal) (vD, vL), OB.row vD 31 kC (gDs (gram b) i), OB.box b1 93 (kPair (kSl kC) (kSl (kSl kC))) ([], [])]) (fun (i : Nat) (vD : Value) (vL : Value) => b.length - i) 0 v2 (.slice none 0 0) ⟨Nat.zero_le _, fun l hl => absurd hl (by omega)⟩ (Imp.cons rfl (Imp.cons rfl (Imp.cons rfl (Imp.cons rfl (Imp.cons rfl (Imp.consLe rfl (is_eq (y := (0 : Int)) (by first | rfl | omega | assumption)) Imp.nil)))))) (OImp.os (OS.keepLe (OB.row_eq (by first | rfl | omega | assumption)) (OS.keep (OS.keepLe (OB.row_eq (by first | rfl | omega | assumption)) (OS.keep OS.nil))))) ?_
  intro i vD vL ⟨hi, hP⟩
  refine CW.seq ?_
  refine CW.region ?_
  refine WP.s .n (O.lt rfl rfl) ?_
  refine WP.nil ?_
  refine QE.next ?_
  refine CW.seq ?_
  refine CW.condD rfl (fun h_t18 => ?_) (fun h_t18 => ?_)
  · refine CW.skip ?_
    refine QE.next ?_
    refine CW.seq ?_
    refine CW.block ?_
    refine CW.seq ?_
    refine CW.region ?_
    refine WP.s .n (O.mv rfl) ?_
    refine WP.s .n (O.asg rfl) ?_
    refine WP.nil ?_
    refine QE.next ?_
    refine CW.seq ?_
    refine CW.region ?_
    refine WP.s .n (O.mv rfl) ?_
    refine WP.s .n (O.add rfl rfl (c := ((i : Int) + 1)) (w64 (by omega))) ?_
    refine WP.mk0 ((((i : Int) + 1)).toNat) .n rfl rfl (by omega) (by first | omega | (simp only [gRow_len, gDs_len, gLs_len]; omega)) Try.underlying27 el31_C z31_C fun v4 => ?_
    refine WP.s .n (O.asg rfl) ?_
    refine WP.nil ?_
    refine QE.next ?_
    refine CW.seq ?_
    refine CW.seq ?_
    refine CW.region ?_
    refine WP.s .n (O.asg rfl) ?_
    refine WP.nil ?_
    refine QE.next ?_
    refine CW.block ?_
    refine CW.loop2 (fun (j : Nat) (v : Value) => j ≤ i + 1) (fun (j : Nat) (v : Value) => [(0, (kSl (kSl kZ)).is b), (2, VP.ex (.pointer (some ⟨b1, 0, none⟩))), (3, kBool.is false), (4, VP.ex (.pointer (some ⟨b3, 0, none⟩))), (5, (kInt .i64).is (i : Int)), (6, VP.ex v), (7, (kInt .i64).is (j : Int)), (16, (kInt .i64).is (b.length : Int)), (17, (kInt .i64).is (i : Int))]) (fun (j : Nat) (v : Value) => [OB.row v 31 kC (gRow (gram b) i j), OB.row vL 27 (kSl kC) (gLs (gram b) i), OB.box b3 93 (kPair kVal kVal) (vD, vL), OB.row vD 31 kC (gDs (gram b) i), OB.box b1 93 (kPair (kSl kC) (kSl (kSl kC))) ([], [])]) (fun (j : Nat) (v : Value) => i + 1 - j) 0 v4 (by omega) (Imp.cons rfl (Imp.cons rfl (Imp.cons rfl (Imp.cons rfl (Imp.cons rfl (Imp.cons rfl (Imp.consLe rfl (is_eq (y := (0 : Int)) (by first | rfl | omega | assumption)) (Imp.cons rfl (Imp.cons rfl Imp.nil))))))))) (OImp.os (OS.keepLe (OB.row_eq (by first | rfl | omega | assumption)) (OS.keep (OS.keep (OS.keep (OS.keep OS.nil)))))) ?_
    intro j v hj
    refine CW.seq ?_
    refine CW.seq ?_
    refine CW.region ?_
    refine WP.s .n (O.mv rfl) ?_
    refine WP.s .n (O.mv rfl) ?_
    refine WP.s .n (O.le rfl rfl) ?_
    refine WP.nil ?_
    refine QE.next ?_
    refine CW.condD rfl (fun h_t25 => ?_) (fun h_t25 => ?_)
    · refine CW.skip ?_
      refine QE.next ?_
      refine CW.seq ?_
      refine CW.block ?_
      refine CW.seq ?_
      have hi2 : i < b.length := by omega
      refine CW.draw (Γ := [.fr ((kSl (kSl kZ)).is b), .fr ((kInt .i64).is (i : Int)), .fr (VP.pim (kSl kZ) (b.getD i [])), .fr ((kSl kZ).is (b.getD i [])), .fr ((kSl (kSl kZ)).is b), .fr ((kInt .i64).is (j : Int)), .fr (VP.pim (kSl kZ) (b.getD j [])), .fr ((kSl kZ).is (b.getD j [])), .fr (VP.tup [kC.is (uE (gram b) 0 i j), (kInt .i64).is 0]), .fr (VP.tup [kC.is (uE (gram b) 0 i j), (kInt .i64).is 0]), .fr (kC.is (uE (gram b) 0 i j)), .lt ((kInt .i64).is 0), .al (fun b => OB.box b 31 kC 0)]) (lates := [false, false, false, false, false, false, false, false, false, false, false, true, false]) (by kernel_rfl) (Chk.of rfl (by kernel_rfl) rfl) (fun _ _ _ _ _ h => h) (fun q_ x_ h_ => ?_) (fun σ1 => ?_)
      · match q_, h_ with
        | 0, h_ => cases h_; exact Ob.f rfl .n fun N => (O.mv rfl)
        | 1, h_ => cases h_; exact Ob.f rfl .n fun N => (O.mv rfl)
        | 2, h_ => cases h_; exact Ob.f rfl .n fun N => (O.ix i rfl rfl Try.underlying67 ty27 rfl (v := (b.getD i [])) (gd [] (by first | omega | (simp only [gRow_len, gDs_len, gLs_len]; omega))))
        | 3, h_ => cases h_; exact Ob.f rfl .n fun N => (O.ldP rfl ty27)
        | 4, h_ => cases h_; exact Ob.f rfl .n fun N => (O.mv rfl)
        | 5, h_ => cases h_; exact Ob.f rfl .n fun N => (O.mv rfl)
        | 6, h_ => cases h_; exact Ob.f rfl .n fun N => (O.ix j rfl rfl Try.underlying67 ty27 rfl (v := (b.getD j [])) (gd [] (by first | omega | (simp only [gRow_len, gDs_len, gLs_len]; omega))))
        | 7, h_ => cases h_; exact Ob.f rfl .n fun N => (O.ldP rfl ty27)
        | 8, h_ => cases h_; exact Ob.f rfl .n fun N => (OpOk.le (O.fn fn175 (evs.c rfl (evs.c rfl evs.nil)) (c_mat_Dot n (b.getD i []) (b.getD j []) (by first | assumption | exact hb _ | omega) (by first | assumption | exact hb _ | omega) (by have := row_le hr hc i; omega))) (tup_le (tup_cons (is_eq (if_pos (by rw [hr i (by omega), hr j (by omega)]))) (tup_cons (is_eq (if_pos (by rw [hr i (by omega), hr j (by omega)]))) tup_nil))))
        | 9, h_ => cases h_; exact Ob.f rfl .n fun N => (O.mv rfl)
        | 10, h_ => cases h_; exact Ob.f rfl .n fun N => (O.ext rfl rfl)
        | 11, h_ => cases h_; exact Ob.l rfl .n (OV.ext rfl rfl)
        | 12, h_ => cases h_; exact Ob.a rfl z31_C
        | n_ + 13, h_ => simp at h_
      refine WP.t .n (O.stW (l := kC) (u := uE (gram b) 0 i j) 0 rfl rfl rfl ty31 rfl (VP.le_refl _)) ?_
      refine WP.s .n (O.asg rfl) ?_
      refine WP.nil ?_
      refine QE.next ?_
      refine CW.seq ?_
      refine CW.seq ?_
      refine CW.region ?_
      refine WP.s .n (O.asg rfl) ?_
      refine WP.nil ?_
      refine QE.next ?_
      refine CW.block ?_
      refine CW.loop2 (fun (k : Nat) (p : Nat) => k ≤ j) (fun (k : Nat) (p : Nat) => [(0, (kSl (kSl kZ)).is b), (2, VP.ex (.pointer (some ⟨b1, 0, none⟩))), (3, kBool.is false), (4, VP.ex (.pointer (some ⟨b3, 0, none⟩))), (5, (kInt .i64).is (i : Int)), (6, VP.ex v), (7, (kInt .i64).is (j : Int)), (8, VP.ex (.pointer (some ⟨p, 0, none⟩))), (10, (kInt .i64).is (k : Int)), (16, (kInt .i64).is (b.length : Int)), (17, (kInt .i64).is (i : Int))]) (fun (k : Nat) (p : Nat) => [OB.box p 31 kC (uE (gram b) k i j), OB.row v 31 kC (gRow (gram b) i j), OB.row vL 27 (kSl kC) (gLs (gram b) i), OB.box b3 93 (kPair kVal kVal) (vD, vL), OB.row vD 31 kC (gDs (gram b) i), OB.box b1 93 (kPair (kSl kC) (kSl (kSl kC))) ([], [])]) (fun (k : Nat) (p : Nat) => j - k) 0 (σ1 12) (by omega) (Imp.cons rfl (Imp.cons rfl (Imp.cons rfl (Imp.cons rfl (Imp.cons rfl (Imp.cons rfl (Imp.cons rfl (Imp.cons rfl (Imp.consLe rfl (is_eq (y := (0 : Int)) (by first | rfl | omega | assumption)) (Imp.cons rfl (Imp.cons rfl Imp.nil))))))))))) (OImp.refl _) ?_
      intro k p hk
      refine CW.seq ?_
      refine CW.seq ?_
      refine CW.region ?_
      refine WP.s .n (O.mv rfl) ?_
      refine WP.s .n (O.mv rfl) ?_
      refine WP.s .n (O.lt rfl rfl) ?_
      refine WP.nil ?_
      refine QE.next ?_
      refine CW.condD rfl (fun h_t42 => ?_) (fun h_t42 => ?_)
      · refine CW.skip ?_
        refine QE.next ?_
        refine CW.seq ?_
        refine CW.block ?_
        refine CW.seq ?_
        have hE := uE_Sz hs hz hP
        have hD := uD_Sz hs hz hP
        have hUk := hU k (by omega)
        refine CW.region ?_
        refine WP.s .n (O.mv rfl) ?_
        refine WP.s .n (O.asg rfl) ?_
        refine WP.nil ?_
        refine QE.next ?_
        refine CW.seq ?_
        refine CW.seq ?_
        refine CW.region ?_
        refine WP.s .n (O.mv rfl) ?_
        refine WP.s .n (O.mv rfl) ?_
        refine WP.s .n (O.lt rfl rfl) ?_
        refine WP.nil ?_
        refine QE.next ?_
        refine CW.condD rfl (fun h_t48 => ?_) (fun h_t48 => ?_)
        · refine CW.region ?_
          refine WP.s .n (O.fa rfl fld93_1 rfl) ?_
          refine WP.s .n (OpOk.le (O.ld (p := kVal.is vL) rfl (mem_at 3 rfl) (Lens.snd (Lens.id _)) ty67 rfl) (val_ex _)) ?_
          refine WP.s .n (O.mv rfl) ?_
          refine WP.s .n (O.ixR (k := (kSl kC)) (xs := (gLs (gram b) i)) (n := (j : Int)) j rfl rfl (mem_at 2 rfl) Try.underlying67 ty27 rfl (by first | omega | (simp only [gRow_len, gDs_len, gLs_len]; omega))) ?_
          refine WP.s .n (O.ldR j rfl (mem_at 2 rfl) (Lens.id _) rfl (y := ((gLs (gram b) i).getD j [])) (gd [] (by first | omega | (simp only [gRow_len, gDs_len, gLs_len]; omega))) ty27 rfl) ?_
          refine WP.s .n (O.asg rfl) ?_
          refine WP.nil ?_
          refine QE.next ?_
          refine CW.seq ?_
          refine CW.draw (Γ := [.fr (VP.ex (.pointer (some ⟨b3, 0, none⟩))), .fr (VP.ex vD), .fr ((kInt .i64).is (k : Int)), .fr ((kInt .i64).is ((k : Int) + 1)), .fr (VP.pel vD ((((k : Int) + 1)).toNat * 2)), .fr (kC.is (uD (gram b) (k + 1))), .fr (kC.is (uE (gram b) k i j)), .fr (kC.is ((uD (gram b) (k + 1)) * (uE (gram b) k i j))), .fr (VP.ex v), .fr ((kInt .i64).is (k : Int)), .fr (VP.pel v (k * 2)), .fr (kC.is (uE (gram b) k i k)), .fr ((kSl kC).is ((gLs (gram b) i).getD j [])), .fr ((kInt .i64).is (k : Int)), .fr (VP.pim kC (uE (gram b) k j k)), .fr (kC.is (uE (gram b) k j k)), .fr (kC.is ((uE (gram b) k i k) * (uE (gram b) k j k))), .fr (kC.is (((uD (gram b) (k + 1)) * (uE (gram b) k i j)) - ((uE (gram b) k i k) * (uE (gram b) k j k))))]) (lates := [false, false, false, false, false, false, false, false, false, false, false, false, false, false, false, false, false, false]) (by kernel_rfl) (Chk.of rfl (by kernel_rfl) rfl) (fun _ _ _ _ _ h => h) (fun q_ x_ h_ => ?_) (fun σ2 => ?_)
          · match q_, h_ with
            | 0, h_ => cases h_; exact Ob.f rfl .n fun N => (O.fa rfl fld93_0 rfl)
            | 1, h_ => cases h_; exact Ob.f rfl .n fun N => (OpOk.le (O.ld (p := kVal.is vD) rfl (mem_app N (mem_at 3 rfl)) (Lens.fst (Lens.id _)) ty27 rfl) (val_ex _))
            | 2, h_ => cases h_; exact Ob.f rfl .n fun N => (O.mv rfl)
            | 3, h_ => cases h_; exact Ob.f rfl .n fun N => (O.add rfl rfl (c := ((k : Int) + 1)) (w64 (by omega)))
            | 4, h_ => cases h_; exact Ob.f rfl .n fun N => (O.ixR (k := kC) (xs := (gDs (gram b) i)) (n := ((k : Int) + 1)) ((((k : Int) + 1)).toNat) rfl rfl (mem_app N (mem_at 4 rfl)) Try.underlying27 ty31 (by omega) (by first | omega | (simp only [gRow_len, gDs_len, gLs_len]; omega)))
            | 5, h_ => cases h_; exact Ob.f rfl .n fun N => (O.ldR (k := kC) (xs := (gDs (gram b) i)) ((((k : Int) + 1)).toNat) rfl (mem_app N (mem_at 4 rfl)) (Lens.id _) (ho := rfl) (y := (uD (gram b) (k + 1))) (gDs_at (by omega)) ty31 rfl)
            | 6, h_ => cases h_; exact Ob.f rfl .n fun N => (O.ld rfl (mem_app N (mem_at 0 rfl)) (Lens.id _) ty31 rfl)
            | 7, h_ => cases h_; exact Ob.f rfl .n fun N => (O.fn fn76 (evs.l rfl (kC_Z (by first | assumption | exact (hE k (by omega) i j (by omega) (by omega)).sm (by omega) | exact (hE k (by omega) k k (by omega) (by omega)).sm (by omega) | exact (hE k (by omega) i k (by omega) (by omega)).sm (by omega) | exact (hE k (by omega) j k (by omega) (by omega)).sm (by omega) | exact (hE i (by omega) i i (by omega) (by omega)).sm (by omega) | exact (hD k (by omega)).sm (by omega) | exact (((hE k (by omega) k k (by omega) (by omega)).mul (hE k (by omega) i j (by omega) (by omega))).sub ((hE k (by omega) i k (by omega) (by omega)).mul (hE k (by omega) j k (by omega) (by omega)))).sm (by omega) | exact ((hE k (by omega) k k (by omega) (by omega)).mul (hE k (by omega) i j (by omega) (by omega))).sm (by omega) | exact ((hE k (by omega) i k (by omega) (by omega)).mul (hE k (by omega) j k (by omega) (by omega))).sm (by omega))) (evs.l rfl (kC_Z (by first | assumption | exact (hE k (by omega) i j (by omega) (by omega)).sm (by omega) | exact (hE k (by omega) k k (by omega) (by omega)).sm (by omega) | exact (hE k (by omega) i k (by omega) (by omega)).sm (by omega) | exact (hE k (by omega) j k (by omega) (by omega)).sm (by omega) | exact (hE i (by omega) i i (by omega) (by omega)).sm (by omega) | exact (hD k (by omega)).sm (by omega) | exact (((hE k (by omega) k k (by omega) (by omega)).mul (hE k (by omega) i j (by omega) (by omega))).sub ((hE k (by omega) i k (by omega) (by omega)).mul (hE k (by omega) j k (by omega) (by omega)))).sm (by omega) | exact ((hE k (by omega) k k (by omega) (by omega)).mul (hE k (by omega) i j (by omega) (by omega))).sm (by omega) | exact ((hE k (by omega) i k (by omega) (by omega)).mul (hE k (by omega) j k (by omega) (by omega))).sm (by omega))) evs.nil)) (c_zint_Mul (uD (gram b) (k + 1)) (uE (gram b) k i j)))
            | 8, h_ => cases h_; exact Ob.f rfl .n fun N => (O.mv rfl)
            | 9, h_ => cases h_; exact Ob.f rfl .n fun N => (O.mv rfl)
            | 10, h_ => cases h_; exact Ob.f rfl .n fun N => (O.ixR (k := kC) (xs := (gRow (gram b) i j)) (n := (k : Int)) k rfl rfl (mem_app N (mem_at 1 rfl)) Try.underlying27 ty31 rfl (by first | omega | (simp only [gRow_len, gDs_len, gLs_len]; omega)))
            | 11, h_ => cases h_; exact Ob.f rfl .n fun N => (O.ldR (k := kC) (xs := (gRow (gram b) i j)) k rfl (mem_app N (mem_at 1 rfl)) (Lens.id _) (ho := rfl) (y := (uE (gram b) k i k)) (gRow_at (by omega)) ty31 rfl)
            | 12, h_ => cases h_; exact Ob.f rfl .n fun N => (O.mv rfl)
            | 13, h_ => cases h_; exact Ob.f rfl .n fun N => (O.mv rfl)
            | 14, h_ => cases h_; exact Ob.f rfl .n fun N => (O.ix k rfl rfl Try.underlying27 ty31 rfl (v := (uE (gram b) k j k)) (gLs_at (by omega) (by omega)))
            | 15, h_ => cases h_; exact Ob.f rfl .n fun N => (O.ldP rfl ty31)
            | 16, h_ => cases h_; exact Ob.f rfl .n fun N => (O.fn fn76 (evs.l rfl (kC_Z (by first | assumption | exact (hE k (by omega) i j (by omega) (by omega)).sm (by omega) | exact (hE k (by omega) k k (by omega) (by omega)).sm (by omega) | exact (hE k (by omega) i k (by omega) (by omega)).sm (by omega) | exact (hE k (by omega) j k (by omega) (by omega)).sm (by omega) | exact (hE i (by omega) i i (by omega) (by omega)).sm (by omega) | exact (hD k (by omega)).sm (by omega) | exact (((hE k (by omega) k k (by omega) (by omega)).mul (hE k (by omega) i j (by omega) (by omega))).sub ((hE k (by omega) i k (by omega) (by omega)).mul (hE k (by omega) j k (by omega) (by omega)))).sm (by omega) | exact ((hE k (by omega) k k (by omega) (by omega)).mul (hE k (by omega) i j (by omega) (by omega))).sm (by omega) | exact ((hE k (by omega) i k (by omega) (by omega)).mul (hE k (by omega) j k (by omega) (by omega))).sm (by omega))) (evs.l rfl (kC_Z (by first | assumption | exact (hE k (by omega) i j (by omega) (by omega)).sm (by omega) | exact (hE k (by omega) k k (by omega) (by omega)).sm (by omega) | exact (hE k (by omega) i k (by omega) (by omega)).sm (by omega) | exact (hE k (by omega) j k (by omega) (by omega)).sm (by omega) | exact (hE i (by omega) i i (by omega) (by omega)).sm (by omega) | exact (hD k (by omega)).sm (by omega) | exact (((hE k (by omega) k k (by omega) (by omega)).mul (hE k (by omega) i j (by omega) (by omega))).sub ((hE k (by omega) i k (by omega) (by omega)).mul (hE k (by omega) j k (by omega) (by omega)))).sm (by omega) | exact ((hE k (by omega) k k (by omega) (by omega)).mul (hE k (by omega) i j (by omega) (by omega))).sm (by omega) | exact ((hE k (by omega) i k (by omega) (by omega)).mul (hE k (by omega) j k (by omega) (by omega))).sm (by omega))) evs.nil)) (c_zint_Mul (uE (gram b) k i k) (uE (gram b) k j k)))
            | 17, h_ => cases h_; exact Ob.f rfl .n fun N => (O.fn fn157 (evs.l rfl (kC_Z (by first | assumption | exact (hE k (by omega) i j (by omega) (by omega)).sm (by omega) | exact (hE k (by omega) k k (by omega) (by omega)).sm (by omega) | exact (hE k (by omega) i k (by omega) (by omega)).sm (by omega) | exact (hE k (by omega) j k (by omega) (by omega)).sm (by omega) | exact (hE i (by omega) i i (by omega) (by omega)).sm (by omega) | exact (hD k (by omega)).sm (by omega) | exact (((hE k (by omega) k k (by omega) (by omega)).mul (hE k (by omega) i j (by omega) (by omega))).sub ((hE k (by omega) i k (by omega) (by omega)).mul (hE k (by omega) j k (by omega) (by omega)))).sm (by omega) | exact ((hE k (by omega) k k (by omega) (by omega)).mul (hE k (by omega) i j (by omega) (by omega))).sm (by omega) | exact ((hE k (by omega) i k (by omega) (by omega)).mul (hE k (by omega) j k (by omega) (by omega))).sm (by omega))) (evs.l rfl (kC_Z (by first | assumption | exact (hE k (by omega) i j (by omega) (by omega)).sm (by omega) | exact (hE k (by omega) k k (by omega) (by omega)).sm (by omega) | exact (hE k (by omega) i k (by omega) (by omega)).sm (by omega) | exact (hE k (by omega) j k (by omega) (by omega)).sm (by omega) | exact (hE i (by omega) i i (by omega) (by omega)).sm (by omega) | exact (hD k (by omega)).sm (by omega) | exact (((hE k (by omega) k k (by omega) (by omega)).mul (hE k (by omega) i j (by omega) (by omega))).sub ((hE k (by omega) i k (by omega) (by omega)).mul (hE k (by omega) j k (by omega) (by omega)))).sm (by omega) | exact ((hE k (by omega) k k (by omega) (by omega)).mul (hE k (by omega) i j (by omega) (by omega))).sm (by omega) | exact ((hE k (by omega) i k (by omega) (by omega)).mul (hE k (by omega) j k (by omega) (by omega))).sm (by omega))) evs.nil)) (c_zint_Sub ((uD (gram b) (k + 1)) * (uE (gram b) k i j)) ((uE (gram b) k i k) * (uE (gram b) k j k))))
            | n_ + 18, h_ => simp at h_
          refine WP.t .n (O.stW (l := kC) (u := ((uD (gram b) (k + 1)) * (uE (gram b) k i j)) - ((uE (gram b) k i k) * (uE (gram b) k j k))) 0 rfl rfl rfl ty31 rfl (VP.le_refl _)) ?_
          refine WP.nil ?_
          refine QE.next ?_
          refine CW.draw (Γ := [.fr (kC.is (((uD (gram b) (k + 1)) * (uE (gram b) k i j)) - ((uE (gram b) k i k) * (uE (gram b) k j k)))), .fr (VP.ex (.pointer (some ⟨b3, 0, none⟩))), .fr (VP.ex vD), .fr ((kInt .i64).is (k : Int)), .fr (VP.pel vD (k * 2)), .fr (kC.is (uD (gram b) k)), .fr (VP.tup [kC.is ((((uD (gram b) (k + 1)) * (uE (gram b) k i j)) - ((uE (gram b) k i k) * (uE (gram b) k j k))).fdiv (uD (gram b) k)), kC.is (if (uD (gram b) k) = 0 then 0 else (((uD (gram b) (k + 1)) * (uE (gram b) k i j)) - ((uE (gram b) k i k) * (uE (gram b) k j k))).fmod (uD (gram b) k)), (kInt .i64).is (if (uD (gram b) k) = 0 then 11 else 0)]), .fr (VP.tup [kC.is ((((uD (gram b) (k + 1)) * (uE (gram b) k i j)) - ((uE (gram b) k i k) * (uE (gram b) k j k))).fdiv (uD (gram b) k)), kC.is (if (uD (gram b) k) = 0 then 0 else (((uD (gram b) (k + 1)) * (uE (gram b) k i j)) - ((uE (gram b) k i k) * (uE (gram b) k j k))).fmod (uD (gram b) k)), (kInt .i64).is (if (uD (gram b) k) = 0 then 11 else 0)]), .fr (kC.is ((((uD (gram b) (k + 1)) * (uE (gram b) k i j)) - ((uE (gram b) k i k) * (uE (gram b) k j k))).fdiv (uD (gram b) k))), .lt (kC.is (if (uD (gram b) k) = 0 then 0 else (((uD (gram b) (k + 1)) * (uE (gram b) k i j)) - ((uE (gram b) k i k) * (uE (gram b) k j k))).fmod (uD (gram b) k))), .lt ((kInt .i64).is (if (uD (gram b) k) = 0 then 11 else 0))]) (lates := [false, false, false, false, false, false, false, false, false, true, true]) (by kernel_rfl) (Chk.of rfl (by kernel_rfl) rfl) (fun _ _ _ _ _ h => h) (fun q_ x_ h_ => ?_) (fun σ3 => ?_)
          · match q_, h_ with
            | 0, h_ => cases h_; exact Ob.f rfl .n fun N => (O.ld rfl (mem_app N (mem_at 0 rfl)) (Lens.id _) ty31 rfl)
            | 1, h_ => cases h_; exact Ob.f rfl .n fun N => (O.fa rfl fld93_0 rfl)
            | 2, h_ => cases h_; exact Ob.f rfl .n fun N => (OpOk.le (O.ld (p := kVal.is vD) rfl (mem_app N (mem_at 3 rfl)) (Lens.fst (Lens.id _)) ty27 rfl) (val_ex _))
            | 3, h_ => cases h_; exact Ob.f rfl .n fun N => (O.mv rfl)
            | 4, h_ => cases h_; exact Ob.f rfl .n fun N => (O.ixR (k := kC) (xs := (gDs (gram b) i)) (n := (k : Int)) k rfl rfl (mem_app N (mem_at 4 rfl)) Try.underlying27 ty31 rfl (by first | omega | (simp only [gRow_len, gDs_len, gLs_len]; omega)))
            | 5, h_ => cases h_; exact Ob.f rfl .n fun N => (O.ldR (k := kC) (xs := (gDs (gram b) i)) k rfl (mem_app N (mem_at 4 rfl)) (Lens.id _) (ho := rfl) (y := (uD (gram b) k)) (gDs_at (by omega)) ty31 rfl)
            | 6, h_ => cases h_; exact Ob.f rfl .n fun N => (O.fn fn105 (evs.l rfl (kC_Z (by first | assumption | exact (hE k (by omega) i j (by omega) (by omega)).sm (by omega) | exact (hE k (by omega) k k (by omega) (by omega)).sm (by omega) | exact (hE k (by omega) i k (by omega) (by omega)).sm (by omega) | exact (hE k (by omega) j k (by omega) (by omega)).sm (by omega) | exact (hE i (by omega) i i (by omega) (by omega)).sm (by omega) | exact (hD k (by omega)).sm (by omega) | exact (((hE k (by omega) k k (by omega) (by omega)).mul (hE k (by omega) i j (by omega) (by omega))).sub ((hE k (by omega) i k (by omega) (by omega)).mul (hE k (by omega) j k (by omega) (by omega)))).sm (by omega) | exact ((hE k (by omega) k k (by omega) (by omega)).mul (hE k (by omega) i j (by omega) (by omega))).sm (by omega) | exact ((hE k (by omega) i k (by omega) (by omega)).mul (hE k (by omega) j k (by omega) (by omega))).sm (by omega))) (evs.l rfl (kC_Z (by first | assumption | exact (hE k (by omega) i j (by omega) (by omega)).sm (by omega) | exact (hE k (by omega) k k (by omega) (by omega)).sm (by omega) | exact (hE k (by omega) i k (by omega) (by omega)).sm (by omega) | exact (hE k (by omega) j k (by omega) (by omega)).sm (by omega) | exact (hE i (by omega) i i (by omega) (by omega)).sm (by omega) | exact (hD k (by omega)).sm (by omega) | exact (((hE k (by omega) k k (by omega) (by omega)).mul (hE k (by omega) i j (by omega) (by omega))).sub ((hE k (by omega) i k (by omega) (by omega)).mul (hE k (by omega) j k (by omega) (by omega)))).sm (by omega) | exact ((hE k (by omega) k k (by omega) (by omega)).mul (hE k (by omega) i j (by omega) (by omega))).sm (by omega) | exact ((hE k (by omega) i k (by omega) (by omega)).mul (hE k (by omega) j k (by omega) (by omega))).sm (by omega))) evs.nil)) (c_zint_Floor (((uD (gram b) (k + 1)) * (uE (gram b) k i j)) - ((uE (gram b) k i k) * (uE (gram b) k j k))) (uD (gram b) k)))
            | 7, h_ => cases h_; exact Ob.f rfl .n fun N => (O.mv rfl)
            | 8, h_ => cases h_; exact Ob.f rfl .n fun N => (O.ext rfl rfl)
            | 9, h_ => cases h_; exact Ob.l rfl .n (OV.ext rfl rfl)
            | 10, h_ => cases h_; exact Ob.l rfl .n (OV.ext rfl rfl)
            | n_ + 11, h_ => simp at h_
          refine WP.t .n (O.stW (l := kC) (u := (((uD (gram b) (k + 1)) * (uE (gram b) k i j)) - ((uE (gram b) k i k) * (uE (gram b) k j k))).fdiv (uD (gram b) k)) 0 rfl rfl rfl ty31 rfl (VP.le_refl _)) ?_
          refine WP.nil ?_
          refine QE.blkN ?_
          refine QE.next ?_
          refine CW.region ?_
          refine WP.s .n (O.mv rfl) ?_
          refine WP.s .n (O.add rfl rfl (c := ((k : Int) + 1)) (w64 (by omega))) ?_
          refine WP.s .n (O.asg rfl) ?_
          refine WP.nil ?_
          refine ST.obtold 0 rfl (OB.box_eq (y := (uE (gram b) (k + 1) i j)) (uE_succ _ k i j).symm) ?_
          exact QE.round2 (k + 1) p (by omega) (by omega) (Imp.cons rfl (Imp.cons rfl (Imp.cons rfl (Imp.cons rfl (Imp.cons rfl (Imp.cons rfl (Imp.cons rfl (Imp.cons rfl (Imp.consLe rfl (is_eq (y := (((k + 1) : Nat) : Int)) (by first | rfl | omega | assumption)) (Imp.cons rfl (Imp.cons rfl Imp.nil))))))))))) (OImp.refl _)
        · refine CW.skip ?_
          refine QE.next ?_
          refine CW.seq ?_
          refine CW.draw (Γ := [.fr (VP.ex (.pointer (some ⟨b3, 0, none⟩))), .fr (VP.ex vD), .fr ((kInt .i64).is (k : Int)), .fr ((kInt .i64).is ((k : Int) + 1)), .fr (VP.pel vD ((((k : Int) + 1)).toNat * 2)), .fr (kC.is (uD (gram b) (k + 1))), .fr (kC.is (uE (gram b) k i j)), .fr (kC.is ((uD (gram b) (k + 1)) * (uE (gram b) k i j))), .fr (VP.ex v), .fr ((kInt .i64).is (k : Int)), .fr (VP.pel v (k * 2)), .fr (kC.is (uE (gram b) k i k)), .fr (VP.ex v), .fr ((kInt .i64).is (k : Int)), .fr (VP.pel v (k * 2)), .fr (kC.is (uE (gram b) k j k)), .fr (kC.is ((uE (gram b) k i k) * (uE (gram b) k j k))), .fr (kC.is (((uD (gram b) (k + 1)) * (uE (gram b) k i j)) - ((uE (gram b) k i k) * (uE (gram b) k j k))))]) (lates := [false, false, false, false, false, false, false, false, false, false, false, false, false, false, false, false, false, false]) (by kernel_rfl) (Chk.of rfl (by kernel_rfl) rfl) (fun _ _ _ _ _ h => h) (fun q_ x_ h_ => ?_) (fun σ4 => ?_)
          · match q_, h_ with
            | 0, h_ => cases h_; exact Ob.f rfl .n fun N => (O.fa rfl fld93_0 rfl)
            | 1, h_ => cases h_; exact Ob.f rfl .n fun N => (OpOk.le (O.ld (p := kVal.is vD) rfl (mem_app N (mem_at 3 rfl)) (Lens.fst (Lens.id _)) ty27 rfl) (val_ex _))
            | 2, h_ => cases h_; exact Ob.f rfl .n fun N => (O.mv rfl)
            | 3, h_ => cases h_; exact Ob.f rfl .n fun N => (O.add rfl rfl (c := ((k : Int) + 1)) (w64 (by omega)))
            | 4, h_ => cases h_; exact Ob.f rfl .n fun N => (O.ixR (k := kC) (xs := (gDs (gram b) i)) (n := ((k : Int) + 1)) ((((k : Int) + 1)).toNat) rfl rfl (mem_app N (mem_at 4 rfl)) Try.underlying27 ty31 (by omega) (by first | omega | (simp only [gRow_len, gDs_len, gLs_len]; omega)))
            | 5, h_ => cases h_; exact Ob.f rfl .n fun N => (O.ldR (k := kC) (xs := (gDs (gram b) i)) ((((k : Int) + 1)).toNat) rfl (mem_app N (mem_at 4 rfl)) (Lens.id _) (ho := rfl) (y := (uD (gram b) (k + 1))) (gDs_at (by omega)) ty31 rfl)
            | 6, h_ => cases h_; exact Ob.f rfl .n fun N => (O.ld rfl (mem_app N (mem_at 0 rfl)) (Lens.id _) ty31 rfl)
            | 7, h_ => cases h_; exact Ob.f rfl .n fun N => (O.fn fn76 (evs.l rfl (kC_Z (by first | assumption | exact (hE k (by omega) i j (by omega) (by omega)).sm (by omega) | exact (hE k (by omega) k k (by omega) (by omega)).sm (by omega) | exact (hE k (by omega) i k (by omega) (by omega)).sm (by omega) | exact (hE k (by omega) j k (by omega) (by omega)).sm (by omega) | exact (hE i (by omega) i i (by omega) (by omega)).sm (by omega) | exact (hD k (by omega)).sm (by omega) | exact (((hE k (by omega) k k (by omega) (by omega)).mul (hE k (by omega) i j (by omega) (by omega))).sub ((hE k (by omega) i k (by omega) (by omega)).mul (hE k (by omega) j k (by omega) (by omega)))).sm (by omega) | exact ((hE k (by omega) k k (by omega) (by omega)).mul (hE k (by omega) i j (by omega) (by omega))).sm (by omega) | exact ((hE k (by omega) i k (by omega) (by omega)).mul (hE k (by omega) j k (by omega) (by omega))).sm (by omega))) (evs.l rfl (kC_Z (by first | assumption | exact (hE k (by omega) i j (by omega) (by omega)).sm (by omega) | exact (hE k (by omega) k k (by omega) (by omega)).sm (by omega) | exact (hE k (by omega) i k (by omega) (by omega)).sm (by omega) | exact (hE k (by omega) j k (by omega) (by omega)).sm (by omega) | exact (hE i (by omega) i i (by omega) (by omega)).sm (by omega) | exact (hD k (by omega)).sm (by omega) | exact (((hE k (by omega) k k (by omega) (by omega)).mul (hE k (by omega) i j (by omega) (by omega))).sub ((hE k (by omega) i k (by omega) (by omega)).mul (hE k (by omega) j k (by omega) (by omega)))).sm (by omega) | exact ((hE k (by omega) k k (by omega) (by omega)).mul (hE k (by omega) i j (by omega) (by omega))).sm (by omega) | exact ((hE k (by omega) i k (by omega) (by omega)).mul (hE k (by omega) j k (by omega) (by omega))).sm (by omega))) evs.nil)) (c_zint_Mul (uD (gram b) (k + 1)) (uE (gram b) k i j)))
            | 8, h_ => cases h_; exact Ob.f rfl .n fun N => (O.mv rfl)
            | 9, h_ => cases h_; exact Ob.f rfl .n fun N => (O.mv rfl)
            | 10, h_ => cases h_; exact Ob.f rfl .n fun N => (O.ixR (k := kC) (xs := (gRow (gram b) i j)) (n := (k : Int)) k rfl rfl (mem_app N (mem_at 1 rfl)) Try.underlying27 ty31 rfl (by first | omega | (simp only [gRow_len, gDs_len, gLs_len]; omega)))
            | 11, h_ => cases h_; exact Ob.f rfl .n fun N => (O.ldR (k := kC) (xs := (gRow (gram b) i j)) k rfl (mem_app N (mem_at 1 rfl)) (Lens.id _) (ho := rfl) (y := (uE (gram b) k i k)) (gRow_at (by omega)) ty31 rfl)
            | 12, h_ => cases h_; exact Ob.f rfl .n fun N => (O.mv rfl)
            | 13, h_ => cases h_; exact Ob.f rfl .n fun N => (O.mv rfl)
            | 14, h_ => cases h_; exact Ob.f rfl .n fun N => (O.ixR (k := kC) (xs := (gRow (gram b) i j)) (n := (k : Int)) k rfl rfl (mem_app N (mem_at 1 rfl)) Try.underlying27 ty31 rfl (by first | omega | (simp only [gRow_len, gDs_len, gLs_len]; omega)))
            | 15, h_ => cases h_; exact Ob.f rfl .n fun N => (O.ldR (k := kC) (xs := (gRow (gram b) i j)) k rfl (mem_app N (mem_at 1 rfl)) (Lens.id _) (ho := rfl) (y := (uE (gram b) k j k)) (by rw [show j = i by omega]; exact gRow_at (by omega)) ty31 rfl)
            | 16, h_ => cases h_; exact Ob.f rfl .n fun N => (O.fn fn76 (evs.l rfl (kC_Z (by first | assumption | exact (hE k (by omega) i j (by omega) (by omega)).sm (by omega) | exact (hE k (by omega) k k (by omega) (by omega)).sm (by omega) | exact (hE k (by omega) i k (by omega) (by omega)).sm (by omega) | exact (hE k (by omega) j k (by omega) (by omega)).sm (by omega) | exact (hE i (by omega) i i (by omega) (by omega)).sm (by omega) | exact (hD k (by omega)).sm (by omega) | exact (((hE k (by omega) k k (by omega) (by omega)).mul (hE k (by omega) i j (by omega) (by omega))).sub ((hE k (by omega) i k (by omega) (by omega)).mul (hE k (by omega) j k (by omega) (by omega)))).sm (by omega) | exact ((hE k (by omega) k k (by omega) (by omega)).mul (hE k (by omega) i j (by omega) (by omega))).sm (by omega) | exact ((hE k (by omega) i k (by omega) (by omega)).mul (hE k (by omega) j k (by omega) (by omega))).sm (by omega))) (evs.l rfl (kC_Z (by first | assumption | exact (hE k (by omega) i j (by omega) (by omega)).sm (by omega) | exact (hE k (by omega) k k (by omega) (by omega)).sm (by omega) | exact (hE k (by omega) i k (by omega) (by omega)).sm (by omega) | exact (hE k (by omega) j k (by omega) (by omega)).sm (by omega) | exact (hE i (by omega) i i (by omega) (by omega)).sm (by omega) | exact (hD k (by omega)).sm (by omega) | exact (((hE k (by omega) k k (by omega) (by omega)).mul (hE k (by omega) i j (by omega) (by omega))).sub ((hE k (by omega) i k (by omega) (by omega)).mul (hE k (by omega) j k (by omega) (by omega)))).sm (by omega) | exact ((hE k (by omega) k k (by omega) (by omega)).mul (hE k (by omega) i j (by omega) (by omega))).sm (by omega) | exact ((hE k (by omega) i k (by omega) (by omega)).mul (hE k (by omega) j k (by omega) (by omega))).sm (by omega))) evs.nil)) (c_zint_Mul (uE (gram b) k i k) (uE (gram b) k j k)))
            | 17, h_ => cases h_; exact Ob.f rfl .n fun N => (O.fn fn157 (evs.l rfl (kC_Z (by first | assumption | exact (hE k (by omega) i j (by omega) (by omega)).sm (by omega) | exact (hE k (by omega) k k (by omega) (by omega)).sm (by omega) | exact (hE k (by omega) i k (by omega) (by omega)).sm (by omega) | exact (hE k (by omega) j k (by omega) (by omega)).sm (by omega) | exact (hE i (by omega) i i (by omega) (by omega)).sm (by omega) | exact (hD k (by omega)).sm (by omega) | exact (((hE k (by omega) k k (by omega) (by omega)).mul (hE k (by omega) i j (by omega) (by omega))).sub ((hE k (by omega) i k (by omega) (by omega)).mul (hE k (by omega) j k (by omega) (by omega)))).sm (by omega) | exact ((hE k (by omega) k k (by omega) (by omega)).mul (hE k (by omega) i j (by omega) (by omega))).sm (by omega) | exact ((hE k (by omega) i k (by omega) (by omega)).mul (hE k (by omega) j k (by omega) (by omega))).sm (by omega))) (evs.l rfl (kC_Z (by first | assumption | exact (hE k (by omega) i j (by omega) (by omega)).sm (by omega) | exact (hE k (by omega) k k (by omega) (by omega)).sm (by omega) | exact (hE k (by omega) i k (by omega) (by omega)).sm (by omega) | exact (hE k (by omega) j k (by omega) (by omega)).sm (by omega) | exact (hE i (by omega) i i (by omega) (by omega)).sm (by omega) | exact (hD k (by omega)).sm (by omega) | exact (((hE k (by omega) k k (by omega) (by omega)).mul (hE k (by omega) i j (by omega) (by omega))).sub ((hE k (by omega) i k (by omega) (by omega)).mul (hE k (by omega) j k (by omega) (by omega)))).sm (by omega) | exact ((hE k (by omega) k k (by omega) (by omega)).mul (hE k (by omega) i j (by omega) (by omega))).sm (by omega) | exact ((hE k (by omega) i k (by omega) (by omega)).mul (hE k (by omega) j k (by omega) (by omega))).sm (by omega))) evs.nil)) (c_zint_Sub ((uD (gram b) (k + 1)) * (uE (gram b) k i j)) ((uE (gram b) k i k) * (uE (gram b) k j k))))
            | n_ + 18, h_ => simp at h_
          refine WP.t .n (O.stW (l := kC) (u := ((uD (gram b) (k + 1)) * (uE (gram b) k i j)) - ((uE (gram b) k i k) * (uE (gram b) k j k))) 0 rfl rfl rfl ty31 rfl (VP.le_refl _)) ?_
          refine WP.nil ?_
          refine QE.next ?_
          refine CW.draw (Γ := [.fr (kC.is (((uD (gram b) (k + 1)) * (uE (gram b) k i j)) - ((uE (gram b) k i k) * (uE (gram b) k j k)))), .fr (VP.ex (.pointer (some ⟨b3, 0, none⟩))), .fr (VP.ex vD), .fr ((kInt .i64).is (k : Int)), .fr (VP.pel vD (k * 2)), .fr (kC.is (uD (gram b) k)), .fr (VP.tup [kC.is ((((uD (gram b) (k + 1)) * (uE (gram b) k i j)) - ((uE (gram b) k i k) * (uE (gram b) k j k))).fdiv (uD (gram b) k)), kC.is (if (uD (gram b) k) = 0 then 0 else (((uD (gram b) (k + 1)) * (uE (gram b) k i j)) - ((uE (gram b) k i k) * (uE (gram b) k j k))).fmod (uD (gram b) k)), (kInt .i64).is (if (uD (gram b) k) = 0 then 11 else 0)]), .fr (VP.tup [kC.is ((((uD (gram b) (k + 1)) * (uE (gram b) k i j)) - ((uE (gram b) k i k) * (uE (gram b) k j k))).fdiv (uD (gram b) k)), kC.is (if (uD (gram b) k) = 0 then 0 else (((uD (gram b) (k + 1)) * (uE (gram b) k i j)) - ((uE (gram b) k i k) * (uE (gram b) k j k))).fmod (uD (gram b) k)), (kInt .i64).is (if (uD (gram b) k) = 0 then 11 else 0)]), .fr (kC.is ((((uD (gram b) (k + 1)) * (uE (gram b) k i j)) - ((uE (gram b) k i k) * (uE (gram b) k j k))).fdiv (uD (gram b) k))), .lt (kC.is (if (uD (gram b) k) = 0 then 0 else (((uD (gram b) (k + 1)) * (uE (gram b) k i j)) - ((uE (gram b) k i k) * (uE (gram b) k j k))).fmod (uD (gram b) k))), .lt ((kInt .i64).is (if (uD (gram b) k) = 0 then 11 else 0))]) (lates := [false, false, false, false, false, false, false, false, false, true, true]) (by kernel_rfl) (Chk.of rfl (by kernel_rfl) rfl) (fun _ _ _ _ _ h => h) (fun q_ x_ h_ => ?_) (fun σ5 => ?_)
          · match q_, h_ with
            | 0, h_ => cases h_; exact Ob.f rfl .n fun N => (O.ld rfl (mem_app N (mem_at 0 rfl)) (Lens.id _) ty31 rfl)
            | 1, h_ => cases h_; exact Ob.f rfl .n fun N => (O.fa rfl fld93_0 rfl)
            | 2, h_ => cases h_; exact Ob.f rfl .n fun N => (OpOk.le (O.ld (p := kVal.is vD) rfl (mem_app N (mem_at 3 rfl)) (Lens.fst (Lens.id _)) ty27 rfl) (val_ex _))
            | 3, h_ => cases h_; exact Ob.f rfl .n fun N => (O.mv rfl)
            | 4, h_ => cases h_; exact Ob.f rfl .n fun N => (O.ixR (k := kC) (xs := (gDs (gram b) i)) (n := (k : Int)) k rfl rfl (mem_app N (mem_at 4 rfl)) Try.underlying27 ty31 rfl (by first | omega | (simp only [gRow_len, gDs_len, gLs_len]; omega)))
            | 5, h_ => cases h_; exact Ob.f rfl .n fun N => (O.ldR (k := kC) (xs := (gDs (gram b) i)) k rfl (mem_app N (mem_at 4 rfl)) (Lens.id _) (ho := rfl) (y := (uD (gram b) k)) (gDs_at (by omega)) ty31 rfl)
            | 6, h_ => cases h_; exact Ob.f rfl .n fun N => (O.fn fn105 (evs.l rfl (kC_Z (by first | assumption | exact (hE k (by omega) i j (by omega) (by omega)).sm (by omega) | exact (hE k (by omega) k k (by omega) (by omega)).sm (by omega) | exact (hE k (by omega) i k (by omega) (by omega)).sm (by omega) | exact (hE k (by omega) j k (by omega) (by omega)).sm (by omega) | exact (hE i (by omega) i i (by omega) (by omega)).sm (by omega) | exact (hD k (by omega)).sm (by omega) | exact (((hE k (by omega) k k (by omega) (by omega)).mul (hE k (by omega) i j (by omega) (by omega))).sub ((hE k (by omega) i k (by omega) (by omega)).mul (hE k (by omega) j k (by omega) (by omega)))).sm (by omega) | exact ((hE k (by omega) k k (by omega) (by omega)).mul (hE k (by omega) i j (by omega) (by omega))).sm (by omega) | exact ((hE k (by omega) i k (by omega) (by omega)).mul (hE k (by omega) j k (by omega) (by omega))).sm (by omega))) (evs.l rfl (kC_Z (by first | assumption | exact (hE k (by omega) i j (by omega) (by omega)).sm (by omega) | exact (hE k (by omega) k k (by omega) (by omega)).sm (by omega) | exact (hE k (by omega) i k (by omega) (by omega)).sm (by omega) | exact (hE k (by omega) j k (by omega) (by omega)).sm (by omega) | exact (hE i (by omega) i i (by omega) (by omega)).sm (by omega) | exact (hD k (by omega)).sm (by omega) | exact (((hE k (by omega) k k (by omega) (by omega)).mul (hE k (by omega) i j (by omega) (by omega))).sub ((hE k (by omega) i k (by omega) (by omega)).mul (hE k (by omega) j k (by omega) (by omega)))).sm (by omega) | exact ((hE k (by omega) k k (by omega) (by omega)).mul (hE k (by omega) i j (by omega) (by omega))).sm (by omega) | exact ((hE k (by omega) i k (by omega) (by omega)).mul (hE k (by omega) j k (by omega) (by omega))).sm (by omega))) evs.nil)) (c_zint_Floor (((uD (gram b) (k + 1)) * (uE (gram b) k i j)) - ((uE (gram b) k i k) * (uE (gram b) k j k))) (uD (gram b) k)))
            | 7, h_ => cases h_; exact Ob.f rfl .n fun N => (O.mv rfl)
            | 8, h_ => cases h_; exact Ob.f rfl .n fun N => (O.ext rfl rfl)
            | 9, h_ => cases h_; exact Ob.l rfl .n (OV.ext rfl rfl)
            | 10, h_ => cases h_; exact Ob.l rfl .n (OV.ext rfl rfl)
            | n_ + 11, h_ => simp at h_
          refine WP.t .n (O.stW (l := kC) (u := (((uD (gram b) (k + 1)) * (uE (gram b) k i j)) - ((uE (gram b) k i k) * (uE (gram b) k j k))).fdiv (uD (gram b) k)) 0 rfl rfl rfl ty31 rfl (VP.le_refl _)) ?_
          refine WP.nil ?_
          refine QE.blkN ?_
          refine QE.next ?_
          refine CW.region ?_
          refine WP.s .n (O.mv rfl) ?_
          refine WP.s .n (O.add rfl rfl (c := ((k : Int) + 1)) (w64 (by omega))) ?_
          refine WP.s .n (O.asg rfl) ?_
          refine WP.nil ?_
          refine ST.obtold 0 rfl (OB.box_eq (y := (uE (gram b) (k + 1) i j)) (uE_succ _ k i j).symm) ?_
          exact QE.round2 (k + 1) p (by omega) (by omega) (Imp.cons rfl (Imp.cons rfl (Imp.cons rfl (Imp.cons rfl (Imp.cons rfl (Imp.cons rfl (Imp.cons rfl (Imp.cons rfl (Imp.consLe rfl (is_eq (y := (((k + 1) : Nat) : Int)) (by first | rfl | omega | assumption)) (Imp.cons rfl (Imp.cons rfl Imp.nil))))))))))) (OImp.refl _)
      · refine CW.exit ?_
        refine QE.thenE ?_
        refine QE.thenE ?_
        refine QE.blkH ?_
        refine QE.next ?_
        refine CW.region ?_
        refine WP.s .n (O.mv rfl) ?_
        refine WP.s .n (O.ld rfl (mem_at 0 rfl) (Lens.id _) ty31 rfl) ?_
        refine WP.s .n (O.bs Try.underlying27 el31_C (evl.c rfl evl.n) rfl (by decide)) ?_
        refine WP.ap 1 .n rfl rfl rfl (VP.le_refl _) Try.underlying27 el31_C (by simp only [gRow_len, gDs_len, gLs_len, List.length_cons, List.length_nil]; omega) fun v5 => ?_
        refine WP.s .n (O.asg rfl) ?_
        refine WP.nil ?_
        refine QE.blkN ?_
        refine QE.next ?_
        refine CW.region ?_
        refine WP.s .n (O.mv rfl) ?_
        refine WP.s .n (O.add rfl rfl (c := ((j : Int) + 1)) (w64 (by omega))) ?_
        refine WP.s .n (O.asg rfl) ?_
        refine WP.nil ?_
        refine ST.obtold 1 rfl (OB.row_eq (ys := (gRow (gram b) i (j + 1))) (by rw [show k = j by omega]; exact gRow_app (gram b) i j)) ?_
        exact QE.round2 (j + 1) v5 (by omega) (by omega) (Imp.cons rfl (Imp.cons rfl (Imp.cons rfl (Imp.cons rfl (Imp.cons rfl (Imp.cons rfl (Imp.consLe rfl (is_eq (y := (((j + 1) : Nat) : Int)) (by first | rfl | omega | assumption)) (Imp.cons rfl (Imp.cons rfl Imp.nil))))))))) (OImp.os (OS.skip (OS.keep (OS.keep (OS.keep (OS.keep (OS.keep OS.nil)))))))
    · refine CW.exit ?_
      refine QE.thenE ?_
      refine QE.thenE ?_
      refine QE.blkH ?_
      refine QE.next ?_
      refine CW.seq ?_
      refine CW.seq ?_
      refine ST.obtold 0 rfl (OB.row_eq (ys := (gRow (gram b) i (i + 1))) (by rw [show j = i + 1 by omega])) ?_
      have hE := uE_Sz hs hz hP
      have hUi := hU i (by omega)
      refine CW.region ?_
      refine WP.s .n (O.mv rfl) ?_
      refine WP.s .n (O.mv rfl) ?_
      refine WP.s .n (O.ixR (k := kC) (xs := (gRow (gram b) i (i + 1))) (n := (i : Int)) i rfl rfl (mem_at 0 rfl) Try.underlying27 ty31 rfl (by first | omega | (simp only [gRow_len, gDs_len, gLs_len]; omega))) ?_
      refine WP.s .n (O.ldR (k := kC) (xs := (gRow (gram b) i (i + 1))) i rfl (mem_at 0 rfl) (Lens.id _) (ho := rfl) (y := (uE (gram b) i i i)) (gRow_at (by omega)) ty31 rfl) ?_
      refine WP.s .n (O.fn fn80 (evs.l rfl (kC_Z (by first | assumption | exact (hE k (by omega) i j (by omega) (by omega)).sm (by omega) | exact (hE k (by omega) k k (by omega) (by omega)).sm (by omega) | exact (hE k (by omega) i k (by omega) (by omega)).sm (by omega) | exact (hE k (by omega) j k (by omega) (by omega)).sm (by omega) | exact (hE i (by omega) i i (by omega) (by omega)).sm (by omega) | exact (hD k (by omega)).sm (by omega) | exact (((hE k (by omega) k k (by omega) (by omega)).mul (hE k (by omega) i j (by omega) (by omega))).sub ((hE k (by omega) i k (by omega) (by omega)).mul (hE k (by omega) j k (by omega) (by omega)))).sm (by omega) | exact ((hE k (by omega) k k (by omega) (by omega)).mul (hE k (by omega) i j (by omega) (by omega))).sm (by omega) | exact ((hE k (by omega) i k (by omega) (by omega)).mul (hE k (by omega) j k (by omega) (by omega))).sm (by omega))) evs.nil) (c_zint_Sign (uE (gram b) i i i))) ?_
      refine WP.s .n (O.le rfl rfl) ?_
      refine WP.nil ?_
      refine QE.next ?_
      refine CW.condD rfl (fun h_t92 => ?_) (fun h_t92 => ?_)
      · refine CW.seq ?_
        refine CW.region ?_
        refine WP.s .n (O.bld lit93_pr_sl_C_sl_sl_C_ rfl evp.n (.nil _)) ?_
        refine WP.t .n (O.stW (l := (kPair (kSl kC) (kSl (kSl kC)))) (u := ([], [])) 4 rfl rfl rfl ty93 rfl (VP.le_refl _)) ?_
        refine WP.s .n (O.asg rfl) ?_
        refine WP.nil ?_
        refine QE.next ?_
        refine CW.ret ?_
        refine QE.thenR ?_
        refine QE.blkR ?_
        refine QE.thenR ?_
        refine QE.thenR ?_
        refine QE.blkR ?_
        refine QE.thenR ?_
        refine ST.obtold 4 rfl (OB.box_eq (y := (gsoV (gram b) b.length)) (gso_no (by omega) h_t92).2.symm) ?_
        refine ST.told 3 rfl (is_eq (y := (gOk (gram b) b.length)) (gso_no (by omega) h_t92).1.symm) ?_
        exact QE.done (.inl rfl) rfl (ResOk.c rfl (mem_at 4 rfl) ty93 (ResOk.t rfl ResOk.nil)) (OImp.sub (List.nil_sublist _)) ⟨rfl, rfl⟩
      · refine CW.skip ?_
        refine QE.next ?_
        refine CW.seq ?_
        refine CW.draw (Γ := [.fr (VP.ex (.pointer (some ⟨b3, 0, none⟩))), .fr (VP.ex vD), .fr (VP.ex v), .fr ((kInt .i64).is (i : Int)), .fr (VP.pel v (i * 2)), .fr (kC.is (uE (gram b) i i i)), .fr ((kSl kC).is [(uE (gram b) i i i)])]) (lates := [false, false, false, false, false, false, false]) (by kernel_rfl) (Chk.of rfl (by kernel_rfl) rfl) (fun _ _ _ _ _ h => h) (fun q_ x_ h_ => ?_) (fun σ6 => ?_)
        · match q_, h_ with
          | 0, h_ => cases h_; exact Ob.f rfl .n fun N => (O.fa rfl fld93_0 rfl)
          | 1, h_ => cases h_; exact Ob.f rfl .n fun N => (OpOk.le (O.ld (p := kVal.is vD) rfl (mem_app N (mem_at 2 rfl)) (Lens.fst (Lens.id _)) ty27 rfl) (val_ex _))
          | 2, h_ => cases h_; exact Ob.f rfl .n fun N => (O.mv rfl)
          | 3, h_ => cases h_; exact Ob.f rfl .n fun N => (O.mv rfl)
          | 4, h_ => cases h_; exact Ob.f rfl .n fun N => (O.ixR (k := kC) (xs := (gRow (gram b) i (i + 1))) (n := (i : Int)) i rfl rfl (mem_app N (mem_at 0 rfl)) Try.underlying27 ty31 rfl (by first | omega | (simp only [gRow_len, gDs_len, gLs_len]; omega)))
          | 5, h_ => cases h_; exact Ob.f rfl .n fun N => (O.ldR (k := kC) (xs := (gRow (gram b) i (i + 1))) i rfl (mem_app N (mem_at 0 rfl)) (Lens.id _) (ho := rfl) (y := (uE (gram b) i i i)) (gRow_at (by omega)) ty31 rfl)
          | 6, h_ => cases h_; exact Ob.f rfl .n fun N => (O.bs Try.underlying27 el31_C (evl.c rfl evl.n) rfl (by decide))
          | n_ + 7, h_ => simp at h_
        refine WP.ap 3 .n rfl rfl rfl (VP.le_refl _) Try.underlying27 el31_C (by simp only [gRow_len, gDs_len, gLs_len, List.length_cons, List.length_nil]; omega) fun v6 => ?_
        refine WP.s .n (O.fa rfl fld93_0 rfl) ?_
        refine ST.rowcell 3 rfl fun hcell_ => ?_
        refine WP.t .n (O.st 2 rfl rfl (Lens.fst (Lens.id _)) ty27 rfl (ex_val (by first | rfl | assumption))) ?_
        refine WP.nil ?_
        refine QE.next ?_
        refine ST.freeze 0 rfl (.keep (i := 0) rfl (.keep (i := 2) rfl (.keep (i := 3) rfl (.keep (i := 4) rfl (.keep (i := 5) rfl (.hit (i := 6) rfl (.keep (i := 7) rfl (.keep (i := 16) rfl (.keep (i := 17) rfl (.keep (i := 23) rfl (.keep (i := 24) rfl (.keep (i := 25) rfl (.hit (i := 87) rfl (.keep (i := 88) rfl (.keep (i := 89) rfl (.keep (i := 90) rfl (.keep (i := 91) rfl (.keep (i := 92) rfl (.keep (i := 94) rfl (.keep (i := 95) rfl (.hit (i := 96) rfl (.keep (i := 97) rfl (.keep (i := 98) rfl (.keep (i := 99) rfl (.keep (i := 100) rfl (.keep (i := 101) rfl (.keep (i := 102) rfl .nil))))))))))))))))))))))))))) ?_
        refine CW.draw (Γ := [.fr (VP.ex (.pointer (some ⟨b3, 1, none⟩))), .fr (VP.ex vL), .fr ((kSl kC).is (gRow (gram b) i (i + 1))), .fr ((kInt .i64).is (i : Int)), .fr ((kInt .i64).is (i : Int)), .fr ((kSl kC).is ((gRow (gram b) i (i + 1)).take i)), .fr ((kSl (kSl kC)).is [((gRow (gram b) i (i + 1)).take i)])]) (lates := [false, false, false, false, false, false, false]) (by kernel_rfl) (Chk.of rfl (by kernel_rfl) rfl) (fun _ _ _ _ _ h => h) (fun q_ x_ h_ => ?_) (fun σ7 => ?_)
        · match q_, h_ with
          | 0, h_ => cases h_; exact Ob.f rfl .n fun N => (O.fa rfl fld93_1 rfl)
          | 1, h_ => cases h_; exact Ob.f rfl .n fun N => (OpOk.le (O.ld (p := kVal.is vL) rfl (mem_app N (mem_at 1 rfl)) (Lens.snd (Lens.id _)) ty67 rfl) (val_ex _))
          | 2, h_ => cases h_; exact Ob.f rfl .n fun N => (O.mv rfl)
          | 3, h_ => cases h_; exact Ob.f rfl .n fun N => (O.mv rfl)
          | 4, h_ => cases h_; exact Ob.f rfl .n fun N => (O.mv rfl)
          | 5, h_ => cases h_; exact Ob.f rfl .n fun N => (O.sl3 i rfl rfl rfl Try.underlying27 ty31 rfl rfl (by first | omega | (simp only [gRow_len, gDs_len, gLs_len]; omega)))
          | 6, h_ => cases h_; exact Ob.f rfl .n fun N => (O.bs Try.underlying67 el27_sl_C (evl.c rfl evl.n) rfl (by decide))
          | n_ + 7, h_ => simp at h_
        refine WP.ap 0 .n rfl rfl rfl (VP.le_refl _) Try.underlying67 el27_sl_C (by simp only [gRow_len, gDs_len, gLs_len, List.length_cons, List.length_nil]; omega) fun v7 => ?_
        refine WP.s .n (O.fa rfl fld93_1 rfl) ?_
        refine ST.rowcell 0 rfl fun hcell_ => ?_
        refine WP.t .n (O.st 1 rfl rfl (Lens.snd (Lens.id _)) ty67 rfl (ex_val (by first | rfl | assumption))) ?_
        refine WP.nil ?_
        refine QE.blkN ?_
        refine QE.next ?_
        refine CW.region ?_
        refine WP.s .n (O.add rfl rfl (c := ((i : Int) + 1)) (w64 (by omega))) ?_
        refine WP.s .n (O.mv rfl) ?_
        refine WP.nil ?_
        refine ST.obtold 2 rfl (OB.row_eq (ys := (gDs (gram b) (i + 1))) (gDs_app (gram b) i)) ?_
        refine ST.obtold 0 rfl (OB.row_eq (ys := (gLs (gram b) (i + 1))) (by rw [gRow_take]; exact gLs_app (gram b) i)) ?_
        exact QE.round3 (i + 1) v6 v7 (by omega) ⟨by omega, posU_succ hP h_t92⟩ (Imp.cons rfl (Imp.cons rfl (Imp.cons rfl (Imp.cons rfl (Imp.cons rfl (Imp.consLe rfl (is_eq (y := (((i + 1) : Nat) : Int)) (by first | rfl | omega | assumption)) Imp.nil)))))) (OImp.refl _)
  · refine CW.exit ?_
    refine QE.thenE ?_
    refine QE.thenE ?_
    refine QE.blkH ?_
    refine QE.next ?_
    refine CW.seq ?_
    refine ST.freezeIn (k2 := (kPair (kSl kC) kVal)) ((gDs (gram b) i), vL) 2 1 rfl rfl (fun m_ cs_ h_ c_ => fz_fst m_ cs_ h_ c_) (.keep (i := 0) rfl (.keep (i := 2) rfl (.keep (i := 3) rfl (.keep (i := 4) rfl (.keep (i := 16) rfl (.keep (i := 17) rfl (.keep (i := 18) rfl .nil))))))) ?_
    refine ST.freezeIn (k2 := (kPair (kSl kC) (kSl (kSl kC)))) ((gDs (gram b) i), (gLs (gram b) i)) 0 0 rfl rfl (fun m_ cs_ h_ c_ => fz_snd m_ cs_ h_ c_) (.keep (i := 0) rfl (.keep (i := 2) rfl (.keep (i := 3) rfl (.keep (i := 4) rfl (.keep (i := 16) rfl (.keep (i := 17) rfl (.keep (i := 18) rfl .nil))))))) ?_
    have hib : i = b.length := by omega
    refine CW.region ?_
    refine WP.s .n (O.ld (p := (kPair (kSl kC) (kSl (kSl kC))).is ((gDs (gram b) i), (gLs (gram b) i))) rfl (mem_at 0 rfl) (Lens.id _) ty93 rfl) ?_
    refine WP.t .n (O.stW (l := (kPair (kSl kC) (kSl (kSl kC)))) (u := ((gDs (gram b) i), (gLs (gram b) i))) 1 rfl rfl rfl ty93 rfl (VP.le_refl _)) ?_
    refine WP.s .n (O.asg rfl) ?_
    refine WP.nil ?_
    refine QE.next ?_
    refine CW.ret ?_
    refine ST.obtold 1 rfl (OB.box_eq (y := (gsoV (gram b) b.length)) (by rw [hib]; rw [hib] at hP; exact (gso_yes hP).2.symm)) ?_
    refine ST.told 3 rfl (is_eq (y := (gOk (gram b) b.length)) (by rw [hib] at hP; exact (gso_yes hP).1.symm)) ?_
    exact QE.done (.inl rfl) rfl (ResOk.c rfl (mem_at 1 rfl) ty93 (ResOk.t rfl ResOk.nil)) (OImp.sub (List.nil_sublist _)) ⟨rfl, rfl⟩

end Fw


/- Plain facts: what rows may be; Gram-Schmidt data as fractions. -/
set_option linter.unusedVariables false
set_option linter.unusedSimpArgs false
set_option exponentiation.threshold 400
namespace Fw
open Go

section
variable {C : Ctx} {Q : Exit → Act → World → Prop} {ρ ρ' : Env} {L L' : List OB}
end

/-! ### Which rows may be -/
def bigN (b : List (List Int)) (bits : Bool) (i : Nat) : Bool := (decide ((12 : Int) < (b.length : Int)) || (bits && decide ((256 : Int) < mbits b))) || (b.take i).any (fun r => decide ((12 : Int) < (r.length : Int)))
theorem bigN_T {b bits} (h : (12 : Int) < (b.length : Int)) : true = bigN b bits 0 := by simp [bigN]; left; omega
theorem bigN_bT {b} (h : ¬ (12 : Int) < (b.length : Int)) : decide ((256 : Int) < mbits b) = bigN b true 0 := by simp [bigN]; omega
theorem bigN_bF {b} (h : ¬ (12 : Int) < (b.length : Int)) : false = bigN b false 0 := by simp [bigN]; omega
theorem bigN_succ {b bits i} (h : i < b.length) : bigN b bits (i + 1) = (bigN b bits i || decide ((12 : Int) < ((b.getD i []).length : Int))) := by
  unfold bigN
  rw [← take_app (d := []) h, List.any_append]
  simp [Bool.or_assoc]
def gshape (b : List (List Int)) (bits : Bool) : Int := if bigN b bits b.length = true then 40 else if b.length = 0 then 41 else shE b
theorem gshape_big {b bits} (h : bigN b bits b.length = true) : gshape b bits = 40 := if_pos h
theorem gshape_nil {b bits} (h : ¬ bigN b bits b.length = true) (h0 : b.length = 0) : gshape b bits = 41 := by unfold gshape; rw [if_neg h, if_pos h0]
theorem gshape_else {b bits} (h : ¬ bigN b bits b.length = true) (h0 : ¬ b.length = 0) : gshape b bits = shE b := by unfold gshape; rw [if_neg h, if_neg h0]
theorem bigN_no {b bits} (h : ¬ bigN b bits b.length = true) : b.length ≤ 12 ∧ (bits = true → mbits b ≤ 256) ∧ ∀ i, (b.getD i []).length ≤ 12 := by
  unfold bigN at h
  simp only [List.take_length, Bool.or_eq_true, Bool.and_eq_true, decide_eq_true_eq, List.any_eq_true, not_or, not_and, not_exists] at h
  obtain ⟨⟨h1, h2⟩, h3⟩ := h
  refine ⟨by omega, fun hb => by have := h2 hb; omega, fun i => ?_⟩
  by_cases hi : i < b.length
  · have := h3 (b.getD i []) (by rw [gde _ [] hi]; exact List.getElem_mem hi); omega
  · have e : b.getD i [] = [] := by simp [List.getD, Nat.le_of_not_lt hi]
    rw [e]; simp
theorem gshape_ok {b bits} (h : gshape b bits = 0) : ¬ bigN b bits b.length = true ∧ 0 < b.length ∧ rect b = true := by
  by_cases h1 : bigN b bits b.length = true
  · rw [gshape_big h1] at h; exact absurd h (by decide)
  · by_cases h2 : b.length = 0
    · rw [gshape_nil h1 h2] at h; exact absurd h (by decide)
    · rw [gshape_else h1 h2] at h; exact ⟨h1, by omega, rect_of_shE (by omega)⟩
theorem vbN_le {c : Int} {v : List Int} : ∀ {n : Int}, n ≤ c → (∀ x ∈ v, (bitlen x.natAbs : Int) ≤ c) → vbN n v ≤ c := by
  induction v with
  | nil => intro n h _; exact h
  | cons x v ih =>
    intro n h hx
    refine ih (n := vbF n x) ?_ (fun y hy => hx y (List.mem_cons_of_mem _ hy))
    have := hx x (by simp)
    unfold vbF
    omega
theorem mb_ge : ∀ (b : List (List Int)) (n : Int), n ≤ b.foldl vbN n
  | [], n => Int.le_refl n
  | r :: b, n => Int.le_trans (vbN_ge n r) (mb_ge b (vbN n r))
theorem mb_mem : ∀ {b : List (List Int)} {n : Int} {r : List Int} {x : Int}, r ∈ b → x ∈ r → (bitlen x.natAbs : Int) ≤ b.foldl vbN n
  | s :: b, n, r, x, h, hx => by
    rcases List.mem_cons.1 h with e | h
    · subst e; exact Int.le_trans (vbN_mem hx) (mb_ge b _)
    · exact mb_mem (b := b) (n := vbN n s) h hx
theorem mb_le {c : Int} : ∀ {b : List (List Int)} {n : Int}, n ≤ c → (∀ r ∈ b, ∀ x ∈ r, (bitlen x.natAbs : Int) ≤ c) → b.foldl vbN n ≤ c
  | [], n, h, _ => h
  | r :: b, n, h, hx => mb_le (b := b) (vbN_le h (hx r (by simp))) (fun s hs => hx s (List.mem_cons_of_mem _ hs))
theorem getD_mem {α : Type} {l : List α} {i : Nat} (d : α) (h : i < l.length) : l.getD i d ∈ l := by rw [gde l d h]; exact List.getElem_mem h
theorem mem_getD {α : Type} {l : List α} {x : α} (d : α) (h : x ∈ l) : ∃ i, i < l.length ∧ l.getD i d = x := by
  obtain ⟨i, hi, rfl⟩ := List.getElem_of_mem h
  exact ⟨i, hi, gde l d hi⟩
theorem mbits_Sz {b : List (List Int)} {c : Nat} (h : mbits b ≤ c) : SzM c b := by
  intro i k
  by_cases hi : i < b.length
  · by_cases hk : k < (b.getD i []).length
    · have h1 := mb_mem (n := 0) (getD_mem [] hi) (getD_mem 0 hk)
      have h2 := lt_bitlen ((b.getD i []).getD k 0).natAbs
      exact Nat.lt_of_lt_of_le h2 (Nat.pow_le_pow_right (by decide) (by have h3 : mbits b = b.foldl vbN 0 := rfl; omega))
    · have e : (b.getD i []).getD k 0 = 0 := by rw [List.getD_eq_getElem?_getD, List.getElem?_eq_none (by omega)]; rfl
      rw [e]; exact Sz.zero _
  · have e : b.getD i [] = [] := by simp [List.getD, Nat.le_of_not_lt hi]
    rw [e]; exact Sz.zero _
/-- rows as far as they were looked at -/
def rowsTo (b : List (List Int)) (bits : Bool) (i : Nat) : Prop := ∀ j, j < i → (b.getD j []).length ≤ 12 ∧ (bits = true → ∀ k, k < (b.getD j []).length → (bitlen ((b.getD j []).getD k 0).natAbs : Int) ≤ 256)
theorem rowsTo_end {b bits} (h0 : ¬ (12 : Int) < (b.length : Int)) (h : rowsTo b bits b.length) : ¬ bigN b bits b.length = true := by
  unfold bigN
  simp only [List.take_length, Bool.or_eq_true, Bool.and_eq_true, decide_eq_true_eq, List.any_eq_true, not_or, not_and, not_exists]
  refine ⟨⟨h0, fun hb => ?_⟩, fun r hr => ?_⟩
  · have : mbits b ≤ 256 := mb_le (by decide) fun r hr x hx => by
      obtain ⟨j, hj, rfl⟩ := mem_getD [] hr
      obtain ⟨k, hk, rfl⟩ := mem_getD 0 hx
      exact (h j hj).2 hb k hk
    omega
  · obtain ⟨j, hj, rfl⟩ := mem_getD [] hr
    have := (h j hj).1; omega
theorem big_row {b bits i} (hi : i < b.length) (h : (12 : Int) < ((b.getD i []).length : Int)) : bigN b bits b.length = true := by
  unfold bigN
  simp only [List.take_length, Bool.or_eq_true, decide_eq_true_eq, List.any_eq_true]
  exact .inr ⟨_, getD_mem [] hi, h⟩
theorem big_len {b bits} (h : (12 : Int) < (b.length : Int)) : bigN b bits b.length = true := by
  unfold bigN
  simp only [Bool.or_eq_true, decide_eq_true_eq]
  exact .inl (.inl h)

/-! ### The errors of a basis -/
def gsoE (b : List (List Int)) (bits : Bool) : Int := if gshape b bits ≠ 0 then gshape b bits else if gOk (gram b) b.length = true then 0 else 50
def gsoR (b : List (List Int)) (bits : Bool) : List Int × List (List Int) := if gshape b bits ≠ 0 then ([], []) else gsoV (gram b) b.length
theorem gsoE_1 {b bits} (h : gshape b bits ≠ 0) : gsoE b bits = gshape b bits ∧ gsoR b bits = ([], []) := ⟨if_pos h, if_pos h⟩
theorem gsoE_2 {b bits} (h : ¬ gshape b bits ≠ 0) (h2 : gOk (gram b) b.length = false) : gsoE b bits = 50 ∧ gsoR b bits = ([], []) := by
  have h3 : ¬ gOk (gram b) b.length = true := by simp [h2]
  refine ⟨by unfold gsoE; rw [if_neg h, if_neg h3], ?_⟩
  unfold gsoR gsoV; rw [if_neg h, if_neg h3]
theorem gsoE_3 {b bits} (h : ¬ gshape b bits ≠ 0) (h2 : gOk (gram b) b.length = true) : gsoE b bits = 0 ∧ gsoR b bits = gsoV (gram b) b.length := by
  refine ⟨by unfold gsoE; rw [if_neg h, if_pos h2], ?_⟩
  unfold gsoR; rw [if_neg h]

/-! ### Gram-Schmidt data as fractions -/
end Fw


/- Which rows may be; the data of rows: what the functions answer. -/
set_option linter.unusedVariables false
set_option linter.unusedSimpArgs false
set_option exponentiation.threshold 400
namespace Fw
open Go Go.Proofs

set_option maxRecDepth 20000 in
set_option maxHeartbeats 1000000 in
theorem c_gso_shaped (b : List (List Int)) (bits : Bool) : Fn Try.prog 183 [(kSl (kSl kZ)).is b, kBool.is bits] ((kInt .i64).is (gshape b bits)) := by
  refine Con.enter Try.func183 rfl rfl fun m w => ?_
  refine ST.fact (i := 0) rfl sl_len fun hB => ?_
  refine CW.seq ?_
  refine CW.region ?_
  refine WP.s .n (O.asg rfl) ?_
  refine WP.nil ?_
  refine QE.next ?_
  refine CW.seq ?_
  refine CW.region ?_
  refine WP.s .n (O.mv rfl) ?_
  refine WP.s .n (O.lenS rfl Try.underlying67) ?_
  refine WP.s .n (O.gt rfl rfl) ?_
  refine WP.s .n (O.mv rfl) ?_
  refine WP.splitD 14 rfl (fun h_t14 => ?_) (fun h_t14 => ?_)
  · refine WP.ku (b := true) rfl rfl ?_
    refine WP.ku (b := true) rfl rfl ?_
    refine WP.kk rfl rfl ?_
    refine WP.kk rfl rfl ?_
    refine WP.kk rfl rfl ?_
    refine WP.ku (b := true) rfl rfl ?_
    refine WP.s .n (O.pickT rfl rfl) ?_
    refine WP.s .n (O.asg rfl) ?_
    refine WP.nil ?_
    refine QE.next ?_
    refine CW.seq ?_
    refine CW.seq ?_
    refine CW.region ?_
    refine WP.s .n (O.mv rfl) ?_
    refine WP.s .n (O.lenS rfl Try.underlying67) ?_
    refine WP.s .n (O.mv rfl) ?_
    refine WP.nil ?_
    refine QE.next ?_
    refine CW.block ?_
    refine ST.told 5 rfl (is_eq (y := (bigN b bits 0)) (bigN_T h_t14)) ?_
    refine CW.loop (fun (i : Nat) => i ≤ b.length) (fun (i : Nat) => [(0, (kSl (kSl kZ)).is b), (5, kBool.is (bigN b bits i)), (22, (kSl (kSl kZ)).is b), (23, (kInt .i64).is (b.length : Int)), (24, (kInt .i64).is (i : Int))]) (fun (i : Nat) => []) (fun (i : Nat) => b.length - i) 0 (by omega) (Imp.cons rfl (Imp.cons rfl (Imp.cons rfl (Imp.cons rfl (Imp.consLe rfl (is_eq (y := (0 : Int)) (by first | rfl | omega | assumption)) Imp.nil))))) (OImp.refl _) ?_
    intro i hi
    refine CW.seq ?_
    refine CW.region ?_
    refine WP.s .n (O.lt rfl rfl) ?_
    refine WP.nil ?_
    refine QE.next ?_
    refine CW.seq ?_
    refine CW.condD rfl (fun h_t25 => ?_) (fun h_t25 => ?_)
    · refine CW.skip ?_
      refine QE.next ?_
      refine CW.seq ?_
      refine CW.block ?_
      refine CW.seq ?_
      refine CW.region ?_
      refine WP.s .n (O.ix i rfl rfl Try.underlying67 ty27 rfl (v := (b.getD i [])) (gd [] (by omega))) ?_
      refine WP.s .n (O.ldP rfl ty27) ?_
      refine WP.s .n (O.asg rfl) ?_
      refine WP.nil ?_
      refine QE.next ?_
      refine CW.region ?_
      refine WP.s .n (O.mv rfl) ?_
      refine WP.s .n (O.mv rfl) ?_
      refine WP.split 29 rfl (fun h_t29 => ?_) (fun h_t29 => ?_)
      · refine WP.ku (b := true) rfl rfl ?_
        refine WP.ku (b := true) rfl rfl ?_
        refine WP.ku (b := true) rfl rfl ?_
        refine WP.s .n (O.pickT rfl rfl) ?_
        refine WP.s .n (O.asg rfl) ?_
        refine WP.nil ?_
        refine QE.blkN ?_
        refine QE.next ?_
        refine CW.region ?_
        refine WP.s .n (O.add rfl rfl (c := ((i : Int) + 1)) (w64 (by omega))) ?_
        refine WP.s .n (O.mv rfl) ?_
        refine WP.nil ?_
        refine ST.told 5 rfl (is_eq (y := (bigN b bits (i + 1))) (by rw [bigN_succ (by omega)]; simp [h_t29])) ?_
        exact QE.round (i + 1) (by omega) (by omega) (Imp.cons rfl (Imp.cons rfl (Imp.cons rfl (Imp.cons rfl (Imp.consLe rfl (is_eq (y := (((i + 1) : Nat) : Int)) (by first | rfl | omega | assumption)) Imp.nil))))) (OImp.refl _)
      · refine WP.s (.g rfl rfl) (O.mv rfl) ?_
        refine WP.s (.g rfl rfl) (O.lenS rfl Try.underlying27) ?_
        refine WP.s (.g rfl rfl) (O.gt rfl rfl) ?_
        refine WP.s .n (O.pickF rfl rfl) ?_
        refine WP.s .n (O.asg rfl) ?_
        refine WP.nil ?_
        refine QE.blkN ?_
        refine QE.next ?_
        refine CW.region ?_
        refine WP.s .n (O.add rfl rfl (c := ((i : Int) + 1)) (w64 (by omega))) ?_
        refine WP.s .n (O.mv rfl) ?_
        refine WP.nil ?_
        refine ST.told 5 rfl (is_eq (y := (bigN b bits (i + 1))) (by rw [bigN_succ (by omega)]; simp [h_t29])) ?_
        exact QE.round (i + 1) (by omega) (by omega) (Imp.cons rfl (Imp.cons rfl (Imp.cons rfl (Imp.cons rfl (Imp.consLe rfl (is_eq (y := (((i + 1) : Nat) : Int)) (by first | rfl | omega | assumption)) Imp.nil))))) (OImp.refl _)
    · refine CW.exit ?_
      refine QE.thenE ?_
      refine QE.thenE ?_
      refine QE.blkH ?_
      refine QE.next ?_
      refine CW.seq ?_
      refine CW.seq ?_
      refine CW.region ?_
      refine WP.s .n (O.mv rfl) ?_
      refine WP.nil ?_
      refine QE.next ?_
      refine CW.cond rfl (fun h_t35 => ?_) (fun h_t35 => ?_)
      · refine CW.seq ?_
        refine CW.region ?_
        refine WP.s .n (O.asg rfl) ?_
        refine WP.nil ?_
        refine QE.next ?_
        refine CW.ret ?_
        refine QE.thenR ?_
        have hib : i = b.length := by omega
        subst hib
        refine ST.told 4 rfl (is_eq (y := (gshape b bits)) (by first | exact (gshape_big (by assumption)).symm | exact (gshape_nil (by simp [h_t35]) (by omega)).symm | exact (gshape_else (by simp [h_t35]) (by omega)).symm)) ?_
        exact QE.done (.inl rfl) rfl (ResOk.t rfl ResOk.nil) (OImp.sub (List.nil_sublist _)) ⟨rfl, rfl⟩
      · refine CW.skip ?_
        refine QE.next ?_
        refine CW.seq ?_
        refine CW.seq ?_
        refine CW.region ?_
        refine WP.s .n (O.mv rfl) ?_
        refine WP.s .n (O.lenS rfl Try.underlying67) ?_
        refine WP.s .n (O.eq rfl rfl) ?_
        refine WP.nil ?_
        refine QE.next ?_
        refine CW.condD rfl (fun h_t38 => ?_) (fun h_t38 => ?_)
        · refine CW.seq ?_
          refine CW.region ?_
          refine WP.s .n (O.asg rfl) ?_
          refine WP.nil ?_
          refine QE.next ?_
          refine CW.ret ?_
          refine QE.thenR ?_
          have hib : i = b.length := by omega
          subst hib
          refine ST.told 4 rfl (is_eq (y := (gshape b bits)) (by first | exact (gshape_big (by assumption)).symm | exact (gshape_nil (by simp [h_t35]) (by omega)).symm | exact (gshape_else (by simp [h_t35]) (by omega)).symm)) ?_
          exact QE.done (.inl rfl) rfl (ResOk.t rfl ResOk.nil) (OImp.sub (List.nil_sublist _)) ⟨rfl, rfl⟩
        · refine CW.skip ?_
          refine QE.next ?_
          refine CW.seq ?_
          refine CW.region ?_
          refine WP.s .n (O.mv rfl) ?_
          refine WP.s .n (O.fn fn135 (evs.c rfl evs.nil) (c_mat_Shape b)) ?_
          refine WP.s .n (O.mv rfl) ?_
          refine WP.s .n (O.ext rfl rfl) ?_
          refine WP.s .n (O.ext rfl rfl) ?_
          refine WP.s .n (O.ext rfl rfl) ?_
          refine WP.s .n (O.asg rfl) ?_
          refine WP.s .n (O.asg rfl) ?_
          refine WP.s .n (O.asg rfl) ?_
          refine WP.nil ?_
          refine QE.next ?_
          refine CW.seq ?_
          refine CW.region ?_
          refine WP.s .n (O.mv rfl) ?_
          refine WP.s .n (O.asg rfl) ?_
          refine WP.nil ?_
          refine QE.next ?_
          refine CW.ret ?_
          have hib : i = b.length := by omega
          subst hib
          refine ST.told 4 rfl (is_eq (y := (gshape b bits)) (by first | exact (gshape_big (by assumption)).symm | exact (gshape_nil (by simp [h_t35]) (by omega)).symm | exact (gshape_else (by simp [h_t35]) (by omega)).symm)) ?_
          exact QE.done (.inl rfl) rfl (ResOk.t rfl ResOk.nil) (OImp.sub (List.nil_sublist _)) ⟨rfl, rfl⟩
  · refine WP.s (.g rfl rfl) (O.mv rfl) ?_
    refine WP.s (.g rfl rfl) (O.mv rfl) ?_
    refine WP.split 16 rfl (fun h_t16 => ?_) (fun h_t16 => ?_)
    · refine WP.s (.g rfl rfl) (O.mv rfl) ?_
      refine WP.s (.g rfl rfl) (O.fn fn174 (evs.c rfl evs.nil) (c_mat_Bits b)) ?_
      refine WP.s (.g rfl rfl) (O.gt rfl rfl) ?_
      refine WP.s (.g rfl rfl) (O.pickT rfl rfl) ?_
      refine WP.s .n (O.pickF rfl rfl) ?_
      refine WP.s .n (O.asg rfl) ?_
      refine WP.nil ?_
      refine QE.next ?_
      refine CW.seq ?_
      refine CW.seq ?_
      refine CW.region ?_
      refine WP.s .n (O.mv rfl) ?_
      refine WP.s .n (O.lenS rfl Try.underlying67) ?_
      refine WP.s .n (O.mv rfl) ?_
      refine WP.nil ?_
      refine QE.next ?_
      refine CW.block ?_
      have hbt : bits = true := by first | assumption | exact h_t16
      refine ST.told 5 rfl (is_eq (y := (bigN b bits 0)) (by rw [hbt]; exact bigN_bT h_t14)) ?_
      refine CW.loop (fun (i : Nat) => i ≤ b.length) (fun (i : Nat) => [(0, (kSl (kSl kZ)).is b), (5, kBool.is (bigN b bits i)), (22, (kSl (kSl kZ)).is b), (23, (kInt .i64).is (b.length : Int)), (24, (kInt .i64).is (i : Int))]) (fun (i : Nat) => []) (fun (i : Nat) => b.length - i) 0 (by omega) (Imp.cons rfl (Imp.cons rfl (Imp.cons rfl (Imp.cons rfl (Imp.consLe rfl (is_eq (y := (0 : Int)) (by first | rfl | omega | assumption)) Imp.nil))))) (OImp.refl _) ?_
      intro i hi
      refine CW.seq ?_
      refine CW.region ?_
      refine WP.s .n (O.lt rfl rfl) ?_
      refine WP.nil ?_
      refine QE.next ?_
      refine CW.seq ?_
      refine CW.condD rfl (fun h_t25 => ?_) (fun h_t25 => ?_)
      · refine CW.skip ?_
        refine QE.next ?_
        refine CW.seq ?_
        refine CW.block ?_
        refine CW.seq ?_
        refine CW.region ?_
        refine WP.s .n (O.ix i rfl rfl Try.underlying67 ty27 rfl (v := (b.getD i [])) (gd [] (by omega))) ?_
        refine WP.s .n (O.ldP rfl ty27) ?_
        refine WP.s .n (O.asg rfl) ?_
        refine WP.nil ?_
        refine QE.next ?_
        refine CW.region ?_
        refine WP.s .n (O.mv rfl) ?_
        refine WP.s .n (O.mv rfl) ?_
        refine WP.split 29 rfl (fun h_t29 => ?_) (fun h_t29 => ?_)
        · refine WP.ku (b := true) rfl rfl ?_
          refine WP.ku (b := true) rfl rfl ?_
          refine WP.ku (b := true) rfl rfl ?_
          refine WP.s .n (O.pickT rfl rfl) ?_
          refine WP.s .n (O.asg rfl) ?_
          refine WP.nil ?_
          refine QE.blkN ?_
          refine QE.next ?_
          refine CW.region ?_
          refine WP.s .n (O.add rfl rfl (c := ((i : Int) + 1)) (w64 (by omega))) ?_
          refine WP.s .n (O.mv rfl) ?_
          refine WP.nil ?_
          refine ST.told 5 rfl (is_eq (y := (bigN b bits (i + 1))) (by rw [bigN_succ (by omega)]; simp [h_t29])) ?_
          exact QE.round (i + 1) (by omega) (by omega) (Imp.cons rfl (Imp.cons rfl (Imp.cons rfl (Imp.cons rfl (Imp.consLe rfl (is_eq (y := (((i + 1) : Nat) : Int)) (by first | rfl | omega | assumption)) Imp.nil))))) (OImp.refl _)
        · refine WP.s (.g rfl rfl) (O.mv rfl) ?_
          refine WP.s (.g rfl rfl) (O.lenS rfl Try.underlying27) ?_
          refine WP.s (.g rfl rfl) (O.gt rfl rfl) ?_
          refine WP.s .n (O.pickF rfl rfl) ?_
          refine WP.s .n (O.asg rfl) ?_
          refine WP.nil ?_
          refine QE.blkN ?_
          refine QE.next ?_
          refine CW.region ?_
          refine WP.s .n (O.add rfl rfl (c := ((i : Int) + 1)) (w64 (by omega))) ?_
          refine WP.s .n (O.mv rfl) ?_
          refine WP.nil ?_
          refine ST.told 5 rfl (is_eq (y := (bigN b bits (i + 1))) (by rw [bigN_succ (by omega)]; simp [h_t29])) ?_
          exact QE.round (i + 1) (by omega) (by omega) (Imp.cons rfl (Imp.cons rfl (Imp.cons rfl (Imp.cons rfl (Imp.consLe rfl (is_eq (y := (((i + 1) : Nat) : Int)) (by first | rfl | omega | assumption)) Imp.nil))))) (OImp.refl _)
      · refine CW.exit ?_
        refine QE.thenE ?_
        refine QE.thenE ?_
        refine QE.blkH ?_
        refine QE.next ?_
        refine CW.seq ?_
        refine CW.seq ?_
        refine CW.region ?_
        refine WP.s .n (O.mv rfl) ?_
        refine WP.nil ?_
        refine QE.next ?_
        refine CW.cond rfl (fun h_t35 => ?_) (fun h_t35 => ?_)
        · refine CW.seq ?_
          refine CW.region ?_
          refine WP.s .n (O.asg rfl) ?_
          refine WP.nil ?_
          refine QE.next ?_
          refine CW.ret ?_
          refine QE.thenR ?_
          have hib : i = b.length := by omega
          subst hib
          refine ST.told 4 rfl (is_eq (y := (gshape b bits)) (by first | exact (gshape_big (by assumption)).symm | exact (gshape_nil (by simp [h_t35]) (by omega)).symm | exact (gshape_else (by simp [h_t35]) (by omega)).symm)) ?_
          exact QE.done (.inl rfl) rfl (ResOk.t rfl ResOk.nil) (OImp.sub (List.nil_sublist _)) ⟨rfl, rfl⟩
        · refine CW.skip ?_
          refine QE.next ?_
          refine CW.seq ?_
          refine CW.seq ?_
          refine CW.region ?_
          refine WP.s .n (O.mv rfl) ?_
          refine WP.s .n (O.lenS rfl Try.underlying67) ?_
          refine WP.s .n (O.eq rfl rfl) ?_
          refine WP.nil ?_
          refine QE.next ?_
          refine CW.condD rfl (fun h_t38 => ?_) (fun h_t38 => ?_)
          · refine CW.seq ?_
            refine CW.region ?_
            refine WP.s .n (O.asg rfl) ?_
            refine WP.nil ?_
            refine QE.next ?_
            refine CW.ret ?_
            refine QE.thenR ?_
            have hib : i = b.length := by omega
            subst hib
            refine ST.told 4 rfl (is_eq (y := (gshape b bits)) (by first | exact (gshape_big (by assumption)).symm | exact (gshape_nil (by simp [h_t35]) (by omega)).symm | exact (gshape_else (by simp [h_t35]) (by omega)).symm)) ?_
            exact QE.done (.inl rfl) rfl (ResOk.t rfl ResOk.nil) (OImp.sub (List.nil_sublist _)) ⟨rfl, rfl⟩
          · refine CW.skip ?_
            refine QE.next ?_
            refine CW.seq ?_
            refine CW.region ?_
            refine WP.s .n (O.mv rfl) ?_
            refine WP.s .n (O.fn fn135 (evs.c rfl evs.nil) (c_mat_Shape b)) ?_
            refine WP.s .n (O.mv rfl) ?_
            refine WP.s .n (O.ext rfl rfl) ?_
            refine WP.s .n (O.ext rfl rfl) ?_
            refine WP.s .n (O.ext rfl rfl) ?_
            refine WP.s .n (O.asg rfl) ?_
            refine WP.s .n (O.asg rfl) ?_
            refine WP.s .n (O.asg rfl) ?_
            refine WP.nil ?_
            refine QE.next ?_
            refine CW.seq ?_
            refine CW.region ?_
            refine WP.s .n (O.mv rfl) ?_
            refine WP.s .n (O.asg rfl) ?_
            refine WP.nil ?_
            refine QE.next ?_
            refine CW.ret ?_
            have hib : i = b.length := by omega
            subst hib
            refine ST.told 4 rfl (is_eq (y := (gshape b bits)) (by first | exact (gshape_big (by assumption)).symm | exact (gshape_nil (by simp [h_t35]) (by omega)).symm | exact (gshape_else (by simp [h_t35]) (by omega)).symm)) ?_
            exact QE.done (.inl rfl) rfl (ResOk.t rfl ResOk.nil) (OImp.sub (List.nil_sublist _)) ⟨rfl, rfl⟩
    · refine WP.ku (b := false) rfl rfl ?_
      refine WP.ku (b := false) rfl rfl ?_
      refine WP.ku (b := false) rfl rfl ?_
      refine WP.s (.g rfl rfl) (O.pickF rfl rfl) ?_
      refine WP.s .n (O.pickF rfl rfl) ?_
      refine WP.s .n (O.asg rfl) ?_
      refine WP.nil ?_
      refine QE.next ?_
      refine CW.seq ?_
      refine CW.seq ?_
      refine CW.region ?_
      refine WP.s .n (O.mv rfl) ?_
      refine WP.s .n (O.lenS rfl Try.underlying67) ?_
      refine WP.s .n (O.mv rfl) ?_
      refine WP.nil ?_
      refine QE.next ?_
      refine CW.block ?_
      have hbt : bits = false := by first | assumption | exact h_t16
      refine ST.told 5 rfl (is_eq (y := (bigN b bits 0)) (by rw [hbt]; exact bigN_bF h_t14)) ?_
      refine CW.loop (fun (i : Nat) => i ≤ b.length) (fun (i : Nat) => [(0, (kSl (kSl kZ)).is b), (5, kBool.is (bigN b bits i)), (22, (kSl (kSl kZ)).is b), (23, (kInt .i64).is (b.length : Int)), (24, (kInt .i64).is (i : Int))]) (fun (i : Nat) => []) (fun (i : Nat) => b.length - i) 0 (by omega) (Imp.cons rfl (Imp.cons rfl (Imp.cons rfl (Imp.cons rfl (Imp.consLe rfl (is_eq (y := (0 : Int)) (by first | rfl | omega | assumption)) Imp.nil))))) (OImp.refl _) ?_
      intro i hi
      refine CW.seq ?_
      refine CW.region ?_
      refine WP.s .n (O.lt rfl rfl) ?_
      refine WP.nil ?_
      refine QE.next ?_
      refine CW.seq ?_
      refine CW.condD rfl (fun h_t25 => ?_) (fun h_t25 => ?_)
      · refine CW.skip ?_
        refine QE.next ?_
        refine CW.seq ?_
        refine CW.block ?_
        refine CW.seq ?_
        refine CW.region ?_
        refine WP.s .n (O.ix i rfl rfl Try.underlying67 ty27 rfl (v := (b.getD i [])) (gd [] (by omega))) ?_
        refine WP.s .n (O.ldP rfl ty27) ?_
        refine WP.s .n (O.asg rfl) ?_
        refine WP.nil ?_
        refine QE.next ?_
        refine CW.region ?_
        refine WP.s .n (O.mv rfl) ?_
        refine WP.s .n (O.mv rfl) ?_
        refine WP.split 29 rfl (fun h_t29 => ?_) (fun h_t29 => ?_)
        · refine WP.ku (b := true) rfl rfl ?_
          refine WP.ku (b := true) rfl rfl ?_
          refine WP.ku (b := true) rfl rfl ?_
          refine WP.s .n (O.pickT rfl rfl) ?_
          refine WP.s .n (O.asg rfl) ?_
          refine WP.nil ?_
          refine QE.blkN ?_
          refine QE.next ?_
          refine CW.region ?_
          refine WP.s .n (O.add rfl rfl (c := ((i : Int) + 1)) (w64 (by omega))) ?_
          refine WP.s .n (O.mv rfl) ?_
          refine WP.nil ?_
          refine ST.told 5 rfl (is_eq (y := (bigN b bits (i + 1))) (by rw [bigN_succ (by omega)]; simp [h_t29])) ?_
          exact QE.round (i + 1) (by omega) (by omega) (Imp.cons rfl (Imp.cons rfl (Imp.cons rfl (Imp.cons rfl (Imp.consLe rfl (is_eq (y := (((i + 1) : Nat) : Int)) (by first | rfl | omega | assumption)) Imp.nil))))) (OImp.refl _)
        · refine WP.s (.g rfl rfl) (O.mv rfl) ?_
          refine WP.s (.g rfl rfl) (O.lenS rfl Try.underlying27) ?_
          refine WP.s (.g rfl rfl) (O.gt rfl rfl) ?_
          refine WP.s .n (O.pickF rfl rfl) ?_
          refine WP.s .n (O.asg rfl) ?_
          refine WP.nil ?_
          refine QE.blkN ?_
          refine QE.next ?_
          refine CW.region ?_
          refine WP.s .n (O.add rfl rfl (c := ((i : Int) + 1)) (w64 (by omega))) ?_
          refine WP.s .n (O.mv rfl) ?_
          refine WP.nil ?_
          refine ST.told 5 rfl (is_eq (y := (bigN b bits (i + 1))) (by rw [bigN_succ (by omega)]; simp [h_t29])) ?_
          exact QE.round (i + 1) (by omega) (by omega) (Imp.cons rfl (Imp.cons rfl (Imp.cons rfl (Imp.cons rfl (Imp.consLe rfl (is_eq (y := (((i + 1) : Nat) : Int)) (by first | rfl | omega | assumption)) Imp.nil))))) (OImp.refl _)
      · refine CW.exit ?_
        refine QE.thenE ?_
        refine QE.thenE ?_
        refine QE.blkH ?_
        refine QE.next ?_
        refine CW.seq ?_
        refine CW.seq ?_
        refine CW.region ?_
        refine WP.s .n (O.mv rfl) ?_
        refine WP.nil ?_
        refine QE.next ?_
        refine CW.cond rfl (fun h_t35 => ?_) (fun h_t35 => ?_)
        · refine CW.seq ?_
          refine CW.region ?_
          refine WP.s .n (O.asg rfl) ?_
          refine WP.nil ?_
          refine QE.next ?_
          refine CW.ret ?_
          refine QE.thenR ?_
          have hib : i = b.length := by omega
          subst hib
          refine ST.told 4 rfl (is_eq (y := (gshape b bits)) (by first | exact (gshape_big (by assumption)).symm | exact (gshape_nil (by simp [h_t35]) (by omega)).symm | exact (gshape_else (by simp [h_t35]) (by omega)).symm)) ?_
          exact QE.done (.inl rfl) rfl (ResOk.t rfl ResOk.nil) (OImp.sub (List.nil_sublist _)) ⟨rfl, rfl⟩
        · refine CW.skip ?_
          refine QE.next ?_
          refine CW.seq ?_
          refine CW.seq ?_
          refine CW.region ?_
          refine WP.s .n (O.mv rfl) ?_
          refine WP.s .n (O.lenS rfl Try.underlying67) ?_
          refine WP.s .n (O.eq rfl rfl) ?_
          refine WP.nil ?_
          refine QE.next ?_
          refine CW.condD rfl (fun h_t38 => ?_) (fun h_t38 => ?_)
          · refine CW.seq ?_
            refine CW.region ?_
            refine WP.s .n (O.asg rfl) ?_
            refine WP.nil ?_
            refine QE.next ?_
            refine CW.ret ?_
            refine QE.thenR ?_
            have hib : i = b.length := by omega
            subst hib
            refine ST.told 4 rfl (is_eq (y := (gshape b bits)) (by first | exact (gshape_big (by assumption)).symm | exact (gshape_nil (by simp [h_t35]) (by omega)).symm | exact (gshape_else (by simp [h_t35]) (by omega)).symm)) ?_
            exact QE.done (.inl rfl) rfl (ResOk.t rfl ResOk.nil) (OImp.sub (List.nil_sublist _)) ⟨rfl, rfl⟩
          · refine CW.skip ?_
            refine QE.next ?_
            refine CW.seq ?_
            refine CW.region ?_
            refine WP.s .n (O.mv rfl) ?_
            refine WP.s .n (O.fn fn135 (evs.c rfl evs.nil) (c_mat_Shape b)) ?_
            refine WP.s .n (O.mv rfl) ?_
            refine WP.s .n (O.ext rfl rfl) ?_
            refine WP.s .n (O.ext rfl rfl) ?_
            refine WP.s .n (O.ext rfl rfl) ?_
            refine WP.s .n (O.asg rfl) ?_
            refine WP.s .n (O.asg rfl) ?_
            refine WP.s .n (O.asg rfl) ?_
            refine WP.nil ?_
            refine QE.next ?_
            refine CW.seq ?_
            refine CW.region ?_
            refine WP.s .n (O.mv rfl) ?_
            refine WP.s .n (O.asg rfl) ?_
            refine WP.nil ?_
            refine QE.next ?_
            refine CW.ret ?_
            have hib : i = b.length := by omega
            subst hib
            refine ST.told 4 rfl (is_eq (y := (gshape b bits)) (by first | exact (gshape_big (by assumption)).symm | exact (gshape_nil (by simp [h_t35]) (by omega)).symm | exact (gshape_else (by simp [h_t35]) (by omega)).symm)) ?_
            exact QE.done (.inl rfl) rfl (ResOk.t rfl ResOk.nil) (OImp.sub (List.nil_sublist _)) ⟨rfl, rfl⟩

set_option maxRecDepth 20000 in
set_option maxHeartbeats 1000000 in
theorem c_gso_of (n : Nat) (b : List (List Int)) (bits : Bool) (hb : gshape b bits = 0 → SzM n b) (hn : n ≤ 4194304) : Fn Try.prog 134 [(kSl (kSl kZ)).is b, kBool.is bits] (VP.tup [(kPair (kSl kC) (kSl (kSl kC))).is (gsoR b bits), (kInt .i64).is (gsoE b bits)]) := by
  refine Con.enter Try.func134 rfl rfl fun m w => ?_
  refine CW.seq ?_
  refine CW.region ?_
  refine WP.al .n z93_pr_sl_C_sl_sl_C_ fun b1 => ?_
  refine WP.s .n (O.asg rfl) ?_
  refine WP.nil ?_
  refine QE.next ?_
  refine CW.seq ?_
  refine CW.seq ?_
  refine CW.region ?_
  refine WP.s .n (O.mv rfl) ?_
  refine WP.s .n (O.mv rfl) ?_
  refine WP.s .n (O.fn fn183 (evs.c rfl (evs.c rfl evs.nil)) (c_gso_shaped b bits)) ?_
  refine WP.s .n (O.asg rfl) ?_
  refine WP.nil ?_
  refine QE.next ?_
  refine CW.seq ?_
  refine CW.region ?_
  refine WP.s .n (O.mv rfl) ?_
  refine WP.s .n (O.ne rfl rfl) ?_
  refine WP.nil ?_
  refine QE.next ?_
  refine CW.condD rfl (fun h_t13 => ?_) (fun h_t13 => ?_)
  · refine CW.seq ?_
    refine CW.region ?_
    refine WP.s .n (O.bld lit93_pr_sl_C_sl_sl_C_ rfl evp.n (.nil _)) ?_
    refine WP.s .n (O.mv rfl) ?_
    refine WP.t .n (O.stW (l := (kPair (kSl kC) (kSl (kSl kC)))) (u := ([], [])) 0 rfl rfl rfl ty93 rfl (VP.le_refl _)) ?_
    refine WP.s .n (O.asg rfl) ?_
    refine WP.nil ?_
    refine QE.next ?_
    refine CW.ret ?_
    refine QE.thenR ?_
    refine ST.obtold 0 rfl (OB.box_eq (y := (gsoR b bits)) (gsoE_1 (by omega)).2.symm) ?_
    refine ST.told 5 rfl (is_eq (y := (gsoE b bits)) (gsoE_1 (by omega)).1.symm) ?_
    exact QE.done (.inl rfl) rfl (ResOk.c rfl (mem_at 0 rfl) ty93 (ResOk.t rfl ResOk.nil)) (OImp.sub (List.nil_sublist _)) ⟨rfl, rfl⟩
  · refine CW.skip ?_
    refine QE.next ?_
    refine CW.seq ?_
    have hok := gshape_ok (show gshape b bits = 0 by omega)
    have hno := bigN_no hok.1
    have hr := rectL hok.2.2
    refine CW.region ?_
    refine WP.s .n (O.mv rfl) ?_
    refine WP.s .n (O.fn fn184 (evs.c rfl evs.nil) (c_gso_built n b (by first | assumption | omega | exact hb (by omega) | exact hno.1 | exact hno.2.2 0) (by first | assumption | omega | exact hb (by omega) | exact hno.1 | exact hno.2.2 0) (by first | assumption | omega | exact hb (by omega) | exact hno.1 | exact hno.2.2 0) (by first | assumption | omega | exact hb (by omega) | exact hno.1 | exact hno.2.2 0) (by first | assumption | omega | exact hb (by omega) | exact hno.1 | exact hno.2.2 0))) ?_
    refine WP.s .n (O.mv rfl) ?_
    refine WP.s .n (O.ext rfl rfl) ?_
    refine WP.s .n (O.ext rfl rfl) ?_
    refine WP.al .n z93_pr_sl_C_sl_sl_C_ fun b2 => ?_
    refine WP.t .n (O.stW (l := (kPair (kSl kC) (kSl (kSl kC)))) (u := gsoV (gram b) b.length) 0 rfl rfl rfl ty93 rfl (VP.le_refl _)) ?_
    refine WP.s .n (O.asg rfl) ?_
    refine WP.nil ?_
    refine QE.next ?_
    refine CW.seq ?_
    refine CW.seq ?_
    refine CW.region ?_
    refine WP.s .n (O.mv rfl) ?_
    refine WP.s .n (O.not rfl) ?_
    refine WP.nil ?_
    refine QE.next ?_
    refine CW.cond rfl (fun h_t22 => ?_) (fun h_t22 => ?_)
    · refine CW.seq ?_
      refine CW.region ?_
      refine WP.s .n (O.bld lit93_pr_sl_C_sl_sl_C_ rfl evp.n (.nil _)) ?_
      refine WP.t .n (O.stW (l := (kPair (kSl kC) (kSl (kSl kC)))) (u := ([], [])) 1 rfl rfl rfl ty93 rfl (VP.le_refl _)) ?_
      refine WP.s .n (O.asg rfl) ?_
      refine WP.nil ?_
      refine QE.next ?_
      refine CW.ret ?_
      refine QE.thenR ?_
      have hk : gOk (gram b) b.length = false := by simpa using h_t22
      refine ST.obtold 1 rfl (OB.box_eq (y := (gsoR b bits)) (gsoE_2 (by omega) hk).2.symm) ?_
      refine ST.told 5 rfl (is_eq (y := (gsoE b bits)) (gsoE_2 (by omega) hk).1.symm) ?_
      exact QE.done (.inl rfl) rfl (ResOk.c rfl (mem_at 1 rfl) ty93 (ResOk.t rfl ResOk.nil)) (OImp.sub (List.nil_sublist _)) ⟨rfl, rfl⟩
    · refine CW.skip ?_
      refine QE.next ?_
      refine CW.seq ?_
      refine CW.region ?_
      refine WP.s .n (O.ld rfl (mem_at 0 rfl) (Lens.id _) ty93 rfl) ?_
      refine WP.t .n (O.stW (l := (kPair (kSl kC) (kSl (kSl kC)))) (u := gsoV (gram b) b.length) 1 rfl rfl rfl ty93 rfl (VP.le_refl _)) ?_
      refine WP.s .n (O.asg rfl) ?_
      refine WP.nil ?_
      refine QE.next ?_
      refine CW.ret ?_
      have hk : gOk (gram b) b.length = true := by simpa using h_t22
      refine ST.obtold 1 rfl (OB.box_eq (y := (gsoR b bits)) (gsoE_3 (by omega) hk).2.symm) ?_
      refine ST.told 5 rfl (is_eq (y := (gsoE b bits)) (gsoE_3 (by omega) hk).1.symm) ?_
      exact QE.done (.inl rfl) rfl (ResOk.c rfl (mem_at 1 rfl) ty93 (ResOk.t rfl ResOk.nil)) (OImp.sub (List.nil_sublist _)) ⟨rfl, rfl⟩

end Fw


/- Gram-Schmidt data of the document. -/
set_option linter.unusedVariables false
set_option linter.unusedSimpArgs false
set_option exponentiation.threshold 400
namespace Fw
open Go Go.Proofs

end Fw


/- Plain facts: whether an answer on a shortest vector belongs together. -/
set_option linter.unusedVariables false
set_option linter.unusedSimpArgs false
set_option exponentiation.threshold 400
namespace Fw
open Go

theorem gsoE_ok {b bits} (h : gsoE b bits = 0) : gshape b bits = 0 ∧ PosU (gram b) b.length := by
  unfold gsoE at h
  by_cases h1 : gshape b bits ≠ 0
  · rw [if_pos h1] at h; exact absurd h h1
  · rw [if_neg h1] at h
    by_cases h2 : gOk (gram b) b.length = true
    · exact ⟨by omega, gOk_iff.1 h2⟩
    · rw [if_neg h2] at h; exact absurd h (by decide)
structure Basis (b : List (List Int)) : Prop where
  z : SzM 256 b
  n : b.length ≤ 12
  n0 : 0 < b.length
  r : RectL b
  rb : rect b = true
  c : ∀ i, (b.getD i []).length ≤ 12
  p : PosU (gram b) b.length
theorem basis_of {b} (h : gsoE b true = 0) : Basis b := by
  obtain ⟨h1, h2⟩ := gsoE_ok h
  obtain ⟨h3, h4, h5⟩ := gshape_ok h1
  obtain ⟨h6, h7, h8⟩ := bigN_no h3
  exact ⟨mbits_Sz (h7 rfl), h6, h4, rectL h5, h5, h8, h2⟩
theorem SzM.up {n m b} (h : SzM n b) (hm : n ≤ m) : SzM m b := fun i k => (h i k).up hm
theorem SzL.up {n m u} (h : SzL n u) (hm : n ≤ m) : SzL m u := fun k => (h k).up hm
theorem SzL.nil (n) : SzL n [] := fun k => by rw [List.getD_nil]; exact Sz.zero _
theorem combA_Sz {n m x b} (hx : SzL n x) (hb : SzM m b) : SzL (n + m + b.length) (combA x b) := by
  unfold combA
  split
  · intro k
    by_cases hk : k < (b.getD 0 []).length
    · rw [combV_get hk]; exact combN_Sz hx hb k _
    · rw [List.getD_eq_getElem?_getD, List.getElem?_eq_none (by rw [combV_len]; omega)]; exact Sz.zero _
  · exact SzL.nil _
theorem combA_len (x b) : (combA x b).length ≤ (b.getD 0 []).length := by
  unfold combA
  split
  · rw [combV_len]; exact Nat.le_refl _
  · simp
theorem SzL.sm {m u} (h : SzL m u) (hm : m ≤ 549755813888) : ∀ x ∈ u, Sm x := fun x hx => by
  obtain ⟨i, hi, rfl⟩ := mem_getD 0 hx
  exact (h i).sm hm
theorem sgn0 {x y : Int} : (x - y).sign = 0 ↔ x = y := by rw [Int.sign_eq_zero_iff_zero]; omega
theorem bel_C {n b X} (hZ : Basis b) (hX : SzL n X) (m : Nat) (hm : n + 268 ≤ m) : SzL m (combA X b) := (combA_Sz hX hZ.z).up (by have := hZ.n; omega)
end Fw


/- Own memory: what the helpers of the statements on layer 16 answer. -/
set_option linter.unusedVariables false
set_option linter.unusedSimpArgs false
set_option exponentiation.threshold 70
namespace Fw
open Go Go.Proofs

end Fw


/- ShortChecks: what the functions answer. -/
set_option linter.unusedVariables false
set_option linter.unusedSimpArgs false
set_option exponentiation.threshold 400
namespace Fw
open Go Go.Proofs

end Fw


/- Plain facts: forms by their matrices: which may be, their data, their values. -/
set_option linter.unusedVariables false
set_option linter.unusedSimpArgs false
set_option exponentiation.threshold 400
namespace Fw
open Go

def matF (a : List (List Int)) : Nat → Nat → Int := fun i j => (a.getD i []).getD j 0
def sqN (a : List (List Int)) (i : Nat) : Bool := (a.take i).all (fun r => decide ((r.length : Int) = (a.length : Int)))
def symB (a : List (List Int)) : Bool := (List.range a.length).all (fun i => (List.range i).all (fun k => decide (matF a i k = matF a k i)))
def qshape (a : List (List Int)) : Int := if bigN a true a.length = true then 40 else if a.length = 0 then 41 else if sqN a a.length = true then (if symB a = true then 0 else 220) else 8
theorem sqN_iff {a} : sqN a a.length = true ↔ ∀ i, i < a.length → (a.getD i []).length = a.length := by
  unfold sqN
  rw [List.take_length, List.all_eq_true]
  constructor
  · intro h i hi; have := of_decide_eq_true (h _ (getD_mem [] hi)); omega
  · intro h r hr; obtain ⟨i, hi, rfl⟩ := mem_getD [] hr; have := h i hi; simp only [decide_eq_true_eq]; omega
theorem symB_iff {a} : symB a = true ↔ ∀ i, i < a.length → ∀ k, k < i → matF a i k = matF a k i := by
  simp [symB]
theorem mbits_row {a : List (List Int)} {i} (hi : i < a.length) : mbits [a.getD i []] ≤ mbits a := by
  have h0 : (0 : Int) ≤ mbits a := mb_ge a 0
  show vbN 0 (a.getD i []) ≤ mbits a
  exact vbN_le h0 fun x hx => mb_mem (n := 0) (getD_mem [] hi) hx
theorem big_bits {a : List (List Int)} {i} (hi : i < a.length) (h : (256 : Int) < mbits [a.getD i []]) : bigN a true a.length = true := by
  have := mbits_row hi
  unfold bigN
  simp only [List.take_length, Bool.or_eq_true, Bool.and_eq_true, decide_eq_true_eq, List.any_eq_true]
  exact .inl (.inr ⟨trivial, by omega⟩)
theorem rowsTo_next {a : List (List Int)} {i} (h : rowsTo a true i) (h1 : ¬ (12 : Int) < ((a.getD i []).length : Int)) (h2 : ¬ (256 : Int) < mbits [a.getD i []]) : rowsTo a true (i + 1) := by
  intro j hj
  by_cases e : j = i
  · subst e
    refine ⟨by omega, fun _ k hk => ?_⟩
    have h3 : (bitlen ((a.getD j []).getD k 0).natAbs : Int) ≤ vbN 0 (a.getD j []) := vbN_mem (getD_mem 0 hk)
    have h4 : mbits [a.getD j []] = vbN 0 (a.getD j []) := rfl
    omega
  · exact h j (by omega)
theorem qshape_1 {a} (h : bigN a true a.length = true) : qshape a = 40 := if_pos h
theorem qshape_2 {a} (h : ¬ bigN a true a.length = true) (h2 : a.length = 0) : qshape a = 41 := by unfold qshape; rw [if_neg h, if_pos h2]
theorem qshape_3 {a} (h : ¬ bigN a true a.length = true) (h2 : ¬ a.length = 0) (h3 : ¬ sqN a a.length = true) : qshape a = 8 := by unfold qshape; rw [if_neg h, if_neg h2, if_neg h3]
theorem qshape_4 {a} (h : ¬ bigN a true a.length = true) (h2 : ¬ a.length = 0) (h3 : sqN a a.length = true) (h4 : ¬ symB a = true) : qshape a = 220 := by unfold qshape; rw [if_neg h, if_neg h2, if_pos h3, if_neg h4]
theorem qshape_5 {a} (h : ¬ bigN a true a.length = true) (h2 : ¬ a.length = 0) (h3 : sqN a a.length = true) (h4 : symB a = true) : qshape a = 0 := by unfold qshape; rw [if_neg h, if_neg h2, if_pos h3, if_pos h4]
theorem not_sq {a : List (List Int)} {i} (hi : i < a.length) (h : ((a.getD i []).length : Int) ≠ (a.length : Int)) : ¬ sqN a a.length = true := fun e => h (by rw [sqN_iff.1 e i hi])
theorem not_sym {a : List (List Int)} {i k} (hi : i < a.length) (hk : k < i) (h : (matF a i k - matF a k i).sign ≠ 0) : ¬ symB a = true := fun e => h (sgn0.2 (symB_iff.1 e i hi k hk))
/-- a matrix that is looked at as a form -/
structure Sqm (a : List (List Int)) : Prop where
  z : SzM 256 a
  n : a.length ≤ 12
  n0 : 0 < a.length
  q : ∀ i, i < a.length → (a.getD i []).length = a.length
  s : SymG (matF a)
theorem matF_out {a : List (List Int)} (h : ∀ i, i < a.length → (a.getD i []).length = a.length) {i j} (hij : ¬ (i < a.length ∧ j < a.length)) : matF a i j = 0 := by
  unfold matF
  by_cases hi : i < a.length
  · rw [List.getD_eq_getElem?_getD, List.getElem?_eq_none (by rw [h i hi]; omega)]; rfl
  · have e : a.getD i [] = [] := by rw [List.getD_eq_getElem?_getD, List.getElem?_eq_none (by omega)]; rfl
    rw [e]; rfl
theorem matF_sym {a : List (List Int)} (h : ∀ i, i < a.length → (a.getD i []).length = a.length) (hs : ∀ i, i < a.length → ∀ k, k < i → matF a i k = matF a k i) : SymG (matF a) := by
  intro i j
  by_cases hij : i < a.length ∧ j < a.length
  · rcases Nat.lt_trichotomy i j with h1 | h1 | h1
    · exact (hs j hij.2 i h1).symm
    · rw [h1]
    · exact hs i hij.1 j h1
  · rw [matF_out h hij, matF_out h (fun e => hij ⟨e.2, e.1⟩)]
theorem sqm_of {a} (h : qshape a = 0) : Sqm a := by
  by_cases h1 : bigN a true a.length = true
  · rw [qshape_1 h1] at h; exact absurd h (by decide)
  · by_cases h2 : a.length = 0
    · rw [qshape_2 h1 h2] at h; exact absurd h (by decide)
    · by_cases h3 : sqN a a.length = true
      · by_cases h4 : symB a = true
        · obtain ⟨b1, b2, b3⟩ := bigN_no h1
          exact ⟨mbits_Sz (b2 rfl), b1, by omega, sqN_iff.1 h3, matF_sym (sqN_iff.1 h3) (symB_iff.1 h4)⟩
        · rw [qshape_4 h1 h2 h3 h4] at h; exact absurd h (by decide)
      · rw [qshape_3 h1 h2 h3] at h; exact absurd h (by decide)
theorem matF_Sz {n a} (h : SzM n a) (i j) : Sz n (matF a i j) := h i j
def quadE (a : List (List Int)) : Int := if qshape a ≠ 0 then qshape a else if gOk (matF a) a.length = true then 0 else 221
def quadR (a : List (List Int)) : List Int × List (List Int) := if quadE a ≠ 0 then ([], []) else (gDs (matF a) a.length, gLs (matF a) a.length)
theorem quadE_1 {a} (h : qshape a ≠ 0) : quadE a = qshape a := if_pos h
theorem quadE_2 {a} (h : ¬ qshape a ≠ 0) (h2 : gOk (matF a) a.length = false) : quadE a = 221 := by
  unfold quadE; rw [if_neg h, if_neg (by simp [h2])]
theorem quadE_3 {a} (h : ¬ qshape a ≠ 0) (h2 : gOk (matF a) a.length = true) : quadE a = 0 := by
  unfold quadE; rw [if_neg h, if_pos h2]
theorem quad_ok {a} (h : quadE a = 0) : Sqm a ∧ PosU (matF a) a.length := by
  unfold quadE at h
  by_cases h1 : qshape a ≠ 0
  · rw [if_pos h1] at h; exact absurd h h1
  · rw [if_neg h1] at h
    by_cases h2 : gOk (matF a) a.length = true
    · exact ⟨sqm_of (by omega), gOk_iff.1 h2⟩
    · rw [if_neg h2] at h; exact absurd h (by decide)
theorem quadR_ok {a} (h : quadE a = 0) : gsoV (matF a) a.length = quadR a := by
  unfold quadR gsoV
  rw [if_neg (show ¬ quadE a ≠ 0 by omega), if_pos (gOk_iff.2 (quad_ok h).2)]
theorem sqm_rect {a} (h : Sqm a) : RectL a := fun i hi => by rw [h.q i hi, h.q 0 h.n0]
theorem sqm_rb {a} (h : Sqm a) : rect a = true := rect_iff.2 (sqm_rect h)
/-- the value at x -/
def qval (a : List (List Int)) (x : List Int) : Int := dotV (combV x a) x
def qvalE (a : List (List Int)) (x : List Int) : Int := if quadE a ≠ 0 then quadE a else if x.length = a.length then 0 else 8
def qvalV (a : List (List Int)) (x : List Int) : Int := if quadE a ≠ 0 then 0 else if x.length = a.length then qval a x else 0
theorem combV_Sz {n m x b} (hx : SzL n x) (hb : SzM m b) : SzL (n + m + b.length) (combV x b) := by
  intro k
  by_cases hk : k < (b.getD 0 []).length
  · rw [combV_get hk]; exact combN_Sz hx hb k _
  · rw [List.getD_eq_getElem?_getD, List.getElem?_eq_none (by rw [combV_len]; omega)]; exact Sz.zero _
end Fw


/- Plain facts: Gauss's steps on binary forms. -/
set_option linter.unusedVariables false
set_option linter.unusedSimpArgs false
set_option exponentiation.threshold 400
namespace Fw
open Go

def posF (A B C : Int) : Prop := 0 < A ∧ B * B < 4 * (A * C)
instance (A B C : Int) : Decidable (posF A B C) := by unfold posF; infer_instance
def kF (A B : Int) : Int := (A - B).fdiv (A + A)
def sB (A B : Int) : Int := B + (A * kF A B + A * kF A B)
def sC (A B C : Int) : Int := (A * kF A B + B) * kF A B + C
def redF (A B C : Int) : Prop := A < C ∨ (A = C ∧ 0 ≤ B)
instance (A B C : Int) : Decidable (redF A B C) := by unfold redF; infer_instance
def gFlag (A B : Int) : Nat := if 0 ≤ B ∧ B ≤ A then 0 else 1
theorem sq_nn (x : Int) : 0 ≤ x * x := by
  rcases Int.le_total 0 x with h | h
  · exact Int.mul_nonneg h h
  · exact Int.mul_nonneg_of_nonpos_of_nonpos h h
theorem kF_rng {A B : Int} (hA : 0 < A) : A * kF A B + A * kF A B ≤ A - B ∧ A - B < A * kF A B + A * kF A B + (A + A) := by
  have h1 := Int.fmod_nonneg_of_pos (A - B) (show 0 < A + A by omega)
  have h2 := Int.fmod_lt_of_pos (A - B) (show 0 < A + A by omega)
  have h3 := Int.mul_fdiv_add_fmod (A - B) (A + A)
  have h4 : (A + A) * (A - B).fdiv (A + A) = A * kF A B + A * kF A B := by unfold kF; rw [Int.add_mul]
  omega
theorem sB_rng {A B : Int} (hA : 0 < A) : -A < sB A B ∧ sB A B ≤ A := by
  have := kF_rng (B := B) hA
  unfold sB; omega
theorem disc_s (A B C : Int) : sB A B * sB A B - 4 * (A * sC A B C) = B * B - 4 * (A * C) := by
  unfold sB sC
  generalize kF A B = k
  grind
theorem pos_s {A B C : Int} (h : posF A B C) : sB A B * sB A B < 4 * (A * sC A B C) ∧ 0 < sC A B C := by
  have h1 := disc_s A B C
  have h2 : sB A B * sB A B < 4 * (A * sC A B C) := by have := h.2; omega
  refine ⟨h2, ?_⟩
  have h3 := sq_nn (sB A B)
  rcases Int.lt_or_le 0 (sC A B C) with h4 | h4
  · exact h4
  · have := Int.mul_nonpos_of_nonneg_of_nonpos (Int.le_of_lt h.1) h4
    omega
theorem kF_0 {A B : Int} (hA : 0 < A) (h : 0 ≤ B ∧ B ≤ A) : kF A B = 0 := by
  unfold kF
  rw [Int.fdiv_eq_ediv_of_nonneg _ (by omega)]
  exact Int.ediv_eq_zero_of_lt (by omega) (by omega)
theorem g_dec {A B C : Int} (h : posF A B C ∧ ¬ redF A (sB A B) (sC A B C)) : 2 * (sC A B C).toNat + gFlag (sC A B C) (-(sB A B)) < 2 * A.toNat + gFlag A B := by
  obtain ⟨hp, hr⟩ := h
  obtain ⟨h1, h2⟩ := pos_s hp
  have hA := hp.1
  have h3 := sB_rng (B := B) hA
  unfold redF at hr
  by_cases hc : sC A B C < A
  · have h4 : gFlag (sC A B C) (-(sB A B)) ≤ 1 := by unfold gFlag; split <;> omega
    omega
  · have h5 : A = sC A B C := by omega
    have h6 : sB A B < 0 := by omega
    have h7 : gFlag (sC A B C) (-(sB A B)) = 0 := by unfold gFlag; rw [if_pos (by omega)]
    have h8 : gFlag A B = 1 := by
      unfold gFlag
      rw [if_neg]
      intro h9
      have := kF_0 hA h9
      have h10 : sB A B = B := by unfold sB; rw [this]; omega
      omega
    omega
/-- Gauss's steps, with what they change. -/
def gs (A B C x y z t : Int) : (Int × Int × Int) × List Int :=
  if h : posF A B C ∧ ¬ redF A (sB A B) (sC A B C) then gs (sC A B C) (-(sB A B)) A (y + x * kF A B) (-x) (t + z * kF A B) (-z)
  else ((A, sB A B, sC A B C), [x, y + x * kF A B, z, t + z * kF A B])
termination_by 2 * A.toNat + gFlag A B
decreasing_by exact g_dec h
/-- The reduced form alone. -/
def g1 (A B C : Int) : Int × Int × Int := (gs A B C 1 0 0 1).1
/-! ### What the change makes -/
/-! ### The steps' numbers -/
end Fw


/- Plain facts: what the functions on binary forms answer. -/
set_option linter.unusedVariables false
set_option linter.unusedSimpArgs false
set_option exponentiation.threshold 400
namespace Fw
open Go

end Fw


/- Gauss on binary forms: what the functions answer. -/
set_option linter.unusedVariables false
set_option linter.unusedSimpArgs false
set_option exponentiation.threshold 400
namespace Fw
open Go Go.Proofs

set_option maxRecDepth 20000 in
set_option maxHeartbeats 1000000 in
theorem c_law22_eq (x y : Bool × List Nat) : Fn Try.prog 29 [kI.is x, kI.is y] (kBool.is (decide (x = y))) := by
  refine Con.enter Try.func29 rfl rfl fun m w => ?_
  refine CW.seq ?_
  refine CW.region ?_
  refine WP.bx .n rfl fun b1 => ?_
  refine WP.bx .n rfl fun b2 => ?_
  refine WP.s .n (O.asg rfl) ?_
  refine WP.nil ?_
  refine QE.next ?_
  refine CW.seq ?_
  refine CW.seq ?_
  refine CW.region ?_
  refine WP.s .n (O.fa rfl fld31_0 rfl) ?_
  refine WP.s .n (O.ld rfl (mem_at 1 rfl) (Lens.fst (Lens.id _)) ty4 rfl) ?_
  refine WP.s .n (O.fa rfl fld31_0 rfl) ?_
  refine WP.s .n (O.ld rfl (mem_at 0 rfl) (Lens.fst (Lens.id _)) ty4 rfl) ?_
  refine WP.s .n (O.neB rfl rfl Try.underlying4) ?_
  refine WP.s .n (O.mv rfl) ?_
  refine WP.splitD 11 rfl (fun h_t11 => ?_) (fun h_t11 => ?_)
  · refine WP.ku (b := true) rfl rfl ?_
    refine WP.ku (b := true) rfl rfl ?_
    refine WP.ku (b := true) rfl rfl ?_
    refine WP.ku (b := true) rfl rfl ?_
    refine WP.ku (b := true) rfl rfl ?_
    refine WP.ku (b := true) rfl rfl ?_
    refine WP.ku (b := true) rfl rfl ?_
    refine WP.s .n (O.pickT rfl rfl) ?_
    refine WP.nil ?_
    refine QE.next ?_
    refine CW.condT rfl ?_
    refine CW.seq ?_
    refine CW.region ?_
    refine WP.s .n (O.asg rfl) ?_
    refine WP.nil ?_
    refine QE.next ?_
    refine CW.ret ?_
    refine QE.thenR ?_
    refine ST.told 4 rfl (is_eq (y := (decide (x = y))) (by rw [eq_comm, decide_eq_false_iff_not]; intro e; exact h_t11 (by rw [e]))) ?_
    exact QE.done (.inl rfl) rfl (ResOk.t rfl ResOk.nil) (OImp.sub (List.nil_sublist _)) ⟨rfl, rfl⟩
  · refine WP.s (.g rfl rfl) (O.fa rfl fld31_1 rfl) ?_
    refine WP.s (.g rfl rfl) (O.ld rfl (mem_at 1 rfl) (Lens.snd (Lens.id _)) ty29 rfl) ?_
    refine WP.s (.g rfl rfl) (O.lenS rfl Try.underlying29) ?_
    refine WP.s (.g rfl rfl) (O.fa rfl fld31_1 rfl) ?_
    refine WP.s (.g rfl rfl) (O.ld rfl (mem_at 0 rfl) (Lens.snd (Lens.id _)) ty29 rfl) ?_
    refine WP.s (.g rfl rfl) (O.lenS rfl Try.underlying29) ?_
    refine WP.s (.g rfl rfl) (O.ne rfl rfl) ?_
    refine WP.s .n (O.pickF rfl rfl) ?_
    refine WP.nil ?_
    refine QE.next ?_
    refine CW.condD rfl (fun h_t19 => ?_) (fun h_t19 => ?_)
    · refine CW.seq ?_
      refine CW.region ?_
      refine WP.s .n (O.asg rfl) ?_
      refine WP.nil ?_
      refine QE.next ?_
      refine CW.ret ?_
      refine QE.thenR ?_
      refine ST.told 4 rfl (is_eq (y := (decide (x = y))) (by rw [eq_comm, decide_eq_false_iff_not]; intro e; exact h_t19 (by rw [e]))) ?_
      exact QE.done (.inl rfl) rfl (ResOk.t rfl ResOk.nil) (OImp.sub (List.nil_sublist _)) ⟨rfl, rfl⟩
    · refine CW.skip ?_
      refine QE.next ?_
      refine CW.seq ?_
      refine CW.seq ?_
      refine ST.fact (i := 13) rfl sl_len fun hB => ?_
      refine CW.region ?_
      refine WP.s .n (O.asg rfl) ?_
      refine WP.nil ?_
      refine QE.next ?_
      refine CW.block ?_
      refine CW.loop (fun (i : Nat) => i ≤ x.2.length ∧ x.2.take i = y.2.take i) (fun (i : Nat) => [(2, VP.ex (.pointer (some ⟨b1, 0, none⟩))), (3, VP.ex (.pointer (some ⟨b2, 0, none⟩))), (5, (kInt .i64).is (i : Int))]) (fun (i : Nat) => [OB.box b2 31 kI y, OB.box b1 31 kI x]) (fun (i : Nat) => x.2.length - i) 0 ⟨Nat.zero_le _, rfl⟩ (Imp.cons rfl (Imp.cons rfl (Imp.consLe rfl (is_eq (y := (0 : Int)) (by omega)) Imp.nil))) (OImp.refl _) ?_
      intro i ⟨hi, ht⟩
      refine CW.seq ?_
      refine CW.seq ?_
      refine CW.region ?_
      refine WP.s .n (O.mv rfl) ?_
      refine WP.s .n (O.fa rfl fld31_1 rfl) ?_
      refine WP.s .n (O.ld rfl (mem_at 1 rfl) (Lens.snd (Lens.id _)) ty29 rfl) ?_
      refine WP.s .n (O.lenS rfl Try.underlying29) ?_
      refine WP.s .n (O.lt rfl rfl) ?_
      refine WP.nil ?_
      refine QE.next ?_
      refine CW.condD rfl (fun h_t24 => ?_) (fun h_t24 => ?_)
      · refine CW.skip ?_
        refine QE.next ?_
        refine CW.seq ?_
        refine CW.block ?_
        refine CW.seq ?_
        refine CW.draw (Γ := [.fr (VP.ex (.pointer (some ⟨b1, 1, none⟩))), .fr (kN.is x.2), .fr ((kInt .i64).is (i : Int)), .fr (VP.pim kLimb (x.2.getD i 0)), .fr ((kInt .u32).is ((x.2.getD i 0) : Int)), .fr (VP.ex (.pointer (some ⟨b2, 1, none⟩))), .fr (kN.is y.2), .fr ((kInt .i64).is (i : Int)), .fr (VP.pim kLimb (y.2.getD i 0)), .fr ((kInt .u32).is ((y.2.getD i 0) : Int)), .fr (kBool.is (decide (((x.2.getD i 0) : Int) ≠ ((y.2.getD i 0) : Int))))]) (lates := [false, false, false, false, false, false, false, false, false, false, false]) (by kernel_rfl) (Chk.of rfl (by kernel_rfl) rfl) (fun _ _ _ _ _ h => h) (fun q_ x_ h_ => ?_) (fun σ1 => ?_)
        · match q_, h_ with
          | 0, h_ => cases h_; exact Ob.f rfl .n fun N => (O.fa rfl fld31_1 rfl)
          | 1, h_ => cases h_; exact Ob.f rfl .n fun N => (O.ld rfl (mem_app N (mem_at 1 rfl)) (Lens.snd (Lens.id _)) ty29 rfl)
          | 2, h_ => cases h_; exact Ob.f rfl .n fun N => (O.mv rfl)
          | 3, h_ => cases h_; exact Ob.f rfl .n fun N => (O.ix i rfl rfl Try.underlying29 ty121 rfl (v := (x.2.getD i 0)) (gd 0 (by omega)))
          | 4, h_ => cases h_; exact Ob.f rfl .n fun N => (OpOk.le (O.ldP rfl ty121) (limb_le _))
          | 5, h_ => cases h_; exact Ob.f rfl .n fun N => (O.fa rfl fld31_1 rfl)
          | 6, h_ => cases h_; exact Ob.f rfl .n fun N => (O.ld rfl (mem_app N (mem_at 0 rfl)) (Lens.snd (Lens.id _)) ty29 rfl)
          | 7, h_ => cases h_; exact Ob.f rfl .n fun N => (O.mv rfl)
          | 8, h_ => cases h_; exact Ob.f rfl .n fun N => (O.ix i rfl rfl Try.underlying29 ty121 rfl (v := (y.2.getD i 0)) (gd 0 (by omega)))
          | 9, h_ => cases h_; exact Ob.f rfl .n fun N => (OpOk.le (O.ldP rfl ty121) (limb_le _))
          | 10, h_ => cases h_; exact Ob.f rfl .n fun N => (O.ne rfl rfl)
          | n_ + 11, h_ => simp at h_
        refine WP.nil ?_
        refine QE.next ?_
        refine CW.condD rfl (fun h_t37 => ?_) (fun h_t37 => ?_)
        · refine CW.seq ?_
          refine CW.region ?_
          refine WP.s .n (O.asg rfl) ?_
          refine WP.nil ?_
          refine QE.next ?_
          refine CW.ret ?_
          refine QE.blkR ?_
          refine QE.thenR ?_
          refine QE.thenR ?_
          refine QE.blkR ?_
          refine QE.thenR ?_
          refine ST.told 4 rfl (is_eq (y := (decide (x = y))) (by rw [eq_comm, decide_eq_false_iff_not]; intro e; exact h_t37 (by rw [e]))) ?_
          exact QE.done (.inl rfl) rfl (ResOk.t rfl ResOk.nil) (OImp.sub (List.nil_sublist _)) ⟨rfl, rfl⟩
        · refine CW.skip ?_
          refine QE.blkN ?_
          refine QE.next ?_
          refine CW.region ?_
          refine WP.s .n (O.mv rfl) ?_
          refine WP.s .n (O.add rfl rfl (c := ((i : Int) + 1)) (w64 (by omega))) ?_
          refine WP.s .n (O.asg rfl) ?_
          refine WP.nil ?_
          exact QE.round (i + 1) (by omega) ⟨by omega, eq_take (d := 0) (by omega) (by omega) ht (by omega)⟩ (Imp.cons rfl (Imp.cons rfl (Imp.consLe rfl (is_eq (y := (((i + 1) : Nat) : Int)) (by omega)) Imp.nil))) (OImp.refl _)
      · refine CW.exit ?_
        refine QE.thenE ?_
        refine QE.thenE ?_
        refine QE.blkH ?_
        refine QE.next ?_
        refine CW.seq ?_
        refine CW.region ?_
        refine WP.s .n (O.asg rfl) ?_
        refine WP.nil ?_
        refine QE.next ?_
        refine CW.ret ?_
        refine ST.told 4 rfl (is_eq (y := (decide (x = y))) (by rw [eq_comm, decide_eq_true_iff]; exact Prod.ext (by simpa using h_t11) (eq_full (i := i) (by omega) (by omega) ht))) ?_
        exact QE.done (.inl rfl) rfl (ResOk.t rfl ResOk.nil) (OImp.sub (List.nil_sublist _)) ⟨rfl, rfl⟩

end Fw


/- Forms by their matrices: what the program answers. -/
set_option linter.unusedVariables false
set_option linter.unusedSimpArgs false
set_option exponentiation.threshold 400
namespace Fw
open Go Go.Proofs

set_option maxRecDepth 20000 in
set_option maxHeartbeats 1000000 in
theorem c_quad_shaped (a : List (List Int)) : Fn Try.prog 112 [(kSl (kSl kZ)).is a] ((kInt .i64).is (qshape a)) := by
  refine Con.enter Try.func112 rfl rfl fun m w => ?_
  refine ST.fact (i := 0) rfl sl_len fun hB => ?_
  refine ST.fact (i := 0) rfl slsl_len fun hlc => ?_
  refine CW.seq ?_
  refine CW.region ?_
  refine WP.s .n (O.asg rfl) ?_
  refine WP.nil ?_
  refine QE.next ?_
  refine CW.seq ?_
  refine CW.seq ?_
  refine CW.region ?_
  refine WP.s .n (O.mv rfl) ?_
  refine WP.s .n (O.lenS rfl Try.underlying67) ?_
  refine WP.s .n (O.gt rfl rfl) ?_
  refine WP.nil ?_
  refine QE.next ?_
  refine CW.condD rfl (fun h_t11 => ?_) (fun h_t11 => ?_)
  · refine CW.seq ?_
    refine CW.region ?_
    refine WP.s .n (O.asg rfl) ?_
    refine WP.nil ?_
    refine QE.next ?_
    refine CW.ret ?_
    refine QE.thenR ?_
    refine ST.told 2 rfl (is_eq (y := (qshape a)) (qshape_1 (big_len h_t11)).symm) ?_
    exact QE.done (.inl rfl) rfl (ResOk.t rfl ResOk.nil) (OImp.sub (List.nil_sublist _)) ⟨rfl, rfl⟩
  · refine CW.skip ?_
    refine QE.next ?_
    refine CW.seq ?_
    refine CW.seq ?_
    refine CW.region ?_
    refine WP.s .n (O.mv rfl) ?_
    refine WP.s .n (O.lenS rfl Try.underlying67) ?_
    refine WP.s .n (O.mv rfl) ?_
    refine WP.nil ?_
    refine QE.next ?_
    refine CW.block ?_
    refine CW.loop (fun (i : Nat) => i ≤ a.length ∧ rowsTo a true i) (fun (i : Nat) => [(0, (kSl (kSl kZ)).is a), (12, (kSl (kSl kZ)).is a), (13, (kInt .i64).is (a.length : Int)), (14, (kInt .i64).is (i : Int))]) (fun (i : Nat) => []) (fun (i : Nat) => a.length - i) 0 ⟨Nat.zero_le _, fun j hj => absurd hj (by omega)⟩ (Imp.cons rfl (Imp.cons rfl (Imp.cons rfl (Imp.consLe rfl (is_eq (y := (0 : Int)) (by first | rfl | omega | assumption)) Imp.nil)))) (OImp.refl _) ?_
    intro i ⟨hi, hA⟩
    refine CW.seq ?_
    refine CW.region ?_
    refine WP.s .n (O.lt rfl rfl) ?_
    refine WP.nil ?_
    refine QE.next ?_
    refine CW.seq ?_
    refine CW.condD rfl (fun h_t15 => ?_) (fun h_t15 => ?_)
    · refine CW.skip ?_
      refine QE.next ?_
      refine CW.seq ?_
      refine CW.block ?_
      refine CW.seq ?_
      have hlci := hlc i
      refine CW.region ?_
      refine WP.s .n (O.ix i rfl rfl Try.underlying67 ty27 rfl (v := (a.getD i [])) (gd [] (by first | omega | (have h1 := hQ i (by omega); have h2 := hQ k (by omega); omega)))) ?_
      refine WP.s .n (O.ldP rfl ty27) ?_
      refine WP.s .n (O.asg rfl) ?_
      refine WP.nil ?_
      refine QE.next ?_
      refine CW.seq ?_
      refine CW.region ?_
      refine WP.s .n (O.mv rfl) ?_
      refine WP.s .n (O.lenS rfl Try.underlying27) ?_
      refine WP.s .n (O.gt rfl rfl) ?_
      refine WP.s .n (O.mv rfl) ?_
      refine WP.splitD 21 rfl (fun h_t21 => ?_) (fun h_t21 => ?_)
      · refine WP.ku (b := true) rfl rfl ?_
        refine WP.ku (b := true) rfl rfl ?_
        refine WP.ku (b := true) rfl rfl ?_
        refine WP.ku (b := true) rfl rfl ?_
        refine WP.s .n (O.pickT rfl rfl) ?_
        refine WP.nil ?_
        refine QE.next ?_
        refine CW.condT rfl ?_
        refine CW.seq ?_
        refine CW.region ?_
        refine WP.s .n (O.asg rfl) ?_
        refine WP.nil ?_
        refine QE.next ?_
        refine CW.ret ?_
        refine QE.blkR ?_
        refine QE.thenR ?_
        refine QE.thenR ?_
        refine QE.blkR ?_
        refine QE.thenR ?_
        refine ST.told 2 rfl (is_eq (y := (qshape a)) (qshape_1 (big_row (i := i) (by omega) (by omega))).symm) ?_
        exact QE.done (.inl rfl) rfl (ResOk.t rfl ResOk.nil) (OImp.sub (List.nil_sublist _)) ⟨rfl, rfl⟩
      · refine WP.s (.g rfl rfl) (O.mv rfl) ?_
        refine WP.s (.g rfl rfl) (O.bs Try.underlying67 el27_sl_Z (evl.c rfl evl.n) rfl (by decide)) ?_
        refine WP.s (.g rfl rfl) (O.fn fn174 (evs.c rfl evs.nil) (c_mat_Bits [(a.getD i [])])) ?_
        refine WP.s (.g rfl rfl) (O.gt rfl rfl) ?_
        refine WP.s .n (O.pickF rfl rfl) ?_
        refine WP.nil ?_
        refine QE.next ?_
        refine CW.condD rfl (fun h_t26 => ?_) (fun h_t26 => ?_)
        · refine CW.seq ?_
          refine CW.region ?_
          refine WP.s .n (O.asg rfl) ?_
          refine WP.nil ?_
          refine QE.next ?_
          refine CW.ret ?_
          refine QE.blkR ?_
          refine QE.thenR ?_
          refine QE.thenR ?_
          refine QE.blkR ?_
          refine QE.thenR ?_
          refine ST.told 2 rfl (is_eq (y := (qshape a)) (qshape_1 (big_bits (i := i) (by omega) (by omega))).symm) ?_
          exact QE.done (.inl rfl) rfl (ResOk.t rfl ResOk.nil) (OImp.sub (List.nil_sublist _)) ⟨rfl, rfl⟩
        · refine CW.skip ?_
          refine QE.blkN ?_
          refine QE.next ?_
          refine CW.region ?_
          refine WP.s .n (O.add rfl rfl (c := ((i : Int) + 1)) (w64 (by omega))) ?_
          refine WP.s .n (O.mv rfl) ?_
          refine WP.nil ?_
          exact QE.round (i + 1) (by omega) ⟨by omega, rowsTo_next hA (by omega) (by omega)⟩ (Imp.cons rfl (Imp.cons rfl (Imp.cons rfl (Imp.consLe rfl (is_eq (y := (((i + 1) : Nat) : Int)) (by first | rfl | omega | assumption)) Imp.nil)))) (OImp.refl _)
    · refine CW.exit ?_
      refine QE.thenE ?_
      refine QE.thenE ?_
      refine QE.blkH ?_
      refine QE.next ?_
      refine CW.seq ?_
      refine CW.seq ?_
      have hno := rowsTo_end h_t11 (by rw [show i = a.length by omega] at hA; exact hA)
      refine CW.region ?_
      refine WP.s .n (O.mv rfl) ?_
      refine WP.s .n (O.lenS rfl Try.underlying67) ?_
      refine WP.s .n (O.eq rfl rfl) ?_
      refine WP.nil ?_
      refine QE.next ?_
      refine CW.condD rfl (fun h_t30 => ?_) (fun h_t30 => ?_)
      · refine CW.seq ?_
        refine CW.region ?_
        refine WP.s .n (O.asg rfl) ?_
        refine WP.nil ?_
        refine QE.next ?_
        refine CW.ret ?_
        refine QE.thenR ?_
        refine ST.told 2 rfl (is_eq (y := (qshape a)) (qshape_2 hno (by omega)).symm) ?_
        exact QE.done (.inl rfl) rfl (ResOk.t rfl ResOk.nil) (OImp.sub (List.nil_sublist _)) ⟨rfl, rfl⟩
      · refine CW.skip ?_
        refine QE.next ?_
        refine CW.seq ?_
        refine CW.seq ?_
        refine CW.region ?_
        refine WP.s .n (O.mv rfl) ?_
        refine WP.s .n (O.lenS rfl Try.underlying67) ?_
        refine WP.s .n (O.mv rfl) ?_
        refine WP.nil ?_
        refine QE.next ?_
        refine CW.block ?_
        refine CW.loop (fun (j : Nat) => j ≤ a.length ∧ ∀ l, l < j → (a.getD l []).length = a.length) (fun (j : Nat) => [(0, (kSl (kSl kZ)).is a), (31, (kSl (kSl kZ)).is a), (32, (kInt .i64).is (a.length : Int)), (33, (kInt .i64).is (j : Int))]) (fun (j : Nat) => []) (fun (j : Nat) => a.length - j) 0 ⟨Nat.zero_le _, fun l hl => absurd hl (by omega)⟩ (Imp.cons rfl (Imp.cons rfl (Imp.cons rfl (Imp.consLe rfl (is_eq (y := (0 : Int)) (by first | rfl | omega | assumption)) Imp.nil)))) (OImp.refl _) ?_
        intro j ⟨hj, hQ⟩
        refine CW.seq ?_
        refine CW.region ?_
        refine WP.s .n (O.lt rfl rfl) ?_
        refine WP.nil ?_
        refine QE.next ?_
        refine CW.seq ?_
        refine CW.condD rfl (fun h_t34 => ?_) (fun h_t34 => ?_)
        · refine CW.skip ?_
          refine QE.next ?_
          refine CW.seq ?_
          refine CW.block ?_
          refine CW.seq ?_
          refine CW.region ?_
          refine WP.s .n (O.ix j rfl rfl Try.underlying67 ty27 rfl (v := (a.getD j [])) (gd [] (by first | omega | (have h1 := hQ i (by omega); have h2 := hQ k (by omega); omega)))) ?_
          refine WP.s .n (O.ldP rfl ty27) ?_
          refine WP.s .n (O.asg rfl) ?_
          refine WP.nil ?_
          refine QE.next ?_
          refine CW.seq ?_
          refine CW.region ?_
          refine WP.s .n (O.mv rfl) ?_
          refine WP.s .n (O.lenS rfl Try.underlying27) ?_
          refine WP.s .n (O.mv rfl) ?_
          refine WP.s .n (O.lenS rfl Try.underlying67) ?_
          refine WP.s .n (O.ne rfl rfl) ?_
          refine WP.nil ?_
          refine QE.next ?_
          refine CW.condD rfl (fun h_t41 => ?_) (fun h_t41 => ?_)
          · refine CW.seq ?_
            refine CW.region ?_
            refine WP.s .n (O.asg rfl) ?_
            refine WP.nil ?_
            refine QE.next ?_
            refine CW.ret ?_
            refine QE.blkR ?_
            refine QE.thenR ?_
            refine QE.thenR ?_
            refine QE.blkR ?_
            refine QE.thenR ?_
            refine ST.told 2 rfl (is_eq (y := (qshape a)) (qshape_3 hno (by omega) (not_sq (i := j) (by omega) (by omega))).symm) ?_
            exact QE.done (.inl rfl) rfl (ResOk.t rfl ResOk.nil) (OImp.sub (List.nil_sublist _)) ⟨rfl, rfl⟩
          · refine CW.skip ?_
            refine QE.blkN ?_
            refine QE.next ?_
            refine CW.region ?_
            refine WP.s .n (O.add rfl rfl (c := ((j : Int) + 1)) (w64 (by omega))) ?_
            refine WP.s .n (O.mv rfl) ?_
            refine WP.nil ?_
            exact QE.round (j + 1) (by omega) ⟨by omega, fun l hl => if e : l = j then by subst e; omega else hQ l (by omega)⟩ (Imp.cons rfl (Imp.cons rfl (Imp.cons rfl (Imp.consLe rfl (is_eq (y := (((j + 1) : Nat) : Int)) (by first | rfl | omega | assumption)) Imp.nil)))) (OImp.refl _)
        · refine CW.exit ?_
          refine QE.thenE ?_
          refine QE.thenE ?_
          refine QE.blkH ?_
          refine QE.next ?_
          refine CW.seq ?_
          refine CW.seq ?_
          have hsq := sqN_iff.2 (fun l hl => hQ l (by omega))
          refine CW.region ?_
          refine WP.s .n (O.mv rfl) ?_
          refine WP.s .n (O.lenS rfl Try.underlying67) ?_
          refine WP.s .n (O.mv rfl) ?_
          refine WP.nil ?_
          refine QE.next ?_
          refine CW.block ?_
          refine CW.loop (fun (i : Nat) => i ≤ a.length ∧ ∀ x, x < i → ∀ y, y < x → matF a x y = matF a y x) (fun (i : Nat) => [(0, (kSl (kSl kZ)).is a), (44, (kInt .i64).is (a.length : Int)), (45, (kInt .i64).is (i : Int))]) (fun (i : Nat) => []) (fun (i : Nat) => a.length - i) 0 ⟨Nat.zero_le _, fun l hl => absurd hl (by omega)⟩ (Imp.cons rfl (Imp.cons rfl (Imp.consLe rfl (is_eq (y := (0 : Int)) (by first | rfl | omega | assumption)) Imp.nil))) (OImp.refl _) ?_
          intro i ⟨hi, hS⟩
          refine CW.seq ?_
          refine CW.region ?_
          refine WP.s .n (O.lt rfl rfl) ?_
          refine WP.nil ?_
          refine QE.next ?_
          refine CW.seq ?_
          refine CW.condD rfl (fun h_t46 => ?_) (fun h_t46 => ?_)
          · refine CW.skip ?_
            refine QE.next ?_
            refine CW.seq ?_
            refine CW.block ?_
            refine CW.seq ?_
            refine CW.region ?_
            refine WP.s .n (O.mv rfl) ?_
            refine WP.s .n (O.asg rfl) ?_
            refine WP.nil ?_
            refine QE.next ?_
            refine CW.seq ?_
            refine CW.region ?_
            refine WP.s .n (O.mv rfl) ?_
            refine WP.s .n (O.mv rfl) ?_
            refine WP.nil ?_
            refine QE.next ?_
            refine CW.block ?_
            refine CW.loop (fun (k : Nat) => k ≤ i ∧ ∀ y, y < k → matF a i y = matF a y i) (fun (k : Nat) => [(0, (kSl (kSl kZ)).is a), (7, (kInt .i64).is (i : Int)), (44, (kInt .i64).is (a.length : Int)), (45, (kInt .i64).is (i : Int)), (48, (kInt .i64).is (i : Int)), (49, (kInt .i64).is (k : Int))]) (fun (k : Nat) => []) (fun (k : Nat) => i - k) 0 ⟨Nat.zero_le _, fun l hl => absurd hl (by omega)⟩ (Imp.cons rfl (Imp.cons rfl (Imp.cons rfl (Imp.cons rfl (Imp.cons rfl (Imp.consLe rfl (is_eq (y := (0 : Int)) (by first | rfl | omega | assumption)) Imp.nil)))))) (OImp.refl _) ?_
            intro k ⟨hk, hK⟩
            refine CW.seq ?_
            refine CW.region ?_
            refine WP.s .n (O.lt rfl rfl) ?_
            refine WP.nil ?_
            refine QE.next ?_
            refine CW.seq ?_
            refine CW.condD rfl (fun h_t50 => ?_) (fun h_t50 => ?_)
            · refine CW.skip ?_
              refine QE.next ?_
              refine CW.seq ?_
              refine CW.block ?_
              refine CW.seq ?_
              refine CW.region ?_
              refine WP.s .n (O.mv rfl) ?_
              refine WP.s .n (O.asg rfl) ?_
              refine WP.nil ?_
              refine QE.next ?_
              refine CW.seq ?_
              refine CW.draw (Γ := [.fr ((kSl (kSl kZ)).is a), .fr ((kInt .i64).is (i : Int)), .fr (VP.pim (kSl kZ) (a.getD i [])), .fr ((kSl kZ).is (a.getD i [])), .fr ((kInt .i64).is (k : Int)), .fr (VP.pim kZ ((a.getD i []).getD k 0)), .fr (kZ.is ((a.getD i []).getD k 0)), .fr ((kSl (kSl kZ)).is a), .fr ((kInt .i64).is (k : Int)), .fr (VP.pim (kSl kZ) (a.getD k [])), .fr ((kSl kZ).is (a.getD k [])), .fr ((kInt .i64).is (i : Int)), .fr (VP.pim kZ ((a.getD k []).getD i 0)), .fr (kZ.is ((a.getD k []).getD i 0)), .fr ((kInt .i64).is ((((a.getD i []).getD k 0) - ((a.getD k []).getD i 0)).sign)), .fr (kBool.is (decide (((((a.getD i []).getD k 0) - ((a.getD k []).getD i 0)).sign) ≠ 0)))]) (lates := [false, false, false, false, false, false, false, false, false, false, false, false, false, false, false, false]) (by kernel_rfl) (Chk.of rfl (by kernel_rfl) rfl) (fun _ _ _ _ _ h => h) (fun q_ x_ h_ => ?_) (fun σ1 => ?_)
              · match q_, h_ with
                | 0, h_ => cases h_; exact Ob.f rfl .n fun N => (O.mv rfl)
                | 1, h_ => cases h_; exact Ob.f rfl .n fun N => (O.mv rfl)
                | 2, h_ => cases h_; exact Ob.f rfl .n fun N => (O.ix i rfl rfl Try.underlying67 ty27 rfl (v := (a.getD i [])) (gd [] (by first | omega | (have h1 := hQ i (by omega); have h2 := hQ k (by omega); omega))))
                | 3, h_ => cases h_; exact Ob.f rfl .n fun N => (O.ldP rfl ty27)
                | 4, h_ => cases h_; exact Ob.f rfl .n fun N => (O.mv rfl)
                | 5, h_ => cases h_; exact Ob.f rfl .n fun N => (O.ix k rfl rfl Try.underlying27 ty31 rfl (v := ((a.getD i []).getD k 0)) (gd 0 (by first | omega | (have h1 := hQ i (by omega); have h2 := hQ k (by omega); omega))))
                | 6, h_ => cases h_; exact Ob.f rfl .n fun N => (O.ldP rfl ty31)
                | 7, h_ => cases h_; exact Ob.f rfl .n fun N => (O.mv rfl)
                | 8, h_ => cases h_; exact Ob.f rfl .n fun N => (O.mv rfl)
                | 9, h_ => cases h_; exact Ob.f rfl .n fun N => (O.ix k rfl rfl Try.underlying67 ty27 rfl (v := (a.getD k [])) (gd [] (by first | omega | (have h1 := hQ i (by omega); have h2 := hQ k (by omega); omega))))
                | 10, h_ => cases h_; exact Ob.f rfl .n fun N => (O.ldP rfl ty27)
                | 11, h_ => cases h_; exact Ob.f rfl .n fun N => (O.mv rfl)
                | 12, h_ => cases h_; exact Ob.f rfl .n fun N => (O.ix i rfl rfl Try.underlying27 ty31 rfl (v := ((a.getD k []).getD i 0)) (gd 0 (by first | omega | (have h1 := hQ i (by omega); have h2 := hQ k (by omega); omega))))
                | 13, h_ => cases h_; exact Ob.f rfl .n fun N => (O.ldP rfl ty31)
                | 14, h_ => cases h_; exact Ob.f rfl .n fun N => (O.fn fn75 (evs.c rfl (evs.c rfl evs.nil)) (c_zint_Compare ((a.getD i []).getD k 0) ((a.getD k []).getD i 0)))
                | 15, h_ => cases h_; exact Ob.f rfl .n fun N => (O.ne rfl rfl)
                | n_ + 16, h_ => simp at h_
              refine WP.nil ?_
              refine QE.next ?_
              refine CW.condD rfl (fun h_t67 => ?_) (fun h_t67 => ?_)
              · refine CW.seq ?_
                refine CW.region ?_
                refine WP.s .n (O.asg rfl) ?_
                refine WP.nil ?_
                refine QE.next ?_
                refine CW.ret ?_
                refine QE.blkR ?_
                refine QE.thenR ?_
                refine QE.thenR ?_
                refine QE.blkR ?_
                refine QE.blkR ?_
                refine QE.thenR ?_
                refine QE.thenR ?_
                refine QE.blkR ?_
                refine QE.thenR ?_
                refine ST.told 2 rfl (is_eq (y := (qshape a)) (qshape_4 hno (by omega) hsq (not_sym (i := i) (k := k) (by omega) (by omega) h_t67)).symm) ?_
                exact QE.done (.inl rfl) rfl (ResOk.t rfl ResOk.nil) (OImp.sub (List.nil_sublist _)) ⟨rfl, rfl⟩
              · refine CW.skip ?_
                refine QE.blkN ?_
                refine QE.next ?_
                refine CW.region ?_
                refine WP.s .n (O.add rfl rfl (c := ((k : Int) + 1)) (w64 (by omega))) ?_
                refine WP.s .n (O.mv rfl) ?_
                refine WP.nil ?_
                exact QE.round (k + 1) (by omega) ⟨by omega, fun y hy => if e : y = k then by subst e; exact sgn0.1 (Classical.byContradiction fun h => h_t67 h) else hK y (by omega)⟩ (Imp.cons rfl (Imp.cons rfl (Imp.cons rfl (Imp.cons rfl (Imp.cons rfl (Imp.consLe rfl (is_eq (y := (((k + 1) : Nat) : Int)) (by first | rfl | omega | assumption)) Imp.nil)))))) (OImp.refl _)
            · refine CW.exit ?_
              refine QE.thenE ?_
              refine QE.thenE ?_
              refine QE.blkH ?_
              refine QE.blkN ?_
              refine QE.next ?_
              refine CW.region ?_
              refine WP.s .n (O.add rfl rfl (c := ((i : Int) + 1)) (w64 (by omega))) ?_
              refine WP.s .n (O.mv rfl) ?_
              refine WP.nil ?_
              exact QE.round (i + 1) (by omega) ⟨by omega, fun x hx => if e : x = i then by subst e; exact fun y hy => hK y (by omega) else hS x (by omega)⟩ (Imp.cons rfl (Imp.cons rfl (Imp.consLe rfl (is_eq (y := (((i + 1) : Nat) : Int)) (by first | rfl | omega | assumption)) Imp.nil))) (OImp.refl _)
          · refine CW.exit ?_
            refine QE.thenE ?_
            refine QE.thenE ?_
            refine QE.blkH ?_
            refine QE.next ?_
            refine CW.seq ?_
            refine CW.region ?_
            refine WP.s .n (O.asg rfl) ?_
            refine WP.nil ?_
            refine QE.next ?_
            refine CW.ret ?_
            refine ST.told 2 rfl (is_eq (y := (qshape a)) (qshape_5 hno (by omega) hsq (symB_iff.2 (fun x hx => hS x (by omega)))).symm) ?_
            exact QE.done (.inl rfl) rfl (ResOk.t rfl ResOk.nil) (OImp.sub (List.nil_sublist _)) ⟨rfl, rfl⟩

set_option maxRecDepth 20000 in
set_option maxHeartbeats 1000000 in
theorem c_quad_data (n : Nat) (a : List (List Int)) (ha : SzM n a) (hq : ∀ i, i < a.length → (a.getD i []).length = a.length) (hs : SymG (matF a)) (hl : a.length ≤ 12) (hn : n ≤ 4194304) : Fn Try.prog 113 [(kSl (kSl kZ)).is a] (VP.tup [(kPair (kSl kC) (kSl (kSl kC))).is (gsoV (matF a) a.length), kBool.is (gOk (matF a) a.length)]) := by
  refine Con.enter Try.func113 rfl rfl fun m w => ?_
  refine ST.fact (i := 0) rfl sl_len fun hB => ?_
  refine ST.fact (i := 0) rfl slsl_len fun hlc => ?_
  have hz : ∀ i j, Sz (n + n + 12) (matF a i j) := fun i j => (matF_Sz ha i j).up (by omega)
  have hU : ∀ k, k ≤ 12 → szU (n + n + 12) k ≤ 34359902208 := fun k hk => by have := szU_le (n + n + 12) hk; omega
  refine CW.seq ?_
  refine CW.region ?_
  refine WP.al .n z93_pr_sl_C_sl_sl_C_ fun b1 => ?_
  refine WP.s .n (O.asg rfl) ?_
  refine WP.nil ?_
  refine QE.next ?_
  refine CW.seq ?_
  refine CW.region ?_
  refine WP.s .n (O.fn fn74 (evs.l rfl (i64_int (by omega)) evs.nil) (c_zint_Of 1)) ?_
  refine WP.bso .n Try.underlying27 el31_C (evl.c rfl evl.n) rfl (by decide) fun v2 => ?_
  refine ST.rowcell 0 rfl fun hcell_ => ?_
  refine WP.s .n (O.bld lit93_pr_val_val_ rfl (evp.l rfl (ex_val (by first | rfl | assumption)) evp.n) (.cons rfl (Lens.fst (Lens.id _)) (.nil _))) ?_
  refine WP.al .n z93_pr_val_val_ fun b3 => ?_
  refine WP.t .n (O.stW (l := (kPair kVal kVal)) (u := (v2, (.slice none 0 0))) 0 rfl rfl rfl ty93 rfl (VP.le_refl _)) ?_
  refine WP.nil ?_
  refine QE.next ?_
  refine CW.seq ?_
  refine CW.seq ?_
  refine CW.region ?_
  refine WP.s .n (O.mv rfl) ?_
  refine WP.s .n (O.lenS rfl Try.underlying67) ?_
  refine WP.s .n (O.mv rfl) ?_
  refine WP.nil ?_
  refine QE.next ?_
  refine CW.block ?_
  refine ST.nilrow 27 (kSl kC) ?_
  refine CW.loop3 (fun (i : Nat) (vD : Value) (vL : Value) => i ≤ a.length ∧ PosU (matF a) i) (fun (i : Nat) (vD : Value) (vL : Value) => [(0, (kSl (kSl kZ)).is a), (2, VP.ex (.pointer (some ⟨b1, 0, none⟩))), (3, kBool.is false), (4, VP.ex (.pointer (some ⟨b3, 0, none⟩))), (16, (kInt .i64).is (a.length : Int)), (17, (kInt .i64).is (i : Int))]) (fun (i : Nat) (vD : Value) (vL : Value) => [OB.row vL 27 (kSl kC) (gLs (matF a) i), OB.box b3 93 (kPair kVal kVal) (vD, vL), OB.row vD 31 kC (gDs (matF a) i), OB.box b1 93 (kPair (kSl kC) (kSl (kSl kC))) ([], [])]) (fun (i : Nat) (vD : Value) (vL : Value) => a.length - i) 0 v2 (.slice none 0 0) ⟨Nat.zero_le _, fun l hl => absurd hl (by omega)⟩ (Imp.cons rfl (Imp.cons rfl (Imp.cons rfl (Imp.cons rfl (Imp.cons rfl (Imp.consLe rfl (is_eq (y := (0 : Int)) (by first | rfl | omega | assumption)) Imp.nil)))))) (OImp.os (OS.keepLe (OB.row_eq (by first | rfl | omega | assumption)) (OS.keep (OS.keepLe (OB.row_eq (by first | rfl | omega | assumption)) (OS.keep OS.nil))))) ?_
  intro i vD vL ⟨hi, hP⟩
  refine CW.seq ?_
  refine CW.region ?_
  refine WP.s .n (O.lt rfl rfl) ?_
  refine WP.nil ?_
  refine QE.next ?_
  refine CW.seq ?_
  refine CW.condD rfl (fun h_t18 => ?_) (fun h_t18 => ?_)
  · refine CW.skip ?_
    refine QE.next ?_
    refine CW.seq ?_
    refine CW.block ?_
    refine CW.seq ?_
    refine CW.region ?_
    refine WP.s .n (O.mv rfl) ?_
    refine WP.s .n (O.asg rfl) ?_
    refine WP.nil ?_
    refine QE.next ?_
    refine CW.seq ?_
    refine CW.region ?_
    refine WP.s .n (O.asg rfl) ?_
    refine WP.nil ?_
    refine QE.next ?_
    refine CW.seq ?_
    refine CW.seq ?_
    refine CW.region ?_
    refine WP.s .n (O.asg rfl) ?_
    refine WP.nil ?_
    refine QE.next ?_
    refine CW.block ?_
    refine ST.nilrow 31 kC ?_
    refine CW.loop2 (fun (j : Nat) (v : Value) => j ≤ i + 1) (fun (j : Nat) (v : Value) => [(0, (kSl (kSl kZ)).is a), (2, VP.ex (.pointer (some ⟨b1, 0, none⟩))), (3, kBool.is false), (4, VP.ex (.pointer (some ⟨b3, 0, none⟩))), (5, (kInt .i64).is (i : Int)), (6, VP.ex v), (7, (kInt .i64).is (j : Int)), (16, (kInt .i64).is (a.length : Int)), (17, (kInt .i64).is (i : Int))]) (fun (j : Nat) (v : Value) => [OB.row v 31 kC (gRow (matF a) i j), OB.row vL 27 (kSl kC) (gLs (matF a) i), OB.box b3 93 (kPair kVal kVal) (vD, vL), OB.row vD 31 kC (gDs (matF a) i), OB.box b1 93 (kPair (kSl kC) (kSl (kSl kC))) ([], [])]) (fun (j : Nat) (v : Value) => i + 1 - j) 0 (.slice none 0 0) (by omega) (Imp.cons rfl (Imp.cons rfl (Imp.cons rfl (Imp.cons rfl (Imp.cons rfl (Imp.cons rfl (Imp.consLe rfl (is_eq (y := (0 : Int)) (by first | rfl | omega | assumption)) (Imp.cons rfl (Imp.cons rfl Imp.nil))))))))) (OImp.os (OS.keepLe (OB.row_eq (by first | rfl | omega | assumption)) (OS.keep (OS.keep (OS.keep (OS.keep OS.nil)))))) ?_
    intro j v hj
    refine CW.seq ?_
    refine CW.seq ?_
    refine CW.region ?_
    refine WP.s .n (O.mv rfl) ?_
    refine WP.s .n (O.mv rfl) ?_
    refine WP.s .n (O.le rfl rfl) ?_
    refine WP.nil ?_
    refine QE.next ?_
    refine CW.condD rfl (fun h_t22 => ?_) (fun h_t22 => ?_)
    · refine CW.skip ?_
      refine QE.next ?_
      refine CW.seq ?_
      refine CW.block ?_
      refine CW.seq ?_
      refine CW.region ?_
      refine WP.s .n (O.mv rfl) ?_
      refine WP.s .n (O.mv rfl) ?_
      refine WP.s .n (O.ix i rfl rfl Try.underlying67 ty27 rfl (v := (a.getD i [])) (gd [] (by first | omega | (simp only [gRow_len, gDs_len, gLs_len]; omega) | (have := hq i (by omega); omega)))) ?_
      refine WP.s .n (O.ldP rfl ty27) ?_
      refine WP.s .n (O.mv rfl) ?_
      refine WP.s .n (O.ix j rfl rfl Try.underlying27 ty31 rfl (v := ((a.getD i []).getD j 0)) (gd 0 (by first | omega | (simp only [gRow_len, gDs_len, gLs_len]; omega) | (have := hq i (by omega); omega)))) ?_
      refine WP.s .n (O.ldP rfl ty31) ?_
      refine WP.s .n (O.fn fn146 (evs.c rfl evs.nil) (c_zint_Form ((a.getD i []).getD j 0))) ?_
      refine WP.al .n z31_C fun b4 => ?_
      refine WP.t .n (O.stW (l := kC) (u := ((a.getD i []).getD j 0)) 0 rfl rfl rfl ty31 rfl (VP.le_refl _)) ?_
      refine WP.nil ?_
      refine QE.next ?_
      refine CW.seq ?_
      refine CW.seq ?_
      refine CW.region ?_
      refine WP.s .n (O.mv rfl) ?_
      refine WP.s .n (O.mv rfl) ?_
      refine WP.nil ?_
      refine QE.next ?_
      refine CW.block ?_
      refine CW.loop2 (fun (k : Nat) (p : Nat) => k ≤ j) (fun (k : Nat) (p : Nat) => [(0, (kSl (kSl kZ)).is a), (2, VP.ex (.pointer (some ⟨b1, 0, none⟩))), (3, kBool.is false), (4, VP.ex (.pointer (some ⟨b3, 0, none⟩))), (5, (kInt .i64).is (i : Int)), (6, VP.ex v), (7, (kInt .i64).is (j : Int)), (8, VP.ex (.pointer (some ⟨p, 0, none⟩))), (33, (kInt .i64).is (j : Int)), (34, (kInt .i64).is (k : Int)), (16, (kInt .i64).is (a.length : Int)), (17, (kInt .i64).is (i : Int))]) (fun (k : Nat) (p : Nat) => [OB.box p 31 kC (uE (matF a) k i j), OB.row v 31 kC (gRow (matF a) i j), OB.row vL 27 (kSl kC) (gLs (matF a) i), OB.box b3 93 (kPair kVal kVal) (vD, vL), OB.row vD 31 kC (gDs (matF a) i), OB.box b1 93 (kPair (kSl kC) (kSl (kSl kC))) ([], [])]) (fun (k : Nat) (p : Nat) => j - k) 0 b4 (by omega) (Imp.cons rfl (Imp.cons rfl (Imp.cons rfl (Imp.cons rfl (Imp.cons rfl (Imp.cons rfl (Imp.cons rfl (Imp.cons rfl (Imp.cons rfl (Imp.consLe rfl (is_eq (y := (0 : Int)) (by first | rfl | omega | assumption)) (Imp.cons rfl (Imp.cons rfl Imp.nil)))))))))))) (OImp.os (OS.keepLe (OB.box_eq (by first | rfl | omega | assumption)) (OS.keep (OS.keep (OS.keep (OS.keep (OS.keep OS.nil))))))) ?_
      intro k p hk
      refine CW.seq ?_
      refine CW.region ?_
      refine WP.s .n (O.lt rfl rfl) ?_
      refine WP.nil ?_
      refine QE.next ?_
      refine CW.seq ?_
      refine CW.condD rfl (fun h_t35 => ?_) (fun h_t35 => ?_)
      · refine CW.skip ?_
        refine QE.next ?_
        refine CW.seq ?_
        refine CW.block ?_
        refine CW.seq ?_
        have hE := uE_Sz hs hz hP
        have hD := uD_Sz hs hz hP
        have hUk := hU k (by omega)
        refine CW.region ?_
        refine WP.s .n (O.mv rfl) ?_
        refine WP.s .n (O.asg rfl) ?_
        refine WP.nil ?_
        refine QE.next ?_
        refine CW.seq ?_
        refine CW.region ?_
        refine WP.s .n (O.mv rfl) ?_
        refine WP.s .n (O.asg rfl) ?_
        refine WP.nil ?_
        refine QE.next ?_
        refine CW.seq ?_
        refine CW.seq ?_
        refine CW.region ?_
        refine WP.s .n (O.mv rfl) ?_
        refine WP.s .n (O.mv rfl) ?_
        refine WP.s .n (O.lt rfl rfl) ?_
        refine WP.nil ?_
        refine QE.next ?_
        refine CW.condD rfl (fun h_t40 => ?_) (fun h_t40 => ?_)
        · refine CW.region ?_
          refine WP.s .n (O.fa rfl fld93_1 rfl) ?_
          refine WP.s .n (OpOk.le (O.ld (p := kVal.is vL) rfl (mem_at 3 rfl) (Lens.snd (Lens.id _)) ty67 rfl) (val_ex _)) ?_
          refine WP.s .n (O.mv rfl) ?_
          refine WP.s .n (O.ixR (k := (kSl kC)) (xs := (gLs (matF a) i)) (n := (j : Int)) j rfl rfl (mem_at 2 rfl) Try.underlying67 ty27 rfl (by first | omega | (simp only [gRow_len, gDs_len, gLs_len]; omega) | (have := hq i (by omega); omega))) ?_
          refine WP.s .n (O.ldR j rfl (mem_at 2 rfl) (Lens.id _) rfl (y := ((gLs (matF a) i).getD j [])) (gd [] (by first | omega | (simp only [gRow_len, gDs_len, gLs_len]; omega) | (have := hq i (by omega); omega))) ty27 rfl) ?_
          refine WP.s .n (O.asg rfl) ?_
          refine WP.nil ?_
          refine QE.next ?_
          refine CW.seq ?_
          refine CW.draw (Γ := [.fr (VP.ex (.pointer (some ⟨b3, 0, none⟩))), .fr (VP.ex vD), .fr ((kInt .i64).is (k : Int)), .fr ((kInt .i64).is ((k : Int) + 1)), .fr (VP.pel vD ((((k : Int) + 1)).toNat * 2)), .fr (kC.is (uD (matF a) (k + 1))), .fr (kC.is (uE (matF a) k i j)), .fr (kC.is ((uD (matF a) (k + 1)) * (uE (matF a) k i j))), .fr (VP.ex v), .fr ((kInt .i64).is (k : Int)), .fr (VP.pel v (k * 2)), .fr (kC.is (uE (matF a) k i k)), .fr ((kSl kC).is ((gLs (matF a) i).getD j [])), .fr ((kInt .i64).is (k : Int)), .fr (VP.pim kC (uE (matF a) k j k)), .fr (kC.is (uE (matF a) k j k)), .fr (kC.is ((uE (matF a) k i k) * (uE (matF a) k j k))), .fr (kC.is (((uD (matF a) (k + 1)) * (uE (matF a) k i j)) - ((uE (matF a) k i k) * (uE (matF a) k j k)))), .al (fun b => OB.box b 31 kC 0)]) (lates := [false, false, false, false, false, false, false, false, false, false, false, false, false, false, false, false, false, false, false]) (by kernel_rfl) (Chk.of rfl (by kernel_rfl) rfl) (fun _ _ _ _ _ h => h) (fun q_ x_ h_ => ?_) (fun σ1 => ?_)
          · match q_, h_ with
            | 0, h_ => cases h_; exact Ob.f rfl .n fun N => (O.fa rfl fld93_0 rfl)
            | 1, h_ => cases h_; exact Ob.f rfl .n fun N => (OpOk.le (O.ld (p := kVal.is vD) rfl (mem_app N (mem_at 3 rfl)) (Lens.fst (Lens.id _)) ty27 rfl) (val_ex _))
            | 2, h_ => cases h_; exact Ob.f rfl .n fun N => (O.mv rfl)
            | 3, h_ => cases h_; exact Ob.f rfl .n fun N => (O.add rfl rfl (c := ((k : Int) + 1)) (w64 (by omega)))
            | 4, h_ => cases h_; exact Ob.f rfl .n fun N => (O.ixR (k := kC) (xs := (gDs (matF a) i)) (n := ((k : Int) + 1)) ((((k : Int) + 1)).toNat) rfl rfl (mem_app N (mem_at 4 rfl)) Try.underlying27 ty31 (by omega) (by first | omega | (simp only [gRow_len, gDs_len, gLs_len]; omega) | (have := hq i (by omega); omega)))
            | 5, h_ => cases h_; exact Ob.f rfl .n fun N => (O.ldR (k := kC) (xs := (gDs (matF a) i)) ((((k : Int) + 1)).toNat) rfl (mem_app N (mem_at 4 rfl)) (Lens.id _) (ho := rfl) (y := (uD (matF a) (k + 1))) (gDs_at (by omega)) ty31 rfl)
            | 6, h_ => cases h_; exact Ob.f rfl .n fun N => (O.ld rfl (mem_app N (mem_at 0 rfl)) (Lens.id _) ty31 rfl)
            | 7, h_ => cases h_; exact Ob.f rfl .n fun N => (O.fn fn76 (evs.l rfl (kC_Z (by first | assumption | exact (hE k (by omega) i j (by omega) (by omega)).sm (by omega) | exact (hE k (by omega) k k (by omega) (by omega)).sm (by omega) | exact (hE k (by omega) i k (by omega) (by omega)).sm (by omega) | exact (hE k (by omega) j k (by omega) (by omega)).sm (by omega) | exact (hE i (by omega) i i (by omega) (by omega)).sm (by omega) | exact (hD k (by omega)).sm (by omega) | exact (((hE k (by omega) k k (by omega) (by omega)).mul (hE k (by omega) i j (by omega) (by omega))).sub ((hE k (by omega) i k (by omega) (by omega)).mul (hE k (by omega) j k (by omega) (by omega)))).sm (by omega) | exact ((hE k (by omega) k k (by omega) (by omega)).mul (hE k (by omega) i j (by omega) (by omega))).sm (by omega) | exact ((hE k (by omega) i k (by omega) (by omega)).mul (hE k (by omega) j k (by omega) (by omega))).sm (by omega))) (evs.l rfl (kC_Z (by first | assumption | exact (hE k (by omega) i j (by omega) (by omega)).sm (by omega) | exact (hE k (by omega) k k (by omega) (by omega)).sm (by omega) | exact (hE k (by omega) i k (by omega) (by omega)).sm (by omega) | exact (hE k (by omega) j k (by omega) (by omega)).sm (by omega) | exact (hE i (by omega) i i (by omega) (by omega)).sm (by omega) | exact (hD k (by omega)).sm (by omega) | exact (((hE k (by omega) k k (by omega) (by omega)).mul (hE k (by omega) i j (by omega) (by omega))).sub ((hE k (by omega) i k (by omega) (by omega)).mul (hE k (by omega) j k (by omega) (by omega)))).sm (by omega) | exact ((hE k (by omega) k k (by omega) (by omega)).mul (hE k (by omega) i j (by omega) (by omega))).sm (by omega) | exact ((hE k (by omega) i k (by omega) (by omega)).mul (hE k (by omega) j k (by omega) (by omega))).sm (by omega))) evs.nil)) (c_zint_Mul (uD (matF a) (k + 1)) (uE (matF a) k i j)))
            | 8, h_ => cases h_; exact Ob.f rfl .n fun N => (O.mv rfl)
            | 9, h_ => cases h_; exact Ob.f rfl .n fun N => (O.mv rfl)
            | 10, h_ => cases h_; exact Ob.f rfl .n fun N => (O.ixR (k := kC) (xs := (gRow (matF a) i j)) (n := (k : Int)) k rfl rfl (mem_app N (mem_at 1 rfl)) Try.underlying27 ty31 rfl (by first | omega | (simp only [gRow_len, gDs_len, gLs_len]; omega) | (have := hq i (by omega); omega)))
            | 11, h_ => cases h_; exact Ob.f rfl .n fun N => (O.ldR (k := kC) (xs := (gRow (matF a) i j)) k rfl (mem_app N (mem_at 1 rfl)) (Lens.id _) (ho := rfl) (y := (uE (matF a) k i k)) (gRow_at (by omega)) ty31 rfl)
            | 12, h_ => cases h_; exact Ob.f rfl .n fun N => (O.mv rfl)
            | 13, h_ => cases h_; exact Ob.f rfl .n fun N => (O.mv rfl)
            | 14, h_ => cases h_; exact Ob.f rfl .n fun N => (O.ix k rfl rfl Try.underlying27 ty31 rfl (v := (uE (matF a) k j k)) (gLs_at (by omega) (by omega)))
            | 15, h_ => cases h_; exact Ob.f rfl .n fun N => (O.ldP rfl ty31)
            | 16, h_ => cases h_; exact Ob.f rfl .n fun N => (O.fn fn76 (evs.l rfl (kC_Z (by first | assumption | exact (hE k (by omega) i j (by omega) (by omega)).sm (by omega) | exact (hE k (by omega) k k (by omega) (by omega)).sm (by omega) | exact (hE k (by omega) i k (by omega) (by omega)).sm (by omega) | exact (hE k (by omega) j k (by omega) (by omega)).sm (by omega) | exact (hE i (by omega) i i (by omega) (by omega)).sm (by omega) | exact (hD k (by omega)).sm (by omega) | exact (((hE k (by omega) k k (by omega) (by omega)).mul (hE k (by omega) i j (by omega) (by omega))).sub ((hE k (by omega) i k (by omega) (by omega)).mul (hE k (by omega) j k (by omega) (by omega)))).sm (by omega) | exact ((hE k (by omega) k k (by omega) (by omega)).mul (hE k (by omega) i j (by omega) (by omega))).sm (by omega) | exact ((hE k (by omega) i k (by omega) (by omega)).mul (hE k (by omega) j k (by omega) (by omega))).sm (by omega))) (evs.l rfl (kC_Z (by first | assumption | exact (hE k (by omega) i j (by omega) (by omega)).sm (by omega) | exact (hE k (by omega) k k (by omega) (by omega)).sm (by omega) | exact (hE k (by omega) i k (by omega) (by omega)).sm (by omega) | exact (hE k (by omega) j k (by omega) (by omega)).sm (by omega) | exact (hE i (by omega) i i (by omega) (by omega)).sm (by omega) | exact (hD k (by omega)).sm (by omega) | exact (((hE k (by omega) k k (by omega) (by omega)).mul (hE k (by omega) i j (by omega) (by omega))).sub ((hE k (by omega) i k (by omega) (by omega)).mul (hE k (by omega) j k (by omega) (by omega)))).sm (by omega) | exact ((hE k (by omega) k k (by omega) (by omega)).mul (hE k (by omega) i j (by omega) (by omega))).sm (by omega) | exact ((hE k (by omega) i k (by omega) (by omega)).mul (hE k (by omega) j k (by omega) (by omega))).sm (by omega))) evs.nil)) (c_zint_Mul (uE (matF a) k i k) (uE (matF a) k j k)))
            | 17, h_ => cases h_; exact Ob.f rfl .n fun N => (O.fn fn157 (evs.l rfl (kC_Z (by first | assumption | exact (hE k (by omega) i j (by omega) (by omega)).sm (by omega) | exact (hE k (by omega) k k (by omega) (by omega)).sm (by omega) | exact (hE k (by omega) i k (by omega) (by omega)).sm (by omega) | exact (hE k (by omega) j k (by omega) (by omega)).sm (by omega) | exact (hE i (by omega) i i (by omega) (by omega)).sm (by omega) | exact (hD k (by omega)).sm (by omega) | exact (((hE k (by omega) k k (by omega) (by omega)).mul (hE k (by omega) i j (by omega) (by omega))).sub ((hE k (by omega) i k (by omega) (by omega)).mul (hE k (by omega) j k (by omega) (by omega)))).sm (by omega) | exact ((hE k (by omega) k k (by omega) (by omega)).mul (hE k (by omega) i j (by omega) (by omega))).sm (by omega) | exact ((hE k (by omega) i k (by omega) (by omega)).mul (hE k (by omega) j k (by omega) (by omega))).sm (by omega))) (evs.l rfl (kC_Z (by first | assumption | exact (hE k (by omega) i j (by omega) (by omega)).sm (by omega) | exact (hE k (by omega) k k (by omega) (by omega)).sm (by omega) | exact (hE k (by omega) i k (by omega) (by omega)).sm (by omega) | exact (hE k (by omega) j k (by omega) (by omega)).sm (by omega) | exact (hE i (by omega) i i (by omega) (by omega)).sm (by omega) | exact (hD k (by omega)).sm (by omega) | exact (((hE k (by omega) k k (by omega) (by omega)).mul (hE k (by omega) i j (by omega) (by omega))).sub ((hE k (by omega) i k (by omega) (by omega)).mul (hE k (by omega) j k (by omega) (by omega)))).sm (by omega) | exact ((hE k (by omega) k k (by omega) (by omega)).mul (hE k (by omega) i j (by omega) (by omega))).sm (by omega) | exact ((hE k (by omega) i k (by omega) (by omega)).mul (hE k (by omega) j k (by omega) (by omega))).sm (by omega))) evs.nil)) (c_zint_Sub ((uD (matF a) (k + 1)) * (uE (matF a) k i j)) ((uE (matF a) k i k) * (uE (matF a) k j k))))
            | 18, h_ => cases h_; exact Ob.a rfl z31_C
            | n_ + 19, h_ => simp at h_
          refine WP.t .n (O.stW (l := kC) (u := ((uD (matF a) (k + 1)) * (uE (matF a) k i j)) - ((uE (matF a) k i k) * (uE (matF a) k j k))) 0 rfl rfl rfl ty31 rfl (VP.le_refl _)) ?_
          refine WP.nil ?_
          refine QE.next ?_
          refine CW.draw (Γ := [.fr (kC.is (((uD (matF a) (k + 1)) * (uE (matF a) k i j)) - ((uE (matF a) k i k) * (uE (matF a) k j k)))), .fr (VP.ex (.pointer (some ⟨b3, 0, none⟩))), .fr (VP.ex vD), .fr ((kInt .i64).is (k : Int)), .fr (VP.pel vD (k * 2)), .fr (kC.is (uD (matF a) k)), .fr (VP.tup [kC.is ((((uD (matF a) (k + 1)) * (uE (matF a) k i j)) - ((uE (matF a) k i k) * (uE (matF a) k j k))).fdiv (uD (matF a) k)), kC.is (if (uD (matF a) k) = 0 then 0 else (((uD (matF a) (k + 1)) * (uE (matF a) k i j)) - ((uE (matF a) k i k) * (uE (matF a) k j k))).fmod (uD (matF a) k)), (kInt .i64).is (if (uD (matF a) k) = 0 then 11 else 0)]), .fr (VP.tup [kC.is ((((uD (matF a) (k + 1)) * (uE (matF a) k i j)) - ((uE (matF a) k i k) * (uE (matF a) k j k))).fdiv (uD (matF a) k)), kC.is (if (uD (matF a) k) = 0 then 0 else (((uD (matF a) (k + 1)) * (uE (matF a) k i j)) - ((uE (matF a) k i k) * (uE (matF a) k j k))).fmod (uD (matF a) k)), (kInt .i64).is (if (uD (matF a) k) = 0 then 11 else 0)]), .fr (kC.is ((((uD (matF a) (k + 1)) * (uE (matF a) k i j)) - ((uE (matF a) k i k) * (uE (matF a) k j k))).fdiv (uD (matF a) k))), .lt (kC.is (if (uD (matF a) k) = 0 then 0 else (((uD (matF a) (k + 1)) * (uE (matF a) k i j)) - ((uE (matF a) k i k) * (uE (matF a) k j k))).fmod (uD (matF a) k))), .lt ((kInt .i64).is (if (uD (matF a) k) = 0 then 11 else 0))]) (lates := [false, false, false, false, false, false, false, false, false, true, true]) (by kernel_rfl) (Chk.of rfl (by kernel_rfl) rfl) (fun _ _ _ _ _ h => h) (fun q_ x_ h_ => ?_) (fun σ2 => ?_)
          · match q_, h_ with
            | 0, h_ => cases h_; exact Ob.f rfl .n fun N => (O.ld rfl (mem_app N (mem_at 0 rfl)) (Lens.id _) ty31 rfl)
            | 1, h_ => cases h_; exact Ob.f rfl .n fun N => (O.fa rfl fld93_0 rfl)
            | 2, h_ => cases h_; exact Ob.f rfl .n fun N => (OpOk.le (O.ld (p := kVal.is vD) rfl (mem_app N (mem_at 4 rfl)) (Lens.fst (Lens.id _)) ty27 rfl) (val_ex _))
            | 3, h_ => cases h_; exact Ob.f rfl .n fun N => (O.mv rfl)
            | 4, h_ => cases h_; exact Ob.f rfl .n fun N => (O.ixR (k := kC) (xs := (gDs (matF a) i)) (n := (k : Int)) k rfl rfl (mem_app N (mem_at 5 rfl)) Try.underlying27 ty31 rfl (by first | omega | (simp only [gRow_len, gDs_len, gLs_len]; omega) | (have := hq i (by omega); omega)))
            | 5, h_ => cases h_; exact Ob.f rfl .n fun N => (O.ldR (k := kC) (xs := (gDs (matF a) i)) k rfl (mem_app N (mem_at 5 rfl)) (Lens.id _) (ho := rfl) (y := (uD (matF a) k)) (gDs_at (by omega)) ty31 rfl)
            | 6, h_ => cases h_; exact Ob.f rfl .n fun N => (O.fn fn105 (evs.l rfl (kC_Z (by first | assumption | exact (hE k (by omega) i j (by omega) (by omega)).sm (by omega) | exact (hE k (by omega) k k (by omega) (by omega)).sm (by omega) | exact (hE k (by omega) i k (by omega) (by omega)).sm (by omega) | exact (hE k (by omega) j k (by omega) (by omega)).sm (by omega) | exact (hE i (by omega) i i (by omega) (by omega)).sm (by omega) | exact (hD k (by omega)).sm (by omega) | exact (((hE k (by omega) k k (by omega) (by omega)).mul (hE k (by omega) i j (by omega) (by omega))).sub ((hE k (by omega) i k (by omega) (by omega)).mul (hE k (by omega) j k (by omega) (by omega)))).sm (by omega) | exact ((hE k (by omega) k k (by omega) (by omega)).mul (hE k (by omega) i j (by omega) (by omega))).sm (by omega) | exact ((hE k (by omega) i k (by omega) (by omega)).mul (hE k (by omega) j k (by omega) (by omega))).sm (by omega))) (evs.l rfl (kC_Z (by first | assumption | exact (hE k (by omega) i j (by omega) (by omega)).sm (by omega) | exact (hE k (by omega) k k (by omega) (by omega)).sm (by omega) | exact (hE k (by omega) i k (by omega) (by omega)).sm (by omega) | exact (hE k (by omega) j k (by omega) (by omega)).sm (by omega) | exact (hE i (by omega) i i (by omega) (by omega)).sm (by omega) | exact (hD k (by omega)).sm (by omega) | exact (((hE k (by omega) k k (by omega) (by omega)).mul (hE k (by omega) i j (by omega) (by omega))).sub ((hE k (by omega) i k (by omega) (by omega)).mul (hE k (by omega) j k (by omega) (by omega)))).sm (by omega) | exact ((hE k (by omega) k k (by omega) (by omega)).mul (hE k (by omega) i j (by omega) (by omega))).sm (by omega) | exact ((hE k (by omega) i k (by omega) (by omega)).mul (hE k (by omega) j k (by omega) (by omega))).sm (by omega))) evs.nil)) (c_zint_Floor (((uD (matF a) (k + 1)) * (uE (matF a) k i j)) - ((uE (matF a) k i k) * (uE (matF a) k j k))) (uD (matF a) k)))
            | 7, h_ => cases h_; exact Ob.f rfl .n fun N => (O.mv rfl)
            | 8, h_ => cases h_; exact Ob.f rfl .n fun N => (O.ext rfl rfl)
            | 9, h_ => cases h_; exact Ob.l rfl .n (OV.ext rfl rfl)
            | 10, h_ => cases h_; exact Ob.l rfl .n (OV.ext rfl rfl)
            | n_ + 11, h_ => simp at h_
          refine WP.t .n (O.stW (l := kC) (u := (((uD (matF a) (k + 1)) * (uE (matF a) k i j)) - ((uE (matF a) k i k) * (uE (matF a) k j k))).fdiv (uD (matF a) k)) 1 rfl rfl rfl ty31 rfl (VP.le_refl _)) ?_
          refine WP.nil ?_
          refine QE.blkN ?_
          refine QE.next ?_
          refine CW.region ?_
          refine WP.s .n (O.add rfl rfl (c := ((k : Int) + 1)) (w64 (by omega))) ?_
          refine WP.s .n (O.mv rfl) ?_
          refine WP.nil ?_
          refine ST.obtold 1 rfl (OB.box_eq (y := (uE (matF a) (k + 1) i j)) (uE_succ _ k i j).symm) ?_
          exact QE.round2 (k + 1) p (by omega) (by omega) (Imp.cons rfl (Imp.cons rfl (Imp.cons rfl (Imp.cons rfl (Imp.cons rfl (Imp.cons rfl (Imp.cons rfl (Imp.cons rfl (Imp.cons rfl (Imp.consLe rfl (is_eq (y := (((k + 1) : Nat) : Int)) (by first | rfl | omega | assumption)) (Imp.cons rfl (Imp.cons rfl Imp.nil)))))))))))) (OImp.os (OS.skip (OS.keep (OS.keep (OS.keep (OS.keep (OS.keep (OS.keep OS.nil))))))))
        · refine CW.skip ?_
          refine QE.next ?_
          refine CW.seq ?_
          refine CW.draw (Γ := [.fr (VP.ex (.pointer (some ⟨b3, 0, none⟩))), .fr (VP.ex vD), .fr ((kInt .i64).is (k : Int)), .fr ((kInt .i64).is ((k : Int) + 1)), .fr (VP.pel vD ((((k : Int) + 1)).toNat * 2)), .fr (kC.is (uD (matF a) (k + 1))), .fr (kC.is (uE (matF a) k i j)), .fr (kC.is ((uD (matF a) (k + 1)) * (uE (matF a) k i j))), .fr (VP.ex v), .fr ((kInt .i64).is (k : Int)), .fr (VP.pel v (k * 2)), .fr (kC.is (uE (matF a) k i k)), .fr (VP.ex v), .fr ((kInt .i64).is (k : Int)), .fr (VP.pel v (k * 2)), .fr (kC.is (uE (matF a) k j k)), .fr (kC.is ((uE (matF a) k i k) * (uE (matF a) k j k))), .fr (kC.is (((uD (matF a) (k + 1)) * (uE (matF a) k i j)) - ((uE (matF a) k i k) * (uE (matF a) k j k)))), .al (fun b => OB.box b 31 kC 0)]) (lates := [false, false, false, false, false, false, false, false, false, false, false, false, false, false, false, false, false, false, false]) (by kernel_rfl) (Chk.of rfl (by kernel_rfl) rfl) (fun _ _ _ _ _ h => h) (fun q_ x_ h_ => ?_) (fun σ3 => ?_)
          · match q_, h_ with
            | 0, h_ => cases h_; exact Ob.f rfl .n fun N => (O.fa rfl fld93_0 rfl)
            | 1, h_ => cases h_; exact Ob.f rfl .n fun N => (OpOk.le (O.ld (p := kVal.is vD) rfl (mem_app N (mem_at 3 rfl)) (Lens.fst (Lens.id _)) ty27 rfl) (val_ex _))
            | 2, h_ => cases h_; exact Ob.f rfl .n fun N => (O.mv rfl)
            | 3, h_ => cases h_; exact Ob.f rfl .n fun N => (O.add rfl rfl (c := ((k : Int) + 1)) (w64 (by omega)))
            | 4, h_ => cases h_; exact Ob.f rfl .n fun N => (O.ixR (k := kC) (xs := (gDs (matF a) i)) (n := ((k : Int) + 1)) ((((k : Int) + 1)).toNat) rfl rfl (mem_app N (mem_at 4 rfl)) Try.underlying27 ty31 (by omega) (by first | omega | (simp only [gRow_len, gDs_len, gLs_len]; omega) | (have := hq i (by omega); omega)))
            | 5, h_ => cases h_; exact Ob.f rfl .n fun N => (O.ldR (k := kC) (xs := (gDs (matF a) i)) ((((k : Int) + 1)).toNat) rfl (mem_app N (mem_at 4 rfl)) (Lens.id _) (ho := rfl) (y := (uD (matF a) (k + 1))) (gDs_at (by omega)) ty31 rfl)
            | 6, h_ => cases h_; exact Ob.f rfl .n fun N => (O.ld rfl (mem_app N (mem_at 0 rfl)) (Lens.id _) ty31 rfl)
            | 7, h_ => cases h_; exact Ob.f rfl .n fun N => (O.fn fn76 (evs.l rfl (kC_Z (by first | assumption | exact (hE k (by omega) i j (by omega) (by omega)).sm (by omega) | exact (hE k (by omega) k k (by omega) (by omega)).sm (by omega) | exact (hE k (by omega) i k (by omega) (by omega)).sm (by omega) | exact (hE k (by omega) j k (by omega) (by omega)).sm (by omega) | exact (hE i (by omega) i i (by omega) (by omega)).sm (by omega) | exact (hD k (by omega)).sm (by omega) | exact (((hE k (by omega) k k (by omega) (by omega)).mul (hE k (by omega) i j (by omega) (by omega))).sub ((hE k (by omega) i k (by omega) (by omega)).mul (hE k (by omega) j k (by omega) (by omega)))).sm (by omega) | exact ((hE k (by omega) k k (by omega) (by omega)).mul (hE k (by omega) i j (by omega) (by omega))).sm (by omega) | exact ((hE k (by omega) i k (by omega) (by omega)).mul (hE k (by omega) j k (by omega) (by omega))).sm (by omega))) (evs.l rfl (kC_Z (by first | assumption | exact (hE k (by omega) i j (by omega) (by omega)).sm (by omega) | exact (hE k (by omega) k k (by omega) (by omega)).sm (by omega) | exact (hE k (by omega) i k (by omega) (by omega)).sm (by omega) | exact (hE k (by omega) j k (by omega) (by omega)).sm (by omega) | exact (hE i (by omega) i i (by omega) (by omega)).sm (by omega) | exact (hD k (by omega)).sm (by omega) | exact (((hE k (by omega) k k (by omega) (by omega)).mul (hE k (by omega) i j (by omega) (by omega))).sub ((hE k (by omega) i k (by omega) (by omega)).mul (hE k (by omega) j k (by omega) (by omega)))).sm (by omega) | exact ((hE k (by omega) k k (by omega) (by omega)).mul (hE k (by omega) i j (by omega) (by omega))).sm (by omega) | exact ((hE k (by omega) i k (by omega) (by omega)).mul (hE k (by omega) j k (by omega) (by omega))).sm (by omega))) evs.nil)) (c_zint_Mul (uD (matF a) (k + 1)) (uE (matF a) k i j)))
            | 8, h_ => cases h_; exact Ob.f rfl .n fun N => (O.mv rfl)
            | 9, h_ => cases h_; exact Ob.f rfl .n fun N => (O.mv rfl)
            | 10, h_ => cases h_; exact Ob.f rfl .n fun N => (O.ixR (k := kC) (xs := (gRow (matF a) i j)) (n := (k : Int)) k rfl rfl (mem_app N (mem_at 1 rfl)) Try.underlying27 ty31 rfl (by first | omega | (simp only [gRow_len, gDs_len, gLs_len]; omega) | (have := hq i (by omega); omega)))
            | 11, h_ => cases h_; exact Ob.f rfl .n fun N => (O.ldR (k := kC) (xs := (gRow (matF a) i j)) k rfl (mem_app N (mem_at 1 rfl)) (Lens.id _) (ho := rfl) (y := (uE (matF a) k i k)) (gRow_at (by omega)) ty31 rfl)
            | 12, h_ => cases h_; exact Ob.f rfl .n fun N => (O.mv rfl)
            | 13, h_ => cases h_; exact Ob.f rfl .n fun N => (O.mv rfl)
            | 14, h_ => cases h_; exact Ob.f rfl .n fun N => (O.ixR (k := kC) (xs := (gRow (matF a) i j)) (n := (k : Int)) k rfl rfl (mem_app N (mem_at 1 rfl)) Try.underlying27 ty31 rfl (by first | omega | (simp only [gRow_len, gDs_len, gLs_len]; omega) | (have := hq i (by omega); omega)))
            | 15, h_ => cases h_; exact Ob.f rfl .n fun N => (O.ldR (k := kC) (xs := (gRow (matF a) i j)) k rfl (mem_app N (mem_at 1 rfl)) (Lens.id _) (ho := rfl) (y := (uE (matF a) k j k)) (by rw [show j = i by omega]; exact gRow_at (by omega)) ty31 rfl)
            | 16, h_ => cases h_; exact Ob.f rfl .n fun N => (O.fn fn76 (evs.l rfl (kC_Z (by first | assumption | exact (hE k (by omega) i j (by omega) (by omega)).sm (by omega) | exact (hE k (by omega) k k (by omega) (by omega)).sm (by omega) | exact (hE k (by omega) i k (by omega) (by omega)).sm (by omega) | exact (hE k (by omega) j k (by omega) (by omega)).sm (by omega) | exact (hE i (by omega) i i (by omega) (by omega)).sm (by omega) | exact (hD k (by omega)).sm (by omega) | exact (((hE k (by omega) k k (by omega) (by omega)).mul (hE k (by omega) i j (by omega) (by omega))).sub ((hE k (by omega) i k (by omega) (by omega)).mul (hE k (by omega) j k (by omega) (by omega)))).sm (by omega) | exact ((hE k (by omega) k k (by omega) (by omega)).mul (hE k (by omega) i j (by omega) (by omega))).sm (by omega) | exact ((hE k (by omega) i k (by omega) (by omega)).mul (hE k (by omega) j k (by omega) (by omega))).sm (by omega))) (evs.l rfl (kC_Z (by first | assumption | exact (hE k (by omega) i j (by omega) (by omega)).sm (by omega) | exact (hE k (by omega) k k (by omega) (by omega)).sm (by omega) | exact (hE k (by omega) i k (by omega) (by omega)).sm (by omega) | exact (hE k (by omega) j k (by omega) (by omega)).sm (by omega) | exact (hE i (by omega) i i (by omega) (by omega)).sm (by omega) | exact (hD k (by omega)).sm (by omega) | exact (((hE k (by omega) k k (by omega) (by omega)).mul (hE k (by omega) i j (by omega) (by omega))).sub ((hE k (by omega) i k (by omega) (by omega)).mul (hE k (by omega) j k (by omega) (by omega)))).sm (by omega) | exact ((hE k (by omega) k k (by omega) (by omega)).mul (hE k (by omega) i j (by omega) (by omega))).sm (by omega) | exact ((hE k (by omega) i k (by omega) (by omega)).mul (hE k (by omega) j k (by omega) (by omega))).sm (by omega))) evs.nil)) (c_zint_Mul (uE (matF a) k i k) (uE (matF a) k j k)))
            | 17, h_ => cases h_; exact Ob.f rfl .n fun N => (O.fn fn157 (evs.l rfl (kC_Z (by first | assumption | exact (hE k (by omega) i j (by omega) (by omega)).sm (by omega) | exact (hE k (by omega) k k (by omega) (by omega)).sm (by omega) | exact (hE k (by omega) i k (by omega) (by omega)).sm (by omega) | exact (hE k (by omega) j k (by omega) (by omega)).sm (by omega) | exact (hE i (by omega) i i (by omega) (by omega)).sm (by omega) | exact (hD k (by omega)).sm (by omega) | exact (((hE k (by omega) k k (by omega) (by omega)).mul (hE k (by omega) i j (by omega) (by omega))).sub ((hE k (by omega) i k (by omega) (by omega)).mul (hE k (by omega) j k (by omega) (by omega)))).sm (by omega) | exact ((hE k (by omega) k k (by omega) (by omega)).mul (hE k (by omega) i j (by omega) (by omega))).sm (by omega) | exact ((hE k (by omega) i k (by omega) (by omega)).mul (hE k (by omega) j k (by omega) (by omega))).sm (by omega))) (evs.l rfl (kC_Z (by first | assumption | exact (hE k (by omega) i j (by omega) (by omega)).sm (by omega) | exact (hE k (by omega) k k (by omega) (by omega)).sm (by omega) | exact (hE k (by omega) i k (by omega) (by omega)).sm (by omega) | exact (hE k (by omega) j k (by omega) (by omega)).sm (by omega) | exact (hE i (by omega) i i (by omega) (by omega)).sm (by omega) | exact (hD k (by omega)).sm (by omega) | exact (((hE k (by omega) k k (by omega) (by omega)).mul (hE k (by omega) i j (by omega) (by omega))).sub ((hE k (by omega) i k (by omega) (by omega)).mul (hE k (by omega) j k (by omega) (by omega)))).sm (by omega) | exact ((hE k (by omega) k k (by omega) (by omega)).mul (hE k (by omega) i j (by omega) (by omega))).sm (by omega) | exact ((hE k (by omega) i k (by omega) (by omega)).mul (hE k (by omega) j k (by omega) (by omega))).sm (by omega))) evs.nil)) (c_zint_Sub ((uD (matF a) (k + 1)) * (uE (matF a) k i j)) ((uE (matF a) k i k) * (uE (matF a) k j k))))
            | 18, h_ => cases h_; exact Ob.a rfl z31_C
            | n_ + 19, h_ => simp at h_
          refine WP.t .n (O.stW (l := kC) (u := ((uD (matF a) (k + 1)) * (uE (matF a) k i j)) - ((uE (matF a) k i k) * (uE (matF a) k j k))) 0 rfl rfl rfl ty31 rfl (VP.le_refl _)) ?_
          refine WP.nil ?_
          refine QE.next ?_
          refine CW.draw (Γ := [.fr (kC.is (((uD (matF a) (k + 1)) * (uE (matF a) k i j)) - ((uE (matF a) k i k) * (uE (matF a) k j k)))), .fr (VP.ex (.pointer (some ⟨b3, 0, none⟩))), .fr (VP.ex vD), .fr ((kInt .i64).is (k : Int)), .fr (VP.pel vD (k * 2)), .fr (kC.is (uD (matF a) k)), .fr (VP.tup [kC.is ((((uD (matF a) (k + 1)) * (uE (matF a) k i j)) - ((uE (matF a) k i k) * (uE (matF a) k j k))).fdiv (uD (matF a) k)), kC.is (if (uD (matF a) k) = 0 then 0 else (((uD (matF a) (k + 1)) * (uE (matF a) k i j)) - ((uE (matF a) k i k) * (uE (matF a) k j k))).fmod (uD (matF a) k)), (kInt .i64).is (if (uD (matF a) k) = 0 then 11 else 0)]), .fr (VP.tup [kC.is ((((uD (matF a) (k + 1)) * (uE (matF a) k i j)) - ((uE (matF a) k i k) * (uE (matF a) k j k))).fdiv (uD (matF a) k)), kC.is (if (uD (matF a) k) = 0 then 0 else (((uD (matF a) (k + 1)) * (uE (matF a) k i j)) - ((uE (matF a) k i k) * (uE (matF a) k j k))).fmod (uD (matF a) k)), (kInt .i64).is (if (uD (matF a) k) = 0 then 11 else 0)]), .fr (kC.is ((((uD (matF a) (k + 1)) * (uE (matF a) k i j)) - ((uE (matF a) k i k) * (uE (matF a) k j k))).fdiv (uD (matF a) k))), .lt (kC.is (if (uD (matF a) k) = 0 then 0 else (((uD (matF a) (k + 1)) * (uE (matF a) k i j)) - ((uE (matF a) k i k) * (uE (matF a) k j k))).fmod (uD (matF a) k))), .lt ((kInt .i64).is (if (uD (matF a) k) = 0 then 11 else 0))]) (lates := [false, false, false, false, false, false, false, false, false, true, true]) (by kernel_rfl) (Chk.of rfl (by kernel_rfl) rfl) (fun _ _ _ _ _ h => h) (fun q_ x_ h_ => ?_) (fun σ4 => ?_)
          · match q_, h_ with
            | 0, h_ => cases h_; exact Ob.f rfl .n fun N => (O.ld rfl (mem_app N (mem_at 0 rfl)) (Lens.id _) ty31 rfl)
            | 1, h_ => cases h_; exact Ob.f rfl .n fun N => (O.fa rfl fld93_0 rfl)
            | 2, h_ => cases h_; exact Ob.f rfl .n fun N => (OpOk.le (O.ld (p := kVal.is vD) rfl (mem_app N (mem_at 4 rfl)) (Lens.fst (Lens.id _)) ty27 rfl) (val_ex _))
            | 3, h_ => cases h_; exact Ob.f rfl .n fun N => (O.mv rfl)
            | 4, h_ => cases h_; exact Ob.f rfl .n fun N => (O.ixR (k := kC) (xs := (gDs (matF a) i)) (n := (k : Int)) k rfl rfl (mem_app N (mem_at 5 rfl)) Try.underlying27 ty31 rfl (by first | omega | (simp only [gRow_len, gDs_len, gLs_len]; omega) | (have := hq i (by omega); omega)))
            | 5, h_ => cases h_; exact Ob.f rfl .n fun N => (O.ldR (k := kC) (xs := (gDs (matF a) i)) k rfl (mem_app N (mem_at 5 rfl)) (Lens.id _) (ho := rfl) (y := (uD (matF a) k)) (gDs_at (by omega)) ty31 rfl)
            | 6, h_ => cases h_; exact Ob.f rfl .n fun N => (O.fn fn105 (evs.l rfl (kC_Z (by first | assumption | exact (hE k (by omega) i j (by omega) (by omega)).sm (by omega) | exact (hE k (by omega) k k (by omega) (by omega)).sm (by omega) | exact (hE k (by omega) i k (by omega) (by omega)).sm (by omega) | exact (hE k (by omega) j k (by omega) (by omega)).sm (by omega) | exact (hE i (by omega) i i (by omega) (by omega)).sm (by omega) | exact (hD k (by omega)).sm (by omega) | exact (((hE k (by omega) k k (by omega) (by omega)).mul (hE k (by omega) i j (by omega) (by omega))).sub ((hE k (by omega) i k (by omega) (by omega)).mul (hE k (by omega) j k (by omega) (by omega)))).sm (by omega) | exact ((hE k (by omega) k k (by omega) (by omega)).mul (hE k (by omega) i j (by omega) (by omega))).sm (by omega) | exact ((hE k (by omega) i k (by omega) (by omega)).mul (hE k (by omega) j k (by omega) (by omega))).sm (by omega))) (evs.l rfl (kC_Z (by first | assumption | exact (hE k (by omega) i j (by omega) (by omega)).sm (by omega) | exact (hE k (by omega) k k (by omega) (by omega)).sm (by omega) | exact (hE k (by omega) i k (by omega) (by omega)).sm (by omega) | exact (hE k (by omega) j k (by omega) (by omega)).sm (by omega) | exact (hE i (by omega) i i (by omega) (by omega)).sm (by omega) | exact (hD k (by omega)).sm (by omega) | exact (((hE k (by omega) k k (by omega) (by omega)).mul (hE k (by omega) i j (by omega) (by omega))).sub ((hE k (by omega) i k (by omega) (by omega)).mul (hE k (by omega) j k (by omega) (by omega)))).sm (by omega) | exact ((hE k (by omega) k k (by omega) (by omega)).mul (hE k (by omega) i j (by omega) (by omega))).sm (by omega) | exact ((hE k (by omega) i k (by omega) (by omega)).mul (hE k (by omega) j k (by omega) (by omega))).sm (by omega))) evs.nil)) (c_zint_Floor (((uD (matF a) (k + 1)) * (uE (matF a) k i j)) - ((uE (matF a) k i k) * (uE (matF a) k j k))) (uD (matF a) k)))
            | 7, h_ => cases h_; exact Ob.f rfl .n fun N => (O.mv rfl)
            | 8, h_ => cases h_; exact Ob.f rfl .n fun N => (O.ext rfl rfl)
            | 9, h_ => cases h_; exact Ob.l rfl .n (OV.ext rfl rfl)
            | 10, h_ => cases h_; exact Ob.l rfl .n (OV.ext rfl rfl)
            | n_ + 11, h_ => simp at h_
          refine WP.t .n (O.stW (l := kC) (u := (((uD (matF a) (k + 1)) * (uE (matF a) k i j)) - ((uE (matF a) k i k) * (uE (matF a) k j k))).fdiv (uD (matF a) k)) 1 rfl rfl rfl ty31 rfl (VP.le_refl _)) ?_
          refine WP.nil ?_
          refine QE.blkN ?_
          refine QE.next ?_
          refine CW.region ?_
          refine WP.s .n (O.add rfl rfl (c := ((k : Int) + 1)) (w64 (by omega))) ?_
          refine WP.s .n (O.mv rfl) ?_
          refine WP.nil ?_
          refine ST.obtold 1 rfl (OB.box_eq (y := (uE (matF a) (k + 1) i j)) (uE_succ _ k i j).symm) ?_
          exact QE.round2 (k + 1) p (by omega) (by omega) (Imp.cons rfl (Imp.cons rfl (Imp.cons rfl (Imp.cons rfl (Imp.cons rfl (Imp.cons rfl (Imp.cons rfl (Imp.cons rfl (Imp.cons rfl (Imp.consLe rfl (is_eq (y := (((k + 1) : Nat) : Int)) (by first | rfl | omega | assumption)) (Imp.cons rfl (Imp.cons rfl Imp.nil)))))))))))) (OImp.os (OS.skip (OS.keep (OS.keep (OS.keep (OS.keep (OS.keep (OS.keep OS.nil))))))))
      · refine CW.exit ?_
        refine QE.thenE ?_
        refine QE.thenE ?_
        refine QE.blkH ?_
        refine QE.next ?_
        refine CW.region ?_
        refine WP.s .n (O.mv rfl) ?_
        refine WP.s .n (O.ld rfl (mem_at 0 rfl) (Lens.id _) ty31 rfl) ?_
        refine WP.s .n (O.bs Try.underlying27 el31_C (evl.c rfl evl.n) rfl (by decide)) ?_
        refine WP.ap 1 .n rfl rfl rfl (VP.le_refl _) Try.underlying27 el31_C (by simp only [gRow_len, gDs_len, gLs_len, List.length_cons, List.length_nil]; omega) fun v5 => ?_
        refine WP.s .n (O.asg rfl) ?_
        refine WP.nil ?_
        refine QE.blkN ?_
        refine QE.next ?_
        refine CW.region ?_
        refine WP.s .n (O.mv rfl) ?_
        refine WP.s .n (O.add rfl rfl (c := ((j : Int) + 1)) (w64 (by omega))) ?_
        refine WP.s .n (O.asg rfl) ?_
        refine WP.nil ?_
        refine ST.obtold 1 rfl (OB.row_eq (ys := (gRow (matF a) i (j + 1))) (by rw [show k = j by omega]; exact gRow_app (matF a) i j)) ?_
        exact QE.round2 (j + 1) v5 (by omega) (by omega) (Imp.cons rfl (Imp.cons rfl (Imp.cons rfl (Imp.cons rfl (Imp.cons rfl (Imp.cons rfl (Imp.consLe rfl (is_eq (y := (((j + 1) : Nat) : Int)) (by first | rfl | omega | assumption)) (Imp.cons rfl (Imp.cons rfl Imp.nil))))))))) (OImp.os (OS.skip (OS.keep (OS.keep (OS.keep (OS.keep (OS.keep OS.nil)))))))
    · refine CW.exit ?_
      refine QE.thenE ?_
      refine QE.thenE ?_
      refine QE.blkH ?_
      refine QE.next ?_
      refine CW.seq ?_
      refine CW.seq ?_
      refine ST.obtold 0 rfl (OB.row_eq (ys := (gRow (matF a) i (i + 1))) (by rw [show j = i + 1 by omega])) ?_
      have hE := uE_Sz hs hz hP
      have hD := uD_Sz hs hz hP
      have hUi := hU i (by omega)
      refine CW.region ?_
      refine WP.s .n (O.mv rfl) ?_
      refine WP.s .n (O.mv rfl) ?_
      refine WP.s .n (O.ixR (k := kC) (xs := (gRow (matF a) i (i + 1))) (n := (i : Int)) i rfl rfl (mem_at 0 rfl) Try.underlying27 ty31 rfl (by first | omega | (simp only [gRow_len, gDs_len, gLs_len]; omega) | (have := hq i (by omega); omega))) ?_
      refine WP.s .n (O.ldR (k := kC) (xs := (gRow (matF a) i (i + 1))) i rfl (mem_at 0 rfl) (Lens.id _) (ho := rfl) (y := (uE (matF a) i i i)) (gRow_at (by omega)) ty31 rfl) ?_
      refine WP.s .n (O.fn fn80 (evs.l rfl (kC_Z (by first | assumption | exact (hE k (by omega) i j (by omega) (by omega)).sm (by omega) | exact (hE k (by omega) k k (by omega) (by omega)).sm (by omega) | exact (hE k (by omega) i k (by omega) (by omega)).sm (by omega) | exact (hE k (by omega) j k (by omega) (by omega)).sm (by omega) | exact (hE i (by omega) i i (by omega) (by omega)).sm (by omega) | exact (hD k (by omega)).sm (by omega) | exact (((hE k (by omega) k k (by omega) (by omega)).mul (hE k (by omega) i j (by omega) (by omega))).sub ((hE k (by omega) i k (by omega) (by omega)).mul (hE k (by omega) j k (by omega) (by omega)))).sm (by omega) | exact ((hE k (by omega) k k (by omega) (by omega)).mul (hE k (by omega) i j (by omega) (by omega))).sm (by omega) | exact ((hE k (by omega) i k (by omega) (by omega)).mul (hE k (by omega) j k (by omega) (by omega))).sm (by omega))) evs.nil) (c_zint_Sign (uE (matF a) i i i))) ?_
      refine WP.s .n (O.le rfl rfl) ?_
      refine WP.nil ?_
      refine QE.next ?_
      refine CW.condD rfl (fun h_t85 => ?_) (fun h_t85 => ?_)
      · refine CW.seq ?_
        refine CW.region ?_
        refine WP.s .n (O.bld lit93_pr_sl_C_sl_sl_C_ rfl evp.n (.nil _)) ?_
        refine WP.t .n (O.stW (l := (kPair (kSl kC) (kSl (kSl kC)))) (u := ([], [])) 4 rfl rfl rfl ty93 rfl (VP.le_refl _)) ?_
        refine WP.s .n (O.asg rfl) ?_
        refine WP.nil ?_
        refine QE.next ?_
        refine CW.ret ?_
        refine QE.thenR ?_
        refine QE.blkR ?_
        refine QE.thenR ?_
        refine QE.thenR ?_
        refine QE.blkR ?_
        refine QE.thenR ?_
        refine ST.obtold 4 rfl (OB.box_eq (y := (gsoV (matF a) a.length)) (gso_no (by omega) h_t85).2.symm) ?_
        refine ST.told 3 rfl (is_eq (y := (gOk (matF a) a.length)) (gso_no (by omega) h_t85).1.symm) ?_
        exact QE.done (.inl rfl) rfl (ResOk.c rfl (mem_at 4 rfl) ty93 (ResOk.t rfl ResOk.nil)) (OImp.sub (List.nil_sublist _)) ⟨rfl, rfl⟩
      · refine CW.skip ?_
        refine QE.next ?_
        refine CW.seq ?_
        refine CW.draw (Γ := [.fr (VP.ex (.pointer (some ⟨b3, 0, none⟩))), .fr (VP.ex vD), .fr (VP.ex v), .fr ((kInt .i64).is (i : Int)), .fr (VP.pel v (i * 2)), .fr (kC.is (uE (matF a) i i i)), .fr ((kSl kC).is [(uE (matF a) i i i)])]) (lates := [false, false, false, false, false, false, false]) (by kernel_rfl) (Chk.of rfl (by kernel_rfl) rfl) (fun _ _ _ _ _ h => h) (fun q_ x_ h_ => ?_) (fun σ5 => ?_)
        · match q_, h_ with
          | 0, h_ => cases h_; exact Ob.f rfl .n fun N => (O.fa rfl fld93_0 rfl)
          | 1, h_ => cases h_; exact Ob.f rfl .n fun N => (OpOk.le (O.ld (p := kVal.is vD) rfl (mem_app N (mem_at 2 rfl)) (Lens.fst (Lens.id _)) ty27 rfl) (val_ex _))
          | 2, h_ => cases h_; exact Ob.f rfl .n fun N => (O.mv rfl)
          | 3, h_ => cases h_; exact Ob.f rfl .n fun N => (O.mv rfl)
          | 4, h_ => cases h_; exact Ob.f rfl .n fun N => (O.ixR (k := kC) (xs := (gRow (matF a) i (i + 1))) (n := (i : Int)) i rfl rfl (mem_app N (mem_at 0 rfl)) Try.underlying27 ty31 rfl (by first | omega | (simp only [gRow_len, gDs_len, gLs_len]; omega) | (have := hq i (by omega); omega)))
          | 5, h_ => cases h_; exact Ob.f rfl .n fun N => (O.ldR (k := kC) (xs := (gRow (matF a) i (i + 1))) i rfl (mem_app N (mem_at 0 rfl)) (Lens.id _) (ho := rfl) (y := (uE (matF a) i i i)) (gRow_at (by omega)) ty31 rfl)
          | 6, h_ => cases h_; exact Ob.f rfl .n fun N => (O.bs Try.underlying27 el31_C (evl.c rfl evl.n) rfl (by decide))
          | n_ + 7, h_ => simp at h_
        refine WP.ap 3 .n rfl rfl rfl (VP.le_refl _) Try.underlying27 el31_C (by simp only [gRow_len, gDs_len, gLs_len, List.length_cons, List.length_nil]; omega) fun v6 => ?_
        refine WP.s .n (O.fa rfl fld93_0 rfl) ?_
        refine ST.rowcell 3 rfl fun hcell_ => ?_
        refine WP.t .n (O.st 2 rfl rfl (Lens.fst (Lens.id _)) ty27 rfl (ex_val (by first | rfl | assumption))) ?_
        refine WP.nil ?_
        refine QE.next ?_
        refine ST.freeze 0 rfl (.keep (i := 0) rfl (.keep (i := 2) rfl (.keep (i := 3) rfl (.keep (i := 4) rfl (.keep (i := 5) rfl (.hit (i := 6) rfl (.keep (i := 7) rfl (.keep (i := 16) rfl (.keep (i := 17) rfl (.keep (i := 20) rfl (.keep (i := 21) rfl (.keep (i := 22) rfl (.hit (i := 80) rfl (.keep (i := 81) rfl (.keep (i := 82) rfl (.keep (i := 83) rfl (.keep (i := 84) rfl (.keep (i := 85) rfl (.keep (i := 87) rfl (.keep (i := 88) rfl (.hit (i := 89) rfl (.keep (i := 90) rfl (.keep (i := 91) rfl (.keep (i := 92) rfl (.keep (i := 93) rfl (.keep (i := 94) rfl (.keep (i := 95) rfl .nil))))))))))))))))))))))))))) ?_
        refine CW.draw (Γ := [.fr (VP.ex (.pointer (some ⟨b3, 1, none⟩))), .fr (VP.ex vL), .fr ((kSl kC).is (gRow (matF a) i (i + 1))), .fr ((kInt .i64).is (i : Int)), .fr ((kInt .i64).is (i : Int)), .fr ((kSl kC).is ((gRow (matF a) i (i + 1)).take i)), .fr ((kSl (kSl kC)).is [((gRow (matF a) i (i + 1)).take i)])]) (lates := [false, false, false, false, false, false, false]) (by kernel_rfl) (Chk.of rfl (by kernel_rfl) rfl) (fun _ _ _ _ _ h => h) (fun q_ x_ h_ => ?_) (fun σ6 => ?_)
        · match q_, h_ with
          | 0, h_ => cases h_; exact Ob.f rfl .n fun N => (O.fa rfl fld93_1 rfl)
          | 1, h_ => cases h_; exact Ob.f rfl .n fun N => (OpOk.le (O.ld (p := kVal.is vL) rfl (mem_app N (mem_at 1 rfl)) (Lens.snd (Lens.id _)) ty67 rfl) (val_ex _))
          | 2, h_ => cases h_; exact Ob.f rfl .n fun N => (O.mv rfl)
          | 3, h_ => cases h_; exact Ob.f rfl .n fun N => (O.mv rfl)
          | 4, h_ => cases h_; exact Ob.f rfl .n fun N => (O.mv rfl)
          | 5, h_ => cases h_; exact Ob.f rfl .n fun N => (O.sl3 i rfl rfl rfl Try.underlying27 ty31 rfl rfl (by first | omega | (simp only [gRow_len, gDs_len, gLs_len]; omega) | (have := hq i (by omega); omega)))
          | 6, h_ => cases h_; exact Ob.f rfl .n fun N => (O.bs Try.underlying67 el27_sl_C (evl.c rfl evl.n) rfl (by decide))
          | n_ + 7, h_ => simp at h_
        refine WP.ap 0 .n rfl rfl rfl (VP.le_refl _) Try.underlying67 el27_sl_C (by simp only [gRow_len, gDs_len, gLs_len, List.length_cons, List.length_nil]; omega) fun v7 => ?_
        refine WP.s .n (O.fa rfl fld93_1 rfl) ?_
        refine ST.rowcell 0 rfl fun hcell_ => ?_
        refine WP.t .n (O.st 1 rfl rfl (Lens.snd (Lens.id _)) ty67 rfl (ex_val (by first | rfl | assumption))) ?_
        refine WP.nil ?_
        refine QE.blkN ?_
        refine QE.next ?_
        refine CW.region ?_
        refine WP.s .n (O.add rfl rfl (c := ((i : Int) + 1)) (w64 (by omega))) ?_
        refine WP.s .n (O.mv rfl) ?_
        refine WP.nil ?_
        refine ST.obtold 2 rfl (OB.row_eq (ys := (gDs (matF a) (i + 1))) (gDs_app (matF a) i)) ?_
        refine ST.obtold 0 rfl (OB.row_eq (ys := (gLs (matF a) (i + 1))) (by rw [gRow_take]; exact gLs_app (matF a) i)) ?_
        exact QE.round3 (i + 1) v6 v7 (by omega) ⟨by omega, posU_succ hP h_t85⟩ (Imp.cons rfl (Imp.cons rfl (Imp.cons rfl (Imp.cons rfl (Imp.cons rfl (Imp.consLe rfl (is_eq (y := (((i + 1) : Nat) : Int)) (by first | rfl | omega | assumption)) Imp.nil)))))) (OImp.refl _)
  · refine CW.exit ?_
    refine QE.thenE ?_
    refine QE.thenE ?_
    refine QE.blkH ?_
    refine QE.next ?_
    refine CW.seq ?_
    refine ST.freezeIn (k2 := (kPair (kSl kC) kVal)) ((gDs (matF a) i), vL) 2 1 rfl rfl (fun m_ cs_ h_ c_ => fz_fst m_ cs_ h_ c_) (.keep (i := 0) rfl (.keep (i := 2) rfl (.keep (i := 3) rfl (.keep (i := 4) rfl (.keep (i := 16) rfl (.keep (i := 17) rfl (.keep (i := 18) rfl .nil))))))) ?_
    refine ST.freezeIn (k2 := (kPair (kSl kC) (kSl (kSl kC)))) ((gDs (matF a) i), (gLs (matF a) i)) 0 0 rfl rfl (fun m_ cs_ h_ c_ => fz_snd m_ cs_ h_ c_) (.keep (i := 0) rfl (.keep (i := 2) rfl (.keep (i := 3) rfl (.keep (i := 4) rfl (.keep (i := 16) rfl (.keep (i := 17) rfl (.keep (i := 18) rfl .nil))))))) ?_
    have hib : i = a.length := by omega
    refine CW.region ?_
    refine WP.s .n (O.ld (p := (kPair (kSl kC) (kSl (kSl kC))).is ((gDs (matF a) i), (gLs (matF a) i))) rfl (mem_at 0 rfl) (Lens.id _) ty93 rfl) ?_
    refine WP.t .n (O.stW (l := (kPair (kSl kC) (kSl (kSl kC)))) (u := ((gDs (matF a) i), (gLs (matF a) i))) 1 rfl rfl rfl ty93 rfl (VP.le_refl _)) ?_
    refine WP.s .n (O.asg rfl) ?_
    refine WP.nil ?_
    refine QE.next ?_
    refine CW.ret ?_
    refine ST.obtold 1 rfl (OB.box_eq (y := (gsoV (matF a) a.length)) (by rw [hib]; rw [hib] at hP; exact (gso_yes hP).2.symm)) ?_
    refine ST.told 3 rfl (is_eq (y := (gOk (matF a) a.length)) (by rw [hib] at hP; exact (gso_yes hP).1.symm)) ?_
    exact QE.done (.inl rfl) rfl (ResOk.c rfl (mem_at 1 rfl) ty93 (ResOk.t rfl ResOk.nil)) (OImp.sub (List.nil_sublist _)) ⟨rfl, rfl⟩

set_option maxRecDepth 20000 in
set_option maxHeartbeats 1000000 in
theorem c_quad_Valid (a : List (List Int)) : Fn Try.prog 51 [(kSl (kSl kZ)).is a] ((kInt .i64).is (quadE a)) := by
  refine Con.enter Try.func51 rfl rfl fun m w => ?_
  refine CW.seq ?_
  refine CW.region ?_
  refine WP.s .n (O.asg rfl) ?_
  refine WP.nil ?_
  refine QE.next ?_
  refine CW.seq ?_
  refine CW.seq ?_
  refine CW.region ?_
  refine WP.s .n (O.mv rfl) ?_
  refine WP.s .n (O.fn fn112 (evs.c rfl evs.nil) (c_quad_shaped a)) ?_
  refine WP.s .n (O.asg rfl) ?_
  refine WP.nil ?_
  refine QE.next ?_
  refine CW.seq ?_
  refine CW.region ?_
  refine WP.s .n (O.mv rfl) ?_
  refine WP.s .n (O.ne rfl rfl) ?_
  refine WP.nil ?_
  refine QE.next ?_
  refine CW.condD rfl (fun h_t9 => ?_) (fun h_t9 => ?_)
  · refine CW.seq ?_
    refine CW.region ?_
    refine WP.s .n (O.mv rfl) ?_
    refine WP.s .n (O.asg rfl) ?_
    refine WP.nil ?_
    refine QE.next ?_
    refine CW.ret ?_
    refine QE.thenR ?_
    refine ST.told 2 rfl (is_eq (y := (quadE a)) (quadE_1 (by omega)).symm) ?_
    exact QE.done (.inl rfl) rfl (ResOk.t rfl ResOk.nil) (OImp.sub (List.nil_sublist _)) ⟨rfl, rfl⟩
  · refine CW.skip ?_
    refine QE.next ?_
    refine CW.seq ?_
    refine CW.seq ?_
    have hM := sqm_of (a := a) (by omega)
    refine CW.region ?_
    refine WP.s .n (O.mv rfl) ?_
    refine WP.s .n (O.fn fn113 (evs.c rfl evs.nil) (c_quad_data 256 a (by first | exact hM.z | exact hM.q | exact hM.s | exact hM.n | decide) (by first | exact hM.z | exact hM.q | exact hM.s | exact hM.n | decide) (by first | exact hM.z | exact hM.q | exact hM.s | exact hM.n | decide) (by first | exact hM.z | exact hM.q | exact hM.s | exact hM.n | decide) (by first | exact hM.z | exact hM.q | exact hM.s | exact hM.n | decide))) ?_
    refine WP.s .n (O.mv rfl) ?_
    refine WP.s .n (O.ext rfl rfl) ?_
    refine WP.s .n (O.ext rfl rfl) ?_
    refine WP.al .n z93_pr_sl_C_sl_sl_C_ fun b1 => ?_
    refine WP.t .n (O.stW (l := (kPair (kSl kC) (kSl (kSl kC)))) (u := gsoV (matF a) a.length) 0 rfl rfl rfl ty93 rfl (VP.le_refl _)) ?_
    refine WP.s .n (O.asg rfl) ?_
    refine WP.nil ?_
    refine QE.next ?_
    refine CW.seq ?_
    refine CW.region ?_
    refine WP.s .n (O.mv rfl) ?_
    refine WP.s .n (O.not rfl) ?_
    refine WP.nil ?_
    refine QE.next ?_
    refine CW.cond rfl (fun h_t17 => ?_) (fun h_t17 => ?_)
    · refine CW.seq ?_
      refine CW.region ?_
      refine WP.s .n (O.asg rfl) ?_
      refine WP.nil ?_
      refine QE.next ?_
      refine CW.ret ?_
      refine QE.thenR ?_
      refine ST.told 2 rfl (is_eq (y := (quadE a)) (quadE_2 (by omega) (by simpa using h_t17)).symm) ?_
      exact QE.done (.inl rfl) rfl (ResOk.t rfl ResOk.nil) (OImp.sub (List.nil_sublist _)) ⟨rfl, rfl⟩
    · refine CW.skip ?_
      refine QE.next ?_
      refine CW.seq ?_
      refine CW.region ?_
      refine WP.s .n (O.asg rfl) ?_
      refine WP.nil ?_
      refine QE.next ?_
      refine CW.ret ?_
      refine ST.told 2 rfl (is_eq (y := (quadE a)) (quadE_3 (by omega) (by simpa using h_t17)).symm) ?_
      exact QE.done (.inl rfl) rfl (ResOk.t rfl ResOk.nil) (OImp.sub (List.nil_sublist _)) ⟨rfl, rfl⟩

end Fw


/- Plain facts: products of rows as a form. -/
set_option linter.unusedVariables false
set_option linter.unusedSimpArgs false
set_option exponentiation.threshold 400
namespace Fw
open Go

theorem map_take_app {α β : Type} {l : List α} {F : α → β} {d : α} {i : Nat} (h : i < l.length) : (l.take i).map F ++ [F (l.getD i d)] = (l.take (i + 1)).map F := by
  rw [← take_app (d := d) h, List.map_append]; rfl
/-- the sum of the first n -/
def sumN (f : Nat → Int) : Nat → Int
  | 0 => 0
  | n + 1 => sumN f n + f n
theorem sumN_congr {f g : Nat → Int} : ∀ {n}, (∀ i, i < n → f i = g i) → sumN f n = sumN g n
  | 0, _ => rfl
  | n + 1, h => by rw [sumN, sumN, sumN_congr (fun i hi => h i (by omega)), h n (by omega)]
theorem sumN_mul (f : Nat → Int) (c : Int) : ∀ n, sumN f n * c = sumN (fun i => f i * c) n
  | 0 => by simp [sumN]
  | n + 1 => by rw [sumN, sumN, Int.add_mul, sumN_mul f c n]
theorem mul_sumN (f : Nat → Int) (c : Int) : ∀ n, c * sumN f n = sumN (fun i => c * f i) n
  | 0 => by simp [sumN]
  | n + 1 => by rw [sumN, sumN, Int.mul_add, mul_sumN f c n]
theorem sumN_add (f g : Nat → Int) : ∀ n, sumN (fun i => f i + g i) n = sumN f n + sumN g n
  | 0 => rfl
  | n + 1 => by simp only [sumN]; rw [sumN_add f g n]; omega
theorem sumN_zero : ∀ n, sumN (fun _ => 0) n = 0
  | 0 => rfl
  | n + 1 => by rw [sumN, sumN_zero n]; rfl
theorem sumN_comm (f : Nat → Nat → Int) (m : Nat) : ∀ n, sumN (fun i => sumN (fun k => f i k) m) n = sumN (fun k => sumN (fun i => f i k) n) m
  | 0 => (sumN_zero m).symm
  | n + 1 => by rw [sumN, sumN_comm f m n, ← sumN_add]; rfl
theorem dotN_sum (u v : List Int) : ∀ n, dotN u v n = sumN (fun k => u.getD k 0 * v.getD k 0) n
  | 0 => rfl
  | n + 1 => by rw [dotN, sumN, dotN_sum u v n]
theorem combN_sum (x : List Int) (b : List (List Int)) (k) : ∀ n, combN x b k n = sumN (fun i => x.getD i 0 * (b.getD i []).getD k 0) n
  | 0 => rfl
  | n + 1 => by rw [combN, sumN, combN_sum x b k n]
/-- a form's matrix acts by its entries alone -/
theorem uE_congr {G H : Nat → Nat → Int} {n : Nat} (h : ∀ i j, i < n → j < n → G i j = H i j) : ∀ k i j, k ≤ n → i < n → j < n → uE G k i j = uE H k i j ∧ uD G k = uD H k
  | 0, i, j, _, hi, hj => ⟨h i j hi hj, rfl⟩
  | k + 1, i, j, hk, hi, hj => by
    have e1 := uE_congr h k i j (by omega) hi hj
    have e2 := (uE_congr h k i k (by omega) hi (by omega)).1
    have e3 := (uE_congr h k j k (by omega) hj (by omega)).1
    have e4 := (uE_congr h k k k (by omega) (by omega) (by omega)).1
    have e5 : uD G (k + 1) = uD H (k + 1) := e4
    exact ⟨by rw [uE_succ, uE_succ, e5, e1.1, e2, e3, e1.2], e5⟩
theorem uD_congr {G H : Nat → Nat → Int} {n : Nat} (h : ∀ i j, i < n → j < n → G i j = H i j) {k} (hk : k ≤ n) : uD G k = uD H k := by
  cases k with
  | zero => rfl
  | succ k => exact (uE_congr h k k k (by omega) (by omega) (by omega)).1
theorem gDs_congr {G H : Nat → Nat → Int} {n : Nat} (h : ∀ i j, i < n → j < n → G i j = H i j) : gDs G n = gDs H n :=
  List.map_congr_left fun k hk => uD_congr h (by have := List.mem_range.1 hk; omega)
theorem gLs_congr {G H : Nat → Nat → Int} {n : Nat} (h : ∀ i j, i < n → j < n → G i j = H i j) : gLs G n = gLs H n :=
  List.map_congr_left fun i hi => List.map_congr_left fun j hj => by
    have h1 := List.mem_range.1 hi
    have h2 := List.mem_range.1 hj
    exact (uE_congr h j i j (by omega) (by omega) (by omega)).1
theorem posU_congr {G H : Nat → Nat → Int} {n : Nat} (h : ∀ i j, i < n → j < n → G i j = H i j) : PosU G n ↔ PosU H n := by
  constructor
  · intro hp l hl; rw [← (uE_congr h l l l (by omega) (by omega) (by omega)).1]; exact hp l hl
  · intro hp l hl; rw [(uE_congr h l l l (by omega) (by omega) (by omega)).1]; exact hp l hl
def gramV (b : List (List Int)) : List (List Int) := if rect b = true then b.map (fun u => b.map (fun v => dotV u v)) else []
theorem gramV_yes {b} (h : rect b = true) : b.map (fun u => b.map (fun v => dotV u v)) = gramV b := (if_pos h).symm
theorem gramV_no {b} (h : ¬ rect b = true) : gramV b = [] := if_neg h
theorem getD_map {α β : Type} (F : α → β) (l : List α) (d : α) (e : β) {i : Nat} (h : i < l.length) : (l.map F).getD i e = F (l.getD i d) := by
  rw [gde _ e (by simpa using h), gde _ d h]; simp
theorem matF_gram {b} (h : rect b = true) {i j} (hi : i < b.length) (hj : j < b.length) : matF (gramV b) i j = gram b i j := by
  unfold matF
  rw [← gramV_yes h, getD_map _ b [] [] hi, getD_map _ b [] 0 hj]; rfl
theorem gramV_len {b} (h : rect b = true) : (gramV b).length = b.length := by rw [← gramV_yes h]; simp
theorem gramV_row {b} (h : rect b = true) {i} (hi : i < b.length) : ((gramV b).getD i []).length = b.length := by
  rw [← gramV_yes h, getD_map _ b [] [] hi]; simp
/-- the value of the products' form is the squared length -/
theorem qval_gram {b : List (List Int)} {x : List Int} (h : combOk x b) : qval (gramV b) x = dotV (combV x b) (combV x b) := by
  obtain ⟨hr, hx⟩ := h
  have hR := rectL hr
  have hn := gramV_len hr
  by_cases h0 : b.length = 0
  · have e : b = [] := List.eq_nil_of_length_eq_zero h0
    subst e; rfl
  have hg0 : ((gramV b).getD 0 []).length = b.length := gramV_row hr (by omega)
  unfold qval dotV
  rw [combV_len, combV_len, dotN_sum, dotN_sum, hg0]
  have e1 : ∀ j, j < b.length → (combV x (gramV b)).getD j 0 * x.getD j 0 = sumN (fun i => sumN (fun k => x.getD i 0 * ((b.getD i []).getD k 0 * ((b.getD j []).getD k 0 * x.getD j 0))) (b.getD 0 []).length) b.length := by
    intro j hj
    rw [combV_get (by rw [hg0]; exact hj), combN_sum, hn, sumN_mul]
    apply sumN_congr
    intro i hi
    have e : ((gramV b).getD i []).getD j 0 = gram b i j := matF_gram hr hi hj
    rw [e]
    unfold gram dotV
    rw [hR i hi, dotN_sum, Int.mul_assoc, sumN_mul, mul_sumN]
    apply sumN_congr
    intro k hk
    rw [Int.mul_assoc]
  rw [sumN_congr e1]
  have e2 : ∀ k, k < (b.getD 0 []).length → (combV x b).getD k 0 * (combV x b).getD k 0 = sumN (fun j => sumN (fun i => x.getD i 0 * ((b.getD i []).getD k 0 * ((b.getD j []).getD k 0 * x.getD j 0))) b.length) b.length := by
    intro k hk
    rw [combV_get hk, combN_sum, sumN_mul, sumN_comm (fun j i => x.getD i 0 * ((b.getD i []).getD k 0 * ((b.getD j []).getD k 0 * x.getD j 0)))]
    apply sumN_congr
    intro i hi
    rw [mul_sumN]
    apply sumN_congr
    intro j hj
    rw [Int.mul_assoc, Int.mul_comm (x.getD j 0)]
  rw [sumN_congr e2]
  rw [sumN_congr (fun j hj => sumN_comm (fun i k => x.getD i 0 * ((b.getD i []).getD k 0 * ((b.getD j []).getD k 0 * x.getD j 0))) (b.getD 0 []).length b.length)]
  exact sumN_comm (fun j k => sumN (fun i => x.getD i 0 * ((b.getD i []).getD k 0 * ((b.getD j []).getD k 0 * x.getD j 0))) b.length) (b.getD 0 []).length b.length
theorem slslC_Z {xs : List (List Int)} (h : ∀ r ∈ xs, ∀ x ∈ r, Sm x) : VP.le ((kSl (kSl kC)).is xs) ((kSl (kSl kZ)).is xs) :=
  is_kd rfl fun m cs hx => sl_kd (f := fun r s => r = s ∧ ∀ x ∈ r, Sm x) (fun m cs r s hrs hr => by
    obtain ⟨rfl, h2⟩ := hrs
    exact sl_kd (f := fun x y => x = y ∧ Sm x) (fun m cs x y hxy hx => by obtain ⟨rfl, h4⟩ := hxy; exact kC_Zat h4 hx) (F2.same h2) hr) (F2.same h) hx
theorem SzM_mem {n b} (h : SzM n b) {r : List Int} (hr : r ∈ b) : SzL n r := by
  obtain ⟨i, hi, rfl⟩ := mem_getD [] hr
  exact h i
theorem SzM.sm {n b} (h : SzM n b) (hn : n ≤ 549755813888) : ∀ r ∈ b, ∀ x ∈ r, Sm x := fun r hr => (SzM_mem h hr).sm hn
theorem rect_mem {b : List (List Int)} (h : RectL b) {u v : List Int} (hu : u ∈ b) (hv : v ∈ b) : u.length = v.length := by
  obtain ⟨i, hi, rfl⟩ := mem_getD [] hu
  obtain ⟨j, hj, rfl⟩ := mem_getD [] hv
  rw [h i hi, h j hj]
theorem len_mem {b : List (List Int)} {m : Nat} (h : ∀ i, (b.getD i []).length ≤ m) {u : List Int} (hu : u ∈ b) : u.length ≤ m := by
  obtain ⟨i, hi, rfl⟩ := mem_getD [] hu
  exact h i
theorem gramV_Sz {n m : Nat} {b : List (List Int)} (hb : SzM n b) (hc : ∀ i, (b.getD i []).length ≤ m) : SzM (n + n + m) (gramV b) := by
  intro i j
  by_cases hr : rect b = true
  · by_cases hij : i < b.length ∧ j < b.length
    · have e : ((gramV b).getD i []).getD j 0 = gram b i j := matF_gram hr hij.1 hij.2
      rw [e]
      exact (dotN_Sz (hb i) (hb j) _).up (by have := hc i; omega)
    · have e : ((gramV b).getD i []).getD j 0 = 0 := matF_out (a := gramV b) (fun i hi => by rw [gramV_len hr] at hi ⊢; exact gramV_row hr hi) (by rw [gramV_len hr]; exact hij)
      rw [e]; exact Sz.zero _
  · rw [gramV_no hr]; exact Sz.zero _
theorem qv_1 {a x} (h : quadE a ≠ 0) : qvalV a x = 0 ∧ qvalE a x = quadE a := ⟨if_pos h, if_pos h⟩
theorem qv_2 {a : List (List Int)} {x : List Int} (h : ¬ quadE a ≠ 0) (hl : x.length ≠ a.length) : qvalV a x = 0 ∧ qvalE a x = 8 := by
  unfold qvalV qvalE; rw [if_neg h, if_neg h, if_neg hl, if_neg hl]; exact ⟨rfl, rfl⟩
theorem qv_3 {a : List (List Int)} {x : List Int} (h : ¬ quadE a ≠ 0) (hl : x.length = a.length) : qvalV a x = qval a x ∧ qvalE a x = 0 := by
  unfold qvalV qvalE; rw [if_neg h, if_neg h, if_pos hl, if_pos hl]; exact ⟨rfl, rfl⟩
theorem quadR_1 {a} (h : quadE a ≠ 0) : ([], []) = quadR a := (if_pos h).symm
/-- QuadRows: the data of rows are the data of their products' form -/
theorem rows_form {b : List (List Int)} (h : gsoE b true = 0) (h2 : quadE (gramV b) = 0) : gsoR b true = quadR (gramV b) := by
  have hb := basis_of h
  have hs := (gsoE_ok h).1
  have hk : gOk (gram b) b.length = true := gOk_iff.2 hb.p
  rw [(gsoE_3 (by omega) hk).2, ← quadR_ok h2, gramV_len hb.rb]
  have hc : ∀ i j, i < b.length → j < b.length → gram b i j = matF (gramV b) i j := fun i j hi hj => (matF_gram hb.rb hi hj).symm
  have hk2 : gOk (matF (gramV b)) b.length = true := gOk_iff.2 ((posU_congr hc).1 hb.p)
  unfold gsoV
  rw [if_pos hk, if_pos hk2, gDs_congr hc, gLs_congr hc]

end Fw

