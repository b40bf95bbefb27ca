/- Frame, facts and contracts for KnapKeys. -/
import Derived.Test.YtgbafijcklgajaaCKnapKeysC
/- Weights that climb, choices and the greedy block: what the functions answer. -/
set_option linter.unusedVariables false
set_option linter.unusedSimpArgs false
set_option exponentiation.threshold 400
namespace Fw
open Go Go.Proofs

set_option maxRecDepth 20000 in
set_option maxHeartbeats 1000000 in
theorem c_knap_sum (xs : List Int) (hS : ∀ i, i ≤ xs.length → Sm ((xs.take i).sum)) : Fn Try.prog 101 [(kSl kZ).is xs] (kC.is xs.sum) := by
  refine Con.enter Try.func101 rfl rfl fun m w => ?_
  refine CW.seq ?_
  refine CW.region ?_
  refine WP.al .n z31_C fun b1 => ?_
  refine WP.nil ?_
  refine QE.next ?_
  refine CW.seq ?_
  refine CW.region ?_
  refine WP.s .n (O.mv rfl) ?_
  refine WP.s .n (O.fn fn167 (evs.c rfl evs.nil) (c_zint_Sum xs (by assumption))) ?_
  refine WP.t .n (O.stW (l := kC) (u := xs.sum) 0 rfl rfl rfl ty31 rfl (VP.le_refl _)) ?_
  refine WP.nil ?_
  refine QE.next ?_
  refine CW.ret ?_
  exact QE.done (.inl rfl) rfl (ResOk.c rfl (mem_at 0 rfl) ty31 ResOk.nil) (OImp.sub (List.nil_sublist _)) ⟨rfl, rfl⟩

set_option maxRecDepth 20000 in
set_option maxHeartbeats 1000000 in
theorem c_knap_climbs (xs : List Int) (hk : wOk xs = true) : Fn Try.prog 81 [(kSl kZ).is xs] (kBool.is (climb xs)) := by
  refine Con.enter Try.func81 rfl rfl fun m w => ?_
  refine ST.fact (i := 0) rfl sl_len fun hB => ?_
  refine CW.seq ?_
  refine CW.region ?_
  refine WP.s .n (O.asg rfl) ?_
  refine WP.nil ?_
  refine QE.next ?_
  refine CW.seq ?_
  refine CW.seq ?_
  refine CW.region ?_
  refine WP.s .n (O.mv rfl) ?_
  refine WP.s .n (O.lenS rfl Try.underlying27) ?_
  refine WP.s .n (O.mv rfl) ?_
  refine WP.nil ?_
  refine QE.next ?_
  refine CW.block ?_
  refine CW.loop (fun (i : Nat) => i ≤ xs.length ∧ climbTo xs i) (fun (i : Nat) => [(0, (kSl kZ).is xs), (5, (kInt .i64).is (xs.length : Int)), (6, (kInt .i64).is (i : Int))]) (fun (i : Nat) => []) (fun (i : Nat) => xs.length - i) 0 ⟨Nat.zero_le _, climbTo_0 xs⟩ (Imp.cons rfl (Imp.cons rfl (Imp.consLe rfl (is_eq (y := (0 : Int)) (by omega)) Imp.nil))) (OImp.refl _) ?_
  intro i ⟨hi, hc⟩
  refine CW.seq ?_
  refine CW.region ?_
  refine WP.s .n (O.lt rfl rfl) ?_
  refine WP.nil ?_
  refine QE.next ?_
  refine CW.seq ?_
  refine CW.condD rfl (fun h_t7 => ?_) (fun h_t7 => ?_)
  · refine CW.skip ?_
    refine QE.next ?_
    refine CW.seq ?_
    refine CW.block ?_
    refine CW.seq ?_
    refine CW.region ?_
    refine WP.s .n (O.mv rfl) ?_
    refine WP.s .n (O.asg rfl) ?_
    refine WP.nil ?_
    refine QE.next ?_
    refine CW.seq ?_
    refine CW.draw (Γ := [.fr ((kSl kZ).is xs), .fr ((kInt .i64).is (i : Int)), .fr (VP.pim kZ (xs.getD i 0)), .fr (kZ.is (xs.getD i 0)), .fr ((kSl kZ).is xs), .fr ((kInt .i64).is (i : Int)), .fr ((kSl kZ).is (xs.take i)), .fr (kC.is ((xs.take i).sum)), .fr ((kInt .i64).is (((xs.getD i 0) - ((xs.take i).sum)).sign)), .fr (kBool.is (decide ((((xs.getD i 0) - ((xs.take i).sum)).sign) ≤ 0)))]) (lates := [false, false, false, false, false, false, false, false, false, false]) (by kernel_rfl) (Chk.of rfl (by kernel_rfl) rfl) (fun _ _ _ _ _ h => h) (fun q_ x_ h_ => ?_) (fun σ => ?_)
    · match q_, h_ with
      | 0, h_ => cases h_; exact Ob.f rfl .n fun N => (O.mv rfl)
      | 1, h_ => cases h_; exact Ob.f rfl .n fun N => (O.mv rfl)
      | 2, h_ => cases h_; exact Ob.f rfl .n fun N => (O.ix i rfl rfl Try.underlying27 ty31 rfl (v := (xs.getD i 0)) (gd 0 (by omega)))
      | 3, h_ => cases h_; exact Ob.f rfl .n fun N => (O.ldP rfl ty31)
      | 4, h_ => cases h_; exact Ob.f rfl .n fun N => (O.mv rfl)
      | 5, h_ => cases h_; exact Ob.f rfl .n fun N => (O.mv rfl)
      | 6, h_ => cases h_; exact Ob.f rfl .n fun N => (O.slH i rfl rfl Try.underlying27 ty31 (by omega) (by omega))
      | 7, h_ => cases h_; exact Ob.f rfl .n fun N => (O.fn fn101 (evs.c rfl evs.nil) (c_knap_sum (xs.take i) (take_take_Sm hk i)))
      | 8, h_ => cases h_; exact Ob.f rfl .n fun N => (O.fn fn75 (evs.c rfl (evs.l rfl (kC_Z (by exact wOk_Sm hk (by omega))) evs.nil)) (c_zint_Compare (xs.getD i 0) ((xs.take i).sum)))
      | 9, h_ => cases h_; exact Ob.f rfl .n fun N => (O.le rfl rfl)
      | n_ + 10, h_ => simp at h_
    refine WP.nil ?_
    refine QE.next ?_
    refine CW.condD rfl (fun h_t18 => ?_) (fun h_t18 => ?_)
    · refine CW.seq ?_
      refine CW.region ?_
      refine WP.s .n (O.asg rfl) ?_
      refine WP.nil ?_
      refine QE.next ?_
      refine CW.ret ?_
      refine QE.blkR ?_
      refine QE.thenR ?_
      refine QE.thenR ?_
      refine QE.blkR ?_
      refine QE.thenR ?_
      refine ST.told 2 rfl (is_eq (y := (climb xs)) (by rw [climb_no (i := i) (by omega) (by have := sgn_le h_t18; omega)])) ?_
      exact QE.done (.inl rfl) rfl (ResOk.t rfl ResOk.nil) (OImp.sub (List.nil_sublist _)) ⟨rfl, rfl⟩
    · refine CW.skip ?_
      refine QE.blkN ?_
      refine QE.next ?_
      refine CW.region ?_
      refine WP.s .n (O.add rfl rfl (c := ((i : Int) + 1)) (w64 (by omega))) ?_
      refine WP.s .n (O.mv rfl) ?_
      refine WP.nil ?_
      exact QE.round (i + 1) (by omega) ⟨by omega, climbTo_s hc (sgn_gt h_t18)⟩ (Imp.cons rfl (Imp.cons rfl (Imp.consLe rfl (is_eq (y := (((i + 1) : Nat) : Int)) (by omega)) Imp.nil))) (OImp.refl _)
  · refine CW.exit ?_
    refine QE.thenE ?_
    refine QE.thenE ?_
    refine QE.blkH ?_
    refine QE.next ?_
    refine CW.seq ?_
    refine CW.region ?_
    refine WP.s .n (O.asg rfl) ?_
    refine WP.nil ?_
    refine QE.next ?_
    refine CW.ret ?_
    refine ST.told 2 rfl (is_eq (y := (climb xs)) (by rw [climb_yes (i := i) (by omega) hc])) ?_
    exact QE.done (.inl rfl) rfl (ResOk.t rfl ResOk.nil) (OImp.sub (List.nil_sublist _)) ⟨rfl, rfl⟩

set_option maxRecDepth 20000 in
set_option maxHeartbeats 1000000 in
theorem c_knap_greedy (xs : List Int) (s : Int) (hk : wOk xs = true) (hs : 0 ≤ s) (hsm : Sm s) : Fn Try.prog 82 [(kSl kZ).is xs, kZ.is s] (VP.tup [(kArr 10 kI64).is ((grV xs s).1), kBool.is (decide ((grV xs s).2 = 0))]) := by
  refine Con.enter Try.func82 rfl rfl fun m w => ?_
  refine ST.fact (i := 0) rfl sl_len fun hB => ?_
  have hl := wOk_len hk
  refine CW.seq ?_
  refine CW.region ?_
  refine WP.bx .n rfl fun b1 => ?_
  refine WP.al .n z123_ar10_int fun b2 => ?_
  refine WP.s .n (O.asg rfl) ?_
  refine WP.nil ?_
  refine QE.next ?_
  refine CW.seq ?_
  refine CW.region ?_
  refine WP.al .n z123_ar10_int fun b3 => ?_
  refine WP.nil ?_
  refine QE.next ?_
  refine CW.seq ?_
  refine CW.seq ?_
  refine CW.region ?_
  refine WP.s .n (O.mv rfl) ?_
  refine WP.s .n (O.lenS rfl Try.underlying27) ?_
  refine WP.s .n (O.sub rfl rfl (c := ((xs.length : Int) - 1)) (w64 (by omega))) ?_
  refine WP.s .n (O.asg rfl) ?_
  refine WP.nil ?_
  refine QE.next ?_
  refine CW.block ?_
  refine CW.loop3 (fun (i : Nat) (q : Int) (B : List Int) => i ≤ xs.length ∧ grN xs i q B = grV xs s ∧ 0 ≤ q ∧ q ≤ s) (fun (i : Nat) (q : Int) (B : List Int) => [(0, (kSl kZ).is xs), (3, VP.ex (.pointer (some ⟨b1, 0, none⟩))), (4, VP.ex (.pointer (some ⟨b2, 0, none⟩))), (6, VP.ex (.pointer (some ⟨b3, 0, none⟩))), (7, (kInt .i64).is ((i : Int) - 1))]) (fun (i : Nat) (q : Int) (B : List Int) => [OB.box b3 123 (kArr 10 kI64) B, OB.box b2 123 (kArr 10 kI64) (List.replicate 10 0), OB.box b1 31 kZ q]) (fun (i : Nat) (q : Int) (B : List Int) => i) xs.length s zeros10 ⟨Nat.le_refl _, rfl, hs, Int.le_refl _⟩ (Imp.cons rfl (Imp.cons rfl (Imp.cons rfl (Imp.cons rfl (Imp.consLe rfl (is_eq (y := ((xs.length : Nat) : Int) - 1) (by first | omega | rfl | assumption)) Imp.nil))))) (OImp.os (OS.keepLe (OB.box_eq (by first | omega | rfl | assumption)) (OS.keep (OS.keep OS.nil)))) ?_
  intro i q B ⟨hi, hg, h0, hq⟩
  refine CW.seq ?_
  refine CW.seq ?_
  refine CW.region ?_
  refine WP.s .n (O.mv rfl) ?_
  refine WP.s .n (O.ge rfl rfl) ?_
  refine WP.nil ?_
  refine QE.next ?_
  refine CW.condD rfl (fun h_t12 => ?_) (fun h_t12 => ?_)
  · have hx := wOk_get hk (show i - 1 < xs.length by omega)
    refine CW.skip ?_
    refine QE.next ?_
    refine CW.seq ?_
    refine CW.block ?_
    refine CW.seq ?_
    refine CW.draw (Γ := [.fr ((kSl kZ).is xs), .fr ((kInt .i64).is ((i : Int) - 1)), .fr (VP.pim kZ (xs.getD (i - 1) 0)), .fr (kZ.is (xs.getD (i - 1) 0)), .fr (kZ.is q), .fr ((kInt .i64).is (((xs.getD (i - 1) 0) - q).sign)), .fr (kBool.is (decide ((((xs.getD (i - 1) 0) - q).sign) ≤ 0)))]) (lates := [false, false, false, false, false, false, false]) (by kernel_rfl) (Chk.of rfl (by kernel_rfl) rfl) (fun _ _ _ _ _ h => h) (fun q_ x_ h_ => ?_) (fun σ => ?_)
    · match q_, h_ with
      | 0, h_ => cases h_; exact Ob.f rfl .n fun N => (O.mv rfl)
      | 1, h_ => cases h_; exact Ob.f rfl .n fun N => (O.mv rfl)
      | 2, h_ => cases h_; exact Ob.f rfl .n fun N => (O.ix (i - 1) rfl rfl Try.underlying27 ty31 (by omega) (v := (xs.getD (i - 1) 0)) (gd 0 (by omega)))
      | 3, h_ => cases h_; exact Ob.f rfl .n fun N => (O.ldP rfl ty31)
      | 4, h_ => cases h_; exact Ob.f rfl .n fun N => (O.ld rfl (mem_app N (mem_at 2 rfl)) (Lens.id _) ty31 rfl)
      | 5, h_ => cases h_; exact Ob.f rfl .n fun N => (O.fn fn75 (evs.c rfl (evs.c rfl evs.nil)) (c_zint_Compare (xs.getD (i - 1) 0) q))
      | 6, h_ => cases h_; exact Ob.f rfl .n fun N => (O.le rfl rfl)
      | n_ + 7, h_ => simp at h_
    refine WP.nil ?_
    refine QE.next ?_
    refine CW.condD rfl (fun h_t21 => ?_) (fun h_t21 => ?_)
    · have hle := sgn_le h_t21
      refine CW.seq ?_
      refine CW.region ?_
      refine WP.s .n (O.mv rfl) ?_
      refine WP.s .n (O.ixA (o' := ((i - 1) * 1 + 0)) (i - 1) rfl rfl Try.underlying123 ty3 (by omega) (by omega) (by omega)) ?_
      refine WP.t .n (O.st 0 rfl rfl (Lens.arr 0 (i - 1) (by omega) (Lens.id _)) ty3 rfl (i64_int (by omega))) ?_
      refine WP.nil ?_
      refine QE.next ?_
      refine CW.draw (Γ := [.fr (kZ.is q), .fr ((kSl kZ).is xs), .fr ((kInt .i64).is ((i : Int) - 1)), .fr (VP.pim kZ (xs.getD (i - 1) 0)), .fr (kZ.is (xs.getD (i - 1) 0)), .fr (kC.is (q - (xs.getD (i - 1) 0)))]) (lates := [false, false, false, false, false, false]) (by kernel_rfl) (Chk.of rfl (by kernel_rfl) rfl) (fun _ _ _ _ _ h => h) (fun q_ x_ h_ => ?_) (fun σ => ?_)
      · match q_, h_ with
        | 0, h_ => cases h_; exact Ob.f rfl .n fun N => (O.ld rfl (mem_app N (mem_at 2 rfl)) (Lens.id _) ty31 rfl)
        | 1, h_ => cases h_; exact Ob.f rfl .n fun N => (O.mv rfl)
        | 2, h_ => cases h_; exact Ob.f rfl .n fun N => (O.mv rfl)
        | 3, h_ => cases h_; exact Ob.f rfl .n fun N => (O.ix (i - 1) rfl rfl Try.underlying27 ty31 (by omega) (v := (xs.getD (i - 1) 0)) (gd 0 (by omega)))
        | 4, h_ => cases h_; exact Ob.f rfl .n fun N => (O.ldP rfl ty31)
        | 5, h_ => cases h_; exact Ob.f rfl .n fun N => (O.fn fn157 (evs.c rfl (evs.c rfl evs.nil)) (c_zint_Sub q (xs.getD (i - 1) 0)))
        | n_ + 6, h_ => simp at h_
      refine WP.t .n (O.stW (l := kC) (u := q - (xs.getD (i - 1) 0)) 2 rfl rfl rfl ty31 rfl (VP.le_refl _)) ?_
      refine WP.nil ?_
      refine QE.blkN ?_
      refine QE.next ?_
      refine CW.region ?_
      refine WP.s .n (O.mv rfl) ?_
      refine WP.s .n (O.sub rfl rfl (c := (((i : Int) - 1) - 1)) (w64 (by omega))) ?_
      refine WP.s .n (O.asg rfl) ?_
      refine WP.nil ?_
      exact QE.round3 (i - 1) (q - xs.getD (i - 1) 0) (B.set (i - 1) 1) (by omega) ⟨by omega, by rw [← grN_in (by omega) hle]; exact hg, by omega, by omega⟩ (Imp.cons rfl (Imp.cons rfl (Imp.cons rfl (Imp.cons rfl (Imp.consLe rfl (is_eq (y := (((i - 1) : Nat) : Int) - 1) (by first | omega | rfl | assumption)) Imp.nil))))) (OImp.os (OS.keep (OS.keep (OS.keepLe (OB.C_Zeq (by exact Sm_le hsm (by omega)) (by first | omega | rfl | assumption)) OS.nil))))
    · refine CW.skip ?_
      refine QE.blkN ?_
      refine QE.next ?_
      refine CW.region ?_
      refine WP.s .n (O.mv rfl) ?_
      refine WP.s .n (O.sub rfl rfl (c := (((i : Int) - 1) - 1)) (w64 (by omega))) ?_
      refine WP.s .n (O.asg rfl) ?_
      refine WP.nil ?_
      exact QE.round3 (i - 1) q B (by omega) ⟨by omega, by rw [← grN_out (by omega) (by have := sgn_gt h_t21; omega)]; exact hg, h0, hq⟩ (Imp.cons rfl (Imp.cons rfl (Imp.cons rfl (Imp.cons rfl (Imp.consLe rfl (is_eq (y := (((i - 1) : Nat) : Int) - 1) (by first | omega | rfl | assumption)) Imp.nil))))) (OImp.refl _)
  · refine CW.exit ?_
    refine QE.thenE ?_
    refine QE.thenE ?_
    refine QE.blkH ?_
    refine QE.next ?_
    refine CW.seq ?_
    have hgB : (B, q) = grV xs s := by rw [← hg, show i = 0 from by omega]; rfl
    refine CW.draw (Γ := [.fr ((kArr 10 kI64).is B), .fr (kZ.is q), .fr ((kInt .i64).is q.sign), .lt (kBool.is (decide (q.sign = 0)))]) (lates := [false, false, false, true]) (by kernel_rfl) (Chk.of rfl (by kernel_rfl) rfl) (fun _ _ _ _ _ h => h) (fun q_ x_ h_ => ?_) (fun σ => ?_)
    · match q_, h_ with
      | 0, h_ => cases h_; exact Ob.f rfl .n fun N => (O.ld rfl (mem_app N (mem_at 0 rfl)) (Lens.id _) ty123 rfl)
      | 1, h_ => cases h_; exact Ob.f rfl .n fun N => (O.ld rfl (mem_app N (mem_at 2 rfl)) (Lens.id _) ty31 rfl)
      | 2, h_ => cases h_; exact Ob.f rfl .n fun N => (O.fn fn80 (evs.c rfl evs.nil) (c_zint_Sign q))
      | 3, h_ => cases h_; exact Ob.l rfl .n (OV.eq rfl rfl)
      | n_ + 4, h_ => simp at h_
    refine WP.t .n (O.stW (l := (kArr 10 kI64)) (u := B) 1 rfl rfl rfl ty123 rfl (VP.le_refl _)) ?_
    refine WP.s .n (O.asg rfl) ?_
    refine WP.nil ?_
    refine QE.next ?_
    refine CW.ret ?_
    refine ST.obtold 1 rfl (OB.box_eq (y := ((grV xs s).1)) (by rw [← hgB])) ?_
    refine ST.told 5 rfl (is_eq (y := (decide ((grV xs s).2 = 0))) (by rw [← hgB]; simp [Int.sign_eq_zero_iff_zero])) ?_
    exact QE.done (.inl rfl) rfl (ResOk.c rfl (mem_at 1 rfl) ty123 (ResOk.t rfl ResOk.nil)) (OImp.sub (List.nil_sublist _)) ⟨rfl, rfl⟩

set_option maxRecDepth 20000 in
set_option maxHeartbeats 1000000 in
theorem c_ref24_total (xs c : List Int) (hk : wOk xs = true) (hc : Plc xs c) (hl : c.length ≤ 10) : Fn Try.prog 159 [(kSl kZ).is xs, (kSl kI64).is c] (kC.is (tot xs c)) := by
  refine Con.enter Try.func159 rfl rfl fun m w => ?_
  refine ST.fact (i := 0) rfl sl_len fun hB => ?_
  refine ST.fact (i := 1) rfl sl_len fun hC => ?_
  refine CW.seq ?_
  refine CW.region ?_
  refine WP.al .n z31_C fun b1 => ?_
  refine WP.nil ?_
  refine QE.next ?_
  refine CW.seq ?_
  refine CW.region ?_
  refine WP.s .n (O.fn fn78 (evs.l rfl (i64_int (by omega)) evs.nil) (c_ref02_Of 0)) ?_
  refine WP.al .n z31_C fun b2 => ?_
  refine WP.t .n (O.stW (l := kC) (u := 0) 0 rfl rfl rfl ty31 rfl (VP.le_refl _)) ?_
  refine WP.nil ?_
  refine QE.next ?_
  refine CW.seq ?_
  refine CW.seq ?_
  refine CW.region ?_
  refine WP.s .n (O.asg rfl) ?_
  refine WP.nil ?_
  refine QE.next ?_
  refine CW.block ?_
  refine CW.loop (fun (i : Nat) => i ≤ c.length) (fun (i : Nat) => [(0, (kSl kZ).is xs), (1, (kSl kI64).is c), (4, VP.ex (.pointer (some ⟨b1, 0, none⟩))), (5, VP.ex (.pointer (some ⟨b2, 0, none⟩))), (6, (kInt .i64).is (i : Int))]) (fun (i : Nat) => [OB.box b2 31 kC (tot xs (c.take i)), OB.box b1 31 kC 0]) (fun (i : Nat) => c.length - i) 0 (by omega) (Imp.cons rfl (Imp.cons rfl (Imp.cons rfl (Imp.cons rfl (Imp.consLe rfl (is_eq (y := (0 : Int)) (by first | omega | rfl | assumption)) Imp.nil))))) (OImp.os (OS.keepLe (OB.box_eq (by first | omega | rfl | assumption)) (OS.keep OS.nil))) ?_
  intro i hi
  refine CW.seq ?_
  refine CW.seq ?_
  refine CW.region ?_
  refine WP.s .n (O.mv rfl) ?_
  refine WP.s .n (O.mv rfl) ?_
  refine WP.s .n (O.lenS rfl Try.underlying28) ?_
  refine WP.s .n (O.lt rfl rfl) ?_
  refine WP.nil ?_
  refine QE.next ?_
  refine CW.condD rfl (fun h_t11 => ?_) (fun h_t11 => ?_)
  · have hx := Plc_get hc (show i < c.length by omega)
    refine CW.skip ?_
    refine QE.next ?_
    refine CW.seq ?_
    refine CW.block ?_
    refine CW.draw (Γ := [.fr (kC.is (tot xs (c.take i))), .fr ((kSl kZ).is xs), .fr ((kSl kI64).is c), .fr ((kInt .i64).is (i : Int)), .fr (VP.pim kI64 (c.getD i 0)), .fr ((kInt .i64).is (c.getD i 0)), .fr (VP.pim kZ (xs.getD (((c.getD i 0)).toNat) 0)), .fr (kZ.is (xs.getD (((c.getD i 0)).toNat) 0)), .fr (kC.is ((tot xs (c.take i)) + (xs.getD (((c.getD i 0)).toNat) 0)))]) (lates := [false, false, false, false, false, false, false, false, false]) (by kernel_rfl) (Chk.of rfl (by kernel_rfl) rfl) (fun _ _ _ _ _ h => h) (fun q_ x_ h_ => ?_) (fun σ => ?_)
    · match q_, h_ with
      | 0, h_ => cases h_; exact Ob.f rfl .n fun N => (O.ld rfl (mem_app N (mem_at 0 rfl)) (Lens.id _) ty31 rfl)
      | 1, h_ => cases h_; exact Ob.f rfl .n fun N => (O.mv rfl)
      | 2, h_ => cases h_; exact Ob.f rfl .n fun N => (O.mv rfl)
      | 3, h_ => cases h_; exact Ob.f rfl .n fun N => (O.mv rfl)
      | 4, h_ => cases h_; exact Ob.f rfl .n fun N => (O.ix i rfl rfl Try.underlying28 ty3 rfl (v := (c.getD i 0)) (gd 0 (by omega)))
      | 5, h_ => cases h_; exact Ob.f rfl .n fun N => (OpOk.le (O.ldP rfl ty3) (i64_le _))
      | 6, h_ => cases h_; exact Ob.f rfl .n fun N => (O.ix (((c.getD i 0)).toNat) rfl rfl Try.underlying27 ty31 (by omega) (v := (xs.getD (((c.getD i 0)).toNat) 0)) (gd 0 (by omega)))
      | 7, h_ => cases h_; exact Ob.f rfl .n fun N => (O.ldP rfl ty31)
      | 8, h_ => cases h_; exact Ob.f rfl .n fun N => (O.fn fn79 (evs.l rfl (kC_Z (by first | exact tot_Sm hk hc hl _ | assumption)) (evs.c rfl evs.nil)) (c_ref02_Add (tot xs (c.take i)) (xs.getD (((c.getD i 0)).toNat) 0)))
      | n_ + 9, h_ => simp at h_
    refine WP.t .n (O.stW (l := kC) (u := (tot xs (c.take i)) + (xs.getD (((c.getD i 0)).toNat) 0)) 0 rfl rfl rfl ty31 rfl (VP.le_refl _)) ?_
    refine WP.nil ?_
    refine QE.blkN ?_
    refine QE.next ?_
    refine CW.region ?_
    refine WP.s .n (O.mv rfl) ?_
    refine WP.s .n (O.add rfl rfl (c := ((i : Int) + 1)) (w64 (by omega))) ?_
    refine WP.s .n (O.asg rfl) ?_
    refine WP.nil ?_
    refine ST.obtold 0 rfl (OB.box_eq (y := (tot xs (c.take (i + 1)))) (tot_take (by omega))) ?_
    exact QE.round (i + 1) (by omega) (by omega) (Imp.cons rfl (Imp.cons rfl (Imp.cons rfl (Imp.cons rfl (Imp.consLe rfl (is_eq (y := (((i + 1) : Nat) : Int)) (by first | omega | rfl | assumption)) Imp.nil))))) (OImp.refl _)
  · refine CW.exit ?_
    refine QE.thenE ?_
    refine QE.thenE ?_
    refine QE.blkH ?_
    refine QE.next ?_
    refine CW.seq ?_
    refine CW.region ?_
    refine WP.s .n (O.ld rfl (mem_at 0 rfl) (Lens.id _) ty31 rfl) ?_
    refine WP.t .n (O.stW (l := kC) (u := (tot xs (c.take i))) 1 rfl rfl rfl ty31 rfl (VP.le_refl _)) ?_
    refine WP.nil ?_
    refine QE.next ?_
    refine CW.ret ?_
    refine ST.obtold 1 rfl (OB.box_eq (y := (tot xs c)) (by rw [List.take_of_length_le (by omega)])) ?_
    exact QE.done (.inl rfl) rfl (ResOk.c rfl (mem_at 1 rfl) ty31 ResOk.nil) (OImp.sub (List.nil_sublist _)) ⟨rfl, rfl⟩

set_option maxRecDepth 20000 in
set_option maxHeartbeats 1000000 in
theorem c_ref24_Climbs (xs : List Int) (hk : wOk xs = true) : Fn Try.prog 36 [(kSl kZ).is xs] (kBool.is (climb xs)) := by
  refine Con.enter Try.func36 rfl rfl fun m w => ?_
  refine ST.fact (i := 0) rfl sl_len fun hB => ?_
  refine CW.seq ?_
  refine CW.region ?_
  refine WP.s .n (O.asg rfl) ?_
  refine WP.nil ?_
  refine QE.next ?_
  refine CW.seq ?_
  refine CW.region ?_
  refine WP.s .n (O.fn fn78 (evs.l rfl (i64_int (by omega)) evs.nil) (c_ref02_Of 0)) ?_
  refine WP.al .n z31_C fun b1 => ?_
  refine WP.t .n (O.stW (l := kC) (u := 0) 0 rfl rfl rfl ty31 rfl (VP.le_refl _)) ?_
  refine WP.nil ?_
  refine QE.next ?_
  refine CW.seq ?_
  refine CW.seq ?_
  refine CW.region ?_
  refine WP.s .n (O.asg rfl) ?_
  refine WP.nil ?_
  refine QE.next ?_
  refine CW.block ?_
  refine CW.loop (fun (i : Nat) => i ≤ xs.length ∧ climbTo xs i) (fun (i : Nat) => [(0, (kSl kZ).is xs), (3, VP.ex (.pointer (some ⟨b1, 0, none⟩))), (4, (kInt .i64).is (i : Int))]) (fun (i : Nat) => [OB.box b1 31 kC ((xs.take i).sum)]) (fun (i : Nat) => xs.length - i) 0 ⟨Nat.zero_le _, climbTo_0 xs⟩ (Imp.cons rfl (Imp.cons rfl (Imp.consLe rfl (is_eq (y := (0 : Int)) (by first | omega | rfl | assumption)) Imp.nil))) (OImp.os (OS.keepLe (OB.box_eq (by first | omega | rfl | assumption)) OS.nil)) ?_
  intro i ⟨hi, hc⟩
  refine CW.seq ?_
  refine CW.seq ?_
  refine CW.region ?_
  refine WP.s .n (O.mv rfl) ?_
  refine WP.s .n (O.mv rfl) ?_
  refine WP.s .n (O.lenS rfl Try.underlying27) ?_
  refine WP.s .n (O.lt rfl rfl) ?_
  refine WP.nil ?_
  refine QE.next ?_
  refine CW.condD rfl (fun h_t9 => ?_) (fun h_t9 => ?_)
  · refine CW.skip ?_
    refine QE.next ?_
    refine CW.seq ?_
    refine CW.block ?_
    refine CW.seq ?_
    refine CW.seq ?_
    refine CW.draw (Γ := [.fr ((kSl kZ).is xs), .fr ((kInt .i64).is (i : Int)), .fr (VP.pim kZ (xs.getD i 0)), .fr (kZ.is (xs.getD i 0)), .fr (kC.is ((xs.take i).sum)), .fr ((kInt .i64).is (((xs.getD i 0) - ((xs.take i).sum)).sign)), .fr (kBool.is (decide ((((xs.getD i 0) - ((xs.take i).sum)).sign) ≤ 0)))]) (lates := [false, false, false, false, false, false, false]) (by kernel_rfl) (Chk.of rfl (by kernel_rfl) rfl) (fun _ _ _ _ _ h => h) (fun q_ x_ h_ => ?_) (fun σ => ?_)
    · match q_, h_ with
      | 0, h_ => cases h_; exact Ob.f rfl .n fun N => (O.mv rfl)
      | 1, h_ => cases h_; exact Ob.f rfl .n fun N => (O.mv rfl)
      | 2, h_ => cases h_; exact Ob.f rfl .n fun N => (O.ix i rfl rfl Try.underlying27 ty31 rfl (v := (xs.getD i 0)) (gd 0 (by omega)))
      | 3, h_ => cases h_; exact Ob.f rfl .n fun N => (O.ldP rfl ty31)
      | 4, h_ => cases h_; exact Ob.f rfl .n fun N => (O.ld rfl (mem_app N (mem_at 0 rfl)) (Lens.id _) ty31 rfl)
      | 5, h_ => cases h_; exact Ob.f rfl .n fun N => (O.fn fn88 (evs.c rfl (evs.l rfl (kC_Z (by exact wOk_Sm hk (by omega))) evs.nil)) (c_ref02_Cmp (xs.getD i 0) ((xs.take i).sum) (Sm_small2 (wOk_get hk (show i < xs.length by omega)) (wOk_sum hk i (by omega)) (wOk_len hk) (by omega))))
      | 6, h_ => cases h_; exact Ob.f rfl .n fun N => (O.le rfl rfl)
      | n_ + 7, h_ => simp at h_
    refine WP.nil ?_
    refine QE.next ?_
    refine CW.condD rfl (fun h_t18 => ?_) (fun h_t18 => ?_)
    · refine CW.seq ?_
      refine CW.region ?_
      refine WP.s .n (O.asg rfl) ?_
      refine WP.nil ?_
      refine QE.next ?_
      refine CW.ret ?_
      refine QE.thenR ?_
      refine QE.blkR ?_
      refine QE.thenR ?_
      refine QE.thenR ?_
      refine QE.blkR ?_
      refine QE.thenR ?_
      refine ST.told 2 rfl (is_eq (y := (climb xs)) (by rw [climb_no (i := i) (by omega) (by have := sgn_le h_t18; omega)])) ?_
      exact QE.done (.inl rfl) rfl (ResOk.t rfl ResOk.nil) (OImp.sub (List.nil_sublist _)) ⟨rfl, rfl⟩
    · refine CW.skip ?_
      refine QE.next ?_
      refine CW.draw (Γ := [.fr (kC.is ((xs.take i).sum)), .fr ((kSl kZ).is xs), .fr ((kInt .i64).is (i : Int)), .fr (VP.pim kZ (xs.getD i 0)), .fr (kZ.is (xs.getD i 0)), .fr (kC.is (((xs.take i).sum) + (xs.getD i 0)))]) (lates := [false, false, false, false, false, false]) (by kernel_rfl) (Chk.of rfl (by kernel_rfl) rfl) (fun _ _ _ _ _ h => h) (fun q_ x_ h_ => ?_) (fun σ => ?_)
      · match q_, h_ with
        | 0, h_ => cases h_; exact Ob.f rfl .n fun N => (O.ld rfl (mem_app N (mem_at 0 rfl)) (Lens.id _) ty31 rfl)
        | 1, h_ => cases h_; exact Ob.f rfl .n fun N => (O.mv rfl)
        | 2, h_ => cases h_; exact Ob.f rfl .n fun N => (O.mv rfl)
        | 3, h_ => cases h_; exact Ob.f rfl .n fun N => (O.ix i rfl rfl Try.underlying27 ty31 rfl (v := (xs.getD i 0)) (gd 0 (by omega)))
        | 4, h_ => cases h_; exact Ob.f rfl .n fun N => (O.ldP rfl ty31)
        | 5, h_ => cases h_; exact Ob.f rfl .n fun N => (O.fn fn79 (evs.l rfl (kC_Z (by exact wOk_Sm hk (by omega))) (evs.c rfl evs.nil)) (c_ref02_Add ((xs.take i).sum) (xs.getD i 0)))
        | n_ + 6, h_ => simp at h_
      refine WP.t .n (O.stW (l := kC) (u := ((xs.take i).sum) + (xs.getD i 0)) 0 rfl rfl rfl ty31 rfl (VP.le_refl _)) ?_
      refine WP.nil ?_
      refine QE.blkN ?_
      refine QE.next ?_
      refine CW.region ?_
      refine WP.s .n (O.mv rfl) ?_
      refine WP.s .n (O.add rfl rfl (c := ((i : Int) + 1)) (w64 (by omega))) ?_
      refine WP.s .n (O.asg rfl) ?_
      refine WP.nil ?_
      refine ST.obtold 0 rfl (OB.box_eq (y := ((xs.take (i + 1)).sum)) (take_sum (by omega)).symm) ?_
      exact QE.round (i + 1) (by omega) ⟨by omega, climbTo_s hc (sgn_gt h_t18)⟩ (Imp.cons rfl (Imp.cons rfl (Imp.consLe rfl (is_eq (y := (((i + 1) : Nat) : Int)) (by first | omega | rfl | assumption)) Imp.nil))) (OImp.refl _)
  · refine CW.exit ?_
    refine QE.thenE ?_
    refine QE.thenE ?_
    refine QE.blkH ?_
    refine QE.next ?_
    refine CW.seq ?_
    refine CW.region ?_
    refine WP.s .n (O.asg rfl) ?_
    refine WP.nil ?_
    refine QE.next ?_
    refine CW.ret ?_
    refine ST.told 2 rfl (is_eq (y := (climb xs)) (by rw [climb_yes (i := i) (by omega) hc])) ?_
    exact QE.done (.inl rfl) rfl (ResOk.t rfl ResOk.nil) (OImp.sub (List.nil_sublist _)) ⟨rfl, rfl⟩

set_option maxRecDepth 20000 in
set_option maxHeartbeats 1000000 in
theorem c_ref24_choices (xs : List Int) (s : Int) (hk : wOk xs = true) (hss : Ss s) (nn : Nat) (c : List Int) (i : Nat) (him : i + nn = xs.length) (hcr : Plc xs c) (hcl : c.length ≤ i) : Fn Try.prog 84 [(kSl kZ).is xs, kZ.is s, (kSl kI64).is c, (kInt .i64).is (i : Int)] ((kSl (kSl kI64)).is (chA xs s nn c)) := by
  revert c i
  refine Nat.strongRecOn nn ?_
  intro nn ih c i him hcr hcl
  refine Con.enter Try.func84 rfl rfl fun m w => ?_
  refine ST.fact (i := 0) rfl sl_len fun hB => ?_
  have hl := wOk_len hk
  have hpw : 2 ^ nn ≤ 2 ^ 10 := Nat.pow_le_pow_right (by decide) (by omega)
  refine CW.seq ?_
  refine CW.region ?_
  refine WP.bx .n rfl fun b1 => ?_
  refine WP.s .n (O.asg rfl) ?_
  refine WP.nil ?_
  refine QE.next ?_
  refine CW.seq ?_
  refine CW.region ?_
  refine WP.s .n (O.asg rfl) ?_
  refine WP.nil ?_
  refine QE.next ?_
  refine CW.seq ?_
  refine CW.seq ?_
  refine CW.draw (Γ := [.fr ((kSl kZ).is xs), .fr ((kSl kI64).is c), .fr (kC.is (tot xs c)), .fr (kZ.is s), .fr ((kInt .i64).is (((tot xs c) - s).sign)), .fr (kBool.is (decide ((((tot xs c) - s).sign) = 0)))]) (lates := [false, false, false, false, false, false]) (by kernel_rfl) (Chk.of rfl (by kernel_rfl) rfl) (fun _ _ _ _ _ h => h) (fun q_ x_ h_ => ?_) (fun σ => ?_)
  · match q_, h_ with
    | 0, h_ => cases h_; exact Ob.f rfl .n fun N => (O.mv rfl)
    | 1, h_ => cases h_; exact Ob.f rfl .n fun N => (O.mv rfl)
    | 2, h_ => cases h_; exact Ob.f rfl .n fun N => (O.fn fn159 (evs.c rfl (evs.c rfl evs.nil)) (c_ref24_total xs c (by omega) hcr (by omega)))
    | 3, h_ => cases h_; exact Ob.f rfl .n fun N => (O.ld rfl (mem_app N (mem_at 0 rfl)) (Lens.id _) ty31 rfl)
    | 4, h_ => cases h_; exact Ob.f rfl .n fun N => (O.fn fn88 (evs.l rfl (kC_Z (by exact tot_Sm' hk hcr (by omega))) (evs.c rfl evs.nil)) (c_ref02_Cmp (tot xs c) s (hss.2 _ (tot_10 hk hcr (by omega)).1 (tot_10 hk hcr (by omega)).2)))
    | 5, h_ => cases h_; exact Ob.f rfl .n fun N => (O.eq rfl rfl)
    | n_ + 6, h_ => simp at h_
  refine WP.nil ?_
  refine QE.next ?_
  refine CW.condD rfl (fun h_t18 => ?_) (fun h_t18 => ?_)
  · refine CW.seq ?_
    refine CW.region ?_
    refine WP.s .n (O.asg rfl) ?_
    refine WP.nil ?_
    refine QE.next ?_
    refine CW.region ?_
    refine WP.s .n (O.mv rfl) ?_
    refine WP.s .n (O.mv rfl) ?_
    refine WP.s .n (O.mv rfl) ?_
    refine ST.nilrow 3 kI64 ?_
    refine WP.ap 0 .n rfl rfl rfl (VP.le_refl _) Try.underlying28 el3_int (by first | omega | (simp <;> omega) | (simp only [List.length_append]; omega)) fun v2 => ?_
    refine ST.freeze 0 rfl (.keep (i := 0) rfl (.keep (i := 1) rfl (.keep (i := 2) rfl (.keep (i := 3) rfl (.keep (i := 5) rfl (.keep (i := 8) rfl (.keep (i := 9) rfl (.keep (i := 10) rfl (.keep (i := 13) rfl (.keep (i := 14) rfl (.keep (i := 15) rfl (.keep (i := 16) rfl (.keep (i := 17) rfl (.keep (i := 18) rfl (.keep (i := 19) rfl (.keep (i := 20) rfl (.keep (i := 21) rfl (.hit (i := 22) rfl .nil)))))))))))))))))) ?_
    refine WP.s .n (O.bs Try.underlying126 el28_sl_int (evl.c rfl evl.n) rfl (by decide)) ?_
    refine ST.nilrow 28 (kSl kI64) ?_
    refine WP.ap 0 .n rfl rfl rfl (VP.le_refl _) Try.underlying126 el28_sl_int (by first | omega | (simp <;> omega) | (simp only [List.length_append]; omega)) fun v3 => ?_
    refine WP.s .n (O.asg rfl) ?_
    refine WP.nil ?_
    refine QE.next ?_
    refine CW.seq ?_
    refine CW.seq ?_
    refine CW.region ?_
    refine WP.s .n (O.mv rfl) ?_
    refine WP.s .n (O.asg rfl) ?_
    refine WP.nil ?_
    refine QE.next ?_
    refine CW.block ?_
    refine CW.loop3 (fun (k : Nat) (out : List (List Int)) (v : Value) => i ≤ k ∧ k ≤ xs.length ∧ out ++ chK xs s (xs.length - k) c = chA xs s nn c) (fun (k : Nat) (out : List (List Int)) (v : Value) => [(0, (kSl kZ).is xs), (2, (kSl kI64).is c), (5, VP.ex (.pointer (some ⟨b1, 0, none⟩))), (9, VP.ex v), (11, (kInt .i64).is (k : Int))]) (fun (k : Nat) (out : List (List Int)) (v : Value) => [OB.row v 28 (kSl kI64) out, OB.box b1 31 kZ s]) (fun (k : Nat) (out : List (List Int)) (v : Value) => xs.length - k) i [c] v3 ⟨Nat.le_refl _, by omega, by rw [← chA_cond, if_pos (sgn_eq h_t18), show xs.length - i = nn from by omega]⟩ (Imp.cons rfl (Imp.cons rfl (Imp.cons rfl (Imp.cons rfl (Imp.cons rfl Imp.nil))))) (OImp.refl _) ?_
    intro k out v ⟨hik, hkn, hR⟩
    have hcm := chA_len xs s nn c
    have hol : out.length ≤ 2 ^ nn := by rw [← hR, List.length_append] at hcm; omega
    refine CW.seq ?_
    refine CW.seq ?_
    refine CW.region ?_
    refine WP.s .n (O.mv rfl) ?_
    refine WP.s .n (O.mv rfl) ?_
    refine WP.s .n (O.lenS rfl Try.underlying27) ?_
    refine WP.s .n (O.lt rfl rfl) ?_
    refine WP.nil ?_
    refine QE.next ?_
    refine CW.condD rfl (fun h_t29 => ?_) (fun h_t29 => ?_)
    · refine CW.skip ?_
      refine QE.next ?_
      refine CW.seq ?_
      refine CW.block ?_
      refine CW.seq ?_
      refine CW.region ?_
      refine WP.s .n (O.asg rfl) ?_
      refine WP.nil ?_
      refine QE.next ?_
      refine CW.seq ?_
      refine CW.region ?_
      refine WP.s .n (O.mv rfl) ?_
      refine WP.s .n (O.mv rfl) ?_
      refine ST.nilrow 3 kI64 ?_
      refine WP.ap 0 .n rfl rfl rfl (VP.le_refl _) Try.underlying28 el3_int (by first | omega | (simp <;> omega) | (simp only [List.length_append]; omega)) fun v4 => ?_
      refine WP.s .n (O.asg rfl) ?_
      refine WP.nil ?_
      refine QE.next ?_
      have hcm2 : (out ++ chA xs s (xs.length - (k + 1)) (c ++ [(k : Int)])).length ≤ 2 ^ nn := by rw [← hR, ← chK_s (k := k) (by omega), ← List.append_assoc, List.length_append] at hcm; omega
      rw [List.length_append] at hcm2
      refine CW.any (by kernel_rfl) ?_
      refine DA.first 0 rfl (by kernel_rfl) (by kernel_rfl) (by kernel_rfl) (fun _ _ _ _ _ h => h) .n (OV.mv rfl) ?_
      refine DA.first 1 rfl (by kernel_rfl) (by kernel_rfl) (by kernel_rfl) (fun _ _ _ _ _ h => h) .n (OV.mv rfl) ?_
      refine DA.first 3 rfl (by kernel_rfl) (by kernel_rfl) (by kernel_rfl) (fun _ _ _ _ _ h => h) .n (OV.mv rfl) ?_
      refine DA.first 4 rfl (by kernel_rfl) (by kernel_rfl) (by kernel_rfl) (fun _ _ _ _ _ h => h) .n (OV.mv rfl) ?_
      refine DA.first 7 rfl (by kernel_rfl) (by kernel_rfl) (by kernel_rfl) (fun _ _ _ _ _ h => h) .n (OV.mv rfl) ?_
      refine DA.first 8 rfl (by kernel_rfl) (by kernel_rfl) (by kernel_rfl) (fun _ _ _ _ _ h => h) .n (OV.add rfl rfl (c := ((k : Int) + 1)) (w64 (by omega))) ?_
      refine DA.go 2 [5] (by kernel_rfl) ⟨?_, ⟨?_, trivial⟩⟩
      · refine DO.w rfl ?_
        refine WP.s .n (O.ld rfl (mem_at 2 rfl) (Lens.id _) ty31 rfl) ?_
        refine WP.nil ?_
        refine DO.nx ?_
        refine DA.go 5 [] (by kernel_rfl) ⟨?_, trivial⟩
        refine DO.w rfl ?_
        refine WP.s .n (O.bs Try.underlying28 el3_int (evl.l rfl (i64_int (by omega)) evl.n) rfl (by decide)) ?_
        refine WP.nil ?_
        refine DO.nx ?_
        refine DA.go 6 [] (by kernel_rfl) ⟨?_, trivial⟩
        refine DO.w rfl ?_
        refine WP.ap 0 .n rfl rfl rfl (VP.le_refl _) Try.underlying28 el3_int (by first | omega | (simp <;> omega) | (simp only [List.length_append]; omega)) fun v5 => ?_
        refine WP.nil ?_
        refine DO.nx ?_
        refine DA.go 9 [] (by kernel_rfl) ⟨?_, trivial⟩
        refine ST.freeze 0 rfl (.keep (i := 0) rfl (.keep (i := 2) rfl (.keep (i := 5) rfl (.keep (i := 9) rfl (.keep (i := 11) rfl (.keep (i := 12) rfl (.keep (i := 26) rfl (.keep (i := 27) rfl (.keep (i := 28) rfl (.keep (i := 29) rfl (.keep (i := 32) rfl (.keep (i := 33) rfl (.keep (i := 34) rfl (.keep (i := 35) rfl (.keep (i := 36) rfl (.keep (i := 37) rfl (.keep (i := 38) rfl (.keep (i := 39) rfl (.keep (i := 40) rfl (.hit (i := 41) rfl (.keep (i := 42) rfl (.keep (i := 43) rfl .nil)))))))))))))))))))))) ?_
        refine DO.w rfl ?_
        refine WP.s .n (O.fn fn84 (evs.c rfl (evs.c rfl (evs.c rfl (evs.l rfl (is_eq (y := (((k + 1) : Nat) : Int)) (by first | omega | rfl | assumption | simp)) evs.nil)))) (ih (xs.length - (k + 1)) (by omega) (c ++ [(k : Int)]) (k + 1) (by omega) (Plc_app hcr (by omega)) (by simp; omega))) ?_
        refine WP.nil ?_
        refine DO.nx ?_
        refine DA.go 10 [] (by kernel_rfl) ⟨?_, trivial⟩
        refine DO.w rfl ?_
        refine WP.ap 0 .n rfl rfl rfl (VP.le_refl _) Try.underlying126 el28_sl_int (by first | omega | (simp <;> omega) | (simp only [List.length_append]; omega)) fun v6 => ?_
        refine WP.nil ?_
        refine DO.nx ?_
        refine DA.go 11 [] (by kernel_rfl) ⟨?_, trivial⟩
        refine DO.w rfl ?_
        refine WP.s .n (O.asg rfl) ?_
        refine WP.nil ?_
        refine DO.nx ?_
        refine DA.nil (by kernel_rfl) ?_
        refine QE.blkN ?_
        refine QE.next ?_
        refine CW.region ?_
        refine WP.s .n (O.mv rfl) ?_
        refine WP.s .n (O.add rfl rfl (c := ((k : Int) + 1)) (w64 (by omega))) ?_
        refine WP.s .n (O.asg rfl) ?_
        refine WP.nil ?_
        exact QE.round3 (k + 1) (out ++ chA xs s (xs.length - (k + 1)) (c ++ [(k : Int)])) v6 (by omega) ⟨by omega, by omega, by rw [List.append_assoc, chK_s (by omega)]; exact hR⟩ (Imp.cons rfl (Imp.cons rfl (Imp.cons rfl (Imp.cons rfl (Imp.consLe rfl (is_eq (y := (((k + 1) : Nat) : Int)) (by first | omega | rfl | assumption | simp)) Imp.nil))))) (OImp.refl _)
      · refine DO.w rfl ?_
        refine WP.s .n (O.bs Try.underlying28 el3_int (evl.l rfl (i64_int (by omega)) evl.n) rfl (by decide)) ?_
        refine WP.nil ?_
        refine DO.nx ?_
        refine DA.go 2 [6] (by kernel_rfl) ⟨?_, ⟨?_, trivial⟩⟩
        · refine DO.w rfl ?_
          refine WP.s .n (O.ld rfl (mem_at 2 rfl) (Lens.id _) ty31 rfl) ?_
          refine WP.nil ?_
          refine DO.nx ?_
          refine DA.go 6 [] (by kernel_rfl) ⟨?_, trivial⟩
          refine DO.w rfl ?_
          refine WP.ap 0 .n rfl rfl rfl (VP.le_refl _) Try.underlying28 el3_int (by first | omega | (simp <;> omega) | (simp only [List.length_append]; omega)) fun v7 => ?_
          refine WP.nil ?_
          refine DO.nx ?_
          refine DA.go 9 [] (by kernel_rfl) ⟨?_, trivial⟩
          refine ST.freeze 0 rfl (.keep (i := 0) rfl (.keep (i := 2) rfl (.keep (i := 5) rfl (.keep (i := 9) rfl (.keep (i := 11) rfl (.keep (i := 12) rfl (.keep (i := 26) rfl (.keep (i := 27) rfl (.keep (i := 28) rfl (.keep (i := 29) rfl (.keep (i := 32) rfl (.keep (i := 33) rfl (.keep (i := 34) rfl (.keep (i := 35) rfl (.keep (i := 36) rfl (.keep (i := 37) rfl (.keep (i := 38) rfl (.keep (i := 39) rfl (.keep (i := 40) rfl (.hit (i := 41) rfl (.keep (i := 42) rfl (.keep (i := 43) rfl .nil)))))))))))))))))))))) ?_
          refine DO.w rfl ?_
          refine WP.s .n (O.fn fn84 (evs.c rfl (evs.c rfl (evs.c rfl (evs.l rfl (is_eq (y := (((k + 1) : Nat) : Int)) (by first | omega | rfl | assumption | simp)) evs.nil)))) (ih (xs.length - (k + 1)) (by omega) (c ++ [(k : Int)]) (k + 1) (by omega) (Plc_app hcr (by omega)) (by simp; omega))) ?_
          refine WP.nil ?_
          refine DO.nx ?_
          refine DA.go 10 [] (by kernel_rfl) ⟨?_, trivial⟩
          refine DO.w rfl ?_
          refine WP.ap 0 .n rfl rfl rfl (VP.le_refl _) Try.underlying126 el28_sl_int (by first | omega | (simp <;> omega) | (simp only [List.length_append]; omega)) fun v8 => ?_
          refine WP.nil ?_
          refine DO.nx ?_
          refine DA.go 11 [] (by kernel_rfl) ⟨?_, trivial⟩
          refine DO.w rfl ?_
          refine WP.s .n (O.asg rfl) ?_
          refine WP.nil ?_
          refine DO.nx ?_
          refine DA.nil (by kernel_rfl) ?_
          refine QE.blkN ?_
          refine QE.next ?_
          refine CW.region ?_
          refine WP.s .n (O.mv rfl) ?_
          refine WP.s .n (O.add rfl rfl (c := ((k : Int) + 1)) (w64 (by omega))) ?_
          refine WP.s .n (O.asg rfl) ?_
          refine WP.nil ?_
          exact QE.round3 (k + 1) (out ++ chA xs s (xs.length - (k + 1)) (c ++ [(k : Int)])) v8 (by omega) ⟨by omega, by omega, by rw [List.append_assoc, chK_s (by omega)]; exact hR⟩ (Imp.cons rfl (Imp.cons rfl (Imp.cons rfl (Imp.cons rfl (Imp.consLe rfl (is_eq (y := (((k + 1) : Nat) : Int)) (by first | omega | rfl | assumption | simp)) Imp.nil))))) (OImp.refl _)
        · refine DO.w rfl ?_
          refine WP.ap 0 .n rfl rfl rfl (VP.le_refl _) Try.underlying28 el3_int (by first | omega | (simp <;> omega) | (simp only [List.length_append]; omega)) fun v9 => ?_
          refine WP.nil ?_
          refine DO.nx ?_
          refine DA.go 2 [] (by kernel_rfl) ⟨?_, trivial⟩
          refine DO.w rfl ?_
          refine WP.s .n (O.ld rfl (mem_at 2 rfl) (Lens.id _) ty31 rfl) ?_
          refine WP.nil ?_
          refine DO.nx ?_
          refine DA.go 9 [] (by kernel_rfl) ⟨?_, trivial⟩
          refine ST.freeze 0 rfl (.keep (i := 0) rfl (.keep (i := 2) rfl (.keep (i := 5) rfl (.keep (i := 9) rfl (.keep (i := 11) rfl (.keep (i := 12) rfl (.keep (i := 26) rfl (.keep (i := 27) rfl (.keep (i := 28) rfl (.keep (i := 29) rfl (.keep (i := 32) rfl (.keep (i := 33) rfl (.keep (i := 34) rfl (.keep (i := 35) rfl (.keep (i := 36) rfl (.keep (i := 37) rfl (.keep (i := 38) rfl (.keep (i := 39) rfl (.keep (i := 40) rfl (.hit (i := 41) rfl (.keep (i := 42) rfl (.keep (i := 43) rfl .nil)))))))))))))))))))))) ?_
          refine DO.w rfl ?_
          refine WP.s .n (O.fn fn84 (evs.c rfl (evs.c rfl (evs.c rfl (evs.l rfl (is_eq (y := (((k + 1) : Nat) : Int)) (by first | omega | rfl | assumption | simp)) evs.nil)))) (ih (xs.length - (k + 1)) (by omega) (c ++ [(k : Int)]) (k + 1) (by omega) (Plc_app hcr (by omega)) (by simp; omega))) ?_
          refine WP.nil ?_
          refine DO.nx ?_
          refine DA.go 10 [] (by kernel_rfl) ⟨?_, trivial⟩
          refine DO.w rfl ?_
          refine WP.ap 0 .n rfl rfl rfl (VP.le_refl _) Try.underlying126 el28_sl_int (by first | omega | (simp <;> omega) | (simp only [List.length_append]; omega)) fun v10 => ?_
          refine WP.nil ?_
          refine DO.nx ?_
          refine DA.go 11 [] (by kernel_rfl) ⟨?_, trivial⟩
          refine DO.w rfl ?_
          refine WP.s .n (O.asg rfl) ?_
          refine WP.nil ?_
          refine DO.nx ?_
          refine DA.nil (by kernel_rfl) ?_
          refine QE.blkN ?_
          refine QE.next ?_
          refine CW.region ?_
          refine WP.s .n (O.mv rfl) ?_
          refine WP.s .n (O.add rfl rfl (c := ((k : Int) + 1)) (w64 (by omega))) ?_
          refine WP.s .n (O.asg rfl) ?_
          refine WP.nil ?_
          exact QE.round3 (k + 1) (out ++ chA xs s (xs.length - (k + 1)) (c ++ [(k : Int)])) v10 (by omega) ⟨by omega, by omega, by rw [List.append_assoc, chK_s (by omega)]; exact hR⟩ (Imp.cons rfl (Imp.cons rfl (Imp.cons rfl (Imp.cons rfl (Imp.consLe rfl (is_eq (y := (((k + 1) : Nat) : Int)) (by first | omega | rfl | assumption | simp)) Imp.nil))))) (OImp.refl _)
    · refine CW.exit ?_
      refine QE.thenE ?_
      refine QE.thenE ?_
      refine QE.blkH ?_
      refine QE.next ?_
      refine CW.seq ?_
      refine CW.region ?_
      refine WP.s .n (O.mv rfl) ?_
      refine WP.s .n (O.asg rfl) ?_
      refine WP.nil ?_
      refine QE.next ?_
      refine CW.ret ?_
      refine ST.freeze 0 rfl (.keep (i := 0) rfl (.keep (i := 2) rfl (.keep (i := 5) rfl (.hit (i := 8) rfl (.hit (i := 9) rfl (.keep (i := 11) rfl (.keep (i := 26) rfl (.keep (i := 27) rfl (.keep (i := 28) rfl (.keep (i := 29) rfl (.hit (i := 46) rfl .nil))))))))))) ?_
      refine ST.told 8 rfl (is_eq (y := (chA xs s nn c)) (by rw [← hR, show xs.length - k = 0 from by omega]; simp [chK])) ?_
      exact QE.done (.inl rfl) rfl (ResOk.t rfl ResOk.nil) (OImp.sub (List.nil_sublist _)) ⟨rfl, rfl⟩
  · refine CW.skip ?_
    refine QE.next ?_
    refine CW.seq ?_
    refine CW.seq ?_
    refine CW.region ?_
    refine WP.s .n (O.mv rfl) ?_
    refine WP.s .n (O.asg rfl) ?_
    refine WP.nil ?_
    refine QE.next ?_
    refine CW.block ?_
    refine ST.nilrow 28 (kSl kI64) ?_
    refine CW.loop3 (fun (k : Nat) (out : List (List Int)) (v : Value) => i ≤ k ∧ k ≤ xs.length ∧ out ++ chK xs s (xs.length - k) c = chA xs s nn c) (fun (k : Nat) (out : List (List Int)) (v : Value) => [(0, (kSl kZ).is xs), (2, (kSl kI64).is c), (5, VP.ex (.pointer (some ⟨b1, 0, none⟩))), (9, VP.ex v), (11, (kInt .i64).is (k : Int))]) (fun (k : Nat) (out : List (List Int)) (v : Value) => [OB.row v 28 (kSl kI64) out, OB.box b1 31 kZ s]) (fun (k : Nat) (out : List (List Int)) (v : Value) => xs.length - k) i [] (.slice none 0 0) ⟨Nat.le_refl _, by omega, by rw [← chA_cond, if_neg (sgn_ne h_t18), show xs.length - i = nn from by omega]⟩ (Imp.cons rfl (Imp.cons rfl (Imp.cons rfl (Imp.cons rfl (Imp.cons rfl Imp.nil))))) (OImp.refl _) ?_
    intro k out v ⟨hik, hkn, hR⟩
    have hcm := chA_len xs s nn c
    have hol : out.length ≤ 2 ^ nn := by rw [← hR, List.length_append] at hcm; omega
    refine CW.seq ?_
    refine CW.seq ?_
    refine CW.region ?_
    refine WP.s .n (O.mv rfl) ?_
    refine WP.s .n (O.mv rfl) ?_
    refine WP.s .n (O.lenS rfl Try.underlying27) ?_
    refine WP.s .n (O.lt rfl rfl) ?_
    refine WP.nil ?_
    refine QE.next ?_
    refine CW.condD rfl (fun h_t29 => ?_) (fun h_t29 => ?_)
    · refine CW.skip ?_
      refine QE.next ?_
      refine CW.seq ?_
      refine CW.block ?_
      refine CW.seq ?_
      refine CW.region ?_
      refine WP.s .n (O.asg rfl) ?_
      refine WP.nil ?_
      refine QE.next ?_
      refine CW.seq ?_
      refine CW.region ?_
      refine WP.s .n (O.mv rfl) ?_
      refine WP.s .n (O.mv rfl) ?_
      refine ST.nilrow 3 kI64 ?_
      refine WP.ap 0 .n rfl rfl rfl (VP.le_refl _) Try.underlying28 el3_int (by first | omega | (simp <;> omega) | (simp only [List.length_append]; omega)) fun v11 => ?_
      refine WP.s .n (O.asg rfl) ?_
      refine WP.nil ?_
      refine QE.next ?_
      have hcm2 : (out ++ chA xs s (xs.length - (k + 1)) (c ++ [(k : Int)])).length ≤ 2 ^ nn := by rw [← hR, ← chK_s (k := k) (by omega), ← List.append_assoc, List.length_append] at hcm; omega
      rw [List.length_append] at hcm2
      refine CW.any (by kernel_rfl) ?_
      refine DA.first 0 rfl (by kernel_rfl) (by kernel_rfl) (by kernel_rfl) (fun _ _ _ _ _ h => h) .n (OV.mv rfl) ?_
      refine DA.first 1 rfl (by kernel_rfl) (by kernel_rfl) (by kernel_rfl) (fun _ _ _ _ _ h => h) .n (OV.mv rfl) ?_
      refine DA.first 3 rfl (by kernel_rfl) (by kernel_rfl) (by kernel_rfl) (fun _ _ _ _ _ h => h) .n (OV.mv rfl) ?_
      refine DA.first 4 rfl (by kernel_rfl) (by kernel_rfl) (by kernel_rfl) (fun _ _ _ _ _ h => h) .n (OV.mv rfl) ?_
      refine DA.first 7 rfl (by kernel_rfl) (by kernel_rfl) (by kernel_rfl) (fun _ _ _ _ _ h => h) .n (OV.mv rfl) ?_
      refine DA.first 8 rfl (by kernel_rfl) (by kernel_rfl) (by kernel_rfl) (fun _ _ _ _ _ h => h) .n (OV.add rfl rfl (c := ((k : Int) + 1)) (w64 (by omega))) ?_
      refine DA.go 2 [5] (by kernel_rfl) ⟨?_, ⟨?_, trivial⟩⟩
      · refine DO.w rfl ?_
        refine WP.s .n (O.ld rfl (mem_at 2 rfl) (Lens.id _) ty31 rfl) ?_
        refine WP.nil ?_
        refine DO.nx ?_
        refine DA.go 5 [] (by kernel_rfl) ⟨?_, trivial⟩
        refine DO.w rfl ?_
        refine WP.s .n (O.bs Try.underlying28 el3_int (evl.l rfl (i64_int (by omega)) evl.n) rfl (by decide)) ?_
        refine WP.nil ?_
        refine DO.nx ?_
        refine DA.go 6 [] (by kernel_rfl) ⟨?_, trivial⟩
        refine DO.w rfl ?_
        refine WP.ap 0 .n rfl rfl rfl (VP.le_refl _) Try.underlying28 el3_int (by first | omega | (simp <;> omega) | (simp only [List.length_append]; omega)) fun v12 => ?_
        refine WP.nil ?_
        refine DO.nx ?_
        refine DA.go 9 [] (by kernel_rfl) ⟨?_, trivial⟩
        refine ST.freeze 0 rfl (.keep (i := 0) rfl (.keep (i := 2) rfl (.keep (i := 5) rfl (.keep (i := 9) rfl (.keep (i := 11) rfl (.keep (i := 12) rfl (.keep (i := 26) rfl (.keep (i := 27) rfl (.keep (i := 28) rfl (.keep (i := 29) rfl (.keep (i := 32) rfl (.keep (i := 33) rfl (.keep (i := 34) rfl (.keep (i := 35) rfl (.keep (i := 36) rfl (.keep (i := 37) rfl (.keep (i := 38) rfl (.keep (i := 39) rfl (.keep (i := 40) rfl (.hit (i := 41) rfl (.keep (i := 42) rfl (.keep (i := 43) rfl .nil)))))))))))))))))))))) ?_
        refine DO.w rfl ?_
        refine WP.s .n (O.fn fn84 (evs.c rfl (evs.c rfl (evs.c rfl (evs.l rfl (is_eq (y := (((k + 1) : Nat) : Int)) (by first | omega | rfl | assumption | simp)) evs.nil)))) (ih (xs.length - (k + 1)) (by omega) (c ++ [(k : Int)]) (k + 1) (by omega) (Plc_app hcr (by omega)) (by simp; omega))) ?_
        refine WP.nil ?_
        refine DO.nx ?_
        refine DA.go 10 [] (by kernel_rfl) ⟨?_, trivial⟩
        refine DO.w rfl ?_
        refine WP.ap 0 .n rfl rfl rfl (VP.le_refl _) Try.underlying126 el28_sl_int (by first | omega | (simp <;> omega) | (simp only [List.length_append]; omega)) fun v13 => ?_
        refine WP.nil ?_
        refine DO.nx ?_
        refine DA.go 11 [] (by kernel_rfl) ⟨?_, trivial⟩
        refine DO.w rfl ?_
        refine WP.s .n (O.asg rfl) ?_
        refine WP.nil ?_
        refine DO.nx ?_
        refine DA.nil (by kernel_rfl) ?_
        refine QE.blkN ?_
        refine QE.next ?_
        refine CW.region ?_
        refine WP.s .n (O.mv rfl) ?_
        refine WP.s .n (O.add rfl rfl (c := ((k : Int) + 1)) (w64 (by omega))) ?_
        refine WP.s .n (O.asg rfl) ?_
        refine WP.nil ?_
        exact QE.round3 (k + 1) (out ++ chA xs s (xs.length - (k + 1)) (c ++ [(k : Int)])) v13 (by omega) ⟨by omega, by omega, by rw [List.append_assoc, chK_s (by omega)]; exact hR⟩ (Imp.cons rfl (Imp.cons rfl (Imp.cons rfl (Imp.cons rfl (Imp.consLe rfl (is_eq (y := (((k + 1) : Nat) : Int)) (by first | omega | rfl | assumption | simp)) Imp.nil))))) (OImp.refl _)
      · refine DO.w rfl ?_
        refine WP.s .n (O.bs Try.underlying28 el3_int (evl.l rfl (i64_int (by omega)) evl.n) rfl (by decide)) ?_
        refine WP.nil ?_
        refine DO.nx ?_
        refine DA.go 2 [6] (by kernel_rfl) ⟨?_, ⟨?_, trivial⟩⟩
        · refine DO.w rfl ?_
          refine WP.s .n (O.ld rfl (mem_at 2 rfl) (Lens.id _) ty31 rfl) ?_
          refine WP.nil ?_
          refine DO.nx ?_
          refine DA.go 6 [] (by kernel_rfl) ⟨?_, trivial⟩
          refine DO.w rfl ?_
          refine WP.ap 0 .n rfl rfl rfl (VP.le_refl _) Try.underlying28 el3_int (by first | omega | (simp <;> omega) | (simp only [List.length_append]; omega)) fun v14 => ?_
          refine WP.nil ?_
          refine DO.nx ?_
          refine DA.go 9 [] (by kernel_rfl) ⟨?_, trivial⟩
          refine ST.freeze 0 rfl (.keep (i := 0) rfl (.keep (i := 2) rfl (.keep (i := 5) rfl (.keep (i := 9) rfl (.keep (i := 11) rfl (.keep (i := 12) rfl (.keep (i := 26) rfl (.keep (i := 27) rfl (.keep (i := 28) rfl (.keep (i := 29) rfl (.keep (i := 32) rfl (.keep (i := 33) rfl (.keep (i := 34) rfl (.keep (i := 35) rfl (.keep (i := 36) rfl (.keep (i := 37) rfl (.keep (i := 38) rfl (.keep (i := 39) rfl (.keep (i := 40) rfl (.hit (i := 41) rfl (.keep (i := 42) rfl (.keep (i := 43) rfl .nil)))))))))))))))))))))) ?_
          refine DO.w rfl ?_
          refine WP.s .n (O.fn fn84 (evs.c rfl (evs.c rfl (evs.c rfl (evs.l rfl (is_eq (y := (((k + 1) : Nat) : Int)) (by first | omega | rfl | assumption | simp)) evs.nil)))) (ih (xs.length - (k + 1)) (by omega) (c ++ [(k : Int)]) (k + 1) (by omega) (Plc_app hcr (by omega)) (by simp; omega))) ?_
          refine WP.nil ?_
          refine DO.nx ?_
          refine DA.go 10 [] (by kernel_rfl) ⟨?_, trivial⟩
          refine DO.w rfl ?_
          refine WP.ap 0 .n rfl rfl rfl (VP.le_refl _) Try.underlying126 el28_sl_int (by first | omega | (simp <;> omega) | (simp only [List.length_append]; omega)) fun v15 => ?_
          refine WP.nil ?_
          refine DO.nx ?_
          refine DA.go 11 [] (by kernel_rfl) ⟨?_, trivial⟩
          refine DO.w rfl ?_
          refine WP.s .n (O.asg rfl) ?_
          refine WP.nil ?_
          refine DO.nx ?_
          refine DA.nil (by kernel_rfl) ?_
          refine QE.blkN ?_
          refine QE.next ?_
          refine CW.region ?_
          refine WP.s .n (O.mv rfl) ?_
          refine WP.s .n (O.add rfl rfl (c := ((k : Int) + 1)) (w64 (by omega))) ?_
          refine WP.s .n (O.asg rfl) ?_
          refine WP.nil ?_
          exact QE.round3 (k + 1) (out ++ chA xs s (xs.length - (k + 1)) (c ++ [(k : Int)])) v15 (by omega) ⟨by omega, by omega, by rw [List.append_assoc, chK_s (by omega)]; exact hR⟩ (Imp.cons rfl (Imp.cons rfl (Imp.cons rfl (Imp.cons rfl (Imp.consLe rfl (is_eq (y := (((k + 1) : Nat) : Int)) (by first | omega | rfl | assumption | simp)) Imp.nil))))) (OImp.refl _)
        · refine DO.w rfl ?_
          refine WP.ap 0 .n rfl rfl rfl (VP.le_refl _) Try.underlying28 el3_int (by first | omega | (simp <;> omega) | (simp only [List.length_append]; omega)) fun v16 => ?_
          refine WP.nil ?_
          refine DO.nx ?_
          refine DA.go 2 [] (by kernel_rfl) ⟨?_, trivial⟩
          refine DO.w rfl ?_
          refine WP.s .n (O.ld rfl (mem_at 2 rfl) (Lens.id _) ty31 rfl) ?_
          refine WP.nil ?_
          refine DO.nx ?_
          refine DA.go 9 [] (by kernel_rfl) ⟨?_, trivial⟩
          refine ST.freeze 0 rfl (.keep (i := 0) rfl (.keep (i := 2) rfl (.keep (i := 5) rfl (.keep (i := 9) rfl (.keep (i := 11) rfl (.keep (i := 12) rfl (.keep (i := 26) rfl (.keep (i := 27) rfl (.keep (i := 28) rfl (.keep (i := 29) rfl (.keep (i := 32) rfl (.keep (i := 33) rfl (.keep (i := 34) rfl (.keep (i := 35) rfl (.keep (i := 36) rfl (.keep (i := 37) rfl (.keep (i := 38) rfl (.keep (i := 39) rfl (.keep (i := 40) rfl (.hit (i := 41) rfl (.keep (i := 42) rfl (.keep (i := 43) rfl .nil)))))))))))))))))))))) ?_
          refine DO.w rfl ?_
          refine WP.s .n (O.fn fn84 (evs.c rfl (evs.c rfl (evs.c rfl (evs.l rfl (is_eq (y := (((k + 1) : Nat) : Int)) (by first | omega | rfl | assumption | simp)) evs.nil)))) (ih (xs.length - (k + 1)) (by omega) (c ++ [(k : Int)]) (k + 1) (by omega) (Plc_app hcr (by omega)) (by simp; omega))) ?_
          refine WP.nil ?_
          refine DO.nx ?_
          refine DA.go 10 [] (by kernel_rfl) ⟨?_, trivial⟩
          refine DO.w rfl ?_
          refine WP.ap 0 .n rfl rfl rfl (VP.le_refl _) Try.underlying126 el28_sl_int (by first | omega | (simp <;> omega) | (simp only [List.length_append]; omega)) fun v17 => ?_
          refine WP.nil ?_
          refine DO.nx ?_
          refine DA.go 11 [] (by kernel_rfl) ⟨?_, trivial⟩
          refine DO.w rfl ?_
          refine WP.s .n (O.asg rfl) ?_
          refine WP.nil ?_
          refine DO.nx ?_
          refine DA.nil (by kernel_rfl) ?_
          refine QE.blkN ?_
          refine QE.next ?_
          refine CW.region ?_
          refine WP.s .n (O.mv rfl) ?_
          refine WP.s .n (O.add rfl rfl (c := ((k : Int) + 1)) (w64 (by omega))) ?_
          refine WP.s .n (O.asg rfl) ?_
          refine WP.nil ?_
          exact QE.round3 (k + 1) (out ++ chA xs s (xs.length - (k + 1)) (c ++ [(k : Int)])) v17 (by omega) ⟨by omega, by omega, by rw [List.append_assoc, chK_s (by omega)]; exact hR⟩ (Imp.cons rfl (Imp.cons rfl (Imp.cons rfl (Imp.cons rfl (Imp.consLe rfl (is_eq (y := (((k + 1) : Nat) : Int)) (by first | omega | rfl | assumption | simp)) Imp.nil))))) (OImp.refl _)
    · refine CW.exit ?_
      refine QE.thenE ?_
      refine QE.thenE ?_
      refine QE.blkH ?_
      refine QE.next ?_
      refine CW.seq ?_
      refine CW.region ?_
      refine WP.s .n (O.mv rfl) ?_
      refine WP.s .n (O.asg rfl) ?_
      refine WP.nil ?_
      refine QE.next ?_
      refine CW.ret ?_
      refine ST.freeze 0 rfl (.keep (i := 0) rfl (.keep (i := 2) rfl (.keep (i := 5) rfl (.hit (i := 8) rfl (.hit (i := 9) rfl (.keep (i := 11) rfl (.keep (i := 26) rfl (.keep (i := 27) rfl (.keep (i := 28) rfl (.keep (i := 29) rfl (.hit (i := 46) rfl .nil))))))))))) ?_
      refine ST.told 8 rfl (is_eq (y := (chA xs s nn c)) (by rw [← hR, show xs.length - k = 0 from by omega]; simp [chK])) ?_
      exact QE.done (.inl rfl) rfl (ResOk.t rfl ResOk.nil) (OImp.sub (List.nil_sublist _)) ⟨rfl, rfl⟩

end Fw


/- Plain facts on limbs: the document's quotient. -/
set_option linter.unusedVariables false
set_option linter.unusedSimpArgs false
set_option exponentiation.threshold 70
namespace Fw
open Go (IntKind)
theorem shl1_32 {n : Nat} (h : n < 32) {b : Int} (hb : b = n) : IntKind.u32.wrap ((1 : Int) * 2 ^ (min b.toNat IntKind.u32.bits)) = ((2 ^ n : Nat) : Int) := by
  subst hb
  show IntKind.u32.wrap (1 * 2 ^ (min _ 32)) = _
  rw [Int.toNat_natCast, Nat.min_eq_left (Nat.le_of_lt h), Int.one_mul, wrs32 (s := 2 ^ n) ⟨by norm_cast, Nat.lt_of_le_of_lt (pow32 h).2.1 (by decide)⟩]
theorem rdiv_top {R V : Nat} {n : Nat} (hn : n = (limbs V).length) (hV : V ≠ 0) (hR : R < V * 4294967296) : R / V ≤ ((limbs R).getD n 0 * 4294967296 + (limbs R).getD (n - 1) 0) / (limbs V).getD (n - 1) 0 := by
  have hp : 1 ≤ n := by rw [hn]; exact limbs_len_pos hV
  have ht := limbs_top hV
  rw [← hn] at ht
  have h1 := two_limbs (limbs R) (limbs_lims R) (n - 1)
  rw [nval_limbs, show n - 1 + 1 = n from by omega] at h1
  have h2 := lt_limbs V
  rw [← hn] at h2
  have hpos : 0 < 4294967296 ^ (n - 1) := Nat.pow_pos (by decide)
  have h3 : R / 4294967296 ^ (n - 1) < 18446744073709551616 := by
    rw [Nat.div_lt_iff_lt_mul hpos]
    have e : 18446744073709551616 * 4294967296 ^ (n - 1) = 4294967296 ^ n * 4294967296 := by
      have : 4294967296 ^ n = 4294967296 ^ (n - 1) * 4294967296 := by
        conv => lhs; rw [show n = n - 1 + 1 from by omega, Nat.pow_succ]
      rw [this]
      generalize 4294967296 ^ (n - 1) = P
      omega
    rw [e]
    exact Nat.lt_trans hR (Nat.mul_lt_mul_of_pos_right h2 (by decide))
  rw [Nat.mod_eq_of_lt h3] at h1
  rw [show (4294967296 : Nat) = 2 ^ 32 from rfl] at *
  rw [h1, Nat.div_div_eq_div_mul]
  have h4 := split_at (l := limbs V) (i := n) (Nat.le_of_eq hn) hp
  rw [hn, List.drop_length, ← hn, nval, Nat.mul_zero, Nat.add_zero, nval_limbs] at h4
  refine Nat.div_le_div_left ?_ (Nat.mul_pos (Nat.pow_pos (by decide)) (Nat.pos_of_ne_zero ht))
  exact Nat.le_trans (Nat.le_add_left _ _) (Nat.le_of_eq h4.symm)
def RDiv (U : List Nat) (V : Nat) (qs : List Nat) (k rest : Nat) : Prop := qs.length = U.length ∧ Lims qs ∧ k ≤ U.length ∧ rest < V ∧ nval (U.drop k) = nval (qs.drop k) * V + rest ∧ ∀ p, p < k → qs.getD p 0 = 0
theorem rdiv_0 {U : List Nat} {V : Nat} (hV : V ≠ 0) : RDiv U V (List.replicate U.length 0) U.length 0 := by
  refine ⟨by simp, fun x hx => ?_, Nat.le_refl _, Nat.pos_of_ne_zero hV, ?_, fun p _ => ?_⟩
  · have := (List.mem_replicate.1 hx).2; omega
  · rw [List.drop_length, List.drop_of_length_le (by simp)]; simp [nval]
  · rw [List.getD_eq_getElem?_getD, List.getElem?_replicate]; split <;> rfl
theorem rdiv_R {U qs : List Nat} {V k rest : Nat} (lU : Lims U) (hk : 0 < k) (h : RDiv U V qs k rest) : U.getD (k - 1) 0 + 4294967296 * rest < V * 4294967296 := by
  have := getD_lt lU (k - 1)
  have := h.2.2.2.1
  omega
theorem rdiv_lt {U qs : List Nat} {V k rest : Nat} (hk : 0 < k) (h : RDiv U V qs k rest) (hR : U.getD (k - 1) 0 + 4294967296 * rest < V) : RDiv U V qs (k - 1) (U.getD (k - 1) 0 + 4294967296 * rest) := by
  obtain ⟨h1, h2, h3, h4, h5, h6⟩ := h
  refine ⟨h1, h2, by omega, hR, ?_, fun p hp => h6 p (by omega)⟩
  rw [nval_drop, nval_drop qs, show k - 1 + 1 = k from by omega, h5, h6 _ (by omega), Nat.zero_add, Nat.mul_assoc]
  omega
theorem rdiv_ge {U qs : List Nat} {V k rest g : Nat} (lU : Lims U) (hk : 0 < k) (h : RDiv U V qs k rest) (hg : g = (U.getD (k - 1) 0 + 4294967296 * rest) / V) (hgl : g < 4294967296) : RDiv U V (qs.set (k - 1) g) (k - 1) (U.getD (k - 1) 0 + 4294967296 * rest - V * g) := by
  obtain ⟨h1, h2, h3, h4, h5, h6⟩ := h
  have e1 := Nat.div_add_mod (U.getD (k - 1) 0 + 4294967296 * rest) V
  have e2 := Nat.mod_lt (U.getD (k - 1) 0 + 4294967296 * rest) (show V > 0 by omega)
  rw [← hg] at e1
  refine ⟨by simpa using h1, h2.set hgl, by omega, by omega, ?_, fun p hp => ?_⟩
  · rw [nval_drop, show k - 1 + 1 = k from by omega, h5, drop_set (by omega), nval, show k - 1 + 1 = k from by omega, Nat.add_mul, Nat.mul_assoc, Nat.mul_comm g V]
    omega
  · rw [getD_set_ne' (by omega)]; exact h6 p (by omega)
theorem rdiv_end {a b s : Nat} {qs : List Nat} {k rest : Nat} (hk : k = 0) (h : RDiv (limbs (a * 2 ^ s)) (b * 2 ^ s) qs k rest) : nval qs = a / b ∧ rest / 2 ^ s = a % b := by
  obtain ⟨h1, h2, h3, h4, h5, h6⟩ := h
  subst hk
  simp only [List.drop_zero, nval_limbs] at h5
  have hp := Nat.two_pow_pos s
  have e1 : nval qs = a * 2 ^ s / (b * 2 ^ s) := by
    rw [h5, Nat.mul_comm (nval qs), Nat.mul_add_div (by omega), Nat.div_eq_of_lt h4, Nat.add_zero]
  have e2 : rest = a * 2 ^ s % (b * 2 ^ s) := by
    rw [h5, Nat.mul_comm (nval qs), Nat.mul_add_mod, Nat.mod_eq_of_lt h4]
  refine ⟨?_, ?_⟩
  · rw [e1, Nat.mul_div_mul_right _ _ hp]
  · rw [e2, Nat.mul_mod_mul_right, Nat.mul_div_cancel _ hp]
theorem cmpI_gt {a b : Nat} (h : 0 < cmpI a b) : b < a := by
  unfold cmpI at h; split at h
  · omega
  · split at h
    · assumption
    · omega
theorem cmpI_ngt {a b : Nat} (h : ¬ 0 < cmpI a b) : a ≤ b := by
  unfold cmpI at h; split at h
  · omega
  · split at h <;> omega
end Fw


/- What the document's functions on quotients of limbs answer. -/
set_option linter.unusedVariables false
set_option linter.unusedSimpArgs false
set_option exponentiation.threshold 70
namespace Fw
open Go Go.Proofs

set_option maxRecDepth 20000 in
set_option maxHeartbeats 1000000 in
theorem c_ref01_small (l : List Nat) (d : Nat) (hd : d ≠ 0) (hdl : d < 4294967296) : Fn Try.prog 203 [kN.is l, (kInt .u64).is (d : Int)] (VP.tup [kN.is (limbs (nval l / d)), (kInt .u64).is ((nval l % d : Nat) : Int)]) := by
  refine Con.enter Try.func203 rfl rfl fun m w => ?_
  refine ST.fact (i := 0) rfl sl_len fun hB => ?_
  refine ST.fact (i := 0) rfl kN_lims fun hL => ?_
  refine CW.seq ?_
  refine CW.region ?_
  refine WP.s .n (O.asg rfl) ?_
  refine WP.s .n (O.asg rfl) ?_
  refine WP.nil ?_
  refine QE.next ?_
  refine CW.seq ?_
  refine CW.region ?_
  refine WP.s .n (O.mv rfl) ?_
  refine WP.s .n (O.lenS rfl Try.underlying29) ?_
  refine WP.mk l.length .n rfl rfl rfl (by omega) Try.underlying29 el121_limb z121_limb fun v1 => ?_
  refine WP.s .n (O.asg rfl) ?_
  refine WP.nil ?_
  refine QE.next ?_
  refine CW.seq ?_
  refine CW.region ?_
  refine WP.s .n (O.asg rfl) ?_
  refine WP.nil ?_
  refine QE.next ?_
  refine CW.seq ?_
  refine CW.seq ?_
  refine CW.region ?_
  refine WP.s .n (O.mv rfl) ?_
  refine WP.s .n (O.lenS rfl Try.underlying29) ?_
  refine WP.s .n (O.sub rfl rfl (c := ((l.length : Int) - 1)) (w64 (by omega))) ?_
  refine WP.s .n (O.asg rfl) ?_
  refine WP.nil ?_
  refine QE.next ?_
  refine CW.block ?_
  refine CW.loop3 (fun (row : List Nat) (i : Nat) (r : Nat) => i ≤ l.length ∧ ShortR l row d i r) (fun (row : List Nat) (i : Nat) (r : Nat) => [(0, kN.is l), (1, (kInt .u64).is (d : Int)), (6, VP.ex v1), (7, (kInt .u64).is (r : Int)), (8, (kInt .i64).is ((i : Int) - 1))]) (fun (row : List Nat) (i : Nat) (r : Nat) => [OB.row v1 121 kLimb row]) (fun (row : List Nat) (i : Nat) (r : Nat) => i) (List.replicate l.length 0) l.length 0 ⟨Nat.le_refl _, shortR_0 hd⟩ (Imp.cons rfl (Imp.cons rfl (Imp.cons rfl (Imp.consLe rfl (is_eq (y := (0 : Int)) (by first | omega | rfl)) (Imp.consLe rfl (is_eq (y := ((l.length : Nat) : Int) - 1) (by first | omega | rfl)) Imp.nil))))) (OImp.refl _) ?_
  intro row i r ⟨hi, hS⟩
  have hrl := hS.2.1
  have hr := hS.2.2.1
  have hx := getD_lt hL (i - 1)
  have hq := short_q hr hx
  refine CW.seq ?_
  refine CW.seq ?_
  refine CW.region ?_
  refine WP.s .n (O.mv rfl) ?_
  refine WP.s .n (O.ge rfl rfl) ?_
  refine WP.nil ?_
  refine QE.next ?_
  refine CW.condD rfl (fun h_t16 => ?_) (fun h_t16 => ?_)
  · refine CW.skip ?_
    refine QE.next ?_
    refine CW.seq ?_
    refine CW.block ?_
    refine CW.seq ?_
    refine CW.region ?_
    refine WP.s .n (O.mv rfl) ?_
    refine WP.s .n (O.mul rfl rfl (c := ((r * 2 ^ 32 : Nat) : Int)) (wu64 (by omega))) ?_
    refine WP.s .n (O.mv rfl) ?_
    refine WP.s .n (O.mv rfl) ?_
    refine WP.s .n (O.ix (i - 1) rfl rfl Try.underlying29 ty121 (by omega) (v := (l.getD (i - 1) 0)) (gd 0 (by omega))) ?_
    refine WP.s .n (OpOk.le (O.ldP rfl ty121) (limb_le _)) ?_
    refine WP.s .n (O.cvt rfl Try.underlying121 Try.underlying173 (c := ((l.getD (i - 1) 0) : Int)) (wu64 (by omega))) ?_
    refine WP.s .n (O.add rfl rfl (c := ((r * 2 ^ 32 + l.getD (i - 1) 0 : Nat) : Int)) (wu64 (by omega))) ?_
    refine WP.s .n (O.asg rfl) ?_
    refine WP.nil ?_
    refine QE.next ?_
    refine CW.seq ?_
    refine CW.region ?_
    refine WP.s .n (O.mv rfl) ?_
    refine WP.s .n (O.mv rfl) ?_
    refine WP.s .n (O.mv rfl) ?_
    refine WP.s .n (O.mv rfl) ?_
    refine WP.s .n (O.quo rfl rfl (by omega) (c := (((r * 2 ^ 32 + l.getD (i - 1) 0) / d : Nat) : Int)) (quoN d rfl rfl (by omega))) ?_
    refine WP.s .n (O.cvt rfl Try.underlying173 Try.underlying121 (c := (((r * 2 ^ 32 + l.getD (i - 1) 0) / d : Nat) : Int)) (wrs32 ⟨rfl, hq⟩)) ?_
    refine WP.s .n (O.ixR (k := kLimb) (xs := row) (n := (i : Int) - 1) (i - 1) rfl rfl (mem_at 0 rfl) Try.underlying29 ty121 (by omega) (by omega)) ?_
    refine WP.t .n (O.stR 0 (i - 1) rfl rfl (Lens.id _) rfl (y0 := (row.getD (i - 1) 0)) (gd 0 (by omega)) ty121 rfl (u32_limb (x := ((r * 2 ^ 32 + l.getD (i - 1) 0) / d : Nat)) (by omega))) ?_
    refine WP.nil ?_
    refine QE.next ?_
    refine CW.region ?_
    refine WP.s .n (O.mv rfl) ?_
    refine WP.s .n (O.mv rfl) ?_
    refine WP.s .n (O.rem rfl rfl (by omega) (c := (((r * 2 ^ 32 + l.getD (i - 1) 0) % d : Nat) : Int)) (tmodN d rfl rfl)) ?_
    refine WP.s .n (O.asg rfl) ?_
    refine WP.nil ?_
    refine QE.blkN ?_
    refine QE.next ?_
    refine CW.region ?_
    refine WP.s .n (O.mv rfl) ?_
    refine WP.s .n (O.sub rfl rfl (c := (((i : Int) - 1) - 1)) (w64 (by omega))) ?_
    refine WP.s .n (O.asg rfl) ?_
    refine WP.nil ?_
    exact QE.round3 (row.set (i - 1) ((r * 2 ^ 32 + l.getD (i - 1) 0) / d)) (i - 1) ((r * 2 ^ 32 + l.getD (i - 1) 0) % d) (by omega) ⟨by omega, shortR_s hL hdl (by omega) (by omega) hS⟩ (Imp.cons rfl (Imp.cons rfl (Imp.cons rfl (Imp.consLe rfl (is_eq (y := ((((r * 2 ^ 32 + l.getD (i - 1) 0) % d) : Nat) : Int)) (by first | omega | rfl)) (Imp.consLe rfl (is_eq (y := (((i - 1) : Nat) : Int) - 1) (by first | omega | rfl)) Imp.nil))))) (OImp.os (OS.keepLe (OB.row_eq (by first | omega | rfl)) OS.nil))
  · refine CW.exit ?_
    refine QE.thenE ?_
    refine QE.thenE ?_
    refine QE.blkH ?_
    refine QE.next ?_
    refine CW.seq ?_
    refine CW.region ?_
    refine WP.s .n (O.mv rfl) ?_
    refine ST.freeze 0 rfl (.keep (i := 0) rfl (.keep (i := 1) rfl (.hit (i := 6) rfl (.keep (i := 7) rfl (.keep (i := 8) rfl (.keep (i := 15) rfl (.keep (i := 16) rfl (.hit (i := 37) rfl .nil)))))))) ?_
    refine WP.s .n (O.fn fn158 (evs.c rfl evs.nil) (c_ref01_Norm row)) ?_
    refine WP.s .n (O.mv rfl) ?_
    refine WP.s .n (O.asg rfl) ?_
    refine WP.s .n (O.asg rfl) ?_
    refine WP.nil ?_
    refine QE.next ?_
    refine CW.ret ?_
    refine ST.told 4 rfl (is_eq (y := (limbs (nval l / d))) (by rw [(shortR_end (by omega) hS).1])) ?_
    refine ST.told 5 rfl (is_eq (y := ((nval l % d : Nat) : Int)) (by rw [(shortR_end (by omega) hS).2])) ?_
    exact QE.done (.inl rfl) rfl (ResOk.t rfl (ResOk.t rfl ResOk.nil)) (OImp.sub (List.nil_sublist _)) ⟨rfl, rfl⟩

set_option maxRecDepth 20000 in
set_option maxHeartbeats 1000000 in
theorem c_ref01_Two (n : Nat) (hn : n < 32) : Fn Try.prog 204 [(kInt .i64).is (n : Int)] (kN.is [2 ^ n]) := by
  refine Con.enter Try.func204 rfl rfl fun m w => ?_
  have hp := (pow32 hn).2.1
  refine CW.seq ?_
  refine CW.region ?_
  refine WP.s .n (O.asg rfl) ?_
  refine WP.nil ?_
  refine QE.next ?_
  refine CW.seq ?_
  refine CW.region ?_
  refine WP.s .n (O.asg rfl) ?_
  refine WP.nil ?_
  refine QE.next ?_
  refine CW.seq ?_
  refine CW.seq ?_
  refine CW.region ?_
  refine WP.s .n (O.asg rfl) ?_
  refine WP.nil ?_
  refine QE.next ?_
  refine CW.block ?_
  refine ST.nilrow 121 kLimb ?_
  refine CW.loop2 (fun (i : Nat) (v : Value) => i = 0) (fun (i : Nat) (v : Value) => [(0, (kInt .i64).is (n : Int)), (3, VP.ex v), (4, (kInt .i64).is (i : Int))]) (fun (i : Nat) (v : Value) => [OB.row v 121 kLimb []]) (fun (i : Nat) (v : Value) => i) 0 (.slice none 0 0) rfl (Imp.cons rfl (Imp.cons rfl (Imp.consLe rfl (is_eq (y := (0 : Int)) (by first | omega | rfl | simp)) Imp.nil))) (OImp.refl _) ?_
  intro i v hi
  refine CW.seq ?_
  refine CW.seq ?_
  refine CW.region ?_
  refine WP.s .n (O.mv rfl) ?_
  refine WP.s .n (O.mv rfl) ?_
  refine WP.s .n (O.quo rfl rfl (by omega) (c := 0) (quo32 hn)) ?_
  refine WP.s .n (O.lt rfl rfl) ?_
  refine WP.nil ?_
  refine QE.next ?_
  refine CW.condD rfl (fun h => absurd h (by omega)) (fun h_t8 => ?_)
  refine CW.exit ?_
  refine QE.thenE ?_
  refine QE.thenE ?_
  refine QE.blkH ?_
  refine QE.next ?_
  refine CW.seq ?_
  refine CW.region ?_
  refine WP.s .n (O.mv rfl) ?_
  refine WP.s .n (O.mv rfl) ?_
  refine WP.s .n (O.rem rfl rfl (by omega) (c := (n : Int)) (rem32 hn)) ?_
  refine WP.s .n (O.cvt rfl Try.underlying3 Try.underlying172 (c := (n : Int)) (wu64 (by omega))) ?_
  refine WP.s .n (O.shl rfl rfl (by omega) (c := ((2 ^ n : Nat) : Int)) (shl1_32 hn rfl)) ?_
  refine WP.s .n (O.bs Try.underlying29 el121_limb (evl.l rfl (u32_limb (x := (2 ^ n : Nat)) (by omega)) evl.n) rfl (by decide)) ?_
  refine WP.ap 0 .n rfl rfl rfl (VP.le_refl _) Try.underlying29 el121_limb (by simp) fun v1 => ?_
  refine WP.s .n (O.asg rfl) ?_
  refine WP.nil ?_
  refine QE.next ?_
  refine CW.ret ?_
  refine ST.freeze 0 rfl (.keep (i := 0) rfl (.hit (i := 2) rfl (.keep (i := 3) rfl (.keep (i := 4) rfl (.keep (i := 5) rfl (.keep (i := 6) rfl (.keep (i := 7) rfl (.keep (i := 8) rfl (.keep (i := 14) rfl (.keep (i := 15) rfl (.keep (i := 16) rfl (.keep (i := 17) rfl (.keep (i := 18) rfl (.keep (i := 19) rfl (.hit (i := 20) rfl .nil))))))))))))))) ?_
  exact QE.done (.inl rfl) rfl (ResOk.tl rfl (is_eq (y := [2 ^ n]) (by first | omega | rfl | simp)) ResOk.nil) (OImp.sub (List.nil_sublist _)) ⟨rfl, rfl⟩

set_option maxRecDepth 20000 in
set_option maxHeartbeats 1000000 in
theorem c_ref01_Shr (l : List Nat) (n : Nat) (hn : n < 32) : Fn Try.prog 205 [kN.is l, (kInt .i64).is (n : Int)] (VP.tup [kN.is (limbs (nval l / 2 ^ n)), (kInt .i64).is 0]) := by
  refine Con.enter Try.func205 rfl rfl fun m w => ?_
  refine ST.fact (i := 0) rfl sl_len fun hB => ?_
  refine ST.fact (i := 0) rfl kN_lims fun hL => ?_
  refine CW.seq ?_
  refine CW.region ?_
  refine WP.s .n (O.asg rfl) ?_
  refine WP.s .n (O.asg rfl) ?_
  refine WP.nil ?_
  refine QE.next ?_
  refine CW.seq ?_
  refine CW.seq ?_
  refine CW.region ?_
  refine WP.s .n (O.mv rfl) ?_
  refine WP.s .n (O.lt rfl rfl) ?_
  refine WP.nil ?_
  refine QE.next ?_
  refine CW.condD rfl (fun h => absurd h (by omega)) (fun h_t10 => ?_)
  refine CW.skip ?_
  refine QE.next ?_
  refine CW.seq ?_
  refine CW.seq ?_
  refine CW.region ?_
  refine WP.s .n (O.mv rfl) ?_
  refine WP.s .n (O.mv rfl) ?_
  refine WP.s .n (O.fn fn164 (evs.c rfl evs.nil) (c_ref01_Bits l)) ?_
  refine WP.s .n (O.ge rfl rfl) ?_
  refine WP.nil ?_
  refine QE.next ?_
  refine CW.condD rfl (fun h_t14 => ?_) (fun h_t14 => ?_)
  · refine CW.seq ?_
    refine CW.region ?_
    refine WP.s .n (O.asg rfl) ?_
    refine WP.s .n (O.asg rfl) ?_
    refine WP.nil ?_
    refine QE.next ?_
    refine CW.ret ?_
    refine QE.thenR ?_
    refine ST.told (q := kN.is ([] : List Nat)) 4 rfl (nil_le _) ?_
    refine ST.told 4 rfl (is_eq (y := (limbs (nval l / 2 ^ n))) (by rw [Nat.div_eq_of_lt (Nat.lt_of_lt_of_le (lt_bitlen _) (Nat.pow_le_pow_right (by decide) (by omega))), limbs_zero])) ?_
    exact QE.done (.inl rfl) rfl (ResOk.t rfl (ResOk.t rfl ResOk.nil)) (OImp.sub (List.nil_sublist _)) ⟨rfl, rfl⟩
  · refine CW.skip ?_
    refine QE.next ?_
    refine CW.seq ?_
    refine CW.region ?_
    refine WP.s .n (O.asg rfl) ?_
    refine WP.nil ?_
    refine QE.next ?_
    refine CW.seq ?_
    refine CW.seq ?_
    refine CW.region ?_
    refine WP.s .n (O.mv rfl) ?_
    refine WP.s .n (O.quo rfl rfl (by omega) (c := 0) (quo32 hn)) ?_
    refine WP.s .n (O.asg rfl) ?_
    refine WP.nil ?_
    refine QE.next ?_
    refine CW.block ?_
    refine ST.nilrow 121 kLimb ?_
    refine CW.loop2 (fun (r : List Nat) (v : Value) => ShrR l r n) (fun (r : List Nat) (v : Value) => [(0, kN.is l), (1, (kInt .i64).is (n : Int)), (5, (kInt .i64).is 0), (6, VP.ex v), (7, (kInt .i64).is (r.length : Int))]) (fun (r : List Nat) (v : Value) => [OB.row v 121 kLimb r]) (fun (r : List Nat) (v : Value) => l.length - r.length) [] (.slice none 0 0) (shrR_0 _ _) (Imp.cons rfl (Imp.cons rfl (Imp.cons rfl (Imp.cons rfl (Imp.consLe rfl (is_eq (y := ([].length : Int)) (by first | omega | rfl | simp)) Imp.nil))))) (OImp.refl _) ?_
    intro r v hS
    have hi := hS.1
    have hx := getD_lt hL r.length
    have hy := getD_lt hL (r.length + 1)
    refine CW.seq ?_
    refine CW.seq ?_
    refine CW.region ?_
    refine WP.s .n (O.mv rfl) ?_
    refine WP.s .n (O.mv rfl) ?_
    refine WP.s .n (O.lenS rfl Try.underlying29) ?_
    refine WP.s .n (O.lt rfl rfl) ?_
    refine WP.nil ?_
    refine QE.next ?_
    refine CW.condD rfl (fun h_t20 => ?_) (fun h_t20 => ?_)
    · refine CW.skip ?_
      refine QE.next ?_
      refine CW.seq ?_
      refine CW.block ?_
      refine CW.seq ?_
      refine CW.region ?_
      refine WP.s .n (O.mv rfl) ?_
      refine WP.s .n (O.mv rfl) ?_
      refine WP.s .n (O.fn fn200 (evs.c rfl (evs.l rfl (is_eq (y := ((r.length : Nat) : Int)) (by first | omega | rfl | simp)) evs.nil)) (c_ref01_limb l r.length)) ?_
      refine WP.s .n (O.mv rfl) ?_
      refine WP.s .n (O.mv rfl) ?_
      refine WP.s .n (O.add rfl rfl (c := ((r.length : Int) + 1)) (w64 (by omega))) ?_
      refine WP.s .n (O.fn fn200 (evs.c rfl (evs.l rfl (is_eq (y := (((r.length + 1) : Nat) : Int)) (by first | omega | rfl | simp)) evs.nil)) (c_ref01_limb l (r.length + 1))) ?_
      refine WP.s .n (O.mul rfl rfl (c := ((l.getD (r.length + 1) 0 : Int) * 4294967296)) (wu64 (by omega))) ?_
      refine WP.s .n (O.add rfl rfl (c := ((l.getD (r.length + 1) 0 * 2 ^ 32 + l.getD r.length 0 : Nat) : Int)) (wu64 (by omega))) ?_
      refine WP.s .n (O.asg rfl) ?_
      refine WP.nil ?_
      refine QE.next ?_
      refine CW.region ?_
      refine WP.s .n (O.mv rfl) ?_
      refine WP.s .n (O.mv rfl) ?_
      refine WP.s .n (O.mv rfl) ?_
      refine WP.s .n (O.rem rfl rfl (by omega) (c := (n : Int)) (rem32 hn)) ?_
      refine WP.s .n (O.cvt rfl Try.underlying3 Try.underlying172 (c := (n : Int)) (wu64 (by omega))) ?_
      refine WP.s .n (O.shr rfl rfl (by omega) (c := (((l.getD (r.length + 1) 0 * 2 ^ 32 + l.getD r.length 0) / 2 ^ n : Nat) : Int)) (shrN n rfl rfl (show n ≤ 64 by omega))) ?_
      refine WP.s .n (O.rem rfl rfl (by omega) (c := ((((l.getD (r.length + 1) 0 * 2 ^ 32 + l.getD r.length 0) / 2 ^ n % 4294967296) : Nat) : Int)) (tmodN 4294967296 rfl rfl)) ?_
      refine WP.s .n (O.cvt rfl Try.underlying173 Try.underlying121 (c := ((((l.getD (r.length + 1) 0 * 2 ^ 32 + l.getD r.length 0) / 2 ^ n % 4294967296) : Nat) : Int)) (wrs32 (by omega))) ?_
      refine WP.s .n (O.bs Try.underlying29 el121_limb (evl.l rfl (u32_limb (x := (((l.getD (r.length + 1) 0 * 2 ^ 32 + l.getD r.length 0) / 2 ^ n % 4294967296) : Nat)) (by omega)) evl.n) rfl (by decide)) ?_
      refine WP.ap 0 .n rfl rfl rfl (VP.le_refl _) Try.underlying29 el121_limb (by simp; omega) fun v1 => ?_
      refine WP.s .n (O.asg rfl) ?_
      refine WP.nil ?_
      refine QE.blkN ?_
      refine QE.next ?_
      refine CW.region ?_
      refine WP.s .n (O.mv rfl) ?_
      refine WP.s .n (O.add rfl rfl (c := ((r.length : Int) + 1)) (w64 (by omega))) ?_
      refine WP.s .n (O.asg rfl) ?_
      refine WP.nil ?_
      exact QE.round2 (r ++ [((l.getD (r.length + 1) 0 * 2 ^ 32 + l.getD r.length 0) / 2 ^ n % 4294967296)]) v1 (by simp; omega) (shrR_s hL hn (by omega) hS) (Imp.cons rfl (Imp.cons rfl (Imp.cons rfl (Imp.cons rfl (Imp.consLe rfl (is_eq (y := ((r ++ [((l.getD (r.length + 1) 0 * 2 ^ 32 + l.getD r.length 0) / 2 ^ n % 4294967296)]).length : Int)) (by first | omega | rfl | simp)) Imp.nil))))) (OImp.os (OS.keepLe (OB.row_eq (by first | omega | rfl | simp)) OS.nil))
    · refine CW.exit ?_
      refine QE.thenE ?_
      refine QE.thenE ?_
      refine QE.blkH ?_
      refine QE.next ?_
      refine CW.seq ?_
      refine CW.region ?_
      refine WP.s .n (O.mv rfl) ?_
      refine ST.freeze 0 rfl (.keep (i := 0) rfl (.keep (i := 1) rfl (.keep (i := 5) rfl (.hit (i := 6) rfl (.keep (i := 7) rfl (.keep (i := 17) rfl (.keep (i := 18) rfl (.keep (i := 19) rfl (.keep (i := 20) rfl (.hit (i := 42) rfl .nil)))))))))) ?_
      refine WP.s .n (O.fn fn158 (evs.c rfl evs.nil) (c_ref01_Norm r)) ?_
      refine WP.s .n (O.asg rfl) ?_
      refine WP.s .n (O.asg rfl) ?_
      refine WP.nil ?_
      refine QE.next ?_
      refine CW.ret ?_
      refine ST.told 4 rfl (is_eq (y := (limbs (nval l / 2 ^ n))) (by rw [shrR_end hL (by omega) hS])) ?_
      exact QE.done (.inl rfl) rfl (ResOk.t rfl (ResOk.t rfl ResOk.nil)) (OImp.sub (List.nil_sublist _)) ⟨rfl, rfl⟩

set_option maxRecDepth 20000 in
set_option maxHeartbeats 4000000 in
theorem c_ref01_Div (a b : List Nat) (hA : a.length ≤ 549755813000) (hB : b.length ≤ 549755813000) : Fn Try.prog 162 [kN.is a, kN.is b] (VP.tup [kN.is (limbs (nval a / nval b)), kN.is (if nval b = 0 then [] else limbs (nval a % nval b)), (kInt .i64).is (if nval b = 0 then 11 else 0)]) := by
  refine Con.enter Try.func162 rfl rfl fun m w => ?_
  refine ST.fact (i := 0) rfl kN_lims fun la => ?_
  refine ST.fact (i := 1) rfl kN_lims fun lb => ?_
  have hlb := limbs_len_le lb
  have lB := limbs_lims (nval b)
  refine CW.seq ?_
  refine CW.region ?_
  refine WP.s .n (O.asg rfl) ?_
  refine WP.s .n (O.asg rfl) ?_
  refine WP.s .n (O.asg rfl) ?_
  refine WP.nil ?_
  refine QE.next ?_
  refine CW.seq ?_
  refine CW.region ?_
  refine WP.s .n (O.mv rfl) ?_
  refine WP.s .n (O.fn fn158 (evs.c rfl evs.nil) (c_ref01_Norm b)) ?_
  refine WP.s .n (O.asg rfl) ?_
  refine WP.nil ?_
  refine QE.next ?_
  refine CW.seq ?_
  refine CW.seq ?_
  refine CW.region ?_
  refine WP.s .n (O.mv rfl) ?_
  refine WP.s .n (O.lenS rfl Try.underlying29) ?_
  refine WP.s .n (O.eq rfl rfl) ?_
  refine WP.nil ?_
  refine QE.next ?_
  refine CW.condD rfl (fun h_t24 => ?_) (fun h_t24 => ?_)
  · have hb0 : nval b = 0 := limbs0 (by omega)
    refine CW.seq ?_
    refine CW.region ?_
    refine WP.s .n (O.asg rfl) ?_
    refine WP.s .n (O.asg rfl) ?_
    refine WP.s .n (O.asg rfl) ?_
    refine WP.nil ?_
    refine QE.next ?_
    refine CW.ret ?_
    refine QE.thenR ?_
    refine ST.told (q := kN.is ([] : List Nat)) 4 rfl (nil_le _) ?_
    refine ST.told (q := kN.is ([] : List Nat)) 5 rfl (nil_le _) ?_
    refine ST.told 4 rfl (is_eq (y := (limbs (nval a / nval b))) (by rw [hb0, Nat.div_zero, limbs_zero])) ?_
    refine ST.told 5 rfl (is_eq (y := (if nval b = 0 then [] else limbs (nval a % nval b))) (by rw [if_pos hb0])) ?_
    refine ST.told 6 rfl (is_eq (y := (if nval b = 0 then 11 else 0)) (by rw [if_pos hb0])) ?_
    exact QE.done (.inl rfl) rfl (ResOk.t rfl (ResOk.t rfl (ResOk.t rfl ResOk.nil))) (OImp.sub (List.nil_sublist _)) ⟨rfl, rfl⟩
  · have hb0 : nval b ≠ 0 := fun h => by rw [h, limbs_zero] at h_t24; exact h_t24 rfl
    have hlbp := limbs_len_pos hb0
    refine CW.skip ?_
    refine QE.next ?_
    refine CW.seq ?_
    refine CW.seq ?_
    refine CW.region ?_
    refine WP.s .n (O.mv rfl) ?_
    refine WP.s .n (O.lenS rfl Try.underlying29) ?_
    refine WP.s .n (O.eq rfl rfl) ?_
    refine WP.nil ?_
    refine QE.next ?_
    refine CW.condD rfl (fun h_t27 => ?_) (fun h_t27 => ?_)
    · refine CW.seq ?_
      have hx0 := getD_lt lB 0
      refine CW.region ?_
      refine WP.s .n (O.mv rfl) ?_
      refine WP.s .n (O.mv rfl) ?_
      refine WP.s .n (O.ix 0 rfl rfl Try.underlying29 ty121 rfl (v := ((limbs (nval b)).getD 0 0)) (gd 0 (by first | omega | (simp; omega)))) ?_
      refine WP.s .n (OpOk.le (O.ldP rfl ty121) (limb_le _)) ?_
      refine WP.s .n (O.cvt rfl Try.underlying121 Try.underlying173 (c := (((limbs (nval b)).getD 0 0) : Int)) (wu64 (by omega))) ?_
      refine WP.s .n (O.fn fn203 (evs.c rfl (evs.l rfl (is_eq (y := ((((limbs (nval b)).getD 0 0) : Nat) : Int)) (by first | omega | rfl | simp)) evs.nil)) (c_ref01_small a ((limbs (nval b)).getD 0 0) (by rw [one_limb (by omega)]; exact hb0) hx0)) ?_
      refine WP.s .n (O.mv rfl) ?_
      refine WP.s .n (O.ext rfl rfl) ?_
      refine WP.s .n (O.ext rfl rfl) ?_
      refine WP.s .n (O.asg rfl) ?_
      refine WP.s .n (O.asg rfl) ?_
      refine WP.nil ?_
      refine QE.next ?_
      refine CW.seq ?_
      have hm : nval a % (limbs (nval b)).getD 0 0 < 4294967296 := Nat.lt_of_lt_of_le (Nat.mod_lt _ (by rw [one_limb (by omega)]; omega)) (Nat.le_of_lt hx0)
      refine CW.region ?_
      refine WP.s .n (O.mv rfl) ?_
      refine WP.s .n (O.mv rfl) ?_
      refine WP.s .n (O.cvt rfl Try.underlying173 Try.underlying121 (c := ((nval a % (limbs (nval b)).getD 0 0 : Nat) : Int)) (wrs32 ⟨rfl, hm⟩)) ?_
      refine WP.s .n (O.bs Try.underlying29 el121_limb (evl.l rfl (u32_limb (x := (nval a % (limbs (nval b)).getD 0 0 : Nat)) (by omega)) evl.n) rfl (by decide)) ?_
      refine WP.s .n (O.fn fn158 (evs.c rfl evs.nil) (c_ref01_Norm [(nval a % (limbs (nval b)).getD 0 0 : Nat)])) ?_
      refine WP.s .n (O.asg rfl) ?_
      refine WP.s .n (O.asg rfl) ?_
      refine WP.s .n (O.asg rfl) ?_
      refine WP.nil ?_
      refine QE.next ?_
      refine CW.ret ?_
      refine QE.thenR ?_
      refine ST.told 4 rfl (is_eq (y := (limbs (nval a / nval b))) (by rw [one_limb (by omega)])) ?_
      refine ST.told 5 rfl (is_eq (y := (if nval b = 0 then [] else limbs (nval a % nval b))) (by rw [if_neg hb0, one_limb (by omega)]; simp [nval])) ?_
      refine ST.told 6 rfl (is_eq (y := (if nval b = 0 then 11 else 0)) (by rw [if_neg hb0])) ?_
      exact QE.done (.inl rfl) rfl (ResOk.t rfl (ResOk.t rfl (ResOk.t rfl ResOk.nil))) (OImp.sub (List.nil_sublist _)) ⟨rfl, rfl⟩
    · refine CW.skip ?_
      refine QE.next ?_
      refine CW.seq ?_
      obtain ⟨s, hsv, hs, hvl⟩ := div_sh hb0
      have hV0 : (nval b * 2 ^ s) ≠ 0 := Nat.mul_ne_zero hb0 (Nat.ne_of_gt (Nat.two_pow_pos s))
      have lU := limbs_lims (nval a * 2 ^ s)
      have hbl := bits_limbs hb0
      have hbl3 : bitlen (nval (limbs (nval b))) = 32 * ((limbs (nval b)).length - 1) + bitlen ((limbs (nval b)).getD ((limbs (nval b)).length - 1) 0) := by rw [nval_limbs]; exact hbl
      have htop := limbs_top hV0
      refine CW.region ?_
      refine WP.s .n (O.mv rfl) ?_
      refine WP.s .n (O.lenS rfl Try.underlying29) ?_
      refine WP.s .n (O.mul rfl rfl (c := (32 * ((limbs (nval b)).length : Int))) (w64 (by omega))) ?_
      refine WP.s .n (O.mv rfl) ?_
      refine WP.s .n (O.fn fn164 (evs.c rfl evs.nil) (c_ref01_Bits (limbs (nval b)))) ?_
      refine WP.s .n (O.sub rfl rfl (c := ((32 * ((limbs (nval b)).length : Int)) - (bitlen (nval (limbs (nval b))) : Int))) (w64 (by omega))) ?_
      refine ST.told 47 rfl (is_eq (y := (s : Int)) (by rw [nval_limbs]; omega)) ?_
      refine WP.s .n (O.fn fn204 (evs.c rfl evs.nil) (c_ref01_Two s hs)) ?_
      refine WP.s .n (O.asg rfl) ?_
      refine WP.nil ?_
      refine QE.next ?_
      refine CW.seq ?_
      refine CW.region ?_
      refine WP.s .n (O.mv rfl) ?_
      refine WP.s .n (O.mv rfl) ?_
      refine WP.s .n (O.fn fn163 (evs.c rfl (evs.c rfl evs.nil)) (c_ref01_Mul a [2 ^ s] (by simp; omega))) ?_
      refine WP.s .n (O.asg rfl) ?_
      refine WP.nil ?_
      refine QE.next ?_
      refine CW.seq ?_
      refine ST.told 11 rfl (is_eq (y := limbs (nval a * 2 ^ s)) (by simp [nval])) ?_
      refine CW.region ?_
      refine WP.s .n (O.mv rfl) ?_
      refine WP.s .n (O.mv rfl) ?_
      refine WP.s .n (O.fn fn163 (evs.c rfl (evs.c rfl evs.nil)) (c_ref01_Mul (limbs (nval b)) [2 ^ s] (by simp; omega))) ?_
      refine WP.s .n (O.asg rfl) ?_
      refine WP.nil ?_
      refine QE.next ?_
      refine CW.seq ?_
      refine ST.told 12 rfl (is_eq (y := (limbs (nval b * 2 ^ s))) (by rw [nval_limbs]; simp [nval])) ?_
      refine ST.fact (i := 11) rfl sl_len fun hUB => ?_
      refine CW.region ?_
      refine WP.s .n (O.mv rfl) ?_
      refine WP.s .n (O.lenS rfl Try.underlying29) ?_
      refine WP.mk ((limbs (nval a * 2 ^ s)).length) .n rfl rfl rfl (by first | omega | (simp; omega)) Try.underlying29 el121_limb z121_limb fun v1 => ?_
      refine WP.s .n (O.asg rfl) ?_
      refine WP.nil ?_
      refine QE.next ?_
      refine CW.seq ?_
      refine CW.region ?_
      refine WP.s .n (O.asg rfl) ?_
      refine WP.nil ?_
      refine QE.next ?_
      refine CW.seq ?_
      refine CW.seq ?_
      refine CW.region ?_
      refine WP.s .n (O.mv rfl) ?_
      refine WP.s .n (O.lenS rfl Try.underlying29) ?_
      refine WP.s .n (O.sub rfl rfl (c := (((limbs (nval a * 2 ^ s)).length : Int) - 1)) (w64 (by omega))) ?_
      refine WP.s .n (O.asg rfl) ?_
      refine WP.nil ?_
      refine QE.next ?_
      refine CW.block ?_
      refine ST.told (q := kN.is ([] : List Nat)) 14 rfl (nil_le _) ?_
      refine ST.told 14 rfl (is_eq (y := (limbs 0)) (by rw [limbs_zero])) ?_
      refine CW.loop4 (fun (qs : List Nat) (k : Nat) (rest : Nat) (vq : Value) => RDiv (limbs (nval a * 2 ^ s)) (nval b * 2 ^ s) qs k rest) (fun (qs : List Nat) (k : Nat) (rest : Nat) (vq : Value) => [(7, kN.is (limbs (nval b))), (11, kN.is (limbs (nval a * 2 ^ s))), (12, kN.is (limbs (nval b * 2 ^ s))), (13, VP.ex vq), (14, kN.is (limbs rest)), (15, (kInt .i64).is ((k : Int) - 1))]) (fun (qs : List Nat) (k : Nat) (rest : Nat) (vq : Value) => [OB.row vq 121 kLimb qs]) (fun (qs : List Nat) (k : Nat) (rest : Nat) (vq : Value) => k) (List.replicate (limbs (nval a * 2 ^ s)).length 0) ((limbs (nval a * 2 ^ s)).length) 0 v1 (rdiv_0 hV0) (Imp.cons rfl (Imp.cons rfl (Imp.cons rfl (Imp.cons rfl (Imp.cons rfl (Imp.consLe rfl (is_eq (y := ((((limbs (nval a * 2 ^ s)).length) : Nat) : Int) - 1) (by first | omega | rfl | simp)) Imp.nil)))))) (OImp.os (OS.keepLe (OB.row_eq (by first | omega | rfl | simp)) OS.nil)) ?_
      intro qs k rest vq hD
      have hrl := limbs_mono (Nat.le_of_lt hD.2.2.2.1)
      have hql := hD.1
      have hk := hD.2.2.1
      have hx := getD_lt lU (k - 1)
      refine CW.seq ?_
      refine CW.seq ?_
      refine CW.region ?_
      refine WP.s .n (O.mv rfl) ?_
      refine WP.s .n (O.ge rfl rfl) ?_
      refine WP.nil ?_
      refine QE.next ?_
      refine CW.condD rfl (fun h_t62 => ?_) (fun h_t62 => ?_)
      · refine CW.skip ?_
        refine QE.next ?_
        refine CW.seq ?_
        refine CW.block ?_
        refine CW.seq ?_
        refine CW.region ?_
        refine WP.s .n (O.mv rfl) ?_
        refine WP.s .n (O.mv rfl) ?_
        refine WP.s .n (O.ix (k - 1) rfl rfl Try.underlying29 ty121 (by omega) (v := ((limbs (nval a * 2 ^ s)).getD (k - 1) 0)) (gd 0 (by first | omega | (simp; omega)))) ?_
        refine WP.s .n (OpOk.le (O.ldP rfl ty121) (limb_le _)) ?_
        refine WP.bso .n Try.underlying29 el121_limb (evl.l rfl (u32_limb (x := ((limbs (nval a * 2 ^ s)).getD (k - 1) 0)) (by omega)) evl.n) rfl (by decide) fun v2 => ?_
        refine WP.s .n (O.mv rfl) ?_
        refine WP.ap 0 .n rfl rfl rfl (VP.le_refl _) Try.underlying29 el121_limb (by simp; omega) fun v3 => ?_
        refine ST.freeze 0 rfl (.keep (i := 7) rfl (.keep (i := 11) rfl (.keep (i := 12) rfl (.keep (i := 13) rfl (.keep (i := 14) rfl (.keep (i := 15) rfl (.keep (i := 61) rfl (.keep (i := 62) rfl (.keep (i := 65) rfl (.keep (i := 66) rfl (.keep (i := 67) rfl (.keep (i := 68) rfl (.keep (i := 69) rfl (.keep (i := 70) rfl (.hit (i := 71) rfl .nil))))))))))))))) ?_
        refine WP.s .n (O.fn fn158 (evs.c rfl evs.nil) (c_ref01_Norm ([((limbs (nval a * 2 ^ s)).getD (k - 1) 0)] ++ limbs rest))) ?_
        refine WP.s .n (O.asg rfl) ?_
        refine WP.nil ?_
        refine QE.next ?_
        refine CW.seq ?_
        refine CW.seq ?_
        obtain ⟨R, hR⟩ : ∃ R, R = (limbs (nval a * 2 ^ s)).getD (k - 1) 0 + 4294967296 * rest := ⟨_, rfl⟩
        refine ST.told 14 rfl (is_eq (y := (limbs R)) (by rw [hR]; simp [nval, nval_limbs])) ?_
        have hRV : R < (nval b * 2 ^ s) * 4294967296 := by rw [hR]; exact rdiv_R lU (by omega) hD
        refine CW.region ?_
        refine WP.s .n (O.mv rfl) ?_
        refine WP.s .n (O.mv rfl) ?_
        refine WP.s .n (O.fn fn154 (evs.c rfl (evs.c rfl evs.nil)) (c_ref01_Cmp (limbs R) (limbs (nval b * 2 ^ s)))) ?_
        refine WP.s .n (O.lt rfl rfl) ?_
        refine WP.nil ?_
        refine QE.next ?_
        refine CW.condD rfl (fun h_t76 => ?_) (fun h_t76 => ?_)
        · refine CW.exit ?_
          refine QE.thenE ?_
          refine QE.blkH ?_
          refine QE.next ?_
          refine CW.region ?_
          refine WP.s .n (O.mv rfl) ?_
          refine WP.s .n (O.sub rfl rfl (c := (((k : Int) - 1) - 1)) (w64 (by omega))) ?_
          refine WP.s .n (O.asg rfl) ?_
          refine WP.nil ?_
          exact QE.round4 qs (k - 1) R vq (by omega) (by rw [hR]; exact rdiv_lt (by omega) hD (by rw [← hR]; have := cmpI_lt h_t76; rwa [nval_limbs, nval_limbs] at this)) (Imp.cons rfl (Imp.cons rfl (Imp.cons rfl (Imp.cons rfl (Imp.cons rfl (Imp.consLe rfl (is_eq (y := (((k - 1) : Nat) : Int) - 1) (by first | omega | rfl | simp)) Imp.nil)))))) (OImp.refl _)
        · refine CW.skip ?_
          refine QE.next ?_
          refine CW.seq ?_
          have hr1 := getD_lt (limbs_lims R) (limbs (nval b * 2 ^ s)).length
          have hr2 := getD_lt (limbs_lims R) ((limbs (nval b * 2 ^ s)).length - 1)
          have hr3 := getD_lt (limbs_lims (nval b * 2 ^ s)) ((limbs (nval b * 2 ^ s)).length - 1)
          refine CW.region ?_
          refine WP.s .n (O.mv rfl) ?_
          refine WP.s .n (O.mv rfl) ?_
          refine WP.s .n (O.lenS rfl Try.underlying29) ?_
          refine WP.s .n (O.fn fn200 (evs.c rfl (evs.l rfl (is_eq (y := ((((limbs (nval b * 2 ^ s)).length) : Nat) : Int)) (by first | omega | rfl | simp)) evs.nil)) (c_ref01_limb (limbs R) ((limbs (nval b * 2 ^ s)).length))) ?_
          refine WP.s .n (O.mul rfl rfl (c := (((limbs R).getD ((limbs (nval b * 2 ^ s)).length) 0 : Int) * 4294967296)) (wu64 (by omega))) ?_
          refine WP.s .n (O.mv rfl) ?_
          refine WP.s .n (O.mv rfl) ?_
          refine WP.s .n (O.lenS rfl Try.underlying29) ?_
          refine WP.s .n (O.sub rfl rfl (c := (((limbs (nval b * 2 ^ s)).length : Int) - 1)) (w64 (by omega))) ?_
          refine WP.s .n (O.fn fn200 (evs.c rfl (evs.l rfl (is_eq (y := ((((limbs (nval b * 2 ^ s)).length - 1) : Nat) : Int)) (by first | omega | rfl | simp)) evs.nil)) (c_ref01_limb (limbs R) ((limbs (nval b * 2 ^ s)).length - 1))) ?_
          refine WP.s .n (O.add rfl rfl (c := ((((limbs R).getD ((limbs (nval b * 2 ^ s)).length) 0 : Int) * 4294967296) + ((limbs R).getD ((limbs (nval b * 2 ^ s)).length - 1) 0 : Int))) (wu64 (by omega))) ?_
          refine WP.s .n (O.mv rfl) ?_
          refine WP.s .n (O.mv rfl) ?_
          refine WP.s .n (O.lenS rfl Try.underlying29) ?_
          refine WP.s .n (O.sub rfl rfl (c := (((limbs (nval b * 2 ^ s)).length : Int) - 1)) (w64 (by omega))) ?_
          refine WP.s .n (O.fn fn200 (evs.c rfl (evs.l rfl (is_eq (y := ((((limbs (nval b * 2 ^ s)).length - 1) : Nat) : Int)) (by first | omega | rfl | simp)) evs.nil)) (c_ref01_limb (limbs (nval b * 2 ^ s)) ((limbs (nval b * 2 ^ s)).length - 1))) ?_
          refine WP.s .n (O.quo rfl rfl (by omega) (c := ((((limbs R).getD (limbs (nval b * 2 ^ s)).length 0 * 4294967296 + (limbs R).getD ((limbs (nval b * 2 ^ s)).length - 1) 0) / (limbs (nval b * 2 ^ s)).getD ((limbs (nval b * 2 ^ s)).length - 1) 0 : Nat) : Int)) (quoN ((limbs (nval b * 2 ^ s)).getD ((limbs (nval b * 2 ^ s)).length - 1) 0) (by omega) rfl (by omega))) ?_
          refine WP.s .n (O.asg rfl) ?_
          refine WP.nil ?_
          refine QE.next ?_
          refine CW.seq ?_
          refine CW.seq ?_
          obtain ⟨G, hG⟩ : ∃ G, G = ((limbs R).getD (limbs (nval b * 2 ^ s)).length 0 * 4294967296 + (limbs R).getD ((limbs (nval b * 2 ^ s)).length - 1) 0) / (limbs (nval b * 2 ^ s)).getD ((limbs (nval b * 2 ^ s)).length - 1) 0 := ⟨_, rfl⟩
          refine ST.told 16 rfl (is_eq (y := (G : Int)) (by rw [hG])) ?_
          have hGq : R / (nval b * 2 ^ s) ≤ G := by rw [hG]; exact rdiv_top rfl hV0 hRV
          have hQ : R / (nval b * 2 ^ s) < 4294967296 := (Nat.div_lt_iff_lt_mul (Nat.pos_of_ne_zero hV0)).2 (by rw [Nat.mul_comm]; exact hRV)
          refine CW.region ?_
          refine WP.s .n (O.mv rfl) ?_
          refine WP.s .n (O.ge rfl rfl) ?_
          refine WP.nil ?_
          refine QE.next ?_
          refine CW.condD rfl (fun h_t95 => ?_) (fun h_t95 => ?_)
          · refine CW.region ?_
            refine WP.s .n (O.asg rfl) ?_
            refine WP.nil ?_
            refine QE.next ?_
            refine CW.seq ?_
            obtain ⟨g, hgd⟩ : ∃ g, g = 4294967295 := ⟨_, rfl⟩
            refine ST.told 16 rfl (is_eq (y := (g : Int)) (by rw [hgd]; rfl)) ?_
            have hgl : g < 4294967296 := by omega
            have hgq : R / (nval b * 2 ^ s) ≤ g := by omega
            refine CW.region ?_
            refine WP.s .n (O.mv rfl) ?_
            refine WP.s .n (O.mv rfl) ?_
            refine WP.s .n (O.cvt rfl Try.underlying173 Try.underlying121 (c := (g : Int)) (wrs32 (by omega))) ?_
            refine WP.s .n (O.bs Try.underlying29 el121_limb (evl.l rfl (u32_limb (x := g) (by omega)) evl.n) rfl (by decide)) ?_
            refine WP.s .n (O.fn fn163 (evs.c rfl (evs.c rfl evs.nil)) (c_ref01_Mul (limbs (nval b * 2 ^ s)) [g] (by simp; omega))) ?_
            refine WP.s .n (O.asg rfl) ?_
            refine WP.nil ?_
            refine QE.next ?_
            refine CW.seq ?_
            refine CW.block ?_
            refine ST.told 17 rfl (is_eq (y := (limbs ((nval b * 2 ^ s) * g))) (by rw [nval_limbs]; simp [nval])) ?_
            refine CW.loop (fun (g : Nat) => R / (nval b * 2 ^ s) ≤ g ∧ g < 4294967296) (fun (g : Nat) => [(7, kN.is (limbs (nval b))), (11, kN.is (limbs (nval a * 2 ^ s))), (12, kN.is (limbs (nval b * 2 ^ s))), (13, VP.ex vq), (14, kN.is (limbs R)), (15, (kInt .i64).is ((k : Int) - 1)), (16, (kInt .u64).is (g : Int)), (17, kN.is (limbs ((nval b * 2 ^ s) * g)))]) (fun (g : Nat) => [OB.row vq 121 kLimb qs]) (fun (g : Nat) => g) g ⟨hgq, hgl⟩ (Imp.cons rfl (Imp.cons rfl (Imp.cons rfl (Imp.cons rfl (Imp.cons rfl (Imp.cons rfl (Imp.cons rfl (Imp.cons rfl Imp.nil)))))))) (OImp.refl _) ?_
            intro g hg
            have hg2 := hg.2
            refine CW.seq ?_
            refine CW.seq ?_
            refine CW.region ?_
            refine WP.s .n (O.mv rfl) ?_
            refine WP.s .n (O.mv rfl) ?_
            refine WP.s .n (O.fn fn154 (evs.c rfl (evs.c rfl evs.nil)) (c_ref01_Cmp (limbs ((nval b * 2 ^ s) * g)) (limbs R))) ?_
            refine WP.s .n (O.gt rfl rfl) ?_
            refine WP.nil ?_
            refine QE.next ?_
            refine CW.condD rfl (fun h_t104 => ?_) (fun h_t104 => ?_)
            · refine CW.skip ?_
              refine QE.next ?_
              refine CW.block ?_
              refine CW.seq ?_
              have hgt : R < (nval b * 2 ^ s) * g := by have := cmpI_gt h_t104; rwa [nval_limbs, nval_limbs] at this
              have hg0 : R / (nval b * 2 ^ s) < g := (Nat.div_lt_iff_lt_mul (Nat.pos_of_ne_zero hV0)).2 (by rw [Nat.mul_comm]; exact hgt)
              have hg1 : 1 ≤ g := Nat.lt_of_le_of_lt (Nat.zero_le _) hg0
              refine CW.region ?_
              refine WP.s .n (O.mv rfl) ?_
              refine WP.s .n (O.sub rfl rfl (c := ((g - 1 : Nat) : Int)) (wu64 (by omega))) ?_
              refine WP.s .n (O.asg rfl) ?_
              refine WP.nil ?_
              refine QE.next ?_
              refine CW.region ?_
              refine WP.s .n (O.mv rfl) ?_
              refine WP.s .n (O.mv rfl) ?_
              refine WP.s .n (O.fn fn201 (evs.c rfl (evs.c rfl evs.nil)) (c_ref01_less (limbs ((nval b * 2 ^ s) * g)) (limbs (nval b * 2 ^ s)) (by rw [nval_limbs, nval_limbs]; exact Nat.le_mul_of_pos_right _ (by omega)))) ?_
              refine WP.s .n (O.asg rfl) ?_
              refine WP.nil ?_
              refine QE.blkN ?_
              refine ST.told 17 rfl (is_eq (y := (limbs ((nval b * 2 ^ s) * (g - 1)))) (by rw [nval_limbs, nval_limbs, Nat.mul_sub, Nat.mul_one])) ?_
              exact QE.round (g - 1) (by omega) ⟨by omega, by omega⟩ (Imp.cons rfl (Imp.cons rfl (Imp.cons rfl (Imp.cons rfl (Imp.cons rfl (Imp.cons rfl (Imp.consLe rfl (is_eq (y := (((g - 1) : Nat) : Int)) (by first | omega | rfl | simp)) (Imp.cons rfl Imp.nil)))))))) (OImp.refl _)
            · refine CW.exit ?_
              refine QE.thenE ?_
              refine QE.thenE ?_
              refine QE.blkH ?_
              refine QE.next ?_
              refine CW.seq ?_
              have hle : (nval b * 2 ^ s) * g ≤ R := by have := cmpI_ngt h_t104; rwa [nval_limbs, nval_limbs] at this
              have hgR : g = R / (nval b * 2 ^ s) := Nat.le_antisymm ((Nat.le_div_iff_mul_le (Nat.pos_of_ne_zero hV0)).2 (by rw [Nat.mul_comm]; exact hle)) hg.1
              refine CW.region ?_
              refine WP.s .n (O.mv rfl) ?_
              refine WP.s .n (O.mv rfl) ?_
              refine WP.s .n (O.mv rfl) ?_
              refine WP.s .n (O.cvt rfl Try.underlying173 Try.underlying121 (c := (g : Int)) (wrs32 (by omega))) ?_
              refine WP.s .n (O.ixR (k := kLimb) (xs := qs) (n := (k : Int) - 1) (k - 1) rfl rfl (mem_at 0 rfl) Try.underlying29 ty121 (by omega) (by first | omega | (simp; omega))) ?_
              refine WP.t .n (O.stR 0 (k - 1) rfl rfl (Lens.id _) rfl (y0 := (qs.getD (k - 1) 0)) (gd 0 (by first | omega | (simp; omega))) ty121 rfl (u32_limb (x := g) (by omega))) ?_
              refine WP.nil ?_
              refine QE.next ?_
              refine CW.region ?_
              refine WP.s .n (O.mv rfl) ?_
              refine WP.s .n (O.mv rfl) ?_
              refine WP.s .n (O.fn fn201 (evs.c rfl (evs.c rfl evs.nil)) (c_ref01_less (limbs R) (limbs ((nval b * 2 ^ s) * g)) (by rw [nval_limbs, nval_limbs]; exact hle))) ?_
              refine WP.s .n (O.asg rfl) ?_
              refine WP.nil ?_
              refine QE.blkN ?_
              refine QE.next ?_
              refine CW.region ?_
              refine WP.s .n (O.mv rfl) ?_
              refine WP.s .n (O.sub rfl rfl (c := (((k : Int) - 1) - 1)) (w64 (by omega))) ?_
              refine WP.s .n (O.asg rfl) ?_
              refine WP.nil ?_
              refine ST.told 14 rfl (is_eq (y := (limbs (R - (nval b * 2 ^ s) * g))) (by rw [nval_limbs, nval_limbs])) ?_
              exact QE.round4 (qs.set (k - 1) g) (k - 1) (R - (nval b * 2 ^ s) * g) vq (by omega) (by rw [hR]; exact rdiv_ge lU (by omega) hD (by rw [← hR]; exact hgR) hg.2) (Imp.cons rfl (Imp.cons rfl (Imp.cons rfl (Imp.cons rfl (Imp.cons rfl (Imp.consLe rfl (is_eq (y := (((k - 1) : Nat) : Int) - 1) (by first | omega | rfl | simp)) Imp.nil)))))) (OImp.refl _)
          · refine CW.skip ?_
            refine QE.next ?_
            refine CW.seq ?_
            obtain ⟨g, hgd⟩ : ∃ g, g = G := ⟨_, rfl⟩
            refine ST.told 16 rfl (is_eq (y := (g : Int)) (by rw [hgd])) ?_
            have hgl : g < 4294967296 := by omega
            have hgq : R / (nval b * 2 ^ s) ≤ g := by omega
            refine CW.region ?_
            refine WP.s .n (O.mv rfl) ?_
            refine WP.s .n (O.mv rfl) ?_
            refine WP.s .n (O.cvt rfl Try.underlying173 Try.underlying121 (c := (g : Int)) (wrs32 (by omega))) ?_
            refine WP.s .n (O.bs Try.underlying29 el121_limb (evl.l rfl (u32_limb (x := g) (by omega)) evl.n) rfl (by decide)) ?_
            refine WP.s .n (O.fn fn163 (evs.c rfl (evs.c rfl evs.nil)) (c_ref01_Mul (limbs (nval b * 2 ^ s)) [g] (by simp; omega))) ?_
            refine WP.s .n (O.asg rfl) ?_
            refine WP.nil ?_
            refine QE.next ?_
            refine CW.seq ?_
            refine CW.block ?_
            refine ST.told 17 rfl (is_eq (y := (limbs ((nval b * 2 ^ s) * g))) (by rw [nval_limbs]; simp [nval])) ?_
            refine CW.loop (fun (g : Nat) => R / (nval b * 2 ^ s) ≤ g ∧ g < 4294967296) (fun (g : Nat) => [(7, kN.is (limbs (nval b))), (11, kN.is (limbs (nval a * 2 ^ s))), (12, kN.is (limbs (nval b * 2 ^ s))), (13, VP.ex vq), (14, kN.is (limbs R)), (15, (kInt .i64).is ((k : Int) - 1)), (16, (kInt .u64).is (g : Int)), (17, kN.is (limbs ((nval b * 2 ^ s) * g)))]) (fun (g : Nat) => [OB.row vq 121 kLimb qs]) (fun (g : Nat) => g) g ⟨hgq, hgl⟩ (Imp.cons rfl (Imp.cons rfl (Imp.cons rfl (Imp.cons rfl (Imp.cons rfl (Imp.cons rfl (Imp.cons rfl (Imp.cons rfl Imp.nil)))))))) (OImp.refl _) ?_
            intro g hg
            have hg2 := hg.2
            refine CW.seq ?_
            refine CW.seq ?_
            refine CW.region ?_
            refine WP.s .n (O.mv rfl) ?_
            refine WP.s .n (O.mv rfl) ?_
            refine WP.s .n (O.fn fn154 (evs.c rfl (evs.c rfl evs.nil)) (c_ref01_Cmp (limbs ((nval b * 2 ^ s) * g)) (limbs R))) ?_
            refine WP.s .n (O.gt rfl rfl) ?_
            refine WP.nil ?_
            refine QE.next ?_
            refine CW.condD rfl (fun h_t104 => ?_) (fun h_t104 => ?_)
            · refine CW.skip ?_
              refine QE.next ?_
              refine CW.block ?_
              refine CW.seq ?_
              have hgt : R < (nval b * 2 ^ s) * g := by have := cmpI_gt h_t104; rwa [nval_limbs, nval_limbs] at this
              have hg0 : R / (nval b * 2 ^ s) < g := (Nat.div_lt_iff_lt_mul (Nat.pos_of_ne_zero hV0)).2 (by rw [Nat.mul_comm]; exact hgt)
              have hg1 : 1 ≤ g := Nat.lt_of_le_of_lt (Nat.zero_le _) hg0
              refine CW.region ?_
              refine WP.s .n (O.mv rfl) ?_
              refine WP.s .n (O.sub rfl rfl (c := ((g - 1 : Nat) : Int)) (wu64 (by omega))) ?_
              refine WP.s .n (O.asg rfl) ?_
              refine WP.nil ?_
              refine QE.next ?_
              refine CW.region ?_
              refine WP.s .n (O.mv rfl) ?_
              refine WP.s .n (O.mv rfl) ?_
              refine WP.s .n (O.fn fn201 (evs.c rfl (evs.c rfl evs.nil)) (c_ref01_less (limbs ((nval b * 2 ^ s) * g)) (limbs (nval b * 2 ^ s)) (by rw [nval_limbs, nval_limbs]; exact Nat.le_mul_of_pos_right _ (by omega)))) ?_
              refine WP.s .n (O.asg rfl) ?_
              refine WP.nil ?_
              refine QE.blkN ?_
              refine ST.told 17 rfl (is_eq (y := (limbs ((nval b * 2 ^ s) * (g - 1)))) (by rw [nval_limbs, nval_limbs, Nat.mul_sub, Nat.mul_one])) ?_
              exact QE.round (g - 1) (by omega) ⟨by omega, by omega⟩ (Imp.cons rfl (Imp.cons rfl (Imp.cons rfl (Imp.cons rfl (Imp.cons rfl (Imp.cons rfl (Imp.consLe rfl (is_eq (y := (((g - 1) : Nat) : Int)) (by first | omega | rfl | simp)) (Imp.cons rfl Imp.nil)))))))) (OImp.refl _)
            · refine CW.exit ?_
              refine QE.thenE ?_
              refine QE.thenE ?_
              refine QE.blkH ?_
              refine QE.next ?_
              refine CW.seq ?_
              have hle : (nval b * 2 ^ s) * g ≤ R := by have := cmpI_ngt h_t104; rwa [nval_limbs, nval_limbs] at this
              have hgR : g = R / (nval b * 2 ^ s) := Nat.le_antisymm ((Nat.le_div_iff_mul_le (Nat.pos_of_ne_zero hV0)).2 (by rw [Nat.mul_comm]; exact hle)) hg.1
              refine CW.region ?_
              refine WP.s .n (O.mv rfl) ?_
              refine WP.s .n (O.mv rfl) ?_
              refine WP.s .n (O.mv rfl) ?_
              refine WP.s .n (O.cvt rfl Try.underlying173 Try.underlying121 (c := (g : Int)) (wrs32 (by omega))) ?_
              refine WP.s .n (O.ixR (k := kLimb) (xs := qs) (n := (k : Int) - 1) (k - 1) rfl rfl (mem_at 0 rfl) Try.underlying29 ty121 (by omega) (by first | omega | (simp; omega))) ?_
              refine WP.t .n (O.stR 0 (k - 1) rfl rfl (Lens.id _) rfl (y0 := (qs.getD (k - 1) 0)) (gd 0 (by first | omega | (simp; omega))) ty121 rfl (u32_limb (x := g) (by omega))) ?_
              refine WP.nil ?_
              refine QE.next ?_
              refine CW.region ?_
              refine WP.s .n (O.mv rfl) ?_
              refine WP.s .n (O.mv rfl) ?_
              refine WP.s .n (O.fn fn201 (evs.c rfl (evs.c rfl evs.nil)) (c_ref01_less (limbs R) (limbs ((nval b * 2 ^ s) * g)) (by rw [nval_limbs, nval_limbs]; exact hle))) ?_
              refine WP.s .n (O.asg rfl) ?_
              refine WP.nil ?_
              refine QE.blkN ?_
              refine QE.next ?_
              refine CW.region ?_
              refine WP.s .n (O.mv rfl) ?_
              refine WP.s .n (O.sub rfl rfl (c := (((k : Int) - 1) - 1)) (w64 (by omega))) ?_
              refine WP.s .n (O.asg rfl) ?_
              refine WP.nil ?_
              refine ST.told 14 rfl (is_eq (y := (limbs (R - (nval b * 2 ^ s) * g))) (by rw [nval_limbs, nval_limbs])) ?_
              exact QE.round4 (qs.set (k - 1) g) (k - 1) (R - (nval b * 2 ^ s) * g) vq (by omega) (by rw [hR]; exact rdiv_ge lU (by omega) hD (by rw [← hR]; exact hgR) hg.2) (Imp.cons rfl (Imp.cons rfl (Imp.cons rfl (Imp.cons rfl (Imp.cons rfl (Imp.consLe rfl (is_eq (y := (((k - 1) : Nat) : Int) - 1) (by first | omega | rfl | simp)) Imp.nil)))))) (OImp.refl _)
      · refine CW.exit ?_
        refine QE.thenE ?_
        refine QE.thenE ?_
        refine QE.blkH ?_
        refine QE.next ?_
        refine CW.seq ?_
        refine CW.region ?_
        refine WP.s .n (O.mv rfl) ?_
        refine WP.s .n (O.mv rfl) ?_
        refine WP.s .n (O.lenS rfl Try.underlying29) ?_
        refine WP.s .n (O.mul rfl rfl (c := (32 * ((limbs (nval b)).length : Int))) (w64 (by omega))) ?_
        refine WP.s .n (O.mv rfl) ?_
        refine WP.s .n (O.fn fn164 (evs.c rfl evs.nil) (c_ref01_Bits (limbs (nval b)))) ?_
        refine WP.s .n (O.sub rfl rfl (c := ((32 * ((limbs (nval b)).length : Int)) - (bitlen (nval (limbs (nval b))) : Int))) (w64 (by omega))) ?_
        refine ST.told 125 rfl (is_eq (y := (s : Int)) (by rw [nval_limbs]; omega)) ?_
        refine WP.s .n (O.fn fn205 (evs.c rfl (evs.c rfl evs.nil)) (c_ref01_Shr (limbs rest) s hs)) ?_
        refine WP.s .n (O.mv rfl) ?_
        refine WP.s .n (O.ext rfl rfl) ?_
        refine WP.s .n (O.ext rfl rfl) ?_
        refine WP.s .n (O.asg rfl) ?_
        refine WP.s .n (O.asg rfl) ?_
        refine WP.nil ?_
        refine QE.next ?_
        refine CW.seq ?_
        refine CW.region ?_
        refine WP.s .n (O.mv rfl) ?_
        refine ST.freeze 0 rfl (.keep (i := 7) rfl (.keep (i := 11) rfl (.keep (i := 12) rfl (.hit (i := 13) rfl (.keep (i := 14) rfl (.keep (i := 15) rfl (.keep (i := 18) rfl (.keep (i := 19) rfl (.keep (i := 61) rfl (.keep (i := 62) rfl (.keep (i := 118) rfl (.keep (i := 119) rfl (.keep (i := 120) rfl (.keep (i := 121) rfl (.keep (i := 122) rfl (.keep (i := 123) rfl (.keep (i := 124) rfl (.keep (i := 125) rfl (.keep (i := 126) rfl (.keep (i := 127) rfl (.keep (i := 128) rfl (.hit (i := 129) rfl .nil)))))))))))))))))))))) ?_
        refine WP.s .n (O.fn fn158 (evs.c rfl evs.nil) (c_ref01_Norm qs)) ?_
        refine WP.s .n (O.mv rfl) ?_
        refine WP.s .n (O.asg rfl) ?_
        refine WP.s .n (O.asg rfl) ?_
        refine WP.s .n (O.asg rfl) ?_
        refine WP.nil ?_
        refine QE.next ?_
        refine CW.ret ?_
        have hend := rdiv_end (by omega) hD
        refine ST.told 4 rfl (is_eq (y := (limbs (nval a / nval b))) (by rw [hend.1])) ?_
        refine ST.told 5 rfl (is_eq (y := (if nval b = 0 then [] else limbs (nval a % nval b))) (by rw [if_neg hb0, nval_limbs, hend.2])) ?_
        refine ST.told 6 rfl (is_eq (y := (if nval b = 0 then 11 else 0)) (by rw [if_neg hb0])) ?_
        exact QE.done (.inl rfl) rfl (ResOk.t rfl (ResOk.t rfl (ResOk.t rfl ResOk.nil))) (OImp.sub (List.nil_sublist _)) ⟨rfl, rfl⟩

set_option maxRecDepth 20000 in
set_option maxHeartbeats 1000000 in
theorem c_ref01_Gcd (a b : List Nat) (hA : a.length ≤ 549755813000) (hB : b.length ≤ 549755813000) : Fn Try.prog 166 [kN.is a, kN.is b] (kN.is (limbs (Nat.gcd (nval a) (nval b)))) := by
  refine Con.enter Try.func166 rfl rfl fun m w => ?_
  refine ST.fact (i := 0) rfl kN_lims fun la => ?_
  refine ST.fact (i := 1) rfl kN_lims fun lb => ?_
  have hla := limbs_len_le la
  have hlb := limbs_len_le lb
  refine CW.seq ?_
  refine CW.region ?_
  refine WP.s .n (O.asg rfl) ?_
  refine WP.nil ?_
  refine QE.next ?_
  refine CW.seq ?_
  refine CW.region ?_
  refine WP.s .n (O.mv rfl) ?_
  refine WP.s .n (O.fn fn158 (evs.c rfl evs.nil) (c_ref01_Norm a)) ?_
  refine WP.s .n (O.asg rfl) ?_
  refine WP.nil ?_
  refine QE.next ?_
  refine CW.seq ?_
  refine CW.region ?_
  refine WP.s .n (O.mv rfl) ?_
  refine WP.s .n (O.fn fn158 (evs.c rfl evs.nil) (c_ref01_Norm b)) ?_
  refine WP.s .n (O.asg rfl) ?_
  refine WP.nil ?_
  refine QE.next ?_
  refine CW.seq ?_
  refine CW.block ?_
  refine CW.loop2 (fun (x : Nat) (y : Nat) => Nat.gcd x y = Nat.gcd (nval a) (nval b) ∧ (limbs x).length ≤ 549755813000 ∧ (limbs y).length ≤ 549755813000) (fun (x : Nat) (y : Nat) => [(5, kN.is (limbs x)), (6, kN.is (limbs y))]) (fun (x : Nat) (y : Nat) => []) (fun (x : Nat) (y : Nat) => y) (nval a) (nval b) ⟨rfl, by omega, by omega⟩ (Imp.cons rfl (Imp.cons rfl Imp.nil)) (OImp.refl _) ?_
  intro x y ⟨hg, hx, hy⟩
  refine CW.seq ?_
  refine CW.seq ?_
  refine CW.region ?_
  refine WP.s .n (O.mv rfl) ?_
  refine WP.s .n (O.lenS rfl Try.underlying29) ?_
  refine WP.s .n (O.gt rfl rfl) ?_
  refine WP.nil ?_
  refine QE.next ?_
  refine CW.condD rfl (fun h_t16 => ?_) (fun h_t16 => ?_)
  · have hy0 : y ≠ 0 := fun h => by rw [h, limbs_zero] at h_t16; simp at h_t16
    refine CW.skip ?_
    refine QE.next ?_
    refine CW.block ?_
    refine CW.seq ?_
    refine CW.region ?_
    refine WP.s .n (O.mv rfl) ?_
    refine WP.s .n (O.mv rfl) ?_
    refine WP.s .n (O.fn fn162 (evs.c rfl (evs.c rfl evs.nil)) (c_ref01_Div (limbs x) (limbs y) (by omega) (by omega))) ?_
    refine WP.s .n (O.mv rfl) ?_
    refine WP.s .n (O.ext rfl rfl) ?_
    refine WP.s .n (O.ext rfl rfl) ?_
    refine WP.s .n (O.ext rfl rfl) ?_
    refine WP.s .n (O.asg rfl) ?_
    refine WP.s .n (O.asg rfl) ?_
    refine WP.s .n (O.asg rfl) ?_
    refine WP.nil ?_
    refine QE.next ?_
    refine CW.seq ?_
    refine CW.region ?_
    refine WP.s .n (O.mv rfl) ?_
    refine WP.s .n (O.asg rfl) ?_
    refine WP.nil ?_
    refine QE.next ?_
    refine CW.region ?_
    refine WP.s .n (O.mv rfl) ?_
    refine WP.s .n (O.asg rfl) ?_
    refine WP.nil ?_
    refine QE.blkN ?_
    refine ST.told 6 rfl (is_eq (y := (limbs (x % y))) (by rw [nval_limbs, nval_limbs, if_neg hy0])) ?_
    exact QE.round2 y (x % y) (by exact Nat.mod_lt _ (Nat.pos_of_ne_zero hy0)) ⟨by rw [← hg, Nat.gcd_comm x y, Nat.gcd_rec y x, Nat.gcd_comm], hy, Nat.le_trans (limbs_mono (Nat.le_of_lt (Nat.mod_lt _ (Nat.pos_of_ne_zero hy0)))) hy⟩ (Imp.cons rfl (Imp.cons rfl Imp.nil)) (OImp.refl _)
  · refine CW.exit ?_
    refine QE.thenE ?_
    refine QE.thenE ?_
    refine QE.blkH ?_
    refine QE.next ?_
    refine CW.seq ?_
    refine CW.region ?_
    refine WP.s .n (O.mv rfl) ?_
    refine WP.s .n (O.asg rfl) ?_
    refine WP.nil ?_
    refine QE.next ?_
    refine CW.ret ?_
    have hy0 : y = 0 := limbs0 (by omega)
    refine ST.told 4 rfl (is_eq (y := (limbs (Nat.gcd (nval a) (nval b)))) (by rw [← hg, hy0, Nat.gcd_zero_right])) ?_
    exact QE.done (.inl rfl) rfl (ResOk.t rfl ResOk.nil) (OImp.sub (List.nil_sublist _)) ⟨rfl, rfl⟩

end Fw


/- What Floor of layer 2 answers. -/
set_option linter.unusedVariables false
set_option linter.unusedSimpArgs false
set_option exponentiation.threshold 70
namespace Fw
open Go Go.Proofs

set_option maxRecDepth 20000 in
set_option maxHeartbeats 8000000 in
theorem c_zint_Floor (x y : Int) : Fn Try.prog 105 [kZ.is x, kZ.is y] (VP.tup [kC.is (x.fdiv y), kC.is (if y = 0 then 0 else x.fmod y), (kInt .i64).is (if y = 0 then 11 else 0)]) := by
  refine Con.enter Try.func105 rfl rfl fun m w => ?_
  refine ST.fact (i := 0) rfl kZ_sm fun hsx => ?_
  refine ST.z 0 rfl fun p p_v p_n p_l => ?_
  refine ST.z 1 rfl fun q q_v q_n q_l => ?_
  refine CW.seq ?_
  refine CW.region ?_
  refine WP.bx .n rfl fun b1 => ?_
  refine WP.bx .n rfl fun b2 => ?_
  refine WP.al .n z31_C fun b3 => ?_
  refine WP.al .n z31_C fun b4 => ?_
  refine WP.s .n (O.asg rfl) ?_
  refine WP.nil ?_
  refine QE.next ?_
  refine CW.seq ?_
  refine CW.region ?_
  refine WP.s .n (O.fa rfl fld31_1 rfl) ?_
  refine WP.s .n (O.ld rfl (mem_at 3 rfl) (Lens.snd (Lens.id _)) ty29 rfl) ?_
  refine WP.s .n (O.fa rfl fld31_1 rfl) ?_
  refine WP.s .n (O.ld rfl (mem_at 2 rfl) (Lens.snd (Lens.id _)) ty29 rfl) ?_
  refine WP.s .n (O.fn fn169 (evs.c rfl (evs.c rfl evs.nil)) (c_nat_Div p.2 q.2 (by omega) (by omega))) ?_
  refine WP.s .n (O.mv rfl) ?_
  refine WP.s .n (O.ext rfl rfl) ?_
  refine WP.s .n (O.ext rfl rfl) ?_
  refine WP.s .n (O.ext rfl rfl) ?_
  refine WP.s .n (O.asg rfl) ?_
  refine WP.s .n (O.asg rfl) ?_
  refine WP.s .n (O.asg rfl) ?_
  refine WP.nil ?_
  refine QE.next ?_
  refine CW.seq ?_
  refine CW.seq ?_
  refine CW.region ?_
  refine WP.s .n (O.mv rfl) ?_
  refine WP.s .n (O.ne rfl rfl) ?_
  refine WP.nil ?_
  refine QE.next ?_
  refine CW.condD rfl (fun h_t22 => ?_) (fun h_t22 => ?_)
  · have hq0 : nval q.2 = 0 := by by_cases h : nval q.2 = 0; exact h; simp [h] at h_t22
    have hy : y = 0 := by rw [← q_v, ival0 hq0]
    refine CW.seq ?_
    refine CW.region ?_
    refine WP.s .n (O.bld lit31_C rfl evp.n (.nil _)) ?_
    refine WP.s .n (O.bld lit31_C rfl evp.n (.nil _)) ?_
    refine WP.t .n (O.stW (l := kC) (u := 0) 1 rfl rfl rfl ty31 rfl (VP.le_refl _)) ?_
    refine WP.t .n (O.stW (l := kC) (u := 0) 0 rfl rfl rfl ty31 rfl (VP.le_refl _)) ?_
    refine WP.s .n (O.asg rfl) ?_
    refine WP.nil ?_
    refine QE.next ?_
    refine CW.ret ?_
    refine QE.thenR ?_
    refine ST.obtold 1 rfl (OB.box_eq (y := (x.fdiv y)) (by rw [hy, Int.fdiv_zero])) ?_
    refine ST.obtold 0 rfl (OB.box_eq (y := (if y = 0 then 0 else x.fmod y)) (by rw [if_pos hy])) ?_
    refine ST.told 6 rfl (is_eq (y := (if y = 0 then 11 else 0)) (by rw [if_pos hy])) ?_
    exact QE.done (.inl rfl) rfl (ResOk.c rfl (mem_at 1 rfl) ty31 (ResOk.c rfl (mem_at 0 rfl) ty31 (ResOk.t rfl ResOk.nil))) (OImp.sub (List.nil_sublist _)) ⟨rfl, rfl⟩
  · have hq0 : nval q.2 ≠ 0 := fun h => by simp [h] at h_t22
    have hy : y ≠ 0 := fun h => by rw [← q_v] at h; have := ival_abs q; rw [h] at this; exact hq0 this.symm
    refine CW.skip ?_
    refine QE.next ?_
    refine CW.seq ?_
    refine CW.draw (Γ := [.fr (VP.ex (.pointer (some ⟨b1, 0, none⟩))), .fr (kBool.is p.1), .fr (VP.ex (.pointer (some ⟨b2, 0, none⟩))), .fr (kBool.is q.1), .fr (kBool.is (decide (p.1 ≠ q.1))), .fr (kN.is (limbs (nval p.2 / nval q.2))), .fr (kC.is (ival ((decide (p.1 ≠ q.1)), (limbs (nval p.2 / nval q.2))))), .fr (VP.ex (.pointer (some ⟨b1, 0, none⟩))), .fr (kBool.is p.1), .fr (kN.is (if nval q.2 = 0 then [] else limbs (nval p.2 % nval q.2))), .fr (kC.is (ival (p.1, (if nval q.2 = 0 then [] else limbs (nval p.2 % nval q.2))))), .al (fun b => OB.box b 31 kC 0), .al (fun b => OB.box b 31 kC 0)]) (lates := [false, false, false, false, false, false, false, false, false, false, false, false, false]) (by kernel_rfl) (Chk.of rfl (by kernel_rfl) rfl) (fun _ _ _ _ _ h => h) (fun q_ x_ h_ => ?_) (fun σ => ?_)
    · match q_, h_ with
      | 0, h_ => cases h_; exact Ob.f rfl .n fun N => (O.fa rfl fld31_0 rfl)
      | 1, h_ => cases h_; exact Ob.f rfl .n fun N => (O.ld rfl (mem_app N (mem_at 3 rfl)) (Lens.fst (Lens.id _)) ty4 rfl)
      | 2, h_ => cases h_; exact Ob.f rfl .n fun N => (O.fa rfl fld31_0 rfl)
      | 3, h_ => cases h_; exact Ob.f rfl .n fun N => (O.ld rfl (mem_app N (mem_at 2 rfl)) (Lens.fst (Lens.id _)) ty4 rfl)
      | 4, h_ => cases h_; exact Ob.f rfl .n fun N => (O.neB rfl rfl Try.underlying4)
      | 5, h_ => cases h_; exact Ob.f rfl .n fun N => (O.mv rfl)
      | 6, h_ => cases h_; exact Ob.f rfl .n fun N => (O.fn fn147 (evs.c rfl (evs.c rfl evs.nil)) (c_zint_made (decide (p.1 ≠ q.1)) (limbs (nval p.2 / nval q.2))))
      | 7, h_ => cases h_; exact Ob.f rfl .n fun N => (O.fa rfl fld31_0 rfl)
      | 8, h_ => cases h_; exact Ob.f rfl .n fun N => (O.ld rfl (mem_app N (mem_at 3 rfl)) (Lens.fst (Lens.id _)) ty4 rfl)
      | 9, h_ => cases h_; exact Ob.f rfl .n fun N => (O.mv rfl)
      | 10, h_ => cases h_; exact Ob.f rfl .n fun N => (O.fn fn147 (evs.c rfl (evs.c rfl evs.nil)) (c_zint_made p.1 (if nval q.2 = 0 then [] else limbs (nval p.2 % nval q.2))))
      | 11, h_ => cases h_; exact Ob.a rfl z31_C
      | 12, h_ => cases h_; exact Ob.a rfl z31_C
      | n_ + 13, h_ => simp at h_
    refine WP.t .n (O.stW (l := kC) (u := ival ((decide (p.1 ≠ q.1)), (limbs (nval p.2 / nval q.2)))) 0 rfl rfl rfl ty31 rfl (VP.le_refl _)) ?_
    refine WP.t .n (O.stW (l := kC) (u := ival (p.1, (if nval q.2 = 0 then [] else limbs (nval p.2 % nval q.2)))) 1 rfl rfl rfl ty31 rfl (VP.le_refl _)) ?_
    refine WP.nil ?_
    refine QE.next ?_
    refine CW.seq ?_
    refine CW.seq ?_
    obtain ⟨M, hM⟩ : ∃ M, M = ival (decide (p.1 ≠ q.1), limbs (nval p.2 / nval q.2)) := ⟨_, rfl⟩
    obtain ⟨R, hR⟩ : ∃ R, R = ival (p.1, if nval q.2 = 0 then [] else limbs (nval p.2 % nval q.2)) := ⟨_, rfl⟩
    refine ST.obtold 0 rfl (OB.box_eq (y := M) hM.symm) ?_
    refine ST.obtold 1 rfl (OB.box_eq (y := R) hR.symm) ?_
    have hx : x = M * y + R := by rw [← p_v, ← q_v, hM, hR]; exact div_split hq0
    have hl : R.natAbs < y.natAbs := by rw [← q_v, hR]; exact rem_lt hq0
    have hsM : Sm M := Sm_le hsx (by rw [hM, ← p_v, ival_abs, ival_abs, nval_limbs]; exact Nat.div_le_self _ _)
    have hsR : Sm R := Sm_le hsx (by rw [hR, ← p_v, ival_abs, ival_abs, if_neg hq0, nval_limbs]; exact Nat.mod_le _ _)
    have hs1 : Sm 1 := Sm_lit (by decide)
    by_cases h5 : R.sign ≠ 0
    · refine CW.draw (Γ := [.fr (kC.is R), .fr ((kInt .i64).is R.sign), .fr (kBool.is true), .fr (kBool.is true), .fr (kC.is R), .fr ((kInt .i64).is R.sign), .fr (kI.is (q.1, q.2)), .fr ((kInt .i64).is ((ival (q.1, q.2)).sign)), .fr (kBool.is (decide (R.sign ≠ ((ival (q.1, q.2)).sign)))), .fr (kBool.is (decide (R.sign ≠ ((ival (q.1, q.2)).sign))))]) (lates := [false, false, false, false, false, false, false, false, false, false]) (by kernel_rfl) (Chk.of rfl (by kernel_rfl) rfl) (fun _ _ _ _ _ h => h) (fun q_ x_ h_ => ?_) (fun σ => ?_)
      · match q_, h_ with
        | 0, h_ => cases h_; exact Ob.f rfl .n fun N => (O.ld rfl (mem_app N (mem_at 1 rfl)) (Lens.id _) ty31 rfl)
        | 1, h_ => cases h_; exact Ob.f rfl .n fun N => (O.fn fn80 (evs.l rfl (kC_Z (by assumption)) evs.nil) (c_zint_Sign R))
        | 2, h_ => cases h_; exact Ob.f rfl .n fun N => (OpOk.le (O.ne rfl rfl) (is_eq (by simp [h5])))
        | 3, h_ => cases h_; exact Ob.f rfl .n fun N => (O.mv rfl)
        | 4, h_ => cases h_; exact Ob.f rfl (.g rfl rfl) fun N => (O.ld rfl (mem_app N (mem_at 1 rfl)) (Lens.id _) ty31 rfl)
        | 5, h_ => cases h_; exact Ob.f rfl (.g rfl rfl) fun N => (O.fn fn80 (evs.l rfl (kC_Z (by assumption)) evs.nil) (c_zint_Sign R))
        | 6, h_ => cases h_; exact Ob.f rfl (.g rfl rfl) fun N => (O.ld rfl (mem_app N (mem_at 4 rfl)) (Lens.id _) ty31 rfl)
        | 7, h_ => cases h_; exact Ob.f rfl (.g rfl rfl) fun N => (O.fn fn80 (evs.l rfl (kI_Z rfl (by omega)) evs.nil) (c_zint_Sign (ival (q.1, q.2))))
        | 8, h_ => cases h_; exact Ob.f rfl (.g rfl rfl) fun N => (O.ne rfl rfl)
        | 9, h_ => cases h_; exact Ob.f rfl .n fun N => (O.pickT rfl rfl)
        | n_ + 10, h_ => simp at h_
      refine WP.nil ?_
      refine QE.next ?_
      refine CW.condD rfl (fun h_t45 => ?_) (fun h_t45 => ?_)
      · refine CW.draw (Γ := [.fr (kC.is M), .fr (kC.is 1), .fr (kC.is (M - 1)), .fr (kC.is R), .fr (kI.is (q.1, q.2)), .fr (kC.is (R + (ival (q.1, q.2))))]) (lates := [false, false, false, false, false, false]) (by kernel_rfl) (Chk.of rfl (by kernel_rfl) rfl) (fun _ _ _ _ _ h => h) (fun q_ x_ h_ => ?_) (fun σ => ?_)
        · match q_, h_ with
          | 0, h_ => cases h_; exact Ob.f rfl .n fun N => (O.ld rfl (mem_app N (mem_at 0 rfl)) (Lens.id _) ty31 rfl)
          | 1, h_ => cases h_; exact Ob.f rfl .n fun N => (O.fn fn74 (evs.l rfl (i64_int (by omega)) evs.nil) (c_zint_Of 1))
          | 2, h_ => cases h_; exact Ob.f rfl .n fun N => (O.fn fn157 (evs.l rfl (kC_Z (by assumption)) (evs.l rfl (kC_Z (by assumption)) evs.nil)) (c_zint_Sub M 1))
          | 3, h_ => cases h_; exact Ob.f rfl .n fun N => (O.ld rfl (mem_app N (mem_at 1 rfl)) (Lens.id _) ty31 rfl)
          | 4, h_ => cases h_; exact Ob.f rfl .n fun N => (O.ld rfl (mem_app N (mem_at 4 rfl)) (Lens.id _) ty31 rfl)
          | 5, h_ => cases h_; exact Ob.f rfl .n fun N => (O.fn fn77 (evs.l rfl (kC_Z (by assumption)) (evs.l rfl (kI_Z rfl (by omega)) evs.nil)) (c_zint_Add R (ival (q.1, q.2))))
          | n_ + 6, h_ => simp at h_
        refine WP.t .n (O.stW (l := kC) (u := M - 1) 0 rfl rfl rfl ty31 rfl (VP.le_refl _)) ?_
        refine WP.t .n (O.stW (l := kC) (u := R + (ival (q.1, q.2))) 1 rfl rfl rfl ty31 rfl (VP.le_refl _)) ?_
        refine WP.nil ?_
        refine QE.next ?_
        refine CW.seq ?_
        refine CW.any (by kernel_rfl) ?_
        refine DA.go 0 [1] (by kernel_rfl) ⟨?_, ⟨?_, trivial⟩⟩
        · refine DO.s rfl .n (O.ld rfl (mem_at 0 rfl) (Lens.id _) ty31 rfl) ?_
          refine DA.go 1 [2] (by kernel_rfl) ⟨?_, ⟨?_, trivial⟩⟩
          · refine DO.s rfl .n (O.ld rfl (mem_at 1 rfl) (Lens.id _) ty31 rfl) ?_
            refine DA.go 2 [] (by kernel_rfl) ⟨?_, trivial⟩
            refine DO.t rfl .n (O.stW (l := kC) (u := M - 1) 3 rfl rfl rfl ty31 rfl (VP.le_refl _)) ?_
            refine DA.go 3 [] (by kernel_rfl) ⟨?_, trivial⟩
            refine DO.t rfl .n (O.stW (l := kC) (u := R + (ival (q.1, q.2))) 2 rfl rfl rfl ty31 rfl (VP.le_refl _)) ?_
            refine DA.go 4 [] (by kernel_rfl) ⟨?_, trivial⟩
            refine DO.s rfl .n (O.asg rfl) ?_
            refine DA.nil (by kernel_rfl) ?_
            refine QE.next ?_
            refine CW.ret ?_
            have hf := floor_2 hx hl h5 (by rw [← q_v]; exact h_t45)
            refine ST.obtold 3 rfl (OB.box_eq (y := (x.fdiv y)) hf.1) ?_
            refine ST.obtold 2 rfl (OB.box_eq (y := (if y = 0 then 0 else x.fmod y)) (by rw [if_neg hy, q_v]; exact hf.2)) ?_
            refine ST.told 6 rfl (is_eq (y := (if y = 0 then 11 else 0)) (by rw [if_neg hy])) ?_
            exact QE.done (.inl rfl) rfl (ResOk.c rfl (mem_at 3 rfl) ty31 (ResOk.c rfl (mem_at 2 rfl) ty31 (ResOk.t rfl ResOk.nil))) (OImp.sub (List.nil_sublist _)) ⟨rfl, rfl⟩
          · refine DO.t rfl .n (O.stW (l := kC) (u := M - 1) 3 rfl rfl rfl ty31 rfl (VP.le_refl _)) ?_
            refine DA.go 1 [] (by kernel_rfl) ⟨?_, trivial⟩
            refine DO.s rfl .n (O.ld rfl (mem_at 1 rfl) (Lens.id _) ty31 rfl) ?_
            refine DA.go 3 [] (by kernel_rfl) ⟨?_, trivial⟩
            refine DO.t rfl .n (O.stW (l := kC) (u := R + (ival (q.1, q.2))) 2 rfl rfl rfl ty31 rfl (VP.le_refl _)) ?_
            refine DA.go 4 [] (by kernel_rfl) ⟨?_, trivial⟩
            refine DO.s rfl .n (O.asg rfl) ?_
            refine DA.nil (by kernel_rfl) ?_
            refine QE.next ?_
            refine CW.ret ?_
            have hf := floor_2 hx hl h5 (by rw [← q_v]; exact h_t45)
            refine ST.obtold 3 rfl (OB.box_eq (y := (x.fdiv y)) hf.1) ?_
            refine ST.obtold 2 rfl (OB.box_eq (y := (if y = 0 then 0 else x.fmod y)) (by rw [if_neg hy, q_v]; exact hf.2)) ?_
            refine ST.told 6 rfl (is_eq (y := (if y = 0 then 11 else 0)) (by rw [if_neg hy])) ?_
            exact QE.done (.inl rfl) rfl (ResOk.c rfl (mem_at 3 rfl) ty31 (ResOk.c rfl (mem_at 2 rfl) ty31 (ResOk.t rfl ResOk.nil))) (OImp.sub (List.nil_sublist _)) ⟨rfl, rfl⟩
        · refine DO.s rfl .n (O.ld rfl (mem_at 1 rfl) (Lens.id _) ty31 rfl) ?_
          refine DA.go 0 [] (by kernel_rfl) ⟨?_, trivial⟩
          refine DO.s rfl .n (O.ld rfl (mem_at 0 rfl) (Lens.id _) ty31 rfl) ?_
          refine DA.go 2 [] (by kernel_rfl) ⟨?_, trivial⟩
          refine DO.t rfl .n (O.stW (l := kC) (u := M - 1) 3 rfl rfl rfl ty31 rfl (VP.le_refl _)) ?_
          refine DA.go 3 [] (by kernel_rfl) ⟨?_, trivial⟩
          refine DO.t rfl .n (O.stW (l := kC) (u := R + (ival (q.1, q.2))) 2 rfl rfl rfl ty31 rfl (VP.le_refl _)) ?_
          refine DA.go 4 [] (by kernel_rfl) ⟨?_, trivial⟩
          refine DO.s rfl .n (O.asg rfl) ?_
          refine DA.nil (by kernel_rfl) ?_
          refine QE.next ?_
          refine CW.ret ?_
          have hf := floor_2 hx hl h5 (by rw [← q_v]; exact h_t45)
          refine ST.obtold 3 rfl (OB.box_eq (y := (x.fdiv y)) hf.1) ?_
          refine ST.obtold 2 rfl (OB.box_eq (y := (if y = 0 then 0 else x.fmod y)) (by rw [if_neg hy, q_v]; exact hf.2)) ?_
          refine ST.told 6 rfl (is_eq (y := (if y = 0 then 11 else 0)) (by rw [if_neg hy])) ?_
          exact QE.done (.inl rfl) rfl (ResOk.c rfl (mem_at 3 rfl) ty31 (ResOk.c rfl (mem_at 2 rfl) ty31 (ResOk.t rfl ResOk.nil))) (OImp.sub (List.nil_sublist _)) ⟨rfl, rfl⟩
      · refine CW.skip ?_
        refine QE.next ?_
        refine CW.seq ?_
        refine CW.any (by kernel_rfl) ?_
        refine DA.go 0 [1] (by kernel_rfl) ⟨?_, ⟨?_, trivial⟩⟩
        · refine DO.s rfl .n (O.ld rfl (mem_at 0 rfl) (Lens.id _) ty31 rfl) ?_
          refine DA.go 1 [2] (by kernel_rfl) ⟨?_, ⟨?_, trivial⟩⟩
          · refine DO.s rfl .n (O.ld rfl (mem_at 1 rfl) (Lens.id _) ty31 rfl) ?_
            refine DA.go 2 [] (by kernel_rfl) ⟨?_, trivial⟩
            refine DO.t rfl .n (O.stW (l := kC) (u := M) 3 rfl rfl rfl ty31 rfl (VP.le_refl _)) ?_
            refine DA.go 3 [] (by kernel_rfl) ⟨?_, trivial⟩
            refine DO.t rfl .n (O.stW (l := kC) (u := R) 2 rfl rfl rfl ty31 rfl (VP.le_refl _)) ?_
            refine DA.go 4 [] (by kernel_rfl) ⟨?_, trivial⟩
            refine DO.s rfl .n (O.asg rfl) ?_
            refine DA.nil (by kernel_rfl) ?_
            refine QE.next ?_
            refine CW.ret ?_
            have hf := floor_1 hx hl h5 (by rw [← q_v]; exact h_t45)
            refine ST.obtold 3 rfl (OB.box_eq (y := (x.fdiv y)) hf.1) ?_
            refine ST.obtold 2 rfl (OB.box_eq (y := (if y = 0 then 0 else x.fmod y)) (by rw [if_neg hy]; exact hf.2)) ?_
            refine ST.told 6 rfl (is_eq (y := (if y = 0 then 11 else 0)) (by rw [if_neg hy])) ?_
            exact QE.done (.inl rfl) rfl (ResOk.c rfl (mem_at 3 rfl) ty31 (ResOk.c rfl (mem_at 2 rfl) ty31 (ResOk.t rfl ResOk.nil))) (OImp.sub (List.nil_sublist _)) ⟨rfl, rfl⟩
          · refine DO.t rfl .n (O.stW (l := kC) (u := M) 3 rfl rfl rfl ty31 rfl (VP.le_refl _)) ?_
            refine DA.go 1 [] (by kernel_rfl) ⟨?_, trivial⟩
            refine DO.s rfl .n (O.ld rfl (mem_at 1 rfl) (Lens.id _) ty31 rfl) ?_
            refine DA.go 3 [] (by kernel_rfl) ⟨?_, trivial⟩
            refine DO.t rfl .n (O.stW (l := kC) (u := R) 2 rfl rfl rfl ty31 rfl (VP.le_refl _)) ?_
            refine DA.go 4 [] (by kernel_rfl) ⟨?_, trivial⟩
            refine DO.s rfl .n (O.asg rfl) ?_
            refine DA.nil (by kernel_rfl) ?_
            refine QE.next ?_
            refine CW.ret ?_
            have hf := floor_1 hx hl h5 (by rw [← q_v]; exact h_t45)
            refine ST.obtold 3 rfl (OB.box_eq (y := (x.fdiv y)) hf.1) ?_
            refine ST.obtold 2 rfl (OB.box_eq (y := (if y = 0 then 0 else x.fmod y)) (by rw [if_neg hy]; exact hf.2)) ?_
            refine ST.told 6 rfl (is_eq (y := (if y = 0 then 11 else 0)) (by rw [if_neg hy])) ?_
            exact QE.done (.inl rfl) rfl (ResOk.c rfl (mem_at 3 rfl) ty31 (ResOk.c rfl (mem_at 2 rfl) ty31 (ResOk.t rfl ResOk.nil))) (OImp.sub (List.nil_sublist _)) ⟨rfl, rfl⟩
        · refine DO.s rfl .n (O.ld rfl (mem_at 1 rfl) (Lens.id _) ty31 rfl) ?_
          refine DA.go 0 [] (by kernel_rfl) ⟨?_, trivial⟩
          refine DO.s rfl .n (O.ld rfl (mem_at 0 rfl) (Lens.id _) ty31 rfl) ?_
          refine DA.go 2 [] (by kernel_rfl) ⟨?_, trivial⟩
          refine DO.t rfl .n (O.stW (l := kC) (u := M) 3 rfl rfl rfl ty31 rfl (VP.le_refl _)) ?_
          refine DA.go 3 [] (by kernel_rfl) ⟨?_, trivial⟩
          refine DO.t rfl .n (O.stW (l := kC) (u := R) 2 rfl rfl rfl ty31 rfl (VP.le_refl _)) ?_
          refine DA.go 4 [] (by kernel_rfl) ⟨?_, trivial⟩
          refine DO.s rfl .n (O.asg rfl) ?_
          refine DA.nil (by kernel_rfl) ?_
          refine QE.next ?_
          refine CW.ret ?_
          have hf := floor_1 hx hl h5 (by rw [← q_v]; exact h_t45)
          refine ST.obtold 3 rfl (OB.box_eq (y := (x.fdiv y)) hf.1) ?_
          refine ST.obtold 2 rfl (OB.box_eq (y := (if y = 0 then 0 else x.fmod y)) (by rw [if_neg hy]; exact hf.2)) ?_
          refine ST.told 6 rfl (is_eq (y := (if y = 0 then 11 else 0)) (by rw [if_neg hy])) ?_
          exact QE.done (.inl rfl) rfl (ResOk.c rfl (mem_at 3 rfl) ty31 (ResOk.c rfl (mem_at 2 rfl) ty31 (ResOk.t rfl ResOk.nil))) (OImp.sub (List.nil_sublist _)) ⟨rfl, rfl⟩
    · refine CW.draw (Γ := [.fr (kC.is R), .fr ((kInt .i64).is R.sign), .fr (kBool.is false), .fr (kBool.is false), .fr VP.tt, .fr VP.tt, .fr VP.tt, .fr VP.tt, .fr VP.tt, .fr (kBool.is false)]) (lates := [false, false, false, false, false, false, false, false, false, false]) (by kernel_rfl) (Chk.of rfl (by kernel_rfl) rfl) (fun _ _ _ _ _ h => h) (fun q_ x_ h_ => ?_) (fun σ => ?_)
      · match q_, h_ with
        | 0, h_ => cases h_; exact Ob.f rfl .n fun N => (O.ld rfl (mem_app N (mem_at 1 rfl)) (Lens.id _) ty31 rfl)
        | 1, h_ => cases h_; exact Ob.f rfl .n fun N => (O.fn fn80 (evs.l rfl (kC_Z (by assumption)) evs.nil) (c_zint_Sign R))
        | 2, h_ => cases h_; exact Ob.f rfl .n fun N => (OpOk.le (O.ne rfl rfl) (is_eq (by simp at h5; simp [h5])))
        | 3, h_ => cases h_; exact Ob.f rfl .n fun N => (O.mv rfl)
        | 4, h_ => cases h_; exact Ob.k (b := false) rfl rfl rfl
        | 5, h_ => cases h_; exact Ob.k (b := false) rfl rfl rfl
        | 6, h_ => cases h_; exact Ob.k (b := false) rfl rfl rfl
        | 7, h_ => cases h_; exact Ob.k (b := false) rfl rfl rfl
        | 8, h_ => cases h_; exact Ob.k (b := false) rfl rfl rfl
        | 9, h_ => cases h_; exact Ob.f rfl .n fun N => (O.pickF rfl rfl)
        | n_ + 10, h_ => simp at h_
      refine WP.nil ?_
      refine QE.next ?_
      refine CW.condF rfl ?_
      refine CW.skip ?_
      refine QE.next ?_
      refine CW.seq ?_
      refine CW.any (by kernel_rfl) ?_
      refine DA.go 0 [1] (by kernel_rfl) ⟨?_, ⟨?_, trivial⟩⟩
      · refine DO.s rfl .n (O.ld rfl (mem_at 0 rfl) (Lens.id _) ty31 rfl) ?_
        refine DA.go 1 [2] (by kernel_rfl) ⟨?_, ⟨?_, trivial⟩⟩
        · refine DO.s rfl .n (O.ld rfl (mem_at 1 rfl) (Lens.id _) ty31 rfl) ?_
          refine DA.go 2 [] (by kernel_rfl) ⟨?_, trivial⟩
          refine DO.t rfl .n (O.stW (l := kC) (u := M) 3 rfl rfl rfl ty31 rfl (VP.le_refl _)) ?_
          refine DA.go 3 [] (by kernel_rfl) ⟨?_, trivial⟩
          refine DO.t rfl .n (O.stW (l := kC) (u := R) 2 rfl rfl rfl ty31 rfl (VP.le_refl _)) ?_
          refine DA.go 4 [] (by kernel_rfl) ⟨?_, trivial⟩
          refine DO.s rfl .n (O.asg rfl) ?_
          refine DA.nil (by kernel_rfl) ?_
          refine QE.next ?_
          refine CW.ret ?_
          have hf := floor_0 hx hl h5
          refine ST.obtold 3 rfl (OB.box_eq (y := (x.fdiv y)) hf.1) ?_
          refine ST.obtold 2 rfl (OB.box_eq (y := (if y = 0 then 0 else x.fmod y)) (by rw [if_neg hy]; exact hf.2)) ?_
          refine ST.told 6 rfl (is_eq (y := (if y = 0 then 11 else 0)) (by rw [if_neg hy])) ?_
          exact QE.done (.inl rfl) rfl (ResOk.c rfl (mem_at 3 rfl) ty31 (ResOk.c rfl (mem_at 2 rfl) ty31 (ResOk.t rfl ResOk.nil))) (OImp.sub (List.nil_sublist _)) ⟨rfl, rfl⟩
        · refine DO.t rfl .n (O.stW (l := kC) (u := M) 3 rfl rfl rfl ty31 rfl (VP.le_refl _)) ?_
          refine DA.go 1 [] (by kernel_rfl) ⟨?_, trivial⟩
          refine DO.s rfl .n (O.ld rfl (mem_at 1 rfl) (Lens.id _) ty31 rfl) ?_
          refine DA.go 3 [] (by kernel_rfl) ⟨?_, trivial⟩
          refine DO.t rfl .n (O.stW (l := kC) (u := R) 2 rfl rfl rfl ty31 rfl (VP.le_refl _)) ?_
          refine DA.go 4 [] (by kernel_rfl) ⟨?_, trivial⟩
          refine DO.s rfl .n (O.asg rfl) ?_
          refine DA.nil (by kernel_rfl) ?_
          refine QE.next ?_
          refine CW.ret ?_
          have hf := floor_0 hx hl h5
          refine ST.obtold 3 rfl (OB.box_eq (y := (x.fdiv y)) hf.1) ?_
          refine ST.obtold 2 rfl (OB.box_eq (y := (if y = 0 then 0 else x.fmod y)) (by rw [if_neg hy]; exact hf.2)) ?_
          refine ST.told 6 rfl (is_eq (y := (if y = 0 then 11 else 0)) (by rw [if_neg hy])) ?_
          exact QE.done (.inl rfl) rfl (ResOk.c rfl (mem_at 3 rfl) ty31 (ResOk.c rfl (mem_at 2 rfl) ty31 (ResOk.t rfl ResOk.nil))) (OImp.sub (List.nil_sublist _)) ⟨rfl, rfl⟩
      · refine DO.s rfl .n (O.ld rfl (mem_at 1 rfl) (Lens.id _) ty31 rfl) ?_
        refine DA.go 0 [] (by kernel_rfl) ⟨?_, trivial⟩
        refine DO.s rfl .n (O.ld rfl (mem_at 0 rfl) (Lens.id _) ty31 rfl) ?_
        refine DA.go 2 [] (by kernel_rfl) ⟨?_, trivial⟩
        refine DO.t rfl .n (O.stW (l := kC) (u := M) 3 rfl rfl rfl ty31 rfl (VP.le_refl _)) ?_
        refine DA.go 3 [] (by kernel_rfl) ⟨?_, trivial⟩
        refine DO.t rfl .n (O.stW (l := kC) (u := R) 2 rfl rfl rfl ty31 rfl (VP.le_refl _)) ?_
        refine DA.go 4 [] (by kernel_rfl) ⟨?_, trivial⟩
        refine DO.s rfl .n (O.asg rfl) ?_
        refine DA.nil (by kernel_rfl) ?_
        refine QE.next ?_
        refine CW.ret ?_
        have hf := floor_0 hx hl h5
        refine ST.obtold 3 rfl (OB.box_eq (y := (x.fdiv y)) hf.1) ?_
        refine ST.obtold 2 rfl (OB.box_eq (y := (if y = 0 then 0 else x.fmod y)) (by rw [if_neg hy]; exact hf.2)) ?_
        refine ST.told 6 rfl (is_eq (y := (if y = 0 then 11 else 0)) (by rw [if_neg hy])) ?_
        exact QE.done (.inl rfl) rfl (ResOk.c rfl (mem_at 3 rfl) ty31 (ResOk.c rfl (mem_at 2 rfl) ty31 (ResOk.t rfl ResOk.nil))) (OImp.sub (List.nil_sublist _)) ⟨rfl, rfl⟩

end Fw


/- What Exact of layer 2 answers. -/
set_option linter.unusedVariables false
set_option linter.unusedSimpArgs false
set_option exponentiation.threshold 70
namespace Fw
open Go Go.Proofs

end Fw


/- Plain facts: rationals in lowest terms, bits of vectors and matrices, the rows of a sum. -/
set_option linter.unusedVariables false
set_option linter.unusedSimpArgs false
set_option exponentiation.threshold 400
namespace Fw
open Go

/-! ### Sizes -/
/-- Of at most n bits. -/
def Sz (n : Nat) (z : Int) : Prop := z.natAbs < 2 ^ n
theorem Sz.up {n m : Nat} {z : Int} (h : Sz n z) (hm : n ≤ m) : Sz m z := Nat.lt_of_lt_of_le h (Nat.pow_le_pow_right (by decide) hm)
theorem Sz.sm {n : Nat} {z : Int} (h : Sz n z) (hm : n ≤ 549755813888) : Sm z := Sm_of h hm
theorem Sz.neg {n : Nat} {z : Int} (h : Sz n z) : Sz n (-z) := by unfold Sz at *; rwa [Int.natAbs_neg]
theorem Sz.add {n m : Nat} {x y : Int} (h : Sz n x) (k : Sz m y) : Sz (n + m + 1) (x + y) := by
  unfold Sz at *
  have h1 : (x + y).natAbs ≤ x.natAbs + y.natAbs := Int.natAbs_add_le x y
  have h2 : 2 ^ n ≤ 2 ^ (n + m) := Nat.pow_le_pow_right (by decide) (by omega)
  have h3 : 2 ^ m ≤ 2 ^ (n + m) := Nat.pow_le_pow_right (by decide) (by omega)
  rw [Nat.pow_succ]
  omega
theorem Sz.max {n m : Nat} {x y : Int} (h : Sz n x) (k : Sz m y) : Sz (Nat.max n m + 1) (x + y) := by
  have h' := Sz.up h (Nat.le_max_left n m)
  have k' := Sz.up k (Nat.le_max_right n m)
  unfold Sz at *
  have h1 : (x + y).natAbs ≤ x.natAbs + y.natAbs := Int.natAbs_add_le x y
  have e : Max.max n m = Nat.max n m := rfl
  rw [e] at h' k'
  rw [Nat.pow_succ]
  omega
theorem Sz.sub {n m : Nat} {x y : Int} (h : Sz n x) (k : Sz m y) : Sz (n + m + 1) (x - y) := by
  rw [Int.sub_eq_add_neg]; exact h.add k.neg
theorem Sz.mul {n m : Nat} {x y : Int} (h : Sz n x) (k : Sz m y) : Sz (n + m) (x * y) := by
  unfold Sz at *
  rw [Int.natAbs_mul, Nat.pow_add]
  exact Nat.mul_lt_mul'' h k
theorem Sz.le {n : Nat} {x y : Int} (h : Sz n x) (hl : y.natAbs ≤ x.natAbs) : Sz n y := Nat.lt_of_le_of_lt hl h
theorem Sz.zero (n : Nat) : Sz n 0 := Nat.two_pow_pos n

/-! ### Rationals -/
theorem gcd_ne {n d : Int} (hd : d ≠ 0) : ((Int.gcd n d : Nat) : Int) ≠ 0 := by
  intro h
  have h1 : Int.gcd n d = 0 := by omega
  exact hd (Int.gcd_eq_zero_iff.1 h1).2
theorem gcd_le_abs {n d : Int} (hd : d ≠ 0) : ((Int.gcd n d : Nat) : Int).natAbs ≤ d.natAbs := by
  rw [Int.natAbs_natCast]
  exact Nat.le_of_dvd (by omega) (Nat.gcd_dvd_right _ _)
/-! ### Bits -/
/-! ### Density, sums, rows -/
theorem canon_eqd {a b : Int} (h : (!decide (canon a = canon b)) = false) : a = b := by
  simp at h; exact canon_inj h
theorem canon_ned {a b : Int} (h : (!decide (canon a = canon b)) = true) : ¬ a = b := by
  intro e; subst e; simp at h
end Fw


/- Rationals in lowest terms; the document's floor. -/
set_option linter.unusedVariables false
set_option linter.unusedSimpArgs false
set_option exponentiation.threshold 400
namespace Fw
open Go Go.Proofs

set_option maxRecDepth 20000 in
set_option maxHeartbeats 1000000 in
theorem c_ref02_Gcd (x y : Int) : Fn Try.prog 104 [kZ.is x, kZ.is y] (kC.is (Int.gcd x y : Int)) := by
  refine Con.enter Try.func104 rfl rfl fun m w => ?_
  refine ST.z 0 rfl fun p p_v p_n p_l => ?_
  refine ST.z 1 rfl fun q q_v q_n q_l => ?_
  refine CW.seq ?_
  refine CW.region ?_
  refine WP.bx .n rfl fun b1 => ?_
  refine WP.bx .n rfl fun b2 => ?_
  refine WP.al .n z31_C fun b3 => ?_
  refine WP.nil ?_
  refine QE.next ?_
  refine CW.seq ?_
  refine CW.region ?_
  refine WP.s .n (O.fa rfl fld31_1 rfl) ?_
  refine WP.s .n (O.ld rfl (mem_at 2 rfl) (Lens.snd (Lens.id _)) ty29 rfl) ?_
  refine WP.s .n (O.fa rfl fld31_1 rfl) ?_
  refine WP.s .n (O.ld rfl (mem_at 1 rfl) (Lens.snd (Lens.id _)) ty29 rfl) ?_
  refine WP.s .n (O.fn fn166 (evs.c rfl (evs.c rfl evs.nil)) (c_ref01_Gcd p.2 q.2 (by omega) (by omega))) ?_
  refine WP.s .n (O.fn fn152 (evs.c rfl (evs.c rfl evs.nil)) (c_ref02_made false (limbs (Nat.gcd (nval p.2) (nval q.2))))) ?_
  refine WP.t .n (O.stW (l := kC) (u := ival (false, (limbs (Nat.gcd (nval p.2) (nval q.2))))) 0 rfl rfl rfl ty31 rfl (VP.le_refl _)) ?_
  refine WP.nil ?_
  refine QE.next ?_
  refine CW.ret ?_
  refine ST.obtold 0 rfl (OB.box_eq (y := (Int.gcd x y : Int)) (by rw [← p_v, ← q_v, Int.gcd, ival_abs, ival_abs, ival_pos rfl, nval_limbs])) ?_
  exact QE.done (.inl rfl) rfl (ResOk.c rfl (mem_at 0 rfl) ty31 ResOk.nil) (OImp.sub (List.nil_sublist _)) ⟨rfl, rfl⟩

set_option maxRecDepth 20000 in
set_option maxHeartbeats 1000000 in
theorem c_ref02_Floor (x y : Int) (hy : y ≠ 0) : Fn Try.prog 89 [kZ.is x, kZ.is y] (VP.tup [kC.is (x.fdiv y), kC.is (x.fmod y)]) := by
  refine Con.enter Try.func89 rfl rfl fun m w => ?_
  refine ST.fact (i := 0) rfl kZ_sm fun hsx => ?_
  refine ST.fact (i := 1) rfl kZ_sm fun hsy => ?_
  refine ST.z 0 rfl fun p p_v p_n p_l => ?_
  refine ST.z 1 rfl fun q q_v q_n q_l => ?_
  refine CW.seq ?_
  refine CW.region ?_
  refine WP.bx .n rfl fun b1 => ?_
  refine WP.bx .n rfl fun b2 => ?_
  refine WP.al .n z31_C fun b3 => ?_
  refine WP.al .n z31_C fun b4 => ?_
  refine WP.nil ?_
  refine QE.next ?_
  refine CW.seq ?_
  refine CW.region ?_
  refine WP.s .n (O.fa rfl fld31_1 rfl) ?_
  refine WP.s .n (O.ld rfl (mem_at 3 rfl) (Lens.snd (Lens.id _)) ty29 rfl) ?_
  refine WP.s .n (O.fa rfl fld31_1 rfl) ?_
  refine WP.s .n (O.ld rfl (mem_at 2 rfl) (Lens.snd (Lens.id _)) ty29 rfl) ?_
  refine WP.s .n (O.fn fn162 (evs.c rfl (evs.c rfl evs.nil)) (c_ref01_Div p.2 q.2 (by omega) (by omega))) ?_
  refine WP.s .n (O.mv rfl) ?_
  refine WP.s .n (O.ext rfl rfl) ?_
  refine WP.s .n (O.ext rfl rfl) ?_
  refine WP.s .n (O.ext rfl rfl) ?_
  refine WP.s .n (O.asg rfl) ?_
  refine WP.s .n (O.asg rfl) ?_
  refine WP.s .n (O.asg rfl) ?_
  refine WP.nil ?_
  refine QE.next ?_
  refine CW.seq ?_
  refine CW.region ?_
  refine WP.s .n (O.fa rfl fld31_0 rfl) ?_
  refine WP.s .n (O.ld rfl (mem_at 3 rfl) (Lens.fst (Lens.id _)) ty4 rfl) ?_
  refine WP.s .n (O.fa rfl fld31_0 rfl) ?_
  refine WP.s .n (O.ld rfl (mem_at 2 rfl) (Lens.fst (Lens.id _)) ty4 rfl) ?_
  refine WP.s .n (O.neB rfl rfl Try.underlying4) ?_
  refine WP.s .n (O.mv rfl) ?_
  refine WP.s .n (O.fn fn152 (evs.c rfl (evs.c rfl evs.nil)) (c_ref02_made (decide (p.1 ≠ q.1)) (limbs (nval p.2 / nval q.2)))) ?_
  refine WP.al .n z31_C fun b5 => ?_
  refine WP.t .n (O.stW (l := kC) (u := ival ((decide (p.1 ≠ q.1)), (limbs (nval p.2 / nval q.2)))) 0 rfl rfl rfl ty31 rfl (VP.le_refl _)) ?_
  refine WP.nil ?_
  refine QE.next ?_
  refine CW.seq ?_
  have hq0 : nval q.2 ≠ 0 := fun h => by rw [← q_v] at hy; have := ival_abs q; rw [h] at this; exact hy (by omega)
  obtain ⟨M, hM⟩ : ∃ M, M = ival (decide (p.1 ≠ q.1), limbs (nval p.2 / nval q.2)) := ⟨_, rfl⟩
  obtain ⟨R, hR⟩ : ∃ R, R = ival (p.1, if nval q.2 = 0 then [] else limbs (nval p.2 % nval q.2)) := ⟨_, rfl⟩
  refine ST.obtold 0 rfl (OB.box_eq (y := M) hM.symm) ?_
  have hx : x = M * y + R := by rw [← p_v, ← q_v, hM, hR]; exact div_split hq0
  have hl : R.natAbs < y.natAbs := by rw [← q_v, hR]; exact rem_lt hq0
  have hsM : Sm M := Sm_le hsx (by rw [hM, ← p_v, ival_abs, ival_abs, nval_limbs]; exact Nat.div_le_self _ _)
  have hsR : Sm R := Sm_le hsx (by rw [hR, ← p_v, ival_abs, ival_abs, if_neg hq0, nval_limbs]; exact Nat.mod_le _ _)
  have hs1 : Sm 1 := Sm_lit (by decide)
  have hsMy : Sm (M * y) := Sm_le hsx (by rw [hM, ← p_v, ← q_v, Int.natAbs_mul, ival_abs, ival_abs, ival_abs, nval_limbs]; exact Nat.div_mul_le_self _ _)
  refine ST.obtold (b' := OB.box b2 31 kZ y) 3 rfl (OB.I_Z q_v q_n) ?_
  refine ST.obtold (b' := OB.box b1 31 kZ x) 4 rfl (OB.I_Z p_v p_n) ?_
  refine CW.draw (Γ := [.fr (kZ.is x), .fr (kC.is M), .fr (kZ.is y), .fr (kC.is (M * y)), .fr (kC.is (x - (M * y))), .al (fun b => OB.box b 31 kC 0)]) (lates := [false, false, false, false, false, false]) (by kernel_rfl) (Chk.of rfl (by kernel_rfl) rfl) (fun _ _ _ _ _ h => h) (fun q_ x_ h_ => ?_) (fun σ => ?_)
  · match q_, h_ with
    | 0, h_ => cases h_; exact Ob.f rfl .n fun N => (O.ld rfl (mem_app N (mem_at 4 rfl)) (Lens.id _) ty31 rfl)
    | 1, h_ => cases h_; exact Ob.f rfl .n fun N => (O.ld rfl (mem_app N (mem_at 0 rfl)) (Lens.id _) ty31 rfl)
    | 2, h_ => cases h_; exact Ob.f rfl .n fun N => (O.ld rfl (mem_app N (mem_at 3 rfl)) (Lens.id _) ty31 rfl)
    | 3, h_ => cases h_; exact Ob.f rfl .n fun N => (O.fn fn91 (evs.l rfl (kC_Z (by assumption)) (evs.c rfl evs.nil)) (c_ref02_Mul M y))
    | 4, h_ => cases h_; exact Ob.f rfl .n fun N => (O.fn fn90 (evs.c rfl (evs.l rfl (kC_Z (by assumption)) evs.nil)) (c_ref02_Sub x (M * y)))
    | 5, h_ => cases h_; exact Ob.a rfl z31_C
    | n_ + 6, h_ => simp at h_
  refine WP.t .n (O.stW (l := kC) (u := x - (M * y)) 0 rfl rfl rfl ty31 rfl (VP.le_refl _)) ?_
  refine WP.nil ?_
  refine QE.next ?_
  refine CW.seq ?_
  refine CW.seq ?_
  refine ST.obtold 0 rfl (OB.box_eq (y := R) (by rw [hx]; omega)) ?_
  by_cases h5 : R.sign ≠ 0
  · refine CW.draw (Γ := [.fr (kC.is R), .fr ((kInt .i64).is R.sign), .fr (kBool.is true), .fr (kBool.is true), .fr (kC.is R), .fr ((kInt .i64).is R.sign), .fr (kZ.is y), .fr ((kInt .i64).is y.sign), .fr (kBool.is (decide (R.sign ≠ y.sign))), .fr (kBool.is (decide (R.sign ≠ y.sign)))]) (lates := [false, false, false, false, false, false, false, false, false, false]) (by kernel_rfl) (Chk.of rfl (by kernel_rfl) rfl) (fun _ _ _ _ _ h => h) (fun q_ x_ h_ => ?_) (fun σ => ?_)
    · match q_, h_ with
      | 0, h_ => cases h_; exact Ob.f rfl .n fun N => (O.ld rfl (mem_app N (mem_at 0 rfl)) (Lens.id _) ty31 rfl)
      | 1, h_ => cases h_; exact Ob.f rfl .n fun N => (O.fn fn83 (evs.l rfl (kC_Z (by assumption)) evs.nil) (c_ref02_Sign R))
      | 2, h_ => cases h_; exact Ob.f rfl .n fun N => (OpOk.le (O.ne rfl rfl) (is_eq (by simp [h5])))
      | 3, h_ => cases h_; exact Ob.f rfl .n fun N => (O.mv rfl)
      | 4, h_ => cases h_; exact Ob.f rfl (.g rfl rfl) fun N => (O.ld rfl (mem_app N (mem_at 0 rfl)) (Lens.id _) ty31 rfl)
      | 5, h_ => cases h_; exact Ob.f rfl (.g rfl rfl) fun N => (O.fn fn83 (evs.l rfl (kC_Z (by assumption)) evs.nil) (c_ref02_Sign R))
      | 6, h_ => cases h_; exact Ob.f rfl (.g rfl rfl) fun N => (O.ld rfl (mem_app N (mem_at 4 rfl)) (Lens.id _) ty31 rfl)
      | 7, h_ => cases h_; exact Ob.f rfl (.g rfl rfl) fun N => (O.fn fn83 (evs.c rfl evs.nil) (c_ref02_Sign y))
      | 8, h_ => cases h_; exact Ob.f rfl (.g rfl rfl) fun N => (O.ne rfl rfl)
      | 9, h_ => cases h_; exact Ob.f rfl .n fun N => (O.pickT rfl rfl)
      | n_ + 10, h_ => simp at h_
    refine WP.nil ?_
    refine QE.next ?_
    refine CW.condD rfl (fun h_t41 => ?_) (fun h_t41 => ?_)
    · refine CW.seq ?_
      refine CW.draw (Γ := [.fr (kC.is M), .fr (kC.is 1), .fr (kC.is (M - 1))]) (lates := [false, false, false]) (by kernel_rfl) (Chk.of rfl (by kernel_rfl) rfl) (fun _ _ _ _ _ h => h) (fun q_ x_ h_ => ?_) (fun σ => ?_)
      · match q_, h_ with
        | 0, h_ => cases h_; exact Ob.f rfl .n fun N => (O.ld rfl (mem_app N (mem_at 1 rfl)) (Lens.id _) ty31 rfl)
        | 1, h_ => cases h_; exact Ob.f rfl .n fun N => (O.fn fn78 (evs.l rfl (i64_int (by omega)) evs.nil) (c_ref02_Of 1))
        | 2, h_ => cases h_; exact Ob.f rfl .n fun N => (O.fn fn90 (evs.l rfl (kC_Z (by assumption)) (evs.l rfl (kC_Z (by assumption)) evs.nil)) (c_ref02_Sub M 1))
        | n_ + 3, h_ => simp at h_
      refine WP.t .n (O.stW (l := kC) (u := M - 1) 1 rfl rfl rfl ty31 rfl (VP.le_refl _)) ?_
      refine WP.nil ?_
      refine QE.next ?_
      refine CW.region ?_
      refine WP.s .n (O.ld rfl (mem_at 0 rfl) (Lens.id _) ty31 rfl) ?_
      refine WP.s .n (O.ld rfl (mem_at 4 rfl) (Lens.id _) ty31 rfl) ?_
      refine WP.s .n (O.fn fn79 (evs.l rfl (kC_Z (by assumption)) (evs.c rfl evs.nil)) (c_ref02_Add R y)) ?_
      refine WP.t .n (O.stW (l := kC) (u := R + y) 0 rfl rfl rfl ty31 rfl (VP.le_refl _)) ?_
      refine WP.nil ?_
      refine QE.next ?_
      refine CW.seq ?_
      refine CW.any (by kernel_rfl) ?_
      refine DA.go 0 [1] (by kernel_rfl) ⟨?_, ⟨?_, trivial⟩⟩
      · refine DO.w rfl ?_
        refine WP.s .n (O.ld rfl (mem_at 1 rfl) (Lens.id _) ty31 rfl) ?_
        refine WP.nil ?_
        refine DO.nx ?_
        refine DA.go 1 [2] (by kernel_rfl) ⟨?_, ⟨?_, trivial⟩⟩
        · refine DO.w rfl ?_
          refine WP.s .n (O.ld rfl (mem_at 0 rfl) (Lens.id _) ty31 rfl) ?_
          refine WP.nil ?_
          refine DO.nx ?_
          refine DA.go 2 [] (by kernel_rfl) ⟨?_, trivial⟩
          refine DO.w rfl ?_
          refine WP.t .n (O.stW (l := kC) (u := M - 1) 3 rfl rfl rfl ty31 rfl (VP.le_refl _)) ?_
          refine WP.nil ?_
          refine DO.nx ?_
          refine DA.go 3 [] (by kernel_rfl) ⟨?_, trivial⟩
          refine DO.w rfl ?_
          refine WP.t .n (O.stW (l := kC) (u := R + y) 2 rfl rfl rfl ty31 rfl (VP.le_refl _)) ?_
          refine WP.nil ?_
          refine DO.nx ?_
          refine DA.nil (by kernel_rfl) ?_
          refine QE.next ?_
          refine CW.ret ?_
          have hf := floor_2 hx hl h5 (by first | assumption | omega)
          refine ST.obtold 3 rfl (OB.box_eq (y := (x.fdiv y)) hf.1) ?_
          refine ST.obtold 2 rfl (OB.box_eq (y := (x.fmod y)) hf.2) ?_
          exact QE.done (.inl rfl) rfl (ResOk.c rfl (mem_at 3 rfl) ty31 (ResOk.c rfl (mem_at 2 rfl) ty31 ResOk.nil)) (OImp.sub (List.nil_sublist _)) ⟨rfl, rfl⟩
        · refine DO.w rfl ?_
          refine WP.t .n (O.stW (l := kC) (u := M - 1) 3 rfl rfl rfl ty31 rfl (VP.le_refl _)) ?_
          refine WP.nil ?_
          refine DO.nx ?_
          refine DA.go 1 [] (by kernel_rfl) ⟨?_, trivial⟩
          refine DO.w rfl ?_
          refine WP.s .n (O.ld rfl (mem_at 0 rfl) (Lens.id _) ty31 rfl) ?_
          refine WP.nil ?_
          refine DO.nx ?_
          refine DA.go 3 [] (by kernel_rfl) ⟨?_, trivial⟩
          refine DO.w rfl ?_
          refine WP.t .n (O.stW (l := kC) (u := R + y) 2 rfl rfl rfl ty31 rfl (VP.le_refl _)) ?_
          refine WP.nil ?_
          refine DO.nx ?_
          refine DA.nil (by kernel_rfl) ?_
          refine QE.next ?_
          refine CW.ret ?_
          have hf := floor_2 hx hl h5 (by first | assumption | omega)
          refine ST.obtold 3 rfl (OB.box_eq (y := (x.fdiv y)) hf.1) ?_
          refine ST.obtold 2 rfl (OB.box_eq (y := (x.fmod y)) hf.2) ?_
          exact QE.done (.inl rfl) rfl (ResOk.c rfl (mem_at 3 rfl) ty31 (ResOk.c rfl (mem_at 2 rfl) ty31 ResOk.nil)) (OImp.sub (List.nil_sublist _)) ⟨rfl, rfl⟩
      · refine DO.w rfl ?_
        refine WP.s .n (O.ld rfl (mem_at 0 rfl) (Lens.id _) ty31 rfl) ?_
        refine WP.nil ?_
        refine DO.nx ?_
        refine DA.go 0 [] (by kernel_rfl) ⟨?_, trivial⟩
        refine DO.w rfl ?_
        refine WP.s .n (O.ld rfl (mem_at 1 rfl) (Lens.id _) ty31 rfl) ?_
        refine WP.nil ?_
        refine DO.nx ?_
        refine DA.go 2 [] (by kernel_rfl) ⟨?_, trivial⟩
        refine DO.w rfl ?_
        refine WP.t .n (O.stW (l := kC) (u := M - 1) 3 rfl rfl rfl ty31 rfl (VP.le_refl _)) ?_
        refine WP.nil ?_
        refine DO.nx ?_
        refine DA.go 3 [] (by kernel_rfl) ⟨?_, trivial⟩
        refine DO.w rfl ?_
        refine WP.t .n (O.stW (l := kC) (u := R + y) 2 rfl rfl rfl ty31 rfl (VP.le_refl _)) ?_
        refine WP.nil ?_
        refine DO.nx ?_
        refine DA.nil (by kernel_rfl) ?_
        refine QE.next ?_
        refine CW.ret ?_
        have hf := floor_2 hx hl h5 (by first | assumption | omega)
        refine ST.obtold 3 rfl (OB.box_eq (y := (x.fdiv y)) hf.1) ?_
        refine ST.obtold 2 rfl (OB.box_eq (y := (x.fmod y)) hf.2) ?_
        exact QE.done (.inl rfl) rfl (ResOk.c rfl (mem_at 3 rfl) ty31 (ResOk.c rfl (mem_at 2 rfl) ty31 ResOk.nil)) (OImp.sub (List.nil_sublist _)) ⟨rfl, rfl⟩
    · refine CW.skip ?_
      refine QE.next ?_
      refine CW.seq ?_
      refine CW.any (by kernel_rfl) ?_
      refine DA.go 0 [1] (by kernel_rfl) ⟨?_, ⟨?_, trivial⟩⟩
      · refine DO.w rfl ?_
        refine WP.s .n (O.ld rfl (mem_at 1 rfl) (Lens.id _) ty31 rfl) ?_
        refine WP.nil ?_
        refine DO.nx ?_
        refine DA.go 1 [2] (by kernel_rfl) ⟨?_, ⟨?_, trivial⟩⟩
        · refine DO.w rfl ?_
          refine WP.s .n (O.ld rfl (mem_at 0 rfl) (Lens.id _) ty31 rfl) ?_
          refine WP.nil ?_
          refine DO.nx ?_
          refine DA.go 2 [] (by kernel_rfl) ⟨?_, trivial⟩
          refine DO.w rfl ?_
          refine WP.t .n (O.stW (l := kC) (u := M) 3 rfl rfl rfl ty31 rfl (VP.le_refl _)) ?_
          refine WP.nil ?_
          refine DO.nx ?_
          refine DA.go 3 [] (by kernel_rfl) ⟨?_, trivial⟩
          refine DO.w rfl ?_
          refine WP.t .n (O.stW (l := kC) (u := R) 2 rfl rfl rfl ty31 rfl (VP.le_refl _)) ?_
          refine WP.nil ?_
          refine DO.nx ?_
          refine DA.nil (by kernel_rfl) ?_
          refine QE.next ?_
          refine CW.ret ?_
          have hf := floor_1 hx hl h5 (by first | assumption | omega)
          refine ST.obtold 3 rfl (OB.box_eq (y := (x.fdiv y)) hf.1) ?_
          refine ST.obtold 2 rfl (OB.box_eq (y := (x.fmod y)) hf.2) ?_
          exact QE.done (.inl rfl) rfl (ResOk.c rfl (mem_at 3 rfl) ty31 (ResOk.c rfl (mem_at 2 rfl) ty31 ResOk.nil)) (OImp.sub (List.nil_sublist _)) ⟨rfl, rfl⟩
        · refine DO.w rfl ?_
          refine WP.t .n (O.stW (l := kC) (u := M) 3 rfl rfl rfl ty31 rfl (VP.le_refl _)) ?_
          refine WP.nil ?_
          refine DO.nx ?_
          refine DA.go 1 [] (by kernel_rfl) ⟨?_, trivial⟩
          refine DO.w rfl ?_
          refine WP.s .n (O.ld rfl (mem_at 0 rfl) (Lens.id _) ty31 rfl) ?_
          refine WP.nil ?_
          refine DO.nx ?_
          refine DA.go 3 [] (by kernel_rfl) ⟨?_, trivial⟩
          refine DO.w rfl ?_
          refine WP.t .n (O.stW (l := kC) (u := R) 2 rfl rfl rfl ty31 rfl (VP.le_refl _)) ?_
          refine WP.nil ?_
          refine DO.nx ?_
          refine DA.nil (by kernel_rfl) ?_
          refine QE.next ?_
          refine CW.ret ?_
          have hf := floor_1 hx hl h5 (by first | assumption | omega)
          refine ST.obtold 3 rfl (OB.box_eq (y := (x.fdiv y)) hf.1) ?_
          refine ST.obtold 2 rfl (OB.box_eq (y := (x.fmod y)) hf.2) ?_
          exact QE.done (.inl rfl) rfl (ResOk.c rfl (mem_at 3 rfl) ty31 (ResOk.c rfl (mem_at 2 rfl) ty31 ResOk.nil)) (OImp.sub (List.nil_sublist _)) ⟨rfl, rfl⟩
      · refine DO.w rfl ?_
        refine WP.s .n (O.ld rfl (mem_at 0 rfl) (Lens.id _) ty31 rfl) ?_
        refine WP.nil ?_
        refine DO.nx ?_
        refine DA.go 0 [] (by kernel_rfl) ⟨?_, trivial⟩
        refine DO.w rfl ?_
        refine WP.s .n (O.ld rfl (mem_at 1 rfl) (Lens.id _) ty31 rfl) ?_
        refine WP.nil ?_
        refine DO.nx ?_
        refine DA.go 2 [] (by kernel_rfl) ⟨?_, trivial⟩
        refine DO.w rfl ?_
        refine WP.t .n (O.stW (l := kC) (u := M) 3 rfl rfl rfl ty31 rfl (VP.le_refl _)) ?_
        refine WP.nil ?_
        refine DO.nx ?_
        refine DA.go 3 [] (by kernel_rfl) ⟨?_, trivial⟩
        refine DO.w rfl ?_
        refine WP.t .n (O.stW (l := kC) (u := R) 2 rfl rfl rfl ty31 rfl (VP.le_refl _)) ?_
        refine WP.nil ?_
        refine DO.nx ?_
        refine DA.nil (by kernel_rfl) ?_
        refine QE.next ?_
        refine CW.ret ?_
        have hf := floor_1 hx hl h5 (by first | assumption | omega)
        refine ST.obtold 3 rfl (OB.box_eq (y := (x.fdiv y)) hf.1) ?_
        refine ST.obtold 2 rfl (OB.box_eq (y := (x.fmod y)) hf.2) ?_
        exact QE.done (.inl rfl) rfl (ResOk.c rfl (mem_at 3 rfl) ty31 (ResOk.c rfl (mem_at 2 rfl) ty31 ResOk.nil)) (OImp.sub (List.nil_sublist _)) ⟨rfl, rfl⟩
  · refine CW.draw (Γ := [.fr (kC.is R), .fr ((kInt .i64).is R.sign), .fr (kBool.is false), .fr (kBool.is false), .fr (VP.ex undef), .fr (VP.ex undef), .fr (VP.ex undef), .fr (VP.ex undef), .fr (VP.ex undef), .fr (kBool.is false)]) (lates := [false, false, false, false, false, false, false, false, false, false]) (by kernel_rfl) (Chk.of rfl (by kernel_rfl) rfl) (fun _ _ _ _ _ h => h) (fun q_ x_ h_ => ?_) (fun σ => ?_)
    · match q_, h_ with
      | 0, h_ => cases h_; exact Ob.f rfl .n fun N => (O.ld rfl (mem_app N (mem_at 0 rfl)) (Lens.id _) ty31 rfl)
      | 1, h_ => cases h_; exact Ob.f rfl .n fun N => (O.fn fn83 (evs.l rfl (kC_Z (by assumption)) evs.nil) (c_ref02_Sign R))
      | 2, h_ => cases h_; exact Ob.f rfl .n fun N => (OpOk.le (O.ne rfl rfl) (is_eq (by simp at h5; simp [h5])))
      | 3, h_ => cases h_; exact Ob.f rfl .n fun N => (O.mv rfl)
      | 4, h_ => cases h_; exact Ob.ku (b := false) rfl rfl rfl
      | 5, h_ => cases h_; exact Ob.ku (b := false) rfl rfl rfl
      | 6, h_ => cases h_; exact Ob.ku (b := false) rfl rfl rfl
      | 7, h_ => cases h_; exact Ob.ku (b := false) rfl rfl rfl
      | 8, h_ => cases h_; exact Ob.ku (b := false) rfl rfl rfl
      | 9, h_ => cases h_; exact Ob.f rfl .n fun N => (O.pickF rfl rfl)
      | n_ + 10, h_ => simp at h_
    refine WP.nil ?_
    refine QE.next ?_
    refine CW.condF rfl ?_
    refine CW.skip ?_
    refine QE.next ?_
    refine CW.seq ?_
    refine CW.any (by kernel_rfl) ?_
    refine DA.go 0 [1] (by kernel_rfl) ⟨?_, ⟨?_, trivial⟩⟩
    · refine DO.w rfl ?_
      refine WP.s .n (O.ld rfl (mem_at 1 rfl) (Lens.id _) ty31 rfl) ?_
      refine WP.nil ?_
      refine DO.nx ?_
      refine DA.go 1 [2] (by kernel_rfl) ⟨?_, ⟨?_, trivial⟩⟩
      · refine DO.w rfl ?_
        refine WP.s .n (O.ld rfl (mem_at 0 rfl) (Lens.id _) ty31 rfl) ?_
        refine WP.nil ?_
        refine DO.nx ?_
        refine DA.go 2 [] (by kernel_rfl) ⟨?_, trivial⟩
        refine DO.w rfl ?_
        refine WP.t .n (O.stW (l := kC) (u := M) 3 rfl rfl rfl ty31 rfl (VP.le_refl _)) ?_
        refine WP.nil ?_
        refine DO.nx ?_
        refine DA.go 3 [] (by kernel_rfl) ⟨?_, trivial⟩
        refine DO.w rfl ?_
        refine WP.t .n (O.stW (l := kC) (u := R) 2 rfl rfl rfl ty31 rfl (VP.le_refl _)) ?_
        refine WP.nil ?_
        refine DO.nx ?_
        refine DA.nil (by kernel_rfl) ?_
        refine QE.next ?_
        refine CW.ret ?_
        have hf := floor_0 hx hl h5
        refine ST.obtold 3 rfl (OB.box_eq (y := (x.fdiv y)) hf.1) ?_
        refine ST.obtold 2 rfl (OB.box_eq (y := (x.fmod y)) hf.2) ?_
        exact QE.done (.inl rfl) rfl (ResOk.c rfl (mem_at 3 rfl) ty31 (ResOk.c rfl (mem_at 2 rfl) ty31 ResOk.nil)) (OImp.sub (List.nil_sublist _)) ⟨rfl, rfl⟩
      · refine DO.w rfl ?_
        refine WP.t .n (O.stW (l := kC) (u := M) 3 rfl rfl rfl ty31 rfl (VP.le_refl _)) ?_
        refine WP.nil ?_
        refine DO.nx ?_
        refine DA.go 1 [] (by kernel_rfl) ⟨?_, trivial⟩
        refine DO.w rfl ?_
        refine WP.s .n (O.ld rfl (mem_at 0 rfl) (Lens.id _) ty31 rfl) ?_
        refine WP.nil ?_
        refine DO.nx ?_
        refine DA.go 3 [] (by kernel_rfl) ⟨?_, trivial⟩
        refine DO.w rfl ?_
        refine WP.t .n (O.stW (l := kC) (u := R) 2 rfl rfl rfl ty31 rfl (VP.le_refl _)) ?_
        refine WP.nil ?_
        refine DO.nx ?_
        refine DA.nil (by kernel_rfl) ?_
        refine QE.next ?_
        refine CW.ret ?_
        have hf := floor_0 hx hl h5
        refine ST.obtold 3 rfl (OB.box_eq (y := (x.fdiv y)) hf.1) ?_
        refine ST.obtold 2 rfl (OB.box_eq (y := (x.fmod y)) hf.2) ?_
        exact QE.done (.inl rfl) rfl (ResOk.c rfl (mem_at 3 rfl) ty31 (ResOk.c rfl (mem_at 2 rfl) ty31 ResOk.nil)) (OImp.sub (List.nil_sublist _)) ⟨rfl, rfl⟩
    · refine DO.w rfl ?_
      refine WP.s .n (O.ld rfl (mem_at 0 rfl) (Lens.id _) ty31 rfl) ?_
      refine WP.nil ?_
      refine DO.nx ?_
      refine DA.go 0 [] (by kernel_rfl) ⟨?_, trivial⟩
      refine DO.w rfl ?_
      refine WP.s .n (O.ld rfl (mem_at 1 rfl) (Lens.id _) ty31 rfl) ?_
      refine WP.nil ?_
      refine DO.nx ?_
      refine DA.go 2 [] (by kernel_rfl) ⟨?_, trivial⟩
      refine DO.w rfl ?_
      refine WP.t .n (O.stW (l := kC) (u := M) 3 rfl rfl rfl ty31 rfl (VP.le_refl _)) ?_
      refine WP.nil ?_
      refine DO.nx ?_
      refine DA.go 3 [] (by kernel_rfl) ⟨?_, trivial⟩
      refine DO.w rfl ?_
      refine WP.t .n (O.stW (l := kC) (u := R) 2 rfl rfl rfl ty31 rfl (VP.le_refl _)) ?_
      refine WP.nil ?_
      refine DO.nx ?_
      refine DA.nil (by kernel_rfl) ?_
      refine QE.next ?_
      refine CW.ret ?_
      have hf := floor_0 hx hl h5
      refine ST.obtold 3 rfl (OB.box_eq (y := (x.fdiv y)) hf.1) ?_
      refine ST.obtold 2 rfl (OB.box_eq (y := (x.fmod y)) hf.2) ?_
      exact QE.done (.inl rfl) rfl (ResOk.c rfl (mem_at 3 rfl) ty31 (ResOk.c rfl (mem_at 2 rfl) ty31 ResOk.nil)) (OImp.sub (List.nil_sublist _)) ⟨rfl, rfl⟩

end Fw


/- Bits, density and the rows of a sum; the statement KnapWeights. -/
set_option linter.unusedVariables false
set_option linter.unusedSimpArgs false
set_option exponentiation.threshold 400
namespace Fw
open Go Go.Proofs

set_option maxRecDepth 20000 in
set_option maxHeartbeats 1000000 in
theorem c_law24_eqs (x y : List Int) : Fn Try.prog 47 [(kSl kC).is x, (kSl kC).is y] (kBool.is (decide (x = y))) := by
  refine Con.enter Try.func47 rfl rfl fun m w => ?_
  refine ST.fact (i := 0) rfl sl_len fun hB => ?_
  refine CW.seq ?_
  refine CW.region ?_
  refine WP.s .n (O.asg rfl) ?_
  refine WP.nil ?_
  refine QE.next ?_
  refine CW.seq ?_
  refine CW.seq ?_
  refine CW.region ?_
  refine WP.s .n (O.mv rfl) ?_
  refine WP.s .n (O.lenS rfl Try.underlying27) ?_
  refine WP.s .n (O.mv rfl) ?_
  refine WP.s .n (O.lenS rfl Try.underlying27) ?_
  refine WP.s .n (O.ne rfl rfl) ?_
  refine WP.nil ?_
  refine QE.next ?_
  refine CW.condD rfl (fun h_t10 => ?_) (fun h_t10 => ?_)
  · refine CW.seq ?_
    refine CW.region ?_
    refine WP.s .n (O.asg rfl) ?_
    refine WP.nil ?_
    refine QE.next ?_
    refine CW.ret ?_
    refine QE.thenR ?_
    refine ST.told 4 rfl (is_eq (y := (decide (x = y))) (by rw [eq_comm, decide_eq_false_iff_not]; intro e; exact h_t10 (by rw [e]))) ?_
    exact QE.done (.inl rfl) rfl (ResOk.t rfl ResOk.nil) (OImp.sub (List.nil_sublist _)) ⟨rfl, rfl⟩
  · refine CW.skip ?_
    refine QE.next ?_
    refine CW.seq ?_
    refine CW.seq ?_
    refine CW.region ?_
    refine WP.s .n (O.asg rfl) ?_
    refine WP.nil ?_
    refine QE.next ?_
    refine CW.block ?_
    refine CW.loop (fun (i : Nat) => i ≤ x.length ∧ x.take i = y.take i) (fun (i : Nat) => [(0, (kSl kC).is x), (1, (kSl kC).is y), (5, (kInt .i64).is (i : Int))]) (fun (i : Nat) => []) (fun (i : Nat) => x.length - i) 0 ⟨Nat.zero_le _, rfl⟩ (Imp.cons rfl (Imp.cons rfl (Imp.consLe rfl (is_eq (y := (0 : Int)) (by omega)) Imp.nil))) (OImp.refl _) ?_
    intro i ⟨hi, ht⟩
    refine CW.seq ?_
    refine CW.seq ?_
    refine CW.region ?_
    refine WP.s .n (O.mv rfl) ?_
    refine WP.s .n (O.mv rfl) ?_
    refine WP.s .n (O.lenS rfl Try.underlying27) ?_
    refine WP.s .n (O.lt rfl rfl) ?_
    refine WP.nil ?_
    refine QE.next ?_
    refine CW.condD rfl (fun h_t14 => ?_) (fun h_t14 => ?_)
    · refine CW.skip ?_
      refine QE.next ?_
      refine CW.seq ?_
      refine CW.block ?_
      refine CW.seq ?_
      refine CW.draw (Γ := [.fr ((kSl kC).is x), .fr ((kInt .i64).is (i : Int)), .fr (VP.pim kC (x.getD i 0)), .fr (kC.is (x.getD i 0)), .fr ((kSl kC).is y), .fr ((kInt .i64).is (i : Int)), .fr (VP.pim kC (y.getD i 0)), .fr (kC.is (y.getD i 0)), .fr (kBool.is (decide ((canon (x.getD i 0)) = (canon (y.getD i 0))))), .fr (kBool.is (!(decide ((canon (x.getD i 0)) = (canon (y.getD i 0))))))]) (lates := [false, false, false, false, false, false, false, false, false, false]) (by kernel_rfl) (Chk.of rfl (by kernel_rfl) rfl) (fun _ _ _ _ _ h => h) (fun q_ x_ h_ => ?_) (fun σ => ?_)
      · match q_, h_ with
        | 0, h_ => cases h_; exact Ob.f rfl .n fun N => (O.mv rfl)
        | 1, h_ => cases h_; exact Ob.f rfl .n fun N => (O.mv rfl)
        | 2, h_ => cases h_; exact Ob.f rfl .n fun N => (O.ix i rfl rfl Try.underlying27 ty31 rfl (v := (x.getD i 0)) (gd 0 (by omega)))
        | 3, h_ => cases h_; exact Ob.f rfl .n fun N => (O.ldP rfl ty31)
        | 4, h_ => cases h_; exact Ob.f rfl .n fun N => (O.mv rfl)
        | 5, h_ => cases h_; exact Ob.f rfl .n fun N => (O.mv rfl)
        | 6, h_ => cases h_; exact Ob.f rfl .n fun N => (O.ix i rfl rfl Try.underlying27 ty31 rfl (v := (y.getD i 0)) (gd 0 (by omega)))
        | 7, h_ => cases h_; exact Ob.f rfl .n fun N => (O.ldP rfl ty31)
        | 8, h_ => cases h_; exact Ob.f rfl .n fun N => (O.fn fn18 (evs.l rfl (kC_I _) (evs.l rfl (kC_I _) evs.nil)) (c_law24_eq (canon (x.getD i 0)) (canon (y.getD i 0))))
        | 9, h_ => cases h_; exact Ob.f rfl .n fun N => (O.not rfl)
        | n_ + 10, h_ => simp at h_
      refine WP.nil ?_
      refine QE.next ?_
      refine CW.cond rfl (fun h_t26 => ?_) (fun h_t26 => ?_)
      · refine CW.seq ?_
        refine CW.region ?_
        refine WP.s .n (O.asg rfl) ?_
        refine WP.nil ?_
        refine QE.next ?_
        refine CW.ret ?_
        refine QE.blkR ?_
        refine QE.thenR ?_
        refine QE.thenR ?_
        refine QE.blkR ?_
        refine QE.thenR ?_
        refine ST.told 4 rfl (is_eq (y := (decide (x = y))) (by rw [eq_comm, decide_eq_false_iff_not]; intro e; exact canon_ned h_t26 (by rw [e]))) ?_
        exact QE.done (.inl rfl) rfl (ResOk.t rfl ResOk.nil) (OImp.sub (List.nil_sublist _)) ⟨rfl, rfl⟩
      · refine CW.skip ?_
        refine QE.blkN ?_
        refine QE.next ?_
        refine CW.region ?_
        refine WP.s .n (O.mv rfl) ?_
        refine WP.s .n (O.add rfl rfl (c := ((i : Int) + 1)) (w64 (by omega))) ?_
        refine WP.s .n (O.asg rfl) ?_
        refine WP.nil ?_
        exact QE.round (i + 1) (by omega) ⟨by omega, eq_take (d := 0) (by omega) (by omega) ht (canon_eqd h_t26)⟩ (Imp.cons rfl (Imp.cons rfl (Imp.consLe rfl (is_eq (y := (((i + 1) : Nat) : Int)) (by omega)) Imp.nil))) (OImp.refl _)
    · refine CW.exit ?_
      refine QE.thenE ?_
      refine QE.thenE ?_
      refine QE.blkH ?_
      refine QE.next ?_
      refine CW.seq ?_
      refine CW.region ?_
      refine WP.s .n (O.asg rfl) ?_
      refine WP.nil ?_
      refine QE.next ?_
      refine CW.ret ?_
      refine ST.told 4 rfl (is_eq (y := (decide (x = y))) (by rw [eq_comm, decide_eq_true_iff]; exact eq_full (i := i) (by omega) (by omega) ht)) ?_
      exact QE.done (.inl rfl) rfl (ResOk.t rfl ResOk.nil) (OImp.sub (List.nil_sublist _)) ⟨rfl, rfl⟩

end Fw


/- Plain facts: Euclid's steps with cofactors, keys, public weights, what a key opens. -/
set_option linter.unusedVariables false
set_option linter.unusedSimpArgs false
set_option exponentiation.threshold 400
namespace Fw
open Go

/-! ### Sizes by bits -/
def Sq (z : Int) : Prop := ∃ n, n ≤ 33554432 ∧ Sz n z
theorem Sq_bd {a b z : Int} (ha : Sq a) (hb : Sq b) (h : z.natAbs ≤ 4 * ((a.natAbs + b.natAbs + 4) * (a.natAbs + b.natAbs + 4))) : Sm z := by
  obtain ⟨n, hn, h1⟩ := ha
  obtain ⟨m, hm, h2⟩ := hb
  refine Sm_of (n := 2 * (n + m + 3) + 2) ?_ (by omega)
  unfold Sz at h1 h2
  have h3 : 2 ^ n ≤ 2 ^ (n + m) := Nat.pow_le_pow_right (by decide) (by omega)
  have h4 : 2 ^ m ≤ 2 ^ (n + m) := Nat.pow_le_pow_right (by decide) (by omega)
  have h5 : 0 < 2 ^ (n + m) := Nat.two_pow_pos _
  have h6 : a.natAbs + b.natAbs + 4 < 2 ^ (n + m + 3) := by rw [Nat.pow_add]; omega
  have h7 : (a.natAbs + b.natAbs + 4) * (a.natAbs + b.natAbs + 4) < 2 ^ (n + m + 3) * 2 ^ (n + m + 3) := Nat.mul_lt_mul'' h6 h6
  rw [Nat.pow_add, Nat.mul_comm 2 (n + m + 3), Nat.mul_two, Nat.pow_add]
  exact Nat.lt_of_le_of_lt h (by omega)
theorem Sq_lin {a b z : Int} (ha : Sq a) (hb : Sq b) (h : z.natAbs ≤ 4 * (a.natAbs + b.natAbs + 4)) : Sm z :=
  Sq_bd ha hb (Nat.le_trans h (Nat.mul_le_mul_left 4 (Nat.le_mul_of_pos_right _ (by omega))))
theorem Sq_mul {a b x y : Int} (ha : Sq a) (hb : Sq b) (hx : x.natAbs ≤ a.natAbs + b.natAbs + 4) (hy : y.natAbs ≤ a.natAbs + b.natAbs + 4) : Sm (x * y) := by
  refine Sq_bd ha hb ?_
  rw [Int.natAbs_mul]
  exact Nat.le_trans (Nat.mul_le_mul hx hy) (Nat.le_mul_of_pos_left _ (by decide))
theorem Sq_submul {a b x y z : Int} (ha : Sq a) (hb : Sq b) (hz : z.natAbs ≤ a.natAbs + b.natAbs + 4) (hx : x.natAbs ≤ a.natAbs + b.natAbs + 4) (hy : y.natAbs ≤ a.natAbs + b.natAbs + 4) : Sm (z - x * y) := by
  refine Sq_bd ha hb ?_
  have h1 := Int.natAbs_sub_le z (x * y)
  rw [Int.natAbs_mul] at h1
  have h2 := Nat.mul_le_mul hx hy
  have h3 : a.natAbs + b.natAbs + 4 ≤ (a.natAbs + b.natAbs + 4) * (a.natAbs + b.natAbs + 4) := Nat.le_mul_of_pos_right _ (by omega)
  omega

/-! ### Euclid -/
def bz (r s x u : Int) : Int × Int := if h : s = 0 then (r, x) else bz s (r.fmod s) u (x - r.fdiv s * u)
termination_by s.natAbs
decreasing_by exact fmod_abs h
theorem bz_0 (r x u : Int) : bz r 0 x u = (r, x) := by rw [bz, dif_pos rfl]
theorem bz_s {r s x u : Int} (h : s ≠ 0) : bz s (r.fmod s) u (x - r.fdiv s * u) = bz r s x u := by rw [bz.eq_1 r s x u, dif_neg h]
/-- What holds of the steps' numbers. -/
def BzR (a b r s x u : Int) : Prop := bz r s x u = bz a b 1 0 ∧ Int.gcd r s = Int.gcd a b ∧ 0 ≤ r ∧ 0 ≤ s ∧ s ≤ b ∧ (r ≤ a ∨ r ≤ b) ∧ x.natAbs ≤ b.natAbs + 1 ∧ u.natAbs ≤ b.natAbs ∧
  x.natAbs * s.natAbs + u.natAbs * r.natAbs = b.natAbs ∧ ((0 ≤ x ∧ u ≤ 0) ∨ (x ≤ 0 ∧ 0 ≤ u))
theorem bzR_0 {a b : Int} (ha : 0 ≤ a) (hb : 0 < b) : BzR a b a b 1 0 := ⟨rfl, rfl, ha, by omega, by omega, .inl (by omega), by omega, by omega, by simp, .inl (by omega)⟩
theorem fdiv_nn {r s : Int} (hr : 0 ≤ r) (hs : 0 < s) : 0 ≤ r.fdiv s ∧ 0 ≤ r.fmod s ∧ r.fmod s < s ∧ r = r.fdiv s * s + r.fmod s := by
  have h1 := Int.fmod_nonneg_of_pos r hs
  have h2 := Int.fmod_lt_of_pos r hs
  have h3 := Int.mul_fdiv_add_fmod r s
  refine ⟨?_, h1, h2, by rw [Int.mul_comm]; omega⟩
  rw [Int.fdiv_eq_ediv_of_nonneg _ (by omega)]
  exact Int.ediv_nonneg hr (by omega)
theorem gcd_fmod (r s : Int) : Int.gcd s (r.fmod s) = Int.gcd r s := by
  have h : r.fmod s = r + s * (-(r.fdiv s)) := by rw [Int.fmod_def, Int.mul_neg]; omega
  rw [h, Int.gcd_comm r s, Int.gcd_add_mul_left_right]
theorem bzR_s {a b r s x u : Int} (hs : s ≠ 0) (h : BzR a b r s x u) : BzR a b s (r.fmod s) u (x - r.fdiv s * u) ∧ (x - r.fdiv s * u).natAbs = x.natAbs + (r.fdiv s).natAbs * u.natAbs := by
  obtain ⟨h1, h2, h3, h4, h5, h6, h7, h8, h9, h10⟩ := h
  obtain ⟨q0, m0, m1, e⟩ := fdiv_nn h3 (show 0 < s by omega)
  have hq : (x - r.fdiv s * u).natAbs = x.natAbs + (r.fdiv s).natAbs * u.natAbs := by
    rw [← Int.natAbs_mul]
    rcases h10 with ⟨p1, p2⟩ | ⟨p1, p2⟩
    · have : r.fdiv s * u ≤ 0 := Int.mul_nonpos_of_nonneg_of_nonpos q0 p2
      omega
    · have : 0 ≤ r.fdiv s * u := Int.mul_nonneg q0 p2
      omega
  have hr : r.natAbs = (r.fdiv s).natAbs * s.natAbs + (r.fmod s).natAbs := by
    have h11 : ((r.fdiv s).natAbs : Int) = r.fdiv s := by omega
    have h12 : (s.natAbs : Int) = s := by omega
    have h13 : ((r.fmod s).natAbs : Int) = r.fmod s := by omega
    have : (r.natAbs : Int) = ((r.fdiv s).natAbs * s.natAbs + (r.fmod s).natAbs : Nat) := by
      rw [Int.natCast_add, Int.natCast_mul, h11, h12, h13]; omega
    exact_mod_cast this
  have hsum : u.natAbs * (r.fmod s).natAbs + (x - r.fdiv s * u).natAbs * s.natAbs = b.natAbs := by
    rw [hq, ← h9, hr, Nat.add_mul, Nat.mul_add]
    have : u.natAbs * ((r.fdiv s).natAbs * s.natAbs) = (r.fdiv s).natAbs * u.natAbs * s.natAbs := by
      rw [← Nat.mul_assoc, Nat.mul_comm u.natAbs]
    omega
  refine ⟨⟨(bz_s hs).trans h1, (gcd_fmod r s).trans h2, by omega, m0, by omega, .inr h5, by omega, ?_, hsum, ?_⟩, hq⟩
  · have h14 : (x - r.fdiv s * u).natAbs ≤ (x - r.fdiv s * u).natAbs * s.natAbs := Nat.le_mul_of_pos_right _ (by omega)
    omega
  · rcases h10 with ⟨p1, p2⟩ | ⟨p1, p2⟩
    · right
      have : r.fdiv s * u ≤ 0 := Int.mul_nonpos_of_nonneg_of_nonpos q0 p2
      exact ⟨p2, by omega⟩
    · left
      have : 0 ≤ r.fdiv s * u := Int.mul_nonneg q0 p2
      exact ⟨p2, by omega⟩
theorem bzR_end {a b r s x u : Int} (hs : s = 0) (h : BzR a b r s x u) : r = (Int.gcd a b : Int) ∧ (bz a b 1 0).2 = x := by
  obtain ⟨h1, h2, h3, _⟩ := h
  subst hs
  rw [bz_0] at h1
  refine ⟨?_, by rw [← h1]⟩
  rw [← h2, Int.gcd_zero]
  omega
def bezX (a b : Int) : Int := ((bz a b 1 0).2).fmod (b.fdiv (Int.gcd a b))
def bezY (a b : Int) : Int := ((Int.gcd a b : Int) - bezX a b * a).fdiv b
theorem gcd_pos {a b : Int} (hb : 0 < b) : 0 < ((Int.gcd a b : Nat) : Int) ∧ ((Int.gcd a b : Nat) : Int) ≤ b := by
  have h1 := gcd_ne (n := a) (d := b) (by omega)
  have h2 := gcd_le_abs (n := a) (d := b) (by omega)
  omega
theorem step_pos {a b : Int} (hb : 0 < b) : 0 < b.fdiv (Int.gcd a b) ∧ b.fdiv (Int.gcd a b) ≤ b := by
  obtain ⟨h1, h2⟩ := gcd_pos (a := a) hb
  rw [Int.fdiv_eq_ediv_of_nonneg _ (by omega)]
  exact ⟨Int.ediv_pos_of_pos_of_dvd hb (by omega) (Int.gcd_dvd_right ..), Int.ediv_le_self _ (by omega)⟩
theorem bezX_rng {a b : Int} (hb : 0 < b) : 0 ≤ bezX a b ∧ bezX a b < b := by
  obtain ⟨h1, h2⟩ := step_pos (a := a) hb
  have h3 := Int.fmod_nonneg_of_pos (bz a b 1 0).2 h1
  have h4 := Int.fmod_lt_of_pos (bz a b 1 0).2 h1
  unfold bezX
  omega
theorem sgn_ne0 {b : Int} (h : 0 < b) : ¬ b.sign = 0 := by rw [Int.sign_eq_one_of_pos h]; decide
theorem nn_sgn {r : Int} (h : 0 ≤ r) : ¬ r.sign < 0 := fun h1 => by have := sgn_lt0 h1; omega
theorem sgn_n0 {s : Int} (h : ¬ s.sign ≠ 0) : s = 0 := Int.sign_eq_zero_iff_zero.1 (by omega)
theorem sgn_s0 {s : Int} (h : s.sign ≠ 0) : s ≠ 0 := fun h1 => h (by rw [h1]; rfl)
theorem bz_sm {a b r s x u : Int} (ha : Sq a) (hb : Sq b) (h : BzR a b r s x u) : Sm r ∧ Sm s ∧ Sm x ∧ Sm u := by
  obtain ⟨_, _, z3, z4, z5, z6, z7, z8, _, _⟩ := h
  exact ⟨Sq_lin ha hb (by omega), Sq_lin ha hb (by omega), Sq_lin ha hb (by omega), Sq_lin ha hb (by omega)⟩
theorem bz_smq {a b r s x u : Int} (ha : Sq a) (hb : Sq b) (hs : s ≠ 0) (h : BzR a b r s x u) : Sm (r.fdiv s) ∧ Sm (r.fmod s) ∧ Sm (r.fdiv s * u) := by
  have hm := bz_sm ha hb h
  obtain ⟨_, _, z3, z4, z5, z6, z7, z8, _, _⟩ := h
  have hdr : (r.fdiv s).natAbs ≤ r.natAbs := by rw [Int.fdiv_eq_ediv_of_nonneg _ z4]; exact Int.natAbs_ediv_le_natAbs _ _
  exact ⟨Sq_lin ha hb (by omega), fmod_sm hm.2.1 hs, Sq_mul ha hb (by omega) (by omega)⟩
theorem bz_sme {a b : Int} (ha0 : 0 ≤ a) (hb0 : 0 < b) (ha : Sq a) (hb : Sq b) : Sm ((Int.gcd a b : Nat) : Int) ∧ Sm (b.fdiv (Int.gcd a b)) ∧ Sm (bezX a b) ∧ Sm (bezX a b * a) ∧ Sm (((Int.gcd a b : Nat) : Int) - bezX a b * a) ∧ Sm (b.natAbs : Int) := by
  have hgp := gcd_pos (a := a) hb0
  have hst := step_pos (a := a) hb0
  have hbx := bezX_rng (a := a) hb0
  exact ⟨Sq_lin ha hb (by omega), Sq_lin ha hb (by omega), Sq_lin ha hb (by omega), Sq_mul ha hb (by omega) (by omega), Sq_submul ha hb (by omega) (by omega) (by omega), Sq_lin ha hb (by omega)⟩
theorem abs_pos {b : Int} (h : 0 < b) : (b.natAbs : Int) = b := by omega

/-! ### Keys -/
def cGood (xs : List Int) (M R : Int) : Prop := climb xs = true ∧ xs.sum < M ∧ 1 ≤ R ∧ R < M ∧ ((Int.gcd R M : Nat) : Int) = 1
instance (xs : List Int) (M R : Int) : Decidable (cGood xs M R) := by unfold cGood; infer_instance
def cErr (xs : List Int) (M R : Int) : Int := if wErr xs ≠ 0 then wErr xs else if cGood xs M R then 0 else 241
theorem cErr_1 {xs : List Int} {M R : Int} (h : wErr xs ≠ 0) : cErr xs M R = wErr xs := by unfold cErr; rw [if_pos h]
theorem cErr_2 {xs : List Int} {M R : Int} (h : ¬ wErr xs ≠ 0) (h2 : ¬ cGood xs M R) : cErr xs M R = 241 := by unfold cErr; rw [if_neg h, if_neg h2]
theorem cErr_3 {xs : List Int} {M R : Int} (h : ¬ wErr xs ≠ 0) (h2 : cGood xs M R) : cErr xs M R = 0 := by unfold cErr; rw [if_neg h, if_pos h2]
theorem cErr_ok {xs : List Int} {M R : Int} (h : ¬ cErr xs M R ≠ 0) : ¬ wErr xs ≠ 0 ∧ cGood xs M R := by
  unfold cErr at h
  split at h
  · rename_i h1; exact absurd h1 h
  · rename_i h1
    split at h
    · rename_i h2; exact ⟨h1, h2⟩
    · omega
theorem wOk_total {xs : List Int} (h : wOk xs = true) : 0 ≤ xs.sum ∧ xs.sum ≤ 10 * 2 ^ 200 := by
  have h1 := wOk_sum h xs.length (Nat.le_refl _)
  have h2 := wOk_len h
  rw [List.take_length] at h1
  have : (xs.length : Int) * 2 ^ 200 ≤ 10 * 2 ^ 200 := Int.mul_le_mul_of_nonneg_right (by omega) (by decide)
  exact ⟨h1.1, Int.le_trans h1.2 this⟩
theorem wOk_SmT {xs : List Int} (h : wOk xs = true) : Sm xs.sum := by
  have := wOk_total h
  exact Sm_small this.1 (Int.le_trans this.2 (by decide))
theorem wOk_hS {xs : List Int} (h : wOk xs = true) : ∀ i, i ≤ xs.length → Sm ((xs.take i).sum) := fun i hi => wOk_Sm h hi
theorem Sq_sub_tot {xs : List Int} {M : Int} (h : wOk xs = true) (hM : Sq M) : Sm (M - xs.sum) := by
  obtain ⟨n, hn, h1⟩ := hM
  have h2 := wOk_total h
  have h3 : Sz 300 xs.sum := by
    unfold Sz
    have : xs.sum.natAbs ≤ 10 * 2 ^ 200 := by omega
    exact Nat.lt_of_le_of_lt this (by decide)
  exact (h1.sub h3).sm (by omega)
theorem Sq_mul_w {xs : List Int} {R : Int} (h : wOk xs = true) (hR : Sq R) {i : Nat} (hi : i < xs.length) : Sm (R * xs.getD i 0) := by
  obtain ⟨n, hn, h1⟩ := hR
  have h2 := wOk_get h hi
  have h3 : Sz 200 (xs.getD i 0) := by unfold Sz; omega
  exact (h1.mul h3).sm (by omega)
theorem sg_le {a b : Int} (h : a ≤ b) : (a - b).sign ≤ 0 := by
  rcases Int.lt_trichotomy (a - b) 0 with h1 | h1 | h1
  · rw [Int.sign_eq_neg_one_of_neg h1]; decide
  · rw [h1]; decide
  · omega
theorem sg_nle {a b : Int} (h : b < a) : ¬ (a - b).sign ≤ 0 := by rw [Int.sign_eq_one_of_pos (by omega)]; decide
theorem sg_lt {a b : Int} (h : a < b) : (a - b).sign < 0 := by rw [Int.sign_eq_neg_one_of_neg (by omega)]; decide
theorem sg_nlt {a b : Int} (h : b ≤ a) : ¬ (a - b).sign < 0 := by
  rcases Int.lt_trichotomy (a - b) 0 with h1 | h1 | h1
  · omega
  · rw [h1]; decide
  · rw [Int.sign_eq_one_of_pos h1]; decide
theorem sg_ge {a b : Int} (h : b ≤ a) : 0 ≤ (a - b).sign := by have := sg_nlt h; omega
theorem sg_nge {a b : Int} (h : a < b) : ¬ 0 ≤ (a - b).sign := by have := sg_lt h; omega
theorem sg_ne {a b : Int} (h : ¬ a = b) : (a - b).sign ≠ 0 := fun h1 => h (by have := Int.sign_eq_zero_iff_zero.1 h1; omega)
theorem sg_nne {a b : Int} (h : a = b) : ¬ (a - b).sign ≠ 0 := by subst h; simp

/-! ### Public weights -/
def pkN (xs : List Int) (M R : Int) (i : Nat) : List Int := (xs.take i).map fun w => (R * w).fmod M
def pkL (xs : List Int) (M R : Int) : List Int := xs.map fun w => (R * w).fmod M
theorem pkN_s {xs : List Int} {M R : Int} {i : Nat} (hi : i < xs.length) : pkN xs M R i ++ [(R * xs.getD i 0).fmod M] = pkN xs M R (i + 1) := by
  unfold pkN; rw [← take_app (d := 0) hi, List.map_append]; rfl
theorem pkN_end {xs : List Int} {M R : Int} {i : Nat} (hi : xs.length ≤ i) : pkN xs M R i = pkL xs M R := by unfold pkN pkL; rw [List.take_of_length_le hi]
theorem pkN_len {xs : List Int} {M R : Int} {i : Nat} (hi : i ≤ xs.length) : (pkN xs M R i).length = i := by simp [pkN]; omega
theorem pkL_Sm {xs : List Int} {M R : Int} (hM : 0 < M) (h : Sm M) : ∀ x ∈ pkL xs M R, Sm x := fun x hx => by
  obtain ⟨w, _, rfl⟩ := List.mem_map.1 hx
  exact fmod_sm h (by omega)
def pkV (xs : List Int) (M R : Int) : List Int × Int := if cErr xs M R ≠ 0 then ([], cErr xs M R) else if wErr (pkL xs M R) ≠ 0 then ([], 240) else (pkL xs M R, 0)
theorem pk_1 {xs : List Int} {M R : Int} (h : cErr xs M R ≠ 0) : pkV xs M R = ([], cErr xs M R) := by unfold pkV; rw [if_pos h]
theorem pk_2 {xs : List Int} {M R : Int} (h : ¬ cErr xs M R ≠ 0) (h2 : wErr (pkL xs M R) ≠ 0) : pkV xs M R = ([], 240) := by unfold pkV; rw [if_neg h, if_pos h2]
theorem pk_3 {xs : List Int} {M R : Int} (h : ¬ cErr xs M R ≠ 0) (h2 : ¬ wErr (pkL xs M R) ≠ 0) : pkV xs M R = (pkL xs M R, 0) := by unfold pkV; rw [if_neg h, if_neg h2]
theorem wErr_240 {xs : List Int} (h : wErr xs ≠ 0) : wErr xs = 240 := by
  unfold wErr at *
  split
  · rename_i h1; rw [if_pos h1] at h; exact absurd rfl h
  · rfl

/-! ### What a key opens -/
def opT (M R s : Int) : Int := (s * bezX R M).fmod M
def opV (xs : List Int) (M R s : Int) : List Int × Int := if cErr xs M R ≠ 0 then ([], cErr xs M R) else if s < 0 then ([], 1) else if (grV xs (opT M R s)).2 = 0 then ((grV xs (opT M R s)).1.take xs.length, 0) else ([], 6)
theorem op_1 {xs : List Int} {M R s : Int} (h : cErr xs M R ≠ 0) : opV xs M R s = ([], cErr xs M R) := by unfold opV; rw [if_pos h]
theorem op_2 {xs : List Int} {M R s : Int} (h : ¬ cErr xs M R ≠ 0) (h2 : s < 0) : opV xs M R s = ([], 1) := by unfold opV; rw [if_neg h, if_pos h2]
theorem op_3 {xs : List Int} {M R s : Int} (h : ¬ cErr xs M R ≠ 0) (h2 : ¬ s < 0) (h3 : (grV xs (opT M R s)).2 = 0) : opV xs M R s = ((grV xs (opT M R s)).1.take xs.length, 0) := by unfold opV; rw [if_neg h, if_neg h2, if_pos h3]
theorem op_4 {xs : List Int} {M R s : Int} (h : ¬ cErr xs M R ≠ 0) (h2 : ¬ s < 0) (h3 : ¬ (grV xs (opT M R s)).2 = 0) : opV xs M R s = ([], 6) := by unfold opV; rw [if_neg h, if_neg h2, if_neg h3]
theorem opT_rng {M R s : Int} (hM : 0 < M) : 0 ≤ opT M R s ∧ opT M R s < M := ⟨Int.fmod_nonneg_of_pos _ hM, Int.fmod_lt_of_pos _ hM⟩
theorem Sq_fmod {M R s : Int} (hM : 0 < M) (h : Sq M) : Sq (opT M R s) := by
  obtain ⟨n, hn, h1⟩ := h
  have := opT_rng (R := R) (s := s) hM
  exact ⟨n, hn, h1.le (by omega)⟩
/-- Ones at the places of a choice. -/
def blockN (c : List Int) (n i : Nat) : List Int := (c.take i).foldl (fun B k => B.set k.toNat 1) (List.replicate n 0)
theorem blockN_s {c : List Int} {n i : Nat} (hi : i < c.length) : (blockN c n i).set (c.getD i 0).toNat 1 = blockN c n (i + 1) := by
  unfold blockN; rw [← take_app (d := 0) hi, List.foldl_append]; rfl
theorem blockN_len (c : List Int) (n : Nat) : ∀ i, (blockN c n i).length = n := by
  intro i
  unfold blockN
  generalize c.take i = d
  have : ∀ (d : List Int) (B : List Int), (d.foldl (fun B k => B.set k.toNat 1) B).length = B.length := by
    intro d
    induction d with
    | nil => intro B; rfl
    | cons k d ih => intro B; rw [List.foldl_cons, ih]; simp
  rw [this]; simp
def blockF (c : List Int) (n : Nat) : List Int := blockN c n c.length
/-- A block of noughts and ones is that of its places. -/
theorem ones_mem (B : List Int) : ∀ (i : Nat) (k : Int), k ∈ ones B i ↔ ∃ j, j < i ∧ k = (j : Int) ∧ B.getD j 0 = 1
  | 0, k => by simp [ones]
  | i + 1, k => by
    simp only [ones, List.mem_append, ones_mem B i k]
    constructor
    · rintro (⟨j, h1, h2, h3⟩ | h)
      · exact ⟨j, by omega, h2, h3⟩
      · split at h
        · rename_i h1; simp at h; exact ⟨i, by omega, h, h1⟩
        · cases h
    · rintro ⟨j, h1, h2, h3⟩
      by_cases e : j = i
      · subst e; right; rw [if_pos h3]; simp [h2]
      · left; exact ⟨j, by omega, h2, h3⟩
theorem fold_set_get : ∀ (c B : List Int) (j : Nat), (∀ k ∈ c, 0 ≤ k) → j < B.length → (c.foldl (fun B k => B.set k.toNat 1) B).getD j 0 = if (j : Int) ∈ c then 1 else B.getD j 0
  | [], B, j, _, _ => by simp
  | k :: c, B, j, h, hj => by
    rw [List.foldl_cons, fold_set_get c _ j (fun x hx => h x (List.mem_cons_of_mem _ hx)) (by simpa using hj)]
    have hk := h k (by simp)
    by_cases hc : (j : Int) ∈ c
    · rw [if_pos hc, if_pos (List.mem_cons_of_mem _ hc)]
    · rw [if_neg hc]
      by_cases hkj : k = (j : Int)
      · rw [if_pos (by simp [hkj])]
        subst hkj
        simp only [List.getD_eq_getElem?_getD, Int.toNat_natCast]
        rw [List.getElem?_set_self hj]; rfl
      · rw [if_neg (by simp; exact ⟨fun e => hkj e.symm, hc⟩)]
        simp only [List.getD_eq_getElem?_getD]
        rw [List.getElem?_set_ne (by omega)]
theorem grN_01 (xs : List Int) : ∀ (i : Nat) (s : Int) (B : List Int), (∀ j, B.getD j 0 = 0 ∨ B.getD j 0 = 1) → ∀ j, (grN xs i s B).1.getD j 0 = 0 ∨ (grN xs i s B).1.getD j 0 = 1
  | 0, s, B, h, j => h j
  | i + 1, s, B, h, j => by
    simp only [grN]
    split
    · refine grN_01 xs i _ _ (fun k => ?_) j
      simp only [List.getD_eq_getElem?_getD] at h ⊢
      by_cases hk : i = k
      · subst hk
        rw [List.getElem?_set]
        split
        · split <;> simp
        · exact h i
      · rw [List.getElem?_set_ne hk]; exact h k
    · exact grN_01 xs i _ _ h j
theorem grV_block {xs : List Int} {s : Int} (h : wOk xs = true) : blockF (ones (grV xs s).1 10) xs.length = (grV xs s).1.take xs.length := by
  have hl := wOk_len h
  rw [grV_ones10 h]
  have hlen : (grV xs s).1.length = 10 := by unfold grV; rw [grN_len]; simp [zeros10]
  have hnn : ∀ k ∈ ones (grV xs s).1 xs.length, (0 : Int) ≤ k := fun k hk => by
    obtain ⟨j, _, h2, _⟩ := (ones_mem _ _ _).1 hk
    omega
  apply List.ext_getElem?
  intro j
  by_cases hj : j < xs.length
  · have h1 := fold_set_get (ones (grV xs s).1 xs.length) (List.replicate xs.length 0) j hnn (by simpa using hj)
    have hbl : (blockF (ones (grV xs s).1 xs.length) xs.length).length = xs.length := blockN_len _ _ _
    unfold blockF blockN at hbl ⊢
    rw [List.take_length] at hbl ⊢
    rw [List.getElem?_take_of_lt hj, List.getElem?_eq_getElem (by omega), List.getElem?_eq_getElem (show j < (grV xs s).1.length by omega)]
    simp only [List.getD_eq_getElem?_getD] at h1
    rw [List.getElem?_eq_getElem (by omega)] at h1
    simp only [Option.getD_some] at h1
    rw [h1]
    have h2 := grN_01 xs xs.length s zeros10 (fun j => .inl (zeros10_get j)) j
    have h3 : (grV xs s).1.getD j 0 = (grV xs s).1[j]'(by omega) := by
      rw [List.getD_eq_getElem?_getD, List.getElem?_eq_getElem (by omega)]; rfl
    have h2' : (grV xs s).1.getD j 0 = 0 ∨ (grV xs s).1.getD j 0 = 1 := h2
    rw [h3] at h2'
    congr 1
    split
    · rename_i hm
      obtain ⟨i, h4, h5, h6⟩ := (ones_mem _ _ _).1 hm
      have : i = j := by omega
      subst this
      rw [h3] at h6; exact h6.symm
    · rename_i hm
      rcases h2' with h4 | h4
      · rw [h4, List.getElem?_replicate, if_pos hj]; rfl
      · exact absurd ((ones_mem _ _ _).2 ⟨j, hj, rfl, by rw [h3]; exact h4⟩) hm
  · rw [List.getElem?_eq_none (by have := blockN_len (ones (grV xs s).1 xs.length) xs.length (ones (grV xs s).1 xs.length).length; unfold blockF; omega), List.getElem?_eq_none (by simp; omega)]
theorem Plc_ones (xs : List Int) (B : List Int) : Plc xs (ones B xs.length) := fun k hk => by
  obtain ⟨j, h1, h2, _⟩ := (ones_mem _ _ _).1 hk
  omega
theorem Sq_Sm {z : Int} (h : Sq z) : Sm z := by
  obtain ⟨n, hn, h1⟩ := h
  exact h1.sm (by omega)
theorem Sq_sub1 {R : Int} (h : Sq R) : Sm (R - 1) := Sq_lin h h (by omega)
theorem Sq_sub2 {R M : Int} (h : Sq R) (k : Sq M) : Sm (R - M) := Sq_lin h k (by omega)
theorem gcd_nle {R M : Int} : ((Int.gcd R M : Nat) : Int).natAbs ≤ R.natAbs + M.natAbs := by
  rw [Int.natAbs_natCast]
  by_cases h : M = 0
  · subst h; rw [Int.gcd_zero]; omega
  · have := gcd_le_abs (n := R) h; rw [Int.natAbs_natCast] at this; omega
theorem Sq_gcd {R M : Int} (h : Sq R) (k : Sq M) : Sm ((Int.gcd R M : Nat) : Int) := Sq_lin h k (by have := @gcd_nle R M; omega)
theorem Sq_subg {R M : Int} (h : Sq R) (k : Sq M) : Sm (((Int.gcd R M : Nat) : Int) - 1) := Sq_lin h k (by have := @gcd_nle R M; omega)
theorem cGood_M {xs : List Int} {M R : Int} (h : wOk xs = true) (hg : cGood xs M R) : 0 < M := by
  have h1 := wOk_total h
  have h2 := hg.2.1
  omega
theorem Ss_Sq {s : Int} (h : Sq s) : Ss s := Ss_ex h
theorem Sq_ZB {s : Int} (h : ∃ n, n ≤ 33554432 ∧ s.natAbs < 2 ^ n) : Sq s := h
theorem knap_len {xs : List Int} {M R : Int} (m : Mem) (v : Value) (h : ((kPair (kSl kZ) (kPair kZ kZ)).is (xs, M, R)).p m v) : xs.length ≤ 1099511627776 := by
  obtain ⟨cs, _, a, b, _, ⟨_, _, _, h1, _⟩, _⟩ := h
  exact h1
end Fw

