/- Weights that climb, choices and the greedy block: what the functions answer. -/
import Derived.Test.YtgbafijcklgajaaQKd
import Derived.Test.YtgbafijcklgajaaKb
import Derived.Test.YtgbafijcklgajaaRd
import Derived.Test.YtgbafijcklgajaaKc
import Derived.Test.YtgbafijcklgajaaZd
import Derived.Test.YtgbafijcklgajaaFwN
set_option linter.unusedVariables false
set_option linter.unusedSimpArgs false
set_option exponentiation.threshold 400
namespace Fw
open Go Go.Proofs

set_option maxRecDepth 20000 in
set_option maxHeartbeats 1000000 in
theorem c_knap_sum (xs : List Int) (hS : ∀ i, i ≤ xs.length → Sm ((xs.take i).sum)) : Fn Try.prog 101 [(kSl kZ).is xs] (kC.is xs.sum) := by
  refine Con.enter Try.func101 rfl rfl fun m w => ?_
  refine CW.seq ?_
  refine CW.region ?_
  refine WP.al .n z31_C fun b1 => ?_
  refine WP.nil ?_
  refine QE.next ?_
  refine CW.seq ?_
  refine CW.region ?_
  refine WP.s .n (O.mv rfl) ?_
  refine WP.s .n (O.fn fn167 (evs.c rfl evs.nil) (c_zint_Sum xs (by assumption))) ?_
  refine WP.t .n (O.stW (l := kC) (u := xs.sum) 0 rfl rfl rfl ty31 rfl (VP.le_refl _)) ?_
  refine WP.nil ?_
  refine QE.next ?_
  refine CW.ret ?_
  exact QE.done (.inl rfl) rfl (ResOk.c rfl (mem_at 0 rfl) ty31 ResOk.nil) (OImp.sub (List.nil_sublist _)) ⟨rfl, rfl⟩

set_option maxRecDepth 20000 in
set_option maxHeartbeats 1000000 in
theorem c_knap_climbs (xs : List Int) (hk : wOk xs = true) : Fn Try.prog 81 [(kSl kZ).is xs] (kBool.is (climb xs)) := by
  refine Con.enter Try.func81 rfl rfl fun m w => ?_
  refine ST.fact (i := 0) rfl sl_len fun hB => ?_
  refine CW.seq ?_
  refine CW.region ?_
  refine WP.s .n (O.asg rfl) ?_
  refine WP.nil ?_
  refine QE.next ?_
  refine CW.seq ?_
  refine CW.seq ?_
  refine CW.region ?_
  refine WP.s .n (O.mv rfl) ?_
  refine WP.s .n (O.lenS rfl Try.underlying27) ?_
  refine WP.s .n (O.mv rfl) ?_
  refine WP.nil ?_
  refine QE.next ?_
  refine CW.block ?_
  refine CW.loop (fun (i : Nat) => i ≤ xs.length ∧ climbTo xs i) (fun (i : Nat) => [(0, (kSl kZ).is xs), (5, (kInt .i64).is (xs.length : Int)), (6, (kInt .i64).is (i : Int))]) (fun (i : Nat) => []) (fun (i : Nat) => xs.length - i) 0 ⟨Nat.zero_le _, climbTo_0 xs⟩ (Imp.cons rfl (Imp.cons rfl (Imp.consLe rfl (is_eq (y := (0 : Int)) (by omega)) Imp.nil))) (OImp.refl _) ?_
  intro i ⟨hi, hc⟩
  refine CW.seq ?_
  refine CW.region ?_
  refine WP.s .n (O.lt rfl rfl) ?_
  refine WP.nil ?_
  refine QE.next ?_
  refine CW.seq ?_
  refine CW.condD rfl (fun h_t7 => ?_) (fun h_t7 => ?_)
  · refine CW.skip ?_
    refine QE.next ?_
    refine CW.seq ?_
    refine CW.block ?_
    refine CW.seq ?_
    refine CW.region ?_
    refine WP.s .n (O.mv rfl) ?_
    refine WP.s .n (O.asg rfl) ?_
    refine WP.nil ?_
    refine QE.next ?_
    refine CW.seq ?_
    refine CW.draw (Γ := [.fr ((kSl kZ).is xs), .fr ((kInt .i64).is (i : Int)), .fr (VP.pim kZ (xs.getD i 0)), .fr (kZ.is (xs.getD i 0)), .fr ((kSl kZ).is xs), .fr ((kInt .i64).is (i : Int)), .fr ((kSl kZ).is (xs.take i)), .fr (kC.is ((xs.take i).sum)), .fr ((kInt .i64).is (((xs.getD i 0) - ((xs.take i).sum)).sign)), .fr (kBool.is (decide ((((xs.getD i 0) - ((xs.take i).sum)).sign) ≤ 0)))]) (lates := [false, false, false, false, false, false, false, false, false, false]) (by kernel_rfl) (Chk.of rfl (by kernel_rfl) rfl) (fun _ _ _ _ _ h => h) (fun q_ x_ h_ => ?_) (fun σ => ?_)
    · match q_, h_ with
      | 0, h_ => cases h_; exact Ob.f rfl .n fun N => (O.mv rfl)
      | 1, h_ => cases h_; exact Ob.f rfl .n fun N => (O.mv rfl)
      | 2, h_ => cases h_; exact Ob.f rfl .n fun N => (O.ix i rfl rfl Try.underlying27 ty31 rfl (v := (xs.getD i 0)) (gd 0 (by omega)))
      | 3, h_ => cases h_; exact Ob.f rfl .n fun N => (O.ldP rfl ty31)
      | 4, h_ => cases h_; exact Ob.f rfl .n fun N => (O.mv rfl)
      | 5, h_ => cases h_; exact Ob.f rfl .n fun N => (O.mv rfl)
      | 6, h_ => cases h_; exact Ob.f rfl .n fun N => (O.slH i rfl rfl Try.underlying27 ty31 (by omega) (by omega))
      | 7, h_ => cases h_; exact Ob.f rfl .n fun N => (O.fn fn101 (evs.c rfl evs.nil) (c_knap_sum (xs.take i) (take_take_Sm hk i)))
      | 8, h_ => cases h_; exact Ob.f rfl .n fun N => (O.fn fn75 (evs.c rfl (evs.l rfl (kC_Z (by exact wOk_Sm hk (by omega))) evs.nil)) (c_zint_Compare (xs.getD i 0) ((xs.take i).sum)))
      | 9, h_ => cases h_; exact Ob.f rfl .n fun N => (O.le rfl rfl)
      | n_ + 10, h_ => simp at h_
    refine WP.nil ?_
    refine QE.next ?_
    refine CW.condD rfl (fun h_t18 => ?_) (fun h_t18 => ?_)
    · refine CW.seq ?_
      refine CW.region ?_
      refine WP.s .n (O.asg rfl) ?_
      refine WP.nil ?_
      refine QE.next ?_
      refine CW.ret ?_
      refine QE.blkR ?_
      refine QE.thenR ?_
      refine QE.thenR ?_
      refine QE.blkR ?_
      refine QE.thenR ?_
      refine ST.told 2 rfl (is_eq (y := (climb xs)) (by rw [climb_no (i := i) (by omega) (by have := sgn_le h_t18; omega)])) ?_
      exact QE.done (.inl rfl) rfl (ResOk.t rfl ResOk.nil) (OImp.sub (List.nil_sublist _)) ⟨rfl, rfl⟩
    · refine CW.skip ?_
      refine QE.blkN ?_
      refine QE.next ?_
      refine CW.region ?_
      refine WP.s .n (O.add rfl rfl (c := ((i : Int) + 1)) (w64 (by omega))) ?_
      refine WP.s .n (O.mv rfl) ?_
      refine WP.nil ?_
      exact QE.round (i + 1) (by omega) ⟨by omega, climbTo_s hc (sgn_gt h_t18)⟩ (Imp.cons rfl (Imp.cons rfl (Imp.consLe rfl (is_eq (y := (((i + 1) : Nat) : Int)) (by omega)) Imp.nil))) (OImp.refl _)
  · refine CW.exit ?_
    refine QE.thenE ?_
    refine QE.thenE ?_
    refine QE.blkH ?_
    refine QE.next ?_
    refine CW.seq ?_
    refine CW.region ?_
    refine WP.s .n (O.asg rfl) ?_
    refine WP.nil ?_
    refine QE.next ?_
    refine CW.ret ?_
    refine ST.told 2 rfl (is_eq (y := (climb xs)) (by rw [climb_yes (i := i) (by omega) hc])) ?_
    exact QE.done (.inl rfl) rfl (ResOk.t rfl ResOk.nil) (OImp.sub (List.nil_sublist _)) ⟨rfl, rfl⟩

set_option maxRecDepth 20000 in
set_option maxHeartbeats 1000000 in
theorem c_knap_greedy (xs : List Int) (s : Int) (hk : wOk xs = true) (hs : 0 ≤ s) (hsm : Sm s) : Fn Try.prog 82 [(kSl kZ).is xs, kZ.is s] (VP.tup [(kArr 10 kI64).is ((grV xs s).1), kBool.is (decide ((grV xs s).2 = 0))]) := by
  refine Con.enter Try.func82 rfl rfl fun m w => ?_
  refine ST.fact (i := 0) rfl sl_len fun hB => ?_
  have hl := wOk_len hk
  refine CW.seq ?_
  refine CW.region ?_
  refine WP.bx .n rfl fun b1 => ?_
  refine WP.al .n z123_ar10_int fun b2 => ?_
  refine WP.s .n (O.asg rfl) ?_
  refine WP.nil ?_
  refine QE.next ?_
  refine CW.seq ?_
  refine CW.region ?_
  refine WP.al .n z123_ar10_int fun b3 => ?_
  refine WP.nil ?_
  refine QE.next ?_
  refine CW.seq ?_
  refine CW.seq ?_
  refine CW.region ?_
  refine WP.s .n (O.mv rfl) ?_
  refine WP.s .n (O.lenS rfl Try.underlying27) ?_
  refine WP.s .n (O.sub rfl rfl (c := ((xs.length : Int) - 1)) (w64 (by omega))) ?_
  refine WP.s .n (O.asg rfl) ?_
  refine WP.nil ?_
  refine QE.next ?_
  refine CW.block ?_
  refine CW.loop3 (fun (i : Nat) (q : Int) (B : List Int) => i ≤ xs.length ∧ grN xs i q B = grV xs s ∧ 0 ≤ q ∧ q ≤ s) (fun (i : Nat) (q : Int) (B : List Int) => [(0, (kSl kZ).is xs), (3, VP.ex (.pointer (some ⟨b1, 0, none⟩))), (4, VP.ex (.pointer (some ⟨b2, 0, none⟩))), (6, VP.ex (.pointer (some ⟨b3, 0, none⟩))), (7, (kInt .i64).is ((i : Int) - 1))]) (fun (i : Nat) (q : Int) (B : List Int) => [OB.box b3 123 (kArr 10 kI64) B, OB.box b2 123 (kArr 10 kI64) (List.replicate 10 0), OB.box b1 31 kZ q]) (fun (i : Nat) (q : Int) (B : List Int) => i) xs.length s zeros10 ⟨Nat.le_refl _, rfl, hs, Int.le_refl _⟩ (Imp.cons rfl (Imp.cons rfl (Imp.cons rfl (Imp.cons rfl (Imp.consLe rfl (is_eq (y := ((xs.length : Nat) : Int) - 1) (by first | omega | rfl | assumption)) Imp.nil))))) (OImp.os (OS.keepLe (OB.box_eq (by first | omega | rfl | assumption)) (OS.keep (OS.keep OS.nil)))) ?_
  intro i q B ⟨hi, hg, h0, hq⟩
  refine CW.seq ?_
  refine CW.seq ?_
  refine CW.region ?_
  refine WP.s .n (O.mv rfl) ?_
  refine WP.s .n (O.ge rfl rfl) ?_
  refine WP.nil ?_
  refine QE.next ?_
  refine CW.condD rfl (fun h_t12 => ?_) (fun h_t12 => ?_)
  · have hx := wOk_get hk (show i - 1 < xs.length by omega)
    refine CW.skip ?_
    refine QE.next ?_
    refine CW.seq ?_
    refine CW.block ?_
    refine CW.seq ?_
    refine CW.draw (Γ := [.fr ((kSl kZ).is xs), .fr ((kInt .i64).is ((i : Int) - 1)), .fr (VP.pim kZ (xs.getD (i - 1) 0)), .fr (kZ.is (xs.getD (i - 1) 0)), .fr (kZ.is q), .fr ((kInt .i64).is (((xs.getD (i - 1) 0) - q).sign)), .fr (kBool.is (decide ((((xs.getD (i - 1) 0) - q).sign) ≤ 0)))]) (lates := [false, false, false, false, false, false, false]) (by kernel_rfl) (Chk.of rfl (by kernel_rfl) rfl) (fun _ _ _ _ _ h => h) (fun q_ x_ h_ => ?_) (fun σ => ?_)
    · match q_, h_ with
      | 0, h_ => cases h_; exact Ob.f rfl .n fun N => (O.mv rfl)
      | 1, h_ => cases h_; exact Ob.f rfl .n fun N => (O.mv rfl)
      | 2, h_ => cases h_; exact Ob.f rfl .n fun N => (O.ix (i - 1) rfl rfl Try.underlying27 ty31 (by omega) (v := (xs.getD (i - 1) 0)) (gd 0 (by omega)))
      | 3, h_ => cases h_; exact Ob.f rfl .n fun N => (O.ldP rfl ty31)
      | 4, h_ => cases h_; exact Ob.f rfl .n fun N => (O.ld rfl (mem_app N (mem_at 2 rfl)) (Lens.id _) ty31 rfl)
      | 5, h_ => cases h_; exact Ob.f rfl .n fun N => (O.fn fn75 (evs.c rfl (evs.c rfl evs.nil)) (c_zint_Compare (xs.getD (i - 1) 0) q))
      | 6, h_ => cases h_; exact Ob.f rfl .n fun N => (O.le rfl rfl)
      | n_ + 7, h_ => simp at h_
    refine WP.nil ?_
    refine QE.next ?_
    refine CW.condD rfl (fun h_t21 => ?_) (fun h_t21 => ?_)
    · have hle := sgn_le h_t21
      refine CW.seq ?_
      refine CW.region ?_
      refine WP.s .n (O.mv rfl) ?_
      refine WP.s .n (O.ixA (o' := ((i - 1) * 1 + 0)) (i - 1) rfl rfl Try.underlying123 ty3 (by omega) (by omega) (by omega)) ?_
      refine WP.t .n (O.st 0 rfl rfl (Lens.arr 0 (i - 1) (by omega) (Lens.id _)) ty3 rfl (i64_int (by omega))) ?_
      refine WP.nil ?_
      refine QE.next ?_
      refine CW.draw (Γ := [.fr (kZ.is q), .fr ((kSl kZ).is xs), .fr ((kInt .i64).is ((i : Int) - 1)), .fr (VP.pim kZ (xs.getD (i - 1) 0)), .fr (kZ.is (xs.getD (i - 1) 0)), .fr (kC.is (q - (xs.getD (i - 1) 0)))]) (lates := [false, false, false, false, false, false]) (by kernel_rfl) (Chk.of rfl (by kernel_rfl) rfl) (fun _ _ _ _ _ h => h) (fun q_ x_ h_ => ?_) (fun σ => ?_)
      · match q_, h_ with
        | 0, h_ => cases h_; exact Ob.f rfl .n fun N => (O.ld rfl (mem_app N (mem_at 2 rfl)) (Lens.id _) ty31 rfl)
        | 1, h_ => cases h_; exact Ob.f rfl .n fun N => (O.mv rfl)
        | 2, h_ => cases h_; exact Ob.f rfl .n fun N => (O.mv rfl)
        | 3, h_ => cases h_; exact Ob.f rfl .n fun N => (O.ix (i - 1) rfl rfl Try.underlying27 ty31 (by omega) (v := (xs.getD (i - 1) 0)) (gd 0 (by omega)))
        | 4, h_ => cases h_; exact Ob.f rfl .n fun N => (O.ldP rfl ty31)
        | 5, h_ => cases h_; exact Ob.f rfl .n fun N => (O.fn fn157 (evs.c rfl (evs.c rfl evs.nil)) (c_zint_Sub q (xs.getD (i - 1) 0)))
        | n_ + 6, h_ => simp at h_
      refine WP.t .n (O.stW (l := kC) (u := q - (xs.getD (i - 1) 0)) 2 rfl rfl rfl ty31 rfl (VP.le_refl _)) ?_
      refine WP.nil ?_
      refine QE.blkN ?_
      refine QE.next ?_
      refine CW.region ?_
      refine WP.s .n (O.mv rfl) ?_
      refine WP.s .n (O.sub rfl rfl (c := (((i : Int) - 1) - 1)) (w64 (by omega))) ?_
      refine WP.s .n (O.asg rfl) ?_
      refine WP.nil ?_
      exact QE.round3 (i - 1) (q - xs.getD (i - 1) 0) (B.set (i - 1) 1) (by omega) ⟨by omega, by rw [← grN_in (by omega) hle]; exact hg, by omega, by omega⟩ (Imp.cons rfl (Imp.cons rfl (Imp.cons rfl (Imp.cons rfl (Imp.consLe rfl (is_eq (y := (((i - 1) : Nat) : Int) - 1) (by first | omega | rfl | assumption)) Imp.nil))))) (OImp.os (OS.keep (OS.keep (OS.keepLe (OB.C_Zeq (by exact Sm_le hsm (by omega)) (by first | omega | rfl | assumption)) OS.nil))))
    · refine CW.skip ?_
      refine QE.blkN ?_
      refine QE.next ?_
      refine CW.region ?_
      refine WP.s .n (O.mv rfl) ?_
      refine WP.s .n (O.sub rfl rfl (c := (((i : Int) - 1) - 1)) (w64 (by omega))) ?_
      refine WP.s .n (O.asg rfl) ?_
      refine WP.nil ?_
      exact QE.round3 (i - 1) q B (by omega) ⟨by omega, by rw [← grN_out (by omega) (by have := sgn_gt h_t21; omega)]; exact hg, h0, hq⟩ (Imp.cons rfl (Imp.cons rfl (Imp.cons rfl (Imp.cons rfl (Imp.consLe rfl (is_eq (y := (((i - 1) : Nat) : Int) - 1) (by first | omega | rfl | assumption)) Imp.nil))))) (OImp.refl _)
  · refine CW.exit ?_
    refine QE.thenE ?_
    refine QE.thenE ?_
    refine QE.blkH ?_
    refine QE.next ?_
    refine CW.seq ?_
    have hgB : (B, q) = grV xs s := by rw [← hg, show i = 0 from by omega]; rfl
    refine CW.draw (Γ := [.fr ((kArr 10 kI64).is B), .fr (kZ.is q), .fr ((kInt .i64).is q.sign), .lt (kBool.is (decide (q.sign = 0)))]) (lates := [false, false, false, true]) (by kernel_rfl) (Chk.of rfl (by kernel_rfl) rfl) (fun _ _ _ _ _ h => h) (fun q_ x_ h_ => ?_) (fun σ => ?_)
    · match q_, h_ with
      | 0, h_ => cases h_; exact Ob.f rfl .n fun N => (O.ld rfl (mem_app N (mem_at 0 rfl)) (Lens.id _) ty123 rfl)
      | 1, h_ => cases h_; exact Ob.f rfl .n fun N => (O.ld rfl (mem_app N (mem_at 2 rfl)) (Lens.id _) ty31 rfl)
      | 2, h_ => cases h_; exact Ob.f rfl .n fun N => (O.fn fn80 (evs.c rfl evs.nil) (c_zint_Sign q))
      | 3, h_ => cases h_; exact Ob.l rfl .n (OV.eq rfl rfl)
      | n_ + 4, h_ => simp at h_
    refine WP.t .n (O.stW (l := (kArr 10 kI64)) (u := B) 1 rfl rfl rfl ty123 rfl (VP.le_refl _)) ?_
    refine WP.s .n (O.asg rfl) ?_
    refine WP.nil ?_
    refine QE.next ?_
    refine CW.ret ?_
    refine ST.obtold 1 rfl (OB.box_eq (y := ((grV xs s).1)) (by rw [← hgB])) ?_
    refine ST.told 5 rfl (is_eq (y := (decide ((grV xs s).2 = 0))) (by rw [← hgB]; simp [Int.sign_eq_zero_iff_zero])) ?_
    exact QE.done (.inl rfl) rfl (ResOk.c rfl (mem_at 1 rfl) ty123 (ResOk.t rfl ResOk.nil)) (OImp.sub (List.nil_sublist _)) ⟨rfl, rfl⟩

set_option maxRecDepth 20000 in
set_option maxHeartbeats 1000000 in
theorem c_knap_Greedy (xs : List Int) (s : Int) (hsm : Sm s) : Fn Try.prog 19 [(kSl kZ).is xs, kZ.is s] (VP.tup [(kSl kI64).is ((gyV xs s).1), kBool.is ((gyV xs s).2.1), (kInt .i64).is ((gyV xs s).2.2)]) := by
  refine Con.enter Try.func19 rfl rfl fun m w => ?_
  refine ST.fact (i := 0) rfl sl_len fun hB => ?_
  refine CW.seq ?_
  refine CW.region ?_
  refine WP.bx .n rfl fun b1 => ?_
  refine WP.s .n (O.asg rfl) ?_
  refine WP.s .n (O.asg rfl) ?_
  refine WP.s .n (O.asg rfl) ?_
  refine WP.nil ?_
  refine QE.next ?_
  refine CW.seq ?_
  refine CW.seq ?_
  refine CW.region ?_
  refine WP.s .n (O.mv rfl) ?_
  refine WP.s .n (O.fn fn32 (evs.c rfl evs.nil) (c_knap_Valid xs)) ?_
  refine WP.s .n (O.asg rfl) ?_
  refine WP.nil ?_
  refine QE.next ?_
  refine CW.seq ?_
  refine CW.region ?_
  refine WP.s .n (O.mv rfl) ?_
  refine WP.s .n (O.ne rfl rfl) ?_
  refine WP.nil ?_
  refine QE.next ?_
  refine CW.condD rfl (fun h_t16 => ?_) (fun h_t16 => ?_)
  · refine CW.seq ?_
    refine CW.region ?_
    refine WP.s .n (O.mv rfl) ?_
    refine WP.s .n (O.asg rfl) ?_
    refine WP.s .n (O.asg rfl) ?_
    refine WP.s .n (O.asg rfl) ?_
    refine WP.nil ?_
    refine QE.next ?_
    refine CW.ret ?_
    refine QE.thenR ?_
    refine ST.told (q := (kSl kI64).is ([] : List Int)) 4 rfl (nil_le _) ?_
    refine ST.told 4 rfl (is_eq (y := ((gyV xs s).1)) (by rw [gy_1 h_t16])) ?_
    refine ST.told 5 rfl (is_eq (y := ((gyV xs s).2.1)) (by rw [gy_1 h_t16])) ?_
    refine ST.told 6 rfl (is_eq (y := ((gyV xs s).2.2)) (by rw [gy_1 h_t16])) ?_
    exact QE.done (.inl rfl) rfl (ResOk.t rfl (ResOk.t rfl (ResOk.t rfl ResOk.nil))) (OImp.sub (List.nil_sublist _)) ⟨rfl, rfl⟩
  · refine CW.skip ?_
    refine QE.next ?_
    refine CW.seq ?_
    refine CW.seq ?_
    refine CW.region ?_
    refine WP.s .n (O.ld rfl (mem_at 0 rfl) (Lens.id _) ty31 rfl) ?_
    refine WP.s .n (O.fn fn80 (evs.c rfl evs.nil) (c_zint_Sign s)) ?_
    refine WP.s .n (O.lt rfl rfl) ?_
    refine WP.nil ?_
    refine QE.next ?_
    refine CW.condD rfl (fun h_t20 => ?_) (fun h_t20 => ?_)
    · refine CW.seq ?_
      refine CW.region ?_
      refine WP.s .n (O.asg rfl) ?_
      refine WP.s .n (O.asg rfl) ?_
      refine WP.s .n (O.asg rfl) ?_
      refine WP.nil ?_
      refine QE.next ?_
      refine CW.ret ?_
      refine QE.thenR ?_
      refine ST.told (q := (kSl kI64).is ([] : List Int)) 4 rfl (nil_le _) ?_
      refine ST.told 4 rfl (is_eq (y := ((gyV xs s).1)) (by rw [gy_2 h_t16 (sgn_lt0 h_t20)])) ?_
      refine ST.told 5 rfl (is_eq (y := ((gyV xs s).2.1)) (by rw [gy_2 h_t16 (sgn_lt0 h_t20)])) ?_
      refine ST.told 6 rfl (is_eq (y := ((gyV xs s).2.2)) (by rw [gy_2 h_t16 (sgn_lt0 h_t20)])) ?_
      exact QE.done (.inl rfl) rfl (ResOk.t rfl (ResOk.t rfl (ResOk.t rfl ResOk.nil))) (OImp.sub (List.nil_sublist _)) ⟨rfl, rfl⟩
    · refine CW.skip ?_
      refine QE.next ?_
      refine CW.seq ?_
      refine CW.seq ?_
      refine CW.region ?_
      refine WP.s .n (O.mv rfl) ?_
      refine WP.s .n (O.fn fn81 (evs.c rfl evs.nil) (c_knap_climbs xs (wErr_0 h_t16))) ?_
      refine WP.s .n (O.not rfl) ?_
      refine WP.nil ?_
      refine QE.next ?_
      refine CW.cond rfl (fun h_t23 => ?_) (fun h_t23 => ?_)
      · have hcl : climb xs = false := by simpa using h_t23
        refine CW.seq ?_
        refine CW.region ?_
        refine WP.s .n (O.asg rfl) ?_
        refine WP.s .n (O.asg rfl) ?_
        refine WP.s .n (O.asg rfl) ?_
        refine WP.nil ?_
        refine QE.next ?_
        refine CW.ret ?_
        refine QE.thenR ?_
        refine ST.told (q := (kSl kI64).is ([] : List Int)) 4 rfl (nil_le _) ?_
        refine ST.told 4 rfl (is_eq (y := ((gyV xs s).1)) (by rw [gy_3 h_t16 (by have := sgn_ge0 h_t20; omega) hcl])) ?_
        refine ST.told 5 rfl (is_eq (y := ((gyV xs s).2.1)) (by rw [gy_3 h_t16 (by have := sgn_ge0 h_t20; omega) hcl])) ?_
        refine ST.told 6 rfl (is_eq (y := ((gyV xs s).2.2)) (by rw [gy_3 h_t16 (by have := sgn_ge0 h_t20; omega) hcl])) ?_
        exact QE.done (.inl rfl) rfl (ResOk.t rfl (ResOk.t rfl (ResOk.t rfl ResOk.nil))) (OImp.sub (List.nil_sublist _)) ⟨rfl, rfl⟩
      · have hcl : climb xs = true := by simpa using h_t23
        refine CW.skip ?_
        refine QE.next ?_
        refine CW.seq ?_
        refine CW.region ?_
        refine WP.s .n (O.mv rfl) ?_
        refine WP.s .n (O.ld rfl (mem_at 0 rfl) (Lens.id _) ty31 rfl) ?_
        refine WP.s .n (O.fn fn82 (evs.c rfl (evs.c rfl evs.nil)) (c_knap_greedy xs s (wErr_0 h_t16) (sgn_ge0 h_t20) hsm)) ?_
        refine WP.s .n (O.mv rfl) ?_
        refine WP.s .n (O.ext rfl rfl) ?_
        refine WP.s .n (O.ext rfl rfl) ?_
        refine WP.al .n z123_ar10_int fun b2 => ?_
        refine WP.t .n (O.stW (l := (kArr 10 kI64)) (u := (grV xs s).1) 0 rfl rfl rfl ty123 rfl (VP.le_refl _)) ?_
        refine WP.s .n (O.asg rfl) ?_
        refine WP.nil ?_
        refine QE.next ?_
        refine CW.seq ?_
        refine CW.seq ?_
        refine CW.region ?_
        refine WP.s .n (O.mv rfl) ?_
        refine WP.s .n (O.not rfl) ?_
        refine WP.nil ?_
        refine QE.next ?_
        refine CW.cond rfl (fun h_t31 => ?_) (fun h_t31 => ?_)
        · have hne : ¬ (grV xs s).2 = 0 := by simpa using h_t31
          refine CW.seq ?_
          refine CW.region ?_
          refine WP.s .n (O.asg rfl) ?_
          refine WP.s .n (O.asg rfl) ?_
          refine WP.s .n (O.asg rfl) ?_
          refine WP.nil ?_
          refine QE.next ?_
          refine CW.ret ?_
          refine QE.thenR ?_
          refine ST.told (q := (kSl kI64).is ([] : List Int)) 4 rfl (nil_le _) ?_
          refine ST.told 4 rfl (is_eq (y := ((gyV xs s).1)) (by rw [gy_4 h_t16 (by have := sgn_ge0 h_t20; omega) hcl hne])) ?_
          refine ST.told 5 rfl (is_eq (y := ((gyV xs s).2.1)) (by rw [gy_4 h_t16 (by have := sgn_ge0 h_t20; omega) hcl hne])) ?_
          refine ST.told 6 rfl (is_eq (y := ((gyV xs s).2.2)) (by rw [gy_4 h_t16 (by have := sgn_ge0 h_t20; omega) hcl hne])) ?_
          exact QE.done (.inl rfl) rfl (ResOk.t rfl (ResOk.t rfl (ResOk.t rfl ResOk.nil))) (OImp.sub (List.nil_sublist _)) ⟨rfl, rfl⟩
        · have hne : (grV xs s).2 = 0 := by simpa using h_t31
          refine CW.skip ?_
          refine QE.next ?_
          refine CW.seq ?_
          refine CW.region ?_
          refine WP.s .n (O.asg rfl) ?_
          refine WP.nil ?_
          refine QE.next ?_
          refine CW.seq ?_
          refine CW.seq ?_
          refine CW.region ?_
          refine WP.s .n (O.ld rfl (mem_at 0 rfl) (Lens.id _) ty123 rfl) ?_
          refine WP.s .n (O.mv rfl) ?_
          refine WP.nil ?_
          refine QE.next ?_
          refine CW.block ?_
          refine ST.nilrow 3 kI64 ?_
          refine CW.loop2 (fun (i : Nat) (v : Value) => i ≤ 10) (fun (i : Nat) (v : Value) => [(10, VP.ex v), (32, (kArr 10 kI64).is ((grV xs s).1)), (33, (kInt .i64).is (i : Int))]) (fun (i : Nat) (v : Value) => [OB.row v 3 kI64 (ones (grV xs s).1 i)]) (fun (i : Nat) (v : Value) => 10 - i) 0 (.slice none 0 0) (by omega) (Imp.cons rfl (Imp.cons rfl (Imp.consLe rfl (is_eq (y := (0 : Int)) (by first | omega | rfl | assumption)) Imp.nil))) (OImp.os (OS.keepLe (OB.row_eq (by first | omega | rfl | assumption)) (OS.skip (OS.skip OS.nil)))) ?_
          intro i v hi
          refine CW.seq ?_
          refine CW.region ?_
          refine WP.s .n (O.lt rfl rfl) ?_
          refine WP.nil ?_
          refine QE.next ?_
          refine CW.seq ?_
          refine CW.condD rfl (fun h_t34 => ?_) (fun h_t34 => ?_)
          · refine CW.skip ?_
            refine QE.next ?_
            refine CW.seq ?_
            refine CW.block ?_
            refine CW.seq ?_
            refine CW.region ?_
            refine WP.s .n (O.mv rfl) ?_
            refine WP.s .n (OpOk.le (O.ixV i 0 rfl rfl Try.underlying123 ty3 rfl (by omega)) (i64_le _)) ?_
            refine WP.s .n (O.asg rfl) ?_
            refine WP.s .n (O.asg rfl) ?_
            refine WP.nil ?_
            refine QE.next ?_
            refine CW.seq ?_
            refine CW.region ?_
            refine WP.s .n (O.mv rfl) ?_
            refine WP.s .n (O.eq rfl rfl) ?_
            refine WP.nil ?_
            refine QE.next ?_
            refine CW.condD rfl (fun h_t38 => ?_) (fun h_t38 => ?_)
            · refine CW.region ?_
              refine WP.s .n (O.mv rfl) ?_
              refine WP.s .n (O.mv rfl) ?_
              refine WP.s .n (O.bs Try.underlying28 el3_int (evl.l rfl (i64_int (by omega)) evl.n) rfl (by decide)) ?_
              refine WP.ap 0 .n rfl rfl rfl (VP.le_refl _) Try.underlying28 el3_int (by have := ones_len (grV xs s).1 i; simp; omega) fun v3 => ?_
              refine WP.s .n (O.asg rfl) ?_
              refine WP.nil ?_
              refine QE.blkN ?_
              refine QE.next ?_
              refine CW.region ?_
              refine WP.s .n (O.add rfl rfl (c := ((i : Int) + 1)) (w64 (by omega))) ?_
              refine WP.s .n (O.mv rfl) ?_
              refine WP.nil ?_
              refine ST.obtold 0 rfl (OB.row_eq (ys := (ones (grV xs s).1 (i + 1))) (by simp only [ones]; rw [if_pos h_t38])) ?_
              exact QE.round2 (i + 1) v3 (by omega) (by omega) (Imp.cons rfl (Imp.cons rfl (Imp.consLe rfl (is_eq (y := (((i + 1) : Nat) : Int)) (by first | omega | rfl | assumption)) Imp.nil))) (OImp.refl _)
            · refine CW.skip ?_
              refine QE.blkN ?_
              refine QE.next ?_
              refine CW.region ?_
              refine WP.s .n (O.add rfl rfl (c := ((i : Int) + 1)) (w64 (by omega))) ?_
              refine WP.s .n (O.mv rfl) ?_
              refine WP.nil ?_
              refine ST.obtold 0 rfl (OB.row_eq (ys := (ones (grV xs s).1 (i + 1))) (by simp only [ones]; rw [if_neg h_t38, List.append_nil])) ?_
              exact QE.round2 (i + 1) v (by omega) (by omega) (Imp.cons rfl (Imp.cons rfl (Imp.consLe rfl (is_eq (y := (((i + 1) : Nat) : Int)) (by first | omega | rfl | assumption)) Imp.nil))) (OImp.refl _)
          · refine CW.exit ?_
            refine QE.thenE ?_
            refine QE.thenE ?_
            refine QE.blkH ?_
            refine QE.next ?_
            refine CW.seq ?_
            refine CW.region ?_
            refine WP.s .n (O.mv rfl) ?_
            refine WP.s .n (O.asg rfl) ?_
            refine WP.s .n (O.asg rfl) ?_
            refine WP.s .n (O.asg rfl) ?_
            refine WP.nil ?_
            refine QE.next ?_
            refine CW.ret ?_
            refine ST.freeze 0 rfl (.hit (i := 4) rfl (.keep (i := 5) rfl (.keep (i := 6) rfl (.hit (i := 10) rfl (.keep (i := 32) rfl (.keep (i := 33) rfl (.keep (i := 34) rfl (.hit (i := 44) rfl .nil)))))))) ?_
            refine ST.told 4 rfl (is_eq (y := ((gyV xs s).1)) (by rw [gy_5 h_t16 (by have := sgn_ge0 h_t20; omega) hcl hne, show i = 10 from by omega])) ?_
            refine ST.told 5 rfl (is_eq (y := ((gyV xs s).2.1)) (by rw [gy_5 h_t16 (by have := sgn_ge0 h_t20; omega) hcl hne])) ?_
            refine ST.told 6 rfl (is_eq (y := ((gyV xs s).2.2)) (by rw [gy_5 h_t16 (by have := sgn_ge0 h_t20; omega) hcl hne])) ?_
            exact QE.done (.inl rfl) rfl (ResOk.t rfl (ResOk.t rfl (ResOk.t rfl ResOk.nil))) (OImp.sub (List.nil_sublist _)) ⟨rfl, rfl⟩

set_option maxRecDepth 20000 in
set_option maxHeartbeats 1000000 in
theorem c_ref24_total (xs c : List Int) (hk : wOk xs = true) (hc : Plc xs c) (hl : c.length ≤ 10) : Fn Try.prog 159 [(kSl kZ).is xs, (kSl kI64).is c] (kC.is (tot xs c)) := by
  refine Con.enter Try.func159 rfl rfl fun m w => ?_
  refine ST.fact (i := 0) rfl sl_len fun hB => ?_
  refine ST.fact (i := 1) rfl sl_len fun hC => ?_
  refine CW.seq ?_
  refine CW.region ?_
  refine WP.al .n z31_C fun b1 => ?_
  refine WP.nil ?_
  refine QE.next ?_
  refine CW.seq ?_
  refine CW.region ?_
  refine WP.s .n (O.fn fn78 (evs.l rfl (i64_int (by omega)) evs.nil) (c_ref02_Of 0)) ?_
  refine WP.al .n z31_C fun b2 => ?_
  refine WP.t .n (O.stW (l := kC) (u := 0) 0 rfl rfl rfl ty31 rfl (VP.le_refl _)) ?_
  refine WP.nil ?_
  refine QE.next ?_
  refine CW.seq ?_
  refine CW.seq ?_
  refine CW.region ?_
  refine WP.s .n (O.asg rfl) ?_
  refine WP.nil ?_
  refine QE.next ?_
  refine CW.block ?_
  refine CW.loop (fun (i : Nat) => i ≤ c.length) (fun (i : Nat) => [(0, (kSl kZ).is xs), (1, (kSl kI64).is c), (4, VP.ex (.pointer (some ⟨b1, 0, none⟩))), (5, VP.ex (.pointer (some ⟨b2, 0, none⟩))), (6, (kInt .i64).is (i : Int))]) (fun (i : Nat) => [OB.box b2 31 kC (tot xs (c.take i)), OB.box b1 31 kC 0]) (fun (i : Nat) => c.length - i) 0 (by omega) (Imp.cons rfl (Imp.cons rfl (Imp.cons rfl (Imp.cons rfl (Imp.consLe rfl (is_eq (y := (0 : Int)) (by first | omega | rfl | assumption)) Imp.nil))))) (OImp.os (OS.keepLe (OB.box_eq (by first | omega | rfl | assumption)) (OS.keep OS.nil))) ?_
  intro i hi
  refine CW.seq ?_
  refine CW.seq ?_
  refine CW.region ?_
  refine WP.s .n (O.mv rfl) ?_
  refine WP.s .n (O.mv rfl) ?_
  refine WP.s .n (O.lenS rfl Try.underlying28) ?_
  refine WP.s .n (O.lt rfl rfl) ?_
  refine WP.nil ?_
  refine QE.next ?_
  refine CW.condD rfl (fun h_t11 => ?_) (fun h_t11 => ?_)
  · have hx := Plc_get hc (show i < c.length by omega)
    refine CW.skip ?_
    refine QE.next ?_
    refine CW.seq ?_
    refine CW.block ?_
    refine CW.draw (Γ := [.fr (kC.is (tot xs (c.take i))), .fr ((kSl kZ).is xs), .fr ((kSl kI64).is c), .fr ((kInt .i64).is (i : Int)), .fr (VP.pim kI64 (c.getD i 0)), .fr ((kInt .i64).is (c.getD i 0)), .fr (VP.pim kZ (xs.getD (((c.getD i 0)).toNat) 0)), .fr (kZ.is (xs.getD (((c.getD i 0)).toNat) 0)), .fr (kC.is ((tot xs (c.take i)) + (xs.getD (((c.getD i 0)).toNat) 0)))]) (lates := [false, false, false, false, false, false, false, false, false]) (by kernel_rfl) (Chk.of rfl (by kernel_rfl) rfl) (fun _ _ _ _ _ h => h) (fun q_ x_ h_ => ?_) (fun σ => ?_)
    · match q_, h_ with
      | 0, h_ => cases h_; exact Ob.f rfl .n fun N => (O.ld rfl (mem_app N (mem_at 0 rfl)) (Lens.id _) ty31 rfl)
      | 1, h_ => cases h_; exact Ob.f rfl .n fun N => (O.mv rfl)
      | 2, h_ => cases h_; exact Ob.f rfl .n fun N => (O.mv rfl)
      | 3, h_ => cases h_; exact Ob.f rfl .n fun N => (O.mv rfl)
      | 4, h_ => cases h_; exact Ob.f rfl .n fun N => (O.ix i rfl rfl Try.underlying28 ty3 rfl (v := (c.getD i 0)) (gd 0 (by omega)))
      | 5, h_ => cases h_; exact Ob.f rfl .n fun N => (OpOk.le (O.ldP rfl ty3) (i64_le _))
      | 6, h_ => cases h_; exact Ob.f rfl .n fun N => (O.ix (((c.getD i 0)).toNat) rfl rfl Try.underlying27 ty31 (by omega) (v := (xs.getD (((c.getD i 0)).toNat) 0)) (gd 0 (by omega)))
      | 7, h_ => cases h_; exact Ob.f rfl .n fun N => (O.ldP rfl ty31)
      | 8, h_ => cases h_; exact Ob.f rfl .n fun N => (O.fn fn79 (evs.l rfl (kC_Z (by first | exact tot_Sm hk hc hl _ | assumption)) (evs.c rfl evs.nil)) (c_ref02_Add (tot xs (c.take i)) (xs.getD (((c.getD i 0)).toNat) 0)))
      | n_ + 9, h_ => simp at h_
    refine WP.t .n (O.stW (l := kC) (u := (tot xs (c.take i)) + (xs.getD (((c.getD i 0)).toNat) 0)) 0 rfl rfl rfl ty31 rfl (VP.le_refl _)) ?_
    refine WP.nil ?_
    refine QE.blkN ?_
    refine QE.next ?_
    refine CW.region ?_
    refine WP.s .n (O.mv rfl) ?_
    refine WP.s .n (O.add rfl rfl (c := ((i : Int) + 1)) (w64 (by omega))) ?_
    refine WP.s .n (O.asg rfl) ?_
    refine WP.nil ?_
    refine ST.obtold 0 rfl (OB.box_eq (y := (tot xs (c.take (i + 1)))) (tot_take (by omega))) ?_
    exact QE.round (i + 1) (by omega) (by omega) (Imp.cons rfl (Imp.cons rfl (Imp.cons rfl (Imp.cons rfl (Imp.consLe rfl (is_eq (y := (((i + 1) : Nat) : Int)) (by first | omega | rfl | assumption)) Imp.nil))))) (OImp.refl _)
  · refine CW.exit ?_
    refine QE.thenE ?_
    refine QE.thenE ?_
    refine QE.blkH ?_
    refine QE.next ?_
    refine CW.seq ?_
    refine CW.region ?_
    refine WP.s .n (O.ld rfl (mem_at 0 rfl) (Lens.id _) ty31 rfl) ?_
    refine WP.t .n (O.stW (l := kC) (u := (tot xs (c.take i))) 1 rfl rfl rfl ty31 rfl (VP.le_refl _)) ?_
    refine WP.nil ?_
    refine QE.next ?_
    refine CW.ret ?_
    refine ST.obtold 1 rfl (OB.box_eq (y := (tot xs c)) (by rw [List.take_of_length_le (by omega)])) ?_
    exact QE.done (.inl rfl) rfl (ResOk.c rfl (mem_at 1 rfl) ty31 ResOk.nil) (OImp.sub (List.nil_sublist _)) ⟨rfl, rfl⟩

set_option maxRecDepth 20000 in
set_option maxHeartbeats 1000000 in
theorem c_ref24_Climbs (xs : List Int) (hk : wOk xs = true) : Fn Try.prog 36 [(kSl kZ).is xs] (kBool.is (climb xs)) := by
  refine Con.enter Try.func36 rfl rfl fun m w => ?_
  refine ST.fact (i := 0) rfl sl_len fun hB => ?_
  refine CW.seq ?_
  refine CW.region ?_
  refine WP.s .n (O.asg rfl) ?_
  refine WP.nil ?_
  refine QE.next ?_
  refine CW.seq ?_
  refine CW.region ?_
  refine WP.s .n (O.fn fn78 (evs.l rfl (i64_int (by omega)) evs.nil) (c_ref02_Of 0)) ?_
  refine WP.al .n z31_C fun b1 => ?_
  refine WP.t .n (O.stW (l := kC) (u := 0) 0 rfl rfl rfl ty31 rfl (VP.le_refl _)) ?_
  refine WP.nil ?_
  refine QE.next ?_
  refine CW.seq ?_
  refine CW.seq ?_
  refine CW.region ?_
  refine WP.s .n (O.asg rfl) ?_
  refine WP.nil ?_
  refine QE.next ?_
  refine CW.block ?_
  refine CW.loop (fun (i : Nat) => i ≤ xs.length ∧ climbTo xs i) (fun (i : Nat) => [(0, (kSl kZ).is xs), (3, VP.ex (.pointer (some ⟨b1, 0, none⟩))), (4, (kInt .i64).is (i : Int))]) (fun (i : Nat) => [OB.box b1 31 kC ((xs.take i).sum)]) (fun (i : Nat) => xs.length - i) 0 ⟨Nat.zero_le _, climbTo_0 xs⟩ (Imp.cons rfl (Imp.cons rfl (Imp.consLe rfl (is_eq (y := (0 : Int)) (by first | omega | rfl | assumption)) Imp.nil))) (OImp.os (OS.keepLe (OB.box_eq (by first | omega | rfl | assumption)) OS.nil)) ?_
  intro i ⟨hi, hc⟩
  refine CW.seq ?_
  refine CW.seq ?_
  refine CW.region ?_
  refine WP.s .n (O.mv rfl) ?_
  refine WP.s .n (O.mv rfl) ?_
  refine WP.s .n (O.lenS rfl Try.underlying27) ?_
  refine WP.s .n (O.lt rfl rfl) ?_
  refine WP.nil ?_
  refine QE.next ?_
  refine CW.condD rfl (fun h_t9 => ?_) (fun h_t9 => ?_)
  · refine CW.skip ?_
    refine QE.next ?_
    refine CW.seq ?_
    refine CW.block ?_
    refine CW.seq ?_
    refine CW.seq ?_
    refine CW.draw (Γ := [.fr ((kSl kZ).is xs), .fr ((kInt .i64).is (i : Int)), .fr (VP.pim kZ (xs.getD i 0)), .fr (kZ.is (xs.getD i 0)), .fr (kC.is ((xs.take i).sum)), .fr ((kInt .i64).is (((xs.getD i 0) - ((xs.take i).sum)).sign)), .fr (kBool.is (decide ((((xs.getD i 0) - ((xs.take i).sum)).sign) ≤ 0)))]) (lates := [false, false, false, false, false, false, false]) (by kernel_rfl) (Chk.of rfl (by kernel_rfl) rfl) (fun _ _ _ _ _ h => h) (fun q_ x_ h_ => ?_) (fun σ => ?_)
    · match q_, h_ with
      | 0, h_ => cases h_; exact Ob.f rfl .n fun N => (O.mv rfl)
      | 1, h_ => cases h_; exact Ob.f rfl .n fun N => (O.mv rfl)
      | 2, h_ => cases h_; exact Ob.f rfl .n fun N => (O.ix i rfl rfl Try.underlying27 ty31 rfl (v := (xs.getD i 0)) (gd 0 (by omega)))
      | 3, h_ => cases h_; exact Ob.f rfl .n fun N => (O.ldP rfl ty31)
      | 4, h_ => cases h_; exact Ob.f rfl .n fun N => (O.ld rfl (mem_app N (mem_at 0 rfl)) (Lens.id _) ty31 rfl)
      | 5, h_ => cases h_; exact Ob.f rfl .n fun N => (O.fn fn88 (evs.c rfl (evs.l rfl (kC_Z (by exact wOk_Sm hk (by omega))) evs.nil)) (c_ref02_Cmp (xs.getD i 0) ((xs.take i).sum) (Sm_small2 (wOk_get hk (show i < xs.length by omega)) (wOk_sum hk i (by omega)) (wOk_len hk) (by omega))))
      | 6, h_ => cases h_; exact Ob.f rfl .n fun N => (O.le rfl rfl)
      | n_ + 7, h_ => simp at h_
    refine WP.nil ?_
    refine QE.next ?_
    refine CW.condD rfl (fun h_t18 => ?_) (fun h_t18 => ?_)
    · refine CW.seq ?_
      refine CW.region ?_
      refine WP.s .n (O.asg rfl) ?_
      refine WP.nil ?_
      refine QE.next ?_
      refine CW.ret ?_
      refine QE.thenR ?_
      refine QE.blkR ?_
      refine QE.thenR ?_
      refine QE.thenR ?_
      refine QE.blkR ?_
      refine QE.thenR ?_
      refine ST.told 2 rfl (is_eq (y := (climb xs)) (by rw [climb_no (i := i) (by omega) (by have := sgn_le h_t18; omega)])) ?_
      exact QE.done (.inl rfl) rfl (ResOk.t rfl ResOk.nil) (OImp.sub (List.nil_sublist _)) ⟨rfl, rfl⟩
    · refine CW.skip ?_
      refine QE.next ?_
      refine CW.draw (Γ := [.fr (kC.is ((xs.take i).sum)), .fr ((kSl kZ).is xs), .fr ((kInt .i64).is (i : Int)), .fr (VP.pim kZ (xs.getD i 0)), .fr (kZ.is (xs.getD i 0)), .fr (kC.is (((xs.take i).sum) + (xs.getD i 0)))]) (lates := [false, false, false, false, false, false]) (by kernel_rfl) (Chk.of rfl (by kernel_rfl) rfl) (fun _ _ _ _ _ h => h) (fun q_ x_ h_ => ?_) (fun σ => ?_)
      · match q_, h_ with
        | 0, h_ => cases h_; exact Ob.f rfl .n fun N => (O.ld rfl (mem_app N (mem_at 0 rfl)) (Lens.id _) ty31 rfl)
        | 1, h_ => cases h_; exact Ob.f rfl .n fun N => (O.mv rfl)
        | 2, h_ => cases h_; exact Ob.f rfl .n fun N => (O.mv rfl)
        | 3, h_ => cases h_; exact Ob.f rfl .n fun N => (O.ix i rfl rfl Try.underlying27 ty31 rfl (v := (xs.getD i 0)) (gd 0 (by omega)))
        | 4, h_ => cases h_; exact Ob.f rfl .n fun N => (O.ldP rfl ty31)
        | 5, h_ => cases h_; exact Ob.f rfl .n fun N => (O.fn fn79 (evs.l rfl (kC_Z (by exact wOk_Sm hk (by omega))) (evs.c rfl evs.nil)) (c_ref02_Add ((xs.take i).sum) (xs.getD i 0)))
        | n_ + 6, h_ => simp at h_
      refine WP.t .n (O.stW (l := kC) (u := ((xs.take i).sum) + (xs.getD i 0)) 0 rfl rfl rfl ty31 rfl (VP.le_refl _)) ?_
      refine WP.nil ?_
      refine QE.blkN ?_
      refine QE.next ?_
      refine CW.region ?_
      refine WP.s .n (O.mv rfl) ?_
      refine WP.s .n (O.add rfl rfl (c := ((i : Int) + 1)) (w64 (by omega))) ?_
      refine WP.s .n (O.asg rfl) ?_
      refine WP.nil ?_
      refine ST.obtold 0 rfl (OB.box_eq (y := ((xs.take (i + 1)).sum)) (take_sum (by omega)).symm) ?_
      exact QE.round (i + 1) (by omega) ⟨by omega, climbTo_s hc (sgn_gt h_t18)⟩ (Imp.cons rfl (Imp.cons rfl (Imp.consLe rfl (is_eq (y := (((i + 1) : Nat) : Int)) (by first | omega | rfl | assumption)) Imp.nil))) (OImp.refl _)
  · refine CW.exit ?_
    refine QE.thenE ?_
    refine QE.thenE ?_
    refine QE.blkH ?_
    refine QE.next ?_
    refine CW.seq ?_
    refine CW.region ?_
    refine WP.s .n (O.asg rfl) ?_
    refine WP.nil ?_
    refine QE.next ?_
    refine CW.ret ?_
    refine ST.told 2 rfl (is_eq (y := (climb xs)) (by rw [climb_yes (i := i) (by omega) hc])) ?_
    exact QE.done (.inl rfl) rfl (ResOk.t rfl ResOk.nil) (OImp.sub (List.nil_sublist _)) ⟨rfl, rfl⟩

set_option maxRecDepth 20000 in
set_option maxHeartbeats 1000000 in
theorem c_ref24_choices (xs : List Int) (s : Int) (hk : wOk xs = true) (hss : Ss s) (nn : Nat) (c : List Int) (i : Nat) (him : i + nn = xs.length) (hcr : Plc xs c) (hcl : c.length ≤ i) : Fn Try.prog 84 [(kSl kZ).is xs, kZ.is s, (kSl kI64).is c, (kInt .i64).is (i : Int)] ((kSl (kSl kI64)).is (chA xs s nn c)) := by
  revert c i
  refine Nat.strongRecOn nn ?_
  intro nn ih c i him hcr hcl
  refine Con.enter Try.func84 rfl rfl fun m w => ?_
  refine ST.fact (i := 0) rfl sl_len fun hB => ?_
  have hl := wOk_len hk
  have hpw : 2 ^ nn ≤ 2 ^ 10 := Nat.pow_le_pow_right (by decide) (by omega)
  refine CW.seq ?_
  refine CW.region ?_
  refine WP.bx .n rfl fun b1 => ?_
  refine WP.s .n (O.asg rfl) ?_
  refine WP.nil ?_
  refine QE.next ?_
  refine CW.seq ?_
  refine CW.region ?_
  refine WP.s .n (O.asg rfl) ?_
  refine WP.nil ?_
  refine QE.next ?_
  refine CW.seq ?_
  refine CW.seq ?_
  refine CW.draw (Γ := [.fr ((kSl kZ).is xs), .fr ((kSl kI64).is c), .fr (kC.is (tot xs c)), .fr (kZ.is s), .fr ((kInt .i64).is (((tot xs c) - s).sign)), .fr (kBool.is (decide ((((tot xs c) - s).sign) = 0)))]) (lates := [false, false, false, false, false, false]) (by kernel_rfl) (Chk.of rfl (by kernel_rfl) rfl) (fun _ _ _ _ _ h => h) (fun q_ x_ h_ => ?_) (fun σ => ?_)
  · match q_, h_ with
    | 0, h_ => cases h_; exact Ob.f rfl .n fun N => (O.mv rfl)
    | 1, h_ => cases h_; exact Ob.f rfl .n fun N => (O.mv rfl)
    | 2, h_ => cases h_; exact Ob.f rfl .n fun N => (O.fn fn159 (evs.c rfl (evs.c rfl evs.nil)) (c_ref24_total xs c (by omega) hcr (by omega)))
    | 3, h_ => cases h_; exact Ob.f rfl .n fun N => (O.ld rfl (mem_app N (mem_at 0 rfl)) (Lens.id _) ty31 rfl)
    | 4, h_ => cases h_; exact Ob.f rfl .n fun N => (O.fn fn88 (evs.l rfl (kC_Z (by exact tot_Sm' hk hcr (by omega))) (evs.c rfl evs.nil)) (c_ref02_Cmp (tot xs c) s (hss.2 _ (tot_10 hk hcr (by omega)).1 (tot_10 hk hcr (by omega)).2)))
    | 5, h_ => cases h_; exact Ob.f rfl .n fun N => (O.eq rfl rfl)
    | n_ + 6, h_ => simp at h_
  refine WP.nil ?_
  refine QE.next ?_
  refine CW.condD rfl (fun h_t18 => ?_) (fun h_t18 => ?_)
  · refine CW.seq ?_
    refine CW.region ?_
    refine WP.s .n (O.asg rfl) ?_
    refine WP.nil ?_
    refine QE.next ?_
    refine CW.region ?_
    refine WP.s .n (O.mv rfl) ?_
    refine WP.s .n (O.mv rfl) ?_
    refine WP.s .n (O.mv rfl) ?_
    refine ST.nilrow 3 kI64 ?_
    refine WP.ap 0 .n rfl rfl rfl (VP.le_refl _) Try.underlying28 el3_int (by first | omega | (simp <;> omega) | (simp only [List.length_append]; omega)) fun v2 => ?_
    refine ST.freeze 0 rfl (.keep (i := 0) rfl (.keep (i := 1) rfl (.keep (i := 2) rfl (.keep (i := 3) rfl (.keep (i := 5) rfl (.keep (i := 8) rfl (.keep (i := 9) rfl (.keep (i := 10) rfl (.keep (i := 13) rfl (.keep (i := 14) rfl (.keep (i := 15) rfl (.keep (i := 16) rfl (.keep (i := 17) rfl (.keep (i := 18) rfl (.keep (i := 19) rfl (.keep (i := 20) rfl (.keep (i := 21) rfl (.hit (i := 22) rfl .nil)))))))))))))))))) ?_
    refine WP.s .n (O.bs Try.underlying126 el28_sl_int (evl.c rfl evl.n) rfl (by decide)) ?_
    refine ST.nilrow 28 (kSl kI64) ?_
    refine WP.ap 0 .n rfl rfl rfl (VP.le_refl _) Try.underlying126 el28_sl_int (by first | omega | (simp <;> omega) | (simp only [List.length_append]; omega)) fun v3 => ?_
    refine WP.s .n (O.asg rfl) ?_
    refine WP.nil ?_
    refine QE.next ?_
    refine CW.seq ?_
    refine CW.seq ?_
    refine CW.region ?_
    refine WP.s .n (O.mv rfl) ?_
    refine WP.s .n (O.asg rfl) ?_
    refine WP.nil ?_
    refine QE.next ?_
    refine CW.block ?_
    refine CW.loop3 (fun (k : Nat) (out : List (List Int)) (v : Value) => i ≤ k ∧ k ≤ xs.length ∧ out ++ chK xs s (xs.length - k) c = chA xs s nn c) (fun (k : Nat) (out : List (List Int)) (v : Value) => [(0, (kSl kZ).is xs), (2, (kSl kI64).is c), (5, VP.ex (.pointer (some ⟨b1, 0, none⟩))), (9, VP.ex v), (11, (kInt .i64).is (k : Int))]) (fun (k : Nat) (out : List (List Int)) (v : Value) => [OB.row v 28 (kSl kI64) out, OB.box b1 31 kZ s]) (fun (k : Nat) (out : List (List Int)) (v : Value) => xs.length - k) i [c] v3 ⟨Nat.le_refl _, by omega, by rw [← chA_cond, if_pos (sgn_eq h_t18), show xs.length - i = nn from by omega]⟩ (Imp.cons rfl (Imp.cons rfl (Imp.cons rfl (Imp.cons rfl (Imp.cons rfl Imp.nil))))) (OImp.refl _) ?_
    intro k out v ⟨hik, hkn, hR⟩
    have hcm := chA_len xs s nn c
    have hol : out.length ≤ 2 ^ nn := by rw [← hR, List.length_append] at hcm; omega
    refine CW.seq ?_
    refine CW.seq ?_
    refine CW.region ?_
    refine WP.s .n (O.mv rfl) ?_
    refine WP.s .n (O.mv rfl) ?_
    refine WP.s .n (O.lenS rfl Try.underlying27) ?_
    refine WP.s .n (O.lt rfl rfl) ?_
    refine WP.nil ?_
    refine QE.next ?_
    refine CW.condD rfl (fun h_t29 => ?_) (fun h_t29 => ?_)
    · refine CW.skip ?_
      refine QE.next ?_
      refine CW.seq ?_
      refine CW.block ?_
      refine CW.seq ?_
      refine CW.region ?_
      refine WP.s .n (O.asg rfl) ?_
      refine WP.nil ?_
      refine QE.next ?_
      refine CW.seq ?_
      refine CW.region ?_
      refine WP.s .n (O.mv rfl) ?_
      refine WP.s .n (O.mv rfl) ?_
      refine ST.nilrow 3 kI64 ?_
      refine WP.ap 0 .n rfl rfl rfl (VP.le_refl _) Try.underlying28 el3_int (by first | omega | (simp <;> omega) | (simp only [List.length_append]; omega)) fun v4 => ?_
      refine WP.s .n (O.asg rfl) ?_
      refine WP.nil ?_
      refine QE.next ?_
      have hcm2 : (out ++ chA xs s (xs.length - (k + 1)) (c ++ [(k : Int)])).length ≤ 2 ^ nn := by rw [← hR, ← chK_s (k := k) (by omega), ← List.append_assoc, List.length_append] at hcm; omega
      rw [List.length_append] at hcm2
      refine CW.any (by kernel_rfl) ?_
      refine DA.first 0 rfl (by kernel_rfl) (by kernel_rfl) (by kernel_rfl) (fun _ _ _ _ _ h => h) .n (OV.mv rfl) ?_
      refine DA.first 1 rfl (by kernel_rfl) (by kernel_rfl) (by kernel_rfl) (fun _ _ _ _ _ h => h) .n (OV.mv rfl) ?_
      refine DA.first 3 rfl (by kernel_rfl) (by kernel_rfl) (by kernel_rfl) (fun _ _ _ _ _ h => h) .n (OV.mv rfl) ?_
      refine DA.first 4 rfl (by kernel_rfl) (by kernel_rfl) (by kernel_rfl) (fun _ _ _ _ _ h => h) .n (OV.mv rfl) ?_
      refine DA.first 7 rfl (by kernel_rfl) (by kernel_rfl) (by kernel_rfl) (fun _ _ _ _ _ h => h) .n (OV.mv rfl) ?_
      refine DA.first 8 rfl (by kernel_rfl) (by kernel_rfl) (by kernel_rfl) (fun _ _ _ _ _ h => h) .n (OV.add rfl rfl (c := ((k : Int) + 1)) (w64 (by omega))) ?_
      refine DA.go 2 [5] (by kernel_rfl) ⟨?_, ⟨?_, trivial⟩⟩
      · refine DO.w rfl ?_
        refine WP.s .n (O.ld rfl (mem_at 2 rfl) (Lens.id _) ty31 rfl) ?_
        refine WP.nil ?_
        refine DO.nx ?_
        refine DA.go 5 [] (by kernel_rfl) ⟨?_, trivial⟩
        refine DO.w rfl ?_
        refine WP.s .n (O.bs Try.underlying28 el3_int (evl.l rfl (i64_int (by omega)) evl.n) rfl (by decide)) ?_
        refine WP.nil ?_
        refine DO.nx ?_
        refine DA.go 6 [] (by kernel_rfl) ⟨?_, trivial⟩
        refine DO.w rfl ?_
        refine WP.ap 0 .n rfl rfl rfl (VP.le_refl _) Try.underlying28 el3_int (by first | omega | (simp <;> omega) | (simp only [List.length_append]; omega)) fun v5 => ?_
        refine WP.nil ?_
        refine DO.nx ?_
        refine DA.go 9 [] (by kernel_rfl) ⟨?_, trivial⟩
        refine ST.freeze 0 rfl (.keep (i := 0) rfl (.keep (i := 2) rfl (.keep (i := 5) rfl (.keep (i := 9) rfl (.keep (i := 11) rfl (.keep (i := 12) rfl (.keep (i := 26) rfl (.keep (i := 27) rfl (.keep (i := 28) rfl (.keep (i := 29) rfl (.keep (i := 32) rfl (.keep (i := 33) rfl (.keep (i := 34) rfl (.keep (i := 35) rfl (.keep (i := 36) rfl (.keep (i := 37) rfl (.keep (i := 38) rfl (.keep (i := 39) rfl (.keep (i := 40) rfl (.hit (i := 41) rfl (.keep (i := 42) rfl (.keep (i := 43) rfl .nil)))))))))))))))))))))) ?_
        refine DO.w rfl ?_
        refine WP.s .n (O.fn fn84 (evs.c rfl (evs.c rfl (evs.c rfl (evs.l rfl (is_eq (y := (((k + 1) : Nat) : Int)) (by first | omega | rfl | assumption | simp)) evs.nil)))) (ih (xs.length - (k + 1)) (by omega) (c ++ [(k : Int)]) (k + 1) (by omega) (Plc_app hcr (by omega)) (by simp; omega))) ?_
        refine WP.nil ?_
        refine DO.nx ?_
        refine DA.go 10 [] (by kernel_rfl) ⟨?_, trivial⟩
        refine DO.w rfl ?_
        refine WP.ap 0 .n rfl rfl rfl (VP.le_refl _) Try.underlying126 el28_sl_int (by first | omega | (simp <;> omega) | (simp only [List.length_append]; omega)) fun v6 => ?_
        refine WP.nil ?_
        refine DO.nx ?_
        refine DA.go 11 [] (by kernel_rfl) ⟨?_, trivial⟩
        refine DO.w rfl ?_
        refine WP.s .n (O.asg rfl) ?_
        refine WP.nil ?_
        refine DO.nx ?_
        refine DA.nil (by kernel_rfl) ?_
        refine QE.blkN ?_
        refine QE.next ?_
        refine CW.region ?_
        refine WP.s .n (O.mv rfl) ?_
        refine WP.s .n (O.add rfl rfl (c := ((k : Int) + 1)) (w64 (by omega))) ?_
        refine WP.s .n (O.asg rfl) ?_
        refine WP.nil ?_
        exact QE.round3 (k + 1) (out ++ chA xs s (xs.length - (k + 1)) (c ++ [(k : Int)])) v6 (by omega) ⟨by omega, by omega, by rw [List.append_assoc, chK_s (by omega)]; exact hR⟩ (Imp.cons rfl (Imp.cons rfl (Imp.cons rfl (Imp.cons rfl (Imp.consLe rfl (is_eq (y := (((k + 1) : Nat) : Int)) (by first | omega | rfl | assumption | simp)) Imp.nil))))) (OImp.refl _)
      · refine DO.w rfl ?_
        refine WP.s .n (O.bs Try.underlying28 el3_int (evl.l rfl (i64_int (by omega)) evl.n) rfl (by decide)) ?_
        refine WP.nil ?_
        refine DO.nx ?_
        refine DA.go 2 [6] (by kernel_rfl) ⟨?_, ⟨?_, trivial⟩⟩
        · refine DO.w rfl ?_
          refine WP.s .n (O.ld rfl (mem_at 2 rfl) (Lens.id _) ty31 rfl) ?_
          refine WP.nil ?_
          refine DO.nx ?_
          refine DA.go 6 [] (by kernel_rfl) ⟨?_, trivial⟩
          refine DO.w rfl ?_
          refine WP.ap 0 .n rfl rfl rfl (VP.le_refl _) Try.underlying28 el3_int (by first | omega | (simp <;> omega) | (simp only [List.length_append]; omega)) fun v7 => ?_
          refine WP.nil ?_
          refine DO.nx ?_
          refine DA.go 9 [] (by kernel_rfl) ⟨?_, trivial⟩
          refine ST.freeze 0 rfl (.keep (i := 0) rfl (.keep (i := 2) rfl (.keep (i := 5) rfl (.keep (i := 9) rfl (.keep (i := 11) rfl (.keep (i := 12) rfl (.keep (i := 26) rfl (.keep (i := 27) rfl (.keep (i := 28) rfl (.keep (i := 29) rfl (.keep (i := 32) rfl (.keep (i := 33) rfl (.keep (i := 34) rfl (.keep (i := 35) rfl (.keep (i := 36) rfl (.keep (i := 37) rfl (.keep (i := 38) rfl (.keep (i := 39) rfl (.keep (i := 40) rfl (.hit (i := 41) rfl (.keep (i := 42) rfl (.keep (i := 43) rfl .nil)))))))))))))))))))))) ?_
          refine DO.w rfl ?_
          refine WP.s .n (O.fn fn84 (evs.c rfl (evs.c rfl (evs.c rfl (evs.l rfl (is_eq (y := (((k + 1) : Nat) : Int)) (by first | omega | rfl | assumption | simp)) evs.nil)))) (ih (xs.length - (k + 1)) (by omega) (c ++ [(k : Int)]) (k + 1) (by omega) (Plc_app hcr (by omega)) (by simp; omega))) ?_
          refine WP.nil ?_
          refine DO.nx ?_
          refine DA.go 10 [] (by kernel_rfl) ⟨?_, trivial⟩
          refine DO.w rfl ?_
          refine WP.ap 0 .n rfl rfl rfl (VP.le_refl _) Try.underlying126 el28_sl_int (by first | omega | (simp <;> omega) | (simp only [List.length_append]; omega)) fun v8 => ?_
          refine WP.nil ?_
          refine DO.nx ?_
          refine DA.go 11 [] (by kernel_rfl) ⟨?_, trivial⟩
          refine DO.w rfl ?_
          refine WP.s .n (O.asg rfl) ?_
          refine WP.nil ?_
          refine DO.nx ?_
          refine DA.nil (by kernel_rfl) ?_
          refine QE.blkN ?_
          refine QE.next ?_
          refine CW.region ?_
          refine WP.s .n (O.mv rfl) ?_
          refine WP.s .n (O.add rfl rfl (c := ((k : Int) + 1)) (w64 (by omega))) ?_
          refine WP.s .n (O.asg rfl) ?_
          refine WP.nil ?_
          exact QE.round3 (k + 1) (out ++ chA xs s (xs.length - (k + 1)) (c ++ [(k : Int)])) v8 (by omega) ⟨by omega, by omega, by rw [List.append_assoc, chK_s (by omega)]; exact hR⟩ (Imp.cons rfl (Imp.cons rfl (Imp.cons rfl (Imp.cons rfl (Imp.consLe rfl (is_eq (y := (((k + 1) : Nat) : Int)) (by first | omega | rfl | assumption | simp)) Imp.nil))))) (OImp.refl _)
        · refine DO.w rfl ?_
          refine WP.ap 0 .n rfl rfl rfl (VP.le_refl _) Try.underlying28 el3_int (by first | omega | (simp <;> omega) | (simp only [List.length_append]; omega)) fun v9 => ?_
          refine WP.nil ?_
          refine DO.nx ?_
          refine DA.go 2 [] (by kernel_rfl) ⟨?_, trivial⟩
          refine DO.w rfl ?_
          refine WP.s .n (O.ld rfl (mem_at 2 rfl) (Lens.id _) ty31 rfl) ?_
          refine WP.nil ?_
          refine DO.nx ?_
          refine DA.go 9 [] (by kernel_rfl) ⟨?_, trivial⟩
          refine ST.freeze 0 rfl (.keep (i := 0) rfl (.keep (i := 2) rfl (.keep (i := 5) rfl (.keep (i := 9) rfl (.keep (i := 11) rfl (.keep (i := 12) rfl (.keep (i := 26) rfl (.keep (i := 27) rfl (.keep (i := 28) rfl (.keep (i := 29) rfl (.keep (i := 32) rfl (.keep (i := 33) rfl (.keep (i := 34) rfl (.keep (i := 35) rfl (.keep (i := 36) rfl (.keep (i := 37) rfl (.keep (i := 38) rfl (.keep (i := 39) rfl (.keep (i := 40) rfl (.hit (i := 41) rfl (.keep (i := 42) rfl (.keep (i := 43) rfl .nil)))))))))))))))))))))) ?_
          refine DO.w rfl ?_
          refine WP.s .n (O.fn fn84 (evs.c rfl (evs.c rfl (evs.c rfl (evs.l rfl (is_eq (y := (((k + 1) : Nat) : Int)) (by first | omega | rfl | assumption | simp)) evs.nil)))) (ih (xs.length - (k + 1)) (by omega) (c ++ [(k : Int)]) (k + 1) (by omega) (Plc_app hcr (by omega)) (by simp; omega))) ?_
          refine WP.nil ?_
          refine DO.nx ?_
          refine DA.go 10 [] (by kernel_rfl) ⟨?_, trivial⟩
          refine DO.w rfl ?_
          refine WP.ap 0 .n rfl rfl rfl (VP.le_refl _) Try.underlying126 el28_sl_int (by first | omega | (simp <;> omega) | (simp only [List.length_append]; omega)) fun v10 => ?_
          refine WP.nil ?_
          refine DO.nx ?_
          refine DA.go 11 [] (by kernel_rfl) ⟨?_, trivial⟩
          refine DO.w rfl ?_
          refine WP.s .n (O.asg rfl) ?_
          refine WP.nil ?_
          refine DO.nx ?_
          refine DA.nil (by kernel_rfl) ?_
          refine QE.blkN ?_
          refine QE.next ?_
          refine CW.region ?_
          refine WP.s .n (O.mv rfl) ?_
          refine WP.s .n (O.add rfl rfl (c := ((k : Int) + 1)) (w64 (by omega))) ?_
          refine WP.s .n (O.asg rfl) ?_
          refine WP.nil ?_
          exact QE.round3 (k + 1) (out ++ chA xs s (xs.length - (k + 1)) (c ++ [(k : Int)])) v10 (by omega) ⟨by omega, by omega, by rw [List.append_assoc, chK_s (by omega)]; exact hR⟩ (Imp.cons rfl (Imp.cons rfl (Imp.cons rfl (Imp.cons rfl (Imp.consLe rfl (is_eq (y := (((k + 1) : Nat) : Int)) (by first | omega | rfl | assumption | simp)) Imp.nil))))) (OImp.refl _)
    · refine CW.exit ?_
      refine QE.thenE ?_
      refine QE.thenE ?_
      refine QE.blkH ?_
      refine QE.next ?_
      refine CW.seq ?_
      refine CW.region ?_
      refine WP.s .n (O.mv rfl) ?_
      refine WP.s .n (O.asg rfl) ?_
      refine WP.nil ?_
      refine QE.next ?_
      refine CW.ret ?_
      refine ST.freeze 0 rfl (.keep (i := 0) rfl (.keep (i := 2) rfl (.keep (i := 5) rfl (.hit (i := 8) rfl (.hit (i := 9) rfl (.keep (i := 11) rfl (.keep (i := 26) rfl (.keep (i := 27) rfl (.keep (i := 28) rfl (.keep (i := 29) rfl (.hit (i := 46) rfl .nil))))))))))) ?_
      refine ST.told 8 rfl (is_eq (y := (chA xs s nn c)) (by rw [← hR, show xs.length - k = 0 from by omega]; simp [chK])) ?_
      exact QE.done (.inl rfl) rfl (ResOk.t rfl ResOk.nil) (OImp.sub (List.nil_sublist _)) ⟨rfl, rfl⟩
  · refine CW.skip ?_
    refine QE.next ?_
    refine CW.seq ?_
    refine CW.seq ?_
    refine CW.region ?_
    refine WP.s .n (O.mv rfl) ?_
    refine WP.s .n (O.asg rfl) ?_
    refine WP.nil ?_
    refine QE.next ?_
    refine CW.block ?_
    refine ST.nilrow 28 (kSl kI64) ?_
    refine CW.loop3 (fun (k : Nat) (out : List (List Int)) (v : Value) => i ≤ k ∧ k ≤ xs.length ∧ out ++ chK xs s (xs.length - k) c = chA xs s nn c) (fun (k : Nat) (out : List (List Int)) (v : Value) => [(0, (kSl kZ).is xs), (2, (kSl kI64).is c), (5, VP.ex (.pointer (some ⟨b1, 0, none⟩))), (9, VP.ex v), (11, (kInt .i64).is (k : Int))]) (fun (k : Nat) (out : List (List Int)) (v : Value) => [OB.row v 28 (kSl kI64) out, OB.box b1 31 kZ s]) (fun (k : Nat) (out : List (List Int)) (v : Value) => xs.length - k) i [] (.slice none 0 0) ⟨Nat.le_refl _, by omega, by rw [← chA_cond, if_neg (sgn_ne h_t18), show xs.length - i = nn from by omega]⟩ (Imp.cons rfl (Imp.cons rfl (Imp.cons rfl (Imp.cons rfl (Imp.cons rfl Imp.nil))))) (OImp.refl _) ?_
    intro k out v ⟨hik, hkn, hR⟩
    have hcm := chA_len xs s nn c
    have hol : out.length ≤ 2 ^ nn := by rw [← hR, List.length_append] at hcm; omega
    refine CW.seq ?_
    refine CW.seq ?_
    refine CW.region ?_
    refine WP.s .n (O.mv rfl) ?_
    refine WP.s .n (O.mv rfl) ?_
    refine WP.s .n (O.lenS rfl Try.underlying27) ?_
    refine WP.s .n (O.lt rfl rfl) ?_
    refine WP.nil ?_
    refine QE.next ?_
    refine CW.condD rfl (fun h_t29 => ?_) (fun h_t29 => ?_)
    · refine CW.skip ?_
      refine QE.next ?_
      refine CW.seq ?_
      refine CW.block ?_
      refine CW.seq ?_
      refine CW.region ?_
      refine WP.s .n (O.asg rfl) ?_
      refine WP.nil ?_
      refine QE.next ?_
      refine CW.seq ?_
      refine CW.region ?_
      refine WP.s .n (O.mv rfl) ?_
      refine WP.s .n (O.mv rfl) ?_
      refine ST.nilrow 3 kI64 ?_
      refine WP.ap 0 .n rfl rfl rfl (VP.le_refl _) Try.underlying28 el3_int (by first | omega | (simp <;> omega) | (simp only [List.length_append]; omega)) fun v11 => ?_
      refine WP.s .n (O.asg rfl) ?_
      refine WP.nil ?_
      refine QE.next ?_
      have hcm2 : (out ++ chA xs s (xs.length - (k + 1)) (c ++ [(k : Int)])).length ≤ 2 ^ nn := by rw [← hR, ← chK_s (k := k) (by omega), ← List.append_assoc, List.length_append] at hcm; omega
      rw [List.length_append] at hcm2
      refine CW.any (by kernel_rfl) ?_
      refine DA.first 0 rfl (by kernel_rfl) (by kernel_rfl) (by kernel_rfl) (fun _ _ _ _ _ h => h) .n (OV.mv rfl) ?_
      refine DA.first 1 rfl (by kernel_rfl) (by kernel_rfl) (by kernel_rfl) (fun _ _ _ _ _ h => h) .n (OV.mv rfl) ?_
      refine DA.first 3 rfl (by kernel_rfl) (by kernel_rfl) (by kernel_rfl) (fun _ _ _ _ _ h => h) .n (OV.mv rfl) ?_
      refine DA.first 4 rfl (by kernel_rfl) (by kernel_rfl) (by kernel_rfl) (fun _ _ _ _ _ h => h) .n (OV.mv rfl) ?_
      refine DA.first 7 rfl (by kernel_rfl) (by kernel_rfl) (by kernel_rfl) (fun _ _ _ _ _ h => h) .n (OV.mv rfl) ?_
      refine DA.first 8 rfl (by kernel_rfl) (by kernel_rfl) (by kernel_rfl) (fun _ _ _ _ _ h => h) .n (OV.add rfl rfl (c := ((k : Int) + 1)) (w64 (by omega))) ?_
      refine DA.go 2 [5] (by kernel_rfl) ⟨?_, ⟨?_, trivial⟩⟩
      · refine DO.w rfl ?_
        refine WP.s .n (O.ld rfl (mem_at 2 rfl) (Lens.id _) ty31 rfl) ?_
        refine WP.nil ?_
        refine DO.nx ?_
        refine DA.go 5 [] (by kernel_rfl) ⟨?_, trivial⟩
        refine DO.w rfl ?_
        refine WP.s .n (O.bs Try.underlying28 el3_int (evl.l rfl (i64_int (by omega)) evl.n) rfl (by decide)) ?_
        refine WP.nil ?_
        refine DO.nx ?_
        refine DA.go 6 [] (by kernel_rfl) ⟨?_, trivial⟩
        refine DO.w rfl ?_
        refine WP.ap 0 .n rfl rfl rfl (VP.le_refl _) Try.underlying28 el3_int (by first | omega | (simp <;> omega) | (simp only [List.length_append]; omega)) fun v12 => ?_
        refine WP.nil ?_
        refine DO.nx ?_
        refine DA.go 9 [] (by kernel_rfl) ⟨?_, trivial⟩
        refine ST.freeze 0 rfl (.keep (i := 0) rfl (.keep (i := 2) rfl (.keep (i := 5) rfl (.keep (i := 9) rfl (.keep (i := 11) rfl (.keep (i := 12) rfl (.keep (i := 26) rfl (.keep (i := 27) rfl (.keep (i := 28) rfl (.keep (i := 29) rfl (.keep (i := 32) rfl (.keep (i := 33) rfl (.keep (i := 34) rfl (.keep (i := 35) rfl (.keep (i := 36) rfl (.keep (i := 37) rfl (.keep (i := 38) rfl (.keep (i := 39) rfl (.keep (i := 40) rfl (.hit (i := 41) rfl (.keep (i := 42) rfl (.keep (i := 43) rfl .nil)))))))))))))))))))))) ?_
        refine DO.w rfl ?_
        refine WP.s .n (O.fn fn84 (evs.c rfl (evs.c rfl (evs.c rfl (evs.l rfl (is_eq (y := (((k + 1) : Nat) : Int)) (by first | omega | rfl | assumption | simp)) evs.nil)))) (ih (xs.length - (k + 1)) (by omega) (c ++ [(k : Int)]) (k + 1) (by omega) (Plc_app hcr (by omega)) (by simp; omega))) ?_
        refine WP.nil ?_
        refine DO.nx ?_
        refine DA.go 10 [] (by kernel_rfl) ⟨?_, trivial⟩
        refine DO.w rfl ?_
        refine WP.ap 0 .n rfl rfl rfl (VP.le_refl _) Try.underlying126 el28_sl_int (by first | omega | (simp <;> omega) | (simp only [List.length_append]; omega)) fun v13 => ?_
        refine WP.nil ?_
        refine DO.nx ?_
        refine DA.go 11 [] (by kernel_rfl) ⟨?_, trivial⟩
        refine DO.w rfl ?_
        refine WP.s .n (O.asg rfl) ?_
        refine WP.nil ?_
        refine DO.nx ?_
        refine DA.nil (by kernel_rfl) ?_
        refine QE.blkN ?_
        refine QE.next ?_
        refine CW.region ?_
        refine WP.s .n (O.mv rfl) ?_
        refine WP.s .n (O.add rfl rfl (c := ((k : Int) + 1)) (w64 (by omega))) ?_
        refine WP.s .n (O.asg rfl) ?_
        refine WP.nil ?_
        exact QE.round3 (k + 1) (out ++ chA xs s (xs.length - (k + 1)) (c ++ [(k : Int)])) v13 (by omega) ⟨by omega, by omega, by rw [List.append_assoc, chK_s (by omega)]; exact hR⟩ (Imp.cons rfl (Imp.cons rfl (Imp.cons rfl (Imp.cons rfl (Imp.consLe rfl (is_eq (y := (((k + 1) : Nat) : Int)) (by first | omega | rfl | assumption | simp)) Imp.nil))))) (OImp.refl _)
      · refine DO.w rfl ?_
        refine WP.s .n (O.bs Try.underlying28 el3_int (evl.l rfl (i64_int (by omega)) evl.n) rfl (by decide)) ?_
        refine WP.nil ?_
        refine DO.nx ?_
        refine DA.go 2 [6] (by kernel_rfl) ⟨?_, ⟨?_, trivial⟩⟩
        · refine DO.w rfl ?_
          refine WP.s .n (O.ld rfl (mem_at 2 rfl) (Lens.id _) ty31 rfl) ?_
          refine WP.nil ?_
          refine DO.nx ?_
          refine DA.go 6 [] (by kernel_rfl) ⟨?_, trivial⟩
          refine DO.w rfl ?_
          refine WP.ap 0 .n rfl rfl rfl (VP.le_refl _) Try.underlying28 el3_int (by first | omega | (simp <;> omega) | (simp only [List.length_append]; omega)) fun v14 => ?_
          refine WP.nil ?_
          refine DO.nx ?_
          refine DA.go 9 [] (by kernel_rfl) ⟨?_, trivial⟩
          refine ST.freeze 0 rfl (.keep (i := 0) rfl (.keep (i := 2) rfl (.keep (i := 5) rfl (.keep (i := 9) rfl (.keep (i := 11) rfl (.keep (i := 12) rfl (.keep (i := 26) rfl (.keep (i := 27) rfl (.keep (i := 28) rfl (.keep (i := 29) rfl (.keep (i := 32) rfl (.keep (i := 33) rfl (.keep (i := 34) rfl (.keep (i := 35) rfl (.keep (i := 36) rfl (.keep (i := 37) rfl (.keep (i := 38) rfl (.keep (i := 39) rfl (.keep (i := 40) rfl (.hit (i := 41) rfl (.keep (i := 42) rfl (.keep (i := 43) rfl .nil)))))))))))))))))))))) ?_
          refine DO.w rfl ?_
          refine WP.s .n (O.fn fn84 (evs.c rfl (evs.c rfl (evs.c rfl (evs.l rfl (is_eq (y := (((k + 1) : Nat) : Int)) (by first | omega | rfl | assumption | simp)) evs.nil)))) (ih (xs.length - (k + 1)) (by omega) (c ++ [(k : Int)]) (k + 1) (by omega) (Plc_app hcr (by omega)) (by simp; omega))) ?_
          refine WP.nil ?_
          refine DO.nx ?_
          refine DA.go 10 [] (by kernel_rfl) ⟨?_, trivial⟩
          refine DO.w rfl ?_
          refine WP.ap 0 .n rfl rfl rfl (VP.le_refl _) Try.underlying126 el28_sl_int (by first | omega | (simp <;> omega) | (simp only [List.length_append]; omega)) fun v15 => ?_
          refine WP.nil ?_
          refine DO.nx ?_
          refine DA.go 11 [] (by kernel_rfl) ⟨?_, trivial⟩
          refine DO.w rfl ?_
          refine WP.s .n (O.asg rfl) ?_
          refine WP.nil ?_
          refine DO.nx ?_
          refine DA.nil (by kernel_rfl) ?_
          refine QE.blkN ?_
          refine QE.next ?_
          refine CW.region ?_
          refine WP.s .n (O.mv rfl) ?_
          refine WP.s .n (O.add rfl rfl (c := ((k : Int) + 1)) (w64 (by omega))) ?_
          refine WP.s .n (O.asg rfl) ?_
          refine WP.nil ?_
          exact QE.round3 (k + 1) (out ++ chA xs s (xs.length - (k + 1)) (c ++ [(k : Int)])) v15 (by omega) ⟨by omega, by omega, by rw [List.append_assoc, chK_s (by omega)]; exact hR⟩ (Imp.cons rfl (Imp.cons rfl (Imp.cons rfl (Imp.cons rfl (Imp.consLe rfl (is_eq (y := (((k + 1) : Nat) : Int)) (by first | omega | rfl | assumption | simp)) Imp.nil))))) (OImp.refl _)
        · refine DO.w rfl ?_
          refine WP.ap 0 .n rfl rfl rfl (VP.le_refl _) Try.underlying28 el3_int (by first | omega | (simp <;> omega) | (simp only [List.length_append]; omega)) fun v16 => ?_
          refine WP.nil ?_
          refine DO.nx ?_
          refine DA.go 2 [] (by kernel_rfl) ⟨?_, trivial⟩
          refine DO.w rfl ?_
          refine WP.s .n (O.ld rfl (mem_at 2 rfl) (Lens.id _) ty31 rfl) ?_
          refine WP.nil ?_
          refine DO.nx ?_
          refine DA.go 9 [] (by kernel_rfl) ⟨?_, trivial⟩
          refine ST.freeze 0 rfl (.keep (i := 0) rfl (.keep (i := 2) rfl (.keep (i := 5) rfl (.keep (i := 9) rfl (.keep (i := 11) rfl (.keep (i := 12) rfl (.keep (i := 26) rfl (.keep (i := 27) rfl (.keep (i := 28) rfl (.keep (i := 29) rfl (.keep (i := 32) rfl (.keep (i := 33) rfl (.keep (i := 34) rfl (.keep (i := 35) rfl (.keep (i := 36) rfl (.keep (i := 37) rfl (.keep (i := 38) rfl (.keep (i := 39) rfl (.keep (i := 40) rfl (.hit (i := 41) rfl (.keep (i := 42) rfl (.keep (i := 43) rfl .nil)))))))))))))))))))))) ?_
          refine DO.w rfl ?_
          refine WP.s .n (O.fn fn84 (evs.c rfl (evs.c rfl (evs.c rfl (evs.l rfl (is_eq (y := (((k + 1) : Nat) : Int)) (by first | omega | rfl | assumption | simp)) evs.nil)))) (ih (xs.length - (k + 1)) (by omega) (c ++ [(k : Int)]) (k + 1) (by omega) (Plc_app hcr (by omega)) (by simp; omega))) ?_
          refine WP.nil ?_
          refine DO.nx ?_
          refine DA.go 10 [] (by kernel_rfl) ⟨?_, trivial⟩
          refine DO.w rfl ?_
          refine WP.ap 0 .n rfl rfl rfl (VP.le_refl _) Try.underlying126 el28_sl_int (by first | omega | (simp <;> omega) | (simp only [List.length_append]; omega)) fun v17 => ?_
          refine WP.nil ?_
          refine DO.nx ?_
          refine DA.go 11 [] (by kernel_rfl) ⟨?_, trivial⟩
          refine DO.w rfl ?_
          refine WP.s .n (O.asg rfl) ?_
          refine WP.nil ?_
          refine DO.nx ?_
          refine DA.nil (by kernel_rfl) ?_
          refine QE.blkN ?_
          refine QE.next ?_
          refine CW.region ?_
          refine WP.s .n (O.mv rfl) ?_
          refine WP.s .n (O.add rfl rfl (c := ((k : Int) + 1)) (w64 (by omega))) ?_
          refine WP.s .n (O.asg rfl) ?_
          refine WP.nil ?_
          exact QE.round3 (k + 1) (out ++ chA xs s (xs.length - (k + 1)) (c ++ [(k : Int)])) v17 (by omega) ⟨by omega, by omega, by rw [List.append_assoc, chK_s (by omega)]; exact hR⟩ (Imp.cons rfl (Imp.cons rfl (Imp.cons rfl (Imp.cons rfl (Imp.consLe rfl (is_eq (y := (((k + 1) : Nat) : Int)) (by first | omega | rfl | assumption | simp)) Imp.nil))))) (OImp.refl _)
    · refine CW.exit ?_
      refine QE.thenE ?_
      refine QE.thenE ?_
      refine QE.blkH ?_
      refine QE.next ?_
      refine CW.seq ?_
      refine CW.region ?_
      refine WP.s .n (O.mv rfl) ?_
      refine WP.s .n (O.asg rfl) ?_
      refine WP.nil ?_
      refine QE.next ?_
      refine CW.ret ?_
      refine ST.freeze 0 rfl (.keep (i := 0) rfl (.keep (i := 2) rfl (.keep (i := 5) rfl (.hit (i := 8) rfl (.hit (i := 9) rfl (.keep (i := 11) rfl (.keep (i := 26) rfl (.keep (i := 27) rfl (.keep (i := 28) rfl (.keep (i := 29) rfl (.hit (i := 46) rfl .nil))))))))))) ?_
      refine ST.told 8 rfl (is_eq (y := (chA xs s nn c)) (by rw [← hR, show xs.length - k = 0 from by omega]; simp [chK])) ?_
      exact QE.done (.inl rfl) rfl (ResOk.t rfl ResOk.nil) (OImp.sub (List.nil_sublist _)) ⟨rfl, rfl⟩

set_option maxRecDepth 20000 in
set_option maxHeartbeats 1000000 in
theorem c_ref24_Greedy (xs : List Int) (s : Int) (hss : Ss s) : Fn Try.prog 21 [(kSl kZ).is xs, kZ.is s] (VP.tup [(kSl kI64).is ((gyV xs s).1), kBool.is ((gyV xs s).2.1), (kInt .i64).is ((gyV xs s).2.2)]) := by
  refine Con.enter Try.func21 rfl rfl fun m w => ?_
  refine ST.fact (i := 0) rfl sl_len fun hB => ?_
  refine CW.seq ?_
  refine CW.region ?_
  refine WP.bx .n rfl fun b1 => ?_
  refine WP.s .n (O.asg rfl) ?_
  refine WP.s .n (O.asg rfl) ?_
  refine WP.s .n (O.asg rfl) ?_
  refine WP.nil ?_
  refine QE.next ?_
  refine CW.seq ?_
  refine CW.region ?_
  refine WP.s .n (O.mv rfl) ?_
  refine WP.s .n (O.fn fn31 (evs.c rfl evs.nil) (c_ref24_Valid xs)) ?_
  refine WP.s .n (O.asg rfl) ?_
  refine WP.nil ?_
  refine QE.next ?_
  refine CW.seq ?_
  refine CW.seq ?_
  refine CW.region ?_
  refine WP.s .n (O.mv rfl) ?_
  refine WP.s .n (O.ne rfl rfl) ?_
  refine WP.nil ?_
  refine QE.next ?_
  refine CW.condD rfl (fun h_t12 => ?_) (fun h_t12 => ?_)
  · refine CW.seq ?_
    refine CW.region ?_
    refine WP.s .n (O.mv rfl) ?_
    refine WP.s .n (O.asg rfl) ?_
    refine WP.s .n (O.asg rfl) ?_
    refine WP.s .n (O.asg rfl) ?_
    refine WP.nil ?_
    refine QE.next ?_
    refine CW.ret ?_
    refine QE.thenR ?_
    refine ST.told (q := (kSl kI64).is ([] : List Int)) 4 rfl (nil_le _) ?_
    refine ST.told 4 rfl (is_eq (y := ((gyV xs s).1)) (by rw [gy_1 h_t12])) ?_
    refine ST.told 5 rfl (is_eq (y := ((gyV xs s).2.1)) (by rw [gy_1 h_t12])) ?_
    refine ST.told 6 rfl (is_eq (y := ((gyV xs s).2.2)) (by rw [gy_1 h_t12])) ?_
    exact QE.done (.inl rfl) rfl (ResOk.t rfl (ResOk.t rfl (ResOk.t rfl ResOk.nil))) (OImp.sub (List.nil_sublist _)) ⟨rfl, rfl⟩
  · refine CW.skip ?_
    refine QE.next ?_
    refine CW.seq ?_
    refine CW.seq ?_
    refine CW.region ?_
    refine WP.s .n (O.ld rfl (mem_at 0 rfl) (Lens.id _) ty31 rfl) ?_
    refine WP.s .n (O.fn fn83 (evs.c rfl evs.nil) (c_ref02_Sign s)) ?_
    refine WP.s .n (O.lt rfl rfl) ?_
    refine WP.nil ?_
    refine QE.next ?_
    refine CW.condD rfl (fun h_t16 => ?_) (fun h_t16 => ?_)
    · refine CW.seq ?_
      refine CW.region ?_
      refine WP.s .n (O.asg rfl) ?_
      refine WP.s .n (O.asg rfl) ?_
      refine WP.s .n (O.asg rfl) ?_
      refine WP.nil ?_
      refine QE.next ?_
      refine CW.ret ?_
      refine QE.thenR ?_
      refine ST.told (q := (kSl kI64).is ([] : List Int)) 4 rfl (nil_le _) ?_
      refine ST.told 4 rfl (is_eq (y := ((gyV xs s).1)) (by rw [gy_2 h_t12 (sgn_lt0 h_t16)])) ?_
      refine ST.told 5 rfl (is_eq (y := ((gyV xs s).2.1)) (by rw [gy_2 h_t12 (sgn_lt0 h_t16)])) ?_
      refine ST.told 6 rfl (is_eq (y := ((gyV xs s).2.2)) (by rw [gy_2 h_t12 (sgn_lt0 h_t16)])) ?_
      exact QE.done (.inl rfl) rfl (ResOk.t rfl (ResOk.t rfl (ResOk.t rfl ResOk.nil))) (OImp.sub (List.nil_sublist _)) ⟨rfl, rfl⟩
    · have hs0 : ¬ s < 0 := by have := sgn_ge0 h_t16; omega
      refine CW.skip ?_
      refine QE.next ?_
      refine CW.seq ?_
      refine CW.seq ?_
      refine CW.region ?_
      refine WP.s .n (O.mv rfl) ?_
      refine WP.s .n (O.fn fn36 (evs.c rfl evs.nil) (c_ref24_Climbs xs (wErr_0 h_t12))) ?_
      refine WP.s .n (O.not rfl) ?_
      refine WP.nil ?_
      refine QE.next ?_
      refine CW.cond rfl (fun h_t19 => ?_) (fun h_t19 => ?_)
      · have hcl : climb xs = false := by simpa using h_t19
        refine CW.seq ?_
        refine CW.region ?_
        refine WP.s .n (O.asg rfl) ?_
        refine WP.s .n (O.asg rfl) ?_
        refine WP.s .n (O.asg rfl) ?_
        refine WP.nil ?_
        refine QE.next ?_
        refine CW.ret ?_
        refine QE.thenR ?_
        refine ST.told (q := (kSl kI64).is ([] : List Int)) 4 rfl (nil_le _) ?_
        refine ST.told 4 rfl (is_eq (y := ((gyV xs s).1)) (by rw [gy_3 h_t12 hs0 hcl])) ?_
        refine ST.told 5 rfl (is_eq (y := ((gyV xs s).2.1)) (by rw [gy_3 h_t12 hs0 hcl])) ?_
        refine ST.told 6 rfl (is_eq (y := ((gyV xs s).2.2)) (by rw [gy_3 h_t12 hs0 hcl])) ?_
        exact QE.done (.inl rfl) rfl (ResOk.t rfl (ResOk.t rfl (ResOk.t rfl ResOk.nil))) (OImp.sub (List.nil_sublist _)) ⟨rfl, rfl⟩
      · have hcl : climb xs = true := by simpa using h_t19
        refine CW.skip ?_
        refine QE.next ?_
        refine CW.seq ?_
        refine CW.region ?_
        refine WP.s .n (O.mv rfl) ?_
        refine WP.s .n (O.ld rfl (mem_at 0 rfl) (Lens.id _) ty31 rfl) ?_
        refine WP.s .n (O.fn fn84 (evs.c rfl (evs.c rfl (evs.l rfl (nil_le _) (evs.l rfl (is_eq (y := (0 : Int)) (by first | omega | rfl | assumption)) evs.nil)))) (c_ref24_choices xs s (wErr_0 h_t12) hss xs.length [] 0 (by omega) (Plc_nil xs) (by simp))) ?_
        refine WP.s .n (O.asg rfl) ?_
        refine WP.nil ?_
        refine QE.next ?_
        refine CW.seq ?_
        refine CW.seq ?_
        refine CW.region ?_
        refine WP.s .n (O.mv rfl) ?_
        refine WP.s .n (O.lenS rfl Try.underlying126) ?_
        refine WP.s .n (O.eq rfl rfl) ?_
        refine WP.nil ?_
        refine QE.next ?_
        refine CW.condD rfl (fun h_t25 => ?_) (fun h_t25 => ?_)
        · refine CW.seq ?_
          refine CW.region ?_
          refine WP.s .n (O.asg rfl) ?_
          refine WP.s .n (O.asg rfl) ?_
          refine WP.s .n (O.asg rfl) ?_
          refine WP.nil ?_
          refine QE.next ?_
          refine CW.ret ?_
          refine QE.thenR ?_
          have hne := ch_len0 (s := s) h_t12 hcl (by omega)
          refine ST.told (q := (kSl kI64).is ([] : List Int)) 4 rfl (nil_le _) ?_
          refine ST.told 4 rfl (is_eq (y := ((gyV xs s).1)) (by rw [gy_4 h_t12 hs0 hcl hne])) ?_
          refine ST.told 5 rfl (is_eq (y := ((gyV xs s).2.1)) (by rw [gy_4 h_t12 hs0 hcl hne])) ?_
          refine ST.told 6 rfl (is_eq (y := ((gyV xs s).2.2)) (by rw [gy_4 h_t12 hs0 hcl hne])) ?_
          exact QE.done (.inl rfl) rfl (ResOk.t rfl (ResOk.t rfl (ResOk.t rfl ResOk.nil))) (OImp.sub (List.nil_sublist _)) ⟨rfl, rfl⟩
        · refine CW.skip ?_
          refine QE.next ?_
          refine CW.seq ?_
          refine CW.region ?_
          refine WP.s .n (O.mv rfl) ?_
          refine WP.s .n (O.ix 0 rfl rfl Try.underlying126 ty28 rfl (v := ((chA xs s xs.length []).getD 0 [])) (gd [] (by omega))) ?_
          refine WP.s .n (O.ldP rfl ty28) ?_
          refine WP.s .n (O.asg rfl) ?_
          refine WP.s .n (O.asg rfl) ?_
          refine WP.s .n (O.asg rfl) ?_
          refine WP.nil ?_
          refine QE.next ?_
          refine CW.ret ?_
          have hne := ch_len1 (s := s) h_t12 hcl (by omega)
          refine ST.told 4 rfl (is_eq (y := ((gyV xs s).1)) (by rw [gy_5 h_t12 hs0 hcl hne.1]; exact hne.2)) ?_
          refine ST.told 5 rfl (is_eq (y := ((gyV xs s).2.1)) (by rw [gy_5 h_t12 hs0 hcl hne.1])) ?_
          refine ST.told 6 rfl (is_eq (y := ((gyV xs s).2.2)) (by rw [gy_5 h_t12 hs0 hcl hne.1])) ?_
          exact QE.done (.inl rfl) rfl (ResOk.t rfl (ResOk.t rfl (ResOk.t rfl ResOk.nil))) (OImp.sub (List.nil_sublist _)) ⟨rfl, rfl⟩

set_option maxRecDepth 20000 in
set_option maxHeartbeats 1000000 in
theorem c_law24_KnapGreedy (xs : List Int) (s : Int) (hss : Ss s) : Fn Try.prog 5 [(kSl kZ).is xs, kZ.is s] (kBool.is true) := by
  refine Con.enter Try.func5 rfl rfl fun m w => ?_
  refine CW.seq ?_
  refine CW.region ?_
  refine WP.bx .n rfl fun b1 => ?_
  refine WP.s .n (O.asg rfl) ?_
  refine WP.nil ?_
  refine QE.next ?_
  refine CW.seq ?_
  refine CW.draw (Γ := [.fr ((kSl kZ).is xs), .fr ((kSl kZ).is xs), .fr (kZ.is s), .fr (kZ.is s), .fr (VP.tup [(kSl kI64).is ((gyV xs s).1), kBool.is ((gyV xs s).2.1), (kInt .i64).is ((gyV xs s).2.2)]), .fr (VP.tup [(kSl kI64).is ((gyV xs s).1), kBool.is ((gyV xs s).2.1), (kInt .i64).is ((gyV xs s).2.2)]), .fr ((kSl kI64).is ((gyV xs s).1)), .lt (kBool.is ((gyV xs s).2.1)), .lt ((kInt .i64).is ((gyV xs s).2.2))]) (lates := [false, false, false, false, false, false, false, true, true]) (by kernel_rfl) (Chk.of rfl (by kernel_rfl) rfl) (fun _ _ _ _ _ h => h) (fun q_ x_ h_ => ?_) (fun σ => ?_)
  · match q_, h_ with
    | 0, h_ => cases h_; exact Ob.f rfl .n fun N => (O.mv rfl)
    | 1, h_ => cases h_; exact Ob.f rfl .n fun N => (O.fn fn16 (evs.c rfl evs.nil) (c_law24_owns xs))
    | 2, h_ => cases h_; exact Ob.f rfl .n fun N => (O.ld rfl (mem_app N (mem_at 0 rfl)) (Lens.id _) ty31 rfl)
    | 3, h_ => cases h_; exact Ob.f rfl .n fun N => (O.fn fn20 (evs.c rfl evs.nil) (c_law24_own s))
    | 4, h_ => cases h_; exact Ob.f rfl .n fun N => (O.fn fn19 (evs.c rfl (evs.c rfl evs.nil)) (c_knap_Greedy xs s (by first | exact hss | exact hss.1)))
    | 5, h_ => cases h_; exact Ob.f rfl .n fun N => (O.mv rfl)
    | 6, h_ => cases h_; exact Ob.f rfl .n fun N => (O.ext rfl rfl)
    | 7, h_ => cases h_; exact Ob.l rfl .n (OV.ext rfl rfl)
    | 8, h_ => cases h_; exact Ob.l rfl .n (OV.ext rfl rfl)
    | n_ + 9, h_ => simp at h_
  refine WP.s .n (O.asg rfl) ?_
  refine WP.s .n (O.asg rfl) ?_
  refine WP.s .n (O.asg rfl) ?_
  refine WP.nil ?_
  refine QE.next ?_
  refine CW.seq ?_
  refine CW.region ?_
  refine WP.s .n (O.mv rfl) ?_
  refine WP.s .n (O.ld rfl (mem_at 0 rfl) (Lens.id _) ty31 rfl) ?_
  refine WP.s .n (O.fn fn21 (evs.c rfl (evs.c rfl evs.nil)) (c_ref24_Greedy xs s (by first | exact hss | exact hss.1))) ?_
  refine WP.s .n (O.mv rfl) ?_
  refine WP.s .n (O.ext rfl rfl) ?_
  refine WP.s .n (O.ext rfl rfl) ?_
  refine WP.s .n (O.ext rfl rfl) ?_
  refine WP.s .n (O.asg rfl) ?_
  refine WP.s .n (O.asg rfl) ?_
  refine WP.s .n (O.asg rfl) ?_
  refine WP.nil ?_
  refine QE.next ?_
  refine CW.seq ?_
  refine CW.region ?_
  refine WP.s .n (O.mv rfl) ?_
  refine WP.s .n (O.mv rfl) ?_
  refine WP.s .n (O.eq rfl rfl) ?_
  refine WP.s .n (O.mv rfl) ?_
  refine WP.splitD 30 rfl (fun h_t30 => ?_) (fun h => absurd rfl h)
  refine WP.s (.g rfl rfl) (O.mv rfl) ?_
  refine WP.s (.g rfl rfl) (O.mv rfl) ?_
  refine WP.s (.g rfl rfl) (O.eqB rfl rfl Try.underlying4) ?_
  refine WP.s .n (O.pickT rfl rfl) ?_
  refine WP.s .n (O.mv rfl) ?_
  refine WP.splitD 35 rfl (fun h_t35 => ?_) (fun h => absurd rfl h)
  refine WP.s (.g rfl rfl) (O.mv rfl) ?_
  refine WP.s (.g rfl rfl) (O.mv rfl) ?_
  refine WP.s (.g rfl rfl) (O.fn fn22 (evs.c rfl (evs.c rfl evs.nil)) (c_law24_ints ((gyV xs s).1) ((gyV xs s).1))) ?_
  refine WP.s .n (O.pickT rfl rfl) ?_
  refine WP.s .n (O.asg rfl) ?_
  refine WP.nil ?_
  refine QE.next ?_
  refine CW.ret ?_
  exact QE.done (.inl rfl) rfl (ResOk.tl rfl (is_eq (y := true) (by simp)) ResOk.nil) (OImp.sub (List.nil_sublist _)) ⟨rfl, rfl⟩

end Fw
