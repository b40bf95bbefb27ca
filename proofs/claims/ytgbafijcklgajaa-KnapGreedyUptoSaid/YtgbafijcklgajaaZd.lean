/- What more functions of layer 2 answer. -/
import Derived.Test.YtgbafijcklgajaaQZd
import Derived.Test.YtgbafijcklgajaaZb
import Derived.Test.YtgbafijcklgajaaNi
import Derived.Test.YtgbafijcklgajaaZc
set_option linter.unusedVariables false
set_option linter.unusedSimpArgs false
set_option exponentiation.threshold 70
namespace Fw
open Go Go.Proofs

set_option maxRecDepth 20000 in
set_option maxHeartbeats 1000000 in
theorem c_zint_Of (n : Int) : Fn Try.prog 74 [kI64.is n] (kC.is n) := by
  refine Con.enter Try.func74 rfl rfl fun m w => ?_
  refine ST.fact (i := 0) rfl int_rng fun hn => ?_
  refine ST.told (q := (kInt .i64).is n) 0 rfl (i64_le _) ?_
  refine CW.seq ?_
  refine CW.region ?_
  refine WP.al .n z31_C fun b1 => ?_
  refine WP.nil ?_
  refine QE.next ?_
  refine CW.seq ?_
  refine CW.region ?_
  refine WP.s .n (O.mv rfl) ?_
  refine WP.s .n (O.cvt rfl Try.underlying2 Try.underlying173 rfl) ?_
  refine WP.s .n (O.asg rfl) ?_
  refine WP.nil ?_
  refine QE.next ?_
  refine CW.seq ?_
  refine CW.seq ?_
  refine CW.region ?_
  refine WP.s .n (O.mv rfl) ?_
  refine WP.s .n (O.lt rfl rfl) ?_
  refine WP.nil ?_
  refine QE.next ?_
  refine CW.condD rfl (fun h_t7 => ?_) (fun h_t7 => ?_)
  · refine CW.region ?_
    refine WP.s .n (O.mv rfl) ?_
    refine WP.s .n (O.neg rfl (c := ((n.natAbs : Nat) : Int)) (of_neg h_t7 hn.1)) ?_
    refine WP.s .n (O.asg rfl) ?_
    refine WP.nil ?_
    refine QE.next ?_
    refine CW.seq ?_
    refine CW.region ?_
    refine WP.s .n (O.mv rfl) ?_
    refine WP.s .n (O.lt rfl rfl) ?_
    refine WP.s .n (O.mv rfl) ?_
    refine WP.s .n (O.cvt rfl Try.underlying173 Try.underlying121 (c := ((n.natAbs % 4294967296 : Nat) : Int)) (wr32 rfl)) ?_
    refine WP.s .n (O.mv rfl) ?_
    refine WP.s .n (O.shr rfl rfl (by omega) (c := ((n.natAbs / 2 ^ 32 : Nat) : Int)) (shrN 32 rfl rfl (by decide))) ?_
    refine WP.s .n (O.cvt rfl Try.underlying173 Try.underlying121 (c := ((n.natAbs / 2 ^ 32 : Nat) : Int)) (wrs32 (by omega))) ?_
    refine WP.s .n (O.bs Try.underlying29 el121_limb (evl.l rfl (u32_limb (x := (n.natAbs % 4294967296 : Nat)) (by omega)) (evl.l rfl (u32_limb (x := (n.natAbs / 2 ^ 32 : Nat)) (by omega)) evl.n)) rfl (by decide)) ?_
    refine WP.s .n (O.fn fn147 (evs.c rfl (evs.c rfl evs.nil)) (c_zint_made (decide (n < 0)) [(n.natAbs % 4294967296 : Nat), (n.natAbs / 2 ^ 32 : Nat)])) ?_
    refine WP.t .n (O.stW (l := kC) (u := ival ((decide (n < 0)), [(n.natAbs % 4294967296 : Nat), (n.natAbs / 2 ^ 32 : Nat)])) 0 rfl rfl rfl ty31 rfl (VP.le_refl _)) ?_
    refine WP.nil ?_
    refine QE.next ?_
    refine CW.ret ?_
    refine ST.obtold 0 rfl (OB.box_eq (y := n) of_val) ?_
    exact QE.done (.inl rfl) rfl (ResOk.c rfl (mem_at 0 rfl) ty31 ResOk.nil) (OImp.sub (List.nil_sublist _)) ⟨rfl, rfl⟩
  · refine ST.told 3 rfl (is_eq (y := ((n.natAbs : Nat) : Int)) (of_pos h_t7 hn.2)) ?_
    refine CW.skip ?_
    refine QE.next ?_
    refine CW.seq ?_
    refine CW.region ?_
    refine WP.s .n (O.mv rfl) ?_
    refine WP.s .n (O.lt rfl rfl) ?_
    refine WP.s .n (O.mv rfl) ?_
    refine WP.s .n (O.cvt rfl Try.underlying173 Try.underlying121 (c := ((n.natAbs % 4294967296 : Nat) : Int)) (wr32 rfl)) ?_
    refine WP.s .n (O.mv rfl) ?_
    refine WP.s .n (O.shr rfl rfl (by omega) (c := ((n.natAbs / 2 ^ 32 : Nat) : Int)) (shrN 32 rfl rfl (by decide))) ?_
    refine WP.s .n (O.cvt rfl Try.underlying173 Try.underlying121 (c := ((n.natAbs / 2 ^ 32 : Nat) : Int)) (wrs32 (by omega))) ?_
    refine WP.s .n (O.bs Try.underlying29 el121_limb (evl.l rfl (u32_limb (x := (n.natAbs % 4294967296 : Nat)) (by omega)) (evl.l rfl (u32_limb (x := (n.natAbs / 2 ^ 32 : Nat)) (by omega)) evl.n)) rfl (by decide)) ?_
    refine WP.s .n (O.fn fn147 (evs.c rfl (evs.c rfl evs.nil)) (c_zint_made (decide (n < 0)) [(n.natAbs % 4294967296 : Nat), (n.natAbs / 2 ^ 32 : Nat)])) ?_
    refine WP.t .n (O.stW (l := kC) (u := ival ((decide (n < 0)), [(n.natAbs % 4294967296 : Nat), (n.natAbs / 2 ^ 32 : Nat)])) 0 rfl rfl rfl ty31 rfl (VP.le_refl _)) ?_
    refine WP.nil ?_
    refine QE.next ?_
    refine CW.ret ?_
    refine ST.obtold 0 rfl (OB.box_eq (y := n) of_val) ?_
    exact QE.done (.inl rfl) rfl (ResOk.c rfl (mem_at 0 rfl) ty31 ResOk.nil) (OImp.sub (List.nil_sublist _)) ⟨rfl, rfl⟩

set_option maxRecDepth 20000 in
set_option maxHeartbeats 1000000 in
theorem c_zint_Neg (z : Int) : Fn Try.prog 161 [kZ.is z] (kC.is (-z)) := by
  refine Con.enter Try.func161 rfl rfl fun m w => ?_
  refine ST.z 0 rfl fun y y_v y_n y_l => ?_
  refine CW.seq ?_
  refine CW.region ?_
  refine WP.bx .n rfl fun b1 => ?_
  refine WP.al .n z31_C fun b2 => ?_
  refine WP.nil ?_
  refine QE.next ?_
  refine CW.seq ?_
  refine CW.region ?_
  refine WP.s .n (O.fa rfl fld31_0 rfl) ?_
  refine WP.s .n (O.ld rfl (mem_at 1 rfl) (Lens.fst (Lens.id _)) ty4 rfl) ?_
  refine WP.s .n (O.not rfl) ?_
  refine WP.s .n (O.fa rfl fld31_1 rfl) ?_
  refine WP.s .n (O.ld rfl (mem_at 1 rfl) (Lens.snd (Lens.id _)) ty29 rfl) ?_
  refine WP.s .n (O.fn fn147 (evs.c rfl (evs.c rfl evs.nil)) (c_zint_made (!y.1) y.2)) ?_
  refine WP.t .n (O.stW (l := kC) (u := ival ((!y.1), y.2)) 0 rfl rfl rfl ty31 rfl (VP.le_refl _)) ?_
  refine WP.nil ?_
  refine QE.next ?_
  refine CW.ret ?_
  refine ST.obtold 0 rfl (OB.box_eq (y := (-z)) (by rw [← y_v]; exact ival_not)) ?_
  exact QE.done (.inl rfl) rfl (ResOk.c rfl (mem_at 0 rfl) ty31 ResOk.nil) (OImp.sub (List.nil_sublist _)) ⟨rfl, rfl⟩

set_option maxRecDepth 20000 in
set_option maxHeartbeats 1000000 in
theorem c_zint_Abs (z : Int) : Fn Try.prog 170 [kZ.is z] (kC.is (z.natAbs : Int)) := by
  refine Con.enter Try.func170 rfl rfl fun m w => ?_
  refine ST.z 0 rfl fun y y_v y_n y_l => ?_
  refine CW.seq ?_
  refine CW.region ?_
  refine WP.bx .n rfl fun b1 => ?_
  refine WP.al .n z31_C fun b2 => ?_
  refine WP.nil ?_
  refine QE.next ?_
  refine CW.seq ?_
  refine CW.region ?_
  refine WP.s .n (O.fa rfl fld31_1 rfl) ?_
  refine WP.s .n (O.ld rfl (mem_at 1 rfl) (Lens.snd (Lens.id _)) ty29 rfl) ?_
  refine WP.s .n (O.fn fn147 (evs.c rfl (evs.c rfl evs.nil)) (c_zint_made false y.2)) ?_
  refine WP.t .n (O.stW (l := kC) (u := ival (false, y.2)) 0 rfl rfl rfl ty31 rfl (VP.le_refl _)) ?_
  refine WP.nil ?_
  refine QE.next ?_
  refine CW.ret ?_
  refine ST.obtold 0 rfl (OB.box_eq (y := (z.natAbs : Int)) (by rw [← y_v, ival_abs]; rfl)) ?_
  exact QE.done (.inl rfl) rfl (ResOk.c rfl (mem_at 0 rfl) ty31 ResOk.nil) (OImp.sub (List.nil_sublist _)) ⟨rfl, rfl⟩

set_option maxRecDepth 20000 in
set_option maxHeartbeats 1000000 in
theorem c_zint_Form (z : Int) : Fn Try.prog 146 [kZ.is z] (kC.is z) := by
  refine Con.enter Try.func146 rfl rfl fun m w => ?_
  refine ST.z 0 rfl fun y y_v y_n y_l => ?_
  refine CW.seq ?_
  refine CW.region ?_
  refine WP.bx .n rfl fun b1 => ?_
  refine WP.al .n z31_C fun b2 => ?_
  refine WP.nil ?_
  refine QE.next ?_
  refine CW.seq ?_
  refine CW.region ?_
  refine WP.s .n (O.fa rfl fld31_0 rfl) ?_
  refine WP.s .n (O.ld rfl (mem_at 1 rfl) (Lens.fst (Lens.id _)) ty4 rfl) ?_
  refine WP.s .n (O.fa rfl fld31_1 rfl) ?_
  refine WP.s .n (O.ld rfl (mem_at 1 rfl) (Lens.snd (Lens.id _)) ty29 rfl) ?_
  refine WP.s .n (O.fn fn147 (evs.c rfl (evs.c rfl evs.nil)) (c_zint_made y.1 y.2)) ?_
  refine WP.t .n (O.stW (l := kC) (u := ival (y.1, y.2)) 0 rfl rfl rfl ty31 rfl (VP.le_refl _)) ?_
  refine WP.nil ?_
  refine QE.next ?_
  refine CW.ret ?_
  refine ST.obtold 0 rfl (OB.box_eq (y := z) y_v) ?_
  exact QE.done (.inl rfl) rfl (ResOk.c rfl (mem_at 0 rfl) ty31 ResOk.nil) (OImp.sub (List.nil_sublist _)) ⟨rfl, rfl⟩

set_option maxRecDepth 20000 in
set_option maxHeartbeats 1000000 in
theorem c_zint_Sub (x y : Int) : Fn Try.prog 157 [kZ.is x, kZ.is y] (kC.is (x - y)) := by
  refine Con.enter Try.func157 rfl rfl fun m w => ?_
  refine ST.fact (i := 1) rfl kZ_sm fun hsy => ?_
  refine CW.seq ?_
  refine CW.region ?_
  refine WP.bx .n rfl fun b1 => ?_
  refine WP.bx .n rfl fun b2 => ?_
  refine WP.al .n z31_C fun b3 => ?_
  refine WP.nil ?_
  refine QE.next ?_
  refine CW.seq ?_
  refine CW.draw (Γ := [.fr (kZ.is x), .fr (kZ.is y), .fr (kC.is (-y)), .fr (kC.is (x + (-y)))]) (lates := [false, false, false, false]) (by kernel_rfl) (Chk.of rfl (by kernel_rfl) rfl) (fun _ _ _ _ _ h => h) (fun q_ x_ h_ => ?_) (fun σ => ?_)
  · match q_, h_ with
    | 0, h_ => cases h_; exact Ob.f rfl .n fun N => (O.ld rfl (mem_app N (mem_at 2 rfl)) (Lens.id _) ty31 rfl)
    | 1, h_ => cases h_; exact Ob.f rfl .n fun N => (O.ld rfl (mem_app N (mem_at 1 rfl)) (Lens.id _) ty31 rfl)
    | 2, h_ => cases h_; exact Ob.f rfl .n fun N => (O.fn fn161 (evs.c rfl evs.nil) (c_zint_Neg y))
    | 3, h_ => cases h_; exact Ob.f rfl .n fun N => (O.fn fn77 (evs.c rfl (evs.l rfl (kC_Z (by first | assumption | exact Sm_neg (by assumption))) evs.nil)) (c_zint_Add x (-y)))
    | n_ + 4, h_ => simp at h_
  refine WP.t .n (O.stW (l := kC) (u := x + (-y)) 0 rfl rfl rfl ty31 rfl (VP.le_refl _)) ?_
  refine WP.nil ?_
  refine QE.next ?_
  refine CW.ret ?_
  refine ST.obtold 0 rfl (OB.box_eq (y := (x - y)) (Int.sub_eq_add_neg).symm) ?_
  exact QE.done (.inl rfl) rfl (ResOk.c rfl (mem_at 0 rfl) ty31 ResOk.nil) (OImp.sub (List.nil_sublist _)) ⟨rfl, rfl⟩

set_option maxRecDepth 20000 in
set_option maxHeartbeats 1000000 in
theorem c_zint_Mul (x y : Int) : Fn Try.prog 76 [kZ.is x, kZ.is y] (kC.is (x * y)) := by
  refine Con.enter Try.func76 rfl rfl fun m w => ?_
  refine ST.z 0 rfl fun p p_v p_n p_l => ?_
  refine ST.z 1 rfl fun q q_v q_n q_l => ?_
  refine CW.seq ?_
  refine CW.region ?_
  refine WP.bx .n rfl fun b1 => ?_
  refine WP.bx .n rfl fun b2 => ?_
  refine WP.al .n z31_C fun b3 => ?_
  refine WP.nil ?_
  refine QE.next ?_
  refine CW.seq ?_
  refine CW.draw (Γ := [.fr (VP.ex (.pointer (some ⟨b1, 0, none⟩))), .fr (kBool.is p.1), .fr (VP.ex (.pointer (some ⟨b2, 0, none⟩))), .fr (kBool.is q.1), .fr (kBool.is (decide (p.1 ≠ q.1))), .fr (VP.ex (.pointer (some ⟨b1, 1, none⟩))), .fr (kN.is p.2), .fr (VP.ex (.pointer (some ⟨b2, 1, none⟩))), .fr (kN.is q.2), .fr (kN.is (limbs (nval p.2 * nval q.2))), .fr (kC.is (ival ((decide (p.1 ≠ q.1)), (limbs (nval p.2 * nval q.2)))))]) (lates := [false, false, false, false, false, false, false, false, false, false, false]) (by kernel_rfl) (Chk.of rfl (by kernel_rfl) rfl) (fun _ _ _ _ _ h => h) (fun q_ x_ h_ => ?_) (fun σ => ?_)
  · match q_, h_ with
    | 0, h_ => cases h_; exact Ob.f rfl .n fun N => (O.fa rfl fld31_0 rfl)
    | 1, h_ => cases h_; exact Ob.f rfl .n fun N => (O.ld rfl (mem_app N (mem_at 2 rfl)) (Lens.fst (Lens.id _)) ty4 rfl)
    | 2, h_ => cases h_; exact Ob.f rfl .n fun N => (O.fa rfl fld31_0 rfl)
    | 3, h_ => cases h_; exact Ob.f rfl .n fun N => (O.ld rfl (mem_app N (mem_at 1 rfl)) (Lens.fst (Lens.id _)) ty4 rfl)
    | 4, h_ => cases h_; exact Ob.f rfl .n fun N => (O.neB rfl rfl Try.underlying4)
    | 5, h_ => cases h_; exact Ob.f rfl .n fun N => (O.fa rfl fld31_1 rfl)
    | 6, h_ => cases h_; exact Ob.f rfl .n fun N => (O.ld rfl (mem_app N (mem_at 2 rfl)) (Lens.snd (Lens.id _)) ty29 rfl)
    | 7, h_ => cases h_; exact Ob.f rfl .n fun N => (O.fa rfl fld31_1 rfl)
    | 8, h_ => cases h_; exact Ob.f rfl .n fun N => (O.ld rfl (mem_app N (mem_at 1 rfl)) (Lens.snd (Lens.id _)) ty29 rfl)
    | 9, h_ => cases h_; exact Ob.f rfl .n fun N => (O.fn fn149 (evs.c rfl (evs.c rfl evs.nil)) (c_nat_Mul p.2 q.2 (by omega)))
    | 10, h_ => cases h_; exact Ob.f rfl .n fun N => (O.fn fn147 (evs.c rfl (evs.c rfl evs.nil)) (c_zint_made (decide (p.1 ≠ q.1)) (limbs (nval p.2 * nval q.2))))
    | n_ + 11, h_ => simp at h_
  refine WP.t .n (O.stW (l := kC) (u := ival ((decide (p.1 ≠ q.1)), (limbs (nval p.2 * nval q.2)))) 0 rfl rfl rfl ty31 rfl (VP.le_refl _)) ?_
  refine WP.nil ?_
  refine QE.next ?_
  refine CW.ret ?_
  refine ST.obtold 0 rfl (OB.box_eq (y := (x * y)) (by rw [← p_v, ← q_v]; exact ival_mul)) ?_
  exact QE.done (.inl rfl) rfl (ResOk.c rfl (mem_at 0 rfl) ty31 ResOk.nil) (OImp.sub (List.nil_sublist _)) ⟨rfl, rfl⟩

set_option maxRecDepth 20000 in
set_option maxHeartbeats 1000000 in
theorem c_zint_Compare (x y : Int) : Fn Try.prog 75 [kZ.is x, kZ.is y] ((kInt .i64).is ((x - y).sign)) := by
  refine Con.enter Try.func75 rfl rfl fun m w => ?_
  refine ST.z 0 rfl fun p p_v p_n p_l => ?_
  refine ST.z 1 rfl fun q q_v q_n q_l => ?_
  refine CW.seq ?_
  refine CW.region ?_
  refine WP.bx .n rfl fun b1 => ?_
  refine WP.bx .n rfl fun b2 => ?_
  refine WP.s .n (O.asg rfl) ?_
  refine WP.nil ?_
  refine QE.next ?_
  refine CW.seq ?_
  refine CW.draw (Γ := [.fr (kI.is (p.1, p.2)), .fr ((kInt .i64).is ((ival (p.1, p.2)).sign)), .fr (kI.is (q.1, q.2)), .fr ((kInt .i64).is ((ival (q.1, q.2)).sign))]) (lates := [false, false, false, false]) (by kernel_rfl) (Chk.of rfl (by kernel_rfl) rfl) (fun _ _ _ _ _ h => h) (fun q_ x_ h_ => ?_) (fun σ => ?_)
  · match q_, h_ with
    | 0, h_ => cases h_; exact Ob.f rfl .n fun N => (O.ld rfl (mem_app N (mem_at 1 rfl)) (Lens.id _) ty31 rfl)
    | 1, h_ => cases h_; exact Ob.f rfl .n fun N => (O.fn fn80 (evs.l rfl (kI_Z rfl (by omega)) evs.nil) (c_zint_Sign (ival (p.1, p.2))))
    | 2, h_ => cases h_; exact Ob.f rfl .n fun N => (O.ld rfl (mem_app N (mem_at 0 rfl)) (Lens.id _) ty31 rfl)
    | 3, h_ => cases h_; exact Ob.f rfl .n fun N => (O.fn fn80 (evs.l rfl (kI_Z rfl (by omega)) evs.nil) (c_zint_Sign (ival (q.1, q.2))))
    | n_ + 4, h_ => simp at h_
  refine WP.s .n (O.asg rfl) ?_
  refine WP.s .n (O.asg rfl) ?_
  refine WP.nil ?_
  refine QE.next ?_
  refine CW.seq ?_
  refine CW.block ?_
  refine CW.seq ?_
  refine CW.region ?_
  refine WP.s .n (O.mv rfl) ?_
  refine WP.s .n (O.mv rfl) ?_
  refine WP.s .n (O.lt rfl rfl) ?_
  refine WP.s .n (O.asg rfl) ?_
  refine WP.nil ?_
  refine QE.next ?_
  refine CW.condD rfl (fun h_t11 => ?_) (fun h_t11 => ?_)
  · refine CW.seq ?_
    refine CW.region ?_
    refine WP.s .n (O.asg rfl) ?_
    refine WP.nil ?_
    refine QE.next ?_
    refine CW.ret ?_
    refine QE.blkR ?_
    refine QE.thenR ?_
    refine ST.told 4 rfl (is_eq (y := (x - y).sign) (zcmp_lt p_v q_v h_t11)) ?_
    exact QE.done (.inl rfl) rfl (ResOk.t rfl ResOk.nil) (OImp.sub (List.nil_sublist _)) ⟨rfl, rfl⟩
  · refine CW.seq ?_
    refine CW.region ?_
    refine WP.s .n (O.mv rfl) ?_
    refine WP.s .n (O.mv rfl) ?_
    refine WP.s .n (O.gt rfl rfl) ?_
    refine WP.s .n (O.asg rfl) ?_
    refine WP.nil ?_
    refine QE.next ?_
    refine CW.condD rfl (fun h_t15 => ?_) (fun h_t15 => ?_)
    · refine CW.seq ?_
      refine CW.region ?_
      refine WP.s .n (O.asg rfl) ?_
      refine WP.nil ?_
      refine QE.next ?_
      refine CW.ret ?_
      refine QE.blkR ?_
      refine QE.thenR ?_
      refine ST.told 4 rfl (is_eq (y := (x - y).sign) (zcmp_gt p_v q_v h_t15)) ?_
      exact QE.done (.inl rfl) rfl (ResOk.t rfl ResOk.nil) (OImp.sub (List.nil_sublist _)) ⟨rfl, rfl⟩
    · refine CW.skip ?_
      refine QE.blkN ?_
      refine QE.next ?_
      refine CW.seq ?_
      refine CW.region ?_
      refine WP.s .n (O.mv rfl) ?_
      refine WP.s .n (O.fa rfl fld31_1 rfl) ?_
      refine WP.s .n (O.ld rfl (mem_at 1 rfl) (Lens.snd (Lens.id _)) ty29 rfl) ?_
      refine WP.s .n (O.fa rfl fld31_1 rfl) ?_
      refine WP.s .n (O.ld rfl (mem_at 0 rfl) (Lens.snd (Lens.id _)) ty29 rfl) ?_
      refine WP.s .n (O.fn fn148 (evs.c rfl (evs.c rfl evs.nil)) (c_nat_Cmp p.2 q.2)) ?_
      refine WP.s .n (O.mul rfl rfl (c := ((x - y).sign)) (zcmp_same p_v q_v h_t11 h_t15)) ?_
      refine WP.s .n (O.asg rfl) ?_
      refine WP.nil ?_
      refine QE.next ?_
      refine CW.ret ?_
      exact QE.done (.inl rfl) rfl (ResOk.t rfl ResOk.nil) (OImp.sub (List.nil_sublist _)) ⟨rfl, rfl⟩

set_option maxRecDepth 20000 in
set_option maxHeartbeats 1000000 in
theorem c_zint_total (xs : List Int) (hS : ∀ i, i ≤ xs.length → Sm ((xs.take i).sum)) : Fn Try.prog 207 [(kSl kZ).is xs] (kC.is xs.sum) := by
  refine Con.enter Try.func207 rfl rfl fun m w => ?_
  refine ST.fact (i := 0) rfl sl_len fun hB => ?_
  refine CW.seq ?_
  refine CW.region ?_
  refine WP.al .n z31_C fun b1 => ?_
  refine WP.nil ?_
  refine QE.next ?_
  refine CW.seq ?_
  refine CW.region ?_
  refine WP.al .n z31_C fun b2 => ?_
  refine WP.nil ?_
  refine QE.next ?_
  refine CW.seq ?_
  refine CW.seq ?_
  refine CW.region ?_
  refine WP.s .n (O.mv rfl) ?_
  refine WP.s .n (O.lenS rfl Try.underlying27) ?_
  refine WP.s .n (O.mv rfl) ?_
  refine WP.nil ?_
  refine QE.next ?_
  refine CW.block ?_
  refine CW.loop (fun (i : Nat) => i ≤ xs.length) (fun (i : Nat) => [(2, VP.ex (.pointer (some ⟨b1, 0, none⟩))), (3, VP.ex (.pointer (some ⟨b2, 0, none⟩))), (6, (kSl kZ).is xs), (7, (kInt .i64).is (xs.length : Int)), (8, (kInt .i64).is (i : Int))]) (fun (i : Nat) => [OB.box b2 31 kC ((xs.take i).sum), OB.box b1 31 kC 0]) (fun (i : Nat) => xs.length - i) 0 (by omega) (Imp.cons rfl (Imp.cons rfl (Imp.cons rfl (Imp.cons rfl (Imp.consLe rfl (is_eq (y := (0 : Int)) (by first | omega | assumption | rfl | simp)) Imp.nil))))) (OImp.os (OS.keepLe (OB.box_eq (by first | omega | assumption | rfl | simp)) (OS.keep OS.nil))) ?_
  intro i hi
  have hSm := hS i hi
  refine CW.seq ?_
  refine CW.region ?_
  refine WP.s .n (O.lt rfl rfl) ?_
  refine WP.nil ?_
  refine QE.next ?_
  refine CW.seq ?_
  refine CW.condD rfl (fun h_t9 => ?_) (fun h_t9 => ?_)
  · refine CW.skip ?_
    refine QE.next ?_
    refine CW.seq ?_
    refine CW.block ?_
    refine CW.seq ?_
    refine CW.region ?_
    refine WP.s .n (O.ix i rfl rfl Try.underlying27 ty31 rfl (v := (xs.getD i 0)) (gd 0 (by omega))) ?_
    refine WP.s .n (O.ldP rfl ty31) ?_
    refine WP.al .n z31_C fun b3 => ?_
    refine WP.t .n (O.stW (l := kZ) (u := (xs.getD i 0)) 0 rfl rfl rfl ty31 rfl (VP.le_refl _)) ?_
    refine WP.nil ?_
    refine QE.next ?_
    refine CW.region ?_
    refine WP.s .n (O.ld rfl (mem_at 1 rfl) (Lens.id _) ty31 rfl) ?_
    refine WP.s .n (O.ld rfl (mem_at 0 rfl) (Lens.id _) ty31 rfl) ?_
    refine WP.s .n (O.fn fn77 (evs.l rfl (kC_Z (by assumption)) (evs.c rfl evs.nil)) (c_zint_Add ((xs.take i).sum) (xs.getD i 0))) ?_
    refine WP.t .n (O.stW (l := kC) (u := ((xs.take i).sum) + (xs.getD i 0)) 1 rfl rfl rfl ty31 rfl (VP.le_refl _)) ?_
    refine WP.nil ?_
    refine QE.blkN ?_
    refine QE.next ?_
    refine CW.region ?_
    refine WP.s .n (O.add rfl rfl (c := ((i : Int) + 1)) (w64 (by omega))) ?_
    refine WP.s .n (O.mv rfl) ?_
    refine WP.nil ?_
    refine ST.obtold 1 rfl (OB.box_eq (y := ((xs.take (i + 1)).sum)) (by rw [← take_app (d := 0) (show i < xs.length by omega), List.sum_append]; simp)) ?_
    exact QE.round (i + 1) (by omega) (by omega) (Imp.cons rfl (Imp.cons rfl (Imp.cons rfl (Imp.cons rfl (Imp.consLe rfl (is_eq (y := (((i + 1) : Nat) : Int)) (by first | omega | assumption | rfl | simp)) Imp.nil))))) (OImp.os (OS.skip (OS.keep (OS.keep OS.nil))))
  · refine CW.exit ?_
    refine QE.thenE ?_
    refine QE.thenE ?_
    refine QE.blkH ?_
    refine QE.next ?_
    refine CW.seq ?_
    refine CW.region ?_
    refine WP.s .n (O.ld rfl (mem_at 0 rfl) (Lens.id _) ty31 rfl) ?_
    refine WP.t .n (O.stW (l := kC) (u := ((xs.take i).sum)) 1 rfl rfl rfl ty31 rfl (VP.le_refl _)) ?_
    refine WP.nil ?_
    refine QE.next ?_
    refine CW.ret ?_
    refine ST.obtold 1 rfl (OB.box_eq (y := (xs.sum)) (by rw [List.take_of_length_le (by omega)])) ?_
    exact QE.done (.inl rfl) rfl (ResOk.cl rfl (mem_at 1 rfl) ty31 (is_eq (y := xs.sum) (by first | omega | assumption | rfl | simp)) ResOk.nil) (OImp.sub (List.nil_sublist _)) ⟨rfl, rfl⟩

set_option maxRecDepth 20000 in
set_option maxHeartbeats 1000000 in
theorem c_zint_Sum (xs : List Int) (hS : ∀ i, i ≤ xs.length → Sm ((xs.take i).sum)) : Fn Try.prog 167 [(kSl kZ).is xs] (kC.is xs.sum) := by
  refine Con.enter Try.func167 rfl rfl fun m w => ?_
  refine CW.seq ?_
  refine CW.region ?_
  refine WP.al .n z31_C fun b1 => ?_
  refine WP.nil ?_
  refine QE.next ?_
  refine CW.seq ?_
  refine CW.region ?_
  refine WP.s .n (O.mv rfl) ?_
  refine WP.s .n (O.fn fn207 (evs.c rfl evs.nil) (c_zint_total xs hS)) ?_
  refine WP.t .n (O.stW (l := kC) (u := xs.sum) 0 rfl rfl rfl ty31 rfl (VP.le_refl _)) ?_
  refine WP.nil ?_
  refine QE.next ?_
  refine CW.ret ?_
  exact QE.done (.inl rfl) rfl (ResOk.c rfl (mem_at 0 rfl) ty31 ResOk.nil) (OImp.sub (List.nil_sublist _)) ⟨rfl, rfl⟩

set_option maxRecDepth 20000 in
set_option maxHeartbeats 1000000 in
theorem c_zint_Gcd (x y : Int) : Fn Try.prog 102 [kZ.is x, kZ.is y] (kC.is (Int.gcd x y : Int)) := by
  refine Con.enter Try.func102 rfl rfl fun m w => ?_
  refine ST.z 0 rfl fun p p_v p_n p_l => ?_
  refine ST.z 1 rfl fun q q_v q_n q_l => ?_
  refine CW.seq ?_
  refine CW.region ?_
  refine WP.bx .n rfl fun b1 => ?_
  refine WP.bx .n rfl fun b2 => ?_
  refine WP.al .n z31_C fun b3 => ?_
  refine WP.nil ?_
  refine QE.next ?_
  refine CW.seq ?_
  refine CW.region ?_
  refine WP.s .n (O.fa rfl fld31_1 rfl) ?_
  refine WP.s .n (O.ld rfl (mem_at 2 rfl) (Lens.snd (Lens.id _)) ty29 rfl) ?_
  refine WP.s .n (O.fa rfl fld31_1 rfl) ?_
  refine WP.s .n (O.ld rfl (mem_at 1 rfl) (Lens.snd (Lens.id _)) ty29 rfl) ?_
  refine WP.s .n (O.fn fn168 (evs.c rfl (evs.c rfl evs.nil)) (c_nat_Gcd p.2 q.2 (by omega) (by omega))) ?_
  refine WP.s .n (O.fn fn147 (evs.c rfl (evs.c rfl evs.nil)) (c_zint_made false (limbs (Nat.gcd (nval p.2) (nval q.2))))) ?_
  refine WP.t .n (O.stW (l := kC) (u := ival (false, (limbs (Nat.gcd (nval p.2) (nval q.2))))) 0 rfl rfl rfl ty31 rfl (VP.le_refl _)) ?_
  refine WP.nil ?_
  refine QE.next ?_
  refine CW.ret ?_
  refine ST.obtold 0 rfl (OB.box_eq (y := (Int.gcd x y : Int)) (by rw [← p_v, ← q_v, Int.gcd, ival_abs, ival_abs, ival_pos rfl, nval_limbs])) ?_
  exact QE.done (.inl rfl) rfl (ResOk.c rfl (mem_at 0 rfl) ty31 ResOk.nil) (OImp.sub (List.nil_sublist _)) ⟨rfl, rfl⟩

end Fw
