/- Proved: QuadRows, for every input of bulk at most 1048576; no other condition. -/
import Derived.Test.YtgbafijcklgajaaCQuadRowsD
/- Values of forms; products of rows; QuadRows. -/
set_option linter.unusedVariables false
set_option linter.unusedSimpArgs false
set_option exponentiation.threshold 400
namespace Fw
open Go Go.Proofs

set_option maxRecDepth 20000 in
set_option maxHeartbeats 1000000 in
theorem c_law22_eqs (x y : List Int) : Fn Try.prog 58 [(kSl kC).is x, (kSl kC).is y] (kBool.is (decide (x = y))) := by
  refine Con.enter Try.func58 rfl rfl fun m w => ?_
  refine ST.fact (i := 0) rfl sl_len fun hB => ?_
  refine CW.seq ?_
  refine CW.region ?_
  refine WP.s .n (O.asg rfl) ?_
  refine WP.nil ?_
  refine QE.next ?_
  refine CW.seq ?_
  refine CW.seq ?_
  refine CW.region ?_
  refine WP.s .n (O.mv rfl) ?_
  refine WP.s .n (O.lenS rfl Try.underlying27) ?_
  refine WP.s .n (O.mv rfl) ?_
  refine WP.s .n (O.lenS rfl Try.underlying27) ?_
  refine WP.s .n (O.ne rfl rfl) ?_
  refine WP.nil ?_
  refine QE.next ?_
  refine CW.condD rfl (fun h_t10 => ?_) (fun h_t10 => ?_)
  · refine CW.seq ?_
    refine CW.region ?_
    refine WP.s .n (O.asg rfl) ?_
    refine WP.nil ?_
    refine QE.next ?_
    refine CW.ret ?_
    refine QE.thenR ?_
    refine ST.told 4 rfl (is_eq (y := (decide (x = y))) (by rw [eq_comm, decide_eq_false_iff_not]; intro e; exact h_t10 (by rw [e]))) ?_
    exact QE.done (.inl rfl) rfl (ResOk.t rfl ResOk.nil) (OImp.sub (List.nil_sublist _)) ⟨rfl, rfl⟩
  · refine CW.skip ?_
    refine QE.next ?_
    refine CW.seq ?_
    refine CW.seq ?_
    refine CW.region ?_
    refine WP.s .n (O.asg rfl) ?_
    refine WP.nil ?_
    refine QE.next ?_
    refine CW.block ?_
    refine CW.loop (fun (i : Nat) => i ≤ x.length ∧ x.take i = y.take i) (fun (i : Nat) => [(0, (kSl kC).is x), (1, (kSl kC).is y), (5, (kInt .i64).is (i : Int))]) (fun (i : Nat) => []) (fun (i : Nat) => x.length - i) 0 ⟨Nat.zero_le _, rfl⟩ (Imp.cons rfl (Imp.cons rfl (Imp.consLe rfl (is_eq (y := (0 : Int)) (by omega)) Imp.nil))) (OImp.refl _) ?_
    intro i ⟨hi, ht⟩
    refine CW.seq ?_
    refine CW.seq ?_
    refine CW.region ?_
    refine WP.s .n (O.mv rfl) ?_
    refine WP.s .n (O.mv rfl) ?_
    refine WP.s .n (O.lenS rfl Try.underlying27) ?_
    refine WP.s .n (O.lt rfl rfl) ?_
    refine WP.nil ?_
    refine QE.next ?_
    refine CW.condD rfl (fun h_t14 => ?_) (fun h_t14 => ?_)
    · refine CW.skip ?_
      refine QE.next ?_
      refine CW.seq ?_
      refine CW.block ?_
      refine CW.seq ?_
      refine CW.draw (Γ := [.fr ((kSl kC).is x), .fr ((kInt .i64).is (i : Int)), .fr (VP.pim kC (x.getD i 0)), .fr (kC.is (x.getD i 0)), .fr ((kSl kC).is y), .fr ((kInt .i64).is (i : Int)), .fr (VP.pim kC (y.getD i 0)), .fr (kC.is (y.getD i 0)), .fr (kBool.is (decide ((canon (x.getD i 0)) = (canon (y.getD i 0))))), .fr (kBool.is (!(decide ((canon (x.getD i 0)) = (canon (y.getD i 0))))))]) (lates := [false, false, false, false, false, false, false, false, false, false]) (by kernel_rfl) (Chk.of rfl (by kernel_rfl) rfl) (fun _ _ _ _ _ h => h) (fun q_ x_ h_ => ?_) (fun σ1 => ?_)
      · match q_, h_ with
        | 0, h_ => cases h_; exact Ob.f rfl .n fun N => (O.mv rfl)
        | 1, h_ => cases h_; exact Ob.f rfl .n fun N => (O.mv rfl)
        | 2, h_ => cases h_; exact Ob.f rfl .n fun N => (O.ix i rfl rfl Try.underlying27 ty31 rfl (v := (x.getD i 0)) (gd 0 (by omega)))
        | 3, h_ => cases h_; exact Ob.f rfl .n fun N => (O.ldP rfl ty31)
        | 4, h_ => cases h_; exact Ob.f rfl .n fun N => (O.mv rfl)
        | 5, h_ => cases h_; exact Ob.f rfl .n fun N => (O.mv rfl)
        | 6, h_ => cases h_; exact Ob.f rfl .n fun N => (O.ix i rfl rfl Try.underlying27 ty31 rfl (v := (y.getD i 0)) (gd 0 (by omega)))
        | 7, h_ => cases h_; exact Ob.f rfl .n fun N => (O.ldP rfl ty31)
        | 8, h_ => cases h_; exact Ob.f rfl .n fun N => (O.fn fn29 (evs.l rfl (kC_I _) (evs.l rfl (kC_I _) evs.nil)) (c_law22_eq (canon (x.getD i 0)) (canon (y.getD i 0))))
        | 9, h_ => cases h_; exact Ob.f rfl .n fun N => (O.not rfl)
        | n_ + 10, h_ => simp at h_
      refine WP.nil ?_
      refine QE.next ?_
      refine CW.cond rfl (fun h_t26 => ?_) (fun h_t26 => ?_)
      · refine CW.seq ?_
        refine CW.region ?_
        refine WP.s .n (O.asg rfl) ?_
        refine WP.nil ?_
        refine QE.next ?_
        refine CW.ret ?_
        refine QE.blkR ?_
        refine QE.thenR ?_
        refine QE.thenR ?_
        refine QE.blkR ?_
        refine QE.thenR ?_
        refine ST.told 4 rfl (is_eq (y := (decide (x = y))) (by rw [eq_comm, decide_eq_false_iff_not]; intro e; exact canon_ned h_t26 (by rw [e]))) ?_
        exact QE.done (.inl rfl) rfl (ResOk.t rfl ResOk.nil) (OImp.sub (List.nil_sublist _)) ⟨rfl, rfl⟩
      · refine CW.skip ?_
        refine QE.blkN ?_
        refine QE.next ?_
        refine CW.region ?_
        refine WP.s .n (O.mv rfl) ?_
        refine WP.s .n (O.add rfl rfl (c := ((i : Int) + 1)) (w64 (by omega))) ?_
        refine WP.s .n (O.asg rfl) ?_
        refine WP.nil ?_
        exact QE.round (i + 1) (by omega) ⟨by omega, eq_take (d := 0) (by omega) (by omega) ht (canon_eqd h_t26)⟩ (Imp.cons rfl (Imp.cons rfl (Imp.consLe rfl (is_eq (y := (((i + 1) : Nat) : Int)) (by omega)) Imp.nil))) (OImp.refl _)
    · refine CW.exit ?_
      refine QE.thenE ?_
      refine QE.thenE ?_
      refine QE.blkH ?_
      refine QE.next ?_
      refine CW.seq ?_
      refine CW.region ?_
      refine WP.s .n (O.asg rfl) ?_
      refine WP.nil ?_
      refine QE.next ?_
      refine CW.ret ?_
      refine ST.told 4 rfl (is_eq (y := (decide (x = y))) (by rw [eq_comm, decide_eq_true_iff]; exact eq_full (i := i) (by omega) (by omega) ht)) ?_
      exact QE.done (.inl rfl) rfl (ResOk.t rfl ResOk.nil) (OImp.sub (List.nil_sublist _)) ⟨rfl, rfl⟩

set_option maxRecDepth 20000 in
set_option maxHeartbeats 1000000 in
theorem c_law22_eqm (x y : List (List Int)) : Fn Try.prog 59 [(kSl (kSl kC)).is x, (kSl (kSl kC)).is y] (kBool.is (decide (x = y))) := by
  refine Con.enter Try.func59 rfl rfl fun m w => ?_
  refine ST.fact (i := 0) rfl sl_len fun hB => ?_
  refine CW.seq ?_
  refine CW.region ?_
  refine WP.s .n (O.asg rfl) ?_
  refine WP.nil ?_
  refine QE.next ?_
  refine CW.seq ?_
  refine CW.seq ?_
  refine CW.region ?_
  refine WP.s .n (O.mv rfl) ?_
  refine WP.s .n (O.lenS rfl Try.underlying67) ?_
  refine WP.s .n (O.mv rfl) ?_
  refine WP.s .n (O.lenS rfl Try.underlying67) ?_
  refine WP.s .n (O.ne rfl rfl) ?_
  refine WP.nil ?_
  refine QE.next ?_
  refine CW.condD rfl (fun h_t10 => ?_) (fun h_t10 => ?_)
  · refine CW.seq ?_
    refine CW.region ?_
    refine WP.s .n (O.asg rfl) ?_
    refine WP.nil ?_
    refine QE.next ?_
    refine CW.ret ?_
    refine QE.thenR ?_
    refine ST.told 4 rfl (is_eq (y := (decide (x = y))) (by rw [eq_comm, decide_eq_false_iff_not]; intro e; exact h_t10 (by rw [e]))) ?_
    exact QE.done (.inl rfl) rfl (ResOk.t rfl ResOk.nil) (OImp.sub (List.nil_sublist _)) ⟨rfl, rfl⟩
  · refine CW.skip ?_
    refine QE.next ?_
    refine CW.seq ?_
    refine CW.seq ?_
    refine CW.region ?_
    refine WP.s .n (O.asg rfl) ?_
    refine WP.nil ?_
    refine QE.next ?_
    refine CW.block ?_
    refine CW.loop (fun (i : Nat) => i ≤ x.length ∧ x.take i = y.take i) (fun (i : Nat) => [(0, (kSl (kSl kC)).is x), (1, (kSl (kSl kC)).is y), (5, (kInt .i64).is (i : Int))]) (fun (i : Nat) => []) (fun (i : Nat) => x.length - i) 0 ⟨Nat.zero_le _, rfl⟩ (Imp.cons rfl (Imp.cons rfl (Imp.consLe rfl (is_eq (y := (0 : Int)) (by omega)) Imp.nil))) (OImp.refl _) ?_
    intro i ⟨hi, ht⟩
    refine CW.seq ?_
    refine CW.seq ?_
    refine CW.region ?_
    refine WP.s .n (O.mv rfl) ?_
    refine WP.s .n (O.mv rfl) ?_
    refine WP.s .n (O.lenS rfl Try.underlying67) ?_
    refine WP.s .n (O.lt rfl rfl) ?_
    refine WP.nil ?_
    refine QE.next ?_
    refine CW.condD rfl (fun h_t14 => ?_) (fun h_t14 => ?_)
    · refine CW.skip ?_
      refine QE.next ?_
      refine CW.seq ?_
      refine CW.block ?_
      refine CW.seq ?_
      refine CW.draw (Γ := [.fr ((kSl (kSl kC)).is x), .fr ((kInt .i64).is (i : Int)), .fr (VP.pim (kSl kC) (x.getD i [])), .fr ((kSl kC).is (x.getD i [])), .fr ((kSl (kSl kC)).is y), .fr ((kInt .i64).is (i : Int)), .fr (VP.pim (kSl kC) (y.getD i [])), .fr ((kSl kC).is (y.getD i [])), .fr (kBool.is (decide ((x.getD i []) = (y.getD i [])))), .fr (kBool.is (!(decide ((x.getD i []) = (y.getD i [])))))]) (lates := [false, false, false, false, false, false, false, false, false, false]) (by kernel_rfl) (Chk.of rfl (by kernel_rfl) rfl) (fun _ _ _ _ _ h => h) (fun q_ x_ h_ => ?_) (fun σ1 => ?_)
      · match q_, h_ with
        | 0, h_ => cases h_; exact Ob.f rfl .n fun N => (O.mv rfl)
        | 1, h_ => cases h_; exact Ob.f rfl .n fun N => (O.mv rfl)
        | 2, h_ => cases h_; exact Ob.f rfl .n fun N => (O.ix i rfl rfl Try.underlying67 ty27 rfl (v := (x.getD i [])) (gd [] (by omega)))
        | 3, h_ => cases h_; exact Ob.f rfl .n fun N => (O.ldP rfl ty27)
        | 4, h_ => cases h_; exact Ob.f rfl .n fun N => (O.mv rfl)
        | 5, h_ => cases h_; exact Ob.f rfl .n fun N => (O.mv rfl)
        | 6, h_ => cases h_; exact Ob.f rfl .n fun N => (O.ix i rfl rfl Try.underlying67 ty27 rfl (v := (y.getD i [])) (gd [] (by omega)))
        | 7, h_ => cases h_; exact Ob.f rfl .n fun N => (O.ldP rfl ty27)
        | 8, h_ => cases h_; exact Ob.f rfl .n fun N => (O.fn fn58 (evs.c rfl (evs.c rfl evs.nil)) (c_law22_eqs (x.getD i []) (y.getD i [])))
        | 9, h_ => cases h_; exact Ob.f rfl .n fun N => (O.not rfl)
        | n_ + 10, h_ => simp at h_
      refine WP.nil ?_
      refine QE.next ?_
      refine CW.cond rfl (fun h_t26 => ?_) (fun h_t26 => ?_)
      · refine CW.seq ?_
        refine CW.region ?_
        refine WP.s .n (O.asg rfl) ?_
        refine WP.nil ?_
        refine QE.next ?_
        refine CW.ret ?_
        refine QE.blkR ?_
        refine QE.thenR ?_
        refine QE.thenR ?_
        refine QE.blkR ?_
        refine QE.thenR ?_
        refine ST.told 4 rfl (is_eq (y := (decide (x = y))) (by rw [eq_comm, decide_eq_false_iff_not]; intro e; simp [e] at h_t26)) ?_
        exact QE.done (.inl rfl) rfl (ResOk.t rfl ResOk.nil) (OImp.sub (List.nil_sublist _)) ⟨rfl, rfl⟩
      · refine CW.skip ?_
        refine QE.blkN ?_
        refine QE.next ?_
        refine CW.region ?_
        refine WP.s .n (O.mv rfl) ?_
        refine WP.s .n (O.add rfl rfl (c := ((i : Int) + 1)) (w64 (by omega))) ?_
        refine WP.s .n (O.asg rfl) ?_
        refine WP.nil ?_
        exact QE.round (i + 1) (by omega) ⟨by omega, eq_take (d := []) (by omega) (by omega) ht (by simpa using h_t26)⟩ (Imp.cons rfl (Imp.cons rfl (Imp.consLe rfl (is_eq (y := (((i + 1) : Nat) : Int)) (by omega)) Imp.nil))) (OImp.refl _)
    · refine CW.exit ?_
      refine QE.thenE ?_
      refine QE.thenE ?_
      refine QE.blkH ?_
      refine QE.next ?_
      refine CW.seq ?_
      refine CW.region ?_
      refine WP.s .n (O.asg rfl) ?_
      refine WP.nil ?_
      refine QE.next ?_
      refine CW.ret ?_
      refine ST.told 4 rfl (is_eq (y := (decide (x = y))) (by rw [eq_comm, decide_eq_true_iff]; exact eq_full (i := i) (by omega) (by omega) ht)) ?_
      exact QE.done (.inl rfl) rfl (ResOk.t rfl ResOk.nil) (OImp.sub (List.nil_sublist _)) ⟨rfl, rfl⟩

set_option maxRecDepth 20000 in
set_option maxHeartbeats 1000000 in
theorem c_quad_product (n : Nat) (a : List (List Int)) (x y : List Int) (ha : SzM 256 a) (hx : SzL n x) (hy : SzL n y) (hok : combOk x a) (hl : a.length ≤ 12) (hyl : y.length = (a.getD 0 []).length) (hc : y.length ≤ 12) (hn : n ≤ 4294967296) : Fn Try.prog 114 [(kSl (kSl kZ)).is a, (kSl kZ).is x, (kSl kZ).is y] (kC.is (dotV (combV x a) y)) := by
  refine Con.enter Try.func114 rfl rfl fun m w => ?_
  refine CW.seq ?_
  refine CW.region ?_
  refine WP.al .n z31_C fun b1 => ?_
  refine WP.nil ?_
  refine QE.next ?_
  refine CW.seq ?_
  refine CW.region ?_
  refine WP.s .n (O.mv rfl) ?_
  refine WP.s .n (O.mv rfl) ?_
  refine WP.s .n (O.fn fn69 (evs.c rfl (evs.c rfl evs.nil)) (c_mat_Combine (n + 256) x a (hx.up (by omega)) (ha.up (by omega)) (by omega))) ?_
  refine WP.s .n (O.mv rfl) ?_
  refine WP.s .n (O.ext rfl rfl) ?_
  refine WP.s .n (O.ext rfl rfl) ?_
  refine WP.s .n (O.asg rfl) ?_
  refine WP.s .n (O.asg rfl) ?_
  refine WP.nil ?_
  refine QE.next ?_
  refine CW.seq ?_
  refine ST.told 7 rfl (is_eq (y := (combV x a)) (comb_yes hok).1.symm) ?_
  have hC : SzL (n + 512) (combV x a) := (combV_Sz hx ha).up (by omega)
  have hll : (combV x a).length = y.length := by rw [combV_len, hyl]
  refine CW.region ?_
  refine WP.s .n (O.mv rfl) ?_
  refine WP.s .n (O.mv rfl) ?_
  refine WP.s .n (O.fn fn175 (evs.l rfl (slC_Z (by exact hC.sm (by omega))) (evs.c rfl evs.nil)) (c_mat_Dot (n + 512) (combV x a) y hC (hy.up (by omega)) (by rw [combV_len]; omega))) ?_
  refine ST.told (q := VP.tup [kC.is (dotV (combV x a) y), (kInt .i64).is 0]) 20 rfl (tup_le (tup_cons (is_eq (if_pos hll)) (tup_cons (is_eq (if_pos hll)) tup_nil))) ?_
  refine WP.s .n (O.mv rfl) ?_
  refine WP.s .n (O.ext rfl rfl) ?_
  refine WP.s .n (O.ext rfl rfl) ?_
  refine WP.al .n z31_C fun b2 => ?_
  refine WP.t .n (O.stW (l := kC) (u := dotV (combV x a) y) 0 rfl rfl rfl ty31 rfl (VP.le_refl _)) ?_
  refine WP.s .n (O.asg rfl) ?_
  refine WP.nil ?_
  refine QE.next ?_
  refine CW.seq ?_
  refine CW.region ?_
  refine WP.s .n (O.ld rfl (mem_at 0 rfl) (Lens.id _) ty31 rfl) ?_
  refine WP.t .n (O.stW (l := kC) (u := dotV (combV x a) y) 1 rfl rfl rfl ty31 rfl (VP.le_refl _)) ?_
  refine WP.nil ?_
  refine QE.next ?_
  refine CW.ret ?_
  exact QE.done (.inl rfl) rfl (ResOk.c rfl (mem_at 1 rfl) ty31 ResOk.nil) (OImp.sub (List.nil_sublist _)) ⟨rfl, rfl⟩

set_option maxRecDepth 20000 in
set_option maxHeartbeats 1000000 in
theorem c_quad_Value (n : Nat) (a : List (List Int)) (x : List Int) (hx : SzL n x) (hn : n ≤ 4294967296) : Fn Try.prog 53 [(kSl (kSl kZ)).is a, (kSl kZ).is x] (VP.tup [kC.is (qvalV a x), (kInt .i64).is (qvalE a x)]) := by
  refine Con.enter Try.func53 rfl rfl fun m w => ?_
  refine CW.seq ?_
  refine CW.region ?_
  refine WP.al .n z31_C fun b1 => ?_
  refine WP.s .n (O.asg rfl) ?_
  refine WP.nil ?_
  refine QE.next ?_
  refine CW.seq ?_
  refine CW.seq ?_
  refine CW.region ?_
  refine WP.s .n (O.mv rfl) ?_
  refine WP.s .n (O.fn fn51 (evs.c rfl evs.nil) (c_quad_Valid a)) ?_
  refine WP.s .n (O.asg rfl) ?_
  refine WP.nil ?_
  refine QE.next ?_
  refine CW.seq ?_
  refine CW.region ?_
  refine WP.s .n (O.mv rfl) ?_
  refine WP.s .n (O.ne rfl rfl) ?_
  refine WP.nil ?_
  refine QE.next ?_
  refine CW.condD rfl (fun h_t10 => ?_) (fun h_t10 => ?_)
  · refine CW.seq ?_
    refine CW.region ?_
    refine WP.s .n (O.bld lit31_C rfl evp.n (.nil _)) ?_
    refine WP.s .n (O.mv rfl) ?_
    refine WP.t .n (O.stW (l := kC) (u := 0) 0 rfl rfl rfl ty31 rfl (VP.le_refl _)) ?_
    refine WP.s .n (O.asg rfl) ?_
    refine WP.nil ?_
    refine QE.next ?_
    refine CW.ret ?_
    refine QE.thenR ?_
    refine ST.obtold 0 rfl (OB.box_eq (y := (qvalV a x)) (qv_1 h_t10).1.symm) ?_
    refine ST.told 5 rfl (is_eq (y := (qvalE a x)) (qv_1 h_t10).2.symm) ?_
    exact QE.done (.inl rfl) rfl (ResOk.c rfl (mem_at 0 rfl) ty31 (ResOk.t rfl ResOk.nil)) (OImp.sub (List.nil_sublist _)) ⟨rfl, rfl⟩
  · refine CW.skip ?_
    refine QE.next ?_
    refine CW.seq ?_
    refine CW.seq ?_
    refine CW.region ?_
    refine WP.s .n (O.mv rfl) ?_
    refine WP.s .n (O.lenS rfl Try.underlying27) ?_
    refine WP.s .n (O.mv rfl) ?_
    refine WP.s .n (O.lenS rfl Try.underlying67) ?_
    refine WP.s .n (O.ne rfl rfl) ?_
    refine WP.nil ?_
    refine QE.next ?_
    refine CW.condD rfl (fun h_t17 => ?_) (fun h_t17 => ?_)
    · refine CW.seq ?_
      refine CW.region ?_
      refine WP.s .n (O.bld lit31_C rfl evp.n (.nil _)) ?_
      refine WP.t .n (O.stW (l := kC) (u := 0) 0 rfl rfl rfl ty31 rfl (VP.le_refl _)) ?_
      refine WP.s .n (O.asg rfl) ?_
      refine WP.nil ?_
      refine QE.next ?_
      refine CW.ret ?_
      refine QE.thenR ?_
      refine ST.obtold 0 rfl (OB.box_eq (y := (qvalV a x)) (qv_2 h_t10 (by omega)).1.symm) ?_
      refine ST.told 5 rfl (is_eq (y := (qvalE a x)) (qv_2 h_t10 (by omega)).2.symm) ?_
      exact QE.done (.inl rfl) rfl (ResOk.c rfl (mem_at 0 rfl) ty31 (ResOk.t rfl ResOk.nil)) (OImp.sub (List.nil_sublist _)) ⟨rfl, rfl⟩
    · refine CW.skip ?_
      refine QE.next ?_
      refine CW.seq ?_
      have hM := (quad_ok (a := a) (by omega)).1
      refine CW.region ?_
      refine WP.s .n (O.mv rfl) ?_
      refine WP.s .n (O.mv rfl) ?_
      refine WP.s .n (O.mv rfl) ?_
      refine WP.s .n (O.fn fn114 (evs.c rfl (evs.c rfl (evs.c rfl evs.nil))) (c_quad_product n a x x (by first | assumption | exact hM.z | exact hM.n | exact ⟨sqm_rb hM, by omega⟩ | (rw [hM.q 0 hM.n0]; omega) | (have := hM.n; omega)) (by first | assumption | exact hM.z | exact hM.n | exact ⟨sqm_rb hM, by omega⟩ | (rw [hM.q 0 hM.n0]; omega) | (have := hM.n; omega)) (by first | assumption | exact hM.z | exact hM.n | exact ⟨sqm_rb hM, by omega⟩ | (rw [hM.q 0 hM.n0]; omega) | (have := hM.n; omega)) (by first | assumption | exact hM.z | exact hM.n | exact ⟨sqm_rb hM, by omega⟩ | (rw [hM.q 0 hM.n0]; omega) | (have := hM.n; omega)) (by first | assumption | exact hM.z | exact hM.n | exact ⟨sqm_rb hM, by omega⟩ | (rw [hM.q 0 hM.n0]; omega) | (have := hM.n; omega)) (by first | assumption | exact hM.z | exact hM.n | exact ⟨sqm_rb hM, by omega⟩ | (rw [hM.q 0 hM.n0]; omega) | (have := hM.n; omega)) (by first | assumption | exact hM.z | exact hM.n | exact ⟨sqm_rb hM, by omega⟩ | (rw [hM.q 0 hM.n0]; omega) | (have := hM.n; omega)) (by first | assumption | exact hM.z | exact hM.n | exact ⟨sqm_rb hM, by omega⟩ | (rw [hM.q 0 hM.n0]; omega) | (have := hM.n; omega)))) ?_
      refine WP.t .n (O.stW (l := kC) (u := dotV (combV x a) x) 0 rfl rfl rfl ty31 rfl (VP.le_refl _)) ?_
      refine WP.s .n (O.asg rfl) ?_
      refine WP.nil ?_
      refine QE.next ?_
      refine CW.ret ?_
      refine ST.obtold 0 rfl (OB.box_eq (y := (qvalV a x)) (qv_3 h_t10 (by omega)).1.symm) ?_
      refine ST.told 5 rfl (is_eq (y := (qvalE a x)) (qv_3 h_t10 (by omega)).2.symm) ?_
      exact QE.done (.inl rfl) rfl (ResOk.c rfl (mem_at 0 rfl) ty31 (ResOk.t rfl ResOk.nil)) (OImp.sub (List.nil_sublist _)) ⟨rfl, rfl⟩

set_option maxRecDepth 20000 in
set_option maxHeartbeats 1000000 in
theorem c_quad_Data (a : List (List Int)) : Fn Try.prog 55 [(kSl (kSl kZ)).is a] (VP.tup [(kPair (kSl kC) (kSl (kSl kC))).is (quadR a), (kInt .i64).is (quadE a)]) := by
  refine Con.enter Try.func55 rfl rfl fun m w => ?_
  refine CW.seq ?_
  refine CW.region ?_
  refine WP.al .n z93_pr_sl_C_sl_sl_C_ fun b1 => ?_
  refine WP.s .n (O.asg rfl) ?_
  refine WP.nil ?_
  refine QE.next ?_
  refine CW.seq ?_
  refine CW.seq ?_
  refine CW.region ?_
  refine WP.s .n (O.mv rfl) ?_
  refine WP.s .n (O.fn fn51 (evs.c rfl evs.nil) (c_quad_Valid a)) ?_
  refine WP.s .n (O.asg rfl) ?_
  refine WP.nil ?_
  refine QE.next ?_
  refine CW.seq ?_
  refine CW.region ?_
  refine WP.s .n (O.mv rfl) ?_
  refine WP.s .n (O.ne rfl rfl) ?_
  refine WP.nil ?_
  refine QE.next ?_
  refine CW.condD rfl (fun h_t10 => ?_) (fun h_t10 => ?_)
  · refine CW.seq ?_
    refine CW.region ?_
    refine WP.s .n (O.bld lit93_pr_sl_C_sl_sl_C_ rfl evp.n (.nil _)) ?_
    refine WP.s .n (O.mv rfl) ?_
    refine WP.t .n (O.stW (l := (kPair (kSl kC) (kSl (kSl kC)))) (u := ([], [])) 0 rfl rfl rfl ty93 rfl (VP.le_refl _)) ?_
    refine WP.s .n (O.asg rfl) ?_
    refine WP.nil ?_
    refine QE.next ?_
    refine CW.ret ?_
    refine QE.thenR ?_
    refine ST.obtold 0 rfl (OB.box_eq (y := (quadR a)) (quadR_1 h_t10)) ?_
    refine ST.told 3 rfl (is_eq (y := (quadE a)) (by omega)) ?_
    exact QE.done (.inl rfl) rfl (ResOk.c rfl (mem_at 0 rfl) ty93 (ResOk.t rfl ResOk.nil)) (OImp.sub (List.nil_sublist _)) ⟨rfl, rfl⟩
  · refine CW.skip ?_
    refine QE.next ?_
    refine CW.seq ?_
    have hM := (quad_ok (a := a) (by omega)).1
    refine CW.region ?_
    refine WP.s .n (O.mv rfl) ?_
    refine WP.s .n (O.fn fn113 (evs.c rfl evs.nil) (c_quad_data 256 a (by first | exact hM.z | exact hM.q | exact hM.s | exact hM.n | decide) (by first | exact hM.z | exact hM.q | exact hM.s | exact hM.n | decide) (by first | exact hM.z | exact hM.q | exact hM.s | exact hM.n | decide) (by first | exact hM.z | exact hM.q | exact hM.s | exact hM.n | decide) (by first | exact hM.z | exact hM.q | exact hM.s | exact hM.n | decide))) ?_
    refine WP.s .n (O.mv rfl) ?_
    refine WP.s .n (O.ext rfl rfl) ?_
    refine WP.s .n (O.ext rfl rfl) ?_
    refine WP.al .n z93_pr_sl_C_sl_sl_C_ fun b2 => ?_
    refine WP.t .n (O.stW (l := (kPair (kSl kC) (kSl (kSl kC)))) (u := gsoV (matF a) a.length) 0 rfl rfl rfl ty93 rfl (VP.le_refl _)) ?_
    refine WP.s .n (O.asg rfl) ?_
    refine WP.nil ?_
    refine QE.next ?_
    refine CW.seq ?_
    refine CW.region ?_
    refine WP.s .n (O.ld rfl (mem_at 0 rfl) (Lens.id _) ty93 rfl) ?_
    refine WP.t .n (O.stW (l := (kPair (kSl kC) (kSl (kSl kC)))) (u := gsoV (matF a) a.length) 1 rfl rfl rfl ty93 rfl (VP.le_refl _)) ?_
    refine WP.s .n (O.asg rfl) ?_
    refine WP.nil ?_
    refine QE.next ?_
    refine CW.ret ?_
    refine ST.obtold 1 rfl (OB.box_eq (y := (quadR a)) (quadR_ok (by omega))) ?_
    refine ST.told 3 rfl (is_eq (y := (quadE a)) (by omega)) ?_
    exact QE.done (.inl rfl) rfl (ResOk.c rfl (mem_at 1 rfl) ty93 (ResOk.t rfl ResOk.nil)) (OImp.sub (List.nil_sublist _)) ⟨rfl, rfl⟩

set_option maxRecDepth 20000 in
set_option maxHeartbeats 1000000 in
theorem c_law22_six  : Fn Try.prog 133 [] ((kSl (kSl kC)).is [[2, 1], [1, 2]]) := by
  refine Con.enter Try.func133 rfl rfl fun m w => ?_
  refine CW.seq ?_
  refine CW.region ?_
  refine WP.s .n (O.asg rfl) ?_
  refine WP.nil ?_
  refine QE.next ?_
  refine CW.seq ?_
  refine CW.region ?_
  refine WP.s .n (O.asg rfl) ?_
  refine WP.nil ?_
  refine QE.next ?_
  refine CW.seq ?_
  refine CW.region ?_
  refine WP.s .n (O.asg rfl) ?_
  refine WP.s .n (O.asg rfl) ?_
  refine WP.nil ?_
  refine QE.next ?_
  refine CW.seq ?_
  refine CW.region ?_
  refine WP.s .n (O.mv rfl) ?_
  refine WP.s .n (O.fn fn74 (evs.l rfl (i64_int (by omega)) evs.nil) (c_zint_Of 2)) ?_
  refine WP.s .n (O.fn fn74 (evs.l rfl (i64_int (by omega)) evs.nil) (c_zint_Of 1)) ?_
  refine WP.s .n (O.bs Try.underlying27 el31_C (evl.c rfl (evl.c rfl evl.n)) rfl (by decide)) ?_
  refine ST.nilrow 31 kC ?_
  refine WP.ap 0 .n rfl rfl rfl (VP.le_refl _) Try.underlying27 el31_C (by simp) fun v1 => ?_
  refine WP.s .n (O.asg rfl) ?_
  refine WP.nil ?_
  refine QE.next ?_
  refine CW.seq ?_
  refine CW.region ?_
  refine WP.s .n (O.mv rfl) ?_
  refine WP.s .n (O.fn fn74 (evs.l rfl (i64_int (by omega)) evs.nil) (c_zint_Of 1)) ?_
  refine WP.s .n (O.fn fn74 (evs.l rfl (i64_int (by omega)) evs.nil) (c_zint_Of 2)) ?_
  refine WP.s .n (O.bs Try.underlying27 el31_C (evl.c rfl (evl.c rfl evl.n)) rfl (by decide)) ?_
  refine ST.nilrow 31 kC ?_
  refine WP.ap 0 .n rfl rfl rfl (VP.le_refl _) Try.underlying27 el31_C (by simp) fun v2 => ?_
  refine WP.s .n (O.asg rfl) ?_
  refine WP.nil ?_
  refine QE.next ?_
  refine CW.seq ?_
  refine ST.freeze 1 rfl (.keep (i := 0) rfl (.keep (i := 1) rfl (.hit (i := 2) rfl (.keep (i := 3) rfl (.keep (i := 4) rfl (.keep (i := 5) rfl (.keep (i := 6) rfl (.keep (i := 7) rfl (.hit (i := 8) rfl (.keep (i := 9) rfl (.keep (i := 10) rfl (.keep (i := 11) rfl (.keep (i := 12) rfl (.keep (i := 13) rfl .nil)))))))))))))) ?_
  refine ST.freeze 0 rfl (.keep (i := 0) rfl (.keep (i := 1) rfl (.keep (i := 2) rfl (.hit (i := 3) rfl (.keep (i := 4) rfl (.keep (i := 5) rfl (.keep (i := 6) rfl (.keep (i := 7) rfl (.keep (i := 8) rfl (.keep (i := 9) rfl (.keep (i := 10) rfl (.keep (i := 11) rfl (.keep (i := 12) rfl (.hit (i := 13) rfl .nil)))))))))))))) ?_
  refine CW.region ?_
  refine WP.s .n (O.mv rfl) ?_
  refine WP.s .n (O.mv rfl) ?_
  refine WP.s .n (O.mv rfl) ?_
  refine WP.s .n (O.bs Try.underlying67 el27_sl_C (evl.c rfl (evl.c rfl evl.n)) rfl (by decide)) ?_
  refine ST.nilrow 27 (kSl kC) ?_
  refine WP.ap 0 .n rfl rfl rfl (VP.le_refl _) Try.underlying67 el27_sl_C (by simp) fun v3 => ?_
  refine WP.s .n (O.asg rfl) ?_
  refine WP.nil ?_
  refine QE.next ?_
  refine CW.ret ?_
  refine ST.freeze 0 rfl (.hit (i := 0) rfl (.keep (i := 1) rfl (.keep (i := 2) rfl (.keep (i := 3) rfl (.keep (i := 4) rfl (.keep (i := 5) rfl (.keep (i := 6) rfl (.keep (i := 7) rfl (.keep (i := 8) rfl (.keep (i := 9) rfl (.keep (i := 10) rfl (.keep (i := 11) rfl (.keep (i := 12) rfl (.keep (i := 13) rfl (.keep (i := 14) rfl (.keep (i := 15) rfl (.keep (i := 16) rfl (.keep (i := 17) rfl (.hit (i := 18) rfl .nil))))))))))))))))))) ?_
  exact QE.done (.inl rfl) rfl (ResOk.t rfl ResOk.nil) (OImp.sub (List.nil_sublist _)) ⟨rfl, rfl⟩

set_option maxRecDepth 20000 in
set_option maxHeartbeats 1000000 in
theorem c_law22_alive  : Fn Try.prog 66 [] (kBool.is true) := by
  refine Con.enter Try.func66 rfl rfl fun m w => ?_
  refine CW.seq ?_
  refine CW.region ?_
  refine WP.s .n (O.asg rfl) ?_
  refine WP.nil ?_
  refine QE.next ?_
  refine CW.seq ?_
  refine CW.region ?_
  refine WP.s .n (O.asg rfl) ?_
  refine WP.nil ?_
  refine QE.next ?_
  refine CW.seq ?_
  refine CW.region ?_
  refine WP.s .n (O.mv rfl) ?_
  refine WP.s .n (O.fn fn74 (evs.l rfl (i64_int (by omega)) evs.nil) (c_zint_Of 1)) ?_
  refine WP.s .n (O.fn fn74 (evs.l rfl (i64_int (by omega)) evs.nil) (c_zint_Of (-1))) ?_
  refine WP.s .n (O.bs Try.underlying27 el31_C (evl.c rfl (evl.c rfl evl.n)) rfl (by decide)) ?_
  refine ST.nilrow 31 kC ?_
  refine WP.ap 0 .n rfl rfl rfl (VP.le_refl _) Try.underlying27 el31_C (by simp) fun v1 => ?_
  refine WP.s .n (O.asg rfl) ?_
  refine WP.nil ?_
  refine QE.next ?_
  refine CW.seq ?_
  have hs1 : Sm 1 := Sm_of (n := 2) (by decide) (by decide)
  have hsm : Sm (-1) := Sm_of (n := 2) (by decide) (by decide)
  have hs2 : Sm 2 := Sm_of (n := 2) (by decide) (by decide)
  have hx1 : ∀ x ∈ ([1, -1] : List Int), Sm x := by intro x hx; rcases List.mem_cons.1 hx with rfl | hx; exact hs1; rcases List.mem_cons.1 hx with rfl | hx; exact hsm; cases hx
  have hs6 : ∀ r ∈ ([[2, 1], [1, 2]] : List (List Int)), ∀ x ∈ r, Sm x := by intro r hr x hx; simp at hr; rcases hr with rfl | rfl <;> simp at hx <;> rcases hx with rfl | rfl <;> assumption
  have hx6 : SzL 1 ([1, -1] : List Int) := by intro i; match i with | 0 => exact (by decide : (1 : Int).natAbs < 2 ^ 1) | 1 => exact (by decide : (-1 : Int).natAbs < 2 ^ 1) | n + 2 => exact Sz.zero 1
  refine CW.region ?_
  refine WP.s .n (O.fn fn133 evs.nil (c_law22_six)) ?_
  refine WP.s .n (O.mv rfl) ?_
  refine ST.freeze 0 rfl (.keep (i := 0) rfl (.hit (i := 1) rfl (.keep (i := 4) rfl (.keep (i := 5) rfl (.keep (i := 6) rfl (.keep (i := 7) rfl (.hit (i := 8) rfl (.keep (i := 10) rfl (.hit (i := 11) rfl .nil))))))))) ?_
  refine WP.s .n (O.fn fn53 (evs.l rfl (slslC_Z (by first | exact hx1 | exact hs6 | exact hs6 _ (by simp) | (intro x hx; simp at hx; rcases hx with rfl | rfl <;> assumption) | (simp; exact ⟨hs1, hsm⟩))) (evs.l rfl (slC_Z (by first | exact hx1 | exact hs6 | exact hs6 _ (by simp) | (intro x hx; simp at hx; rcases hx with rfl | rfl <;> assumption) | (simp; exact ⟨hs1, hsm⟩))) evs.nil)) (c_quad_Value 1 [[2, 1], [1, 2]] [1, (-1)] hx6 (by decide))) ?_
  refine WP.s .n (O.mv rfl) ?_
  refine WP.s .n (O.ext rfl rfl) ?_
  refine WP.s .n (O.ext rfl rfl) ?_
  refine WP.al .n z31_C fun b2 => ?_
  refine WP.t .n (O.stW (l := kC) (u := qvalV [[2, 1], [1, 2]] [1, (-1)]) 0 rfl rfl rfl ty31 rfl (VP.le_refl _)) ?_
  refine WP.s .n (O.asg rfl) ?_
  refine WP.nil ?_
  refine QE.next ?_
  refine CW.seq ?_
  refine ST.obtold 0 rfl (OB.box_eq (y := 2) (by decide +kernel)) ?_
  refine ST.obtold (b' := OB.box b2 31 kI (canon 2)) 0 rfl OB.C_I ?_
  refine CW.draw (Γ := [.fr ((kInt .i64).is (qvalE [[2, 1], [1, 2]] [1, (-1)])), .fr (kBool.is true), .fr (kBool.is true), .fr (kI.is (canon 2)), .fr (kC.is 2), .fr (kBool.is true), .fr (kBool.is true), .fr (kBool.is true), .fr (VP.ex (.pointer (some ⟨b2, 1, none⟩))), .fr (kN.is ((canon 2).2)), .fr ((kInt .i64).is (((canon 2).2).length : Int)), .fr (kBool.is true), .fr (kBool.is true)]) (lates := [false, false, false, false, false, false, false, false, false, false, false, false, false]) (by kernel_rfl) (Chk.of rfl (by kernel_rfl) rfl) (fun _ _ _ _ _ h => h) (fun q_ x_ h_ => ?_) (fun σ1 => ?_)
  · match q_, h_ with
    | 0, h_ => cases h_; exact Ob.f rfl .n fun N => (O.mv rfl)
    | 1, h_ => cases h_; exact Ob.f rfl .n fun N => (OpOk.le (O.eq rfl rfl) (is_eq (decide_eq_true (by decide +kernel))))
    | 2, h_ => cases h_; exact Ob.f rfl .n fun N => (O.mv rfl)
    | 3, h_ => cases h_; exact Ob.f rfl (.g rfl rfl) fun N => (O.ld rfl (mem_app N (mem_at 0 rfl)) (Lens.id _) ty31 rfl)
    | 4, h_ => cases h_; exact Ob.f rfl (.g rfl rfl) fun N => (O.fn fn74 (evs.l rfl (i64_int (by omega)) evs.nil) (c_zint_Of 2))
    | 5, h_ => cases h_; exact Ob.f rfl (.g rfl rfl) fun N => (OpOk.le (O.fn fn29 (evs.c rfl (evs.l rfl (kC_I _) evs.nil)) (c_law22_eq (canon 2) (canon 2))) (is_eq (by simp)))
    | 6, h_ => cases h_; exact Ob.f rfl .n fun N => (O.pickT rfl rfl)
    | 7, h_ => cases h_; exact Ob.f rfl .n fun N => (O.mv rfl)
    | 8, h_ => cases h_; exact Ob.f rfl (.g rfl rfl) fun N => (O.fa rfl fld31_1 rfl)
    | 9, h_ => cases h_; exact Ob.f rfl (.g rfl rfl) fun N => (O.ld rfl (mem_app N (mem_at 0 rfl)) (Lens.snd (Lens.id _)) ty29 rfl)
    | 10, h_ => cases h_; exact Ob.f rfl (.g rfl rfl) fun N => (O.lenS rfl Try.underlying29)
    | 11, h_ => cases h_; exact Ob.f rfl (.g rfl rfl) fun N => (OpOk.le (O.eq rfl rfl) (is_eq (by simp [canon, limbs_pos, limbs_zero])))
    | 12, h_ => cases h_; exact Ob.f rfl .n fun N => (O.pickT rfl rfl)
    | n_ + 13, h_ => simp at h_
  refine WP.s .n (O.asg rfl) ?_
  refine WP.nil ?_
  refine QE.next ?_
  refine CW.ret ?_
  exact QE.done (.inl rfl) rfl (ResOk.t rfl ResOk.nil) (OImp.sub (List.nil_sublist _)) ⟨rfl, rfl⟩

set_option maxRecDepth 20000 in
set_option maxHeartbeats 1000000 in
theorem c_gso_Of (b : List (List Int)) : Fn Try.prog 67 [(kSl (kSl kZ)).is b] (VP.tup [(kPair (kSl kC) (kSl (kSl kC))).is (gsoR b true), (kInt .i64).is (gsoE b true)]) := by
  refine Con.enter Try.func67 rfl rfl fun m w => ?_
  refine CW.seq ?_
  refine CW.region ?_
  refine WP.al .n z93_pr_sl_C_sl_sl_C_ fun b1 => ?_
  refine WP.s .n (O.asg rfl) ?_
  refine WP.nil ?_
  refine QE.next ?_
  refine CW.seq ?_
  refine CW.region ?_
  refine WP.s .n (O.mv rfl) ?_
  refine WP.s .n (O.fn fn134 (evs.c rfl (evs.c rfl evs.nil)) (c_gso_of 256 b true (fun h => mbits_Sz ((bigN_no (gshape_ok h).1).2.1 rfl)) (by decide))) ?_
  refine WP.s .n (O.ext rfl rfl) ?_
  refine WP.s .n (O.ext rfl rfl) ?_
  refine WP.t .n (O.stW (l := (kPair (kSl kC) (kSl (kSl kC)))) (u := gsoR b true) 0 rfl rfl rfl ty93 rfl (VP.le_refl _)) ?_
  refine WP.s .n (O.asg rfl) ?_
  refine WP.nil ?_
  refine QE.next ?_
  refine CW.ret ?_
  exact QE.done (.inl rfl) rfl (ResOk.c rfl (mem_at 0 rfl) ty93 (ResOk.t rfl ResOk.nil)) (OImp.sub (List.nil_sublist _)) ⟨rfl, rfl⟩

set_option maxRecDepth 20000 in
set_option maxHeartbeats 1000000 in
theorem c_mat_eachRR (fid : FuncId) (caps : List VP) (F : List Int → List Int) (l : List (List Int)) (hok : FnOk Try.prog fid) (hF : ∀ x, x ∈ l → Fn Try.prog fid ((kSl kZ).is x :: caps) ((kSl kC).is (F x))) : Fn Try.prog 136 [(kSl (kSl kZ)).is l, VP.clo fid caps] ((kSl (kSl kC)).is (l.map F)) := by
  refine Con.enter Try.func136 rfl rfl fun m w => ?_
  refine ST.fact (i := 0) rfl sl_len fun hB => ?_
  refine CW.seq ?_
  refine CW.region ?_
  refine WP.s .n (O.asg rfl) ?_
  refine WP.nil ?_
  refine QE.next ?_
  refine CW.seq ?_
  refine CW.region ?_
  refine WP.s .n (O.mv rfl) ?_
  refine WP.s .n (O.lenS rfl Try.underlying67) ?_
  refine WP.mk0 l.length .n rfl rfl rfl (by omega) Try.underlying67 el27_sl_C z27_sl_C fun v1 => ?_
  refine WP.s .n (O.asg rfl) ?_
  refine WP.nil ?_
  refine QE.next ?_
  refine CW.seq ?_
  refine CW.seq ?_
  refine CW.region ?_
  refine WP.s .n (O.mv rfl) ?_
  refine WP.s .n (O.lenS rfl Try.underlying67) ?_
  refine WP.s .n (O.mv rfl) ?_
  refine WP.nil ?_
  refine QE.next ?_
  refine CW.block ?_
  refine CW.loop2 (fun (i : Nat) (v : Value) => i ≤ l.length) (fun (i : Nat) (v : Value) => [(0, (kSl (kSl kZ)).is l), (1, VP.clo fid caps), (5, VP.ex v), (11, (kSl (kSl kZ)).is l), (12, (kInt .i64).is (l.length : Int)), (13, (kInt .i64).is (i : Int))]) (fun (i : Nat) (v : Value) => [OB.row v 27 (kSl kC) ((l.take i).map F)]) (fun (i : Nat) (v : Value) => l.length - i) 0 v1 (by omega) (Imp.cons rfl (Imp.cons rfl (Imp.cons rfl (Imp.cons rfl (Imp.cons rfl (Imp.consLe rfl (is_eq (y := (0 : Int)) (by first | rfl | omega | assumption)) Imp.nil)))))) (OImp.os (OS.keepLe (OB.row_eq (by first | rfl | omega | assumption)) OS.nil)) ?_
  intro i v hi
  refine CW.seq ?_
  refine CW.region ?_
  refine WP.s .n (O.lt rfl rfl) ?_
  refine WP.nil ?_
  refine QE.next ?_
  refine CW.seq ?_
  refine CW.condD rfl (fun h_t14 => ?_) (fun h_t14 => ?_)
  · refine CW.skip ?_
    refine QE.next ?_
    refine CW.seq ?_
    refine CW.block ?_
    refine CW.seq ?_
    refine CW.region ?_
    refine WP.s .n (O.ix i rfl rfl Try.underlying67 ty27 rfl (v := (l.getD i [])) (gd [] (by omega))) ?_
    refine WP.s .n (O.ldP rfl ty27) ?_
    refine WP.s .n (O.asg rfl) ?_
    refine WP.nil ?_
    refine QE.next ?_
    refine CW.region ?_
    refine WP.s .n (O.mv rfl) ?_
    refine WP.s .n (O.mv rfl) ?_
    refine WP.s .n (O.mv rfl) ?_
    refine WP.s .n (O.clo rfl hok (evs.c rfl evs.nil) (hF _ (getD_mem [] (by omega)))) ?_
    refine WP.s .n (O.bs Try.underlying67 el27_sl_C (evl.c rfl evl.n) rfl (by decide)) ?_
    refine WP.ap 0 .n rfl rfl rfl (VP.le_refl _) Try.underlying67 el27_sl_C (by simp; omega) fun v2 => ?_
    refine WP.s .n (O.asg rfl) ?_
    refine WP.nil ?_
    refine QE.blkN ?_
    refine QE.next ?_
    refine CW.region ?_
    refine WP.s .n (O.add rfl rfl (c := ((i : Int) + 1)) (w64 (by omega))) ?_
    refine WP.s .n (O.mv rfl) ?_
    refine WP.nil ?_
    refine ST.obtold 0 rfl (OB.row_eq (ys := ((l.take (i + 1)).map F)) (map_take_app (by omega))) ?_
    exact QE.round2 (i + 1) v2 (by omega) (by omega) (Imp.cons rfl (Imp.cons rfl (Imp.cons rfl (Imp.cons rfl (Imp.cons rfl (Imp.consLe rfl (is_eq (y := (((i + 1) : Nat) : Int)) (by first | rfl | omega | assumption)) Imp.nil)))))) (OImp.refl _)
  · refine CW.exit ?_
    refine QE.thenE ?_
    refine QE.thenE ?_
    refine QE.blkH ?_
    refine QE.next ?_
    refine CW.seq ?_
    refine CW.region ?_
    refine WP.s .n (O.mv rfl) ?_
    refine WP.s .n (O.asg rfl) ?_
    refine WP.nil ?_
    refine QE.next ?_
    refine CW.ret ?_
    refine ST.freeze 0 rfl (.keep (i := 0) rfl (.keep (i := 1) rfl (.hit (i := 4) rfl (.hit (i := 5) rfl (.keep (i := 11) rfl (.keep (i := 12) rfl (.keep (i := 13) rfl (.keep (i := 14) rfl (.hit (i := 24) rfl .nil))))))))) ?_
    refine ST.told 4 rfl (is_eq (y := (l.map F)) (by rw [List.take_of_length_le (by omega)])) ?_
    exact QE.done (.inl rfl) rfl (ResOk.t rfl ResOk.nil) (OImp.sub (List.nil_sublist _)) ⟨rfl, rfl⟩

set_option maxRecDepth 20000 in
set_option maxHeartbeats 1000000 in
theorem c_mat_eachRI (fid : FuncId) (caps : List VP) (F : List Int → Int) (l : List (List Int)) (hok : FnOk Try.prog fid) (hF : ∀ x, x ∈ l → Fn Try.prog fid ((kSl kZ).is x :: caps) (kC.is (F x))) : Fn Try.prog 138 [(kSl (kSl kZ)).is l, VP.clo fid caps] ((kSl kC).is (l.map F)) := by
  refine Con.enter Try.func138 rfl rfl fun m w => ?_
  refine ST.fact (i := 0) rfl sl_len fun hB => ?_
  refine CW.seq ?_
  refine CW.region ?_
  refine WP.s .n (O.asg rfl) ?_
  refine WP.nil ?_
  refine QE.next ?_
  refine CW.seq ?_
  refine CW.region ?_
  refine WP.s .n (O.mv rfl) ?_
  refine WP.s .n (O.lenS rfl Try.underlying67) ?_
  refine WP.mk0 l.length .n rfl rfl rfl (by omega) Try.underlying27 el31_C z31_C fun v1 => ?_
  refine WP.s .n (O.asg rfl) ?_
  refine WP.nil ?_
  refine QE.next ?_
  refine CW.seq ?_
  refine CW.seq ?_
  refine CW.region ?_
  refine WP.s .n (O.mv rfl) ?_
  refine WP.s .n (O.lenS rfl Try.underlying67) ?_
  refine WP.s .n (O.mv rfl) ?_
  refine WP.nil ?_
  refine QE.next ?_
  refine CW.block ?_
  refine CW.loop2 (fun (i : Nat) (v : Value) => i ≤ l.length) (fun (i : Nat) (v : Value) => [(0, (kSl (kSl kZ)).is l), (1, VP.clo fid caps), (5, VP.ex v), (11, (kSl (kSl kZ)).is l), (12, (kInt .i64).is (l.length : Int)), (13, (kInt .i64).is (i : Int))]) (fun (i : Nat) (v : Value) => [OB.row v 31 kC ((l.take i).map F)]) (fun (i : Nat) (v : Value) => l.length - i) 0 v1 (by omega) (Imp.cons rfl (Imp.cons rfl (Imp.cons rfl (Imp.cons rfl (Imp.cons rfl (Imp.consLe rfl (is_eq (y := (0 : Int)) (by first | rfl | omega | assumption)) Imp.nil)))))) (OImp.os (OS.keepLe (OB.row_eq (by first | rfl | omega | assumption)) OS.nil)) ?_
  intro i v hi
  refine CW.seq ?_
  refine CW.region ?_
  refine WP.s .n (O.lt rfl rfl) ?_
  refine WP.nil ?_
  refine QE.next ?_
  refine CW.seq ?_
  refine CW.condD rfl (fun h_t14 => ?_) (fun h_t14 => ?_)
  · refine CW.skip ?_
    refine QE.next ?_
    refine CW.seq ?_
    refine CW.block ?_
    refine CW.seq ?_
    refine CW.region ?_
    refine WP.s .n (O.ix i rfl rfl Try.underlying67 ty27 rfl (v := (l.getD i [])) (gd [] (by omega))) ?_
    refine WP.s .n (O.ldP rfl ty27) ?_
    refine WP.s .n (O.asg rfl) ?_
    refine WP.nil ?_
    refine QE.next ?_
    refine CW.region ?_
    refine WP.s .n (O.mv rfl) ?_
    refine WP.s .n (O.mv rfl) ?_
    refine WP.s .n (O.mv rfl) ?_
    refine WP.s .n (O.clo rfl hok (evs.c rfl evs.nil) (hF _ (getD_mem [] (by omega)))) ?_
    refine WP.s .n (O.bs Try.underlying27 el31_C (evl.c rfl evl.n) rfl (by decide)) ?_
    refine WP.ap 0 .n rfl rfl rfl (VP.le_refl _) Try.underlying27 el31_C (by simp; omega) fun v2 => ?_
    refine WP.s .n (O.asg rfl) ?_
    refine WP.nil ?_
    refine QE.blkN ?_
    refine QE.next ?_
    refine CW.region ?_
    refine WP.s .n (O.add rfl rfl (c := ((i : Int) + 1)) (w64 (by omega))) ?_
    refine WP.s .n (O.mv rfl) ?_
    refine WP.nil ?_
    refine ST.obtold 0 rfl (OB.row_eq (ys := ((l.take (i + 1)).map F)) (map_take_app (by omega))) ?_
    exact QE.round2 (i + 1) v2 (by omega) (by omega) (Imp.cons rfl (Imp.cons rfl (Imp.cons rfl (Imp.cons rfl (Imp.cons rfl (Imp.consLe rfl (is_eq (y := (((i + 1) : Nat) : Int)) (by first | rfl | omega | assumption)) Imp.nil)))))) (OImp.refl _)
  · refine CW.exit ?_
    refine QE.thenE ?_
    refine QE.thenE ?_
    refine QE.blkH ?_
    refine QE.next ?_
    refine CW.seq ?_
    refine CW.region ?_
    refine WP.s .n (O.mv rfl) ?_
    refine WP.s .n (O.asg rfl) ?_
    refine WP.nil ?_
    refine QE.next ?_
    refine CW.ret ?_
    refine ST.freeze 0 rfl (.keep (i := 0) rfl (.keep (i := 1) rfl (.hit (i := 4) rfl (.hit (i := 5) rfl (.keep (i := 11) rfl (.keep (i := 12) rfl (.keep (i := 13) rfl (.keep (i := 14) rfl (.hit (i := 24) rfl .nil))))))))) ?_
    refine ST.told 4 rfl (is_eq (y := (l.map F)) (by rw [List.take_of_length_le (by omega)])) ?_
    exact QE.done (.inl rfl) rfl (ResOk.t rfl ResOk.nil) (OImp.sub (List.nil_sublist _)) ⟨rfl, rfl⟩

set_option maxRecDepth 20000 in
set_option maxHeartbeats 1000000 in
theorem c_mat_Gram11 (n : Nat) (u v : List Int) (hu : SzL n u) (hv : SzL n v) (hn : n + n + u.length ≤ 549755813000) (hl : u.length ≤ v.length) : Fn Try.prog 139 [(kSl kZ).is v, VP.pim (kSl kZ) u] (kC.is (dotV u v)) := by
  refine Con.enter Try.func139 rfl rfl fun m w => ?_
  refine CW.seq ?_
  refine CW.region ?_
  refine WP.al .n z31_C fun b1 => ?_
  refine WP.nil ?_
  refine QE.next ?_
  refine CW.seq ?_
  refine CW.region ?_
  refine WP.s .n (O.ldP rfl ty27) ?_
  refine WP.s .n (O.mv rfl) ?_
  refine WP.s .n (O.fn fn140 (evs.c rfl (evs.c rfl evs.nil)) (c_mat_dot n u v (by assumption) (by assumption) (by assumption) (by assumption))) ?_
  refine WP.t .n (O.stW (l := kC) (u := dotV u v) 0 rfl rfl rfl ty31 rfl (VP.le_refl _)) ?_
  refine WP.nil ?_
  refine QE.next ?_
  refine CW.ret ?_
  exact QE.done (.inl rfl) rfl (ResOk.c rfl (mem_at 0 rfl) ty31 ResOk.nil) (OImp.sub (List.nil_sublist _)) ⟨rfl, rfl⟩

set_option maxRecDepth 20000 in
set_option maxHeartbeats 1000000 in
theorem c_mat_Gram1 (n : Nat) (b : List (List Int)) (u : List Int) (hb : SzM n b) (hu : SzL n u) (hn : n + n + u.length ≤ 549755813000) (hl : ∀ v, v ∈ b → u.length = v.length) : Fn Try.prog 137 [(kSl kZ).is u, VP.pim (kSl (kSl kZ)) b] ((kSl kC).is (b.map (fun v => dotV u v))) := by
  refine Con.enter Try.func137 rfl rfl fun m w => ?_
  refine CW.seq ?_
  refine CW.region ?_
  refine WP.bx .n rfl fun b1 => ?_
  refine WP.s .n (O.asg rfl) ?_
  refine WP.nil ?_
  refine QE.next ?_
  refine CW.seq ?_
  refine ST.freezeb 0 rfl (.keep (i := 0) rfl (.keep (i := 1) rfl (.hit (i := 2) rfl (.keep (i := 3) rfl .nil)))) ?_
  refine CW.region ?_
  refine WP.s .n (O.ldP rfl ty67) ?_
  refine WP.s .n (O.mkf (evs.c rfl evs.nil)) ?_
  refine WP.s .n (O.fn fn138 (evs.c rfl (evs.c rfl evs.nil)) (c_mat_eachRI 139 [VP.pim (kSl kZ) u] (fun v => dotV u v) b fn139 (fun v hv => c_mat_Gram11 n u v hu (SzM_mem hb hv) hn (Nat.le_of_eq (hl v hv))))) ?_
  refine WP.s .n (O.asg rfl) ?_
  refine WP.nil ?_
  refine QE.next ?_
  refine CW.ret ?_
  exact QE.done (.inl rfl) rfl (ResOk.t rfl ResOk.nil) (OImp.sub (List.nil_sublist _)) ⟨rfl, rfl⟩

set_option maxRecDepth 20000 in
set_option maxHeartbeats 1000000 in
theorem c_mat_Gram (n mm : Nat) (b : List (List Int)) (hb : SzM n b) (hc : ∀ i, (b.getD i []).length ≤ mm) (hn : n + n + mm ≤ 549755813000) : Fn Try.prog 68 [(kSl (kSl kZ)).is b] (VP.tup [(kSl (kSl kC)).is (gramV b), (kInt .i64).is (shE b)]) := by
  refine Con.enter Try.func68 rfl rfl fun m w => ?_
  refine CW.seq ?_
  refine CW.region ?_
  refine WP.bx .n rfl fun b1 => ?_
  refine WP.s .n (O.asg rfl) ?_
  refine WP.s .n (O.asg rfl) ?_
  refine WP.nil ?_
  refine QE.next ?_
  refine CW.seq ?_
  refine CW.seq ?_
  refine CW.region ?_
  refine WP.s .n (O.ld rfl (mem_at 0 rfl) (Lens.id _) ty67 rfl) ?_
  refine WP.s .n (O.fn fn135 (evs.c rfl evs.nil) (c_mat_Shape b)) ?_
  refine WP.s .n (O.mv rfl) ?_
  refine WP.s .n (O.ext rfl rfl) ?_
  refine WP.s .n (O.ext rfl rfl) ?_
  refine WP.s .n (O.ext rfl rfl) ?_
  refine WP.s .n (O.asg rfl) ?_
  refine WP.s .n (O.asg rfl) ?_
  refine WP.s .n (O.asg rfl) ?_
  refine WP.nil ?_
  refine QE.next ?_
  refine CW.seq ?_
  refine CW.region ?_
  refine WP.s .n (O.mv rfl) ?_
  refine WP.s .n (O.ne rfl rfl) ?_
  refine WP.nil ?_
  refine QE.next ?_
  refine CW.condD rfl (fun h_t14 => ?_) (fun h_t14 => ?_)
  · refine CW.seq ?_
    refine CW.region ?_
    refine WP.s .n (O.mv rfl) ?_
    refine WP.s .n (O.asg rfl) ?_
    refine WP.s .n (O.asg rfl) ?_
    refine WP.nil ?_
    refine QE.next ?_
    refine CW.ret ?_
    refine QE.thenR ?_
    refine ST.told (q := (kSl (kSl kC)).is (gramV b)) 2 rfl (VP.le_trans (nil_le _) (is_eq (gramV_no (not_rect_of_shE h_t14)).symm)) ?_
    exact QE.done (.inl rfl) rfl (ResOk.t rfl (ResOk.t rfl ResOk.nil)) (OImp.sub (List.nil_sublist _)) ⟨rfl, rfl⟩
  · refine CW.skip ?_
    refine QE.next ?_
    refine CW.seq ?_
    have hR := rectL (rect_of_shE h_t14)
    refine ST.freezeb 0 rfl (.keep (i := 0) rfl (.hit (i := 1) rfl (.keep (i := 2) rfl (.keep (i := 3) rfl (.keep (i := 4) rfl (.keep (i := 5) rfl (.keep (i := 6) rfl (.keep (i := 7) rfl (.keep (i := 8) rfl (.keep (i := 9) rfl (.keep (i := 10) rfl (.keep (i := 11) rfl (.keep (i := 12) rfl (.keep (i := 13) rfl (.keep (i := 14) rfl .nil))))))))))))))) ?_
    refine CW.region ?_
    refine WP.s .n (O.ldP rfl ty67) ?_
    refine WP.s .n (O.mkf (evs.c rfl evs.nil)) ?_
    refine WP.s .n (O.fn fn136 (evs.c rfl (evs.c rfl evs.nil)) (c_mat_eachRR 137 [VP.pim (kSl (kSl kZ)) b] (fun u => b.map (fun v => dotV u v)) b fn137 (fun u hu => c_mat_Gram1 n b u hb (SzM_mem hb hu) (by have := len_mem hc hu; omega) (fun v hv => rect_mem hR hu hv)))) ?_
    refine WP.s .n (O.asg rfl) ?_
    refine WP.s .n (O.asg rfl) ?_
    refine WP.nil ?_
    refine QE.next ?_
    refine CW.ret ?_
    refine ST.told 2 rfl (is_eq (y := (gramV b)) (gramV_yes (rect_of_shE h_t14))) ?_
    refine ST.told 3 rfl (is_eq (y := (shE b)) (by omega)) ?_
    exact QE.done (.inl rfl) rfl (ResOk.t rfl (ResOk.t rfl ResOk.nil)) (OImp.sub (List.nil_sublist _)) ⟨rfl, rfl⟩

set_option maxRecDepth 20000 in
set_option maxHeartbeats 1000000 in
theorem c_law22_QuadRows (b : List (List Int)) (x : List Int) (hb : SzM 33554432 b) (hx : SzL 33554432 x) (hc : ∀ i, (b.getD i []).length ≤ 1048576) : Fn Try.prog 12 [(kSl (kSl kZ)).is b, (kSl kZ).is x] (kBool.is true) := by
  refine Con.enter Try.func12 rfl rfl fun m w => ?_
  refine CW.seq ?_
  refine CW.region ?_
  refine WP.s .n (O.asg rfl) ?_
  refine WP.nil ?_
  refine QE.next ?_
  refine CW.seq ?_
  refine CW.seq ?_
  refine CW.region ?_
  refine WP.s .n (O.fn fn66 evs.nil (c_law22_alive)) ?_
  refine WP.s .n (O.not (a := true) rfl) ?_
  refine WP.nil ?_
  refine QE.next ?_
  refine CW.condF rfl ?_
  refine CW.skip ?_
  refine QE.next ?_
  refine CW.seq ?_
  refine CW.region ?_
  refine WP.s .n (O.mv rfl) ?_
  refine WP.s .n (O.fn fn67 (evs.c rfl evs.nil) (c_gso_Of b)) ?_
  refine WP.s .n (O.mv rfl) ?_
  refine WP.s .n (O.ext rfl rfl) ?_
  refine WP.s .n (O.ext rfl rfl) ?_
  refine WP.al .n z93_pr_sl_C_sl_sl_C_ fun b1 => ?_
  refine WP.t .n (O.stW (l := (kPair (kSl kC) (kSl (kSl kC)))) (u := gsoR b true) 0 rfl rfl rfl ty93 rfl (VP.le_refl _)) ?_
  refine WP.s .n (O.asg rfl) ?_
  refine WP.nil ?_
  refine QE.next ?_
  refine CW.seq ?_
  refine CW.region ?_
  refine WP.s .n (O.mv rfl) ?_
  refine WP.s .n (O.fn fn68 (evs.c rfl evs.nil) (c_mat_Gram 33554432 1048576 b (by first | assumption | decide | (have := hZ.n; omega)) (by first | assumption | decide | (have := hZ.n; omega)) (by first | assumption | decide | (have := hZ.n; omega)))) ?_
  refine WP.s .n (O.mv rfl) ?_
  refine WP.s .n (O.ext rfl rfl) ?_
  refine WP.s .n (O.ext rfl rfl) ?_
  refine WP.s .n (O.asg rfl) ?_
  refine WP.s .n (O.asg rfl) ?_
  refine WP.nil ?_
  refine QE.next ?_
  refine CW.seq ?_
  have hG := gramV_Sz hb hc
  have hGs := hG.sm (by decide)
  refine CW.region ?_
  refine WP.s .n (O.mv rfl) ?_
  refine WP.s .n (O.fn fn55 (evs.l rfl (slslC_Z (by first | exact hGs | exact hAs)) evs.nil) (c_quad_Data (gramV b))) ?_
  refine WP.s .n (O.mv rfl) ?_
  refine WP.s .n (O.ext rfl rfl) ?_
  refine WP.s .n (O.ext rfl rfl) ?_
  refine WP.al .n z93_pr_sl_C_sl_sl_C_ fun b2 => ?_
  refine WP.t .n (O.stW (l := (kPair (kSl kC) (kSl (kSl kC)))) (u := quadR (gramV b)) 0 rfl rfl rfl ty93 rfl (VP.le_refl _)) ?_
  refine WP.s .n (O.asg rfl) ?_
  refine WP.nil ?_
  refine QE.next ?_
  refine CW.seq ?_
  refine CW.seq ?_
  refine CW.region ?_
  refine WP.s .n (O.mv rfl) ?_
  refine WP.s .n (O.ne rfl rfl) ?_
  refine WP.s .n (O.mv rfl) ?_
  refine WP.splitD 32 rfl (fun h_t32 => ?_) (fun h_t32 => ?_)
  · refine WP.ku (b := true) rfl rfl ?_
    refine WP.ku (b := true) rfl rfl ?_
    refine WP.s .n (O.pickT rfl rfl) ?_
    refine WP.s .n (O.mv rfl) ?_
    refine WP.ku (b := true) rfl rfl ?_
    refine WP.ku (b := true) rfl rfl ?_
    refine WP.s .n (O.pickT rfl rfl) ?_
    refine WP.nil ?_
    refine QE.next ?_
    refine CW.condT rfl ?_
    refine CW.seq ?_
    refine CW.region ?_
    refine WP.s .n (O.asg rfl) ?_
    refine WP.nil ?_
    refine QE.next ?_
    refine CW.ret ?_
    refine QE.thenR ?_
    exact QE.done (.inl rfl) rfl (ResOk.t rfl ResOk.nil) (OImp.sub (List.nil_sublist _)) ⟨rfl, rfl⟩
  · refine WP.s (.g rfl rfl) (O.mv rfl) ?_
    refine WP.s (.g rfl rfl) (O.ne rfl rfl) ?_
    refine WP.s .n (O.pickF rfl rfl) ?_
    refine WP.s .n (O.mv rfl) ?_
    refine WP.splitD 36 rfl (fun h_t36 => ?_) (fun h_t36 => ?_)
    · refine WP.ku (b := true) rfl rfl ?_
      refine WP.ku (b := true) rfl rfl ?_
      refine WP.s .n (O.pickT rfl rfl) ?_
      refine WP.nil ?_
      refine QE.next ?_
      refine CW.condT rfl ?_
      refine CW.seq ?_
      refine CW.region ?_
      refine WP.s .n (O.asg rfl) ?_
      refine WP.nil ?_
      refine QE.next ?_
      refine CW.ret ?_
      refine QE.thenR ?_
      exact QE.done (.inl rfl) rfl (ResOk.t rfl ResOk.nil) (OImp.sub (List.nil_sublist _)) ⟨rfl, rfl⟩
    · refine WP.s (.g rfl rfl) (O.mv rfl) ?_
      refine WP.s (.g rfl rfl) (O.ne rfl rfl) ?_
      refine WP.s .n (O.pickF rfl rfl) ?_
      refine WP.nil ?_
      refine QE.next ?_
      refine CW.condD rfl (fun h_t39 => ?_) (fun h_t39 => ?_)
      · refine CW.seq ?_
        refine CW.region ?_
        refine WP.s .n (O.asg rfl) ?_
        refine WP.nil ?_
        refine QE.next ?_
        refine CW.ret ?_
        refine QE.thenR ?_
        exact QE.done (.inl rfl) rfl (ResOk.t rfl ResOk.nil) (OImp.sub (List.nil_sublist _)) ⟨rfl, rfl⟩
      · refine CW.skip ?_
        refine QE.next ?_
        refine CW.seq ?_
        refine CW.seq ?_
        have hE : gsoE b true = 0 := by omega
        have hE2 : quadE (gramV b) = 0 := by omega
        have hF := rows_form hE hE2
        have hZ := basis_of hE
        refine CW.region ?_
        refine WP.s .n (O.fa rfl fld93_0 rfl) ?_
        refine WP.s .n (O.ld rfl (mem_at 1 rfl) (Lens.fst (Lens.id _)) ty27 rfl) ?_
        refine WP.s .n (O.fa rfl fld93_0 rfl) ?_
        refine WP.s .n (O.ld rfl (mem_at 0 rfl) (Lens.fst (Lens.id _)) ty27 rfl) ?_
        refine WP.s .n (O.fn fn58 (evs.c rfl (evs.c rfl evs.nil)) (c_law22_eqs ((gsoR b true).1) ((quadR (gramV b)).1))) ?_
        refine ST.told 44 rfl (is_eq (y := true) (by simp [hF])) ?_
        refine WP.s .n (O.not (a := true) rfl) ?_
        refine WP.s .n (O.mv rfl) ?_
        refine WP.s (.g rfl rfl) (O.fa rfl fld93_1 rfl) ?_
        refine WP.s (.g rfl rfl) (O.ld rfl (mem_at 1 rfl) (Lens.snd (Lens.id _)) ty67 rfl) ?_
        refine WP.s (.g rfl rfl) (O.fa rfl fld93_1 rfl) ?_
        refine WP.s (.g rfl rfl) (O.ld rfl (mem_at 0 rfl) (Lens.snd (Lens.id _)) ty67 rfl) ?_
        refine WP.s (.g rfl rfl) (O.fn fn59 (evs.c rfl (evs.c rfl evs.nil)) (c_law22_eqm ((gsoR b true).2) ((quadR (gramV b)).2))) ?_
        refine ST.told 51 rfl (is_eq (y := true) (by simp [hF])) ?_
        refine WP.s (.g rfl rfl) (O.not (a := true) rfl) ?_
        refine WP.s .n (O.pickF rfl rfl) ?_
        refine WP.nil ?_
        refine QE.next ?_
        refine CW.condF rfl ?_
        refine CW.skip ?_
        refine QE.next ?_
        refine CW.seq ?_
        refine CW.region ?_
        refine WP.s .n (O.mv rfl) ?_
        refine WP.s .n (O.mv rfl) ?_
        refine WP.s .n (O.fn fn69 (evs.c rfl (evs.c rfl evs.nil)) (c_mat_Combine 33554432 x b (by first | assumption | decide | (have := hZ.n; omega)) (by first | assumption | decide | (have := hZ.n; omega)) (by first | assumption | decide | (have := hZ.n; omega)))) ?_
        refine WP.s .n (O.mv rfl) ?_
        refine WP.s .n (O.ext rfl rfl) ?_
        refine WP.s .n (O.ext rfl rfl) ?_
        refine WP.s .n (O.asg rfl) ?_
        refine WP.s .n (O.asg rfl) ?_
        refine WP.nil ?_
        refine QE.next ?_
        refine CW.seq ?_
        refine CW.region ?_
        refine WP.s .n (O.mv rfl) ?_
        refine WP.s .n (O.mv rfl) ?_
        refine WP.s .n (O.fn fn53 (evs.l rfl (slslC_Z (by first | exact hGs | exact hAs)) (evs.c rfl evs.nil)) (c_quad_Value 33554432 (gramV b) x (by first | assumption | decide | (have := hZ.n; omega)) (by first | assumption | decide | (have := hZ.n; omega)))) ?_
        refine WP.s .n (O.mv rfl) ?_
        refine WP.s .n (O.ext rfl rfl) ?_
        refine WP.s .n (O.ext rfl rfl) ?_
        refine WP.al .n z31_C fun b3 => ?_
        refine WP.t .n (O.stW (l := kC) (u := qvalV (gramV b) x) 0 rfl rfl rfl ty31 rfl (VP.le_refl _)) ?_
        refine WP.s .n (O.asg rfl) ?_
        refine WP.nil ?_
        refine QE.next ?_
        refine CW.seq ?_
        have hA : SzL 67108876 (combA x b) := bel_C hZ hx 67108876 (by decide)
        have hAs := hA.sm (by decide)
        by_cases hk : combOk x b
        · refine CW.draw (Γ := [.fr ((kInt .i64).is (combE x b)), .fr (kBool.is false), .fr (kBool.is false), .fr ((kInt .i64).is (qvalE (gramV b) x)), .fr (kBool.is true), .fr (kBool.is true), .fr (kC.is (qvalV (gramV b) x)), .fr ((kSl kC).is (combA x b)), .fr (kC.is (dotV (combA x b) (combA x b))), .fr (kBool.is true), .fr (kBool.is true), .fr (kBool.is true)]) (lates := [false, false, false, false, false, false, false, false, false, false, false, false]) (by kernel_rfl) (Chk.of rfl (by kernel_rfl) rfl) (fun _ _ _ _ _ h => h) (fun q_ x_ h_ => ?_) (fun σ1 => ?_)
          · match q_, h_ with
            | 0, h_ => cases h_; exact Ob.f rfl .n fun N => (O.mv rfl)
            | 1, h_ => cases h_; exact Ob.f rfl .n fun N => (OpOk.le (O.ne rfl rfl) (is_eq (decide_eq_false (by rw [(comb_yes hk).2]; decide))))
            | 2, h_ => cases h_; exact Ob.f rfl .n fun N => (O.mv rfl)
            | 3, h_ => cases h_; exact Ob.f rfl (.g rfl rfl) fun N => (O.mv rfl)
            | 4, h_ => cases h_; exact Ob.f rfl (.g rfl rfl) fun N => (OpOk.le (O.eq rfl rfl) (is_eq (decide_eq_true (qv_3 (a := gramV b) (x := x) h_t39 (by rw [gramV_len hZ.rb]; exact hk.2)).2)))
            | 5, h_ => cases h_; exact Ob.f rfl (.g rfl rfl) fun N => (O.mv rfl)
            | 6, h_ => cases h_; exact Ob.f rfl (.g rfl rfl) fun N => (O.ld rfl (mem_app N (mem_at 0 rfl)) (Lens.id _) ty31 rfl)
            | 7, h_ => cases h_; exact Ob.f rfl (.g rfl rfl) fun N => (O.mv rfl)
            | 8, h_ => cases h_; exact Ob.f rfl (.g rfl rfl) fun N => (O.fn fn70 (evs.l rfl (slC_Z (by first | exact hGs | exact hAs)) evs.nil) (c_mat_Norm 67108876 (combA x b) hA (by have h1 := combA_len x b; have h2 := hZ.c 0; omega)))
            | 9, h_ => cases h_; exact Ob.f rfl (.g rfl rfl) fun N => (OpOk.le (O.fn fn29 (evs.l rfl (kC_I _) (evs.l rfl (kC_I _) evs.nil)) (c_law22_eq (canon (qvalV (gramV b) x)) (canon (dotV (combA x b) (combA x b))))) (is_eq (by rw [(qv_3 (a := gramV b) (x := x) h_t39 (by rw [gramV_len hZ.rb]; exact hk.2)).1, ← (comb_yes hk).1, qval_gram hk]; simp)))
            | 10, h_ => cases h_; exact Ob.f rfl (.g rfl rfl) fun N => (O.pickT rfl rfl)
            | 11, h_ => cases h_; exact Ob.f rfl .n fun N => (O.pickF rfl rfl)
            | n_ + 12, h_ => simp at h_
          refine WP.s .n (O.asg rfl) ?_
          refine WP.nil ?_
          refine QE.next ?_
          refine CW.ret ?_
          exact QE.done (.inl rfl) rfl (ResOk.t rfl ResOk.nil) (OImp.sub (List.nil_sublist _)) ⟨rfl, rfl⟩
        · refine CW.draw (Γ := [.fr ((kInt .i64).is (combE x b)), .fr (kBool.is true), .fr (kBool.is true), .fr (VP.ex undef), .fr (VP.ex undef), .fr (VP.ex undef), .fr (VP.ex undef), .fr (VP.ex undef), .fr (VP.ex undef), .fr (VP.ex undef), .fr (VP.ex undef), .fr (kBool.is true)]) (lates := [false, false, false, false, false, false, false, false, false, false, false, false]) (by kernel_rfl) (Chk.of rfl (by kernel_rfl) rfl) (fun _ _ _ _ _ h => h) (fun q_ x_ h_ => ?_) (fun σ2 => ?_)
          · match q_, h_ with
            | 0, h_ => cases h_; exact Ob.f rfl .n fun N => (O.mv rfl)
            | 1, h_ => cases h_; exact Ob.f rfl .n fun N => (OpOk.le (O.ne rfl rfl) (is_eq (decide_eq_true (by rw [(comb_no hk).2]; decide))))
            | 2, h_ => cases h_; exact Ob.f rfl .n fun N => (O.mv rfl)
            | 3, h_ => cases h_; exact Ob.ku (b := true) rfl rfl rfl
            | 4, h_ => cases h_; exact Ob.ku (b := true) rfl rfl rfl
            | 5, h_ => cases h_; exact Ob.ku (b := true) rfl rfl rfl
            | 6, h_ => cases h_; exact Ob.kk rfl rfl rfl
            | 7, h_ => cases h_; exact Ob.kk rfl rfl rfl
            | 8, h_ => cases h_; exact Ob.kk rfl rfl rfl
            | 9, h_ => cases h_; exact Ob.kk rfl rfl rfl
            | 10, h_ => cases h_; exact Ob.ku (b := true) rfl rfl rfl
            | 11, h_ => cases h_; exact Ob.f rfl .n fun N => (O.pickT rfl rfl)
            | n_ + 12, h_ => simp at h_
          refine WP.s .n (O.asg rfl) ?_
          refine WP.nil ?_
          refine QE.next ?_
          refine CW.ret ?_
          exact QE.done (.inl rfl) rfl (ResOk.t rfl ResOk.nil) (OImp.sub (List.nil_sublist _)) ⟨rfl, rfl⟩

end Fw


/- Plain facts: sizes of what the statements are asked about. -/
set_option linter.unusedVariables false
namespace Fw
open Go

theorem Sz_ZB {z : Int} (h : ZB z) : Sz 33554432 z := by
  obtain ⟨n, hn, h⟩ := ZB_lt h
  exact Sz.up h hn
theorem SzL_ZB {u : List Int} (h : ∀ x ∈ u, ZB x) : SzL 33554432 u := fun i => by
  by_cases hi : i < u.length
  · exact Sz_ZB (h _ (getD_mem 0 hi))
  · rw [List.getD_eq_getElem?_getD, List.getElem?_eq_none (by omega)]; exact Sz.zero _
theorem SzM_ZB {b : List (List Int)} (h : ∀ r ∈ b, r.length ≤ uptoN ∧ ∀ x ∈ r, ZB x) : SzM 33554432 b := fun i => by
  by_cases hi : i < b.length
  · exact SzL_ZB (h _ (getD_mem [] hi)).2
  · rw [List.getD_eq_getElem?_getD, List.getElem?_eq_none (by omega)]; exact SzL.nil _
theorem lenM_ZB {b : List (List Int)} (h : ∀ r ∈ b, r.length ≤ uptoN ∧ ∀ x ∈ r, ZB x) (i : Nat) : (b.getD i []).length ≤ 1048576 := by
  by_cases hi : i < b.length
  · exact (h _ (getD_mem [] hi)).1
  · rw [List.getD_eq_getElem?_getD, List.getElem?_eq_none (by omega)]; simp

end Fw


/- Proved: QuadRows, for every input of bulk at most 1048576; no other condition. -/
set_option linter.unusedVariables false
namespace Go.Proofs.Ytgbafijcklgajaa.quadRows
open Go.ChangeShapes Go.WideShapes Go.ChangeAt Go.RowKit Fw
theorem rd31 : Rd Try.prog 31 kZ ZB := rd_Z (rd_struct (fs := [_, _]) Try.underlying31 (by kernel_rfl) (rdf_cons rfl (by kernel_rfl) (rd_bool Try.underlying4) rfl (rdf_last rfl (by kernel_rfl) (rd_sl Try.underlying29 (by kernel_rfl) (by decide) (rd_limb Try.underlying121)))))
theorem rd27 : Rd Try.prog 27 (kSl kZ) (fun xs => xs.length ≤ uptoN ∧ ∀ x ∈ xs, ZB x) := rd_sl Try.underlying27 (by kernel_rfl) (by decide) rd31
theorem rd67 : Rd Try.prog 67 (kSl (kSl kZ)) (fun xs => xs.length ≤ uptoN ∧ ∀ x ∈ xs, (fun xs => xs.length ≤ uptoN ∧ ∀ x ∈ xs, ZB x) x) := rd_sl Try.underlying67 (by kernel_rfl) (by decide) rd27
theorem own : ownKnob Try.prog.godebug = none := by kernel_rfl
theorem laidOut : laidOutB Try.prog = true := by kernel_rfl
set_option maxRecDepth 100000 in
theorem contract (H : Type) (enc : TypeId × Value → H) (W : World) (base : Nat) (args : Array Value) (ds gs : List (DataW H)) (before : List MemPlace)
    (hval : ∀ (j : Nat) t v, Try.f12.params[j]? = some t → args[j]? = some v → Value.okWide Try.prog W .any base t v)
    (hW : DataW.Whole enc Try.prog Try.f12.params.toList Rows.quadRowsSpec.vars false W args.toList ds gs before) (hk : Rows.uptoSmall H (ds ++ gs) = true) :
    Calls Try.prog 12 args W fun e W' => ∃ v, e = .returned v ∧ Rows.quadRowsSpec.post enc Try.prog Try.f12 false true false false W args v W' := by
  have hW' := hW
  obtain ⟨p, q, hA0, hV, rfl, hfz, hnd⟩ := hW
  have hA : DataW.TrodAll enc Try.prog W 0 (fun _ => true) true Try.f12.params.toList args.toList ds p := hA0
  rw [Try.params12] at hA hval
  obtain ⟨rfl, rfl⟩ := trodVars_none hV
  unfold Rows.uptoSmall at hk
  have hbulk := of_decide_eq_true hk
  rw [List.append_nil] at hbulk
  obtain ⟨v0, vs0, d0, ds0, p0, q0, hargs, rfl, rfl, h0, r0⟩ := trodAll_cons hA
  obtain ⟨v1, vs1, d1, ds1, p1, q1, rfl, rfl, rfl, h1, r1⟩ := trodAll_cons r0
  obtain ⟨rfl, rfl, rfl⟩ := trodAll_nil r1
  obtain rfl : args = [v0, v1].toArray := by cases args; simp_all
  simp only [Rows.uptoBulkAll] at hbulk
  obtain ⟨x0, a0, b0⟩ := arg_sl Try.underlying67 rd67 (hval 0 67 v0 rfl rfl) h0 (by unfold uptoN; omega)
  obtain ⟨x1, a1, b1⟩ := arg_sl Try.underlying27 rd27 (hval 1 27 v1 rfl rfl) h1 (by unfold uptoN; omega)
  refine ((c_law22_QuadRows x0 x1 (SzM_ZB b0.2) (SzL_ZB b1.2) (lenM_ZB b0.2)).calls (vs := [v0, v1]) ⟨a0, a1, trivial⟩).mono fun e W' ⟨he, bel⟩ => ?_
  subst he
  exact ⟨_, rfl, _, _, _, [], _, [], hW', trodAll_mk1 (shut_bool Try.underlying4 _), below_all laidOut bel (by kernel_rfl) hA0 (fun x hx => by simpa using hW'.lt x (by simpa using hx)), rfl, bel.frame _, fun h => by cases h⟩
set_option maxRecDepth 100000 in
theorem lifted (os : Os) (started : os.Started) (H : Type) (enc : TypeId × Value → H) (F : Stop.Interp) :
    ReturnsInHanded {} Try.checked os 12 .any ((Rows.OpenSpec.upto Rows.quadRowsSpec).pre6 enc Try.prog Try.f12 Rows.quadRowsUptoRow.domain false) (((Rows.OpenSpec.upto Rows.quadRowsSpec).at F).post enc Try.prog Try.f12 false true false false) := by
  refine returnsInHanded_of_cond (C := Try.checked) (s := Rows.OpenSpec.upto Rows.quadRowsSpec) (k := Rows.uptoSmall) rfl own started (by kernel_rfl) Try.func12
    (OpenSpec.witness (enc := enc) (C := Try.checked) (s := Rows.OpenSpec.upto Rows.quadRowsSpec) (k := Rows.uptoSmall) rfl false ⟨#[], #[.slice none 0 0, .slice none 0 0], []⟩ 8 (by kernel_rfl) (by kernel_rfl) (by kernel_rfl)
      (x := ([.nil, .nil], [], [])) (by kernel_rfl) rfl (by kernel_rfl)) ?_
  intro W base args ds gs before hval hW _ hk _
  exact contract H enc W base args ds gs before hval hW hk
theorem over : Rows.quadRowsUptoRow.holds Try.pinned (Rows.OpenSpec.upto Rows.quadRowsSpec) :=
  OpenClaim.holds_of_cond 12 Try.f12 rfl rfl rfl rfl rfl rfl rfl ⟨rfl, rfl, rfl, rfl, rfl⟩ rfl rfl rfl rfl rfl (by kernel_rfl) Try.func12 (by kernel_rfl)
    (of_decide_eq_true (by kernel_rfl)) (by unfold Func.isWrapper; first | (rw [if_pos (by decide +kernel)]; kernel_rfl) | (rw [if_neg (by decide +kernel)]; exact ⟨rfl, rfl⟩))
    (fun os started H enc _ F => lifted os started H enc F)
theorem proved : Rows.QuadRowsUptoSaid := over
end Go.Proofs.Ytgbafijcklgajaa.quadRows
